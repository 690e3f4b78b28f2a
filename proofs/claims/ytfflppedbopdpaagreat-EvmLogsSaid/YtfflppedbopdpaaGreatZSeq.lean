/- A part of the proof of EvmLogs: ZSeq. -/
import Derived.Test.YtfflppedbopdpaaGreatZLib
import Derived.Deep.RegionHeld3
import Derived.StillTailTactics
set_option linter.unusedVariables false
set_option linter.unusedSimpArgs false
namespace Go.Mun
open Go.RowKit

section
variable {P:Program} {ops:Array Oper} {Q:Exit→Act→World→Prop} {md:Region.Mode} {S:World→Prop} {Z:List Nat}

def B0L (P:Program) (md:Region.Mode) (ops:Array Oper) (Q:Exit→Act→World→Prop) (S:World→Prop) (Z:List Nat):Nat→Array Bool→Act→World→Prop
 | 0,l,a,w=>Region.ready md ops l = []∧Q .normal a w
 | n+1,l,a,w=>(Region.ready md ops l = []→Q .normal a w) ∧
  ∀ i∈Region.ready md ops l,wpOp P ops Q i (fun a' w'=>(i ∉ Z→S w')∧B0L P md ops Q S Z n (l.setIfInBounds i true) a' w') a w
theorem A2y:∀ (n:Nat) (l:Array Bool) (a:Act) (w:World),B0L P md ops Q S Z n l a w→wpAny P md ops Q n l a w
 | 0,_,_,_,h=>h
 | n+1,_,_,_,h=>⟨h.1,fun i hi=>wpOp_mono (fun a' w' k=>A2y n _ a' w' k.2) (h.2 i hi)⟩
theorem A7f {i:Nat} {oi:Oper} {v:Value} (hi:ops[i]? = some oi) (hs:Region.noSelect ops=true) (hQ:∀ c a w,Q (.panic c) (a.put oi.dst v) w→Q (.panic c) a w)
  (hZ:∀ z∈Z,∀ oz,ops[z]? = some oz→∃ e∈oz.after,Region.binds md e=true∧e.on=i) :
  ∀ (n:Nat) (l:Array Bool) (a:Act) (w:World),
   (∀ j oj,ops[j]? = some oj→j≠i→l.getD j true=false→(∀ e∈oj.after,Region.binds md e=true→e.on≠i)→oi.apart ops oj=true) →
   i∈Region.ready md ops l→YieldsIf P ops S oi v a→S w→B0L P md ops Q S Z n (l.setIfInBounds i true) (a.put oi.dst v) w→B0L P md ops Q S Z (n+1) l a w:=by
 have hsel:=Region.noSelect_spec hs
 intro n
 induction n with
 | zero =>
  intro l a w _ hr hy hS H
  refine ⟨fun h0=>(by rw [h0] at hr;cases hr),fun j hj=>?_⟩
  by_cases e:j=i
  ·subst e;exact hy.wpOp hi hS ⟨fun _=>hS,H⟩
  ·have:=ready_mono hj e
   rw [H.1] at this;cases this
 | succ n ih =>
  intro l a w hf hr hy hS H
  refine ⟨fun h0=>(by rw [h0] at hr;cases hr),fun j hj=>?_⟩
  by_cases e:j=i
  ·subst e;exact hy.wpOp hi hS ⟨fun _=>hS,H⟩
  ·obtain ⟨hun,oj,hoj,hall⟩:=mem_ready.1 hj
   have hiun:=(mem_ready.1 hr).1
   have hnot:∀ e∈oj.after,Region.binds md e=true→e.on≠i:=fun e he hb heq=>by
    have h1:=hall e he hb
    rw [heq] at h1
    rcases Nat.lt_or_ge i l.size with h' | h'
    ·simp [h'] at hiun h1;rw [hiun] at h1;cases h1
    ·simp [Array.getElem?_eq_none h'] at h1
   have hjZ:j ∉ Z:=fun hz=>by
    obtain ⟨e,he,hb,hon⟩:=hZ j hz oj hoj
    exact hnot e he hb hon
   have h2:=wpOp_putIf hoj (hf j oj hoj e hun hnot) (fun cs b=>hsel i oi cs b hi) (fun cs b=>hsel j oj cs b hoj) hQ hy (H.2 j (ready_mono hj e))
   refine wpOp_mono (fun a' w' h3=>⟨fun _=>h3.2.1 hjZ,ih (l.setIfInBounds j true) a' w' (fun k ok hk hki hku hno=>?_) (ready_mono hr (Ne.symm e)) h3.1 (h3.2.1 hjZ) ?_⟩) h2
   ·refine hf k ok hk hki ?_ hno
    by_cases hjk:j=k
    ·subst hjk;exact hun
    ·rw [getD_set_ne true hjk] at hku;exact hku
   ·rw [Array.setIfInBounds_comm _ _ e]
    exact h3.2.2

def A3f (P:Program) (ops:Array Oper) (Q:Exit→Act→World→Prop) (S:World→Prop) (Z:List Nat):List Nat→Act→World→Prop
 | [],a,w=>Q .normal a w
 | i :: is,a,w=>wpOp P ops Q i (fun a' w'=>(i ∉ Z→S w')∧A3f P ops Q S Z is a' w') a w
def A6K (md:Region.Mode) (ops:Array Oper):Array Bool→List Nat→Bool
 | l,[]=>(Region.ready md ops l).isEmpty
 | l,i :: is=>(Region.ready md ops l == [i]) && A6K md ops (l.setIfInBounds i true) is
theorem A4y:∀ (is:List Nat) (l:Array Bool) (n:Nat) (a:Act) (w:World),A6K md ops l is=true→is.length≤n→A3f P ops Q S Z is a w→B0L P md ops Q S Z n l a w
 | [],l,0,a,w,hk,_,h=>⟨by simpa [A6K] using hk,h⟩
 | [],l,n+1,a,w,hk,_,h=>⟨fun _=>h,by rw [show Region.ready md ops l = [] by simpa [A6K] using hk];simp⟩
 | i :: is,l,0,a,w,_,hf,_=>by simp at hf
 | i :: is,l,n+1,a,w,hk,hf,h=>by
  simp only [A6K,Bool.and_eq_true,beq_iff_eq] at hk
  refine ⟨fun h0=>(by rw [hk.1] at h0;cases h0),fun j hj=>?_⟩
  rw [hk.1] at hj
  obtain rfl:j=i:=by simpa using hj
  exact wpOp_mono (fun a' w' h'=>⟨h'.1,A4y is _ n a' w' hk.2 (by simpa using hf) h'.2⟩) h
def A1Y (P:Program) (ops:Array Oper) (Q:Exit→Act→World→Prop) (S:World→Prop) (Z:List Nat):List Nat→List Nat→Act→World→Prop
 | [],is,a,w=>A3f P ops Q S Z is a w
 | i :: H,is,a,w => ∃ o v,ops[i]? = some o∧YieldsIf P ops S o v a∧(∀ c a w,Q (.panic c) (a.put o.dst v) w→Q (.panic c) a w)∧A1Y P ops Q S Z H is (a.put o.dst v) w
def zOk (md:Region.Mode) (ops:Array Oper) (i:Nat) (z:Nat):Bool:=match ops[z]? with
 | some oz=>oz.after.any fun e=>Region.binds md e && e.on == i
 | none=>true
def A3G (md:Region.Mode) (ops:Array Oper) (Z:List Nat):Array Bool→List Nat→List Nat→Bool
 | l,[],is=>A6K md ops l is
 | l,i :: H,is=>Region.free md ops l i && (Region.ready md ops l).contains i && Z.all (zOk md ops i) && A3G md ops Z (l.setIfInBounds i true) H is
theorem A24 (hs:Region.noSelect ops=true):∀ (H is:List Nat) (l:Array Bool) (n:Nat) (a:Act) (w:World),S w→A3G md ops Z l H is=true→H.length+is.length≤n→A1Y P ops Q S Z H is a w→B0L P md ops Q S Z n l a w
 | [],is,l,n,a,w,_,hk,hf,h=>A4y is l n a w hk (by simpa using hf) h
 | i :: H,is,l,0,a,w,_,_,hf,_=>by simp at hf
 | i :: H,is,l,n+1,a,w,hS,hk,hf,h=>by
  simp only [A3G,Bool.and_eq_true] at hk
  obtain ⟨o,v,ho,hy,hQ,h⟩:=h
  refine A7f ho hs hQ (fun z hz oz hoz=>?_) n l a w (Region.free_spec ho hk.1.1.1) (by simpa using hk.1.1.2) hy hS (A24 hs H is _ n _ w hS hk.2 (by simp at hf;omega) h)
  have:=List.all_eq_true.1 hk.1.2 z hz
  unfold zOk at this
  rw [hoz] at this
  obtain ⟨e,he,hb⟩:=Array.any_eq_true'.1 this
  simp only [Bool.and_eq_true,beq_iff_eq] at hb
  exact ⟨e,he,hb.1,hb.2⟩
theorem A1t (S:World→Prop) (Z H is:List Nat) {id:Nat} {a:Act} {w:World} (hm:P.follows .mixedOrders=true)
  (hk:(Region.noSelect ops && A3G .any ops Z (Array.replicate ops.size false) H is && decide (H.length+is.length≤ops.size))=true) (hS:S w.drew)
  (h:A1Y P ops Q S Z H is a w.drew):(Code.region id ops true).wp P Q a w:=by
 simp only [Bool.and_eq_true,decide_eq_true_eq] at hk
 exact wp_region_any hm (A2y _ _ _ _ (A24 hk.1.1 H is _ _ a _ hS hk.1.2 hk.2 h))
theorem S8 (S:World→Prop) (H is:List Nat) {id:Nat} {a:Act} {w:World} (hm:P.follows .mixedOrders=true)
  (hk:(Region.noSelect ops && A3G .any ops [] (Array.replicate ops.size false) H is && decide (H.length+is.length≤ops.size))=true) (hS:S w.drew)
  (h:A1Y P ops Q S [] H is a w.drew):(Code.region id ops true).wp P Q a w:=A1t S [] H is hm hk hS h
theorem T8 {i:Nat} {o:Oper} (h:ops.toList[i]? = some o):ops[i]? = some o:=by simpa using h
theorem A6 {i:Nat} {H is:List Nat} {a:Act} {w:World} (v:Value) {o:Oper} (ho:ops.toList[i]? = some o) (hw:Region.wanted o (yielded ops a.tmps)=true) (hr:∀ w,S w→(execOp a.eval o).run P w = .ok (.value v) w)
  (hQ:∀ c a w,Q (.panic c) (a.put o.dst v) w→Q (.panic c) a w) (h:A1Y P ops Q S Z H is (a.put o.dst v) w):A1Y P ops Q S Z (i :: H) is a w:=
 ⟨o,v,T8 ho,.inl ⟨hw,hr⟩,hQ,h⟩
theorem P5 {is:List Nat} {a:Act} {w:World} (h:A3f P ops Q S Z is a w):A1Y P ops Q S Z [] is a w:=h
theorem V4 {a:Act} {w:World} (h:Q .normal a w):A3f P ops Q S Z [] a w:=h
theorem C5 {i:Nat} {is:List Nat} {a:Act} {w:World} {o:Oper} (ho:ops.toList[i]? = some o)
  (h:∀ K':Act→World→Prop,Shut (∀ a w,S w→A3f P ops Q S Z is a w→K' a w)→if Region.wanted o (yielded ops a.tmps)=true then Oper.wp P o a w K' Q else K' (a.put o.dst undef) w):A3f P ops Q S Z (i :: is) a w:=
 wpOp_step (T8 ho) (fun K' hK=>h K' (fun a w hS hW=>hK a w ⟨fun _=>hS,hW⟩))
theorem A7k {i:Nat} {is:List Nat} {a:Act} {w:World} {o:Oper} (ho:ops.toList[i]? = some o) (hz:i∈Z)
  (h:∀ K':Act→World→Prop,Shut (∀ a w,A3f P ops Q S Z is a w→K' a w)→if Region.wanted o (yielded ops a.tmps)=true then Oper.wp P o a w K' Q else K' (a.put o.dst undef) w):A3f P ops Q S Z (i :: is) a w:=
 wpOp_step (T8 ho) (fun K' hK=>h K' (fun a w hW=>hK a w ⟨fun hn=>absurd hz hn,hW⟩))
def A08 (P:Program) (ops:Array Oper) (Q:Exit→Act→World→Prop) (S:World→Prop) (Z:List Nat):List (Bool × Nat)→Act→World→Prop
 | [],a,w=>Q .normal a w
 | (true,i) :: r,a,w => ∃ o v,ops[i]? = some o∧YieldsIf P ops S o v a∧(∀ c a w,Q (.panic c) (a.put o.dst v) w→Q (.panic c) a w)∧S w∧A08 P ops Q S Z r (a.put o.dst v) w
 | (false,i) :: r,a,w=>wpOp P ops Q i (fun a' w'=>(i ∉ Z→S w')∧A08 P ops Q S Z r a' w') a w
def A2p (md:Region.Mode) (ops:Array Oper) (Z:List Nat):Array Bool→List (Bool × Nat)→Bool
 | l,[]=>(Region.ready md ops l).isEmpty
 | l,(true,i) :: r=>Region.free md ops l i && (Region.ready md ops l).contains i && Z.all (zOk md ops i) && A2p md ops Z (l.setIfInBounds i true) r
 | l,(false,i) :: r=>(Region.ready md ops l == [i]) && A2p md ops Z (l.setIfInBounds i true) r
theorem A2e (hs:Region.noSelect ops=true):∀ (r:List (Bool × Nat)) (l:Array Bool) (n:Nat) (a:Act) (w:World),A2p md ops Z l r=true→r.length≤n→A08 P ops Q S Z r a w→B0L P md ops Q S Z n l a w
 | [],l,0,a,w,hk,_,h=>⟨by simpa [A2p] using hk,h⟩
 | [],l,n+1,a,w,hk,_,h=>⟨fun _=>h,by rw [show Region.ready md ops l = [] by simpa [A2p] using hk];simp⟩
 | _ :: _,l,0,a,w,_,hf,_=>by simp at hf
 | (true,i) :: r,l,n+1,a,w,hk,hf,h=>by
  simp only [A2p,Bool.and_eq_true] at hk
  obtain ⟨o,v,ho,hy,hQ,hS,h⟩:=h
  refine A7f ho hs hQ (fun z hz oz hoz=>?_) n l a w (Region.free_spec ho hk.1.1.1) (by simpa using hk.1.1.2) hy hS (A2e hs r _ n _ w hk.2 (by simpa using hf) h)
  have:=List.all_eq_true.1 hk.1.2 z hz
  unfold zOk at this
  rw [hoz] at this
  obtain ⟨e,he,hb⟩:=Array.any_eq_true'.1 this
  simp only [Bool.and_eq_true,beq_iff_eq] at hb
  exact ⟨e,he,hb.1,hb.2⟩
 | (false,i) :: r,l,n+1,a,w,hk,hf,h=>by
  simp only [A2p,Bool.and_eq_true,beq_iff_eq] at hk
  refine ⟨fun h0=>(by rw [hk.1] at h0;cases h0),fun j hj=>?_⟩
  rw [hk.1] at hj
  obtain rfl:j=i:=by simpa using hj
  exact wpOp_mono (fun a' w' h'=>⟨h'.1,A2e hs r _ n a' w' hk.2 (by simpa using hf) h'.2⟩) h
theorem A0e (S:World→Prop) (Z:List Nat) (r:List (Bool × Nat)) {id:Nat} {a:Act} {w:World} (hm:P.follows .mixedOrders=true)
  (hk:(Region.noSelect ops && A2p .any ops Z (Array.replicate ops.size false) r && decide (r.length≤ops.size))=true) (h:A08 P ops Q S Z r a w.drew):(Code.region id ops true).wp P Q a w:=by
 simp only [Bool.and_eq_true,decide_eq_true_eq] at hk
 exact wp_region_any hm (A2y _ _ _ _ (A2e hk.1.1 r _ _ a _ hk.1.2 hk.2 h))
theorem Q9 {i:Nat} {r:List (Bool × Nat)} {a:Act} {w:World} (v:Value) {o:Oper} (hS:S w) (ho:ops.toList[i]? = some o) (hw:Region.wanted o (yielded ops a.tmps)=true) (hr:∀ w,S w→(execOp a.eval o).run P w = .ok (.value v) w)
  (hQ:∀ c a w,Q (.panic c) (a.put o.dst v) w→Q (.panic c) a w) (h:A08 P ops Q S Z r (a.put o.dst v) w):A08 P ops Q S Z ((true,i) :: r) a w:=
 ⟨o,v,T8 ho,.inl ⟨hw,hr⟩,hQ,hS,h⟩
theorem A2o {a:Act} {w:World} (h:Q .normal a w):A08 P ops Q S Z [] a w:=h
theorem P7 {i:Nat} {r:List (Bool × Nat)} {a:Act} {w:World} {o:Oper} (ho:ops.toList[i]? = some o)
  (h:∀ K':Act→World→Prop,Shut (∀ a w,S w→A08 P ops Q S Z r a w→K' a w)→if Region.wanted o (yielded ops a.tmps)=true then Oper.wp P o a w K' Q else K' (a.put o.dst undef) w):A08 P ops Q S Z ((false,i) :: r) a w:=
 wpOp_step (T8 ho) (fun K' hK=>h K' (fun a w hS hW=>hK a w ⟨fun _=>hS,hW⟩))
theorem B7Q {i:Nat} {r:List (Bool × Nat)} {a:Act} {w:World} {o:Oper} (ho:ops.toList[i]? = some o) (hz:i∈Z)
  (h:∀ K':Act→World→Prop,Shut (∀ a w,A08 P ops Q S Z r a w→K' a w)→if Region.wanted o (yielded ops a.tmps)=true then Oper.wp P o a w K' Q else K' (a.put o.dst undef) w):A08 P ops Q S Z ((false,i) :: r) a w:=
 wpOp_step (T8 ho) (fun K' hK=>h K' (fun a w hW=>hK a w ⟨fun hn=>absurd hz hn,hW⟩))
theorem A7j (n:Nat) {id:Nat} {a:Act} {w:World} {l:List Oper} (hm:P.follows .mixedOrders=true) (hB:Region.lexTailB .any l.toArray n=true)
  (h:wpStill P l.toArray w.drew (fun a'=>wpList P l.toArray Q (l.drop n) a' w.drew) (l.take n) a):(Code.region id l.toArray true).wp P Q a w:=wp_region_still_tail n hm hB h
theorem F4 {id:Nat} {a:Act} {w:World} {l:List Oper} (hm:P.follows .mixedOrders=true) (hB:Region.lexB .any l.toArray=true)
  (h:wpStill P l.toArray w.drew (fun a'=>Q .normal a' w.drew) l a):(Code.region id l.toArray true).wp P Q a w:=wp_region_still_lit hm hB h
end
end Go.Mun
namespace Go.Mun
open Go.RowKit
theorem D7 {α:Type} (l:List α) (i:Nat) (a:α):l.toArray.setIfInBounds i a=(l.set i a).toArray:=List.setIfInBounds_toArray l i a
theorem D6 {α:Type} (x:α) (l:List α) (a:α):(x :: l).set 0 a=a :: l:=List.set_cons_zero
theorem D5 {α:Type} (x:α) (l:List α) (n:Nat) (a:α):(x :: l).set (n+1) a=x :: l.set n a:=List.set_cons_succ

inductive A1p where
 | fin
 | stop
 | take (i:Nat) (r:A1p)
 | pure (i:Nat) (r:A1p)
 | alt (i:Nat) (r m:A1p)
def A1p.heads:A1p→List Nat
 | .alt i _ m=>i :: m.heads
 | _ => []
section
variable {P:Program} {ops:Array Oper} {Q:Exit→Act→World→Prop} {md:Region.Mode} {S:World→Prop} {Z:List Nat}
def Q6 (P:Program) (ops:Array Oper) (Q:Exit→Act→World→Prop) (S:World→Prop) (Z:List Nat):A1p→Act→World→Prop
 | .fin,a,w=>Q .normal a w
 | .stop,_,_=>True
 | .take i r,a,w => ∃ o v,ops[i]? = some o∧YieldsIf P ops S o v a∧(∀ c a w,Q (.panic c) (a.put o.dst v) w→Q (.panic c) a w)∧S w∧Q6 P ops Q S Z r (a.put o.dst v) w
 | .pure i r,a,w => ∃ o v,ops[i]? = some o∧YieldsIf P ops (fun _=>True) o v a∧(∀ c a w,Q (.panic c) (a.put o.dst v) w→Q (.panic c) a w)∧Q6 P ops Q S Z r (a.put o.dst v) w
 | .alt i r m,a,w=>wpOp P ops Q i (fun a' w'=>(i ∉ Z→S w')∧Q6 P ops Q S Z r a' w') a w∧Q6 P ops Q S Z m a w
def S9 (md:Region.Mode) (ops:Array Oper) (Z:List Nat):A1p→Nat→Bool→Array Bool→Bool
 | .fin,_,top,l=>top && (Region.ready md ops l).isEmpty
 | .stop,_,top,_ => !top
 | .take _ _,0,_,_=>false
 | .take i r,n+1,top,l=>top && Region.free md ops l i && (Region.ready md ops l).contains i && Z.all (zOk md ops i) && S9 md ops Z r n true (l.setIfInBounds i true)
 | .pure _ _,0,_,_=>false
 | .pure i r,n+1,top,l=>top && Region.free md ops l i && (Region.ready md ops l).contains i && S9 md ops Z r n true (l.setIfInBounds i true)
 | .alt _ _ _,0,_,_=>false
 | .alt i r m,n+1,top,l=>(!top || (Region.ready md ops l == i :: m.heads)) && S9 md ops Z r n true (l.setIfInBounds i true) && S9 md ops Z m (n+1) false l
def B0M (P:Program) (md:Region.Mode) (ops:Array Oper) (Q:Exit→Act→World→Prop) (S:World→Prop) (Z:List Nat):Nat→Array Bool→Act→World→Prop
 | 0,l,a,w=>Region.ready md ops l = []∧Q .normal a w
 | n+1,l,a,w=>(Region.ready md ops l = []→Q .normal a w) ∧
  ∀ i∈Region.ready md ops l,wpOp P ops Q i (fun a' w'=>(i ∉ Z→S w→S w')∧B0M P md ops Q S Z n (l.setIfInBounds i true) a' w') a w
theorem A4x:∀ (n:Nat) (l:Array Bool) (a:Act) (w:World),B0M P md ops Q S Z n l a w→wpAny P md ops Q n l a w
 | 0,_,_,_,h=>h
 | n+1,_,_,_,h=>⟨h.1,fun i hi=>wpOp_mono (fun a' w' k=>A4x n _ a' w' k.2) (h.2 i hi)⟩
theorem B3e {i:Nat} {oi:Oper} {v:Value} (hi:ops[i]? = some oi) (hs:Region.noSelect ops=true) (hQ:∀ c a w,Q (.panic c) (a.put oi.dst v) w→Q (.panic c) a w)
  (hZ:∀ z∈Z,∀ oz,ops[z]? = some oz→∃ e∈oz.after,Region.binds md e=true∧e.on=i) :
  ∀ (n:Nat) (l:Array Bool) (a:Act) (w:World),
   (∀ j oj,ops[j]? = some oj→j≠i→l.getD j true=false→(∀ e∈oj.after,Region.binds md e=true→e.on≠i)→oi.apart ops oj=true) →
   i∈Region.ready md ops l→YieldsIf P ops S oi v a→S w→B0M P md ops Q S Z n (l.setIfInBounds i true) (a.put oi.dst v) w→B0M P md ops Q S Z (n+1) l a w:=by
 have hsel:=Region.noSelect_spec hs
 intro n
 induction n with
 | zero =>
  intro l a w _ hr hy hS H
  refine ⟨fun h0=>(by rw [h0] at hr;cases hr),fun j hj=>?_⟩
  by_cases e:j=i
  ·subst e;exact hy.wpOp hi hS ⟨fun _ _=>hS,H⟩
  ·have:=ready_mono hj e
   rw [H.1] at this;cases this
 | succ n ih =>
  intro l a w hf hr hy hS H
  refine ⟨fun h0=>(by rw [h0] at hr;cases hr),fun j hj=>?_⟩
  by_cases e:j=i
  ·subst e;exact hy.wpOp hi hS ⟨fun _ _=>hS,H⟩
  ·obtain ⟨hun,oj,hoj,hall⟩:=mem_ready.1 hj
   have hiun:=(mem_ready.1 hr).1
   have hnot:∀ e∈oj.after,Region.binds md e=true→e.on≠i:=fun e he hb heq=>by
    have h1:=hall e he hb
    rw [heq] at h1
    rcases Nat.lt_or_ge i l.size with h' | h'
    ·simp [h'] at hiun h1;rw [hiun] at h1;cases h1
    ·simp [Array.getElem?_eq_none h'] at h1
   have hjZ:j ∉ Z:=fun hz=>by
    obtain ⟨e,he,hb,hon⟩:=hZ j hz oj hoj
    exact hnot e he hb hon
   have h2:=wpOp_putIf hoj (hf j oj hoj e hun hnot) (fun cs b=>hsel i oi cs b hi) (fun cs b=>hsel j oj cs b hoj) hQ hy (H.2 j (ready_mono hj e))
   refine wpOp_mono (fun a' w' h3=>⟨fun _ _=>h3.2.1 hjZ hS,ih (l.setIfInBounds j true) a' w' (fun k ok hk hki hku hno=>?_) (ready_mono hr (Ne.symm e)) h3.1 (h3.2.1 hjZ hS) ?_⟩) h2
   ·refine hf k ok hk hki ?_ hno
    by_cases hjk:j=k
    ·subst hjk;exact hun
    ·rw [getD_set_ne true hjk] at hku;exact hku
   ·rw [Array.setIfInBounds_comm _ _ e]
    exact h3.2.2

theorem B3f {i:Nat} {oi:Oper} {v:Value} (hi:ops[i]? = some oi) (hs:Region.noSelect ops=true) (hQ:∀ c a w,Q (.panic c) (a.put oi.dst v) w→Q (.panic c) a w) :
  ∀ (n:Nat) (l:Array Bool) (a:Act) (w:World),
   (∀ j oj,ops[j]? = some oj→j≠i→l.getD j true=false→(∀ e∈oj.after,Region.binds md e=true→e.on≠i)→oi.apart ops oj=true) →
   i∈Region.ready md ops l→YieldsIf P ops (fun _=>True) oi v a→B0M P md ops Q S Z n (l.setIfInBounds i true) (a.put oi.dst v) w→B0M P md ops Q S Z (n+1) l a w:=by
 have hsel:=Region.noSelect_spec hs
 intro n
 induction n with
 | zero =>
  intro l a w _ hr hy H
  refine ⟨fun h0=>(by rw [h0] at hr;cases hr),fun j hj=>?_⟩
  by_cases e:j=i
  ·subst e;exact hy.wpOp hi trivial ⟨fun _ hS=>hS,H⟩
  ·have:=ready_mono hj e
   rw [H.1] at this;cases this
 | succ n ih =>
  intro l a w hf hr hy H
  refine ⟨fun h0=>(by rw [h0] at hr;cases hr),fun j hj=>?_⟩
  by_cases e:j=i
  ·subst e;exact hy.wpOp hi trivial ⟨fun _ hS=>hS,H⟩
  ·obtain ⟨hun,oj,hoj,hall⟩:=mem_ready.1 hj
   have hiun:=(mem_ready.1 hr).1
   have hnot:∀ e∈oj.after,Region.binds md e=true→e.on≠i:=fun e he hb heq=>by
    have h1:=hall e he hb
    rw [heq] at h1
    rcases Nat.lt_or_ge i l.size with h' | h'
    ·simp [h'] at hiun h1;rw [hiun] at h1;cases h1
    ·simp [Array.getElem?_eq_none h'] at h1
   have h2:=wpOp_putIf hoj (hf j oj hoj e hun hnot) (fun cs b=>hsel i oi cs b hi) (fun cs b=>hsel j oj cs b hoj) hQ hy (H.2 j (ready_mono hj e))
   refine wpOp_mono (fun a' w' h3=>⟨h3.2.1,ih (l.setIfInBounds j true) a' w' (fun k ok hk hki hku hno=>?_) (ready_mono hr (Ne.symm e)) h3.1 ?_⟩) h2
   ·refine hf k ok hk hki ?_ hno
    by_cases hjk:j=k
    ·subst hjk;exact hun
    ·rw [getD_set_ne true hjk] at hku;exact hku
   ·rw [Array.setIfInBounds_comm _ _ e]
    exact h3.2.2

theorem A44:∀ (m:A1p) (n:Nat) (l:Array Bool) (a:Act) (w:World),
  S9 md ops Z m n false l=true→Q6 P ops Q S Z m a w →
  ∀ j∈m.heads,∃ r n',n=n'+1∧S9 md ops Z r n' true (l.setIfInBounds j true)=true∧wpOp P ops Q j (fun a' w'=>(j ∉ Z→S w')∧Q6 P ops Q S Z r a' w') a w
 | .alt i r m,n+1,l,a,w,hk,h=>by
  intro j hj
  simp only [S9,Bool.and_eq_true] at hk
  simp only [A1p.heads,List.mem_cons] at hj
  rcases hj with rfl | hj
  ·exact ⟨r,n,rfl,hk.1.2,h.1⟩
  ·exact A44 m (n+1) l a w hk.2 h.2 j hj
 | .alt _ _ _,0,_,_,_,hk,_=>by simp [S9] at hk
 | .fin,_,_,_,_,_,_=>by intro j hj;simp [A1p.heads] at hj
 | .stop,_,_,_,_,_,_=>by intro j hj;simp [A1p.heads] at hj
 | .take _ _,_,_,_,_,_,_=>by intro j hj;simp [A1p.heads] at hj
 | .pure _ _,_,_,_,_,_,_=>by intro j hj;simp [A1p.heads] at hj
theorem A01 (hs:Region.noSelect ops=true):∀ (n:Nat) (t:A1p) (l:Array Bool) (a:Act) (w:World),S9 md ops Z t n true l=true→Q6 P ops Q S Z t a w→B0M P md ops Q S Z n l a w
 | 0,.fin,l,a,w,hk,h=>⟨by simpa [S9] using hk,h⟩
 | 0,.take _ _,_,_,_,hk,_=>by simp [S9] at hk
 | 0,.pure _ _,_,_,_,hk,_=>by simp [S9] at hk
 | 0,.alt _ _ _,_,_,_,hk,_=>by simp [S9] at hk
 | _,.stop,_,_,_,hk,_=>by simp [S9] at hk
 | n+1,.fin,l,a,w,hk,h=>⟨fun _=>h,by rw [show Region.ready md ops l = [] by simpa [S9] using hk];simp⟩
 | n+1,.take i r,l,a,w,hk,h=>by
  simp only [S9,Bool.and_eq_true] at hk
  obtain ⟨o,v,ho,hy,hQ,hS,h⟩:=h
  refine B3e ho hs hQ (fun z hz oz hoz=>?_) n l a w (Region.free_spec ho hk.1.1.1.2) (by simpa using hk.1.1.2) hy hS (A01 hs n r _ _ w hk.2 h)
  have:=List.all_eq_true.1 hk.1.2 z hz
  unfold zOk at this
  rw [hoz] at this
  obtain ⟨e,he,hb⟩:=Array.any_eq_true'.1 this
  simp only [Bool.and_eq_true,beq_iff_eq] at hb
  exact ⟨e,he,hb.1,hb.2⟩
 | n+1,.pure i r,l,a,w,hk,h=>by
  simp only [S9,Bool.and_eq_true] at hk
  obtain ⟨o,v,ho,hy,hQ,h⟩:=h
  exact B3f ho hs hQ n l a w (Region.free_spec ho hk.1.1.2) (by simpa using hk.1.2) hy (A01 hs n r _ _ w hk.2 h)
 | n+1,.alt i r m,l,a,w,hk,h=>by
  have hk':=hk
  simp only [S9,Bool.and_eq_true,Bool.not_true,Bool.false_or,beq_iff_eq] at hk
  refine ⟨fun h0=>(by rw [hk.1.1] at h0;cases h0),fun j hj=>?_⟩
  rw [hk.1.1] at hj
  have hf:S9 md ops Z (.alt i r m) (n+1) false l=true:=by
   simp only [S9,Bool.and_eq_true,Bool.not_false,Bool.true_or,true_and]
   exact ⟨hk.1.2,hk.2⟩
  obtain ⟨r',n',e,hk2,h2⟩:=A44 (A1p.alt i r m) (n+1) l a w hf h j hj
  obtain rfl:n=n':=by omega
  exact wpOp_mono (fun a' w' h'=>⟨fun hz _=>h'.1 hz,A01 hs n r' _ a' w' hk2 h'.2⟩) h2
theorem A7 (S:World→Prop) (Z:List Nat) (t:A1p) {id:Nat} {a:Act} {w:World} (hm:P.follows .mixedOrders=true)
  (hk:(Region.noSelect ops && S9 .any ops Z t ops.size true (Array.replicate ops.size false))=true) (h:Q6 P ops Q S Z t a w.drew):(Code.region id ops true).wp P Q a w:=by
 simp only [Bool.and_eq_true] at hk
 exact wp_region_any hm (A4x _ _ _ _ (A01 hk.1 _ t _ a _ hk.2 h))
theorem A9 {i:Nat} {r:A1p} {a:Act} {w:World} (v:Value) {o:Oper} (hS:S w) (ho:ops.toList[i]? = some o) (hw:Region.wanted o (yielded ops a.tmps)=true) (hr:∀ w,S w→(execOp a.eval o).run P w = .ok (.value v) w)
  (hQ:∀ c a w,Q (.panic c) (a.put o.dst v) w→Q (.panic c) a w) (h:Q6 P ops Q S Z r (a.put o.dst v) w):Q6 P ops Q S Z (.take i r) a w:=
 ⟨o,v,T8 ho,.inl ⟨hw,hr⟩,hQ,hS,h⟩
theorem A6A {i:Nat} {r:A1p} {a:Act} {w:World} {o:Oper} (hS:S w) (ho:ops.toList[i]? = some o) (hw:Region.wanted o (yielded ops a.tmps)=false)
  (hQ:∀ c a w,Q (.panic c) (a.put o.dst undef) w→Q (.panic c) a w) (h:Q6 P ops Q S Z r (a.put o.dst undef) w):Q6 P ops Q S Z (.take i r) a w:=
 ⟨o,undef,T8 ho,.inr ⟨hw,rfl⟩,hQ,hS,h⟩
theorem A2 {i:Nat} {r:A1p} {a:Act} {w:World} (v:Value) {o:Oper} (ho:ops.toList[i]? = some o) (hw:Region.wanted o (yielded ops a.tmps)=true) (hr:∀ w,True→(execOp a.eval o).run P w = .ok (.value v) w)
  (hQ:∀ c a w,Q (.panic c) (a.put o.dst v) w→Q (.panic c) a w) (h:Q6 P ops Q S Z r (a.put o.dst v) w):Q6 P ops Q S Z (.pure i r) a w:=
 ⟨o,v,T8 ho,.inl ⟨hw,hr⟩,hQ,h⟩
theorem C2 {a:Act} {w:World} (h:Q .normal a w):Q6 P ops Q S Z .fin a w:=h
theorem P6 {i:Nat} {r m:A1p} {a:Act} {w:World} {o:Oper} (ho:ops.toList[i]? = some o)
  (h:∀ K':Act→World→Prop,Shut (∀ a w,S w→Q6 P ops Q S Z r a w→K' a w)→if Region.wanted o (yielded ops a.tmps)=true then Oper.wp P o a w K' Q else K' (a.put o.dst undef) w)
  (h2:Q6 P ops Q S Z m a w):Q6 P ops Q S Z (.alt i r m) a w:=
 ⟨wpOp_step (T8 ho) (fun K' hK=>h K' (fun a w hS hW=>hK a w ⟨fun _=>hS,hW⟩)),h2⟩
theorem A5 {i:Nat} {r:A1p} {a:Act} {w:World} {o:Oper} (ho:ops.toList[i]? = some o)
  (h:∀ K':Act→World→Prop,Shut (∀ a w,S w→Q6 P ops Q S Z r a w→K' a w)→if Region.wanted o (yielded ops a.tmps)=true then Oper.wp P o a w K' Q else K' (a.put o.dst undef) w):Q6 P ops Q S Z (.alt i r .stop) a w:=
 P6 ho h trivial
theorem J8 {i:Nat} {r:A1p} {a:Act} {w:World} {o:Oper} (ho:ops.toList[i]? = some o) (hz:i∈Z)
  (h:∀ K':Act→World→Prop,Shut (∀ a w,Q6 P ops Q S Z r a w→K' a w)→if Region.wanted o (yielded ops a.tmps)=true then Oper.wp P o a w K' Q else K' (a.put o.dst undef) w):Q6 P ops Q S Z (.alt i r .stop) a w:=
 ⟨wpOp_step (T8 ho) (fun K' hK=>h K' (fun a w hW=>hK a w ⟨fun hn=>absurd hz hn,hW⟩)),trivial⟩
end
end Go.Mun
