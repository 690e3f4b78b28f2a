/- A part of the proof of EvmLogs: ZEv1. -/
import Derived.Test.YtfflppedbopdpaaGreatZWrd4
import Derived.Test.YtfflppedbopdpaaGreatZSt9
import Derived.Test.YtfflppedbopdpaaGreatZSeq
import Derived.Recover
import Derived.Deep.LoopGhost
set_option linter.unusedVariables false
set_option maxRecDepth 1000000
set_option maxHeartbeats 8000000
set_option linter.unusedSimpArgs false
namespace Go.Mun
open Go.RowKit
def D3 (l:List Nat):List Value:=l.flatMap (A3 32)
@[go_sem,simp] theorem A8r (l:List Nat):(D3 l).length=l.length*32:=by
 induction l with
 | nil=>rfl
 | cons a l ih=>simp [D3] at ih ⊢;omega
theorem A4e (l m:List Nat):D3 (l++m)=D3 l++D3 m:=by simp [D3]
theorem A8q (x:Nat):D3 [x]=A3 32 x:=by simp [D3]
end Go.Mun
namespace Go.Proofs.YtfflppedbopdpaaGreat
open Go.RowKit Go.Mun

theorem A71:P4 Tryz.prog 56 25 (wdV 0) 32 32:=.mk' Tryz.underlying56 (by kernel_rfl) (by rfl) (by decide)
theorem B7z:A1l Tryz.prog 56 25 32 1 (J4 32):=⟨Tryz.underlying56,⟨_,.agg (J4 32).toArray,rfl,by kernel_rfl,by kernel_rfl,by kernel_rfl⟩,by decide,by simp,by decide⟩
def B0u (p:List (Nat × Value)):Option (List Value):=F8 (1*32) ((List.range 1).map fun i=>(i*32,32)) (J4 32) p
theorem B8p (ρ:Operand→Value) (dst:Option Tmp) (x:Operand) (t:TypeId) (pos:String) (after:Array Edge) (gd:Option (Nat × Bool)) (w:World) :
  (execOp ρ ⟨dst,.buildSlice 56 1 #[(0,x)],t,pos,after,gd⟩).run Tryz.prog w=E7 (A4w Tryz.prog 56 25 1 [(0,ρ x)] w (B0u [(0,ρ x)])):=
 A05 ρ dst t pos after gd w B7z [(0,x)]
@[go_sem] theorem B8e (c:List Value) (h:c.length=32):B0u [(0,.agg c.toArray)]=some c:=by
 unfold B0u
 have:lay (J4 32) 0 c=c:=by
  have:=A3D (J4 32) c [] (by simp [h])
  simpa using this
 simp [F8,h,Value.cells,this]
attribute [go_sem ↓] B8p
theorem B9g (ρ:Operand→Value) (dst:Option Tmp) (x y:Operand) (t:TypeId) (pos:String) (after:Array Edge) (gd:Option (Nat × Bool)) (w:World):(execOp ρ ⟨dst,.store 56 x y,t,pos,after,gd⟩).run Tryz.prog w=J9 (A0G Tryz.prog 56 (ρ x) (ρ y) w):=O3 ρ dst x y t pos after gd w (by kernel_rfl)
attribute [go_sem ↓] B9g
theorem B0 {w:World} {base e size n:Nat} {v:Value} {xs:List Value} (h:w.ownsRow base e size v n xs):∀ g,v.ownBlock=some g→g < w.heap.size:=by
 intro g hg
 rcases h.2 with hn | ⟨g',cap,cur,rfl,h1,h2,h3⟩
 ·obtain ⟨rfl,_⟩:=hn;cases hg
 ·cases hg;exact (Array.getElem?_eq_some_iff.1 h2).1
theorem A3j {w:World} {b o n c:Nat} {a:Option Addr} (h:w.cell? ⟨b,o,none⟩=some (.slice a n c)) :
  Calls Tryz.prog 370 #[.pointer (some ⟨b,o,none⟩)] w fun e w'=>e = .returned (.int .i64 n)∧w'=w:=by
 go_enter Tryz.func370,Tryz.ntmps370
 go_wp2
 go_ret
 exact ⟨rfl,rfl⟩
theorem B3C {w:World} {b o:Nat} {sv:Value} {l:List Nat} (x:Nat) (h:w.cell? ⟨b,o,none⟩=some sv) (hf:w.free? b o 1=true) (hr:w.ownsRow 0 25 32 sv l.length (D3 l))
  (hb:∀ g,sv.ownBlock=some g→¬ g=b) (hl:l.length < 1024) :
  Calls Tryz.prog 275 #[.pointer (some ⟨b,o,none⟩),.agg (A3 32 x).toArray] w fun e w'=>e = .returned (.bool true) ∧
   ∃ w1 sv',A0 (fun g=>sv.ownBlock=some g) w w1∧w'=w1.setCell ⟨b,o,none⟩ sv'∧w1.ownsRow 0 25 32 sv' (l++[x]).length (D3 (l++[x]))∧∀ g,sv'.ownBlock=some g→sv.ownBlock=some g∨w.heap.size≤g:=by
 obtain ⟨a,c,rfl⟩:=Q7 hr
 have hbl:b < w.heap.size:=C1 hf
 have hxl:(A3 32 x).length=32:=by simp
 have HLW:Hid (∀ g,(Value.slice a l.length c).ownBlock=some g→g < w.heap.size):=fun g hg=>B0 hr g hg
 obtain ⟨w0,e0⟩:∃ w0,w0=w.alloc (.cells (A3 32 x).toArray 25):=⟨_,rfl⟩
 have o0:A0 (fun _=>False) w w0:=by rw [e0];exact (A0.refl _ _).alloc _
 have hq:w0.cell? ⟨b,o,none⟩=some (.slice a l.length c):=by rw [o0.cell? hbl (fun h=>h)];exact h
 have hx:w0.row? w.heap.size 0 32=some (A3 32 x):=by rw [e0];exact World.row?_alloc_at _ _ _ rfl (by simp)
 have hr0:w0.ownsRow 0 25 32 (.slice a l.length c) l.length (D3 l):=A0.own hr o0 (fun _ _ h=>h)
 have hf0:w0.free? b o 1=true:=by rw [o0.free? hbl (fun h=>h)];exact hf
 have hsz:b < w0.heap.size∧w.heap.size < w0.heap.size:=⟨Nat.lt_of_lt_of_le hbl o0.size,World.row?_lt hx⟩
 have HR0:=hid hr0
 have HO0:=hid o0
 have HF0:=hid hf0
 have HSZ:=hid hsz
 have HE:=hid e0
 have hq':(w.alloc (.cells (A3 32 x).toArray 25)).cell? ⟨b,o,none⟩=some (.slice a l.length c):=by rw [← e0];exact hq
 clear e0 o0 hr0 hr h hf hf0 hsz
 generalize hn:l.length=n at *
 have HN:=hid hn
 clear hn
 obtain ⟨T,hT⟩:∃ T:World→Prop,T=fun w'=>w'.cell? ⟨b,o,none⟩=some (.slice a n c)∧w'.row? w.heap.size 0 32=some (A3 32 x):=⟨_,rfl⟩
 have HT:=hid hT
 have t0:T w0.drew:=by rw [hT];exact ⟨hq,hx⟩
 clear hT
 have hge:¬ (1024:Int)≤n:=by omega
 have hge2:¬ 1024≤n:=by omega
 go_enter Tryz.func275,Tryz.ntmps275
 go_wp2_with fail
 rw [← HE.out]
 clear hq'
 refine A1t T [10] [0,1,2,3,4,5] [6,7,8,9,10] (by kernel_rfl) (by kernel_rfl) t0 ?_
 refine A6 (.pointer (some ⟨b,o,none⟩)) rfl (by rfl) (fun w' hs=>?_) (fun _ _ _ h=>h) ?_
 ·go_simp
 refine A6 (.pointer (some ⟨b,o,none⟩)) rfl (by rfl) (fun w' hs=>?_) (fun _ _ _ h=>h) ?_
 ·go_simp
 refine A6 (.pointer (some ⟨b,o,none⟩)) rfl (by rfl) (fun w' hs=>?_) (fun _ _ _ h=>h) ?_
 ·go_simp
 refine A6 (.pointer (some ⟨b,o,none⟩)) rfl (by rfl) (fun w' hs=>?_) (fun _ _ _ h=>h) ?_
 ·go_simp
 refine A6 (.slice a n c) rfl (by rfl) (fun w' hs=>?_) (fun _ _ _ h=>h) ?_
 ·rw [HT.out] at hs
  obtain ⟨s1,s2⟩:=hs
  go_simp
 refine A6 (.agg (A3 32 x).toArray) rfl (by rfl) (fun w' hs=>?_) (fun _ _ _ h=>h) ?_
 ·rw [HT.out] at hs
  obtain ⟨s1,s2⟩:=hs
  go_simp
 refine P5 ?_
 simp only [Act.put,D7,D6,D5]
 have t1:T (w0.drew.alloc (.cells (A3 32 x).toArray 25)):=by
  rw [HT.out]
  exact ⟨(World.cell?_alloc_lt _ _ _ HSZ.out.1).trans hq,(World.row?_alloc_lt _ HSZ.out.2).trans hx⟩
 refine C5 rfl (fun K hK=>?_)
 go_simp
 refine hK.out _ _ t1 ?_
 clear hK K
 have hr1:(w0.drew.alloc (.cells (A3 32 x).toArray 25)).ownsRow 0 25 32 (.slice a n c) n (D3 l):=A0.own (S:=fun _=>False) HR0.out ((A0.refl _ _).drew.alloc _) (fun _ _ h=>h)
 refine C5 rfl (fun K hK=>?_)
 refine K9 A71 rfl _ _ rfl hr1 rfl (G8.new w0.drew (m:=1) (size:=32) (cs:=A3 32 x) 25 (0,0) (D2 32 x) 1) rfl (by unfold maxLen;omega) (by omega) ?_
 intro sv' w3 hr3 ho3 hl3
 have o13:A0 (fun g=>(Value.slice a n c).ownBlock=some g) w w3:=(((HO0.out.mono (fun _ h=>h.elim)).drew.alloc _).trans ho3 (fun i hi _=>hi))
 have hbn:¬ (Value.slice a n c).ownBlock=some b:=fun e=>hb b e rfl
 have o03:A0 (fun g=>(Value.slice a n c).ownBlock=some g) w0 w3:=((A0.refl _ _).drew.alloc _).trans ho3 (fun i hi _=>hi)
 have hxn:¬ (Value.slice a n c).ownBlock=some w.heap.size:=fun e=>by have:=HLW.out _ e;omega
 have t3:T w3:=by
  rw [HT.out]
  exact ⟨(o03.cell? HSZ.out.1 hbn).trans hq,(o03.row? HSZ.out.2 hxn).trans hx⟩
 have hv3:sv'.oneCell'=true:=by obtain ⟨_,_,rfl⟩:=Q7 hr3;rfl
 have hf3:w3.free? b o 1=true:=by rw [o03.free? HSZ.out.1 hbn];exact HF0.out
 have HA:Hid (∃ w1 sv'',A0 (fun g=>(Value.slice a n c).ownBlock=some g) w w1∧w3.setCell ⟨b,o,none⟩ sv'=w1.setCell ⟨b,o,none⟩ sv''∧w1.ownsRow 0 25 32 sv'' (l++[x]).length (D3 (l++[x]))∧∀ g,sv''.ownBlock=some g→(Value.slice a n c).ownBlock=some g∨w.heap.size≤g):=by
  refine ⟨w3,sv',o13,rfl,?_,fun g hg=>?_⟩
  ·rw [List.length_append,HN.out,A4e,A8q];exact hr3
  ·rcases hl3 g hg with h | h
   ·exact .inl h
   ·have h1:=HSZ.out.2
    have h':w0.heap.size+1≤g:=by first | exact h | simpa using h
    exact .inr (by omega)
 clear hr3 ho3 hl3 o13 o03
 refine hK.out _ _ t3 ?_
 clear hK K
 refine C5 rfl (fun K hK=>?_)
 go_simp
 refine hK.out _ _ t3 ?_
 clear hK K
 refine C5 rfl (fun K hK=>?_)
 go_simp
 refine hK.out _ _ t3 ?_
 clear hK K
 refine A7k rfl (by decide) (fun K hK=>?_)
 go_simp
 refine hK.out _ _ (V4 ?_)
 clear hK K
 generalize w3.setCell ⟨b,o,none⟩ sv'=w4 at *
 go_wp2
 go_ret
 exact ⟨rfl,HA.out⟩
end Go.Proofs.YtfflppedbopdpaaGreat
namespace Go.Mun
open Go.RowKit
theorem G8.below {w w':World} {ad:Option Addr} {c m size:Nat} {cs:List Value} (h:G8 w ad c m size cs) (hb:Below w.heap.size w w'):G8 w' ad c m size cs:=by
 refine ⟨h.ok,fun hm=>?_,h.nil⟩
 obtain ⟨b,off,ha,hc⟩:=h.cell hm
 exact ⟨b,off,ha,fun j u hj=>(hb.cell (p:=⟨b,off+j,none⟩) (World.block_lt_of_cell? w _ (hc j u hj))).trans (hc j u hj)⟩
theorem stkC_at:∀ (l:List Nat) (p:Nat) (x:Nat),l[p]? = some x→((D3 l).drop (p*32)).take 32=A3 32 x
 | y :: l,0,x,h=>by
  simp at h;subst h
  simp [D3]
 | y :: l,p+1,x,h=>by
  have:=stkC_at l p x (by simpa using h)
  rw [show (p+1)*32=32+p*32 by omega,show D3 (y :: l)=A3 32 y++D3 l by simp [D3],← List.drop_drop,List.drop_left' (by simp)]
  exact this
 | [],p,x,h=>by simp at h
theorem A46:∀ (l:List Nat) (p:Nat) (x:Nat),p < l.length→splice (D3 l) (p*32) (A3 32 x)=D3 (l.set p x)
 | y :: l,0,x,_=>by
  simp [D3,splice]
 | y :: l,p+1,x,h=>by
  have:=A46 l p x (by simpa using h)
  rw [show (p+1)*32=32+p*32 by omega,show D3 (y :: l)=A3 32 y++D3 l by simp [D3],List.set_cons_succ,show D3 (y :: l.set p x)=A3 32 y++D3 (l.set p x) by simp [D3],← this]
  unfold splice
  rw [List.take_append,List.drop_append]
  simp [Nat.add_comm 32,Nat.add_assoc]
  rw [List.take_of_length_le (by simp),List.drop_of_length_le (by simp)]
  simp
 | [],p,x,h=>by simp at h
def A5g (l:List Nat) (k:Nat):List Nat:=(List.range l.length).map fun p=>if p < k∨l.length - 1 - k < p then l.getD (l.length - 1 - p) 0 else l.getD p 0
@[simp] theorem B3W (l:List Nat) (k:Nat):(A5g l k).length=l.length:=by simp [A5g]
theorem A2E (l:List Nat) (k p:Nat) (h:p < l.length):(A5g l k)[p]? = some (if p < k∨l.length - 1 - k < p then l.getD (l.length - 1 - p) 0 else l.getD p 0):=by
 simp [A5g,h]
theorem B2i (l:List Nat):A5g l 0=l:=by
 apply List.ext_getElem?
 intro p
 by_cases h:p < l.length
 ·rw [A2E l 0 p h,if_neg (by omega)];simp [List.getD,List.getElem?_eq_getElem h]
 ·rw [List.getElem?_eq_none (by simp;omega),List.getElem?_eq_none (by omega)]
theorem B2k (l:List Nat) (k:Nat) (h:l.length≤2*k+1):A5g l k=l.reverse:=by
 apply List.ext_getElem?
 intro p
 by_cases hp:p < l.length
 ·rw [A2E l k p hp,List.getElem?_reverse hp]
  split
  ·simp [List.getD,show l.length - 1 - p < l.length by omega]
  ·have:p=l.length - 1 - p:=by omega
   rw [← this];simp [List.getD,hp]
 ·rw [List.getElem?_eq_none (by simp;omega),List.getElem?_eq_none (by simp;omega)]
theorem B2j (l:List Nat) (k:Nat) (h:k < l.length - 1 - k):((A5g l k).set k (l.getD (l.length - 1 - k) 0)).set (l.length - 1 - k) (l.getD k 0)=A5g l (k+1):=by
 apply List.ext_getElem?
 intro p
 by_cases hp:p < l.length
 ·rw [A2E l (k+1) p hp,List.getElem?_set,List.getElem?_set]
  simp only [List.length_set,B3W]
  by_cases h1:l.length - 1 - k=p
  ·rw [if_pos h1,if_pos (by omega),if_pos (by omega)];rw [show l.length - 1 - p=k by omega]
  ·rw [if_neg h1]
   by_cases h2:k=p
   ·rw [if_pos h2,if_pos (by omega),if_pos (by omega),← h2]
   ·rw [if_neg h2,A2E l k p hp]
    congr 1
    by_cases h3:p < k∨l.length - 1 - k < p
    ·rw [if_pos h3,if_pos (by omega)]
    ·rw [if_neg h3,if_neg (by omega)]
 ·rw [List.getElem?_eq_none (by simp;omega),List.getElem?_eq_none (by simp;omega)]
end Go.Mun
namespace Go.Proofs.YtfflppedbopdpaaGreat
open Go.RowKit Go.Mun
theorem B5x (n c:Nat) (p:Addr) (w:World):(binOp .eql 56 (.slice (some p) n c) (.slice none 0 0)).run Tryz.prog w = .ok (.bool false) w:=by kernel_rfl
theorem B3N (w:World):(binOp .eql 56 (.slice none 0 0) (.slice none 0 0)).run Tryz.prog w = .ok (.bool true) w:=by kernel_rfl

theorem A4b (ad:Option Addr) (m c:Nat) (cs:List Value) (hm:m≤1024) (w:World) (hs:G8 w ad c m 32 cs) :
  Calls Tryz.prog 380 #[.slice ad m c] w fun e w' => ∃ v,e = .returned v∧w'.ownsRow 0 25 32 v m cs∧(∀ g,v.ownBlock=some g→w.heap.size≤g)∧Below w.heap.size w w':=by
 cases ad with
 | none =>
  obtain ⟨rfl,rfl⟩:=hs.nil rfl
  have hcs:cs = []:=List.eq_nil_of_length_eq_zero (by simpa using K6 hs.ok)
  subst hcs
  have hq:=B3N w
  clear hs
  go_enter Tryz.func380,Tryz.ntmps380
  go_wp2
  go_ret
  exact ⟨_,rfl,⟨by simp,.inl ⟨rfl,rfl⟩⟩,fun g h=>by simp [Value.ownBlock] at h,Below.refl _ _⟩
 | some p =>
  have hq:=B5x m c p w
  have HS:=hid (hs.below ((Below.refl _ _).alloc (Nat.le_refl _) (.cells #[] 25)))
  have HO:Hid ((w.alloc (.cells #[] 25)).ownsRow 0 25 32 (.slice (some ⟨w.heap.size,0,none⟩) 0 0) 0 []):=D9 (World.ownsRow_lit (e:=25) (size:=32) w #[] 0 (Nat.le_refl _) (by decide) rfl) (Nat.zero_le _)
  clear hs
  go_enter Tryz.func380,Tryz.ntmps380
  go_wp2_with (at_builtin;go_must (refine Z0 A71 rfl _ _ rfl HO.out rfl HS.out rfl ?_ ?_ ?_))
  case refine_1=>unfold maxLen;omega
  case refine_2=>omega
  intro v3 w3 ho3 hg3 hl3
  have H3:Hid (w3.ownsRow 0 25 32 v3 m cs∧(∀ g,v3.ownBlock=some g→w.heap.size≤g)∧Below w.heap.size w w3):=by
   refine ⟨by simpa using ho3,fun g hg=>?_,((Below.refl _ _).alloc (Nat.le_refl _) _).trans (hg3.below (by simp) (fun i hi=>by simp [Value.ownBlock] at hi;omega))⟩
   rcases hl3 g hg with h | h
   ·simp [Value.ownBlock] at h;omega
   ·have h':w.heap.size+1≤g:=by first | exact h | simpa using h
    omega
  clear ho3 hg3 hl3
  go_wp2
  go_ret
  exact ⟨_,rfl,H3.out⟩
structure B8F (w wr:World) (g:Nat) (l:List Nat) (k:Nat):Prop where
 row:wr.row? g 0 (l.length*32)=some (D3 (A5g l k))
 free:wr.free? g 0 (l.length*32)=true
 only:A0 (· = g) w wr
theorem A4Y (ad:Option Addr) (c:Nat) (w:World):Calls Tryz.prog 381 #[.slice ad 0 c] w fun e w'=>e = .returned (.tuple #[])∧w'=w:=by
 go_enter Tryz.func381,Tryz.ntmps381
 go_wp2_with fail
 go_loopw [2,3] (fun i j wr=>i = .int .i64 0∧j = .int .i64 (-1)∧wr=w) (fun i _ _=>0)
 case atStart=>exact ⟨rfl,rfl,rfl⟩
 case round =>
  obtain ⟨rfl,rfl,rfl⟩:=hrel
  go_wp2
  go_end0
  exact ⟨rfl,rfl⟩
theorem A57 (g c:Nat) (l:List Nat) (n:Nat) (hn:n=l.length) (hn0:0 < n) (hn1:n≤1024) (w:World) (hr:w.row? g 0 (l.length*32)=some (D3 l)) (hf:w.free? g 0 (l.length*32)=true) :
  Calls Tryz.prog 381 #[.slice (some ⟨g,0,none⟩) n c] w fun e w'=>e = .returned (.tuple #[])∧w'.row? g 0 (l.length*32)=some (D3 l.reverse)∧A0 (· = g) w w':=by
 have HR0:Hid (B8F w w g l 0):=⟨by rw [B2i];exact hr,hf,A0.refl _ _⟩
 have HN:=hid hn
 clear hr hf hn
 have hwn:IntKind.i64.wrap ((n:Int) - 1)=(n:Int) - 1:=U6 _ (by omega) (by omega)
 go_enter Tryz.func381,Tryz.ntmps381
 go_wp2_with fail
 go_loopw [2,3] (fun i j wr => ∃ k q:Nat,k+q+1=n∧k≤q+1∧i = .int .i64 k∧j = .int .i64 q∧B8F w wr g l k) (fun i _ _=>n - (intOf i).toNat)
 case atStart=>exact ⟨0,n - 1,by omega,by omega,rfl,by go_num,HR0.out⟩
 case round =>
  obtain ⟨k,q,hkq,hkq1,rfl,rfl,hr⟩:=hrel
  have HR:=hid hr
  by_cases hlt:k < q
  ·have hki:(k:Int) < q:=by omega
   have hk:k < n:=by omega
   have hq:q < n:=by omega
   have hkI:(k:Int) < n:=by omega
   have hqI:(q:Int) < n:=by omega
   obtain ⟨x,hx⟩:∃ x,x=l.getD k 0:=⟨_,rfl⟩
   obtain ⟨y,hy⟩:∃ y,y=l.getD q 0:=⟨_,rfl⟩
   have hq2:q=l.length - 1 - k:=by have:=HN.out;omega
   have c1:wr.row? g (k*32) 32=some (A3 32 x):=by
    rw [World.row?_sub hr.row (Nat.zero_le _) (by have:=HN.out;omega),Nat.sub_zero,stkC_at _ k x]
    rw [A2E _ _ _ (by have:=HN.out;omega),if_neg (by omega),hx]
   have c2:wr.row? g (q*32) 32=some (A3 32 y):=by
    rw [World.row?_sub hr.row (Nat.zero_le _) (by have:=HN.out;omega),Nat.sub_zero,stkC_at _ q y]
    rw [A2E _ _ _ (by have:=HN.out;omega),if_neg (by omega),hy]
   have f1:wr.free? g (k*32) 32=true:=World.free?_sub hr.free (by have:=HN.out;omega)
   have f2:wr.free? g (q*32) 32=true:=World.free?_sub hr.free (by have:=HN.out;omega)
   have hl1:(A3 32 x).length=32:=by simp
   have hl2:(A3 32 y).length=32:=by simp
   have ho1:=D2 32 x
   have ho2:=D2 32 y
   have HX:Hid (x=l.getD k 0∧y=l.getD q 0∧q=l.length - 1 - k):=⟨hx,hy,hq2⟩
   clear hr hx hy hq2
   obtain ⟨T,hT⟩:∃ T:World→Prop,T=fun w'=>w'.row? g (k*32) 32=some (A3 32 x)∧w'.row? g (q*32) 32=some (A3 32 y):=⟨_,rfl⟩
   have HT:=hid hT
   have t0:T wr.drew:=by rw [hT];exact ⟨c1,c2⟩
   clear hT
   go_wp2_with fail
   refine A7 T [13,15] (.pure 0 (.pure 1 (.pure 4 (.pure 5 (.pure 6 (.take 7 (.pure 8 (.pure 9 (.pure 10 (.take 11 (.pure 2 (.pure 3 (.pure 12 (.alt 13 (.pure 14 (.alt 15 .fin .stop)) .stop)))))))))))))) (by kernel_rfl) (by kernel_rfl) ?_
   refine A2 (.slice (some ⟨g,0,none⟩) n c) rfl (by rfl) (fun w' hs=>?_) (fun _ _ _ h=>h) ?_
   ·clear hs
    go_simp
   simp only [Act.put,D7,D6,D5]
   refine A2 (.int .i64 k) rfl (by rfl) (fun w' hs=>?_) (fun _ _ _ h=>h) ?_
   ·clear hs
    go_simp
   simp only [Act.put,D7,D6,D5]
   refine A2 (.slice (some ⟨g,0,none⟩) n c) rfl (by rfl) (fun w' hs=>?_) (fun _ _ _ h=>h) ?_
   ·clear hs
    go_simp
   simp only [Act.put,D7,D6,D5]
   refine A2 (.int .i64 q) rfl (by rfl) (fun w' hs=>?_) (fun _ _ _ h=>h) ?_
   ·clear hs
    go_simp
   simp only [Act.put,D7,D6,D5]
   refine A2 (.pointer (some ⟨g,q*32,none⟩)) rfl (by rfl) (fun w' hs=>?_) (fun _ _ _ h=>h) ?_
   ·clear hs
    go_simp
   simp only [Act.put,D7,D6,D5]
   refine A9 (.agg (A3 32 y).toArray) t0 rfl (by rfl) (fun w' hs=>?_) (fun _ _ _ h=>h) ?_
   ·rw [HT.out] at hs
    obtain ⟨s1,s2⟩:=hs
    go_simp
   simp only [Act.put,D7,D6,D5]
   refine A2 (.slice (some ⟨g,0,none⟩) n c) rfl (by rfl) (fun w' hs=>?_) (fun _ _ _ h=>h) ?_
   ·clear hs
    go_simp
   simp only [Act.put,D7,D6,D5]
   refine A2 (.int .i64 k) rfl (by rfl) (fun w' hs=>?_) (fun _ _ _ h=>h) ?_
   ·clear hs
    go_simp
   simp only [Act.put,D7,D6,D5]
   refine A2 (.pointer (some ⟨g,k*32,none⟩)) rfl (by rfl) (fun w' hs=>?_) (fun _ _ _ h=>h) ?_
   ·clear hs
    go_simp
   simp only [Act.put,D7,D6,D5]
   refine A9 (.agg (A3 32 x).toArray) t0 rfl (by rfl) (fun w' hs=>?_) (fun _ _ _ h=>h) ?_
   ·rw [HT.out] at hs
    obtain ⟨s1,s2⟩:=hs
    go_simp
   simp only [Act.put,D7,D6,D5]
   refine A2 (.slice (some ⟨g,0,none⟩) n c) rfl (by rfl) (fun w' hs=>?_) (fun _ _ _ h=>h) ?_
   ·clear hs
    go_simp
   simp only [Act.put,D7,D6,D5]
   refine A2 (.int .i64 q) rfl (by rfl) (fun w' hs=>?_) (fun _ _ _ h=>h) ?_
   ·clear hs
    go_simp
   simp only [Act.put,D7,D6,D5]
   refine A2 (.pointer (some ⟨g,k*32,none⟩)) rfl (by rfl) (fun w' hs=>?_) (fun _ _ _ h=>h) ?_
   ·clear hs
    go_simp
   simp only [Act.put,D7,D6,D5]
   refine J8 rfl (by simp) (fun K hK=>?_)
   go_simp
   refine hK.out _ _ ?_
   clear hK K
   refine A2 (.pointer (some ⟨g,q*32,none⟩)) rfl (by rfl) (fun w' hs=>?_) (fun _ _ _ h=>h) ?_
   ·clear hs
    go_simp
   simp only [Act.put,D7,D6,D5]
   have f2':(wr.drew.setCells g (k*32) (A3 32 y)).free? g (q*32) 32=true:=by rw [World.free?_setCells'];exact f2
   refine J8 rfl (by simp) (fun K hK=>?_)
   go_simp
   refine hK.out _ _ ?_
   clear hK K
   refine C2 ?_
   have HRR:Hid (B8F w ((wr.drew.setCells g (k*32) (A3 32 y)).setCells g (q*32) (A3 32 x)) g l (k+1)):=by
    obtain ⟨hx,hy,hq2⟩:=HX.out
    have hN:=HN.out
    refine ⟨?_,by rw [World.free?_setCells',World.free?_setCells'];exact HR.out.free,((HR.out.only.drew).setCells (fun _=>rfl) _ _).setCells (fun _=>rfl) _ _⟩
    have r1:(wr.drew.setCells g (k*32) (A3 32 y)).row? g 0 (l.length*32)=some (D3 ((A5g l k).set k y)):=by
     rw [World.row?_setCells_in (w:=wr.drew) (L:=D3 (A5g l k)) (k*32) (A3 32 y) HR.out.row (Nat.zero_le _) (by rw [hl2];omega),Nat.sub_zero,A46 _ _ _ (by simp;omega)]
    rw [World.row?_setCells_in (q*32) (A3 32 x) r1 (Nat.zero_le _) (by rw [hl1];omega),Nat.sub_zero,A46 _ _ _ (by simp;omega)]
    rw [← B2j l k (by omega),← hq2,← hx,← hy]
   generalize ew:World.setCells (World.setCells _ _ _ _) _ _ _=w2 at *
   clear ew
   go_wp2_with fail
   go_roundw
   case rel=>exact ⟨k+1,q - 1,by omega,by omega,by go_num,by go_num,HRR.out⟩
   case measure=>simp [intOf];omega
  ·have hki:¬ (k:Int) < q:=by omega
   have H4:Hid (wr.row? g 0 (l.length*32)=some (D3 l.reverse)∧A0 (· = g) w wr):=by
    refine ⟨?_,hr.only⟩
    have:=hr.row
    rw [B2k _ _ (by have:=HN.out;omega)] at this
    exact this
   clear hr
   go_wp2
   go_end0
   exact ⟨rfl,H4.out⟩
end Go.Proofs.YtfflppedbopdpaaGreat
namespace Go.Mun
open Go.RowKit
def Wds (base:Nat) (w:World) (v:Value) (l:List Nat):Prop:=
 ∃ ad c,v = .slice ad l.length c∧l.length≤c∧c≤maxLen∧(l≠[]→∃ g,ad=some ⟨g,0,none⟩∧base≤g∧g < w.heap.size∧w.row? g 0 (l.length*32)=some (D3 l))
theorem J5 {w:World} {base e n size:Nat} {v:Value} {xs:List Value} (h:w.ownsRow base e size v n xs) (hn:0 < n) :
  ∃ g c,v = .slice (some ⟨g,0,none⟩) n c∧base≤g∧n≤c∧c≤maxLen∧w.row? g 0 (n*size)=some xs∧w.free? g 0 (n*size)=true:=by
 rcases h.2 with ⟨rfl,h0⟩ | ⟨g,cap,cur,rfl,hbg,hg,hnc,hcm,hcs,htake⟩
 ·omega
 ·have hle:n*size≤cap*size:=Nat.mul_le_mul_right _ hnc
  refine ⟨g,cap,rfl,hbg,hnc,hcm,?_,?_⟩
  ·unfold World.row?
   rw [hg]
   simp only [Nat.zero_add,List.drop_zero]
   rw [if_pos (by omega)]
   rw [htake]
  ·unfold World.free?
   rw [hg]
   simp;omega
theorem A02:∀ (l:List Nat) (k:Nat),(D3 l).drop (k*32)=D3 (l.drop k)
 | l,0=>by simp
 | [],k+1=>by simp [D3]
 | y :: l,k+1=>by
  rw [show (k+1)*32=32+k*32 by omega,show D3 (y :: l)=A3 32 y++D3 l by simp [D3],← List.drop_drop,List.drop_left' (by simp),A02 l k,List.drop_succ_cons]
theorem A3S:∀ (l:List Nat) (k:Nat),(D3 l).take (k*32)=D3 (l.take k)
 | l,0=>by simp [D3]
 | [],k+1=>by simp [D3]
 | y :: l,k+1=>by
  rw [show (k+1)*32=32+k*32 by omega,show D3 (y :: l)=A3 32 y++D3 l by simp [D3],List.take_append,C4,List.take_of_length_le (by simp),show 32+k*32 - 32=k*32 by omega,A3S l k]
  simp [D3]
theorem B0Z (l:List Nat):Q3 (l.length*32) (D3 l)=true:=by
 induction l with
 | nil=>rfl
 | cons y l ih =>
  have:=D2 32 y
  unfold Q3 at *
  simp only [Bool.and_eq_true,beq_iff_eq] at *
  refine ⟨by simp,?_⟩
  rw [show D3 (y :: l)=A3 32 y++D3 l by simp [D3],List.all_append,this.2,ih.2];rfl
end Go.Mun
namespace Go.Proofs.YtfflppedbopdpaaGreat
open Go.RowKit Go.Mun

theorem A1Z (w:World) (ad:Option Addr) (c:Nat) (l:List Nat) (k:Nat) (hk:k=l.length) (hk2:k≤1024) (hs:G8 w ad c k 32 (D3 l)) :
  Calls Tryz.prog 380 #[.slice ad k c] w fun e w1 => ∃ v,e = .returned v∧Below w.heap.size w w1 ∧
   Calls Tryz.prog 381 #[v] w1 fun e w2=>e = .returned (.tuple #[])∧Below w.heap.size w w2∧Wds w.heap.size w2 v l.reverse:=by
 refine (A4b ad k c (D3 l) hk2 w hs).mono ?_
 rintro e w1 ⟨v,rfl,ho,hg,hb⟩
 refine ⟨v,rfl,hb,?_⟩
 by_cases h0:0 < k
 ·obtain ⟨g,c',rfl,_,hc,hm,hr,hf⟩:=J5 ho h0
  have hgw:=hg g rfl
  refine (A57 g c' l k hk h0 hk2 w1 (by rw [← hk];exact hr) (by rw [← hk];exact hf)).mono ?_
  rintro e w2 ⟨rfl,hr2,ho2⟩
  refine ⟨rfl,hb.trans (ho2.below hb.size (fun i hi=>by rw [hi];exact hgw)),some ⟨g,0,none⟩,c',by simp [hk],by simpa [← hk] using hc,hm,fun _=>⟨g,rfl,hgw,World.row?_lt hr2,by simpa using hr2⟩⟩
 ·obtain rfl:k=0:=by omega
  have hl:l = []:=List.eq_nil_of_length_eq_zero hk.symm
  subst hl
  obtain ⟨a,c',rfl⟩:=Q7 ho
  refine (A4Y a c' w1).mono ?_
  rintro e w2 ⟨rfl,rfl⟩
  refine ⟨rfl,hb,a,c',rfl,Nat.zero_le _,?_,fun h=>absurd rfl h⟩
  rcases ho.2 with ⟨e,_⟩ | ⟨g,cap,cur,e,_,_,_,hcm,_⟩
  ·cases e;exact Nat.zero_le _
  ·cases e;exact hcm
theorem B5p {w:World} {b o:Nat} {sv:Value} {l:List Nat} (k:Nat) (h:w.cell? ⟨b,o,none⟩=some sv) (hf:w.free? b o 1=true) (hr:w.ownsRow 0 25 32 sv l.length (D3 l))
  (hk:k≤l.length) (hl:l.length≤1024) :
  Calls Tryz.prog 372 #[.pointer (some ⟨b,o,none⟩),.int .i64 k] w fun e w' => ∃ v sv' w1,e = .returned (.tuple #[v,.bool true])∧w'=w1.setCell ⟨b,o,none⟩ sv'∧Below w.heap.size w w1 ∧
   Wds w.heap.size w' v (l.reverse.take k)∧w1.ownsRow 0 25 32 sv' (l.take (l.length - k)).length (D3 (l.take (l.length - k)))∧∀ g,sv'.ownBlock=some g→sv.ownBlock=some g:=by
 have hbl:b < w.heap.size:=C1 hf
 have HF:=hid hf
 have HO:=hid hr
 have hlt:¬ (k:Int) < 0:=by omega
 have hrev:(l.drop (l.length - k)).reverse=l.reverse.take k:=by rw [List.reverse_drop];congr 1;omega
 rcases hr.2 with ⟨rfl,h0⟩ | ⟨g,c,cur,rfl,_,_,hnc,hcm,_,_⟩
 ·have hl0:l = []:=List.eq_nil_of_length_eq_zero h0
  subst hl0
  obtain rfl:k=0:=by simpa using hk
  have HT:=hid (A1Z w none 0 [] 0 rfl (by omega) ⟨rfl,fun h=>absurd rfl h,fun _=>⟨rfl,rfl⟩⟩)
  go_enter Tryz.func372,Tryz.ntmps372
  go_wp2_with fail
  refine HT.out.mono ?_
  rintro e w1 ⟨v,rfl,hb1,hcall⟩
  have HC:=hid hcall
  have hq1:w1.cell? ⟨b,o,none⟩=some (.slice none 0 0):=(hb1.cell (p:=⟨b,o,none⟩) hbl).trans h
  have hbl1:b < w1.heap.size:=Nat.lt_of_lt_of_le hbl hb1.size
  clear hcall hb1
  go_wp2_with fail
  refine HC.out.mono ?_
  rintro e w2 ⟨rfl,hb2,hwd⟩
  have hq2:w2.cell? ⟨b,o,none⟩=some (.slice none 0 0):=(hb2.cell (p:=⟨b,o,none⟩) hbl).trans h
  have hf2:w2.free? b o 1=true:=by rw [(C7 hb2).2 _ _ _ hbl];exact hf
  have HB:=hid hb2
  have HW:=hid hwd
  clear hb2 hwd
  go_wp2
  go_ret2
  refine ⟨_,_,w2,rfl,rfl,HB.out,?_,⟨by simp,.inl ⟨rfl,by simp⟩⟩,fun g h=>h⟩
  obtain ⟨ad,c,hv,h1,h2,h3⟩:=HW.out
  exact ⟨ad,c,by simpa using hv,h1,h2,fun hh=>by simp at hh⟩
 ·have hsrc:G8 w (some ⟨g,(l.length - k)*32,none⟩) (c - (l.length - k)) (l.length - (l.length - k)) 32 (D3 (l.drop (l.length - k))):=by
   have hok:=B0Z (l.drop (l.length - k))
   rw [List.length_drop] at hok
   by_cases h0:0 < l.length
   ·obtain ⟨g',c',hv,_,_,_,hrow,_⟩:=J5 hr h0
    cases hv
    refine G8.row ?_ hok _
    rw [World.row?_sub hrow (Nat.zero_le _) (by omega),Nat.sub_zero,A02,List.take_of_length_le (by simp)]
   ·have e0:l.length - (l.length - k)=0:=by omega
    rw [e0] at hok ⊢
    exact ⟨hok,fun h=>absurd rfl h,fun h=>by cases h⟩
  have HT:=hid (A1Z w (some ⟨g,(l.length - k)*32,none⟩) (c - (l.length - k)) (l.drop (l.length - k)) (l.length - (l.length - k)) (by simp) (by omega) hsrc)
  have HTK:Hid (w.ownsRow 0 25 32 (.slice (some ⟨g,0,none⟩) (l.length - k) c) (l.take (l.length - k)).length (D3 (l.take (l.length - k)))):=by
   have:=own_take hr (Nat.sub_le l.length k)
   rw [A3S] at this
   rw [List.length_take,Nat.min_eq_left (Nat.sub_le _ _)]
   exact this
  have HRV:=hid hrev
  clear hr hsrc hrev
  generalize hn:l.length=n at *
  have hwr:IntKind.i64.wrap ((n:Int) - (k:Int))=((n - k:Nat):Int):=by rw [U6 _ (by omega) (by omega)];omega
  have hkn:¬ (n:Int) < k:=by omega
  have hle:n - k≤n:=by omega
  by_cases hcc:c - (n - k)=0
  ·have hk0:k=0:=by omega
   have hcn:c=n:=by omega
   subst hk0
   subst hcn
   have HT2:=hid (A1Z w (some ⟨g,0,none⟩) 0 [] 0 rfl (by omega) ⟨rfl,fun h=>absurd rfl h,fun h=>by cases h⟩)
   have hc0:¬ (c:Int) < 0:=by omega
   clear hcc
   go_enter Tryz.func372,Tryz.ntmps372
   go_wp2_with fail
   refine HT2.out.mono ?_
   rintro e w1 ⟨v,rfl,hb1,hcall⟩
   have HC:=hid hcall
   have hq1:w1.cell? ⟨b,o,none⟩=some (.slice (some ⟨g,0,none⟩) c c):=(hb1.cell (p:=⟨b,o,none⟩) hbl).trans h
   have hbl1:b < w1.heap.size:=Nat.lt_of_lt_of_le hbl hb1.size
   clear hcall hb1
   go_wp2_with fail
   refine HC.out.mono ?_
   rintro e w2 ⟨rfl,hb2,hwd⟩
   have hq2:w2.cell? ⟨b,o,none⟩=some (.slice (some ⟨g,0,none⟩) c c):=(hb2.cell (p:=⟨b,o,none⟩) hbl).trans h
   have hf2:w2.free? b o 1=true:=by rw [(C7 hb2).2 _ _ _ hbl];exact hf
   have HB:=hid hb2
   have HW:=hid hwd
   clear hb2 hwd
   go_wp2
   go_ret2
   refine ⟨_,_,w2,rfl,rfl,HB.out,?_,?_,fun g h=>h⟩
   ·obtain ⟨ad,c',hv,h1,h2,h3⟩:=HW.out
    exact ⟨ad,c',by simpa using hv,by simp,h2,fun hh=>by simp at hh⟩
   ·have:=HTK.out
    exact A0.own (S:=fun _=>False) this (A0.of_below_size HB.out) (fun _ _ h=>h)
  ·have hcc2:¬ c=n - k:=by omega
   go_enter Tryz.func372,Tryz.ntmps372
   go_wp2_with fail
   refine HT.out.mono ?_
   rintro e w1 ⟨v,rfl,hb1,hcall⟩
   have HC:=hid hcall
   have hq1:w1.cell? ⟨b,o,none⟩=some (.slice (some ⟨g,0,none⟩) n c):=(hb1.cell (p:=⟨b,o,none⟩) hbl).trans h
   have hbl1:b < w1.heap.size:=Nat.lt_of_lt_of_le hbl hb1.size
   clear hcall hb1
   go_wp2_with fail
   refine HC.out.mono ?_
   rintro e w2 ⟨rfl,hb2,hwd⟩
   have hq2:w2.cell? ⟨b,o,none⟩=some (.slice (some ⟨g,0,none⟩) n c):=(hb2.cell (p:=⟨b,o,none⟩) hbl).trans h
   have hf2:w2.free? b o 1=true:=by rw [(C7 hb2).2 _ _ _ hbl];exact hf
   have HB:=hid hb2
   have HW:=hid hwd
   clear hb2 hwd
   go_wp2
   go_ret2
   refine ⟨_,_,w2,rfl,rfl,HB.out,?_,?_,fun g h=>h⟩
   ·obtain ⟨ad,c',hv,h1,h2,h3⟩:=HW.out
    rw [HRV.out] at hv h1 h3
    refine ⟨ad,c',by simpa using hv,h1,h2,fun hh=>?_⟩
    obtain ⟨g',e1,e2,e3,e4⟩:=h3 hh
    exact ⟨g',e1,e2,by simpa using e3,by rw [Z3 _ (by omega)];exact e4⟩
   ·have:=HTK.out
    exact A0.own (S:=fun _=>False) this (A0.of_below_size HB.out) (fun _ _ h=>h)
theorem A2H (e':Int) (w:World):Calls Tryz.prog 225 #[.bool true,.int .i64 e'] w fun e w'=>e = .returned (.tuple #[])∧w'=w:=by
 go_enter Tryz.func225,Tryz.ntmps225
 go_wp2
 go_end0
 exact ⟨rfl,rfl⟩
theorem B6w {w:World} {fb:Nat} (gas n:Nat) (hc:w.cell? ⟨fb,136,none⟩=some (.int .i64 gas)) (hf:w.free? fb 136 1=true) (h:n≤gas) (hg:gas≤9223372036854775807) :
  Calls Tryz.prog 200 #[.pointer (some ⟨fb,0,none⟩),.int .i64 n] w fun e w'=>e = .returned (.tuple #[])∧w'=w.setCell ⟨fb,136,none⟩ (.int .i64 ((gas - n:Nat):Int)):=by
 have h':(n:Int)≤gas:=by omega
 have hd:decide ((n:Int)≤gas)=true:=decide_eq_true h'
 have hw:IntKind.i64.wrap ((gas:Int) - n)=((gas - n:Nat):Int):=by rw [U6 _ (by omega) (by omega)];omega
 go_enter Tryz.func200,Tryz.ntmps200
 go_wp2_with fail
 refine (A2H 11 _).mono ?_
 rintro e w1 ⟨rfl,rfl⟩
 go_wp2
 go_end0
 exact ⟨rfl,rfl⟩
theorem B4A {w:World} {fb:Nat} {sv:Value} {l:List Nat} (x:Nat) (h:w.cell? ⟨fb,132,none⟩=some sv) (hf:w.free? fb 132 1=true) (hr:w.ownsRow 0 25 32 sv l.length (D3 l))
  (hb:∀ g,sv.ownBlock=some g→¬ g=fb) (hl:l.length < 1024) :
  Calls Tryz.prog 190 #[.pointer (some ⟨fb,0,none⟩),.agg (A3 32 x).toArray] w fun e w'=>e = .returned (.tuple #[]) ∧
   ∃ w1 sv',A0 (fun g=>sv.ownBlock=some g) w w1∧w'=w1.setCell ⟨fb,132,none⟩ sv'∧w1.ownsRow 0 25 32 sv' (l++[x]).length (D3 (l++[x]))∧∀ g,sv'.ownBlock=some g→sv.ownBlock=some g∨w.heap.size≤g:=by
 have hxl:(A3 32 x).length=32:=by simp
 have hfl:=C1 hf
 have hsl:=B0 hr
 obtain ⟨w0,e0⟩:∃ w0,w0=w.alloc (.cells (A3 32 x).toArray 25):=⟨_,rfl⟩
 have o0:A0 (fun _=>False) w w0.drew:=by rw [e0];exact ((A0.refl _ _).alloc _).drew
 have hx:w0.drew.row? w.heap.size 0 32=some (A3 32 x):=by rw [e0];exact World.row?_alloc_at _ _ _ rfl (by simp)
 have HP:=hid (B3C (w:=w0.drew) (b:=fb) (o:=132) x (by rw [o0.cell? hfl (fun h=>h)];exact h) (by rw [o0.free? hfl (fun h=>h)];exact hf) (A0.own hr o0 (fun _ _ h=>h)) hb hl)
 have HO:=hid o0
 have HE:=hid e0
 have HX:=hid hx
 clear h hf hr hb e0 o0 hx
 obtain ⟨T,hT⟩:∃ T:World→Prop,T=fun w'=>w'.row? w.heap.size 0 32=some (A3 32 x):=⟨_,rfl⟩
 have HT:=hid hT
 have t0:T w0.drew:=by rw [hT];exact HX.out
 clear hT
 go_enter Tryz.func190,Tryz.ntmps190
 go_wp2_with fail
 rw [← HE.out]
 refine A7 T [] (.pure 0 (.pure 1 (.pure 2 (.take 3 (.alt 4 .fin .stop))))) (by kernel_rfl) (by kernel_rfl) ?_
 iterate 2
  refine A2 (.pointer (some ⟨fb,0,none⟩)) rfl (by rfl) (fun w' hs=>?_) (fun _ _ _ h=>h) ?_
  ·clear hs
   go_simp
  simp only [Act.put,D7,D6,D5]
 refine A2 (.pointer (some ⟨fb,132,none⟩)) rfl (by rfl) (fun w' hs=>?_) (fun _ _ _ h=>h) ?_
 ·clear hs
  go_simp
 simp only [Act.put,D7,D6,D5]
 refine A9 (.agg (A3 32 x).toArray) t0 rfl (by rfl) (fun w' hs=>?_) (fun _ _ _ h=>h) ?_
 ·rw [HT.out] at hs
  go_simp
 simp only [Act.put,D7,D6,D5]
 refine A5 rfl (fun K hK=>?_)
 go_simp
 refine HP.out.mono ?_
 rintro e w1 ⟨rfl,w2,sv',ho,rfl,hr',hl'⟩
 have hxn:¬ sv.ownBlock=some w.heap.size:=fun e=>by have:=hsl _ e;omega
 have t1:T (w2.setCell ⟨fb,132,none⟩ sv'):=by
  rw [HT.out];show World.row? _ _ _ _=_
  rw [Z3 (b:=w.heap.size) (b':=fb) _ (by omega),ho.row? (World.row?_lt HX.out) hxn]
  exact HX.out
 have HA:Hid (∃ w1 sv'',A0 (fun g=>sv.ownBlock=some g) w w1∧w2.setCell ⟨fb,132,none⟩ sv'=w1.setCell ⟨fb,132,none⟩ sv''∧w1.ownsRow 0 25 32 sv'' (l++[x]).length (D3 (l++[x]))∧∀ g,sv''.ownBlock=some g→sv.ownBlock=some g∨w.heap.size≤g):=
  ⟨w2,sv',(HO.out.mono (fun _ h=>h.elim)).trans ho (fun i hi _=>hi),rfl,hr',fun g hg=>(hl' g hg).imp id (fun h=>Nat.le_trans HO.out.size h)⟩
 clear ho hr' hl'
 refine hK.out _ _ t1 ?_
 clear hK K
 refine C2 ?_
 generalize w2.setCell ⟨fb,132,none⟩ sv'=w4 at *
 go_wp2
 go_end0
 exact ⟨rfl,HA.out⟩
theorem A8C (p:Addr) (w:World) :
  CallsD Tryz.prog 351 #[.pointer (some p)] .returning w fun e u' w'=>e = .returned (.tuple #[])∧u' = .returning∧w'=w:=by
 refine callsD_of_wpS Tryz.func351 rfl fun c₀ cs hu=>?_
 apply wpS_seq
 apply wpS_region
 simp [wpOpsS,go_sem,recoverD,hu,Tryz.ntmps351,Exit.thenS]
 apply wpS_seq
 apply wpS_region
 simp [wpOpsS,go_sem,Exit.thenS]
 refine wpS_cond (t:=false) (by simp [Act.eval,Array.replicate]) ?_
 simp only [Bool.false_eq_true,if_false]
 refine wpS_of_wp (wp_skip ?_)
 cases c₀
 simp_all [bodyPostS,results,Tryz.results351]
theorem B5n (v:Value) (w:World):(Instr.typeAssert (.iface 282 v) 20 282 true).run Tryz.prog w = .ok (.tuple #[v,.bool true]) w:=by
 simp [Instr.typeAssert,run_underlying Tryz.underlying282,go_sem,Result.andThen]
def A2f (x:Int):Value:=.iface 282 (.agg #[.int .i64 x])
theorem A9W (b:Nat) (x y:Int) (older:List PanicEntry) (w:World) (hc:w.cell? ⟨b,0,none⟩=some (.int .i64 y)) (hf:w.free? b 0 1=true) :
  CallsD Tryz.prog 351 #[.pointer (some ⟨b,0,none⟩)] (.panicking ({ v:=A2f x,recovered:=false } :: older)) w fun e u' w'=>e = .returned (.tuple #[]) ∧
   u' = .panicking ({ v:=A2f x,recovered:=true } :: older)∧w'=(w.alloc (.cells #[.int .i64 x] 282)).setCell ⟨b,0,none⟩ (.int .i64 x):=by
 have hbl:=World.block_lt_of_cell? w _ hc
 have hta:=B5n (.agg #[.int .i64 x])
 unfold A2f
 refine callsD_of_wpS Tryz.func351 rfl fun c₀ cs hu=>?_
 apply wpS_seq
 apply wpS_region
 simp [wpOpsS,go_sem,recoverD,hu,Tryz.ntmps351,Exit.thenS]
 refine wpS_of_wp ?_
 have ht : #[Value.pointer (some ⟨b,0,none⟩)]++((Array.replicate 16 undef).setIfInBounds 3 (.iface 282 (.agg #[.int .i64 x]))).setIfInBounds 0 (.iface 282 (.agg #[.int .i64 x])) =
  #[Value.pointer (some ⟨b,0,none⟩),.iface 282 (.agg #[.int .i64 x]),undef,undef,.iface 282 (.agg #[.int .i64 x]),undef,undef,undef,undef,undef,undef,undef,undef,undef,undef,undef,undef]:=rfl
 rw [ht]
 clear ht
 go_wp2
 cases c₀
 simp [bodyPostS,results,Tryz.results351]
attribute [local irreducible] wpStill
structure C0W (w:World) (fb eb:Nat):Prop where
 ec:w.cell? ⟨eb,0,none⟩=some (.int .i64 0)
 ef:w.free? eb 0 1=true
 cells:∃ (en:Bool) (nx n c:Nat) (a:Option Addr),w.cell? ⟨fb,140,none⟩=some (.bool en)∧w.cell? ⟨fb,135,none⟩=some (.int .i64 nx)∧w.cell? ⟨fb,130,none⟩=some (.slice a n c)
def B8E (w:World) (fb:Nat):Prop:=∃ (en:Bool) (nx n c:Nat) (a:Option Addr),w.cell? ⟨fb,140,none⟩=some (.bool en)∧w.cell? ⟨fb,135,none⟩=some (.int .i64 nx)∧w.cell? ⟨fb,130,none⟩=some (.slice a n c)∧(en=true∨n≤nx)
theorem B2U (fb K:Nat) (w:World) (R:Nat→World→Prop) (G:Int→World→Prop) (h0:R K (w.alloc (.cells #[.int .i64 0] 38)))
  (hd:∀ k w1,R k w1→R k w1.drew) (hR:∀ k w1,R k w1→C0W w1 fb w.heap.size)
  (hG:∀ x w1,G x w1→w1.cell? ⟨w.heap.size,0,none⟩=some (.int .i64 0)∧w1.free? w.heap.size 0 1=true)
  (hs:∀ k w1 nx a n c,R k w1→w1.cell? ⟨fb,140,none⟩=some (.bool false)→w1.cell? ⟨fb,135,none⟩=some (.int .i64 (nx:Nat))→w1.cell? ⟨fb,130,none⟩=some (.slice a n c)→nx < n →
   Calls Tryz.prog 352 #[.pointer (some ⟨fb,0,none⟩)] w1 fun e w2=>(e = .returned (.tuple #[])∧∃ k',k' < k∧R k' w2)∨∃ x,e = .panicked [{ v:=A2f x,recovered:=false }]∧G x w2) :
  Calls Tryz.prog 297 #[.pointer (some ⟨fb,0,none⟩)] w fun e w'=>(e = .returned (.int .i64 0)∧∃ k w1,R k w1∧B8E w1 fb∧w'=w1.setCell ⟨w.heap.size,0,none⟩ (.int .i64 0)) ∨
   ∃ x w1,e = .returned (.int .i64 x)∧G x w1∧w'=(w1.alloc (.cells #[.int .i64 x] 282)).setCell ⟨w.heap.size,0,none⟩ (.int .i64 x):=by
 have hmf:∀ (fn:Fn) (first cap:Array Value) (w:World),(Instr.makeFunc fn first cap).run Tryz.prog w = .ok (.func fn first cap) w:=fun _ _ _ _=>rfl
 have H0:=hid h0
 have HD:=hid hd
 have HR:=hid hR
 have HS:=hid hs
 have HG:=hid hG
 clear h0 hd hR hs hG
 go_enter_defers Tryz.func297,Tryz.ntmps297
 go_wp2_with fail
 go_loopg [] K (fun k wr=>R k wr)
 case atStart=>exact H0.out
 case round =>
  have HR1:=hid hrel
  have hd':=HD.out _ _ hrel
  have hrr:=HR.out _ _ hd'
  have HR2:=hid hd'
  obtain ⟨en,nx,n,c,a,c0,c1,c2⟩:=hrr.cells
  have hec:=hrr.ec
  have hef:=hrr.ef
  clear hrel hd' hrr
  cases en with
  | true =>
   go_wp2_with fail
   refine F4 (by kernel_rfl) (by kernel_rfl) ?_
   repeat still_step
   refine wpStill_nil ?_
   have HEC:=hid hec
   clear hec
   go_wp2
   refine leaves_cons (f:=351) (args:=#[.pointer (some ⟨w.heap.size,0,none⟩)]) (by simp) (by simp [go_sem]) ?_
   refine (A8C ⟨w.heap.size,0,none⟩ _).mono ?_
   rintro e u' w'' ⟨rfl,rfl,rfl⟩
   have hcs:(wr.setCell ⟨w.heap.size,0,none⟩ (.int .i64 0)).cell? ⟨w.heap.size,0,none⟩=some (.int .i64 0):=World.cell?_setCell_same _ _ _ HEC.out
   simp [Leaves,settle,results,Tryz.results297,go_sem,hcs]
   exact .inl ⟨_,_,HR2.out,⟨_,_,_,_,_,c0,c1,c2,.inl rfl⟩,rfl⟩
  | false =>
   by_cases hlt:nx < n
   ·have hnI:(nx:Int) < n:=by omega
    have hdI:decide ((nx:Int) < n)=true:=decide_eq_true hnI
    go_wp2_with fail
    refine F4 (by kernel_rfl) (by kernel_rfl) ?_
    repeat still_step
    refine wpStill_nil ?_
    go_wp2_with fail
    refine (HS.out _ _ nx a n c HR2.out c0 c1 c2 hlt).mono ?_
    rintro e w2 (⟨rfl,k',hk',hr2⟩ | ⟨x,rfl,hg⟩)
    ·go_wp2_with fail
     go_roundg k'
     case rel=>exact hr2
     case measure=>exact hk'
    ·have hg2:=HG.out _ _ hg
     have HGx:=hid hg
     clear hg
     go_wp2_with fail
     refine leaves_cons (f:=351) (args:=#[.pointer (some ⟨w.heap.size,0,none⟩)]) (by simp) (by simp [go_sem]) ?_
     refine (A9W w.heap.size x 0 [] _ hg2.1 hg2.2).mono ?_
     rintro e u' w'' ⟨rfl,rfl,rfl⟩
     have hbl:w.heap.size < w2.heap.size:=World.block_lt_of_cell? w2 _ hg2.1
     have hcs:((w2.alloc (.cells #[.int .i64 x] 282)).setCell ⟨w.heap.size,0,none⟩ (.int .i64 x)).cell? ⟨w.heap.size,0,none⟩=some (.int .i64 x):=World.cell?_setCell_same _ _ _ (by rw [World.cell?_alloc_past _ _ _ hbl];exact hg2.1)
     simp [Leaves,settle,results,Tryz.results297,go_sem,hcs]
     exact .inr ⟨w2,HGx.out,rfl⟩
   ·have hnI:¬ (nx:Int) < n:=by omega
    have hdI:decide ((nx:Int) < n)=false:=decide_eq_false hnI
    go_wp2_with fail
    refine F4 (by kernel_rfl) (by kernel_rfl) ?_
    repeat still_step
    refine wpStill_nil ?_
    have HEC:=hid hec
    clear hec
    go_wp2
    refine leaves_cons (f:=351) (args:=#[.pointer (some ⟨w.heap.size,0,none⟩)]) (by simp) (by simp [go_sem]) ?_
    refine (A8C ⟨w.heap.size,0,none⟩ _).mono ?_
    rintro e u' w'' ⟨rfl,rfl,rfl⟩
    have hcs:(wr.setCell ⟨w.heap.size,0,none⟩ (.int .i64 0)).cell? ⟨w.heap.size,0,none⟩=some (.int .i64 0):=World.cell?_setCell_same _ _ _ HEC.out
    simp [Leaves,settle,results,Tryz.results297,go_sem,hcs]
    exact .inl ⟨_,_,HR2.out,⟨_,_,_,_,_,c0,c1,c2,.inr (by omega)⟩,rfl⟩
end Go.Proofs.YtfflppedbopdpaaGreat
