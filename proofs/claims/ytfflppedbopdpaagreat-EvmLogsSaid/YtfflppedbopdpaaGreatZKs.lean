/- A part of the proof of EvmLogs: ZKs. -/
import Derived.Test.YtfflppedbopdpaaGreatZWrd4
import Derived.Test.YtfflppedbopdpaaGreatZMap
import Derived.Sort.MapsRangeIn
import Derived.RangeFuncSeq
import Derived.Test.YtfflppedbopdpaaGreatZTy
import Derived.Test.YtfflppedbopdpaaGreatZPlain
import Derived.RangeFuncNested
import Derived.RangeFuncBound
import Derived.RangeFuncCalls
import Derived.RangeFuncLeaves
import Derived.Shelf.Abstract
import Derived.Shelf.RegionOpen
import Derived.WalkKit
import Derived.OwnWalkIn
import Derived.TacticsInMore
import Derived.LoopNIn
import Derived.LoopIn
import Derived.Maps.AppendAt
import Derived.Test.YtfflppedbopdpaaGreatZTy3
import Derived.Test.YtfflppedbopdpaaGreatZEv16
import Derived.Lib.Bytealg
import Derived.Sort.Statements
import Derived.Test.YtfflppedbopdpaaGreatZSeq
import Derived.Sort.Grow
import Derived.Shelf.SlSortCmp.InsertionK
import Derived.Shelf.SlGeneric
import Derived.Shelf.SlSortCmp.NoneTotal
import Derived.Ground.SlsfProg
import Derived.Test.YtfflppedbopdpaaGreatProg
import Derived.Lib.Hide
import Derived.Test.YtfflppedbopdpaaGreatZEv1
import Derived.Test.YtfflppedbopdpaaGreatZRef1
import Derived.Test.YtfflppedbopdpaaGreatZSt2
set_option linter.unusedVariables false
set_option maxRecDepth 1000000
set_option maxHeartbeats 8000000
set_option linter.unusedSimpArgs false
namespace Go.Proofs.YtfflppedbopdpaaGreat
open Go.RowKit Go.Mun

section
variable {w W W':World} {rs:List (Nat × Nat × List Value)} {own:Go.Mun.Own} {sb n:Nat} {S:St}
theorem Y7 (W:World) (Z:List Value) (ty k:Nat) (hz:Z.length=k):(W.alloc (.cells Z.toArray ty)).free? W.heap.size 0 k=true:=World.free?_alloc_at _ _ rfl (by omega)
end
end Go.Proofs.YtfflppedbopdpaaGreat
namespace Go.Mun
open Go.RowKit Go.Maps Go.ChangeMaps Go.MapKept Go.WideShapes
open Go.WideElems (Fit rg pl rd_key rd_val rg_of other_key)

def R0 (_:Value):Option (DataW Unit × List MemPlace):=some (.lit (.bool true),[])
section
variable {β:Type} {ke:Nat→Value} {N:Nat} {ve:β→Value} {w:World} {b:Nat} {L:List (Nat × β)} {P:Program} {k:TypeId}
theorem E1.owns (h:E1 ke N ve w b L) (K:A0q P k ke N) (hn:L.length≤maxLen) :
  ∃ D:DataW Unit,w.ownsMap P k R0 b L.length D∧Maps.size D=L.length∧(∀ kl,Maps.has D kl=true→∃ a∈L.map Prod.fst,keyOf P k (ke a)=some kl)∧∀ a∈L.map Prod.fst,∀ kl,keyOf P k (ke a)=some kl→Maps.has D kl=true:=by
 obtain ⟨es,clock,hb,he,hN,hs⟩:=h
 have hlen:es.size=L.length:=by
  have:=congrArg List.length he
  simpa using this
 have hkey:∀ x∈es.toList,∃ p∈L,x.key=ke p.1:=fun x hx=>by
  have:(x.key,x.val)∈L.map (fun p=>(ke p.1,ve p.2)):=he ▸ List.mem_map.2 ⟨x,hx,rfl⟩
  obtain ⟨p,hp,e⟩:=List.mem_map.1 this
  exact ⟨p,hp,(congrArg Prod.fst e).symm⟩
 have hkey2:∀ p∈L,∃ x∈es.toList,x.key=ke p.1:=fun p hp=>by
  have:(ke p.1,ve p.2)∈es.toList.map (fun e=>(e.key,e.val)):=he ▸ List.mem_map.2 ⟨p,hp,rfl⟩
  obtain ⟨x,hx,e⟩:=List.mem_map.1 this
  exact ⟨x,hx,congrArg Prod.fst e⟩
 have hrd:∀ x∈es.toList,∀ p∈L,x.key=ke p.1→∀ kl,keyOf P k (ke p.1)=some kl→WideElems.rd P k R0 x=some (kl,.lit (.bool true)):=fun x hx p hp e kl hk=>by
  unfold WideElems.rd
  rw [e,hk]
  rfl
 have F:Fit P k R0 es clock:=⟨by rw [hlen];exact hn,hs,fun x hx=>by
  obtain ⟨p,hp,e⟩:=hkey x hx
  obtain ⟨kl,hk⟩:=K.key p.1 (hN p hp)
  exact ⟨_,hrd x hx p hp e kl hk⟩⟩
 refine ⟨_,⟨es,clock,hb,F,by rw [hlen];exact Nat.le_refl _,rfl⟩,?_,?_,?_⟩
 ·simp [Maps.size,length_sorted,hlen]
 ·intro kl hkl
  obtain ⟨q,hq,hqk⟩:=List.any_eq_true.1 hkl
  obtain ⟨x,hx,rfl⟩:=List.mem_map.1 (mem_sorted.1 hq)
  obtain ⟨p,hp,e⟩:=hkey x hx
  obtain ⟨kl',hk⟩:=K.key p.1 (hN p hp)
  have hr:=hrd x hx p hp e kl' hk
  rw [rg_of hr] at hqk
  have:=WideAt.sameKey_eq hqk
  refine ⟨p.1,List.mem_map.2 ⟨p,hp,rfl⟩,?_⟩
  rw [hk];exact congrArg some this
 ·intro a ha kl hk
  obtain ⟨p,hp,rfl⟩:=List.mem_map.1 ha
  obtain ⟨x,hx,e⟩:=hkey2 p hp
  have hr:=hrd x hx p hp e kl hk
  exact List.any_eq_true.2 ⟨rg P k R0 x,mem_sorted.2 (List.mem_map.2 ⟨x,hx,rfl⟩),by rw [rg_of hr];exact WideAt.sameKey_self (K.keyed.key hk)⟩
structure A51 (P:Program) (k:TypeId) (ke:Nat→Value) (N:Nat) (ks:List Nat) (left:Lit→Bool) (ss:List Nat):Prop where
 iff:∀ a∈ks,∀ kl,keyOf P k (ke a)=some kl→(left kl=true↔a ∉ ss)
 sub:∀ a∈ss,a∈ks
 nod:ss.Nodup
 key:∀ kl,left kl=true→∃ a∈ks,keyOf P k (ke a)=some kl
theorem A51.start {ks:List Nat} {left:Lit→Bool} (h1:∀ kl,left kl=true→∃ a∈ks,keyOf P k (ke a)=some kl) (h2:∀ a∈ks,∀ kl,keyOf P k (ke a)=some kl→left kl=true):A51 P k ke N ks left []:=
 ⟨fun a ha kl hk=>⟨fun _=>(by simp),fun _=>h2 a ha kl hk⟩,fun a ha=>(by cases ha),List.nodup_nil,h1⟩
theorem A51.step {ks:List Nat} {left:Lit→Bool} {ss:List Nat} (h:A51 P k ke N ks left ss) (K:A0q P k ke N) (hN:∀ a∈ks,a < N) {x:Value} {kl:Lit} (hx:keyOf P k x=some kl) (hl:left kl=true) :
  ∃ a∈ks,x=ke a∧a ∉ ss∧A51 P k ke N ks (fun z=>left z && !z.sameKey kl) (ss++[a]):=by
 obtain ⟨a,ha,hk⟩:=h.key kl hl
 have hns:a ∉ ss:=(h.iff a ha kl hk).1 hl
 refine ⟨a,ha,K.keyed.inj hx hk,hns,⟨?_,?_,?_,?_⟩⟩
 ·intro a' ha' kl' hk'
  have hiff:kl'.sameKey kl=true↔a'=a:=by
   constructor
   ·intro e
    have e2:=WideAt.sameKey_eq e
    rw [e2] at hk'
    exact K.inj a' a (hN a' ha') (hN a ha) (K.keyed.inj hk' hk)
   ·rintro rfl
    rw [hk] at hk'
    cases hk'
    exact WideAt.sameKey_self (K.keyed.key hk)
  have h1:=h.iff a' ha' kl' hk'
  rw [Bool.and_eq_true,h1,List.mem_append,List.mem_singleton]
  constructor
  ·rintro ⟨h2,h3⟩ h4
   rcases h4 with h4 | h4
   ·exact h2 h4
   ·have:=hiff.2 h4
    rw [this] at h3
    cases h3
  ·intro h2
   refine ⟨fun h3=>h2 (.inl h3),?_⟩
   cases hs:kl'.sameKey kl with
   | false=>rfl
   | true=>exact absurd (.inr (hiff.1 hs)) h2
 ·intro c hc
  rcases List.mem_append.1 hc with h1 | h1
  ·exact h.sub c h1
  ·rw [List.mem_singleton] at h1;rw [h1];exact ha
 ·rw [List.nodup_append]
  refine ⟨h.nod,by simp,?_⟩
  intro x hx y hy
  rw [List.mem_singleton] at hy
  subst hy
  rintro rfl
  exact hns hx
 ·intro kl' hl'
  rw [Bool.and_eq_true] at hl'
  exact h.key kl' hl'.1
theorem A51.perm {ks:List Nat} {left:Lit→Bool} {ss:List Nat} (h:A51 P k ke N ks left ss) (K:A0q P k ke N) (hN:∀ a∈ks,a < N) (hd:ks.Nodup) (hl:∀ kl,left kl=false):ss.Perm ks:=by
 refine (List.perm_ext_iff_of_nodup h.nod hd).2 fun a=>⟨h.sub a,fun ha=>?_⟩
 obtain ⟨kl,hk⟩:=K.key a (hN a ha)
 have:=h.iff a ha kl hk
 rw [hl kl] at this
 by_cases hm:a∈ss
 ·exact hm
 ·exact absurd (this.2 hm) (by simp)
end
end Go.Mun
namespace Go.Proofs.YtfflppedbopdpaaGreat
open Go.RowKit Go.Mun Go.Maps Go.Shelf
theorem A2D (ro:Option Nat) (ρ:Operand→Value) (o:Oper) (P:Program) (w:World) (h:∀ c,o.op≠.defer c):(Oper.semAt ro ρ o).run P w=(execOp ρ o).run P w:=by
 rw [Oper.semAt_eq _ _ _ h]
attribute [local go_sem] Oper.semAt_some
attribute [local go_sem ↓] A2D
attribute [local irreducible] A3 J4
theorem B47 (a:Nat):adV a = .agg (A3 20 a).toArray:=rfl
theorem B6n (F:Fence) (n:Nat) (hF:F.fn 184) (hro:F.round=none) (hn:1≤n) (Bm b nn:Nat) (D:DataW Unit) (ks:List Nat) (w:World)
  (hks:∀ a∈ks,a < wA) (hd:ks.Nodup) (hsz:Maps.size D=ks.length) (h1:∀ kl,Maps.has D kl=true→∃ a∈ks,keyOf Tryz.prog 23 (adV a)=some kl) (h2:∀ a∈ks,∀ kl,keyOf Tryz.prog 23 (adV a)=some kl→Maps.has D kl=true)
  (hBm:Bm < w.heap.size) (hm:w.cell? ⟨Bm,0,none⟩=some (.map (some b))) (hown:w.ownsMap Tryz.prog 23 R0 b nn D) :
  SeqStopsK F n Tryz.prog 184 #[.pointer (some ⟨Bm,0,none⟩)] (fun a:Nat => #[adV a]) KeepsWalks (fun ss=>ss.Perm ks) (fun _=>True) ks.length w:=by
 intro l J Jx W hW hJ hJx hY h0
 have hm':W.cell? ⟨Bm,0,none⟩=some (.map (some b)):=(hW.cell (p:=⟨Bm,0,none⟩) hBm).trans hm
 have hown':W.ownsMap Tryz.prog 23 R0 b nn D:=by
  have hbl:=hown.lt
  obtain ⟨es,clock,hb,Ft,hs,hD⟩:=hown
  exact ⟨es,clock,(hW.block b hbl).trans hb,Ft,hs,hD⟩
 clear hm hown hW
 refine callsIn_of_wp Tryz.func184 rfl hF ?_ hro
 try simp only [Tryz.ntmps184,List.size_toArray,List.length_cons,List.length_nil,Nat.reduceAdd,Nat.reduceSub,Array.replicate_succ,Array.replicate_zero,List.push_toArray,List.append_toArray,List.nil_append,List.cons_append]
 gi_wp2_with (first
  | (gi_at_range;refine wpListIn_range_own _ rfl _ 90 rfl 23 87 A0Z.keyed Tryz.underlying90 _ b nn _ rfl hown' ?_;intro w0 hrg0 hg0 hs0)
  | gi_in)
 try go_frame
 gi_loopw [3] (fun _ wr => ∃ (left:Lit→Bool) (cnt:Nat) (ss:List Nat),wr.ranges Tryz.prog 23 R0 b W.heap.size nn D left cnt∧ss.length+cnt≤Maps.size D∧A51 Tryz.prog 23 adV wA ks left ss∧J ss wr)
  (fun _ wr=>wr.rangeLeft b W.heap.size)
 case atStart =>
  exact ⟨_,_,[],hrg0,by simp,A51.start h1 h2,hJ [] W w0 none h0 hg0 (fun r e=>by cases e)⟩
 case round =>
  obtain ⟨left,cnt,ss,hrg,hcs,hC,hJs⟩:=hrel
  gi_wp2_with (first
   | (gi_at_next;refine wpListIn_next_ranges _ rfl _ rfl 23 A0Z.keyed R0 id id (fun key kl hk=>⟨key,rfl⟩) (fun v _ _=>⟨v,rfl⟩) b W.heap.size nn _ _ _ rfl hrg ?_ ?_)
   | gi_in)
  ·intro hc0 hl0
   gi_wp2
   go_end0
   exact ⟨⟨_,rfl⟩,.inl ⟨ss,hC.perm A0Z hks hd hl0,hJs⟩⟩
  ·intro x c kl yd yp w2 cnt2 hkey hlk hv hat hrg2 hlt hg2 hs2 hen
   obtain ⟨a,ha,hxa,hns,hC2⟩:=hC.step A0Z hks hkey hlk
   obtain rfl:x=adV a:=hxa
   have hJ2:J ss w2:=hJ ss wr w2 (some W.heap.size) hJs hg2 (fun r e=>by cases e;exact ⟨Nat.le_refl _,hrg.iter_walk⟩)
   clear hs2 hv hat
   have hf2:(w2.alloc (.cells (J4 20).toArray 23)).free? w2.heap.size 0 20=true:=World.free?_alloc_at _ _ rfl (by simp [J4])
   have hok:=D2 20 a
   have hlen:=K6 hok
   generalize hw3:(w2.alloc (.cells (J4 20).toArray 23)).setCells w2.heap.size 0 (A3 20 a)=w3
   have hb3:Below w2.heap.size w2 w3:=by rw [← hw3];exact ((Below.refl _ w2).alloc (Nat.le_refl _) _).setCells (Nat.le_refl _) _ _
   have hJ3:J ss w3:=hJ ss w2 w3 none hJ2 ⟨hb3.1,hb3.2,hb3.3,hb3.size,fun k hk _=>hb3.block k hk⟩ (fun r e=>by cases e)
   have hr3:w3.row? w2.heap.size 0 20=some (A3 20 a):=by
    have hz:(J4 20).length=20:=by simp [J4]
    rw [← hw3,World.row?_setCells_lay 0 (A3 20 a) (Nat.le_refl _) (by rw [hlen];exact Nat.le_refl _),World.row?_alloc_at _ _ _ rfl hz]
    show some (lay (J4 20) 0 (A3 20 a))=_
    rw [A19 _ _ (by rw [hlen,hz])]
   obtain ⟨fn,tmps,assign,body,hy,hR⟩:=hY ss a w3 hJ3 (by omega)
   have hk3:KeepsWalks w2 w3:=⟨hb3.size,fun k o h _=>(hb3.block k (Array.getElem?_eq_some_iff.1 h).1).trans h⟩
   simp only [B47] at hy hen ⊢
   gi_wp2
   refine hR.mono ?_
   rintro e W3 (⟨rfl,hJ4,hk4⟩ | ⟨rfl,hJ4⟩)
   ·gi_wp2
    have hrg3:=(hrg2.of_walks hk3).of_walks hk4
    go_roundw
    case rel=>exact ⟨_,cnt2,ss++[a],hrg3,by simp;omega,hC2,hJ4⟩
    case measure=>rw [hrg3.left_eq,hrg.left_eq];exact hlt
   ·gi_wp2
    refine bodyPost_ret (results_none rfl _ _ _) rfl ?_
    exact ⟨⟨_,rfl⟩,.inr ⟨_,trivial,hJ4⟩⟩
end Go.Proofs.YtfflppedbopdpaaGreat
namespace Go.Mun
open Go.RowKit
def X0 (l:List Nat):List Value:=l.flatMap (A3 20)
@[go_sem,simp] theorem B9U (l:List Nat):(X0 l).length=l.length*20:=by
 induction l with
 | nil=>rfl
 | cons a l ih=>simp [X0] at ih ⊢;omega
theorem B3i (l:List Nat) (x:Nat):X0 (l++[x])=X0 l++A3 20 x:=by simp [X0]
theorem Below.asGrown {w w':World} (h:Below w.heap.size w w'):w.grownBy w' none:=⟨h.1,h.2,h.3,h.size,fun k hk _=>h.block k hk⟩
theorem Below.keepsOthers {w w':World} (h:Below w.heap.size w w'):KeepsOthers w w':=⟨h.size,fun k o hk _=>(h.block k (Array.getElem?_eq_some_iff.1 hk).1).trans hk⟩
theorem Below.keepsWalks {w w':World} (h:Below w.heap.size w w'):KeepsWalks w w':=⟨h.size,fun k o hk _=>(h.block k (Array.getElem?_eq_some_iff.1 hk).1).trans hk⟩
theorem B08 (B n:Nat) (L:List Value):_root_.Go.Own (fun (_:Unit) W=>W.row? B 0 n=some L):=by
 intro s X Y row h hg hr
 have hlt:=World.row?_lt h
 refine (World.row?_of_block (hg.block B hlt ?_)).trans h
 intro e
 obtain ⟨o,ho,hc⟩:=hr B e.symm
 obtain ⟨c,t,f,hb,_⟩:=World.row?_inv h
 rw [hb] at ho;cases ho;cases hc
theorem A3L (w:World) (L:List Value) (t:TypeId):∀ j u,L[j]? = some u→(w.alloc (.cells L.toArray t)).cell? ((⟨w.heap.size,0,none⟩:Addr).add j)=some u:=by
 intro j u hj
 have h:=World.alloc_heap_new w (.cells L.toArray t)
 have h2:((⟨w.heap.size,0,none⟩:Addr).add j)=⟨w.heap.size,j,none⟩:=by
  cases j <;> simp [Addr.add]
 rw [h2]
 unfold World.cell?
 simp only [h]
 simpa using hj
theorem Boxed.free {W:World} {B:Nat} {t:TypeId} {v:Value} (h:Boxed W B t v):W.free? B 0 1=true:=by
 unfold Boxed at h
 unfold World.free?
 simp only [h]
 simp
end Go.Mun
namespace Go.Proofs.YtfflppedbopdpaaGreat
open Go.RowKit Go.Mun Go.Maps Go.Shelf
attribute [local go_sem] Oper.semAt_some
attribute [local go_sem ↓] A2D
attribute [local irreducible] A3 J4
theorem C0n:A1l Tryz.prog 150 23 20 1 (J4 20):=⟨Tryz.underlying150,⟨_,.agg (J4 20).toArray,rfl,by kernel_rfl,by kernel_rfl,by kernel_rfl⟩,by decide,by kernel_rfl,by decide⟩
def B4z (p:List (Nat × Value)):Option (List Value):=F8 (1*20) ((List.range 1).map fun i=>(i*20,20)) (J4 20) p
theorem C0J (ρ:Operand→Value) (dst:Option Tmp) (x:Operand) (t:TypeId) (pos:String) (after:Array Edge) (gd:Option (Nat × Bool)) (w:World) :
  (execOp ρ ⟨dst,.buildSlice 150 1 #[(0,x)],t,pos,after,gd⟩).run Tryz.prog w=E7 (A4w Tryz.prog 150 23 1 [(0,ρ x)] w (B4z [(0,ρ x)])):=
 A05 ρ dst t pos after gd w C0n [(0,x)]
theorem zU8_len (n:Nat):(J4 n).length=n:=by unfold J4;simp
@[go_sem] theorem B8Q (c:List Value) (h:c.length=20):B4z [(0,.agg c.toArray)]=some c:=by
 unfold B4z
 have hz:=zU8_len 20
 have:lay (J4 20) 0 c=c:=by
  have:=A3D (J4 20) c [] (by simp [h,hz])
  simpa using this
 simp [F8,h,Value.cells,this]
theorem C0o (ρ:Operand→Value) (dst:Option Tmp) (x y:Operand) (t:TypeId) (pos:String) (after:Array Edge) (gd:Option (Nat × Bool)) (w:World):(execOp ρ ⟨dst,.store 150 x y,t,pos,after,gd⟩).run Tryz.prog w=J9 (A0G Tryz.prog 150 (ρ x) (ρ y) w):=O3 ρ dst x y t pos after gd w (by kernel_rfl)
attribute [go_sem ↓] C0J C0o
theorem B9x:(Tryz.prog.info? 23).map (fun i=>(i.zero,i.size,i.bytes))=some (some (.agg (J4 20).toArray),20,20):=by kernel_rfl
theorem A78 (F:Fence) (n:Nat) (hF:F.fn 270) (hG:F.fn 184) (hro:F.round=none) (hn:3≤n) (Bm:Nat) (ks:List Nat) (w:World) (hN:ks.length≤4000000)
  (hseq:∀ w':World,Below w.heap.size w w'→SeqStopsK F (n - 1) Tryz.prog 184 #[.pointer (some ⟨Bm,0,none⟩)] (fun a:Nat => #[adV a]) KeepsWalks (fun ss=>ss.Perm ks) (fun _=>True) ks.length w') :
  CallsIn F n Tryz.prog 270 #[.slice none 0 0,.func (.func 184) #[] #[.pointer (some ⟨Bm,0,none⟩)]] w fun e W' => ∃ v ss,e = .returned v∧ss.Perm ks∧W'.ownsRow w.heap.size 23 20 v ss.length (X0 ss)∧(v = .slice none 0 0↔ss = [])∧Below w.heap.size w W':=by
 obtain ⟨i0,hi,hz0,hz1,hz2⟩:=info_parts B9x
 have h1:1≤n:=by omega
 refine callsIn_of_wp_marks Tryz.func270 rfl hF ?_ hro
 try simp only [Tryz.ntmps270,List.size_toArray,List.length_cons,List.length_nil,Nat.reduceAdd,Nat.reduceSub,Array.replicate_succ,Array.replicate_zero,List.push_toArray,List.append_toArray,List.nil_append,List.cons_append]
 gi_wp2
 obtain ⟨W0,hW0⟩:∃ W0,w.alloc (.cells #[.slice none 0 0] 150)=W0:=⟨_,rfl⟩
 have hsz:W0.heap.size=w.heap.size+1:=by rw [← hW0];simp
 have hB0:Boxed W0 w.heap.size 150 (.slice none 0 0):=by rw [← hW0];exact Boxed.new _ _ _
 have hBW:Below w.heap.size w W0:=by rw [← hW0];exact (Below.refl _ w).alloc (Nat.le_refl _) _
 rw [hW0]
 have hO1:OwnFrom W0.heap.size (fun (pre:List Nat) W => ∃ v,Boxed W w.heap.size 150 v∧W.ownsRow w.heap.size 23 20 v pre.length (X0 pre)∧(v = .slice none 0 0↔pre = [])):=
  _root_.Go.Own.from (holdsRow_own (β:=List Nat) w.heap.size w.heap.size 150 23 20 (fun pre=>pre.length) X0 (fun pre v=>v = .slice none 0 0↔pre = [])) _
 have hO2:OwnFrom W0.heap.size (fun (_:List Nat) W=>Below w.heap.size w W):=ownFrom_below (Nat.le_refl _) (by rw [hsz];omega)
 have hOI:=OwnFrom.and hO1 hO2
 refine wpIn_rangeFunc_ownH hro h1 (gf:=184) (lb:=#[.pointer (some ⟨Bm,0,none⟩)]) rfl hG (enters_of Tryz.func184 (by kernel_rfl) rfl)
  (hseq W0 hBW) walksK_t walksK_b (Below.refl _ _) (fun _=>rfl)
  (fun pre W=>(∃ v,Boxed W w.heap.size 150 v∧W.ownsRow w.heap.size 23 20 v pre.length (X0 pre)∧(v = .slice none 0 0↔pre = []))∧Below w.heap.size w W)
  (fun _ _ _=>False)
  hOI
  (fun _ _ _ _ _ h _ _=>h)
  ⟨⟨_,hB0,World.ownsRow_nil _ _ _ _,by simp⟩,hBW⟩
  (fun x a' W => ∃ Bx,w.heap.size < Bx∧W.row? Bx 0 20=some (A3 20 x)∧a'={ tmps:=#[.slice none 0 0,.func (.func 184) #[] #[.pointer (some ⟨Bm,0,none⟩)],.pointer (some ⟨w.heap.size,0,none⟩),undef,.slice none 0 0,.pointer (some ⟨Bx,0,none⟩),.func (.func 184) #[] #[.pointer (some ⟨Bm,0,none⟩)],adV x,undef,undef,undef,undef,undef],defers:=[] })
  (fun x a' s X Y row h hg hr=>by
   obtain ⟨Bx,hB,hrow,e⟩:=h
   exact ⟨Bx,hB,B08 Bx 20 _ () X Y row hrow hg (fun r e=>(hr r e).2),e⟩) ?assign ?body ?done ?stop
 case assign =>
  rintro l pre x W K ⟨⟨v,hv,hrow,hnil⟩,hB⟩ hK
  have hf2:(W.alloc (.cells (J4 20).toArray 23)).free? W.heap.size 0 20=true:=World.free?_alloc_at _ _ rfl (by simp [zU8_len])
  have hok:=D2 20 x
  have hlen:=K6 hok
  have hr3:((W.alloc (.cells (J4 20).toArray 23)).setCells W.heap.size 0 (A3 20 x)).row? W.heap.size 0 20=some (A3 20 x):=by
   rw [World.row?_setCells_lay 0 (A3 20 x) (Nat.le_refl _) (by rw [hlen];exact Nat.le_refl _),World.row?_alloc_at _ _ _ rfl (zU8_len 20)]
   show some (lay (J4 20) 0 (A3 20 x))=_
   rw [A19 _ _ (by rw [hlen,zU8_len])]
  have hb3:Below W.heap.size W ((W.alloc (.cells (J4 20).toArray 23)).setCells W.heap.size 0 (A3 20 x)):=((Below.refl _ W).alloc (Nat.le_refl _) _).setCells (Nat.le_refl _) _ _
  simp only [B47] at hK ⊢
  gi_wp2
  refine hK _ _ ((Below.keepsOthers hb3).from _) (Below.keepsWalks hb3) ⟨⟨v,?_,?_,hnil⟩,?_⟩ ⟨_,?_,hr3,rfl⟩
  ·exact Boxed.kept hv (Below.asGrown hb3) (by simp)
  ·exact hrow.kept (Below.asGrown hb3) (by cases v.ownBlock <;> simp)
  ·exact hB.trans (hb3.mono hB.size)
  ·exact Nat.lt_of_lt_of_le hv.lt (Nat.le_refl _)
 case body =>
  rintro l pre x a' W hl _ ⟨⟨v,hv,hrow,hnil⟩,hB⟩ ⟨Bx,hBx,hrx,rfl⟩ hlt
  have hvc:=hv.cell
  have hok:=D2 20 x
  have hlen:=K6 hok
  have hsW:=hB.size
  gi_wp2_with (gi_at_builtin;go_must (refine wpListIn_append_own _ rfl _ _ 150 rfl w.heap.size 23 i0 _ 20 20 Tryz.underlying150 hi hz0 hz1 hz2 (by simp [Value.cells,zU8_len]) (by decide) _ _ _ rfl (hrow.alloc _) ⟨W.heap.size,0,none⟩ 1 1 (A3 20 x) rfl (by rw [hlen]) (A3L _ _ _) (M9 hok) (by unfold maxLen;omega) (by omega) (by simp;omega) ?_);intro v' w1 hown' hgrow _;obtain ⟨g',cap',rfl⟩:=ownsRow_succ hown';obtain ⟨hv1,hv2,hr2,hk2,hb2⟩:=hv.appended (by decide) hrow hB.size (Nat.le_refl _) hown' hgrow;have hc1:=hv1.cell;have hf1:=Boxed.free hv1)
  refine ⟨hk2.from _,hk2.walks,⟨⟨_,hv2,?_,?_⟩,?_⟩⟩
  ·rw [B3i];simpa using hr2
  ·simp
  ·exact hB.trans hb2
 case done =>
  rintro D xs W hD hp ⟨⟨v,hv,hrow,hnil⟩,hB⟩ hK
  have hvc:=hv.cell
  gi_wp2
  refine ⟨by simp,.inl ⟨_,_,rfl,run_takeDeferred hK,?_⟩⟩
  refine ⟨_,results_tmp rfl _ _ _,v,xs,rfl,hp,ownsRow_putObj hrow _ hK rfl,hnil,hB.trans (belowK_b (w:=w) (Nat.le_refl _) W D _ _ (by omega) hK rfl rfl)⟩
 case stop =>
  rintro D c pre W hD _ h _
  exact h.elim
end Go.Proofs.YtfflppedbopdpaaGreat
namespace Go.Mun
open Go.RowKit

def A2U:List UInt8→Nat
 | []=>0
 | x :: l=>x.toNat*256 ^ l.length+A2U l
theorem A3z:∀ l:List UInt8,A2U l < 256 ^ l.length
 | []=>by simp [A2U]
 | x :: l=>by
  have h1:x.toNat < 256:=x.toNat_lt
  have h2:=A3z l
  have h3:x.toNat*256 ^ l.length≤255*256 ^ l.length:=Nat.mul_le_mul_right _ (by omega)
  simp only [A2U,List.length_cons,Nat.pow_succ]
  omega
theorem B9C:∀ (A B:List UInt8),A.length=B.length→Lib.compareBytes A B=if A2U A < A2U B then -1 else if A2U B < A2U A then 1 else 0
 | [],[],_=>by simp [Lib.compareBytes,A2U]
 | [],_ :: _,h=>by simp at h
 | _ :: _,[],h=>by simp at h
 | x :: A,y :: B,h=>by
  have hl:A.length=B.length:=by simpa using h
  have ha:=A3z A
  have hb:=A3z B
  rw [hl] at ha
  unfold Lib.compareBytes
  simp only [A2U,hl]
  have hxy:x < y↔x.toNat < y.toNat:=UInt8.lt_iff_toNat_lt
  have hyx:y < x↔y.toNat < x.toNat:=UInt8.lt_iff_toNat_lt
  by_cases h1:x < y
  ·have h2:(x.toNat+1)*256 ^ B.length≤y.toNat*256 ^ B.length:=Nat.mul_le_mul_right _ (hxy.1 h1)
   rw [Nat.add_mul,Nat.one_mul] at h2
   rw [if_pos h1,if_pos (by omega)]
  ·rw [if_neg h1]
   by_cases h2:y < x
   ·have h3:(y.toNat+1)*256 ^ B.length≤x.toNat*256 ^ B.length:=Nat.mul_le_mul_right _ (hyx.1 h2)
    rw [Nat.add_mul,Nat.one_mul] at h3
    rw [if_pos h2,if_neg (by omega),if_pos (by omega)]
   ·have he:x.toNat=y.toNat:=by
     rw [hxy] at h1;rw [hyx] at h2;omega
    rw [if_neg h2,B9C A B hl,he]
    simp only [Nat.add_lt_add_iff_left]
def toU (l:J1):List UInt8:=l.map fun x=>x.toNat.toUInt8
theorem A2r:∀ l:J1,Byt l→A2U (toU l)=beN l
 | [],_=>rfl
 | x :: l,h=>by
  have hx:=h x (by simp)
  have h1:(x.toNat.toUInt8).toNat=x.toNat:=by
   show (UInt8.ofNat x.toNat).toNat=x.toNat
   rw [UInt8.toNat_ofNat']
   omega
  have h2:=A2r l (fun y hy=>h y (List.mem_cons_of_mem _ hy))
  show (x.toNat.toUInt8).toNat*256 ^ (toU l).length+A2U (toU l)=x.toNat*256 ^ l.length+beN l
  rw [h1,h2]
  simp [toU]
theorem A5Q (k a:Nat):Byt (be k a):=by
 intro x hx
 unfold be at hx
 obtain ⟨i,_,rfl⟩:=List.mem_map.1 hx
 have:=Nat.mod_lt (a / 256 ^ (k - 1 - i)) (show 0 < 256 by decide)
 omega
theorem A38:∀ (k n:Nat),n < 256 ^ k→beN (be k n)=n
 | 0,n,h=>by
  have:n=0:=by simpa using h
  subst this;rfl
 | k+1,n,h=>by
  have h1:n / 256 ^ k < 256:=by
   rw [Nat.div_lt_iff_lt_mul (Nat.pow_pos (by decide))]
   rw [Nat.pow_succ] at h;omega
  rw [A4T]
  simp only [beN,A35]
  have e:be k n=be k (n % 256 ^ k):=(A74 k n).symm
  rw [e,A38 k (n % 256 ^ k) (Nat.mod_lt _ (Nat.pow_pos (by decide)))]
  have h3:((n / 256 ^ k % 256:Nat):Int).toNat=n / 256 ^ k:=by rw [Int.toNat_natCast,Nat.mod_eq_of_lt h1]
  first
   | rw [h3,Nat.mul_comm,Nat.div_add_mod]
   | (simp only [Int.toNat_natCast];rw [Nat.mod_eq_of_lt h1,Nat.mul_comm,Nat.div_add_mod])
def B4L (a b:Nat):Int:=if a < b then -1 else if b < a then 1 else 0
theorem B8l (k a b:Nat) (ha:a < 256 ^ k) (hb:b < 256 ^ k):Lib.compareBytes (toU (be k a)) (toU (be k b))=B4L a b:=by
 rw [B9C _ _ (by simp [toU]),A2r _ (A5Q k a),A2r _ (A5Q k b),A38 k a ha,A38 k b hb]
 rfl
theorem A22 {P:Program} {w:World} {b:Nat}:∀ (l:J1) (off:Nat) (acc:ByteArray),(∀ i,i < l.length→w.cell? ⟨b,off+i,none⟩=some (.int .u8 (l[i]?.getD 0))) →
  (Extern.Bytes.loadBytes ⟨b,off,none⟩ l.length acc).run P w = .ok ⟨acc.data++(toU l).toArray⟩ w
 | [],off,acc,_=>by
  show Result.ok acc w=_
  simp [toU]
 | x :: l,off,acc,h=>by
  have h0:=h 0 (by simp)
  simp only [Nat.add_zero,List.getElem?_cons_zero,Option.getD_some] at h0
  have hi:=A22 (P:=P) l (off+1) (acc.push x.toNat.toUInt8) (fun i hi=>by
   have:=h (i+1) (by simp;omega)
   simp only [List.getElem?_cons_succ] at this
   rw [show off+1+i=off+(i+1) by omega];exact this)
  have hl:(load ⟨b,off,none⟩).run P w = .ok (.int .u8 x) w:=by
   rw [run_load,h0]
  simp only [List.length_cons,Extern.Bytes.loadBytes,Sem.run_bind,hl,Result.andThen]
  have ha:(⟨b,off,none⟩:Addr).add 1=⟨b,off+1,none⟩:=U9 rfl
  rw [ha,hi]
  congr 1
  simp [toU,ByteArray.push]
theorem A4i {P:Program} {w:World} {a:Option Addr} {c:Nat} {l:J1} (hI:G9 w .u8 a c l):(Extern.Bytes.bytesOf (.slice a l.length c)).run P w = .ok ⟨(toU l).toArray⟩ w:=by
 cases a with
 | none =>
  have h1:=hI.nil rfl
  have h2:=hI.len
  have:l = []:=List.eq_nil_of_length_eq_zero (by omega)
  subst this
  rfl
 | some ad =>
  by_cases hn:l = []
  ·subst hn;rfl
  ·obtain ⟨b,off,ha,hc⟩:=hI.cell hn
   cases ha
   have:=A22 (P:=P) l off ByteArray.empty hc
   show (Extern.Bytes.loadBytes ⟨b,off,none⟩ l.length ByteArray.empty).run P w=_
   simpa using this
end Go.Mun
namespace Go.Proofs.YtfflppedbopdpaaGreat
open Go.RowKit Go.Mun
theorem B0H {w:World} {a a2:Option Addr} {c c2:Nat} {l m:J1} (hI:G9 w .u8 a c l) (hJ:G9 w .u8 a2 c2 m) :
  (callFunc 185 #[.slice a l.length c,.slice a2 m.length c2]).run Tryz.prog w = .ok (.value (.int .i64 (Lib.compareBytes (toU l) (toU m)))) w:=by
 rw [run_callFunc_extern Tryz.func185 (by kernel_rfl) (by kernel_rfl) (by kernel_rfl) (e:=Extern.BytealgCompare.compare) (by kernel_rfl)]
 show (((do pure (goInt (Extern.BytealgCompare.cmp (← Extern.Bytes.bytesOf (.slice a l.length c)) (← Extern.Bytes.bytesOf (.slice a2 m.length c2)))):Sem Value)).run Tryz.prog w).andThen _=_
 simp only [Sem.run_bind,Sem.run_pure,A4i hI,A4i hJ,Result.andThen]
 rw [Lib.cmp_eq]
 rfl
theorem A6o {w:World} {a a2:Option Addr} {c c2:Nat} {l m:J1} (hI:G9 w .u8 a c l) (hJ:G9 w .u8 a2 c2 m) :
  Calls Tryz.prog 78 #[.slice a l.length c,.slice a2 m.length c2] w fun e w'=>e = .returned (.int .i64 (Lib.compareBytes (toU l) (toU m)))∧w'=w:=by
 have h117:=B0H hI hJ
 clear hI hJ
 generalize Lib.compareBytes (toU l) (toU m)=r at *
 go_enter Tryz.func78,Tryz.ntmps78
 go_wp2
 go_ret
 exact ⟨rfl,rfl⟩
end Go.Proofs.YtfflppedbopdpaaGreat
namespace Go.Proofs.YtfflppedbopdpaaGreat
open Go.RowKit Go.Mun Go.Sort
theorem B06 (b:Nat) (w:World):(Instr.sliceAt 23 (.pointer (some ⟨b,0,none⟩)) none none none).run Tryz.prog w = .ok (.slice (some ⟨b,0,none⟩) 20 20) w:=by
 kernel_rfl
theorem A88 {w:World} {b c k:Nat} {a:Nat} (h:w.row? b 0 k=some (A3 k a)) (hk:k≤c) (hm:c≤maxLen):G9 w .u8 (some ⟨b,0,none⟩) c (be k a):=by
 refine ⟨fun _=>⟨b,0,rfl,fun i hi=>?_⟩,fun h=>(by cases h),by simpa using hk,hm⟩
 have hi':i < k:=by simpa using hi
 have:=World.row?_cell h (i:=i) hi'
 rw [this]
 unfold A3
 rw [List.getElem?_map]
 cases hx:(be k a)[i]? with
 | none=>rw [List.getElem?_eq_none_iff] at hx;simp at hx;omega
 | some y=>simp
theorem B26 (x y:Nat) (hx:x < wA) (hy:y < wA) (W:World):Calls Tryz.prog 77 #[.agg (A3 20 x).toArray,.agg (A3 20 y).toArray] W fun e w'=>e = .returned (.int .i64 (B4L x y))∧∃ q os',w'=grow (W.drewN q) os':=by
 obtain ⟨W2,e2⟩:∃ W2,W2=(W.alloc (.cells (A3 20 x).toArray 23)).alloc (.cells (A3 20 y).toArray 23):=⟨_,rfl⟩
 have h1:W2.drew.row? W.heap.size 0 20=some (A3 20 x):=by
  rw [World.row?_drew,e2,World.row?_alloc_lt _ (by simp)];exact World.row?_alloc_at _ _ _ rfl (C4 _ _)
 have h2:W2.drew.row? (W.heap.size+1) 0 20=some (A3 20 y):=by
  rw [World.row?_drew,e2];exact World.row?_alloc_at _ _ _ (by simp) (C4 _ _)
 have hc:=A6o (A88 h1 (Nat.le_refl 20) (by decide)) (A88 h2 (Nat.le_refl 20) (by decide))
 rw [A35,A35,B8l 20 x y hx hy] at hc
 have HC:=hid hc
 have s1:=B06 W.heap.size
 have s2:=B06 (W.heap.size+1)
 have HE:=hid e2
 obtain ⟨T,hT⟩:∃ T:World→Prop,T=fun W'=>W'=W2.drew:=⟨_,rfl⟩
 have HT:=hid hT
 have t0:T W2.drew:=by rw [hT]
 clear hc hT h1 h2 e2 hx hy
 generalize B4L x y=r at *
 have hlx:=C4 20 x
 have hly:=C4 20 y
 go_enter Tryz.func77,Tryz.ntmps77
 go_wp2_with fail
 rw [← HE.out]
 refine A7 T [] (.pure 0 (.pure 1 (.alt 2 (.pure 3 .fin) .stop))) (by kernel_rfl) (by kernel_rfl) ?_
 iterate 2
  refine A2 ?_ rfl (by rfl) (fun w' hs=>?_) (fun _ _ _ h=>h) ?_
  rotate_left
  ·clear hs
   go_simp
   try rfl
  simp only [Act.put,D7,D6,D5]
 refine A5 rfl (fun K hK=>?_)
 go_simp
 refine HC.out.mono ?_
 rintro e w' ⟨rfl,rfl⟩
 refine hK.out _ _ t0 ?_
 clear hK K
 refine A2 ?_ rfl (by rfl) (fun w' hs=>?_) (fun _ _ _ h=>h) ?_
 rotate_left
 ·clear hs
  go_simp
  try rfl
 simp only [Act.put,D7,D6,D5]
 refine C2 ?_
 go_wp2
 go_ret
 refine ⟨rfl,1,#[.cells (A3 20 x).toArray 23,.cells (A3 20 y).toArray 23],?_⟩
 rw [HE.out,alloc_eq_grow,alloc_eq_grow,grow_grow]
 rfl
end Go.Proofs.YtfflppedbopdpaaGreat
namespace Go.Proofs
open Go.Shelf
def Tryz.sortA_ren:Go.Shelf.Ren:=⟨fun | 6=>183 | 15=>272 | 14=>271 | 28=>338 | 29=>339 | 20=>330 | 21=>331 | 22=>332 | 23=>333 | 24=>334 | 25=>335 | 26=>336 | 27=>337 | 46=>361 | 47=>362 | 48=>363 | 49=>364 | 50=>365 | 57=>375 | n=>n,fun | 22=>150 | 24=>23 | 25=>156 | 3=>3 | 39=>89 | 0=>0 | 53=>315 | 55=>112 | 4=>4 | 46=>309 | 45=>308 | 50=>107 | 5=>5 | 9=>9 | 66=>332 | 70=>336 | 76=>347 | 77=>348 | n=>n,fun | n=>n⟩
theorem Tryz.sortA:Go.Proofs.SlLaysF0.n6 Tryz.prog Tryz.sortA_ren:={
 mixed:=by kernel_rfl
 f6:=⟨Tryz.f183.name,by decide,Tryz.func183.trans (congrArg some (by kernel_rfl))⟩
 f14:=⟨Tryz.f271.name,by decide,Tryz.func271.trans (congrArg some (by kernel_rfl))⟩
 f15:=Tryz.func272.trans (congrArg some (by kernel_rfl))
 f20:=⟨Tryz.f330.name,by decide,Tryz.func330.trans (congrArg some (by kernel_rfl))⟩
 f21:=⟨Tryz.f331.name,by decide,Tryz.func331.trans (congrArg some (by kernel_rfl))⟩
 f22:=⟨Tryz.f332.name,by decide,Tryz.func332.trans (congrArg some (by kernel_rfl))⟩
 f23:=⟨Tryz.f333.name,by decide,Tryz.func333.trans (congrArg some (by kernel_rfl))⟩
 f24:=⟨Tryz.f334.name,by decide,Tryz.func334.trans (congrArg some (by kernel_rfl))⟩
 f25:=⟨Tryz.f335.name,by decide,Tryz.func335.trans (congrArg some (by kernel_rfl))⟩
 f26:=⟨Tryz.f336.name,by decide,Tryz.func336.trans (congrArg some (by kernel_rfl))⟩
 f27:=⟨Tryz.f337.name,by decide,Tryz.func337.trans (congrArg some (by kernel_rfl))⟩
 f28:=Tryz.func338.trans (congrArg some (by kernel_rfl))
 f29:=Tryz.func339.trans (congrArg some (by kernel_rfl))
 f46:=⟨Tryz.f361.name,by decide,Tryz.func361.trans (congrArg some (by kernel_rfl))⟩
 f47:=Tryz.func362.trans (congrArg some (by kernel_rfl))
 f48:=Tryz.func363.trans (congrArg some (by kernel_rfl))
 f49:=⟨Tryz.f364.name,by decide,Tryz.func364.trans (congrArg some (by kernel_rfl))⟩
 f50:=⟨Tryz.f365.name,by decide,Tryz.func365.trans (congrArg some (by kernel_rfl))⟩
 f57:=⟨Tryz.f375.name,by decide,Tryz.func375.trans (congrArg some (by kernel_rfl))⟩
 t0:=Tryz.underlying0
 a0:=Tryz.isAgg0
 z0:=Tryz.sizeOf0
 v0:=Tryz.zeroValue0
 t3:=Tryz.underlying3
 a3:=Tryz.isAgg3
 z3:=Tryz.sizeOf3
 v3:=Tryz.zeroValue3
 t4:=Tryz.underlying4
 a4:=Tryz.isAgg4
 z4:=Tryz.sizeOf4
 v4:=Tryz.zeroValue4
 t5:=Tryz.underlying5
 a5:=Tryz.isAgg5
 z5:=Tryz.sizeOf5
 v5:=Tryz.zeroValue5
 t9:=Tryz.underlying9
 a9:=Tryz.isAgg9
 z9:=Tryz.sizeOf9
 v9:=Tryz.zeroValue9
 t22:=Tryz.underlying150
 a22:=Tryz.isAgg150
 z22:=Tryz.sizeOf150
 v22:=Tryz.zeroValue150
 t25:=Tryz.underlying156
 a25:=Tryz.isAgg156
 z25:=Tryz.sizeOf156
 v25:=Tryz.zeroValue156
 t39:=Tryz.underlying89
 a39:=Tryz.isAgg89
 z39:=Tryz.sizeOf89
 v39:=Tryz.zeroValue89
 t45:=Tryz.underlying308
 a45:=Tryz.isAgg308
 z45:=Tryz.sizeOf308
 v45:=Tryz.zeroValue308
 t46:=Tryz.underlying309
 a46:=Tryz.isAgg309
 z46:=Tryz.sizeOf309
 v46:=Tryz.zeroValue309
 t50:=Tryz.underlying107
 a50:=Tryz.isAgg107
 z50:=Tryz.sizeOf107
 v50:=Tryz.zeroValue107
 t53:=Tryz.underlying315
 a53:=Tryz.isAgg315
 z53:=Tryz.sizeOf315
 v53:=Tryz.zeroValue315
 t55:=Tryz.underlying112
 a55:=Tryz.isAgg112
 z55:=Tryz.sizeOf112
 v55:=Tryz.zeroValue112
 t66:=Tryz.underlying332
 a66:=Tryz.isAgg332
 z66:=Tryz.sizeOf332
 v66:=Tryz.zeroValue332
 t70:=Tryz.underlying336
 a70:=Tryz.isAgg336
 z70:=Tryz.sizeOf336
 v70:=Tryz.zeroValue336
 t76:=Tryz.underlying347
 a76:=Tryz.isAgg347
 z76:=Tryz.sizeOf347
 v76:=Tryz.zeroValue347
 t77:=Tryz.underlying348
 a77:=Tryz.isAgg348
 z77:=Tryz.sizeOf348
 v77:=Tryz.zeroValue348 }
end Go.Proofs
namespace Go.Mun
open Go.RowKit Go.Sort
open Go.Proofs (ltOf)
abbrev A6s:={ x:Nat // x < wA }
instance:Inhabited A6s:=⟨⟨0,by unfold wA;decide⟩⟩
def adE (x:A6s):List Value:=A3 20 x.1
theorem A3P (x:A6s):(adE x).length=20:=C4 _ _
def adC (x y:A6s):Int:=B4L x.1 y.1
theorem A5V (x y:A6s):ltOf adC x y=decide (x.1 < y.1):=by
 unfold ltOf adC B4L
 by_cases h:x.1 < y.1
 ·simp [h]
 ·simp only [h,if_false]
  by_cases h2:y.1 < x.1 <;> simp [h2]
theorem B6N:SWO (ltOf adC):=by
 refine ⟨fun x=>?_,fun x y z h1 h2=>?_,fun x y z h1 h2=>?_⟩ <;> simp only [A5V,decide_eq_true_eq,decide_eq_false_iff_not] at * <;> omega
theorem B6M (x y:A6s) (h1:ltOf adC x y=false) (h2:ltOf adC y x=false):x=y:=by
 simp only [A5V,decide_eq_false_iff_not] at h1 h2
 exact Subtype.ext (by omega)
theorem B1N:∀ (l:List A6s) (t:Nat),t < l.length*20→(X0 (l.map Subtype.val))[t]? = some ((adE l[t / 20]!)[t % 20]!)
 | [],t,h=>by simp at h
 | a :: l,t,h=>by
  have h2:X0 ((a :: l).map Subtype.val)=adE a++X0 (l.map Subtype.val):=by simp [X0,adE]
  rw [h2]
  by_cases ht:t < 20
  ·rw [List.getElem?_append_left (by rw [A3P];exact ht),Nat.div_eq_of_lt ht,Nat.mod_eq_of_lt ht]
   have hl:t < (adE a).length:=by rw [A3P];exact ht
   simp [List.getElem!_eq_getElem?_getD,hl]
  ·obtain ⟨u,rfl⟩:∃ u,t=u+20:=⟨t - 20,by omega⟩
   rw [List.getElem?_append_right (by rw [A3P];omega),A3P,Nat.add_sub_cancel,B1N l u (by simp at h;omega)]
   rw [Nat.add_div_right u (by decide),Nat.add_mod_right]
   simp
theorem A66 (l:List A6s):(flatK adE 20 l.toArray).toList=X0 (l.map Subtype.val):=by
 apply List.ext_getElem?
 intro t
 by_cases ht:t < l.length*20
 ·rw [B1N l t ht]
  have hs:t < (flatK adE 20 l.toArray).size:=by simpa using ht
  have:=get_flatK adE 20 l.toArray t (by simpa using ht)
  rw [getElem!_pos _ t hs] at this
  rw [Array.getElem?_toList,Array.getElem?_eq_getElem hs,this]
  simp
 ·rw [List.getElem?_eq_none (by simp;omega),List.getElem?_eq_none (by simp;omega)]
theorem B5T {w:World} {n₀ g n cap size:Nat} {e:TypeId} {xs:List Value} (h:w.ownsRow n₀ e size (.slice (some ⟨g,0,none⟩) n cap) n xs) (F:Array Value) (hF:F.size=n*size) (m:Nat) (os:Array Obj) :
  (grow (putRow id (Go.Sort.ahead w m) g 0 F) os).ownsRow n₀ e size (.slice (some ⟨g,0,none⟩) n cap) n F.toList:=by
 rcases h.2 with ⟨h1,_⟩ | ⟨g',cap',cur,h1,hb,hh,hn,hm,hs,ht⟩
 ·cases h1
 cases h1
 refine ⟨by simpa using hF,.inr ⟨g,cap,putCells id 0 F cur,rfl,hb,?_,hn,hm,by simpa [putCells] using hs,?_⟩⟩
 ·have hlt:=(Array.getElem?_eq_some_iff.1 hh).1
  have hh2:(Go.Sort.ahead w m).heap[g]? = some (.cells cur e (0,0)):=hh
  show ((putRow id (Go.Sort.ahead w m) g 0 F).heap++os)[g]? = _
  rw [Array.getElem?_append_left (by rw [size_putRow];exact hlt)]
  show ((Go.Sort.ahead w m).heap.modify g (onCells (putCells id 0 F)))[g]? = _
  rw [Array.getElem?_modify,hh2]
  simp [onCells]
 ·apply List.ext_getElem?
  intro i
  have hle:n*size≤cap*size:=Nat.mul_le_mul_right _ hn
  rw [List.getElem?_take]
  by_cases hi:i < n*size
  ·rw [if_pos hi]
   have hic:i < cur.size:=by omega
   have hiF:i < F.size:=by omega
   simp [putCells,hic,hiF,getElem!_pos]
  ·rw [if_neg hi]
   have hiF:¬ i < F.size:=by omega
   simp [hiF]
end Go.Mun
namespace Go.Proofs.YtfflppedbopdpaaGreat
open Go.RowKit Go.Mun Go.Sort
theorem B6p (w:World):(isAgg 23).run Tryz.prog w = .ok true w:=by kernel_rfl
theorem B3O (w:World):(Go.sizeOf 23).run Tryz.prog w = .ok 20 w:=by kernel_rfl
theorem A4B {w:World} {v:Value} {n₀:Nat} {ss:List Nat} (hs:∀ a∈ss,a < wA) (hown:w.ownsRow n₀ 23 20 v ss.length (X0 ss)) (hsz:ss.length≤4000000) :
  Calls Tryz.prog 183 #[v,.func (.func 77) #[] #[]] w fun e w'=>e = .returned (.tuple #[])∧∃ rs:List Nat,rs.Perm ss∧rs.Pairwise (·≤·)∧w'.ownsRow n₀ 23 20 v ss.length (X0 rs)∧Below n₀ w w':=by
 have hcase:=hown.2
 rcases hcase with ⟨rfl,h0⟩ | ⟨g,cap,cur,rfl,hb,hh,hn,hm,hcs,ht⟩
 ·have he:ss = []:=List.eq_nil_of_length_eq_zero h0
  subst he
  have hc:=AnyF.slices_SortFunc_none Tryz.sortA none 0 (.func (.func 77) #[] #[]) w
  refine Calls.mono hc ?_
  rintro e w' ⟨rfl,rfl⟩
  exact ⟨rfl,[],List.Perm.refl _,List.Pairwise.nil,hown,Below.refl _ _⟩
 ·obtain ⟨l,hl⟩:∃ l:List A6s,l.map Subtype.val=ss:=⟨ss.attach.map fun a=>⟨a.1,hs a.1 a.2⟩,by simp⟩
  have hll:l.length=ss.length:=by rw [← hl];simp
  have hlt:g < w.heap.size:=(Array.getElem?_eq_some_iff.1 hh).1
  have hfl:=A66 l
  rw [hl] at hfl
  have hH:HoldsK adE 20 w g 0 l.toArray:=by
   intro j hj
   have hj':j < (X0 ss).length:=by simpa [hll] using hj
   have hgj:(X0 ss)[j]? = some ((flatK adE 20 l.toArray)[j]!):=by
    rw [← hfl,Array.getElem?_toList,getElem!_pos _ j hj,Array.getElem?_eq_getElem hj]
   constructor
   ·rw [Nat.zero_add]
    show _=some ((flatK adE 20 l.toArray)[j]!)
    rw [← hgj,← ht,List.getElem?_take,if_pos (by simpa using hj'),Array.getElem?_toList]
    unfold World.cell?
    simp only [hh]
    rfl
   ·unfold World.frozen?
    simp only [hh]
    simp
  have eg:∀ args w,(callFunc 77 args).run Tryz.prog w = .ok (.enter 77 args) w:=enters_of Tryz.func77 (by kernel_rfl) rfl
  have hcmp:CmpLays Tryz.prog 77 #[] adE 20 adC g 0 l.toArray.size w:=fun _ _ _ _ x y=>B26 x.1 y.1 x.2 y.2 _
  have hc:=AnyQ.slices_SortFunc_total Tryz.sortA 20 B6p B3O adE A3P (fun x=>M9 (D2 20 x.1)) adC B6N 77 #[] g 0 cap l.toArray w eg hcmp hH hlt (by simp;omega) B6M
  have hcs2:l.toArray.size=ss.length:=by simp [hll]
  rw [hcs2] at hc
  refine Calls.mono hc ?_
  rintro e w' ⟨rfl,m,os,rfl⟩
  refine ⟨rfl,(l.mergeSort fun x y => !(ltOf adC) y x).map Subtype.val,?_,?_,?_,?_⟩
  ·rw [← hl];exact (List.mergeSort_perm l _).map _
  ·rw [List.pairwise_map]
   refine (List.pairwise_mergeSort (le:=fun x y:A6s => !(ltOf adC) y x) ?_ ?_ l).imp ?_
   ·intro a b c;simp only [A5V,Bool.not_eq_true',decide_eq_false_iff_not];omega
   ·intro a b;simp only [A5V,Bool.or_eq_true,Bool.not_eq_true',decide_eq_false_iff_not];omega
   ·intro a b;simp only [A5V,Bool.not_eq_true',decide_eq_false_iff_not];omega
  ·rw [← A66]
   exact B5T hown _ (by rw [size_flatK];simp [hll]) m os
  ·refine ⟨rfl,rfl,rfl,?_,fun k hk=>?_⟩
   ·show w.heap.size≤((putRowK adE 20 (Go.Sort.ahead w m) g 0 _).heap++os).size
    rw [Array.size_append]
    unfold putRowK
    rw [size_putRow]
    show w.heap.size≤w.heap.size+_
    omega
   ·show ((w.heap.modify g (onCells _))++os)[k]? = _
    rw [Array.getElem?_append_left (by rw [Array.size_modify];omega),Array.getElem?_modify,if_neg (by omega)]
end Go.Proofs.YtfflppedbopdpaaGreat
namespace Go.Proofs.YtfflppedbopdpaaGreat
open Go.RowKit Go.Mun Go.Maps Go.Shelf
theorem B0D (F:Fence) (n:Nat) (hF0:F.fn 182) (hF:F.fn 270) (hG:F.fn 184) (hro:F.round=none) (hn:4≤n) (Bm:Nat) (ks:List Nat) (w:World) (hN:ks.length≤4000000)
  (hseq:∀ w':World,Below w.heap.size w w'→SeqStopsK F (n - 1 - 1) Tryz.prog 184 #[.pointer (some ⟨Bm,0,none⟩)] (fun a:Nat => #[adV a]) KeepsWalks (fun ss=>ss.Perm ks) (fun _=>True) ks.length w') :
  CallsIn F n Tryz.prog 182 #[.func (.func 184) #[] #[.pointer (some ⟨Bm,0,none⟩)]] w fun e W' => ∃ v ss,e = .returned v∧ss.Perm ks∧W'.ownsRow w.heap.size 23 20 v ss.length (X0 ss)∧(v = .slice none 0 0↔ss = [])∧Below w.heap.size w W':=by
 refine callsIn_of_wp Tryz.func182 rfl hF0 ?_ hro
 have hap:=A78 F (n - 1) hF hG hro (by omega) Bm ks w hN hseq
 clear hseq
 have h1:1≤n:=by omega
 simp only [Tryz.ntmps182,List.size_toArray,List.length_cons,List.length_nil,Nat.reduceAdd,Nat.reduceSub,Array.replicate_succ,Array.replicate_zero,List.push_toArray,List.append_toArray,List.nil_append,List.cons_append]
 gi_wp2_with (gi_at_call 270;refine hap.mono ?_;rintro e w' ⟨v,ss,rfl,hp,hrow,hnil,hB⟩)
 go_ret
 exact ⟨v,ss,rfl,hp,hrow,hnil,hB⟩
theorem A6n (Bm b nn:Nat) (D:DataW Unit) (ks:List Nat) (w:World) (hks:∀ a∈ks,a < wA) (hd:ks.Nodup) (hN:ks.length≤4000000) (hsz:Maps.size D=ks.length)
  (h1:∀ kl,Maps.has D kl=true→∃ a∈ks,keyOf Tryz.prog 23 (adV a)=some kl) (h2:∀ a∈ks,∀ kl,keyOf Tryz.prog 23 (adV a)=some kl→Maps.has D kl=true)
  (hBm:Bm < w.heap.size) (hm:w.cell? ⟨Bm,0,none⟩=some (.map (some b))) (hown:w.ownsMap Tryz.prog 23 R0 b nn D) :
  Calls Tryz.prog 182 #[.func (.func 184) #[] #[.pointer (some ⟨Bm,0,none⟩)]] w fun e W' => ∃ v ss,e = .returned v∧ss.Perm ks∧W'.ownsRow w.heap.size 23 20 v ss.length (X0 ss)∧(v = .slice none 0 0↔ss = [])∧Below w.heap.size w W':=by
 refine (callsIn_wide (n:=4)).1 (B0D Fence.wide 4 trivial trivial trivial rfl (by omega) Bm ks w hN fun w' hb=>?_)
 refine B6n Fence.wide 2 trivial rfl (by omega) Bm b nn D ks w' hks hd hsz h1 h2 (Nat.lt_of_lt_of_le hBm hb.size) ((hb.cell (p:=⟨Bm,0,none⟩) hBm).trans hm) ?_
 have hbl:=hown.lt
 obtain ⟨es,clock,hbk,Ft,hs,hD⟩:=hown
 exact ⟨es,clock,(hb.block b hbl).trans hbk,Ft,hs,hD⟩
theorem B2B (m:Value) (w:World) (hm:m.oneCell'=true):Calls Tryz.prog 76 #[m] w fun e w'=>e = .returned (.func (.func 184) #[] #[.pointer (some ⟨w.heap.size,0,none⟩)])∧w'=w.alloc (.cells #[m] 90):=by
 go_enter Tryz.func76,Tryz.ntmps76
 go_wp2
 go_ret
 exact ⟨rfl,rfl⟩
theorem A7v (sv:Value) (ks:List Nat) (w:World) (hks:∀ a∈ks,a < wA) (hN:ks.length≤4000000)
  (hcol:Calls Tryz.prog 182 #[sv] w fun e W' => ∃ v ss,e = .returned v∧ss.Perm ks∧W'.ownsRow w.heap.size 23 20 v ss.length (X0 ss)∧(v = .slice none 0 0↔ss = [])∧Below w.heap.size w W') :
  Calls Tryz.prog 75 #[sv,.func (.func 77) #[] #[]] w fun e W' => ∃ v ss,e = .returned v∧ss.Perm ks∧ss.Pairwise (·≤·)∧W'.ownsRow w.heap.size 23 20 v ss.length (X0 ss)∧Below w.heap.size w W':=by
 have HS:=hid (fun (W:World) (v:Value) (ss:List Nat) (hp:ss.Perm ks) (hr:W.ownsRow w.heap.size 23 20 v ss.length (X0 ss))=>A4B (w:=W) (fun a ha=>hks a (hp.mem_iff.1 ha)) hr (by rw [hp.length_eq];exact hN))
 clear hks hN
 go_enter Tryz.func75,Tryz.ntmps75
 go_wp2_with (first
  | (go_at_call 182;refine hcol.mono ?_;rintro e w1 ⟨v,ss,rfl,hp,hrow,hnil,hB⟩;clear hnil)
  | (go_at_call 183;refine (HS.out _ v ss hp hrow).mono ?_;rintro e w2 ⟨rfl,rs,hp2,hpw,hrow2,hB2⟩))
 go_ret
 exact ⟨v,rs,rfl,hp2.trans hp,hpw,by rw [hp2.length_eq];exact hrow2,hB.trans hB2⟩
end Go.Proofs.YtfflppedbopdpaaGreat
namespace Go.Proofs.YtfflppedbopdpaaGreat
open Go.RowKit Go.Mun Go.Maps Go.Shelf
attribute [local go_sem] Oper.semAt_some
attribute [local go_sem ↓] A2D
attribute [local irreducible] A3 J4
theorem B3t (a:Nat):wdV a = .agg (A3 32 a).toArray:=rfl
theorem B6m (F:Fence) (n:Nat) (hF:F.fn 188) (hro:F.round=none) (hn:1≤n) (Bm b nn:Nat) (D:DataW Unit) (ks:List Nat) (w:World)
  (hks:∀ a∈ks,a < wW) (hd:ks.Nodup) (hsz:Maps.size D=ks.length) (h1:∀ kl,Maps.has D kl=true→∃ a∈ks,keyOf Tryz.prog 25 (wdV a)=some kl) (h2:∀ a∈ks,∀ kl,keyOf Tryz.prog 25 (wdV a)=some kl→Maps.has D kl=true)
  (hBm:Bm < w.heap.size) (hm:w.cell? ⟨Bm,0,none⟩=some (.map (some b))) (hown:w.ownsMap Tryz.prog 25 R0 b nn D) :
  SeqStopsK F n Tryz.prog 188 #[.pointer (some ⟨Bm,0,none⟩)] (fun a:Nat => #[wdV a]) KeepsWalks (fun ss=>ss.Perm ks) (fun _=>True) ks.length w:=by
 intro l J Jx W hW hJ hJx hY h0
 have hm':W.cell? ⟨Bm,0,none⟩=some (.map (some b)):=(hW.cell (p:=⟨Bm,0,none⟩) hBm).trans hm
 have hown':W.ownsMap Tryz.prog 25 R0 b nn D:=by
  have hbl:=hown.lt
  obtain ⟨es,clock,hb,Ft,hs,hD⟩:=hown
  exact ⟨es,clock,(hW.block b hbl).trans hb,Ft,hs,hD⟩
 clear hm hown hW
 refine callsIn_of_wp Tryz.func188 rfl hF ?_ hro
 try simp only [Tryz.ntmps188,List.size_toArray,List.length_cons,List.length_nil,Nat.reduceAdd,Nat.reduceSub,Array.replicate_succ,Array.replicate_zero,List.push_toArray,List.append_toArray,List.nil_append,List.cons_append]
 gi_wp2_with (first
  | (gi_at_range;refine wpListIn_range_own _ rfl _ 84 rfl 25 25 A6i.keyed Tryz.underlying84 _ b nn _ rfl hown' ?_;intro w0 hrg0 hg0 hs0)
  | gi_in)
 try go_frame
 gi_loopw [3] (fun _ wr => ∃ (left:Lit→Bool) (cnt:Nat) (ss:List Nat),wr.ranges Tryz.prog 25 R0 b W.heap.size nn D left cnt∧ss.length+cnt≤Maps.size D∧A51 Tryz.prog 25 wdV wW ks left ss∧J ss wr)
  (fun _ wr=>wr.rangeLeft b W.heap.size)
 case atStart =>
  exact ⟨_,_,[],hrg0,by simp,A51.start h1 h2,hJ [] W w0 none h0 hg0 (fun r e=>by cases e)⟩
 case round =>
  obtain ⟨left,cnt,ss,hrg,hcs,hC,hJs⟩:=hrel
  gi_wp2_with (first
   | (gi_at_next;refine wpListIn_next_ranges _ rfl _ rfl 25 A6i.keyed R0 id id (fun key kl hk=>⟨key,rfl⟩) (fun v _ _=>⟨v,rfl⟩) b W.heap.size nn _ _ _ rfl hrg ?_ ?_)
   | gi_in)
  ·intro hc0 hl0
   gi_wp2
   go_end0
   exact ⟨⟨_,rfl⟩,.inl ⟨ss,hC.perm A6i hks hd hl0,hJs⟩⟩
  ·intro x c kl yd yp w2 cnt2 hkey hlk hv hat hrg2 hlt hg2 hs2 hen
   obtain ⟨a,ha,hxa,hns,hC2⟩:=hC.step A6i hks hkey hlk
   obtain rfl:x=wdV a:=hxa
   have hJ2:J ss w2:=hJ ss wr w2 (some W.heap.size) hJs hg2 (fun r e=>by cases e;exact ⟨Nat.le_refl _,hrg.iter_walk⟩)
   clear hs2 hv hat
   have hf2:(w2.alloc (.cells (J4 32).toArray 25)).free? w2.heap.size 0 32=true:=World.free?_alloc_at _ _ rfl (by simp [J4])
   have hok:=D2 32 a
   have hlen:=K6 hok
   generalize hw3:(w2.alloc (.cells (J4 32).toArray 25)).setCells w2.heap.size 0 (A3 32 a)=w3
   have hb3:Below w2.heap.size w2 w3:=by rw [← hw3];exact ((Below.refl _ w2).alloc (Nat.le_refl _) _).setCells (Nat.le_refl _) _ _
   have hJ3:J ss w3:=hJ ss w2 w3 none hJ2 ⟨hb3.1,hb3.2,hb3.3,hb3.size,fun k hk _=>hb3.block k hk⟩ (fun r e=>by cases e)
   have hr3:w3.row? w2.heap.size 0 32=some (A3 32 a):=by
    have hz:(J4 32).length=32:=by simp [J4]
    rw [← hw3,World.row?_setCells_lay 0 (A3 32 a) (Nat.le_refl _) (by rw [hlen];exact Nat.le_refl _),World.row?_alloc_at _ _ _ rfl hz]
    show some (lay (J4 32) 0 (A3 32 a))=_
    rw [A19 _ _ (by rw [hlen,hz])]
   obtain ⟨fn,tmps,assign,body,hy,hR⟩:=hY ss a w3 hJ3 (by omega)
   have hk3:KeepsWalks w2 w3:=⟨hb3.size,fun k o h _=>(hb3.block k (Array.getElem?_eq_some_iff.1 h).1).trans h⟩
   simp only [B3t] at hy hen ⊢
   gi_wp2
   refine hR.mono ?_
   rintro e W3 (⟨rfl,hJ4,hk4⟩ | ⟨rfl,hJ4⟩)
   ·gi_wp2
    have hrg3:=(hrg2.of_walks hk3).of_walks hk4
    go_roundw
    case rel=>exact ⟨_,cnt2,ss++[a],hrg3,by simp;omega,hC2,hJ4⟩
    case measure=>rw [hrg3.left_eq,hrg.left_eq];exact hlt
   ·gi_wp2
    refine bodyPost_ret (results_none rfl _ _ _) rfl ?_
    exact ⟨⟨_,rfl⟩,.inr ⟨_,trivial,hJ4⟩⟩
end Go.Proofs.YtfflppedbopdpaaGreat
namespace Go.Proofs.YtfflppedbopdpaaGreat
open Go.RowKit Go.Mun Go.Maps Go.Shelf
attribute [local go_sem] Oper.semAt_some
attribute [local go_sem ↓] A2D
attribute [local irreducible] A3 J4
theorem B14 (l:List Nat) (x:Nat):D3 (l++[x])=D3 l++A3 32 x:=by simp [D3]
theorem B9w:(Tryz.prog.info? 25).map (fun i=>(i.zero,i.size,i.bytes))=some (some (.agg (J4 32).toArray),32,32):=by kernel_rfl
theorem A77 (F:Fence) (n:Nat) (hF:F.fn 273) (hG:F.fn 188) (hro:F.round=none) (hn:3≤n) (Bm:Nat) (ks:List Nat) (w:World) (hN:ks.length≤4000000)
  (hseq:∀ w':World,Below w.heap.size w w'→SeqStopsK F (n - 1) Tryz.prog 188 #[.pointer (some ⟨Bm,0,none⟩)] (fun a:Nat => #[wdV a]) KeepsWalks (fun ss=>ss.Perm ks) (fun _=>True) ks.length w') :
  CallsIn F n Tryz.prog 273 #[.slice none 0 0,.func (.func 188) #[] #[.pointer (some ⟨Bm,0,none⟩)]] w fun e W' => ∃ v ss,e = .returned v∧ss.Perm ks∧W'.ownsRow w.heap.size 25 32 v ss.length (D3 ss)∧(v = .slice none 0 0↔ss = [])∧Below w.heap.size w W':=by
 obtain ⟨i0,hi,hz0,hz1,hz2⟩:=info_parts B9w
 have h1:1≤n:=by omega
 refine callsIn_of_wp_marks Tryz.func273 rfl hF ?_ hro
 try simp only [Tryz.ntmps273,List.size_toArray,List.length_cons,List.length_nil,Nat.reduceAdd,Nat.reduceSub,Array.replicate_succ,Array.replicate_zero,List.push_toArray,List.append_toArray,List.nil_append,List.cons_append]
 gi_wp2
 obtain ⟨W0,hW0⟩:∃ W0,w.alloc (.cells #[.slice none 0 0] 56)=W0:=⟨_,rfl⟩
 have hsz:W0.heap.size=w.heap.size+1:=by rw [← hW0];simp
 have hB0:Boxed W0 w.heap.size 56 (.slice none 0 0):=by rw [← hW0];exact Boxed.new _ _ _
 have hBW:Below w.heap.size w W0:=by rw [← hW0];exact (Below.refl _ w).alloc (Nat.le_refl _) _
 rw [hW0]
 have hO1:OwnFrom W0.heap.size (fun (pre:List Nat) W => ∃ v,Boxed W w.heap.size 56 v∧W.ownsRow w.heap.size 25 32 v pre.length (D3 pre)∧(v = .slice none 0 0↔pre = [])):=
  _root_.Go.Own.from (holdsRow_own (β:=List Nat) w.heap.size w.heap.size 56 25 32 (fun pre=>pre.length) D3 (fun pre v=>v = .slice none 0 0↔pre = [])) _
 have hO2:OwnFrom W0.heap.size (fun (_:List Nat) W=>Below w.heap.size w W):=ownFrom_below (Nat.le_refl _) (by rw [hsz];omega)
 have hOI:=OwnFrom.and hO1 hO2
 refine wpIn_rangeFunc_ownH hro h1 (gf:=188) (lb:=#[.pointer (some ⟨Bm,0,none⟩)]) rfl hG (enters_of Tryz.func188 (by kernel_rfl) rfl)
  (hseq W0 hBW) walksK_t walksK_b (Below.refl _ _) (fun _=>rfl)
  (fun pre W=>(∃ v,Boxed W w.heap.size 56 v∧W.ownsRow w.heap.size 25 32 v pre.length (D3 pre)∧(v = .slice none 0 0↔pre = []))∧Below w.heap.size w W)
  (fun _ _ _=>False)
  hOI
  (fun _ _ _ _ _ h _ _=>h)
  ⟨⟨_,hB0,World.ownsRow_nil _ _ _ _,by simp⟩,hBW⟩
  (fun x a' W => ∃ Bx,w.heap.size < Bx∧W.row? Bx 0 32=some (A3 32 x)∧a'={ tmps:=#[.slice none 0 0,.func (.func 188) #[] #[.pointer (some ⟨Bm,0,none⟩)],.pointer (some ⟨w.heap.size,0,none⟩),undef,.slice none 0 0,.pointer (some ⟨Bx,0,none⟩),.func (.func 188) #[] #[.pointer (some ⟨Bm,0,none⟩)],wdV x,undef,undef,undef,undef,undef],defers:=[] })
  (fun x a' s X Y row h hg hr=>by
   obtain ⟨Bx,hB,hrow,e⟩:=h
   exact ⟨Bx,hB,B08 Bx 32 _ () X Y row hrow hg (fun r e=>(hr r e).2),e⟩) ?assign ?body ?done ?stop
 case assign =>
  rintro l pre x W K ⟨⟨v,hv,hrow,hnil⟩,hB⟩ hK
  have hf2:(W.alloc (.cells (J4 32).toArray 25)).free? W.heap.size 0 32=true:=World.free?_alloc_at _ _ rfl (by simp [zU8_len])
  have hok:=D2 32 x
  have hlen:=K6 hok
  have hr3:((W.alloc (.cells (J4 32).toArray 25)).setCells W.heap.size 0 (A3 32 x)).row? W.heap.size 0 32=some (A3 32 x):=by
   rw [World.row?_setCells_lay 0 (A3 32 x) (Nat.le_refl _) (by rw [hlen];exact Nat.le_refl _),World.row?_alloc_at _ _ _ rfl (zU8_len 32)]
   show some (lay (J4 32) 0 (A3 32 x))=_
   rw [A19 _ _ (by rw [hlen,zU8_len])]
  have hb3:Below W.heap.size W ((W.alloc (.cells (J4 32).toArray 25)).setCells W.heap.size 0 (A3 32 x)):=((Below.refl _ W).alloc (Nat.le_refl _) _).setCells (Nat.le_refl _) _ _
  simp only [B3t] at hK ⊢
  gi_wp2
  refine hK _ _ ((Below.keepsOthers hb3).from _) (Below.keepsWalks hb3) ⟨⟨v,?_,?_,hnil⟩,?_⟩ ⟨_,?_,hr3,rfl⟩
  ·exact Boxed.kept hv (Below.asGrown hb3) (by simp)
  ·exact hrow.kept (Below.asGrown hb3) (by cases v.ownBlock <;> simp)
  ·exact hB.trans (hb3.mono hB.size)
  ·exact Nat.lt_of_lt_of_le hv.lt (Nat.le_refl _)
 case body =>
  rintro l pre x a' W hl _ ⟨⟨v,hv,hrow,hnil⟩,hB⟩ ⟨Bx,hBx,hrx,rfl⟩ hlt
  have hvc:=hv.cell
  have hok:=D2 32 x
  have hlen:=K6 hok
  have hsW:=hB.size
  gi_wp2_with (gi_at_builtin;go_must (refine wpListIn_append_own _ rfl _ _ 56 rfl w.heap.size 25 i0 _ 32 32 Tryz.underlying56 hi hz0 hz1 hz2 (by simp [Value.cells,zU8_len]) (by decide) _ _ _ rfl (hrow.alloc _) ⟨W.heap.size,0,none⟩ 1 1 (A3 32 x) rfl (by rw [hlen]) (A3L _ _ _) (M9 hok) (by unfold maxLen;omega) (by omega) (by simp;omega) ?_);intro v' w1 hown' hgrow _;obtain ⟨g',cap',rfl⟩:=ownsRow_succ hown';obtain ⟨hv1,hv2,hr2,hk2,hb2⟩:=hv.appended (by decide) hrow hB.size (Nat.le_refl _) hown' hgrow;have hc1:=hv1.cell;have hf1:=Boxed.free hv1)
  refine ⟨hk2.from _,hk2.walks,⟨⟨_,hv2,?_,?_⟩,?_⟩⟩
  ·rw [B14];simpa using hr2
  ·simp
  ·exact hB.trans hb2
 case done =>
  rintro D xs W hD hp ⟨⟨v,hv,hrow,hnil⟩,hB⟩ hK
  have hvc:=hv.cell
  gi_wp2
  refine ⟨by simp,.inl ⟨_,_,rfl,run_takeDeferred hK,?_⟩⟩
  refine ⟨_,results_tmp rfl _ _ _,v,xs,rfl,hp,ownsRow_putObj hrow _ hK rfl,hnil,hB.trans (belowK_b (w:=w) (Nat.le_refl _) W D _ _ (by omega) hK rfl rfl)⟩
 case stop =>
  rintro D c pre W hD _ h _
  exact h.elim
end Go.Proofs.YtfflppedbopdpaaGreat
namespace Go.Proofs.YtfflppedbopdpaaGreat
open Go.RowKit Go.Mun Go.Maps Go.Shelf
theorem B0C (F:Fence) (n:Nat) (hF0:F.fn 186) (hF:F.fn 273) (hG:F.fn 188) (hro:F.round=none) (hn:4≤n) (Bm:Nat) (ks:List Nat) (w:World) (hN:ks.length≤4000000)
  (hseq:∀ w':World,Below w.heap.size w w'→SeqStopsK F (n - 1 - 1) Tryz.prog 188 #[.pointer (some ⟨Bm,0,none⟩)] (fun a:Nat => #[wdV a]) KeepsWalks (fun ss=>ss.Perm ks) (fun _=>True) ks.length w') :
  CallsIn F n Tryz.prog 186 #[.func (.func 188) #[] #[.pointer (some ⟨Bm,0,none⟩)]] w fun e W' => ∃ v ss,e = .returned v∧ss.Perm ks∧W'.ownsRow w.heap.size 25 32 v ss.length (D3 ss)∧(v = .slice none 0 0↔ss = [])∧Below w.heap.size w W':=by
 refine callsIn_of_wp Tryz.func186 rfl hF0 ?_ hro
 have hap:=A77 F (n - 1) hF hG hro (by omega) Bm ks w hN hseq
 clear hseq
 have h1:1≤n:=by omega
 simp only [Tryz.ntmps186,List.size_toArray,List.length_cons,List.length_nil,Nat.reduceAdd,Nat.reduceSub,Array.replicate_succ,Array.replicate_zero,List.push_toArray,List.append_toArray,List.nil_append,List.cons_append]
 gi_wp2_with (gi_at_call 273;refine hap.mono ?_;rintro e w' ⟨v,ss,rfl,hp,hrow,hnil,hB⟩)
 go_ret
 exact ⟨v,ss,rfl,hp,hrow,hnil,hB⟩
theorem A5O (Bm b nn:Nat) (D:DataW Unit) (ks:List Nat) (w:World) (hks:∀ a∈ks,a < wW) (hd:ks.Nodup) (hN:ks.length≤4000000) (hsz:Maps.size D=ks.length)
  (h1:∀ kl,Maps.has D kl=true→∃ a∈ks,keyOf Tryz.prog 25 (wdV a)=some kl) (h2:∀ a∈ks,∀ kl,keyOf Tryz.prog 25 (wdV a)=some kl→Maps.has D kl=true)
  (hBm:Bm < w.heap.size) (hm:w.cell? ⟨Bm,0,none⟩=some (.map (some b))) (hown:w.ownsMap Tryz.prog 25 R0 b nn D) :
  Calls Tryz.prog 186 #[.func (.func 188) #[] #[.pointer (some ⟨Bm,0,none⟩)]] w fun e W' => ∃ v ss,e = .returned v∧ss.Perm ks∧W'.ownsRow w.heap.size 25 32 v ss.length (D3 ss)∧(v = .slice none 0 0↔ss = [])∧Below w.heap.size w W':=by
 refine (callsIn_wide (n:=4)).1 (B0C Fence.wide 4 trivial trivial trivial rfl (by omega) Bm ks w hN fun w' hb=>?_)
 refine B6m Fence.wide 2 trivial rfl (by omega) Bm b nn D ks w' hks hd hsz h1 h2 (Nat.lt_of_lt_of_le hBm hb.size) ((hb.cell (p:=⟨Bm,0,none⟩) hBm).trans hm) ?_
 have hbl:=hown.lt
 obtain ⟨es,clock,hbk,Ft,hs,hD⟩:=hown
 exact ⟨es,clock,(hb.block b hbl).trans hbk,Ft,hs,hD⟩
theorem A5t (m:Value) (w:World) (hm:m.oneCell'=true):Calls Tryz.prog 80 #[m] w fun e w'=>e = .returned (.func (.func 188) #[] #[.pointer (some ⟨w.heap.size,0,none⟩)])∧w'=w.alloc (.cells #[m] 84):=by
 go_enter Tryz.func80,Tryz.ntmps80
 go_wp2
 go_ret
 exact ⟨rfl,rfl⟩
end Go.Proofs.YtfflppedbopdpaaGreat
namespace Go.Proofs
open Go.Shelf
def Tryz.sortW_ren:Go.Shelf.Ren:=⟨fun | 6=>187 | 15=>272 | 14=>274 | 28=>338 | 29=>339 | 20=>340 | 21=>341 | 22=>342 | 23=>343 | 24=>344 | 25=>345 | 26=>346 | 27=>347 | 46=>366 | 47=>362 | 48=>363 | 49=>367 | 50=>368 | 57=>376 | n=>n,fun | 22=>56 | 24=>25 | 25=>132 | 3=>3 | 39=>89 | 0=>0 | 53=>315 | 55=>112 | 4=>4 | 46=>309 | 45=>308 | 50=>107 | 5=>5 | 9=>9 | 66=>332 | 70=>336 | 76=>347 | 77=>348 | n=>n,fun | n=>n⟩
theorem Tryz.sortW:Go.Proofs.SlLaysF0.n6 Tryz.prog Tryz.sortW_ren:={
 mixed:=by kernel_rfl
 f6:=⟨Tryz.f187.name,by decide,Tryz.func187.trans (congrArg some (by kernel_rfl))⟩
 f14:=⟨Tryz.f274.name,by decide,Tryz.func274.trans (congrArg some (by kernel_rfl))⟩
 f15:=Tryz.func272.trans (congrArg some (by kernel_rfl))
 f20:=⟨Tryz.f340.name,by decide,Tryz.func340.trans (congrArg some (by kernel_rfl))⟩
 f21:=⟨Tryz.f341.name,by decide,Tryz.func341.trans (congrArg some (by kernel_rfl))⟩
 f22:=⟨Tryz.f342.name,by decide,Tryz.func342.trans (congrArg some (by kernel_rfl))⟩
 f23:=⟨Tryz.f343.name,by decide,Tryz.func343.trans (congrArg some (by kernel_rfl))⟩
 f24:=⟨Tryz.f344.name,by decide,Tryz.func344.trans (congrArg some (by kernel_rfl))⟩
 f25:=⟨Tryz.f345.name,by decide,Tryz.func345.trans (congrArg some (by kernel_rfl))⟩
 f26:=⟨Tryz.f346.name,by decide,Tryz.func346.trans (congrArg some (by kernel_rfl))⟩
 f27:=⟨Tryz.f347.name,by decide,Tryz.func347.trans (congrArg some (by kernel_rfl))⟩
 f28:=Tryz.func338.trans (congrArg some (by kernel_rfl))
 f29:=Tryz.func339.trans (congrArg some (by kernel_rfl))
 f46:=⟨Tryz.f366.name,by decide,Tryz.func366.trans (congrArg some (by kernel_rfl))⟩
 f47:=Tryz.func362.trans (congrArg some (by kernel_rfl))
 f48:=Tryz.func363.trans (congrArg some (by kernel_rfl))
 f49:=⟨Tryz.f367.name,by decide,Tryz.func367.trans (congrArg some (by kernel_rfl))⟩
 f50:=⟨Tryz.f368.name,by decide,Tryz.func368.trans (congrArg some (by kernel_rfl))⟩
 f57:=⟨Tryz.f376.name,by decide,Tryz.func376.trans (congrArg some (by kernel_rfl))⟩
 t0:=Tryz.underlying0
 a0:=Tryz.isAgg0
 z0:=Tryz.sizeOf0
 v0:=Tryz.zeroValue0
 t3:=Tryz.underlying3
 a3:=Tryz.isAgg3
 z3:=Tryz.sizeOf3
 v3:=Tryz.zeroValue3
 t4:=Tryz.underlying4
 a4:=Tryz.isAgg4
 z4:=Tryz.sizeOf4
 v4:=Tryz.zeroValue4
 t5:=Tryz.underlying5
 a5:=Tryz.isAgg5
 z5:=Tryz.sizeOf5
 v5:=Tryz.zeroValue5
 t9:=Tryz.underlying9
 a9:=Tryz.isAgg9
 z9:=Tryz.sizeOf9
 v9:=Tryz.zeroValue9
 t22:=Tryz.underlying56
 a22:=Tryz.isAgg56
 z22:=Tryz.sizeOf56
 v22:=Tryz.zeroValue56
 t25:=Tryz.underlying132
 a25:=Tryz.isAgg132
 z25:=Tryz.sizeOf132
 v25:=Tryz.zeroValue132
 t39:=Tryz.underlying89
 a39:=Tryz.isAgg89
 z39:=Tryz.sizeOf89
 v39:=Tryz.zeroValue89
 t45:=Tryz.underlying308
 a45:=Tryz.isAgg308
 z45:=Tryz.sizeOf308
 v45:=Tryz.zeroValue308
 t46:=Tryz.underlying309
 a46:=Tryz.isAgg309
 z46:=Tryz.sizeOf309
 v46:=Tryz.zeroValue309
 t50:=Tryz.underlying107
 a50:=Tryz.isAgg107
 z50:=Tryz.sizeOf107
 v50:=Tryz.zeroValue107
 t53:=Tryz.underlying315
 a53:=Tryz.isAgg315
 z53:=Tryz.sizeOf315
 v53:=Tryz.zeroValue315
 t55:=Tryz.underlying112
 a55:=Tryz.isAgg112
 z55:=Tryz.sizeOf112
 v55:=Tryz.zeroValue112
 t66:=Tryz.underlying332
 a66:=Tryz.isAgg332
 z66:=Tryz.sizeOf332
 v66:=Tryz.zeroValue332
 t70:=Tryz.underlying336
 a70:=Tryz.isAgg336
 z70:=Tryz.sizeOf336
 v70:=Tryz.zeroValue336
 t76:=Tryz.underlying347
 a76:=Tryz.isAgg347
 z76:=Tryz.sizeOf347
 v76:=Tryz.zeroValue347
 t77:=Tryz.underlying348
 a77:=Tryz.isAgg348
 z77:=Tryz.sizeOf348
 v77:=Tryz.zeroValue348 }
end Go.Proofs
namespace Go.Proofs.YtfflppedbopdpaaGreat
open Go.RowKit Go.Mun Go.Maps Go.Shelf
theorem A4A (w:World):Calls Tryz.prog 187 #[.slice none 0 0,.func (.func 81) #[] #[]] w fun e w'=>e = .returned (.tuple #[])∧w'=w:=
 AnyF.slices_SortFunc_none Tryz.sortW none 0 (.func (.func 81) #[] #[]) w
theorem A4Z {w:World} {Bm q:Nat} (hBm:Bm < w.heap.size) (hm:w.cell? ⟨Bm,0,none⟩=some (.map (some q))) (hq:E1 wdV wW wdV w q []) :
  Calls Tryz.prog 79 #[.func (.func 188) #[] #[.pointer (some ⟨Bm,0,none⟩)],.func (.func 81) #[] #[]] w fun e w'=>e = .returned (.slice none 0 0)∧Below w.heap.size w w':=by
 obtain ⟨D,hD,hsz,h1,h2⟩:=hq.owns A6i (by decide)
 have hcol:=A5O Bm q 0 D [] w (by simp) List.nodup_nil (by decide) hsz h1 h2 hBm hm hD
 have hcol2:Calls Tryz.prog 186 #[.func (.func 188) #[] #[.pointer (some ⟨Bm,0,none⟩)]] w fun e w'=>e = .returned (.slice none 0 0)∧Below w.heap.size w w':=by
  refine Calls.mono hcol ?_
  rintro e w' ⟨v,ss,rfl,hp,_,hn,hB⟩
  exact ⟨by rw [hn.2 hp.eq_nil],hB⟩
 clear hcol hD h1 h2 hsz hm hq
 have hs:=A4A
 go_enter Tryz.func79,Tryz.ntmps79
 go_wp2_with (first
  | (go_at_call 186;refine hcol2.mono ?_;rintro e w1 ⟨rfl,hB⟩)
  | (go_at_call 187;refine (hs _).mono ?_;rintro e w2 ⟨rfl,rfl⟩))
 go_ret
 exact ⟨rfl,hB⟩
theorem A9P {sl:List (Nat × Nat)} {f:Nat→Nat} (h:A0E sl f) (hz:∀ k,f k=0):sl = []:=by
 cases sl with
 | nil=>rfl
 | cons p r =>
  have h1:=h.get p.1
  have h2:=(h.val p (by simp)).1
  rw [hz p.1] at h1
  have:I3 p.1 (p :: r)=some p.2:=by simp [I3]
  rw [this] at h1
  simp at h1
  omega
end Go.Proofs.YtfflppedbopdpaaGreat
namespace Go.Proofs.YtfflppedbopdpaaGreat
open Go.RowKit Go.Mun
theorem B60:A1n L8 = [20,1,32,1,1]:=by kernel_rfl
theorem C0m:A1l Tryz.prog 45 35 55 1 (B8 [B8 L8]):=⟨Tryz.underlying45,⟨_,.agg (B8 L8).toArray,rfl,by kernel_rfl,by kernel_rfl,by kernel_rfl⟩,by decide,by kernel_rfl,by decide⟩
def B4y (p:List (Nat × Value)):Option (List Value):=F8 (1*55) ((List.range 1).map fun i=>(i*55,55)) (B8 [B8 L8]) p
theorem C0I (ρ:Operand→Value) (dst:Option Tmp) (x:Operand) (t:TypeId) (pos:String) (after:Array Edge) (gd:Option (Nat × Bool)) (w:World) :
  (execOp ρ ⟨dst,.buildSlice 45 1 #[(0,x)],t,pos,after,gd⟩).run Tryz.prog w=E7 (A4w Tryz.prog 45 35 1 [(0,ρ x)] w (B4y [(0,ρ x)])):=
 A05 ρ dst t pos after gd w C0m [(0,x)]
@[go_sem] theorem B8P (c:List Value) (h:c.length=55):B4y [(0,.agg c.toArray)]=some c:=by
 unfold B4y
 have h1:A1n [B8 L8] = [55]:=by kernel_rfl
 have h3:N8 [B8 L8]=(List.range 1).map fun i=>(i*55,55):=by kernel_rfl
 rw [← h3,F7 _ _ _ (by kernel_rfl)]
 ·show some (B8 [c])=some c
  simp [B8]
 ·rw [h1]
  refine C0 ?_ (L0 _)
  show some 55=some c.length;rw [h]
attribute [go_sem ↓] C0I
theorem A0V:P4 Tryz.prog 45 35 (.agg (B8 L8).toArray) 55 112:=.mk' Tryz.underlying45 (by kernel_rfl) (by kernel_rfl) (by decide)
end Go.Proofs.YtfflppedbopdpaaGreat
namespace Go.Proofs.YtfflppedbopdpaaGreat
open Go.RowKit Go.Mun
theorem A3M (a:Option Addr) (n c:Nat) (l:List Int) (hn:n=l.length) (hn2:n≤70000000000000) (w:World) (hI:G9 w .u8 a c l) :
  Calls Tryz.prog 45 #[.slice a n c] w fun e w' => ∃ v,e = .returned v∧B5c w w' v l:=by
 cases a with
 | none =>
  have hc:=hI.nil rfl
  have hl:=hI.len
  subst hc
  have:l = []:=List.eq_nil_of_length_eq_zero (by omega)
  subst this
  subst hn
  have hq:=A5b w
  go_enter Tryz.func45,Tryz.ntmps45
  go_wp2
  go_ret
  exact ⟨_,rfl,⟨rfl,.inl ⟨rfl,rfl⟩⟩,Below.refl _ _⟩
 | some p =>
  have HI:=hid hI
  have HN:=hid hn
  have hq:=A6H n c p w
  have hm:n≤maxLen:=by unfold maxLen;omega
  have hs:=HI.out.below ((Below.refl _ _).alloc (Nat.le_refl _) (.cells #[] 5))
  have HS:=hid (G8.ints hs)
  have HO:Hid ((w.alloc (.cells #[] 5)).ownsRow w.heap.size 5 1 (.slice (some ⟨w.heap.size,0,none⟩) 0 0) 0 []):=World.ownsRow_lit (e:=5) (size:=1) w #[] 0 (Nat.le_refl _) (by decide) rfl
  clear hI hn hs
  go_enter Tryz.func45,Tryz.ntmps45
  go_wp2_with (at_builtin;go_must (refine A0S (base:=w.heap.size) (n:=0) (xs:=[]) A0n rfl _ _ rfl HO.out rfl rfl HN.out (HI.out.below ((Below.refl _ _).alloc (Nat.le_refl _) (.cells #[] 5))) ?c3 ?c4 ?c5 ?_))
  case c3=>omega
  case c4=>omega
  case c5=>simp
  intro v3 w3 ho3 hg3
  have H3:Hid (B5c w w3 v3 l):=by
   refine ⟨?_,((Below.refl _ _).alloc (Nat.le_refl _) _).grown hg3 (by simp) (fun k hk=>by simp [Value.ownBlock] at hk;omega)⟩
   rw [← HN.out];exact ho3
  clear ho3 hg3
  go_wp2
  go_ret
  exact ⟨_,rfl,H3.out⟩

def A6q (a:Nat) (x:Acc):Ac:=⟨a,(x.nonce:Int),x.bal,x.code⟩
def B1Q (S:St) (p:Nat × Value):List Value:=B8 (Q8 (A6q p.1 (S p.1)) p.2 (.slice none 0 0))
def A6p (S:St) (cs:List (Nat × Value)):List Value:=cs.flatMap (B1Q S)
theorem B3k (S:St) (cs:List (Nat × Value)) (p:Nat × Value):A6p S (cs++[p])=A6p S cs++B1Q S p:=by simp [A6p]
structure A1B (w0 w:World) (S:St) (v:Value) (cs:List (Nat × Value)):Prop where
 below:Below w0.heap.size w0 w
 own:w.ownsRow w0.heap.size 35 55 v cs.length (A6p S cs)
 code:∀ p∈cs,w.ownsRow w0.heap.size 5 1 p.2 (S p.1).code.length ((S p.1).code.map (Value.int .u8))
theorem A0y {w:World} {b b' e e' s s' n n':Nat} {v v':Value} {xs xs':List Value} (h:w.ownsRow b e s v n xs) (h':w.ownsRow b' e' s' v' n' xs') (he:e≠e'):v.ownBlock=none∨v.ownBlock≠v'.ownBlock:=by
 rcases h.2 with ⟨rfl,_⟩ | ⟨g,cap,cur,rfl,_,hg,_⟩
 ·exact .inl rfl
 ·rcases h'.2 with ⟨rfl,_⟩ | ⟨g',cap',cur',rfl,_,hg',_⟩
  ·exact .inr (by simp [Value.ownBlock])
  ·refine .inr fun e2=>?_
   have:g=g':=by simpa [Value.ownBlock] using e2
   subst this
   rw [hg] at hg'
   cases hg'
   exact he rfl
theorem A1B.start (w:World) (S:St):A1B w w S (.slice none 0 0) []:=⟨Below.refl _ _,World.ownsRow_nil _ _ _ _,fun p hp=>(by cases hp)⟩
theorem A1B.next {w0 w w':World} {S:St} {v:Value} {cs:List (Nat × Value)} (h:A1B w0 w S v cs) (hb:Below w.heap.size w w'):A1B w0 w' S v cs:=
 ⟨h.below.trans (hb.mono h.below.size),C3 h.own hb,fun p hp=>C3 (h.code p hp) hb⟩
theorem A1B.app {w0 w w':World} {S:St} {v v' cv:Value} {cs:List (Nat × Value)} {a:Nat} (h:A1B w0 w S v cs) (ho:w'.ownsRow w0.heap.size 35 55 v' (cs.length+1) (A6p S cs++B8 (Q8 (A6q a (S a)) cv (.slice none 0 0))))
  (hg:w.grownBy w' v.ownBlock) (hc:w.ownsRow w0.heap.size 5 1 cv (S a).code.length ((S a).code.map (Value.int .u8))):A1B w0 w' S v' (cs++[(a,cv)]):=by
 refine ⟨h.below.grown hg h.below.size (fun j hj=>(h.own.lt j hj).1),?_,fun p hp=>?_⟩
 ·rw [B3k,List.length_append];exact ho
 ·rcases List.mem_append.1 hp with h1 | h1
  ·exact (h.code p h1).kept hg (A0y (h.code p h1) h.own (by decide))
  ·rw [List.mem_singleton] at h1
   subst h1
   exact hc.kept hg (A0y hc h.own (by decide))
theorem A7g:∀ (l:List Nat) (i:Nat) (hi:i < l.length),((X0 l).drop (i*20)).take 20=A3 20 l[i]
 | [],i,hi=>by simp at hi
 | a :: l,0,_=>by
  have:X0 (a :: l)=A3 20 a++X0 l:=by simp [X0]
  rw [this,Nat.zero_mul,List.drop_zero,List.take_append_of_le_length (by simp),List.take_of_length_le (by simp)]
  rfl
 | a :: l,i+1,hi=>by
  have:X0 (a :: l)=A3 20 a++X0 l:=by simp [X0]
  have hlen:(A3 20 a).length=20:=by simp
  rw [this,show (i+1)*20=(A3 20 a).length+i*20 by rw [hlen];omega,← List.drop_drop,List.drop_left]
  simpa using A7g l i (by simpa using hi)
theorem B5E {w:World} {g:Nat} {l:List Nat} {i:Nat} (hr:w.row? g 0 (l.length*20)=some (X0 l)) (hi:i < l.length):w.row? g (i*20) 20=some (A3 20 l[i]):=by
 have h1:=World.row?_sub hr (o':=i*20) (n':=20) (by omega) (by omega)
 rw [h1,Nat.sub_zero,A7g l i hi]
theorem B1I (a:Nat) (n:Int) (b:Nat) (x:Option Addr) (k c:Nat) (code:J1):F8 55 (N8 L8) (B8 L8) [(0,.agg (A3 20 a).toArray),(1,.int .i64 n),(2,.agg (A3 32 b).toArray),(3,.slice x k c)]=some (B8 (Q8 ⟨a,n,b,code⟩ (.slice x k c) (.slice none 0 0))):=by
 rw [F7 _ _ _ W4]
 ·rfl
 ·rw [B60]
  refine C0 ?_ (C0 ?_ (C0 ?_ (C0 ?_ (L0 _))))
  ·show some 20=some (A3 20 a).length;rw [C4]
  ·rfl
  ·show some 32=some (A3 32 b).length;rw [C4]
  ·rfl
end Go.Proofs.YtfflppedbopdpaaGreat
namespace Go.Proofs.YtfflppedbopdpaaGreat
open Go.RowKit Go.Mun
def B1V (S:St) (l:List Nat):Prop:=l.Pairwise (· < ·)∧∀ a,a∈l↔a < wA∧¬ (S a).empty
theorem A5M (x:Acc):x.emptyB=true↔x.empty:=by unfold Acc.emptyB;simp
theorem B4m {S:St} {ks ss:List Nat} (hp:ss.Perm ks) (hd:ks.Nodup) (hlt:∀ a∈ks,a < wA) (hout:∀ a,a ∉ ks→S a=Acc.none) (hs:ss.Pairwise (·≤·)):B1V S (ss.filter fun a => !(S a).emptyB):=by
 refine ⟨?_,fun a=>?_⟩
 ·have h1:ss.Nodup:=hp.nodup_iff.2 hd
  have h2:ss.Pairwise (· < ·):=by
   have:=hs.and h1
   exact this.imp fun {a b} h=>by have:=h.1;have:=h.2;omega
  exact h2.filter _
 ·rw [List.mem_filter,hp.mem_iff]
  constructor
  ·rintro ⟨h1,h2⟩
   refine ⟨hlt a h1,fun h3=>?_⟩
   rw [(A5M _).2 h3] at h2
   cases h2
  ·rintro ⟨h1,h2⟩
   refine ⟨?_,?_⟩
   ·by_cases hm:a∈ks
    ·exact hm
    ·exact absurd (by rw [hout a hm];exact ⟨rfl,rfl,rfl,fun _=>rfl⟩) h2
   ·cases he:(S a).emptyB with
    | false=>rfl
    | true=>exact absurd ((A5M _).1 he) h2
theorem A1d {w:World} {b e s n:Nat} {v:Value} {xs:List Value} (h:w.ownsRow b e s v n xs):∃ ad c,v = .slice ad n c:=by
 rcases h.2 with ⟨rfl,rfl⟩ | ⟨g,cap,cur,rfl,_⟩
 ·exact ⟨none,0,rfl⟩
 ·exact ⟨_,_,rfl⟩
structure A0c (w wr:World) (S:St) (ss:List Nat) (kv v:Value) (i:Nat):Prop where
 r:∃ cs,A1B w wr S v cs∧cs.map Prod.fst=(ss.take i).filter fun a => !(S a).emptyB
 k:wr.ownsRow w.heap.size 23 20 kv ss.length (X0 ss)
theorem A0c.next {w wr w':World} {S:St} {ss:List Nat} {kv v:Value} {i:Nat} (h:A0c w wr S ss kv v i) (hb:Below wr.heap.size wr w'):A0c w w' S ss kv v i:=by
 obtain ⟨⟨cs,h1,h2⟩,h3⟩:=h
 exact ⟨⟨cs,h1.next hb,h2⟩,C3 h3 hb⟩
theorem A0c.below {w wr:World} {S:St} {ss:List Nat} {kv v:Value} {i:Nat} (h:A0c w wr S ss kv v i):Below w.heap.size w wr:=by
 obtain ⟨⟨cs,h1,_⟩,_⟩:=h
 exact h1.below
theorem A0c.skip {w wr:World} {S:St} {ss:List Nat} {kv v:Value} {i:Nat} (h:A0c w wr S ss kv v i) (hi:i < ss.length) (he:(S ss[i]).emptyB=true):A0c w wr S ss kv v (i+1):=by
 obtain ⟨⟨cs,h1,h2⟩,h3⟩:=h
 refine ⟨⟨cs,h1,?_⟩,h3⟩
 rw [List.take_succ_eq_append_getElem hi,List.filter_append,← h2]
 simp [he]
theorem A0c.more {w w7 w8:World} {S:St} {ss:List Nat} {kv v v' cv:Value} {i a:Nat} {cs:List (Nat × Value)} {x:Acc} {C:List Value} (h:A1B w w7 S v cs) (hk:w7.ownsRow w.heap.size 23 20 kv ss.length (X0 ss)) (hm:cs.map Prod.fst=(ss.take i).filter fun a => !(S a).emptyB)
  (ht:ss.take (i+1)=ss.take i++[a]) (hx:S a=x) (he:x.emptyB=false) (hC:C=B8 (Q8 (A6q a x) cv (.slice none 0 0))) (ho:w8.ownsRow w.heap.size 35 55 v' (cs.length+1) (A6p S cs++C))
  (hg:w7.grownBy w8 v.ownBlock) (hc:w7.ownsRow w.heap.size 5 1 cv x.code.length (x.code.map (Value.int .u8))):A0c w w8 S ss kv v' (i+1):=by
 subst hx
 refine ⟨⟨cs++[(a,cv)],h.app (by rw [← hC];exact ho) hg hc,?_⟩,hk.kept hg (A0y hk h.own (by decide))⟩
 rw [ht,List.filter_append,← hm,List.map_append]
 simp [he]
theorem A0c.len {ss:List Nat} {cs:List (Nat × Value)} {i:Nat} {f:Nat→Bool} (h:cs.map Prod.fst=(ss.take i).filter f):cs.length≤ss.length:=by
 have h1:=congrArg List.length h
 rw [List.length_map] at h1
 have h2:=List.length_filter_le f (ss.take i)
 rw [List.length_take] at h2
 omega
theorem A79 (x:Ac) (p:Option Addr) (n c:Nat):Q3 55 (B8 (Q8 x (.slice p n c) (.slice none 0 0)))=true:=by
 refine A0Y (K0 _ _ _) fun s hs=>?_
 simp only [Q8,List.mem_cons,List.not_mem_nil,or_false] at hs
 rcases hs with rfl | rfl | rfl | rfl | rfl
 all_goals first | rfl | (rw [C4];exact D2 _ _)
theorem A8u {w:World} {own:Go.Mun.Own} {sb:Nat} {S:St} {M:List (Nat × St)} {n:Nat} (h:StateAt TU w own sb S M n) (hn:n≤3000000) (hz:∀ a k,(S a).slots k=0) :
  Calls Tryz.prog 41 #[.pointer (some ⟨sb,0,none⟩)] w fun e w' => ∃ v cs,e = .returned v∧A1B w w' S v cs∧B1V S (cs.map Prod.fst)∧cs.length≤4000000:=by
 obtain ⟨mb,uv,mv,last,E,U,mk,hs,-,-,-,-,hE⟩:=h
 obtain ⟨c0,_⟩:=hs.cells
 have hElt:∀ a∈E.map Prod.fst,a < wA:=by
  intro a ha
  obtain ⟨es,clock,_,_,hN,_⟩:=hs.map
  obtain ⟨p,hp,rfl⟩:=List.mem_map.1 ha
  exact hN p hp
 have hEn:=hs.map.nodup
 have hEl:(E.map Prod.fst).length≤4000000:=by rw [List.length_map];omega
 have hout:∀ a,a ∉ E.map Prod.fst→S a=Acc.none:=fun a ha=>by
  rcases A3l hs a with ⟨p,hp,_⟩ | ⟨_,h2⟩
  ·exact absurd (List.mem_map.2 ⟨_,L7 hp,rfl⟩) ha
  ·exact h2
 have hin:∀ a,a∈E.map Prod.fst→∃ p,I3 a E=some p∧L5 w own p (S a):=fun a ha=>by
  rcases A3l hs a with h1 | ⟨h2,_⟩
  ·exact h1
  ·obtain ⟨q,hq,rfl⟩:=List.mem_map.1 ha;exact absurd rfl (J7 h2 q hq)
 have hSF:Calls Tryz.prog 75 #[.func (.func 184) #[] #[.pointer (some ⟨w.heap.size,0,none⟩)],.func (.func 77) #[] #[]] (w.alloc (.cells #[.map (some mb)] 90)) fun e W' => ∃ v ss,e = .returned v∧ss.Perm (E.map Prod.fst)∧ss.Pairwise (·≤·)∧W'.ownsRow (w.alloc (.cells #[.map (some mb)] 90)).heap.size 23 20 v ss.length (X0 ss)∧Below (w.alloc (.cells #[.map (some mb)] 90)).heap.size (w.alloc (.cells #[.map (some mb)] 90)) W':=by
  have hm1:E1 adV wA ptV (w.alloc (.cells #[.map (some mb)] 90)) mb E:=hs.map.below ((Below.refl _ _).alloc (Nat.le_refl _) _)
  obtain ⟨D,hD,hsz,h1,h2⟩:=hm1.owns A0Z (by unfold maxLen;rw [List.length_map] at hEl;omega)
  have hcell:(w.alloc (.cells #[.map (some mb)] 90)).cell? ⟨w.heap.size,0,none⟩=some (.map (some mb)):=by
   have:=World.alloc_heap_new w (.cells #[.map (some mb)] 90)
   unfold World.cell?
   simp only [this]
   rfl
  exact A7v _ _ _ hElt hEl (A6n w.heap.size mb E.length D (E.map Prod.fst) _ hElt hEn hEl (by rw [List.length_map];exact hsz) h1 h2 (by simp) hcell hD)
 have HSF:=hid hSF
 have HS:=hid hs
 have HIN:=hid hin
 have HOUT:=hid hout
 have HEL:=hid hElt
 have HEN:=hid hEn
 have HEB:=hid hEl
 have HZ:=hid hz
 clear hSF hs hin hout hElt hEn hEl hz hE
 go_enter Tryz.func41,Tryz.ntmps41
 go_wp2_with (first
  | (go_at_call 76;refine (B2B _ _ rfl).mono ?_;rintro e w1 ⟨rfl,rfl⟩)
  | (go_at_call 75;refine HSF.out.mono ?_;rintro e w2 ⟨kv,ss,rfl,hp,hpw,hrow,hB⟩;obtain ⟨ad,cap,rfl⟩:=A1d hrow))
 have hB2:Below w.heap.size w w2:=((Below.refl _ w).alloc (Nat.le_refl _) _).trans (hB.mono (by simp))
 have hrow2:w2.ownsRow w.heap.size 23 20 (.slice ad ss.length cap) ss.length (X0 ss):=by
  refine ⟨hrow.1,hrow.2.imp id ?_⟩
  rintro ⟨g,cap',cur,h1,h2,h3⟩
  exact ⟨g,cap',cur,h1,by simp at h2;omega,h3⟩
 have HI0:Hid (A0c w w2 S ss (.slice ad ss.length cap) (.slice none 0 0) 0):=⟨⟨[],(A1B.start w S).next hB2,rfl⟩,hrow2⟩
 have HP:=hid hp
 have HPW:=hid hpw
 have hssl:ss.length≤4000000:=by rw [hp.length_eq];exact HEB.out
 clear hB hB2 hrow hrow2 hp hpw c0
 go_wp2_with fail
 go_loopw [3,17] (fun v idx wr => ∃ i:Nat,i≤ss.length∧idx = .int .i64 (i:Int)∧A0c w wr S ss (.slice ad ss.length cap) v i) (fun _ i _=>ss.length - (intOf i).toNat)
 case atStart=>exact ⟨0,by omega,rfl,HI0.out⟩
 case round =>
  rename World=>wo
  clear HI0 HSF
  obtain ⟨i,hi,rfl,hr⟩:=hrel
  have HR:=hid hr
  clear hr
  by_cases hlt:i < ss.length
  ·have hmem:ss[i]∈E.map Prod.fst:=HP.out.mem_iff.1 (List.getElem_mem hlt)
   have hlA:=HEL.out _ hmem
   obtain ⟨p,hp,hacc⟩:=HIN.out _ hmem
   obtain ⟨g,c2,hkv,_,_,hc2,hkr,_⟩:=J5 HR.out.k (by omega)
   cases hkv
   have hkr2:=B5E hkr hlt
   have hiI:(i:Int) < ss.length:=by omega
   have hok:=D2 20 ss[i]
   have hbx:=A2c (w:=wo) (t:=23) (n:=20) (zU8_len 20) hok
   have hf1:(wo.alloc (.cells (J4 20).toArray 23)).free? wo.heap.size 0 20=true:=World.free?_alloc_at _ _ rfl (by rw [zU8_len];omega)
   obtain ⟨w1,e1⟩:∃ w1,w1=(wo.alloc (.cells (J4 20).toArray 23)).setCells wo.heap.size 0 (A3 20 ss[i]):=⟨_,rfl⟩
   rw [← e1] at hbx
   have HE1:=hid e1
   have HSK:=hid (fun he=>HR.out.skip hlt he)
   have HTK:=hid (List.take_succ_eq_append_getElem hlt)
   have hbS:Below w.heap.size w w1:=HR.out.below.trans (hbx.1.mono HR.out.below.size)
   have hbD:Below w.heap.size w w1.drew:=hbS.trans ((Below.refl _ _).drew.mono hbS.size)
   have hacc1:=hacc.only_out (R:=fun _=>False) (A0.of_below_size hbD) (fun _ h=>h.elim)
   have l1:=(HS.out.map.below hbD).look A0Z Tryz.underlying90 (A0N _) hlA
   rw [hp] at l1
   have l2:(Instr.lookup 90 (.map (some mb)) (.agg (A3 20 ss[i]).toArray) false).run Tryz.prog w1.drew = .ok (.pointer (some ⟨p,0,none⟩)) w1.drew:=l1
   obtain ⟨c1,_⟩:=(HS.out.only (R:=fun _=>False) (A0.of_below_size hbD) (fun _ h=>h.elim)).cells
   have r1:w1.drew.row? wo.heap.size 0 20=some (A3 20 ss[i]):=hbx.2
   have HBX:=hid hbx.1
   have HACC:=hid hacc1
   have HN1:=hid (HR.out.next hbx.1)
   clear hmem hp hacc hkr hbx e1 hbS hbD hacc1 l1
   generalize ss[i]=a at *
   have hlen:=K6 hok
   go_wp2_with fail
   rw [← HE1.out]
   refine wp_region_still_lit (by kernel_rfl) (by kernel_rfl) ?_
   change wpStill _ _ (World.drew _) _ _ _
   repeat still_step
   refine wpStill_nil ?_
   have HEM:=hid (A9l HACC.out.r)
   cases hemp:(S a).emptyB with
   | true =>
    rw [hemp] at HEM
    go_wp2_with (go_at_call 44;refine HEM.out.mono ?_;rintro e w2 ⟨rfl,rfl⟩)
    have hk1:IntKind.i64.wrap ((i:Int)+1)=((i+1:Nat):Int):=by rw [U6 _ (by omega) (by omega)];omega
    go_roundw
    case rel=>exact ⟨i+1,by omega,by go_num,(HSK.out hemp).next (HBX.out.trans ((Below.refl _ _).drew.mono HBX.out.size))⟩
    case measure=>simp [intOf];omega
   | false =>
    rw [hemp] at HEM
    obtain ⟨cv,q,sl,hrow,hcode,_,hmq,hsl⟩:=HACC.out.cells
    obtain ⟨⟨ca,cc,rfl,hints,_⟩,_,hcl⟩:=hcode
    obtain rfl:sl = []:=A9P hsl (HZ.out a)
    have hxn:=HACC.out.nonce
    have hxb:=HACC.out.bal
    have HCI:=hid hints
    have HCL:=hid hcl
    have HMQ:=hid hmq
    have HND:Hid (A0c w w1.drew S ss (.slice (some ⟨g,0,none⟩) ss.length cap) u3 i):=HN1.out.next (Below.refl _ _).drew
    clear hints hcl hmq hsl HSK l2 c1 hkr2
    generalize hX:S a=x at *
    have HX:=hid hX
    clear hX
    obtain ⟨nn,bal,code,slots⟩:=x
    simp only at *
    go_wp2_with (go_at_call 44;refine HEM.out.mono ?_;rintro e w2 ⟨rfl,rfl⟩)
    have HB1:Hid (Below wo.heap.size wo w1.drew):=HBX.out.trans ((Below.refl _ _).drew.mono HBX.out.size)
    have HR1:Hid (w1.drew.row? p 0 35=some (X4 nn bal (.slice ca code.length cc) (.map (some q)))):=hrow
    have HR2:Hid (w1.drew.row? wo.heap.size 0 20=some (A3 20 a)):=r1
    have hwo:wo.heap.size < w1.drew.heap.size:=World.row?_lt r1
    have hpl:p < w1.drew.heap.size:=World.row?_lt hrow
    clear HBX HE1 HACC HEM hrow r1 hf1 HN1
    generalize w1.drew=v0 at *
    obtain ⟨T,hT⟩:∃ T:World→Prop,T=fun w'=>w'.row? wo.heap.size 0 20=some (A3 20 a)∧w'.row? p 0 35=some (X4 nn bal (.slice ca code.length cc) (.map (some q))):=⟨_,rfl⟩
    have HT:=hid hT
    have tb:∀ w2 w3,T w2→Below w2.heap.size w2 w3→T w3:=by
     rw [hT];intro w2 w3 h hb
     exact ⟨((C7 hb).1 _ _ _ (World.row?_lt h.1)).trans h.1,((C7 hb).1 _ _ _ (World.row?_lt h.2)).trans h.2⟩
    have HTB:=hid tb
    have t0:T v0.drew:=by rw [hT];exact ⟨HR2.out,HR1.out⟩
    have HI0:Hid (G9 v0.drew .u8 ca cc code):=HCI.out.below (Below.refl _ _).drew
    have hcl2:code.length≤70000000000000:=by have:=HCL.out;omega
    have hokb:=D2 32 bal
    have hz55:=W4
    have HND2:Hid (A0c w v0.drew S ss (.slice (some ⟨g,0,none⟩) ss.length cap) u3 i):=HND.out.next (Below.refl _ _).drew
    have HMQ2:Hid (E1 wdV wW wdV v0.drew q []):=HMQ.out.below (Below.refl _ _).drew
    clear hT tb HND HMQ HB1 HR1 HR2 HCI
    refine A7 T [16] (.take 0 (.pure 1 (.pure 2 (.pure 3 (.take 4 (.pure 5 (.pure 6 (.pure 7 (.take 8 (.pure 9 (.pure 10 (.pure 11 (.take 12 (.alt 13 (.pure 14 (.alt 15 (.alt 16 .fin .stop) .stop)) (.alt 15 (.alt 13 (.pure 14 (.alt 16 .fin .stop)) .stop) .stop))))))))))))))) (by kernel_rfl) (by kernel_rfl) ?_
    generalize v0.drew=v1 at *
    iterate 13
     first
     |refine A9 ?_ t0 rfl (by rfl) (fun w' hs=>?_) (fun _ _ _ h=>h) ?_
      rotate_left
      ·rw [HT.out] at hs
       obtain ⟨q1,q2⟩:=hs;obtain ⟨z0,z1,z33,z34⟩:=X3 q2
       go_simp
       try rfl
      simp only [Act.put,D7,D6,D5]
     |refine A2 ?_ rfl (by rfl) (fun w' hs=>?_) (fun _ _ _ h=>h) ?_
      rotate_left
      ·clear hs
       go_simp
       try rfl
      simp only [Act.put,D7,D6,D5]
    refine P6 rfl (fun K hK=>?_) ?_
    ·go_simp
     refine (A3M ca code.length cc code rfl hcl2 _ HI0.out).mono ?_
     rintro e w3 ⟨cw,rfl,hnb⟩
     have t3:T w3:=HTB.out _ _ t0 hnb.below
     have HNB:=hid hnb
     obtain ⟨cwa,cwc,hcw⟩:=A1d hnb.own
     clear hnb
     subst hcw
     have hbuild:=B1I a nn bal cwa code.length cwc code
     refine hK.out _ _ t3 ?_
     clear hK K
     refine A2 ?_ rfl (by rfl) (fun w' hs=>?_) (fun _ _ _ h=>h) ?_
     rotate_left
     ·clear hs
      refine (B3a _ _ _ _ _ _ _ _).trans ?_
      refine (congrArg (fun r=>E7 (V8 Tryz.prog 35 _ _ r)) hbuild).trans ?_
      rfl
     simp only [Act.put,D7,D6,D5]
     refine A5 rfl (fun K hK=>?_)
     go_simp
     have hbm:Below w3.heap.size w3 (World.alloc w3 (.cells (B8 L8).toArray 35)):=(Below.refl _ _).alloc (Nat.le_refl _) _
     have tA:T (World.alloc w3 (.cells (B8 L8).toArray 35)):=HTB.out _ _ t3 hbm
     clear hbm
     refine hK.out _ _ tA ?_
     clear hK K
     refine J8 rfl (by simp) (fun K hK=>?_)
     have hfs:(World.alloc w3 (.cells (B8 L8).toArray 35)).free? w3.heap.size 0 55=true:=World.free?_alloc_at _ _ rfl (by rw [hz55];omega)
     have hok5:=A79 ⟨a,(nn:Int),bal,code⟩ cwa code.length cwc
     go_simp
     refine hK.out _ _ ?_
     clear hK K
     refine C2 ?_
     obtain ⟨w5,e5⟩:∃ w5,w5=World.setCells (World.alloc w3 (.cells (B8 L8).toArray 35)) w3.heap.size 0 (B8 (Q8 ⟨a,(nn:Int),bal,code⟩ (.slice cwa code.length cwc) (.slice none 0 0))):=⟨_,rfl⟩
     have hb3:Below v1.heap.size v1 w3:=HNB.out.below
     have hs3:=hb3.size
     have hb5:Below v1.heap.size v1 w5:=by rw [e5];exact (hb3.trans ((Below.refl _ _).alloc hs3 _)).setCells (by omega) _ _
     have r5:w5.row? w3.heap.size 0 55=some (B8 (Q8 ⟨a,(nn:Int),bal,code⟩ (.slice cwa code.length cwc) (.slice none 0 0))):=by
      rw [e5,World.row?_setCells_lay 0 _ (Nat.le_refl _) (by rw [K0];omega)]
      rw [World.row?_alloc_at _ _ _ rfl hz55]
      show some (lay (B8 L8) 0 _)=_
      rw [A19 _ _ (by rw [K0,hz55])]
     have ho5:w5.ownsRow v1.heap.size 5 1 (.slice cwa code.length cwc) code.length (code.map (Value.int .u8)):=by
      rw [e5]
      exact C3 HNB.out.own (((Below.refl _ _).alloc (Nat.le_refl _) _).setCells (Nat.le_refl _) _ _)
     have hcodeO:Hid (w5.ownsRow w.heap.size 5 1 (.slice cwa code.length cwc) code.length (code.map (Value.int .u8))):=D9 ho5 (by have:=HND2.out.below.size;omega)
     have HN5:=hid (HND2.out.next hb5)
     have HMQ5:=hid (HMQ2.out.below hb5)
     have q5:w5.row? p 0 35=some (X4 nn bal (.slice ca code.length cc) (.map (some q))):=by rw [HT.out] at t0;exact ((C7 hb5).1 _ _ _ (World.row?_lt t0.2)).trans t0.2
     obtain ⟨z0,z1,z33,z34⟩:=X3 q5
     have hlt5:w3.heap.size < w5.heap.size:=World.row?_lt r5
     have HR5:=hid r5
     have HE5:=hid e5
     rw [← e5]
     clear e5 hb3 hs3 hb5 ho5 r5 q5 z0 z1 z33 hbuild hfs hok5 t0 t3 tA HND2 HMQ2 HNB
     have hq6:E1 wdV wW wdV (w5.alloc (.cells #[.map (some q)] 84)) q []:=HMQ5.out.below ((Below.refl _ _).alloc (Nat.le_refl _) _)
     have hc6:(w5.alloc (.cells #[.map (some q)] 84)).cell? ⟨w5.heap.size,0,none⟩=some (.map (some q)):=by
      have:=World.alloc_heap_new w5 (.cells #[.map (some q)] 84)
      unfold World.cell?
      simp only [this]
      rfl
     have HWN:=hid (A4Z (by simp) hc6 hq6)
     clear hq6 hc6
     go_wp2_with (first
      | (go_at_call 80;refine (A5t _ _ rfl).mono ?_;rintro e w6 ⟨rfl,rfl⟩)
      | (go_at_call 79;refine HWN.out.mono ?_;rintro e w7 ⟨rfl,hB7⟩))
     have hb7:Below w5.heap.size w5 w7:=((Below.refl _ _).alloc (Nat.le_refl _) _).trans (hB7.mono (by simp))
     have HN7:=hid (HN5.out.next hb7)
     have HC7:=hid (C3 hcodeO.out hb7)
     have HR7:Hid (w7.row? w3.heap.size 0 55=some (B8 (Q8 ⟨a,(nn:Int),bal,code⟩ (.slice cwa code.length cwc) (.slice none 0 0)))):=by rw [← HR5.out];exact (C7 hb7).1 _ _ _ hlt5
     clear HWN hB7 hb7 HN5 hcodeO HR5 HE5 z34 hlt5
     go_loopw [51] (fun ix wz=>ix = .int .i64 0∧wz=w7) (fun _ _=>0)
     case atStart=>exact ⟨rfl,rfl⟩
     case round =>
      obtain ⟨rfl,rfl⟩:=hrel
      rename World=>w7
      obtain ⟨⟨cs,hA,hcm⟩,hkk⟩:=HN7.out
      have hcsl:=A0c.len hcm
      have hr7:=HR7.out
      obtain ⟨C,hC⟩:∃ C,C=B8 (Q8 ⟨a,(nn:Int),bal,code⟩ (.slice cwa code.length cwc) (.slice none 0 0)):=⟨_,rfl⟩
      rw [← hC] at hr7
      have hokC:Q3 55 C=true:=by rw [hC];exact A79 _ _ _ _
      have hlC:=K6 hokC
      have HC:=hid hC
      have HA:=hid hA
      have HKK:=hid hkk
      have HCM:=hid hcm
      clear hC hA hkk hcm HN7 HR7
      go_wp2_with (at_builtin;go_must (refine X7 (base:=w.heap.size) (n:=cs.length) (xs:=A6p S cs) A0V rfl _ _ rfl rfl rfl ?own ?c0 ?c1 ?c3 ?c4 ?c5 ?_))
      case own=>exact HA.out.own
      case c0=>simp
      case c1=>exact hokC
      case c3=>unfold maxLen;omega
      case c4=>omega
      case c5=>have:=HA.out.below.size;simp;omega
      intro v' w8 ho hg _
      have HNX:=hid (A0c.more HA.out HKK.out HCM.out HTK.out HX.out hemp HC.out ho hg HC7.out)
      clear ho hg
      have hk1:IntKind.i64.wrap ((i:Int)+1)=((i+1:Nat):Int):=by rw [U6 _ (by omega) (by omega)];omega
      go_wp2
      go_roundw
      case rel=>exact ⟨i+1,by omega,by go_num,HNX.out⟩
      case measure=>simp [intOf];omega
    refine A5 rfl (fun K hK=>?_)
    go_simp
    have hbm:Below v1.heap.size v1 (World.alloc v1 (.cells (B8 L8).toArray 35)):=(Below.refl _ _).alloc (Nat.le_refl _) _
    have tA:T (World.alloc v1 (.cells (B8 L8).toArray 35)):=HTB.out _ _ t0 hbm
    have HIA:=hid (HI0.out.below hbm)
    clear hbm
    refine hK.out _ _ tA ?_
    clear hK K
    refine A5 rfl (fun K hK=>?_)
    go_simp
    refine (A3M ca code.length cc code rfl hcl2 _ HIA.out).mono ?_
    rintro e w3 ⟨cw,rfl,hnb⟩
    have t3:T w3:=HTB.out _ _ tA hnb.below
    have HNB:=hid hnb
    obtain ⟨cwa,cwc,hcw⟩:=A1d hnb.own
    clear hnb
    subst hcw
    have hbuild:=B1I a nn bal cwa code.length cwc code
    refine hK.out _ _ t3 ?_
    clear hK K
    refine A2 ?_ rfl (by rfl) (fun w' hs=>?_) (fun _ _ _ h=>h) ?_
    rotate_left
    ·clear hs
     refine (B3a _ _ _ _ _ _ _ _).trans ?_
     refine (congrArg (fun r=>E7 (V8 Tryz.prog 35 _ _ r)) hbuild).trans ?_
     rfl
    simp only [Act.put,D7,D6,D5]
    refine J8 rfl (by simp) (fun K hK=>?_)
    have hfs:w3.free? v1.heap.size 0 55=true:=by rw [(C7 HNB.out.below).2 _ _ _ (by simp)];exact World.free?_alloc_at _ _ rfl (by rw [hz55];omega)
    have hok5:=A79 ⟨a,(nn:Int),bal,code⟩ cwa code.length cwc
    go_simp
    refine hK.out _ _ ?_
    clear hK K
    refine C2 ?_
    obtain ⟨w5,e5⟩:∃ w5,w5=World.setCells w3 v1.heap.size 0 (B8 (Q8 ⟨a,(nn:Int),bal,code⟩ (.slice cwa code.length cwc) (.slice none 0 0))):=⟨_,rfl⟩
    have hb3:Below v1.heap.size v1 w3:=((Below.refl _ _).alloc (Nat.le_refl _) _).trans (HNB.out.below.mono (by simp))
    have hs3:=hb3.size
    have hb5:Below v1.heap.size v1 w5:=by rw [e5];exact hb3.setCells (Nat.le_refl _) _ _
    have r5:w5.row? v1.heap.size 0 55=some (B8 (Q8 ⟨a,(nn:Int),bal,code⟩ (.slice cwa code.length cwc) (.slice none 0 0))):=by
     rw [e5,World.row?_setCells_lay 0 _ (Nat.le_refl _) (by rw [K0];omega)]
     rw [(C7 HNB.out.below).1 _ _ _ (by simp),World.row?_alloc_at _ _ _ rfl hz55]
     show some (lay (B8 L8) 0 _)=_
     rw [A19 _ _ (by rw [K0,hz55])]
    have ho5:w5.ownsRow (World.alloc v1 (.cells (B8 L8).toArray 35)).heap.size 5 1 (.slice cwa code.length cwc) code.length (code.map (Value.int .u8)):=by
     rw [e5]
     exact A0.own HNB.out.own ((A0.refl (· = v1.heap.size) _).setCells (fun _=>rfl) _ _) (fun gg hg hx=>by have h1:=(HNB.out.own.lt gg hg).1;have h2:gg=v1.heap.size:=hx;simp at h1;omega)
    have hcodeO:Hid (w5.ownsRow w.heap.size 5 1 (.slice cwa code.length cwc) code.length (code.map (Value.int .u8))):=D9 ho5 (by have:=HND2.out.below.size;simp;omega)
    have HN5:=hid (HND2.out.next hb5)
    have HMQ5:=hid (HMQ2.out.below hb5)
    have q5:w5.row? p 0 35=some (X4 nn bal (.slice ca code.length cc) (.map (some q))):=by rw [HT.out] at t0;exact ((C7 hb5).1 _ _ _ (World.row?_lt t0.2)).trans t0.2
    obtain ⟨z0,z1,z33,z34⟩:=X3 q5
    have hlt5:v1.heap.size < w5.heap.size:=World.row?_lt r5
    have HR5:=hid r5
    have HE5:=hid e5
    rw [← e5]
    clear e5 hb3 hs3 hb5 ho5 r5 q5 z0 z1 z33 hbuild hfs hok5 t0 t3 tA HND2 HMQ2 HNB
    have hq6:E1 wdV wW wdV (w5.alloc (.cells #[.map (some q)] 84)) q []:=HMQ5.out.below ((Below.refl _ _).alloc (Nat.le_refl _) _)
    have hc6:(w5.alloc (.cells #[.map (some q)] 84)).cell? ⟨w5.heap.size,0,none⟩=some (.map (some q)):=by
     have:=World.alloc_heap_new w5 (.cells #[.map (some q)] 84)
     unfold World.cell?
     simp only [this]
     rfl
    have HWN:=hid (A4Z (by simp) hc6 hq6)
    clear hq6 hc6
    go_wp2_with (first
     | (go_at_call 80;refine (A5t _ _ rfl).mono ?_;rintro e w6 ⟨rfl,rfl⟩)
     | (go_at_call 79;refine HWN.out.mono ?_;rintro e w7 ⟨rfl,hB7⟩))
    have hb7:Below w5.heap.size w5 w7:=((Below.refl _ _).alloc (Nat.le_refl _) _).trans (hB7.mono (by simp))
    have HN7:=hid (HN5.out.next hb7)
    have HC7:=hid (C3 hcodeO.out hb7)
    have HR7:Hid (w7.row? v1.heap.size 0 55=some (B8 (Q8 ⟨a,(nn:Int),bal,code⟩ (.slice cwa code.length cwc) (.slice none 0 0)))):=by rw [← HR5.out];exact (C7 hb7).1 _ _ _ hlt5
    clear HWN hB7 hb7 HN5 hcodeO HR5 HE5 z34 hlt5
    go_loopw [51] (fun ix wz=>ix = .int .i64 0∧wz=w7) (fun _ _=>0)
    case atStart=>exact ⟨rfl,rfl⟩
    case round =>
     obtain ⟨rfl,rfl⟩:=hrel
     rename World=>w7
     obtain ⟨⟨cs,hA,hcm⟩,hkk⟩:=HN7.out
     have hcsl:=A0c.len hcm
     have hr7:=HR7.out
     obtain ⟨C,hC⟩:∃ C,C=B8 (Q8 ⟨a,(nn:Int),bal,code⟩ (.slice cwa code.length cwc) (.slice none 0 0)):=⟨_,rfl⟩
     rw [← hC] at hr7
     have hokC:Q3 55 C=true:=by rw [hC];exact A79 _ _ _ _
     have hlC:=K6 hokC
     have HC:=hid hC
     have HA:=hid hA
     have HKK:=hid hkk
     have HCM:=hid hcm
     clear hC hA hkk hcm HN7 HR7
     go_wp2_with (at_builtin;go_must (refine X7 (base:=w.heap.size) (n:=cs.length) (xs:=A6p S cs) A0V rfl _ _ rfl rfl rfl ?own ?c0 ?c1 ?c3 ?c4 ?c5 ?_))
     case own=>exact HA.out.own
     case c0=>simp
     case c1=>exact hokC
     case c3=>unfold maxLen;omega
     case c4=>omega
     case c5=>have:=HA.out.below.size;simp;omega
     intro v' w8 ho hg _
     have HNX:=hid (A0c.more HA.out HKK.out HCM.out HTK.out HX.out hemp HC.out ho hg HC7.out)
     clear ho hg
     have hk1:IntKind.i64.wrap ((i:Int)+1)=((i+1:Nat):Int):=by rw [U6 _ (by omega) (by omega)];omega
     go_wp2
     go_roundw
     case rel=>exact ⟨i+1,by omega,by go_num,HNX.out⟩
     case measure=>simp [intOf];omega
  ·have hin:i=ss.length:=by omega
   have hiI:¬ (i:Int) < ss.length:=by omega
   have HRR:=hid HR.out
   obtain ⟨⟨cs,hA,hcm⟩,_⟩:=HR.out
   have hcl:=A0c.len hcm
   rw [hin,List.take_length] at hcm
   have hL:=B4m HP.out HEN.out HEL.out HOUT.out HPW.out
   rw [← hcm] at hL
   have HF:Hid (A1B w wo S u3 cs∧B1V S (cs.map Prod.fst)∧cs.length≤4000000):=⟨hA,hL,by omega⟩
   clear hA hcm hL hin hcl
   go_wp2
   go_ret
   exact ⟨_,rfl,cs,HF.out.1,HF.out.2⟩
end Go.Proofs.YtfflppedbopdpaaGreat
