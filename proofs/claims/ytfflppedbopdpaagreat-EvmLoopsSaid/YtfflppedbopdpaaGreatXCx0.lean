/- A part of the proof of EvmLoops: XCx0. -/
import Derived.Test.YtfflppedbopdpaaGreatXWrd4
import Derived.Test.YtfflppedbopdpaaGreatXNw1
import Derived.Test.YtfflppedbopdpaaGreatXEv16
import Derived.Lib.Bytealg
import Derived.Sort.Statements
import Derived.Test.YtfflppedbopdpaaGreatXRef1
import Derived.Test.YtfflppedbopdpaaGreatXEv1
import Derived.Test.YtfflppedbopdpaaGreatXTy3
import Derived.Test.YtfflppedbopdpaaGreatXSeq
import Derived.Sort.Grow
import Derived.Test.YtfflppedbopdpaaGreatXMap
import Derived.Sort.MapsRangeIn
import Derived.RangeFuncSeq
import Derived.Test.YtfflppedbopdpaaGreatXTy
import Derived.Test.YtfflppedbopdpaaGreatXPlain
import Derived.RangeFuncNested
import Derived.RangeFuncBound
import Derived.RangeFuncCalls
import Derived.RangeFuncLeaves
import Derived.Shelf.Abstract
import Derived.Shelf.RegionOpen
import Derived.WalkKit
import Derived.OwnWalkIn
import Derived.TacticsInMore
import Derived.LoopNIn
import Derived.LoopIn
import Derived.Maps.AppendAt
import Derived.Shelf.SlSortCmp.InsertionK
set_option linter.unusedVariables false
set_option maxRecDepth 1000000
set_option maxHeartbeats 8000000
set_option linter.unusedSimpArgs false
namespace Go.Mun
open Go.RowKit

structure Kep (w:World) (rs:List (Nat × Nat × List Value)) (W:World):Prop where
 below:Below w.heap.size w W
 row:∀ r∈rs,W.row? r.1 0 r.2.1=some r.2.2
 free:∀ r∈rs,W.free? r.1 0 r.2.1=true
theorem B28 {w:World} {b o n:Nat} (h:w.free? b o n=true):b < w.heap.size:=by
 unfold World.free? at h
 cases e:w.heap[b]? with
 | none=>rw [e] at h;cases h
 | some x=>exact (Array.getElem?_eq_some_iff.1 e).1
section
variable {w W W':World} {rs:List (Nat × Nat × List Value)}
theorem Kep.start (w:World):Kep w [] w:=⟨Below.refl _ _,fun _ h=>(by cases h),fun _ h=>(by cases h)⟩
theorem Kep.lt (h:Kep w rs W):∀ x∈rs,x.1 < W.heap.size:=fun x hx=>World.row?_lt (h.row x hx)
theorem Kep.get (h:Kep w rs W) {b n:Nat} {L:List Value} (hm:(b,n,L)∈rs):W.row? b 0 n=some L:=h.row _ hm
theorem Kep.fr (h:Kep w rs W) {b n:Nat} {L:List Value} (hm:(b,n,L)∈rs):W.free? b 0 n=true:=h.free _ hm
theorem Kep.next (h:Kep w rs W) (hb:Below W.heap.size W W'):Kep w rs W':=
 ⟨h.below.trans (hb.mono h.below.size),fun x hx=>((D2 hb).1 _ _ _ (h.lt x hx)).trans (h.row x hx),fun x hx=>((D2 hb).2 _ _ _ (B28 (h.free x hx))).trans (h.free x hx)⟩
theorem Kep.only {r:Nat} (h:Kep w rs W) (ho:A2 (fun b=>b=r) W W') (hr:∀ x∈rs,x.1 < r) (hw:w.heap.size≤r):Kep w rs W':=
 ⟨h.below.trans (ho.below h.below.size (fun i hi=>by have e:i=r:=hi;omega)),
  fun x hx=>(ho.row? (h.lt x hx) (by have:=hr x hx;show ¬ x.1=r;omega)).trans (h.row x hx),
  fun x hx=>(ho.free? (h.lt x hx) (by have:=hr x hx;show ¬ x.1=r;omega)).trans (h.free x hx)⟩
theorem Kep.add (h:Kep w rs W) {b n:Nat} {L:List Value} (hr:W.row? b 0 n=some L) (hf:W.free? b 0 n=true):Kep w ((b,n,L) :: rs) W:=
 ⟨h.below,fun x hx=>(List.mem_cons.1 hx).elim (fun e=>by rw [e];exact hr) (h.row x),fun x hx=>(List.mem_cons.1 hx).elim (fun e=>by rw [e];exact hf) (h.free x)⟩
theorem Kep.sub {rs':List (Nat × Nat × List Value)} (h:Kep w rs W) (hs:∀ x∈rs',x∈rs):Kep w rs' W:=⟨h.below,fun x hx=>h.row x (hs x hx),fun x hx=>h.free x (hs x hx)⟩
end
end Go.Mun
namespace Go.Proofs.YtfflppedbopdpaaGreat
open Go.RowKit Go.Mun

structure Kst (w:World) (rs:List (Nat × Nat × List Value)) (own:Go.Mun.Own) (sb:Nat) (S:St) (n:Nat) (W:World):Prop extends Kep w rs W where
 st:StateAt TU W own sb S [] n
 out:∀ x∈rs,own x.1=none
section
variable {w W W':World} {rs:List (Nat × Nat × List Value)} {own:Go.Mun.Own} {sb n:Nat} {S:St}
theorem Kst.next (h:Kst w rs own sb S n W) (hb:Below W.heap.size W W'):Kst w rs own sb S n W':=⟨h.toKep.next hb,h.st.below hb,h.out⟩
theorem X9 (W:World) (Z:List Value) (ty k:Nat) (hz:Z.length=k):(W.alloc (.cells Z.toArray ty)).free? W.heap.size 0 k=true:=World.free?_alloc_at _ _ rfl (by omega)
theorem Kst.box (h:Kst w rs own sb S n W) {k:Nat} (ty:Nat) (Z C:List Value) (hz:Z.length=k) (hC:P0 k C=true):Kst w ((W.heap.size,k,C) :: rs) own sb S n ((W.alloc (.cells Z.toArray ty)).setCells W.heap.size 0 C):=by
 have hf:=X9 W Z ty k hz
 have hb:Below W.heap.size W ((W.alloc (.cells Z.toArray ty)).setCells W.heap.size 0 C):=((Below.refl _ _).alloc (Nat.le_refl _) _).setCells (Nat.le_refl _) _ _
 have h2:=h.next hb
 exact ⟨h2.toKep.add (B8 C hf hC) (by rw [World.free?_setCells'];exact hf),h2.st,fun x hx=>(List.mem_cons.1 hx).elim (fun e=>by rw [e];exact E4 h.st.lows (Nat.le_refl _)) (h2.out x)⟩
theorem Kst.set {b k:Nat} {L:List Value} (h:Kst w ((b,k,L) :: rs) own sb S n W) (C:List Value) (hC:P0 k C=true) (hb:w.heap.size≤b) (hr:∀ x∈rs,x.1≠b):Kst w ((b,k,C) :: rs) own sb S n (W.setCells b 0 C):=by
 have hf:=h.fr (b:=b) (n:=k) (L:=L) (by simp)
 have ho:A2 (fun x=>x=b) W (W.setCells b 0 C):=A2.setCells (S:=fun x=>x=b) (A2.refl _ _) (fun _=>rfl) _ _
 have hob:own b=none:=h.out (b,k,L) (by simp)
 refine ⟨⟨h.below.trans (ho.below h.below.size (fun i hi=>by have e:i=b:=hi;omega)),fun x hx=>?_,fun x hx=>?_⟩,h.st.only ho (fun x hx=>by rw [hx];exact hob),fun x hx=>?_⟩
 ·rcases List.mem_cons.1 hx with rfl | hx
  ·exact B8 C hf hC
  ·exact (ho.row? (h.lt x (List.mem_cons_of_mem _ hx)) (hr x hx)).trans (h.row x (List.mem_cons_of_mem _ hx))
 ·rcases List.mem_cons.1 hx with rfl | hx
  ·rw [World.free?_setCells'];exact hf
  ·exact (ho.free? (h.lt x (List.mem_cons_of_mem _ hx)) (hr x hx)).trans (h.free x (List.mem_cons_of_mem _ hx))
 ·rcases List.mem_cons.1 hx with rfl | hx
  ·exact hob
  ·exact h.out x (List.mem_cons_of_mem _ hx)
end
end Go.Proofs.YtfflppedbopdpaaGreat
namespace Go.Mun
open Go.RowKit

theorem B3K {T:UTy} {w w2:World} {own own2:Own} {sb mb:Nat} {uv mv:Value} {last:Nat} {E:List (Nat × Nat)} {U:List Z5} {mk:List (Nat × Nat)} {S:St} {a p2:Nat} {x:Acc} (h:StaCore T w own sb mb uv mv last E U mk S)
  (hm:E7 adV wA ptV w2 mb (N0 a p2 E)) (ho:A2 (fun b=>b=mb) w w2) (hle:own.le own2) (hlow:∀ b,own2 b≠none→b < w2.heap.size) (hacc:L6 w2 own2 p2 x):StaCore T w2 own2 sb mb uv mv last (N0 a p2 E) U mk (Z8 S a x):=by
 have hB:∀ b,b=mb→own b=none∨own b=some .st∨own b=some .undos∨own b=some .marks∨own b=some .amap:=fun b hb=>by rw [hb,h.mlab];simp
 have hno:∀ {b:Nat} {l:Lab},own b=some l→l≠.amap→¬ b=mb:=fun hb hl e=>by rw [e,h.mlab] at hb;cases hb;exact hl rfl
 have hlt:=World.row?_lt h.row
 have hsm:=hno h.lab (by simp)
 exact {
  lab:=hle _ _ h.lab
  row:=by rw [ho.row? hlt hsm];exact h.row
  free:=by rw [ho.free? hlt hsm];exact h.free
  mlab:=hle _ _ h.mlab
  map:=hm
  acc:=fun p hp=>by
   by_cases e:p.1=a
   ·have h1:E6 a (N0 a p2 E)=some p.2:=by
     obtain ⟨j,hj⟩:=List.mem_iff_getElem?.1 hp
     exact A3U hm.nodup (by rw [hj,← e])
    rw [O8,if_pos rfl] at h1
    cases h1
    rw [e,A0Q]
    exact hacc
   ·rw [Y5 _ _ e]
    rcases A1V hp with rfl | hp2
    ·exact absurd rfl e
    ·exact ((h.acc p hp2).but ho hB).le hle
  out:=fun b hb=>by
   rw [O8] at hb
   split at hb
   ·cases hb
   ·rename_i e
    rw [Y5 _ _ e]
    exact h.out b hb
  urow:=A2.own h.urow ho fun g hg=>hno (h.ulab g hg) (by simp)
  ulab:=fun g hg=>hle _ _ (h.ulab g hg)
  und:=fun u hu=>((h.und u hu).but ho hB).le hle
  mrow:=A2.own h.mrow ho fun g hg=>hno (h.mklab g hg) (by simp)
  mklab:=fun g hg=>hle _ _ (h.mklab g hg)
  mks:=h.mks
  mkle:=h.mkle
  low:=hlow }
theorem A6T {a q p2:Nat}:∀ {E:List (Nat × Nat)},E6 a E=some q→((N0 a p2 E).map Prod.snd++[q]).Perm (p2 :: E.map Prod.snd)
 | [],h=>by simp [E6] at h
 | (b,y) :: l,h=>by
  simp only [E6] at h
  by_cases e:b=a
  ·rw [if_pos e] at h
   cases h
   simp only [N0,if_pos e,List.map_cons,List.cons_append]
   exact List.Perm.cons _ (List.perm_append_singleton _ _)
  ·rw [if_neg e] at h
   simp only [N0,if_neg e,List.map_cons,List.cons_append]
   exact ((A6T h).cons y).trans (List.Perm.swap _ _ _)
end Go.Mun
namespace Go.Mun
open Go.Proofs.YtfflppedbopdpaaGreat (Ac)

structure J3 where
 ac:Ac
 slots:List (Nat × Nat)
def J3.new (a:Nat):J3:=⟨⟨a,0,0,[]⟩,[]⟩
def J3.acc (x:J3):Acc:=⟨x.ac.nonce.toNat,x.ac.bal,x.ac.code,fun k=>(E6 k x.slots).getD 0⟩
def T4:List J3→Nat→Nat
 | [],_=>0
 | x :: R,a=>if x.ac.addr < a then T4 R a+1 else 0
def A5Q (R:List J3) (a:Nat):Prop:=∃ x,R[T4 R a]? = some x∧x.ac.addr=a
def atR (R:List J3) (a:Nat):List J3:=R.take (T4 R a)++J3.new a :: R.drop (T4 R a)
def Q1 (R:List J3):Prop:=(R.map fun x=>x.ac.addr).Pairwise (· < ·)
def rst:List J3→St
 | [],_=>Acc.none
 | x :: R,a=>if x.ac.addr=a then x.acc else rst R a
theorem A4P (R:List J3) (a:Nat):T4 R a≤R.length:=by
 induction R with
 | nil=>exact Nat.le_refl _
 | cons x R ih=>simp only [T4];split <;> simp <;> omega
theorem A7H (R:List J3) (a:Nat):∀ i,i < T4 R a→∃ x,R[i]? = some x∧x.ac.addr < a:=by
 induction R with
 | nil=>intro i hi;simp [T4] at hi
 | cons x R ih =>
  intro i hi
  simp only [T4] at hi
  split at hi
  ·cases i with
   | zero=>exact ⟨x,rfl,by assumption⟩
   | succ i=>exact ih i (by omega)
  ·omega
theorem A7I (R:List J3) (a:Nat):∀ x,R[T4 R a]? = some x→a≤x.ac.addr:=by
 induction R with
 | nil=>intro x hx;simp at hx
 | cons y R ih =>
  intro x hx
  simp only [T4] at hx
  split at hx
  ·exact ih x (by simpa using hx)
  ·simp at hx;subst hx;omega
theorem A3B {R:List J3} {a:Nat} (h:∀ x∈R,x.ac.addr≠a):rst R a=Acc.none:=by
 induction R with
 | nil=>rfl
 | cons x R ih =>
  simp only [rst]
  rw [if_neg (h x (by simp))]
  exact ih fun y hy=>h y (by simp [hy])
theorem A2t {R:List J3} (hr:Q1 R) {i:Nat} {x:J3} (h:R[i]? = some x):rst R x.ac.addr=x.acc:=by
 induction R generalizing i with
 | nil=>simp at h
 | cons y R ih =>
  unfold Q1 at hr
  rw [List.map_cons,List.pairwise_cons] at hr
  cases i with
  | zero=>simp at h;subst h;simp [rst]
  | succ i =>
   have hx:x∈R:=List.mem_of_getElem? (by simpa using h)
   have:=hr.1 x.ac.addr (List.mem_map.2 ⟨x,hx,rfl⟩)
   simp only [rst]
   rw [if_neg (by omega)]
   exact ih hr.2 (by simpa using h)
theorem A5n (R T:List J3) (a:Nat):rst (R++T) a=if ∃ x∈R,x.ac.addr=a then rst R a else rst T a:=by
 induction R with
 | nil=>simp
 | cons x R ih =>
  simp only [List.cons_append,rst]
  by_cases hx:x.ac.addr=a
  ·rw [if_pos hx,if_pos ⟨x,by simp,hx⟩,if_pos hx]
  ·rw [if_neg hx,ih]
   by_cases h2:∃ y∈R,y.ac.addr=a
   ·obtain ⟨y,hy,hya⟩:=h2
    rw [if_pos ⟨y,hy,hya⟩,if_pos ⟨y,by simp [hy],hya⟩,if_neg hx]
   ·rw [if_neg h2,if_neg]
    rintro ⟨y,hy,hya⟩
    rcases List.mem_cons.1 hy with rfl | h3
    ·exact hx hya
    ·exact h2 ⟨y,h3,hya⟩
theorem A5P {R:List J3} {a:Nat} (hr:Q1 R):A5Q R a↔∃ x∈R,x.ac.addr=a:=by
 constructor
 ·rintro ⟨x,h1,h2⟩;exact ⟨x,List.mem_of_getElem? h1,h2⟩
 ·rintro ⟨x,hx,rfl⟩
  obtain ⟨i,hi⟩:=List.mem_iff_getElem?.1 hx
  have hlt:∀ j,j < i→∃ y,R[j]? = some y∧y.ac.addr < x.ac.addr:=by
   intro j hj
   obtain ⟨hil,hi'⟩:=List.getElem?_eq_some_iff.1 hi
   refine ⟨R[j]'(by omega),List.getElem?_eq_getElem _,?_⟩
   have:=List.pairwise_iff_getElem.1 hr j i (by simpa using (show j < R.length by omega)) (by simpa using hil) hj
   simp only [List.getElem_map] at this
   rw [hi'] at this
   exact this
  have hp:T4 R x.ac.addr=i:=by
   rcases Nat.lt_trichotomy (T4 R x.ac.addr) i with h | h | h
   ·obtain ⟨y,h1,h2⟩:=hlt _ h
    have:=A7I R x.ac.addr y h1
    omega
   ·exact h
   ·obtain ⟨y,h1,h2⟩:=A7H R x.ac.addr i h
    rw [hi] at h1;cases h1;omega
  exact ⟨x,by rw [hp];exact hi,rfl⟩
theorem B5B {R:List J3} {a:Nat} (hr:Q1 R) (hn:¬ A5Q R a):rst (atR R a)=rst R:=by
 have hna:∀ x∈R,x.ac.addr≠a:=fun x hx e=>hn ((A5P hr).2 ⟨x,hx,e⟩)
 funext b
 unfold atR
 rw [A5n]
 have e:rst R b=rst (R.take (T4 R a)++R.drop (T4 R a)) b:=by rw [List.take_append_drop]
 rw [e,A5n]
 split
 ·rfl
 ·simp only [rst]
  split
  ·rename_i h1 h2
   have h2':a=b:=h2
   subst h2'
   rw [A3B]
   ·rfl
   ·intro x hx
    exact hna x (List.mem_of_mem_drop hx)
  ·rfl
theorem B0i {R:List J3} {a:Nat} (hr:Q1 R) (hn:¬ A5Q R a):Q1 (atR R a):=by
 have h1:∀ x∈R.take (T4 R a),x.ac.addr < a:=by
  intro x hx
  obtain ⟨i,hi⟩:=List.mem_iff_getElem?.1 hx
  rw [List.getElem?_take] at hi
  split at hi
  ·rename_i h
   obtain ⟨y,h2,h3⟩:=A7H R a i h
   rw [hi] at h2;cases h2;exact h3
  ·cases hi
 have h2:∀ x∈R.drop (T4 R a),a < x.ac.addr:=by
  intro x hx
  have hx2:=hx
  obtain ⟨i,hi⟩:=List.mem_iff_getElem?.1 hx
  rw [List.getElem?_drop] at hi
  have hne:x.ac.addr≠a:=fun e=>hn ((A5P hr).2 ⟨x,List.mem_of_getElem? hi,e⟩)
  have h0:T4 R a < R.length:=by
   have:=(List.getElem?_eq_some_iff.1 hi).1
   omega
  have h3:=A7I R a _ (List.getElem?_eq_getElem h0)
  cases i with
  | zero =>
   rw [Nat.add_zero,List.getElem?_eq_getElem h0] at hi
   cases hi
   omega
  | succ i =>
   have hlt:=(List.getElem?_eq_some_iff.1 hi).1
   have:=List.pairwise_iff_getElem.1 hr (T4 R a) (T4 R a+(i+1)) (by simpa using h0) (by simpa using hlt) (by omega)
   simp only [List.getElem_map] at this
   rw [(List.getElem?_eq_some_iff.1 hi).2] at this
   omega
 unfold Q1 atR
 rw [List.map_append,List.map_cons,List.pairwise_append,List.pairwise_cons]
 have hr1:((R.take (T4 R a)).map fun x=>x.ac.addr).Pairwise (· < ·):=by
  have:=hr.sublist (List.Sublist.map (fun x:J3=>x.ac.addr) (List.take_sublist (T4 R a) R))
  exact this
 have hr2:((R.drop (T4 R a)).map fun x=>x.ac.addr).Pairwise (· < ·):=by
  have:=hr.sublist (List.Sublist.map (fun x:J3=>x.ac.addr) (List.drop_sublist (T4 R a) R))
  exact this
 refine ⟨hr1,⟨?_,hr2⟩,?_⟩
 ·intro b hb
  obtain ⟨x,hx,rfl⟩:=List.mem_map.1 hb
  exact h2 x hx
 ·intro b hb c hc
  obtain ⟨x,hx,rfl⟩:=List.mem_map.1 hb
  have hxa:=h1 x hx
  rcases List.mem_cons.1 hc with rfl | hc
  ·exact hxa
  ·obtain ⟨y,hy,rfl⟩:=List.mem_map.1 hc
   have:=h2 y hy
   exact Nat.lt_trans hxa this
theorem B4t (R:List J3) (a:Nat):(atR R a)[T4 R a]? = some (J3.new a):=by
 unfold atR
 rw [List.getElem?_append_right (by rw [List.length_take];omega),List.length_take]
 have:=A4P R a
 rw [Nat.min_eq_left this,Nat.sub_self]
 rfl
theorem B5A {R:List J3} {i:Nat} {x y:J3} (hr:Q1 R) (h:R[i]? = some x) (he:y.ac.addr=x.ac.addr):rst (R.set i y)=Z8 (rst R) x.ac.addr y.acc:=by
 funext b
 induction R generalizing i with
 | nil=>simp at h
 | cons z R ih =>
  unfold Q1 at hr
  rw [List.map_cons,List.pairwise_cons] at hr
  cases i with
  | zero =>
   simp at h;subst h
   simp only [List.set_cons_zero,rst,Z8]
   rw [he]
   by_cases hb:b=z.ac.addr
   ·subst hb;simp
   ·rw [if_neg (fun e=>hb e.symm),if_neg hb,if_neg (fun e=>hb e.symm)]
  | succ i =>
   have hx:x∈R:=List.mem_of_getElem? (by simpa using h)
   have hlt:=hr.1 x.ac.addr (List.mem_map.2 ⟨x,hx,rfl⟩)
   simp only [List.set_cons_succ,rst,Z8]
   rw [ih hr.2 (by simpa using h)]
   unfold Z8
   by_cases hb:b=x.ac.addr
   ·subst hb;rw [if_neg (by omega),if_pos rfl,if_pos rfl]
   ·rw [if_neg hb,if_neg hb]
theorem B0h {R:List J3} {i:Nat} {x y:J3} (hr:Q1 R) (h:R[i]? = some x) (he:y.ac.addr=x.ac.addr):Q1 (R.set i y):=by
 have:(R.set i y).map (fun x:J3=>x.ac.addr)=R.map fun x=>x.ac.addr:=by
  rw [List.map_set,he]
  apply List.ext_getElem?
  intro j
  rw [List.getElem?_set]
  split
  ·rename_i e
   subst e
   split
   ·rw [List.getElem?_map,h];rfl
   ·rename_i hl
    rw [List.getElem?_eq_none (by omega)]
  ·rfl
 unfold Q1
 rw [this]
 exact hr
end Go.Mun
namespace Go.Mun
open Go.RowKit

def A2Z:List UInt8→Nat
 | []=>0
 | x :: l=>x.toNat*256 ^ l.length+A2Z l
theorem A3I:∀ l:List UInt8,A2Z l < 256 ^ l.length
 | []=>by simp [A2Z]
 | x :: l=>by
  have h1:x.toNat < 256:=x.toNat_lt
  have h2:=A3I l
  have h3:x.toNat*256 ^ l.length≤255*256 ^ l.length:=Nat.mul_le_mul_right _ (by omega)
  simp only [A2Z,List.length_cons,Nat.pow_succ]
  omega
theorem B9F:∀ (A B:List UInt8),A.length=B.length→Lib.compareBytes A B=if A2Z A < A2Z B then -1 else if A2Z B < A2Z A then 1 else 0
 | [],[],_=>by simp [Lib.compareBytes,A2Z]
 | [],_ :: _,h=>by simp at h
 | _ :: _,[],h=>by simp at h
 | x :: A,y :: B,h=>by
  have hl:A.length=B.length:=by simpa using h
  have ha:=A3I A
  have hb:=A3I B
  rw [hl] at ha
  unfold Lib.compareBytes
  simp only [A2Z,hl]
  have hxy:x < y↔x.toNat < y.toNat:=UInt8.lt_iff_toNat_lt
  have hyx:y < x↔y.toNat < x.toNat:=UInt8.lt_iff_toNat_lt
  by_cases h1:x < y
  ·have h2:(x.toNat+1)*256 ^ B.length≤y.toNat*256 ^ B.length:=Nat.mul_le_mul_right _ (hxy.1 h1)
   rw [Nat.add_mul,Nat.one_mul] at h2
   rw [if_pos h1,if_pos (by omega)]
  ·rw [if_neg h1]
   by_cases h2:y < x
   ·have h3:(y.toNat+1)*256 ^ B.length≤x.toNat*256 ^ B.length:=Nat.mul_le_mul_right _ (hyx.1 h2)
    rw [Nat.add_mul,Nat.one_mul] at h3
    rw [if_pos h2,if_neg (by omega),if_pos (by omega)]
   ·have he:x.toNat=y.toNat:=by
     rw [hxy] at h1;rw [hyx] at h2;omega
    rw [if_neg h2,B9F A B hl,he]
    simp only [Nat.add_lt_add_iff_left]
def toU (l:V1):List UInt8:=l.map fun x=>x.toNat.toUInt8
theorem A2x:∀ l:V1,Byt l→A2Z (toU l)=beN l
 | [],_=>rfl
 | x :: l,h=>by
  have hx:=h x (by simp)
  have h1:(x.toNat.toUInt8).toNat=x.toNat:=by
   show (UInt8.ofNat x.toNat).toNat=x.toNat
   rw [UInt8.toNat_ofNat']
   omega
  have h2:=A2x l (fun y hy=>h y (List.mem_cons_of_mem _ hy))
  show (x.toNat.toUInt8).toNat*256 ^ (toU l).length+A2Z (toU l)=x.toNat*256 ^ l.length+beN l
  rw [h1,h2]
  simp [toU]
theorem A74 (k a:Nat):Byt (be k a):=by
 intro x hx
 unfold be at hx
 obtain ⟨i,_,rfl⟩:=List.mem_map.1 hx
 have:=Nat.mod_lt (a / 256 ^ (k - 1 - i)) (show 0 < 256 by decide)
 omega
theorem A51:∀ (k n:Nat),n < 256 ^ k→beN (be k n)=n
 | 0,n,h=>by
  have:n=0:=by simpa using h
  subst this;rfl
 | k+1,n,h=>by
  have h1:n / 256 ^ k < 256:=by
   rw [Nat.div_lt_iff_lt_mul (Nat.pow_pos (by decide))]
   rw [Nat.pow_succ] at h;omega
  rw [A40]
  simp only [beN,A2j]
  have e:be k n=be k (n % 256 ^ k):=(A73 k n).symm
  rw [e,A51 k (n % 256 ^ k) (Nat.mod_lt _ (Nat.pow_pos (by decide)))]
  have h3:((n / 256 ^ k % 256:Nat):Int).toNat=n / 256 ^ k:=by rw [Int.toNat_natCast,Nat.mod_eq_of_lt h1]
  first
   | rw [h3,Nat.mul_comm,Nat.div_add_mod]
   | (simp only [Int.toNat_natCast];rw [Nat.mod_eq_of_lt h1,Nat.mul_comm,Nat.div_add_mod])
def A71 (a b:Nat):Int:=if a < b then -1 else if b < a then 1 else 0
theorem B4M (k a b:Nat) (ha:a < 256 ^ k) (hb:b < 256 ^ k):Lib.compareBytes (toU (be k a)) (toU (be k b))=A71 a b:=by
 rw [B9F _ _ (by simp [toU]),A2x _ (A74 k a),A2x _ (A74 k b),A51 k a ha,A51 k b hb]
 rfl
theorem A27 {P:Program} {w:World} {b:Nat}:∀ (l:V1) (off:Nat) (acc:ByteArray),(∀ i,i < l.length→w.cell? ⟨b,off+i,none⟩=some (.int .u8 (l[i]?.getD 0))) →
  (Extern.Bytes.loadBytes ⟨b,off,none⟩ l.length acc).run P w = .ok ⟨acc.data++(toU l).toArray⟩ w
 | [],off,acc,_=>by
  show Result.ok acc w=_
  simp [toU]
 | x :: l,off,acc,h=>by
  have h0:=h 0 (by simp)
  simp only [Nat.add_zero,List.getElem?_cons_zero,Option.getD_some] at h0
  have hi:=A27 (P:=P) l (off+1) (acc.push x.toNat.toUInt8) (fun i hi=>by
   have:=h (i+1) (by simp;omega)
   simp only [List.getElem?_cons_succ] at this
   rw [show off+1+i=off+(i+1) by omega];exact this)
  have hl:(load ⟨b,off,none⟩).run P w = .ok (.int .u8 x) w:=by
   rw [run_load,h0]
  simp only [List.length_cons,Extern.Bytes.loadBytes,Sem.run_bind,hl,Result.andThen]
  have ha:(⟨b,off,none⟩:Addr).add 1=⟨b,off+1,none⟩:=Z0 rfl
  rw [ha,hi]
  congr 1
  simp [toU,ByteArray.push]
theorem A4w {P:Program} {w:World} {a:Option Addr} {c:Nat} {l:V1} (hI:I7 w .u8 a c l):(Extern.Bytes.bytesOf (.slice a l.length c)).run P w = .ok ⟨(toU l).toArray⟩ w:=by
 cases a with
 | none =>
  have h1:=hI.nil rfl
  have h2:=hI.len
  have:l = []:=List.eq_nil_of_length_eq_zero (by omega)
  subst this
  rfl
 | some ad =>
  by_cases hn:l = []
  ·subst hn;rfl
  ·obtain ⟨b,off,ha,hc⟩:=hI.cell hn
   cases ha
   have:=A27 (P:=P) l off ByteArray.empty hc
   show (Extern.Bytes.loadBytes ⟨b,off,none⟩ l.length ByteArray.empty).run P w=_
   simpa using this
end Go.Mun
namespace Go.Proofs.YtfflppedbopdpaaGreat
open Go.RowKit Go.Mun

theorem B62:A1x L9 = [20,1,32,1,1]:=by kernel_rfl
theorem C0l:A1w Tryz.prog 45 35 55 1 (B7 [B7 L9]):=⟨Tryz.underlying45,⟨_,.agg (B7 L9).toArray,rfl,by kernel_rfl,by kernel_rfl,by kernel_rfl⟩,by decide,by kernel_rfl,by decide⟩
def B4y (p:List (Nat × Value)):Option (List Value):=I1 (1*55) ((List.range 1).map fun i=>(i*55,55)) (B7 [B7 L9]) p
theorem C1h (ρ:Operand→Value) (dst:Option Tmp) (x:Operand) (t:TypeId) (pos:String) (after:Array Edge) (gd:Option (Nat × Bool)) (w:World) :
  (execOp ρ ⟨dst,.buildSlice 45 1 #[(0,x)],t,pos,after,gd⟩).run Tryz.prog w=F7 (A4F Tryz.prog 45 35 1 [(0,ρ x)] w (B4y [(0,ρ x)])):=
 A1i ρ dst t pos after gd w C0l [(0,x)]
@[go_sem] theorem B8J (c:List Value) (h:c.length=55):B4y [(0,.agg c.toArray)]=some c:=by
 unfold B4y
 have h1:A1x [B7 L9] = [55]:=by kernel_rfl
 have h3:O7 [B7 L9]=(List.range 1).map fun i=>(i*55,55):=by kernel_rfl
 rw [← h3,G7 _ _ _ (by kernel_rfl)]
 ·show some (B7 [c])=some c
  simp [B7]
 ·rw [h1]
  refine C1 ?_ (L4 _)
  show some 55=some c.length;rw [h]
attribute [go_sem ↓] C1h
theorem A1s:V0 Tryz.prog 45 35 (.agg (B7 L9).toArray) 55 112:=.mk' Tryz.underlying45 (by kernel_rfl) (by kernel_rfl) (by decide)
end Go.Proofs.YtfflppedbopdpaaGreat
namespace Go.Mun
open Go.RowKit
open Go.Proofs.YtfflppedbopdpaaGreat (Ac P4 L8)

theorem B61:∀ (A B:List UInt8),A.length=B.length→Op.bytesLess A B=decide (A2Z A < A2Z B)
 | [],[],_=>by simp [Op.bytesLess,A2Z]
 | [],_ :: _,h=>by simp at h
 | _ :: _,[],h=>by simp at h
 | x :: A,y :: B,h=>by
  have hl:A.length=B.length:=by simpa using h
  have ha:=A3I A
  have hb:=A3I B
  rw [hl] at ha
  simp only [Op.bytesLess,A2Z,hl,B61 A B hl]
  have hxy:x < y↔x.toNat < y.toNat:=UInt8.lt_iff_toNat_lt
  rcases Nat.lt_trichotomy x.toNat y.toNat with h1 | h1 | h1
  ·have h2:(x.toNat+1)*256 ^ B.length≤y.toNat*256 ^ B.length:=Nat.mul_le_mul_right _ h1
   rw [Nat.add_mul,Nat.one_mul] at h2
   have d1:decide (x < y)=true:=decide_eq_true (hxy.2 h1)
   rw [d1,Bool.true_or]
   exact (decide_eq_true (by omega)).symm
  ·have e:x=y:=UInt8.toNat_inj.1 h1
   subst e
   have d1:decide (x < x)=false:=decide_eq_false (by rw [hxy];omega)
   rw [d1]
   simp
  ·have h2:(y.toNat+1)*256 ^ B.length≤x.toNat*256 ^ B.length:=Nat.mul_le_mul_right _ h1
   rw [Nat.add_mul,Nat.one_mul] at h2
   have d1:decide (x < y)=false:=decide_eq_false (by rw [hxy];omega)
   have d2:(x == y)=false:=by
    rw [beq_eq_false_iff_ne];rintro rfl;omega
   rw [d1,d2]
   simp only [Bool.false_and,Bool.or_false]
   exact (decide_eq_false (by omega)).symm
theorem A3t (l:V1):(A0R l).toList=toU l:=by
 unfold A0R toU
 rw [ByteArray.toList_mk]
theorem B1E (k a b:Nat) (ha:a < 256 ^ k) (hb:b < 256 ^ k):Op.bytesLess (A0R (be k a)).toList (A0R (be k b)).toList=decide (a < b):=by
 rw [A3t,A3t,B61 _ _ (by simp [toU]),A2x _ (A74 k a),A2x _ (A74 k b),A51 k a ha,A51 k b hb]

def D9 (sl:List (Nat × Nat)):List Value:=sl.flatMap fun p=>A3 32 p.1++A3 32 p.2
theorem A1e (sl:List (Nat × Nat)):(D9 sl).length=sl.length*64:=by
 induction sl with
 | nil=>rfl
 | cons p sl ih=>simp [D9] at ih ⊢;omega
structure SlotsAt (w:World) (own:Own) (sv:Value) (sl:List (Nat × Nat)):Prop where
 read:w.ownsRow 0 97 64 sv sl.length (D9 sl)
 lab:∀ g,sv.ownBlock=some g→own g=some (.smap 0)
 val:∀ p∈sl,p.1 < wW∧p.2 < wW
 len:sl.length≤1000000
structure U4 (w:World) (own:Own) (p:J3 × Value × Value):Prop where
 code:Q2 w own p.2.1 p.1.ac.code
 slots:SlotsAt w own p.2.2 p.1.slots
 addr:p.1.ac.addr < wA
 bal:p.1.ac.bal < wW
 nonce:0≤p.1.ac.nonce∧p.1.ac.nonce≤9223372036854775807
def I5 (p:J3 × Value × Value):List Value:=B7 (P4 p.1.ac p.2.1 p.2.2)
theorem P5 (p:J3 × Value × Value):(I5 p).length=55:=L8 _ _ _
def G8 (ps:List (J3 × Value × Value)):List Value:=ps.flatMap I5
theorem T3 (p:J3 × Value × Value) (ps:List (J3 × Value × Value)):G8 (p :: ps)=I5 p++G8 ps:=by simp [G8]
theorem A19 (ps qs:List (J3 × Value × Value)):G8 (ps++qs)=G8 ps++G8 qs:=by simp [G8]
theorem A4a (ps:List (J3 × Value × Value)):(G8 ps).length=ps.length*55:=by
 induction ps with
 | nil=>rfl
 | cons p ps ih=>rw [T3,List.length_append,P5,ih,List.length_cons];omega
theorem B0f (ps:List (J3 × Value × Value)) (k:Nat):(G8 ps).take (k*55)=G8 (ps.take k):=by
 induction ps generalizing k with
 | nil=>simp [G8]
 | cons p ps ih =>
  cases k with
  | zero=>simp [G8]
  | succ k =>
   rw [T3,List.take_succ_cons,T3,show (k+1)*55=(I5 p).length+k*55 by rw [P5];omega,List.take_length_add_append,ih]
theorem A5o (ps:List (J3 × Value × Value)) (k:Nat):(G8 ps).drop (k*55)=G8 (ps.drop k):=by
 induction ps generalizing k with
 | nil=>simp [G8]
 | cons p ps ih =>
  cases k with
  | zero=>simp [G8]
  | succ k =>
   rw [T3,List.drop_succ_cons,show (k+1)*55=(I5 p).length+k*55 by rw [P5];omega,← List.drop_drop,List.drop_left,ih]
structure RArr (w:World) (own:Own) (v:Value) (ps:List (J3 × Value × Value)):Prop where
 cells:w.ownsRow 0 35 55 v ps.length (G8 ps)
 lab:∀ g,v.ownBlock=some g→own g=some .acc
 ok:∀ p∈ps,U4 w own p
structure RStC (w:World) (own:Own) (sb:Nat) (lv mv:Value) (ps:List (J3 × Value × Value)) (ms:List (Nat × Value × List (J3 × Value × Value))) (n:Nat):Prop where
 lab:own sb=some .st
 row:w.row? sb 0 3=some [lv,mv,.int .i64 n]
 free:w.free? sb 0 3=true
 arr:RArr w own lv ps
 up:Q1 (ps.map fun p=>p.1)
 marks:w.ownsRow 0 195 2 mv ms.length (ms.flatMap fun m => [.int .i64 m.1,m.2.1])
 mlab:∀ g,mv.ownBlock=some g→own g=some .marks
 each:∀ m∈ms,RArr w own m.2.1 m.2.2∧Q1 (m.2.2.map fun p=>p.1)
 apart:(lv :: ms.map fun m=>m.2.1).Pairwise fun a b=>a.ownBlock=none∨a.ownBlock≠b.ownBlock
 low:∀ b,own b≠none→b < w.heap.size
 count:ms.length≤n∧∀ m∈ms,m.1≤n
section
variable {w w':World} {own:Own} {S:Nat→Prop}
theorem SlotsAt.only {sv:Value} {sl:List (Nat × Nat)} (h:SlotsAt w own sv sl) (ho:A2 S w w') (hS:∀ b,S b→own b≠some (.smap 0)):SlotsAt w' own sv sl:=
 ⟨A2.own h.read ho fun g hg hs=>hS g hs (h.lab g hg),h.lab,h.val,h.len⟩
theorem U4.only {p:J3 × Value × Value} (h:U4 w own p) (ho:A2 S w w') (hS:∀ b,S b→own b≠some .code∧own b≠some (.smap 0)):U4 w' own p:=
 ⟨h.code.only ho fun b hb=>(hS b hb).1,h.slots.only ho fun b hb=>(hS b hb).2,h.addr,h.bal,h.nonce⟩
theorem RArr.only {v:Value} {ps:List (J3 × Value × Value)} (h:RArr w own v ps) (ho:A2 S w w') (hS:∀ b,S b→own b≠some .code∧own b≠some (.smap 0)) (hv:∀ g,v.ownBlock=some g→¬ S g):RArr w' own v ps:=
 ⟨A2.own h.cells ho hv,h.lab,fun p hp=>(h.ok p hp).only ho hS⟩
theorem RArr.only_out {v:Value} {ps:List (J3 × Value × Value)} (h:RArr w own v ps) (ho:A2 S w w') (hS:∀ b,S b→own b=none):RArr w' own v ps:=
 h.only ho (fun b hb=>by rw [hS b hb];simp) fun g hg hs=>by have:=h.lab g hg;rw [hS g hs] at this;cases this
theorem RStC.only {sb:Nat} {lv mv:Value} {ps:List (J3 × Value × Value)} {ms:List (Nat × Value × List (J3 × Value × Value))} {n:Nat} (h:RStC w own sb lv mv ps ms n) (ho:A2 S w w') (hS:∀ b,S b→own b=none):RStC w' own sb lv mv ps ms n:=by
 have hn:∀ {b l},own b=some l→¬ S b:=fun hb hr=>by rw [hS _ hr] at hb;cases hb
 have hlt:=World.row?_lt h.row
 exact { h with
  row:=by rw [ho.row? hlt (hn h.lab)];exact h.row
  free:=by rw [ho.free? hlt (hn h.lab)];exact h.free
  arr:=h.arr.only_out ho hS
  marks:=A2.own h.marks ho fun g hg=>hn (h.mlab g hg)
  each:=fun m hm=>⟨(h.each m hm).1.only_out ho hS,(h.each m hm).2⟩
  low:=fun b hb=>Nat.lt_of_lt_of_le (h.low b hb) ho.size }
theorem SlotsAt.le {own':Own} {sv:Value} {sl:List (Nat × Nat)} (h:SlotsAt w own sv sl) (hl:own.le own'):SlotsAt w own' sv sl:=⟨h.read,fun g hg=>hl _ _ (h.lab g hg),h.val,h.len⟩
theorem U4.le {own':Own} {p:J3 × Value × Value} (h:U4 w own p) (hl:own.le own'):U4 w own' p:=⟨h.code.le hl,h.slots.le hl,h.addr,h.bal,h.nonce⟩
theorem RArr.le {own':Own} {v:Value} {ps:List (J3 × Value × Value)} (h:RArr w own v ps) (hl:own.le own'):RArr w own' v ps:=⟨h.cells,fun g hg=>hl _ _ (h.lab g hg),fun p hp=>(h.ok p hp).le hl⟩
end
end Go.Mun
namespace Go.Proofs.YtfflppedbopdpaaGreat
open Go.RowKit Go.Mun
theorem B02 {w:World} {a a2:Option Addr} {c c2:Nat} {l m:V1} (hI:I7 w .u8 a c l) (hJ:I7 w .u8 a2 c2 m) :
  (callFunc 185 #[.slice a l.length c,.slice a2 m.length c2]).run Tryz.prog w = .ok (.value (.int .i64 (Lib.compareBytes (toU l) (toU m)))) w:=by
 rw [run_callFunc_extern Tryz.func185 (by kernel_rfl) (by kernel_rfl) (by kernel_rfl) (e:=Extern.BytealgCompare.compare) (by kernel_rfl)]
 show (((do pure (goInt (Extern.BytealgCompare.cmp (← Extern.Bytes.bytesOf (.slice a l.length c)) (← Extern.Bytes.bytesOf (.slice a2 m.length c2)))):Sem Value)).run Tryz.prog w).andThen _=_
 simp only [Sem.run_bind,Sem.run_pure,A4w hI,A4w hJ,Result.andThen]
 rw [Lib.cmp_eq]
 rfl
theorem A3c {w:World} {a a2:Option Addr} {c c2:Nat} {l m:V1} (hI:I7 w .u8 a c l) (hJ:I7 w .u8 a2 c2 m) :
  Calls Tryz.prog 78 #[.slice a l.length c,.slice a2 m.length c2] w fun e w'=>e = .returned (.int .i64 (Lib.compareBytes (toU l) (toU m)))∧w'=w:=by
 have h117:=B02 hI hJ
 clear hI hJ
 generalize Lib.compareBytes (toU l) (toU m)=r at *
 go_enter Tryz.func78,Tryz.ntmps78
 go_wp2
 go_ret
 exact ⟨rfl,rfl⟩
end Go.Proofs.YtfflppedbopdpaaGreat
namespace Go.Mun
open Go.RowKit Go.Maps Go.ChangeMaps Go.MapKept Go.WideShapes
open Go.WideElems (Fit rg pl rd_key rd_val rg_of other_key)

def R0 (_:Value):Option (DataW Unit × List MemPlace):=some (.lit (.bool true),[])
section
variable {β:Type} {ke:Nat→Value} {N:Nat} {ve:β→Value} {w:World} {b:Nat} {L:List (Nat × β)} {P:Program} {k:TypeId}
theorem E7.owns (h:E7 ke N ve w b L) (K:A0t P k ke N) (hn:L.length≤maxLen) :
  ∃ D:DataW Unit,w.ownsMap P k R0 b L.length D∧Maps.size D=L.length∧(∀ kl,Maps.has D kl=true→∃ a∈L.map Prod.fst,keyOf P k (ke a)=some kl)∧∀ a∈L.map Prod.fst,∀ kl,keyOf P k (ke a)=some kl→Maps.has D kl=true:=by
 obtain ⟨es,clock,hb,he,hN,hs⟩:=h
 have hlen:es.size=L.length:=by
  have:=congrArg List.length he
  simpa using this
 have hkey:∀ x∈es.toList,∃ p∈L,x.key=ke p.1:=fun x hx=>by
  have:(x.key,x.val)∈L.map (fun p=>(ke p.1,ve p.2)):=he ▸ List.mem_map.2 ⟨x,hx,rfl⟩
  obtain ⟨p,hp,e⟩:=List.mem_map.1 this
  exact ⟨p,hp,(congrArg Prod.fst e).symm⟩
 have hkey2:∀ p∈L,∃ x∈es.toList,x.key=ke p.1:=fun p hp=>by
  have:(ke p.1,ve p.2)∈es.toList.map (fun e=>(e.key,e.val)):=he ▸ List.mem_map.2 ⟨p,hp,rfl⟩
  obtain ⟨x,hx,e⟩:=List.mem_map.1 this
  exact ⟨x,hx,congrArg Prod.fst e⟩
 have hrd:∀ x∈es.toList,∀ p∈L,x.key=ke p.1→∀ kl,keyOf P k (ke p.1)=some kl→WideElems.rd P k R0 x=some (kl,.lit (.bool true)):=fun x hx p hp e kl hk=>by
  unfold WideElems.rd
  rw [e,hk]
  rfl
 have F:Fit P k R0 es clock:=⟨by rw [hlen];exact hn,hs,fun x hx=>by
  obtain ⟨p,hp,e⟩:=hkey x hx
  obtain ⟨kl,hk⟩:=K.key p.1 (hN p hp)
  exact ⟨_,hrd x hx p hp e kl hk⟩⟩
 refine ⟨_,⟨es,clock,hb,F,by rw [hlen];exact Nat.le_refl _,rfl⟩,?_,?_,?_⟩
 ·simp [Maps.size,length_sorted,hlen]
 ·intro kl hkl
  obtain ⟨q,hq,hqk⟩:=List.any_eq_true.1 hkl
  obtain ⟨x,hx,rfl⟩:=List.mem_map.1 (mem_sorted.1 hq)
  obtain ⟨p,hp,e⟩:=hkey x hx
  obtain ⟨kl',hk⟩:=K.key p.1 (hN p hp)
  have hr:=hrd x hx p hp e kl' hk
  rw [rg_of hr] at hqk
  have:=WideAt.sameKey_eq hqk
  refine ⟨p.1,List.mem_map.2 ⟨p,hp,rfl⟩,?_⟩
  rw [hk];exact congrArg some this
 ·intro a ha kl hk
  obtain ⟨p,hp,rfl⟩:=List.mem_map.1 ha
  obtain ⟨x,hx,e⟩:=hkey2 p hp
  have hr:=hrd x hx p hp e kl hk
  exact List.any_eq_true.2 ⟨rg P k R0 x,mem_sorted.2 (List.mem_map.2 ⟨x,hx,rfl⟩),by rw [rg_of hr];exact WideAt.sameKey_self (K.keyed.key hk)⟩
structure A56 (P:Program) (k:TypeId) (ke:Nat→Value) (N:Nat) (ks:List Nat) (left:Lit→Bool) (ss:List Nat):Prop where
 iff:∀ a∈ks,∀ kl,keyOf P k (ke a)=some kl→(left kl=true↔a ∉ ss)
 sub:∀ a∈ss,a∈ks
 nod:ss.Nodup
 key:∀ kl,left kl=true→∃ a∈ks,keyOf P k (ke a)=some kl
theorem A56.start {ks:List Nat} {left:Lit→Bool} (h1:∀ kl,left kl=true→∃ a∈ks,keyOf P k (ke a)=some kl) (h2:∀ a∈ks,∀ kl,keyOf P k (ke a)=some kl→left kl=true):A56 P k ke N ks left []:=
 ⟨fun a ha kl hk=>⟨fun _=>(by simp),fun _=>h2 a ha kl hk⟩,fun a ha=>(by cases ha),List.nodup_nil,h1⟩
theorem A56.step {ks:List Nat} {left:Lit→Bool} {ss:List Nat} (h:A56 P k ke N ks left ss) (K:A0t P k ke N) (hN:∀ a∈ks,a < N) {x:Value} {kl:Lit} (hx:keyOf P k x=some kl) (hl:left kl=true) :
  ∃ a∈ks,x=ke a∧a ∉ ss∧A56 P k ke N ks (fun z=>left z && !z.sameKey kl) (ss++[a]):=by
 obtain ⟨a,ha,hk⟩:=h.key kl hl
 have hns:a ∉ ss:=(h.iff a ha kl hk).1 hl
 refine ⟨a,ha,K.keyed.inj hx hk,hns,⟨?_,?_,?_,?_⟩⟩
 ·intro a' ha' kl' hk'
  have hiff:kl'.sameKey kl=true↔a'=a:=by
   constructor
   ·intro e
    have e2:=WideAt.sameKey_eq e
    rw [e2] at hk'
    exact K.inj a' a (hN a' ha') (hN a ha) (K.keyed.inj hk' hk)
   ·rintro rfl
    rw [hk] at hk'
    cases hk'
    exact WideAt.sameKey_self (K.keyed.key hk)
  have h1:=h.iff a' ha' kl' hk'
  rw [Bool.and_eq_true,h1,List.mem_append,List.mem_singleton]
  constructor
  ·rintro ⟨h2,h3⟩ h4
   rcases h4 with h4 | h4
   ·exact h2 h4
   ·have:=hiff.2 h4
    rw [this] at h3
    cases h3
  ·intro h2
   refine ⟨fun h3=>h2 (.inl h3),?_⟩
   cases hs:kl'.sameKey kl with
   | false=>rfl
   | true=>exact absurd (.inr (hiff.1 hs)) h2
 ·intro c hc
  rcases List.mem_append.1 hc with h1 | h1
  ·exact h.sub c h1
  ·rw [List.mem_singleton] at h1;rw [h1];exact ha
 ·rw [List.nodup_append]
  refine ⟨h.nod,by simp,?_⟩
  intro x hx y hy
  rw [List.mem_singleton] at hy
  subst hy
  rintro rfl
  exact hns hx
 ·intro kl' hl'
  rw [Bool.and_eq_true] at hl'
  exact h.key kl' hl'.1
theorem A56.perm {ks:List Nat} {left:Lit→Bool} {ss:List Nat} (h:A56 P k ke N ks left ss) (K:A0t P k ke N) (hN:∀ a∈ks,a < N) (hd:ks.Nodup) (hl:∀ kl,left kl=false):ss.Perm ks:=by
 refine (List.perm_ext_iff_of_nodup h.nod hd).2 fun a=>⟨h.sub a,fun ha=>?_⟩
 obtain ⟨kl,hk⟩:=K.key a (hN a ha)
 have:=h.iff a ha kl hk
 rw [hl kl] at this
 by_cases hm:a∈ss
 ·exact hm
 ·exact absurd (this.2 hm) (by simp)
end
end Go.Mun
namespace Go.Proofs.YtfflppedbopdpaaGreat
open Go.RowKit Go.Mun Go.Maps Go.Shelf
theorem A2I (ro:Option Nat) (ρ:Operand→Value) (o:Oper) (P:Program) (w:World) (h:∀ c,o.op≠.defer c):(Oper.semAt ro ρ o).run P w=(execOp ρ o).run P w:=by
 rw [Oper.semAt_eq _ _ _ h]
attribute [local go_sem] Oper.semAt_some
attribute [local go_sem ↓] A2I
attribute [local irreducible] A3 K0
theorem B46 (a:Nat):adV a = .agg (A3 20 a).toArray:=rfl
theorem B6n (F:Fence) (n:Nat) (hF:F.fn 184) (hro:F.round=none) (hn:1≤n) (Bm b nn:Nat) (D:DataW Unit) (ks:List Nat) (w:World)
  (hks:∀ a∈ks,a < wA) (hd:ks.Nodup) (hsz:Maps.size D=ks.length) (h1:∀ kl,Maps.has D kl=true→∃ a∈ks,keyOf Tryz.prog 23 (adV a)=some kl) (h2:∀ a∈ks,∀ kl,keyOf Tryz.prog 23 (adV a)=some kl→Maps.has D kl=true)
  (hBm:Bm < w.heap.size) (hm:w.cell? ⟨Bm,0,none⟩=some (.map (some b))) (hown:w.ownsMap Tryz.prog 23 R0 b nn D) :
  SeqStopsK F n Tryz.prog 184 #[.pointer (some ⟨Bm,0,none⟩)] (fun a:Nat => #[adV a]) KeepsWalks (fun ss=>ss.Perm ks) (fun _=>True) ks.length w:=by
 intro l J Jx W hW hJ hJx hY h0
 have hm':W.cell? ⟨Bm,0,none⟩=some (.map (some b)):=(hW.cell (p:=⟨Bm,0,none⟩) hBm).trans hm
 have hown':W.ownsMap Tryz.prog 23 R0 b nn D:=by
  have hbl:=hown.lt
  obtain ⟨es,clock,hb,Ft,hs,hD⟩:=hown
  exact ⟨es,clock,(hW.block b hbl).trans hb,Ft,hs,hD⟩
 clear hm hown hW
 refine callsIn_of_wp Tryz.func184 rfl hF ?_ hro
 try simp only [Tryz.ntmps184,List.size_toArray,List.length_cons,List.length_nil,Nat.reduceAdd,Nat.reduceSub,Array.replicate_succ,Array.replicate_zero,List.push_toArray,List.append_toArray,List.nil_append,List.cons_append]
 gi_wp2_with (first
  | (gi_at_range;refine wpListIn_range_own _ rfl _ 90 rfl 23 87 A1b.keyed Tryz.underlying90 _ b nn _ rfl hown' ?_;intro w0 hrg0 hg0 hs0)
  | gi_in)
 try go_frame
 gi_loopw [3] (fun _ wr => ∃ (left:Lit→Bool) (cnt:Nat) (ss:List Nat),wr.ranges Tryz.prog 23 R0 b W.heap.size nn D left cnt∧ss.length+cnt≤Maps.size D∧A56 Tryz.prog 23 adV wA ks left ss∧J ss wr)
  (fun _ wr=>wr.rangeLeft b W.heap.size)
 case atStart =>
  exact ⟨_,_,[],hrg0,by simp,A56.start h1 h2,hJ [] W w0 none h0 hg0 (fun r e=>by cases e)⟩
 case round =>
  obtain ⟨left,cnt,ss,hrg,hcs,hC,hJs⟩:=hrel
  gi_wp2_with (first
   | (gi_at_next;refine wpListIn_next_ranges _ rfl _ rfl 23 A1b.keyed R0 id id (fun key kl hk=>⟨key,rfl⟩) (fun v _ _=>⟨v,rfl⟩) b W.heap.size nn _ _ _ rfl hrg ?_ ?_)
   | gi_in)
  ·intro hc0 hl0
   gi_wp2
   go_end0
   exact ⟨⟨_,rfl⟩,.inl ⟨ss,hC.perm A1b hks hd hl0,hJs⟩⟩
  ·intro x c kl yd yp w2 cnt2 hkey hlk hv hat hrg2 hlt hg2 hs2 hen
   obtain ⟨a,ha,hxa,hns,hC2⟩:=hC.step A1b hks hkey hlk
   obtain rfl:x=adV a:=hxa
   have hJ2:J ss w2:=hJ ss wr w2 (some W.heap.size) hJs hg2 (fun r e=>by cases e;exact ⟨Nat.le_refl _,hrg.iter_walk⟩)
   clear hs2 hv hat
   have hf2:(w2.alloc (.cells (K0 20).toArray 23)).free? w2.heap.size 0 20=true:=World.free?_alloc_at _ _ rfl (by simp [K0])
   have hok:=C7 20 a
   have hlen:=L2 hok
   generalize hw3:(w2.alloc (.cells (K0 20).toArray 23)).setCells w2.heap.size 0 (A3 20 a)=w3
   have hb3:Below w2.heap.size w2 w3:=by rw [← hw3];exact ((Below.refl _ w2).alloc (Nat.le_refl _) _).setCells (Nat.le_refl _) _ _
   have hJ3:J ss w3:=hJ ss w2 w3 none hJ2 ⟨hb3.1,hb3.2,hb3.3,hb3.size,fun k hk _=>hb3.block k hk⟩ (fun r e=>by cases e)
   have hr3:w3.row? w2.heap.size 0 20=some (A3 20 a):=by
    have hz:(K0 20).length=20:=by simp [K0]
    rw [← hw3,World.row?_setCells_lay 0 (A3 20 a) (Nat.le_refl _) (by rw [hlen];exact Nat.le_refl _),World.row?_alloc_at _ _ _ rfl hz]
    show some (lay (K0 20) 0 (A3 20 a))=_
    rw [A3M _ _ (by rw [hlen,hz])]
   obtain ⟨fn,tmps,assign,body,hy,hR⟩:=hY ss a w3 hJ3 (by omega)
   have hk3:KeepsWalks w2 w3:=⟨hb3.size,fun k o h _=>(hb3.block k (Array.getElem?_eq_some_iff.1 h).1).trans h⟩
   simp only [B46] at hy hen ⊢
   gi_wp2
   refine hR.mono ?_
   rintro e W3 (⟨rfl,hJ4,hk4⟩ | ⟨rfl,hJ4⟩)
   ·gi_wp2
    have hrg3:=(hrg2.of_walks hk3).of_walks hk4
    go_roundw
    case rel=>exact ⟨_,cnt2,ss++[a],hrg3,by simp;omega,hC2,hJ4⟩
    case measure=>rw [hrg3.left_eq,hrg.left_eq];exact hlt
   ·gi_wp2
    refine bodyPost_ret (results_none rfl _ _ _) rfl ?_
    exact ⟨⟨_,rfl⟩,.inr ⟨_,trivial,hJ4⟩⟩
end Go.Proofs.YtfflppedbopdpaaGreat
namespace Go.Mun
open Go.RowKit
def Y1 (l:List Nat):List Value:=l.flatMap (A3 20)
@[go_sem,simp] theorem B9W (l:List Nat):(Y1 l).length=l.length*20:=by
 induction l with
 | nil=>rfl
 | cons a l ih=>simp [Y1] at ih ⊢;omega
theorem B3v (l:List Nat) (x:Nat):Y1 (l++[x])=Y1 l++A3 20 x:=by simp [Y1]
theorem Below.asGrown {w w':World} (h:Below w.heap.size w w'):w.grownBy w' none:=⟨h.1,h.2,h.3,h.size,fun k hk _=>h.block k hk⟩
theorem Below.keepsOthers {w w':World} (h:Below w.heap.size w w'):KeepsOthers w w':=⟨h.size,fun k o hk _=>(h.block k (Array.getElem?_eq_some_iff.1 hk).1).trans hk⟩
theorem Below.keepsWalks {w w':World} (h:Below w.heap.size w w'):KeepsWalks w w':=⟨h.size,fun k o hk _=>(h.block k (Array.getElem?_eq_some_iff.1 hk).1).trans hk⟩
theorem B1r (B n:Nat) (L:List Value):_root_.Go.Own (fun (_:Unit) W=>W.row? B 0 n=some L):=by
 intro s X Y row h hg hr
 have hlt:=World.row?_lt h
 refine (World.row?_of_block (hg.block B hlt ?_)).trans h
 intro e
 obtain ⟨o,ho,hc⟩:=hr B e.symm
 obtain ⟨c,t,f,hb,_⟩:=World.row?_inv h
 rw [hb] at ho;cases ho;cases hc
theorem A3Y (w:World) (L:List Value) (t:TypeId):∀ j u,L[j]? = some u→(w.alloc (.cells L.toArray t)).cell? ((⟨w.heap.size,0,none⟩:Addr).add j)=some u:=by
 intro j u hj
 have h:=World.alloc_heap_new w (.cells L.toArray t)
 have h2:((⟨w.heap.size,0,none⟩:Addr).add j)=⟨w.heap.size,j,none⟩:=by
  cases j <;> simp [Addr.add]
 rw [h2]
 unfold World.cell?
 simp only [h]
 simpa using hj
theorem Boxed.free {W:World} {B:Nat} {t:TypeId} {v:Value} (h:Boxed W B t v):W.free? B 0 1=true:=by
 unfold Boxed at h
 unfold World.free?
 simp only [h]
 simp
end Go.Mun
namespace Go.Proofs.YtfflppedbopdpaaGreat
open Go.RowKit Go.Mun Go.Maps Go.Shelf
attribute [local go_sem] Oper.semAt_some
attribute [local go_sem ↓] A2I
attribute [local irreducible] A3 K0
theorem C0m:A1w Tryz.prog 150 23 20 1 (K0 20):=⟨Tryz.underlying150,⟨_,.agg (K0 20).toArray,rfl,by kernel_rfl,by kernel_rfl,by kernel_rfl⟩,by decide,by kernel_rfl,by decide⟩
def B4z (p:List (Nat × Value)):Option (List Value):=I1 (1*20) ((List.range 1).map fun i=>(i*20,20)) (K0 20) p
theorem C1i (ρ:Operand→Value) (dst:Option Tmp) (x:Operand) (t:TypeId) (pos:String) (after:Array Edge) (gd:Option (Nat × Bool)) (w:World) :
  (execOp ρ ⟨dst,.buildSlice 150 1 #[(0,x)],t,pos,after,gd⟩).run Tryz.prog w=F7 (A4F Tryz.prog 150 23 1 [(0,ρ x)] w (B4z [(0,ρ x)])):=
 A1i ρ dst t pos after gd w C0m [(0,x)]
theorem zU8_len (n:Nat):(K0 n).length=n:=by unfold K0;simp
@[go_sem] theorem B8K (c:List Value) (h:c.length=20):B4z [(0,.agg c.toArray)]=some c:=by
 unfold B4z
 have hz:=zU8_len 20
 have:lay (K0 20) 0 c=c:=by
  have:=A3L (K0 20) c [] (by simp [h,hz])
  simpa using this
 simp [I1,h,Value.cells,this]
theorem C0n (ρ:Operand→Value) (dst:Option Tmp) (x y:Operand) (t:TypeId) (pos:String) (after:Array Edge) (gd:Option (Nat × Bool)) (w:World):(execOp ρ ⟨dst,.store 150 x y,t,pos,after,gd⟩).run Tryz.prog w=L1 (A0S Tryz.prog 150 (ρ x) (ρ y) w):=N9 ρ dst x y t pos after gd w (by kernel_rfl)
attribute [go_sem ↓] C1i C0n
theorem B9x:(Tryz.prog.info? 23).map (fun i=>(i.zero,i.size,i.bytes))=some (some (.agg (K0 20).toArray),20,20):=by kernel_rfl
theorem A79 (F:Fence) (n:Nat) (hF:F.fn 270) (hG:F.fn 184) (hro:F.round=none) (hn:3≤n) (Bm:Nat) (ks:List Nat) (w:World) (hN:ks.length≤4000000)
  (hseq:∀ w':World,Below w.heap.size w w'→SeqStopsK F (n - 1) Tryz.prog 184 #[.pointer (some ⟨Bm,0,none⟩)] (fun a:Nat => #[adV a]) KeepsWalks (fun ss=>ss.Perm ks) (fun _=>True) ks.length w') :
  CallsIn F n Tryz.prog 270 #[.slice none 0 0,.func (.func 184) #[] #[.pointer (some ⟨Bm,0,none⟩)]] w fun e W' => ∃ v ss,e = .returned v∧ss.Perm ks∧W'.ownsRow w.heap.size 23 20 v ss.length (Y1 ss)∧(v = .slice none 0 0↔ss = [])∧Below w.heap.size w W':=by
 obtain ⟨i0,hi,hz0,hz1,hz2⟩:=info_parts B9x
 have h1:1≤n:=by omega
 refine callsIn_of_wp_marks Tryz.func270 rfl hF ?_ hro
 try simp only [Tryz.ntmps270,List.size_toArray,List.length_cons,List.length_nil,Nat.reduceAdd,Nat.reduceSub,Array.replicate_succ,Array.replicate_zero,List.push_toArray,List.append_toArray,List.nil_append,List.cons_append]
 gi_wp2
 obtain ⟨W0,hW0⟩:∃ W0,w.alloc (.cells #[.slice none 0 0] 150)=W0:=⟨_,rfl⟩
 have hsz:W0.heap.size=w.heap.size+1:=by rw [← hW0];simp
 have hB0:Boxed W0 w.heap.size 150 (.slice none 0 0):=by rw [← hW0];exact Boxed.new _ _ _
 have hBW:Below w.heap.size w W0:=by rw [← hW0];exact (Below.refl _ w).alloc (Nat.le_refl _) _
 rw [hW0]
 have hO1:OwnFrom W0.heap.size (fun (pre:List Nat) W => ∃ v,Boxed W w.heap.size 150 v∧W.ownsRow w.heap.size 23 20 v pre.length (Y1 pre)∧(v = .slice none 0 0↔pre = [])):=
  _root_.Go.Own.from (holdsRow_own (β:=List Nat) w.heap.size w.heap.size 150 23 20 (fun pre=>pre.length) Y1 (fun pre v=>v = .slice none 0 0↔pre = [])) _
 have hO2:OwnFrom W0.heap.size (fun (_:List Nat) W=>Below w.heap.size w W):=ownFrom_below (Nat.le_refl _) (by rw [hsz];omega)
 have hOI:=OwnFrom.and hO1 hO2
 refine wpIn_rangeFunc_ownH hro h1 (gf:=184) (lb:=#[.pointer (some ⟨Bm,0,none⟩)]) rfl hG (enters_of Tryz.func184 (by kernel_rfl) rfl)
  (hseq W0 hBW) walksK_t walksK_b (Below.refl _ _) (fun _=>rfl)
  (fun pre W=>(∃ v,Boxed W w.heap.size 150 v∧W.ownsRow w.heap.size 23 20 v pre.length (Y1 pre)∧(v = .slice none 0 0↔pre = []))∧Below w.heap.size w W)
  (fun _ _ _=>False)
  hOI
  (fun _ _ _ _ _ h _ _=>h)
  ⟨⟨_,hB0,World.ownsRow_nil _ _ _ _,by simp⟩,hBW⟩
  (fun x a' W => ∃ Bx,w.heap.size < Bx∧W.row? Bx 0 20=some (A3 20 x)∧a'={ tmps:=#[.slice none 0 0,.func (.func 184) #[] #[.pointer (some ⟨Bm,0,none⟩)],.pointer (some ⟨w.heap.size,0,none⟩),undef,.slice none 0 0,.pointer (some ⟨Bx,0,none⟩),.func (.func 184) #[] #[.pointer (some ⟨Bm,0,none⟩)],adV x,undef,undef,undef,undef,undef],defers:=[] })
  (fun x a' s X Y row h hg hr=>by
   obtain ⟨Bx,hB,hrow,e⟩:=h
   exact ⟨Bx,hB,B1r Bx 20 _ () X Y row hrow hg (fun r e=>(hr r e).2),e⟩) ?assign ?body ?done ?stop
 case assign =>
  rintro l pre x W K ⟨⟨v,hv,hrow,hnil⟩,hB⟩ hK
  have hf2:(W.alloc (.cells (K0 20).toArray 23)).free? W.heap.size 0 20=true:=World.free?_alloc_at _ _ rfl (by simp [zU8_len])
  have hok:=C7 20 x
  have hlen:=L2 hok
  have hr3:((W.alloc (.cells (K0 20).toArray 23)).setCells W.heap.size 0 (A3 20 x)).row? W.heap.size 0 20=some (A3 20 x):=by
   rw [World.row?_setCells_lay 0 (A3 20 x) (Nat.le_refl _) (by rw [hlen];exact Nat.le_refl _),World.row?_alloc_at _ _ _ rfl (zU8_len 20)]
   show some (lay (K0 20) 0 (A3 20 x))=_
   rw [A3M _ _ (by rw [hlen,zU8_len])]
  have hb3:Below W.heap.size W ((W.alloc (.cells (K0 20).toArray 23)).setCells W.heap.size 0 (A3 20 x)):=((Below.refl _ W).alloc (Nat.le_refl _) _).setCells (Nat.le_refl _) _ _
  simp only [B46] at hK ⊢
  gi_wp2
  refine hK _ _ ((Below.keepsOthers hb3).from _) (Below.keepsWalks hb3) ⟨⟨v,?_,?_,hnil⟩,?_⟩ ⟨_,?_,hr3,rfl⟩
  ·exact Boxed.kept hv (Below.asGrown hb3) (by simp)
  ·exact hrow.kept (Below.asGrown hb3) (by cases v.ownBlock <;> simp)
  ·exact hB.trans (hb3.mono hB.size)
  ·exact Nat.lt_of_lt_of_le hv.lt (Nat.le_refl _)
 case body =>
  rintro l pre x a' W hl _ ⟨⟨v,hv,hrow,hnil⟩,hB⟩ ⟨Bx,hBx,hrx,rfl⟩ hlt
  have hvc:=hv.cell
  have hok:=C7 20 x
  have hlen:=L2 hok
  have hsW:=hB.size
  gi_wp2_with (gi_at_builtin;go_must (refine wpListIn_append_own _ rfl _ _ 150 rfl w.heap.size 23 i0 _ 20 20 Tryz.underlying150 hi hz0 hz1 hz2 (by simp [Value.cells,zU8_len]) (by decide) _ _ _ rfl (hrow.alloc _) ⟨W.heap.size,0,none⟩ 1 1 (A3 20 x) rfl (by rw [hlen]) (A3Y _ _ _) (M8 hok) (by unfold maxLen;omega) (by omega) (by simp;omega) ?_);intro v' w1 hown' hgrow _;obtain ⟨g',cap',rfl⟩:=ownsRow_succ hown';obtain ⟨hv1,hv2,hr2,hk2,hb2⟩:=hv.appended (by decide) hrow hB.size (Nat.le_refl _) hown' hgrow;have hc1:=hv1.cell;have hf1:=Boxed.free hv1)
  refine ⟨hk2.from _,hk2.walks,⟨⟨_,hv2,?_,?_⟩,?_⟩⟩
  ·rw [B3v];simpa using hr2
  ·simp
  ·exact hB.trans hb2
 case done =>
  rintro D xs W hD hp ⟨⟨v,hv,hrow,hnil⟩,hB⟩ hK
  have hvc:=hv.cell
  gi_wp2
  refine ⟨by simp,.inl ⟨_,_,rfl,run_takeDeferred hK,?_⟩⟩
  refine ⟨_,results_tmp rfl _ _ _,v,xs,rfl,hp,ownsRow_putObj hrow _ hK rfl,hnil,hB.trans (belowK_b (w:=w) (Nat.le_refl _) W D _ _ (by omega) hK rfl rfl)⟩
 case stop =>
  rintro D c pre W hD _ h _
  exact h.elim
end Go.Proofs.YtfflppedbopdpaaGreat
namespace Go.Proofs.YtfflppedbopdpaaGreat
open Go.RowKit Go.Mun Go.Sort
theorem B1o (b:Nat) (w:World):(Instr.sliceAt 23 (.pointer (some ⟨b,0,none⟩)) none none none).run Tryz.prog w = .ok (.slice (some ⟨b,0,none⟩) 20 20) w:=by
 kernel_rfl
theorem A3P {w:World} {b c k:Nat} {a:Nat} (h:w.row? b 0 k=some (A3 k a)) (hk:k≤c) (hm:c≤maxLen):I7 w .u8 (some ⟨b,0,none⟩) c (be k a):=by
 refine ⟨fun _=>⟨b,0,rfl,fun i hi=>?_⟩,fun h=>(by cases h),by simpa using hk,hm⟩
 have hi':i < k:=by simpa using hi
 have:=World.row?_cell h (i:=i) hi'
 rw [this]
 unfold A3
 rw [List.getElem?_map]
 cases hx:(be k a)[i]? with
 | none=>rw [List.getElem?_eq_none_iff] at hx;simp at hx;omega
 | some y=>simp
theorem B3k (x y:Nat) (hx:x < wA) (hy:y < wA) (W:World):Calls Tryz.prog 77 #[.agg (A3 20 x).toArray,.agg (A3 20 y).toArray] W fun e w'=>e = .returned (.int .i64 (A71 x y))∧∃ q os',w'=grow (W.drewN q) os':=by
 obtain ⟨W2,e2⟩:∃ W2,W2=(W.alloc (.cells (A3 20 x).toArray 23)).alloc (.cells (A3 20 y).toArray 23):=⟨_,rfl⟩
 have h1:W2.drew.row? W.heap.size 0 20=some (A3 20 x):=by
  rw [World.row?_drew,e2,World.row?_alloc_lt _ (by simp)];exact World.row?_alloc_at _ _ _ rfl (B0 _ _)
 have h2:W2.drew.row? (W.heap.size+1) 0 20=some (A3 20 y):=by
  rw [World.row?_drew,e2];exact World.row?_alloc_at _ _ _ (by simp) (B0 _ _)
 have hc:=A3c (A3P h1 (Nat.le_refl 20) (by decide)) (A3P h2 (Nat.le_refl 20) (by decide))
 rw [A2j,A2j,B4M 20 x y hx hy] at hc
 have HC:=hid hc
 have s1:=B1o W.heap.size
 have s2:=B1o (W.heap.size+1)
 have HE:=hid e2
 obtain ⟨T,hT⟩:∃ T:World→Prop,T=fun W'=>W'=W2.drew:=⟨_,rfl⟩
 have HT:=hid hT
 have t0:T W2.drew:=by rw [hT]
 clear hc hT h1 h2 e2 hx hy
 generalize A71 x y=r at *
 have hlx:=B0 20 x
 have hly:=B0 20 y
 go_enter Tryz.func77,Tryz.ntmps77
 go_wp2_with fail
 rw [← HE.out]
 refine A6 T [] (.pure 0 (.pure 1 (.alt 2 (.pure 3 .fin) .stop))) (by kernel_rfl) (by kernel_rfl) ?_
 iterate 2
  refine A0 ?_ rfl (by rfl) (fun w' hs=>?_) (fun _ _ _ h=>h) ?_
  rotate_left
  ·clear hs
   go_simp
   try rfl
  simp only [Act.put,D6,D5,D4]
 refine A8 rfl (fun K hK=>?_)
 go_simp
 refine HC.out.mono ?_
 rintro e w' ⟨rfl,rfl⟩
 refine hK.out _ _ t0 ?_
 clear hK K
 refine A0 ?_ rfl (by rfl) (fun w' hs=>?_) (fun _ _ _ h=>h) ?_
 rotate_left
 ·clear hs
  go_simp
  try rfl
 simp only [Act.put,D6,D5,D4]
 refine C3 ?_
 go_wp2
 go_ret
 refine ⟨rfl,1,#[.cells (A3 20 x).toArray 23,.cells (A3 20 y).toArray 23],?_⟩
 rw [HE.out,alloc_eq_grow,alloc_eq_grow,grow_grow]
 rfl
end Go.Proofs.YtfflppedbopdpaaGreat
namespace Go.Proofs.YtfflppedbopdpaaGreat
open Go.RowKit Go.Mun
theorem _root_.Go.Mun.SlotsAt.form {w:World} {own:Go.Mun.Own} {sv:Value} {sl:List (Nat × Nat)} (h:SlotsAt w own sv sl):∃ a c,sv = .slice a sl.length c:=by
 rcases h.read.2 with ⟨rfl,h0⟩ | ⟨g,cap,cur,rfl,_⟩
 ·exact ⟨none,0,by rw [h0]⟩
 ·exact ⟨_,_,rfl⟩
theorem A2L {w:World} {own:Go.Mun.Own} {p:J3 × Value × Value} (h:U4 w own p):P0 55 (I5 p)=true:=by
 obtain ⟨a,c,h1,_⟩:=h.code.read
 obtain ⟨a2,c2,h2⟩:=h.slots.form
 unfold I5
 rw [h1,h2]
 refine A1a (L8 _ _ _) fun s hs=>?_
 simp only [P4,List.mem_cons,List.not_mem_nil,or_false] at hs
 rcases hs with rfl | rfl | rfl | rfl | rfl
 all_goals first | rfl | (rw [B0];exact C7 _ _)
theorem A3C {w:World} {own:Go.Mun.Own} {ps:List (J3 × Value × Value)} (h:∀ p∈ps,U4 w own p):P0 (ps.length*55) (G8 ps)=true:=by
 refine A0q (A4a ps) fun v hv=>?_
 obtain ⟨p,hp,hv2⟩:=List.mem_flatMap.1 hv
 exact M8 (A2L (h p hp)) v hv2
def A6E (a:Option Addr) (n c k:Nat):Option Addr:=if c=k then a else a.map (·.add (k*55))
theorem A3x (a:Option Addr) (n c k:Nat) (hk:k≤n) (w:World):(Instr.slice 45 (.slice a n c) (some (.int .i64 (k:Int))) none none).run Tryz.prog w = .ok (.slice (A6E a n c k) (n - k) (c - k)) w:=by
 have he:Tryz.prog.elem 45=35:=by kernel_rfl
 have hs:(sizeOf 35).run Tryz.prog w = .ok 55 w:=by kernel_rfl
 rw [run_slice_l w 45 a n c (by rw [he];exact Tryz.underlying45) .i64 (k:Int) (by omega) (by omega),he,hs]
 simp only [Result.andThen,sliced,Int.toNat_natCast]
 rfl
theorem A3y (a:Option Addr) (n c k:Nat) (hk:k≤c) (w:World):(Instr.slice 45 (.slice a n c) none (some (.int .i64 (k:Int))) none).run Tryz.prog w = .ok (.slice a k c) w:=by
 have he:Tryz.prog.elem 45=35:=by kernel_rfl
 have hs:(sizeOf 35).run Tryz.prog w = .ok 55 w:=by kernel_rfl
 rw [run_slice_h w 45 a n c (by rw [he];exact Tryz.underlying45) .i64 (k:Int) (by omega) (by omega),he,hs]
 have ha:(if c=0 then a else a.map (·.add (0*55)))=a:=by
  split
  ·rfl
  ·cases a with
   | none=>rfl
   | some a=>simp [Addr.add]
 simp only [Result.andThen,sliced,Int.toNat_natCast,Nat.sub_zero,ha]
section
variable {w:World} {own:Go.Mun.Own} {a:Option Addr} {c n:Nat} {ps:List (J3 × Value × Value)}
theorem _root_.Go.Mun.RArr.src_tail (h:RArr w own (.slice a ps.length c) ps) (k:Nat) (hk:k≤ps.length):F0 w (A6E a ps.length c k) (c - k) (ps.length - k) 55 (G8 (ps.drop k)):=by
 refine ⟨?_,fun hm=>?_,fun e=>?_⟩
 ·have:=A3C (ps:=ps.drop k) (fun p hp=>h.ok p (List.mem_of_mem_drop hp))
  rwa [List.length_drop] at this
 ·obtain ⟨g,c',hv,_,hc,_,hr,_⟩:=I3 h.cells (by omega)
  cases hv
  refine ⟨g,k*55,?_,fun j u hu=>?_⟩
  ·unfold A6E
   rw [if_neg (by omega),Option.map_some,Z0 rfl,Nat.zero_add]
  ·rw [← A5o,List.getElem?_drop] at hu
   have hj:=(List.getElem?_eq_some_iff.1 hu).1
   rw [A4a] at hj
   have:=World.row?_cell hr (i:=k*55+j) hj
   rw [Nat.zero_add] at this
   rw [this];exact hu
 ·rcases h.cells.2 with ⟨h1,h2⟩ | ⟨g,cap,cur,h1,h2,h3,h4⟩
  ·injection h1 with e1 e2 e3;omega
  ·injection h1 with e1 e2 e3
   subst e1
   unfold A6E at e
   split at e <;> simp at e
theorem _root_.Go.Mun.RArr.src_head (h:RArr w own (.slice a ps.length c) ps) (k:Nat) (hk:k≤ps.length):F0 w a c k 55 (G8 (ps.take k)):=by
 refine ⟨?_,fun hm=>?_,fun e=>?_⟩
 ·have:=A3C (ps:=ps.take k) (fun p hp=>h.ok p (List.mem_of_mem_take hp))
  rwa [List.length_take,Nat.min_eq_left hk] at this
 ·obtain ⟨g,c',hv,_,hc,_,hr,_⟩:=I3 h.cells (by omega)
  cases hv
  refine ⟨g,0,rfl,fun j u hu=>?_⟩
  rw [← B0f,List.getElem?_take] at hu
  split at hu
  ·have hj:=(List.getElem?_eq_some_iff.1 hu).1
   rw [A4a] at hj
   have:=World.row?_cell hr (i:=j) hj
   rw [Nat.zero_add] at this ⊢
   rw [this];exact hu
  ·cases hu
 ·subst e
  rcases h.cells.2 with ⟨h1,h2⟩ | ⟨g,cap,cur,h1,h2,h3,h4⟩
  ·injection h1 with e1 e2 e3;omega
  ·injection h1 with e1 e2 e3;cases e1
theorem _root_.Go.Mun.RArr.form {v:Value} (h:RArr w own v ps):∃ a c,v = .slice a ps.length c:=by
 rcases h.cells.2 with ⟨rfl,h0⟩ | ⟨g,cap,cur,rfl,_⟩
 ·exact ⟨none,0,by rw [h0]⟩
 ·exact ⟨_,_,rfl⟩
theorem A3D (ps:List (J3 × Value × Value)) (i:Nat) (hi:i < ps.length):((G8 ps).drop (i*55)).take 55=I5 ps[i]:=by
 rw [A5o,List.drop_eq_getElem_cons hi,T3,List.take_left' (P5 _)]
theorem _root_.Go.Mun.RArr.row {v:Value} (h:RArr w own v ps) {i:Nat} (hi:i < ps.length):∃ g c,v = .slice (some ⟨g,0,none⟩) ps.length c∧own g=some .acc∧w.row? g (i*55) 55=some (I5 ps[i])∧w.free? g (i*55) 55=true:=by
 obtain ⟨g,c,rfl,_,hc,_,hr,hf⟩:=I3 h.cells (by omega)
 refine ⟨g,c,rfl,h.lab g rfl,?_,World.free?_sub hf (by omega)⟩
 have h1:=World.row?_sub hr (o':=i*55) (n':=55) (by omega) (by omega)
 rw [h1,Nat.sub_zero,A3D ps i hi]
end
theorem A8J (b o:Nat) (w:World):(Instr.sliceAt 23 (.pointer (some ⟨b,o,none⟩)) none none none).run Tryz.prog w = .ok (.slice (some ⟨b,o,none⟩) 20 20) w:=by
 have hl:Tryz.prog.arrayLen 23=20:=by kernel_rfl
 have he:Tryz.prog.elem 23=5:=by kernel_rfl
 have hs:(sizeOf 5).run Tryz.prog w = .ok 1 w:=by kernel_rfl
 rw [run_sliceAt_array_all w 23 ⟨b,o,none⟩ (by rw [hl,he];exact Tryz.underlying23),he,hs,hl]
 simp only [Result.andThen,slicedAt,Nat.zero_mul,Nat.sub_zero]
 rw [if_neg (by omega),Z0 rfl,Nat.add_zero]
theorem A53 {w:World} {b o x:Nat} (h:w.row? b o 20=some (A3 20 x)):(convert 26 9 (.slice (some ⟨b,o,none⟩) 20 20)).run Tryz.prog w = .ok (.string (A0R (be 20 x))) w:=by
 refine I9 (P:=Tryz.prog) Tryz.underlying26 Tryz.underlying5 Tryz.underlying9 (by simp) ?_
 refine ⟨fun _=>⟨b,o,rfl,fun i hi=>?_⟩,fun h=>(by cases h),by simp,by decide⟩
 have hi':i < 20:=by simpa using hi
 rw [World.row?_cell h hi']
 unfold A3
 rw [List.getElem?_map]
 cases hx:(be 20 x)[i]? with
 | none=>rw [List.getElem?_eq_none_iff] at hx;simp at hx;omega
 | some y=>simp
end Go.Proofs.YtfflppedbopdpaaGreat
