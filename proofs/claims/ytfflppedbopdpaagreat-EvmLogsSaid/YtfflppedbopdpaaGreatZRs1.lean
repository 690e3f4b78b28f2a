/- A part of the proof of EvmLogs: ZRs1. -/
import Derived.Test.YtfflppedbopdpaaGreatZNw1
import Derived.Test.YtfflppedbopdpaaGreatZKs
set_option linter.unusedVariables false
set_option maxRecDepth 1000000
set_option maxHeartbeats 8000000
set_option linter.unusedSimpArgs false
namespace Go.Mun
open Go.Proofs.YtfflppedbopdpaaGreat (Ac)

structure I7 where
 ac:Ac
 slots:List (Nat × Nat)
def I7.new (a:Nat):I7:=⟨⟨a,0,0,[]⟩,[]⟩
def I7.acc (x:I7):Acc:=⟨x.ac.nonce.toNat,x.ac.bal,x.ac.code,fun k=>(I3 k x.slots).getD 0⟩
def T3:List I7→Nat→Nat
 | [],_=>0
 | x :: R,a=>if x.ac.addr < a then T3 R a+1 else 0
def A5C (R:List I7) (a:Nat):Prop:=∃ x,R[T3 R a]? = some x∧x.ac.addr=a
def atR (R:List I7) (a:Nat):List I7:=R.take (T3 R a)++I7.new a :: R.drop (T3 R a)
def Q1 (R:List I7):Prop:=(R.map fun x=>x.ac.addr).Pairwise (· < ·)
def rst:List I7→St
 | [],_=>Acc.none
 | x :: R,a=>if x.ac.addr=a then x.acc else rst R a
theorem A4L (R:List I7) (a:Nat):T3 R a≤R.length:=by
 induction R with
 | nil=>exact Nat.le_refl _
 | cons x R ih=>simp only [T3];split <;> simp <;> omega
theorem A7I (R:List I7) (a:Nat):∀ i,i < T3 R a→∃ x,R[i]? = some x∧x.ac.addr < a:=by
 induction R with
 | nil=>intro i hi;simp [T3] at hi
 | cons x R ih =>
  intro i hi
  simp only [T3] at hi
  split at hi
  ·cases i with
   | zero=>exact ⟨x,rfl,by assumption⟩
   | succ i=>exact ih i (by omega)
  ·omega
theorem A7J (R:List I7) (a:Nat):∀ x,R[T3 R a]? = some x→a≤x.ac.addr:=by
 induction R with
 | nil=>intro x hx;simp at hx
 | cons y R ih =>
  intro x hx
  simp only [T3] at hx
  split at hx
  ·exact ih x (by simpa using hx)
  ·simp at hx;subst hx;omega
theorem A3r {R:List I7} {a:Nat} (h:∀ x∈R,x.ac.addr≠a):rst R a=Acc.none:=by
 induction R with
 | nil=>rfl
 | cons x R ih =>
  simp only [rst]
  rw [if_neg (h x (by simp))]
  exact ih fun y hy=>h y (by simp [hy])
theorem A3q {R:List I7} (hr:Q1 R) {i:Nat} {x:I7} (h:R[i]? = some x):rst R x.ac.addr=x.acc:=by
 induction R generalizing i with
 | nil=>simp at h
 | cons y R ih =>
  unfold Q1 at hr
  rw [List.map_cons,List.pairwise_cons] at hr
  cases i with
  | zero=>simp at h;subst h;simp [rst]
  | succ i =>
   have hx:x∈R:=List.mem_of_getElem? (by simpa using h)
   have:=hr.1 x.ac.addr (List.mem_map.2 ⟨x,hx,rfl⟩)
   simp only [rst]
   rw [if_neg (by omega)]
   exact ih hr.2 (by simpa using h)
theorem A5e (R T:List I7) (a:Nat):rst (R++T) a=if ∃ x∈R,x.ac.addr=a then rst R a else rst T a:=by
 induction R with
 | nil=>simp
 | cons x R ih =>
  simp only [List.cons_append,rst]
  by_cases hx:x.ac.addr=a
  ·rw [if_pos hx,if_pos ⟨x,by simp,hx⟩,if_pos hx]
  ·rw [if_neg hx,ih]
   by_cases h2:∃ y∈R,y.ac.addr=a
   ·obtain ⟨y,hy,hya⟩:=h2
    rw [if_pos ⟨y,hy,hya⟩,if_pos ⟨y,by simp [hy],hya⟩,if_neg hx]
   ·rw [if_neg h2,if_neg]
    rintro ⟨y,hy,hya⟩
    rcases List.mem_cons.1 hy with rfl | h3
    ·exact hx hya
    ·exact h2 ⟨y,h3,hya⟩
theorem A5B {R:List I7} {a:Nat} (hr:Q1 R):A5C R a↔∃ x∈R,x.ac.addr=a:=by
 constructor
 ·rintro ⟨x,h1,h2⟩;exact ⟨x,List.mem_of_getElem? h1,h2⟩
 ·rintro ⟨x,hx,rfl⟩
  obtain ⟨i,hi⟩:=List.mem_iff_getElem?.1 hx
  have hlt:∀ j,j < i→∃ y,R[j]? = some y∧y.ac.addr < x.ac.addr:=by
   intro j hj
   obtain ⟨hil,hi'⟩:=List.getElem?_eq_some_iff.1 hi
   refine ⟨R[j]'(by omega),List.getElem?_eq_getElem _,?_⟩
   have:=List.pairwise_iff_getElem.1 hr j i (by simpa using (show j < R.length by omega)) (by simpa using hil) hj
   simp only [List.getElem_map] at this
   rw [hi'] at this
   exact this
  have hp:T3 R x.ac.addr=i:=by
   rcases Nat.lt_trichotomy (T3 R x.ac.addr) i with h | h | h
   ·obtain ⟨y,h1,h2⟩:=hlt _ h
    have:=A7J R x.ac.addr y h1
    omega
   ·exact h
   ·obtain ⟨y,h1,h2⟩:=A7I R x.ac.addr i h
    rw [hi] at h1;cases h1;omega
  exact ⟨x,by rw [hp];exact hi,rfl⟩
theorem B5D {R:List I7} {a:Nat} (hr:Q1 R) (hn:¬ A5C R a):rst (atR R a)=rst R:=by
 have hna:∀ x∈R,x.ac.addr≠a:=fun x hx e=>hn ((A5B hr).2 ⟨x,hx,e⟩)
 funext b
 unfold atR
 rw [A5e]
 have e:rst R b=rst (R.take (T3 R a)++R.drop (T3 R a)) b:=by rw [List.take_append_drop]
 rw [e,A5e]
 split
 ·rfl
 ·simp only [rst]
  split
  ·rename_i h1 h2
   have h2':a=b:=h2
   subst h2'
   rw [A3r]
   ·rfl
   ·intro x hx
    exact hna x (List.mem_of_mem_drop hx)
  ·rfl
theorem A90 {R:List I7} {a:Nat} (hr:Q1 R) (hn:¬ A5C R a):Q1 (atR R a):=by
 have h1:∀ x∈R.take (T3 R a),x.ac.addr < a:=by
  intro x hx
  obtain ⟨i,hi⟩:=List.mem_iff_getElem?.1 hx
  rw [List.getElem?_take] at hi
  split at hi
  ·rename_i h
   obtain ⟨y,h2,h3⟩:=A7I R a i h
   rw [hi] at h2;cases h2;exact h3
  ·cases hi
 have h2:∀ x∈R.drop (T3 R a),a < x.ac.addr:=by
  intro x hx
  have hx2:=hx
  obtain ⟨i,hi⟩:=List.mem_iff_getElem?.1 hx
  rw [List.getElem?_drop] at hi
  have hne:x.ac.addr≠a:=fun e=>hn ((A5B hr).2 ⟨x,List.mem_of_getElem? hi,e⟩)
  have h0:T3 R a < R.length:=by
   have:=(List.getElem?_eq_some_iff.1 hi).1
   omega
  have h3:=A7J R a _ (List.getElem?_eq_getElem h0)
  cases i with
  | zero =>
   rw [Nat.add_zero,List.getElem?_eq_getElem h0] at hi
   cases hi
   omega
  | succ i =>
   have hlt:=(List.getElem?_eq_some_iff.1 hi).1
   have:=List.pairwise_iff_getElem.1 hr (T3 R a) (T3 R a+(i+1)) (by simpa using h0) (by simpa using hlt) (by omega)
   simp only [List.getElem_map] at this
   rw [(List.getElem?_eq_some_iff.1 hi).2] at this
   omega
 unfold Q1 atR
 rw [List.map_append,List.map_cons,List.pairwise_append,List.pairwise_cons]
 have hr1:((R.take (T3 R a)).map fun x=>x.ac.addr).Pairwise (· < ·):=by
  have:=hr.sublist (List.Sublist.map (fun x:I7=>x.ac.addr) (List.take_sublist (T3 R a) R))
  exact this
 have hr2:((R.drop (T3 R a)).map fun x=>x.ac.addr).Pairwise (· < ·):=by
  have:=hr.sublist (List.Sublist.map (fun x:I7=>x.ac.addr) (List.drop_sublist (T3 R a) R))
  exact this
 refine ⟨hr1,⟨?_,hr2⟩,?_⟩
 ·intro b hb
  obtain ⟨x,hx,rfl⟩:=List.mem_map.1 hb
  exact h2 x hx
 ·intro b hb c hc
  obtain ⟨x,hx,rfl⟩:=List.mem_map.1 hb
  have hxa:=h1 x hx
  rcases List.mem_cons.1 hc with rfl | hc
  ·exact hxa
  ·obtain ⟨y,hy,rfl⟩:=List.mem_map.1 hc
   have:=h2 y hy
   exact Nat.lt_trans hxa this
theorem B4r (R:List I7) (a:Nat):(atR R a)[T3 R a]? = some (I7.new a):=by
 unfold atR
 rw [List.getElem?_append_right (by rw [List.length_take];omega),List.length_take]
 have:=A4L R a
 rw [Nat.min_eq_left this,Nat.sub_self]
 rfl
theorem B5B {R:List I7} {i:Nat} {x y:I7} (hr:Q1 R) (h:R[i]? = some x) (he:y.ac.addr=x.ac.addr):rst (R.set i y)=Z9 (rst R) x.ac.addr y.acc:=by
 funext b
 induction R generalizing i with
 | nil=>simp at h
 | cons z R ih =>
  unfold Q1 at hr
  rw [List.map_cons,List.pairwise_cons] at hr
  cases i with
  | zero =>
   simp at h;subst h
   simp only [List.set_cons_zero,rst,Z9]
   rw [he]
   by_cases hb:b=z.ac.addr
   ·subst hb;simp
   ·rw [if_neg (fun e=>hb e.symm),if_neg hb,if_neg (fun e=>hb e.symm)]
  | succ i =>
   have hx:x∈R:=List.mem_of_getElem? (by simpa using h)
   have hlt:=hr.1 x.ac.addr (List.mem_map.2 ⟨x,hx,rfl⟩)
   simp only [List.set_cons_succ,rst,Z9]
   rw [ih hr.2 (by simpa using h)]
   unfold Z9
   by_cases hb:b=x.ac.addr
   ·subst hb;rw [if_neg (by omega),if_pos rfl,if_pos rfl]
   ·rw [if_neg hb,if_neg hb]
theorem A9Z {R:List I7} {i:Nat} {x y:I7} (hr:Q1 R) (h:R[i]? = some x) (he:y.ac.addr=x.ac.addr):Q1 (R.set i y):=by
 have:(R.set i y).map (fun x:I7=>x.ac.addr)=R.map fun x=>x.ac.addr:=by
  rw [List.map_set,he]
  apply List.ext_getElem?
  intro j
  rw [List.getElem?_set]
  split
  ·rename_i e
   subst e
   split
   ·rw [List.getElem?_map,h];rfl
   ·rename_i hl
    rw [List.getElem?_eq_none (by omega)]
  ·rfl
 unfold Q1
 rw [this]
 exact hr
end Go.Mun
namespace Go.Mun
open Go.RowKit
open Go.Proofs.YtfflppedbopdpaaGreat (Ac Q8 K0)

theorem B6Z:∀ (A B:List UInt8),A.length=B.length→Op.bytesLess A B=decide (A2U A < A2U B)
 | [],[],_=>by simp [Op.bytesLess,A2U]
 | [],_ :: _,h=>by simp at h
 | _ :: _,[],h=>by simp at h
 | x :: A,y :: B,h=>by
  have hl:A.length=B.length:=by simpa using h
  have ha:=A3z A
  have hb:=A3z B
  rw [hl] at ha
  simp only [Op.bytesLess,A2U,hl,B6Z A B hl]
  have hxy:x < y↔x.toNat < y.toNat:=UInt8.lt_iff_toNat_lt
  rcases Nat.lt_trichotomy x.toNat y.toNat with h1 | h1 | h1
  ·have h2:(x.toNat+1)*256 ^ B.length≤y.toNat*256 ^ B.length:=Nat.mul_le_mul_right _ h1
   rw [Nat.add_mul,Nat.one_mul] at h2
   have d1:decide (x < y)=true:=decide_eq_true (hxy.2 h1)
   rw [d1,Bool.true_or]
   exact (decide_eq_true (by omega)).symm
  ·have e:x=y:=UInt8.toNat_inj.1 h1
   subst e
   have d1:decide (x < x)=false:=decide_eq_false (by rw [hxy];omega)
   rw [d1]
   simp
  ·have h2:(y.toNat+1)*256 ^ B.length≤x.toNat*256 ^ B.length:=Nat.mul_le_mul_right _ h1
   rw [Nat.add_mul,Nat.one_mul] at h2
   have d1:decide (x < y)=false:=decide_eq_false (by rw [hxy];omega)
   have d2:(x == y)=false:=by
    rw [beq_eq_false_iff_ne];rintro rfl;omega
   rw [d1,d2]
   simp only [Bool.false_and,Bool.or_false]
   exact (decide_eq_false (by omega)).symm
theorem A3i (l:J1):(A1u l).toList=toU l:=by
 unfold A1u toU
 rw [ByteArray.toList_mk]
theorem B6e (k a b:Nat) (ha:a < 256 ^ k) (hb:b < 256 ^ k):Op.bytesLess (A1u (be k a)).toList (A1u (be k b)).toList=decide (a < b):=by
 rw [A3i,A3i,B6Z _ _ (by simp [toU]),A2r _ (A5Q k a),A2r _ (A5Q k b),A38 k a ha,A38 k b hb]

def A2g (sl:List (Nat × Nat)):List Value:=sl.flatMap fun p=>A3 32 p.1++A3 32 p.2
theorem B16 (sl:List (Nat × Nat)):(A2g sl).length=sl.length*64:=by
 induction sl with
 | nil=>rfl
 | cons p sl ih=>simp [A2g] at ih ⊢;omega
structure SlotsAt (w:World) (own:Own) (sv:Value) (sl:List (Nat × Nat)):Prop where
 read:w.ownsRow 0 97 64 sv sl.length (A2g sl)
 lab:∀ g,sv.ownBlock=some g→own g=some (.smap 0)
 val:∀ p∈sl,p.1 < wW∧p.2 < wW
 len:sl.length≤1000000
structure X5 (w:World) (own:Own) (p:I7 × Value × Value):Prop where
 code:Q2 w own p.2.1 p.1.ac.code
 slots:SlotsAt w own p.2.2 p.1.slots
 addr:p.1.ac.addr < wA
 bal:p.1.ac.bal < wW
 nonce:0≤p.1.ac.nonce∧p.1.ac.nonce≤9223372036854775807
def I8 (p:I7 × Value × Value):List Value:=B8 (Q8 p.1.ac p.2.1 p.2.2)
theorem S5 (p:I7 × Value × Value):(I8 p).length=55:=K0 _ _ _
def F6 (ps:List (I7 × Value × Value)):List Value:=ps.flatMap I8
theorem T0 (p:I7 × Value × Value) (ps:List (I7 × Value × Value)):F6 (p :: ps)=I8 p++F6 ps:=by simp [F6]
theorem A12 (ps qs:List (I7 × Value × Value)):F6 (ps++qs)=F6 ps++F6 qs:=by simp [F6]
theorem A3W (ps:List (I7 × Value × Value)):(F6 ps).length=ps.length*55:=by
 induction ps with
 | nil=>rfl
 | cons p ps ih=>rw [T0,List.length_append,S5,ih,List.length_cons];omega
theorem A9X (ps:List (I7 × Value × Value)) (k:Nat):(F6 ps).take (k*55)=F6 (ps.take k):=by
 induction ps generalizing k with
 | nil=>simp [F6]
 | cons p ps ih =>
  cases k with
  | zero=>simp [F6]
  | succ k =>
   rw [T0,List.take_succ_cons,T0,show (k+1)*55=(I8 p).length+k*55 by rw [S5];omega,List.take_length_add_append,ih]
theorem A5f (ps:List (I7 × Value × Value)) (k:Nat):(F6 ps).drop (k*55)=F6 (ps.drop k):=by
 induction ps generalizing k with
 | nil=>simp [F6]
 | cons p ps ih =>
  cases k with
  | zero=>simp [F6]
  | succ k =>
   rw [T0,List.drop_succ_cons,show (k+1)*55=(I8 p).length+k*55 by rw [S5];omega,← List.drop_drop,List.drop_left,ih]
structure RArr (w:World) (own:Own) (v:Value) (ps:List (I7 × Value × Value)):Prop where
 cells:w.ownsRow 0 35 55 v ps.length (F6 ps)
 lab:∀ g,v.ownBlock=some g→own g=some .acc
 ok:∀ p∈ps,X5 w own p
structure RStC (w:World) (own:Own) (sb:Nat) (lv mv:Value) (ps:List (I7 × Value × Value)) (ms:List (Nat × Value × List (I7 × Value × Value))) (n:Nat):Prop where
 lab:own sb=some .st
 row:w.row? sb 0 3=some [lv,mv,.int .i64 n]
 free:w.free? sb 0 3=true
 arr:RArr w own lv ps
 up:Q1 (ps.map fun p=>p.1)
 marks:w.ownsRow 0 195 2 mv ms.length (ms.flatMap fun m => [.int .i64 m.1,m.2.1])
 mlab:∀ g,mv.ownBlock=some g→own g=some .marks
 each:∀ m∈ms,RArr w own m.2.1 m.2.2∧Q1 (m.2.2.map fun p=>p.1)
 apart:(lv :: ms.map fun m=>m.2.1).Pairwise fun a b=>a.ownBlock=none∨a.ownBlock≠b.ownBlock
 low:∀ b,own b≠none→b < w.heap.size
 count:ms.length≤n∧∀ m∈ms,m.1≤n
section
variable {w w':World} {own:Own} {S:Nat→Prop}
theorem SlotsAt.only {sv:Value} {sl:List (Nat × Nat)} (h:SlotsAt w own sv sl) (ho:A0 S w w') (hS:∀ b,S b→own b≠some (.smap 0)):SlotsAt w' own sv sl:=
 ⟨A0.own h.read ho fun g hg hs=>hS g hs (h.lab g hg),h.lab,h.val,h.len⟩
theorem X5.only {p:I7 × Value × Value} (h:X5 w own p) (ho:A0 S w w') (hS:∀ b,S b→own b≠some .code∧own b≠some (.smap 0)):X5 w' own p:=
 ⟨h.code.only ho fun b hb=>(hS b hb).1,h.slots.only ho fun b hb=>(hS b hb).2,h.addr,h.bal,h.nonce⟩
theorem RArr.only {v:Value} {ps:List (I7 × Value × Value)} (h:RArr w own v ps) (ho:A0 S w w') (hS:∀ b,S b→own b≠some .code∧own b≠some (.smap 0)) (hv:∀ g,v.ownBlock=some g→¬ S g):RArr w' own v ps:=
 ⟨A0.own h.cells ho hv,h.lab,fun p hp=>(h.ok p hp).only ho hS⟩
theorem RArr.only_out {v:Value} {ps:List (I7 × Value × Value)} (h:RArr w own v ps) (ho:A0 S w w') (hS:∀ b,S b→own b=none):RArr w' own v ps:=
 h.only ho (fun b hb=>by rw [hS b hb];simp) fun g hg hs=>by have:=h.lab g hg;rw [hS g hs] at this;cases this
theorem RStC.only {sb:Nat} {lv mv:Value} {ps:List (I7 × Value × Value)} {ms:List (Nat × Value × List (I7 × Value × Value))} {n:Nat} (h:RStC w own sb lv mv ps ms n) (ho:A0 S w w') (hS:∀ b,S b→own b=none):RStC w' own sb lv mv ps ms n:=by
 have hn:∀ {b l},own b=some l→¬ S b:=fun hb hr=>by rw [hS _ hr] at hb;cases hb
 have hlt:=World.row?_lt h.row
 exact { h with
  row:=by rw [ho.row? hlt (hn h.lab)];exact h.row
  free:=by rw [ho.free? hlt (hn h.lab)];exact h.free
  arr:=h.arr.only_out ho hS
  marks:=A0.own h.marks ho fun g hg=>hn (h.mlab g hg)
  each:=fun m hm=>⟨(h.each m hm).1.only_out ho hS,(h.each m hm).2⟩
  low:=fun b hb=>Nat.lt_of_lt_of_le (h.low b hb) ho.size }
theorem SlotsAt.le {own':Own} {sv:Value} {sl:List (Nat × Nat)} (h:SlotsAt w own sv sl) (hl:own.le own'):SlotsAt w own' sv sl:=⟨h.read,fun g hg=>hl _ _ (h.lab g hg),h.val,h.len⟩
theorem X5.le {own':Own} {p:I7 × Value × Value} (h:X5 w own p) (hl:own.le own'):X5 w own' p:=⟨h.code.le hl,h.slots.le hl,h.addr,h.bal,h.nonce⟩
theorem RArr.le {own':Own} {v:Value} {ps:List (I7 × Value × Value)} (h:RArr w own v ps) (hl:own.le own'):RArr w own' v ps:=⟨h.cells,fun g hg=>hl _ _ (h.lab g hg),fun p hp=>(h.ok p hp).le hl⟩
end
end Go.Mun
namespace Go.Proofs.YtfflppedbopdpaaGreat
open Go.RowKit Go.Mun

theorem _root_.Go.Mun.SlotsAt.form {w:World} {own:Go.Mun.Own} {sv:Value} {sl:List (Nat × Nat)} (h:SlotsAt w own sv sl):∃ a c,sv = .slice a sl.length c:=by
 rcases h.read.2 with ⟨rfl,h0⟩ | ⟨g,cap,cur,rfl,_⟩
 ·exact ⟨none,0,by rw [h0]⟩
 ·exact ⟨_,_,rfl⟩
theorem A2F {w:World} {own:Go.Mun.Own} {p:I7 × Value × Value} (h:X5 w own p):Q3 55 (I8 p)=true:=by
 obtain ⟨a,c,h1,_⟩:=h.code.read
 obtain ⟨a2,c2,h2⟩:=h.slots.form
 unfold I8
 rw [h1,h2]
 refine A0Y (K0 _ _ _) fun s hs=>?_
 simp only [Q8,List.mem_cons,List.not_mem_nil,or_false] at hs
 rcases hs with rfl | rfl | rfl | rfl | rfl
 all_goals first | rfl | (rw [C4];exact D2 _ _)
theorem A3s {w:World} {own:Go.Mun.Own} {ps:List (I7 × Value × Value)} (h:∀ p∈ps,X5 w own p):Q3 (ps.length*55) (F6 ps)=true:=by
 refine A0j (A3W ps) fun v hv=>?_
 obtain ⟨p,hp,hv2⟩:=List.mem_flatMap.1 hv
 exact M9 (A2F (h p hp)) v hv2
def A6B (a:Option Addr) (n c k:Nat):Option Addr:=if c=k then a else a.map (·.add (k*55))
theorem A3m (a:Option Addr) (n c k:Nat) (hk:k≤n) (w:World):(Instr.slice 45 (.slice a n c) (some (.int .i64 (k:Int))) none none).run Tryz.prog w = .ok (.slice (A6B a n c k) (n - k) (c - k)) w:=by
 have he:Tryz.prog.elem 45=35:=by kernel_rfl
 have hs:(sizeOf 35).run Tryz.prog w = .ok 55 w:=by kernel_rfl
 rw [run_slice_l w 45 a n c (by rw [he];exact Tryz.underlying45) .i64 (k:Int) (by omega) (by omega),he,hs]
 simp only [Result.andThen,sliced,Int.toNat_natCast]
 rfl
theorem A3n (a:Option Addr) (n c k:Nat) (hk:k≤c) (w:World):(Instr.slice 45 (.slice a n c) none (some (.int .i64 (k:Int))) none).run Tryz.prog w = .ok (.slice a k c) w:=by
 have he:Tryz.prog.elem 45=35:=by kernel_rfl
 have hs:(sizeOf 35).run Tryz.prog w = .ok 55 w:=by kernel_rfl
 rw [run_slice_h w 45 a n c (by rw [he];exact Tryz.underlying45) .i64 (k:Int) (by omega) (by omega),he,hs]
 have ha:(if c=0 then a else a.map (·.add (0*55)))=a:=by
  split
  ·rfl
  ·cases a with
   | none=>rfl
   | some a=>simp [Addr.add]
 simp only [Result.andThen,sliced,Int.toNat_natCast,Nat.sub_zero,ha]
section
variable {w:World} {own:Go.Mun.Own} {a:Option Addr} {c n:Nat} {ps:List (I7 × Value × Value)}
theorem _root_.Go.Mun.RArr.src_tail (h:RArr w own (.slice a ps.length c) ps) (k:Nat) (hk:k≤ps.length):G8 w (A6B a ps.length c k) (c - k) (ps.length - k) 55 (F6 (ps.drop k)):=by
 refine ⟨?_,fun hm=>?_,fun e=>?_⟩
 ·have:=A3s (ps:=ps.drop k) (fun p hp=>h.ok p (List.mem_of_mem_drop hp))
  rwa [List.length_drop] at this
 ·obtain ⟨g,c',hv,_,hc,_,hr,_⟩:=J5 h.cells (by omega)
  cases hv
  refine ⟨g,k*55,?_,fun j u hu=>?_⟩
  ·unfold A6B
   rw [if_neg (by omega),Option.map_some,U9 rfl,Nat.zero_add]
  ·rw [← A5f,List.getElem?_drop] at hu
   have hj:=(List.getElem?_eq_some_iff.1 hu).1
   rw [A3W] at hj
   have:=World.row?_cell hr (i:=k*55+j) hj
   rw [Nat.zero_add] at this
   rw [this];exact hu
 ·rcases h.cells.2 with ⟨h1,h2⟩ | ⟨g,cap,cur,h1,h2,h3,h4⟩
  ·injection h1 with e1 e2 e3;omega
  ·injection h1 with e1 e2 e3
   subst e1
   unfold A6B at e
   split at e <;> simp at e
theorem _root_.Go.Mun.RArr.src_head (h:RArr w own (.slice a ps.length c) ps) (k:Nat) (hk:k≤ps.length):G8 w a c k 55 (F6 (ps.take k)):=by
 refine ⟨?_,fun hm=>?_,fun e=>?_⟩
 ·have:=A3s (ps:=ps.take k) (fun p hp=>h.ok p (List.mem_of_mem_take hp))
  rwa [List.length_take,Nat.min_eq_left hk] at this
 ·obtain ⟨g,c',hv,_,hc,_,hr,_⟩:=J5 h.cells (by omega)
  cases hv
  refine ⟨g,0,rfl,fun j u hu=>?_⟩
  rw [← A9X,List.getElem?_take] at hu
  split at hu
  ·have hj:=(List.getElem?_eq_some_iff.1 hu).1
   rw [A3W] at hj
   have:=World.row?_cell hr (i:=j) hj
   rw [Nat.zero_add] at this ⊢
   rw [this];exact hu
  ·cases hu
 ·subst e
  rcases h.cells.2 with ⟨h1,h2⟩ | ⟨g,cap,cur,h1,h2,h3,h4⟩
  ·injection h1 with e1 e2 e3;omega
  ·injection h1 with e1 e2 e3;cases e1
theorem _root_.Go.Mun.RArr.form {v:Value} (h:RArr w own v ps):∃ a c,v = .slice a ps.length c:=by
 rcases h.cells.2 with ⟨rfl,h0⟩ | ⟨g,cap,cur,rfl,_⟩
 ·exact ⟨none,0,by rw [h0]⟩
 ·exact ⟨_,_,rfl⟩
theorem A3t (ps:List (I7 × Value × Value)) (i:Nat) (hi:i < ps.length):((F6 ps).drop (i*55)).take 55=I8 ps[i]:=by
 rw [A5f,List.drop_eq_getElem_cons hi,T0,List.take_left' (S5 _)]
theorem _root_.Go.Mun.RArr.row {v:Value} (h:RArr w own v ps) {i:Nat} (hi:i < ps.length):∃ g c,v = .slice (some ⟨g,0,none⟩) ps.length c∧own g=some .acc∧w.row? g (i*55) 55=some (I8 ps[i])∧w.free? g (i*55) 55=true:=by
 obtain ⟨g,c,rfl,_,hc,_,hr,hf⟩:=J5 h.cells (by omega)
 refine ⟨g,c,rfl,h.lab g rfl,?_,World.free?_sub hf (by omega)⟩
 have h1:=World.row?_sub hr (o':=i*55) (n':=55) (by omega) (by omega)
 rw [h1,Nat.sub_zero,A3t ps i hi]
end
theorem A8B (b o:Nat) (w:World):(Instr.sliceAt 23 (.pointer (some ⟨b,o,none⟩)) none none none).run Tryz.prog w = .ok (.slice (some ⟨b,o,none⟩) 20 20) w:=by
 have hl:Tryz.prog.arrayLen 23=20:=by kernel_rfl
 have he:Tryz.prog.elem 23=5:=by kernel_rfl
 have hs:(sizeOf 5).run Tryz.prog w = .ok 1 w:=by kernel_rfl
 rw [run_sliceAt_array_all w 23 ⟨b,o,none⟩ (by rw [hl,he];exact Tryz.underlying23),he,hs,hl]
 simp only [Result.andThen,slicedAt,Nat.zero_mul,Nat.sub_zero]
 rw [if_neg (by omega),U9 rfl,Nat.add_zero]
theorem A5U {w:World} {b o x:Nat} (h:w.row? b o 20=some (A3 20 x)):(convert 26 9 (.slice (some ⟨b,o,none⟩) 20 20)).run Tryz.prog w = .ok (.string (A1u (be 20 x))) w:=by
 refine D8 (P:=Tryz.prog) Tryz.underlying26 Tryz.underlying5 Tryz.underlying9 (by simp) ?_
 refine ⟨fun _=>⟨b,o,rfl,fun i hi=>?_⟩,fun h=>(by cases h),by simp,by decide⟩
 have hi':i < 20:=by simpa using hi
 rw [World.row?_cell h hi']
 unfold A3
 rw [List.getElem?_map]
 cases hx:(be 20 x)[i]? with
 | none=>rw [List.getElem?_eq_none_iff] at hx;simp at hx;omega
 | some y=>simp
end Go.Proofs.YtfflppedbopdpaaGreat
namespace Go.Proofs.YtfflppedbopdpaaGreat
open Go.RowKit Go.Mun
end Go.Proofs.YtfflppedbopdpaaGreat
namespace Go.Mun
open Go.RowKit
def hot (own:Own) (b:Nat):Prop:=own b≠none∧own b≠some .code∧own b≠some (.smap 0)
structure K8 (w w':World) (own own':Own):Prop where
 ext:∀ b,b < w.heap.size→own' b=own b
 only:A0 (hot own) w w'
theorem K8.refl (w:World) (own:Own):K8 w w own own:=⟨fun _ _=>rfl,A0.refl _ _⟩
theorem K8.below {w w':World} (own:Own) (h:Below w.heap.size w w'):K8 w w' own own:=⟨fun _ _=>rfl,A0.of_below_size h⟩
theorem K8.trans {w w1 w2:World} {own own1 own2:Own} (h:K8 w w1 own own1) (k:K8 w1 w2 own1 own2):K8 w w2 own own2:=
 ⟨fun b hb=>(k.ext b (Nat.lt_of_lt_of_le hb h.only.size)).trans (h.ext b hb),h.only.trans k.only fun i hi hb=>by unfold hot at *;rw [← h.ext i hb];exact hi⟩
theorem K8.chg {w w':World} {own own':Own} (h:K8 w w' own own'):T6 w w' own own':=⟨h.ext,h.only.mono fun b hb=>hb.1⟩
theorem A2L {own:Own} {b:Nat} {l:Lab} (h:own b=some l) (h1:l≠.code) (h2:l≠.smap 0):hot own b:=⟨by rw [h];simp,by rw [h];simpa using h1,by rw [h];simpa using h2⟩
end Go.Mun
namespace Go.Proofs.YtfflppedbopdpaaGreat
open Go.RowKit Go.Mun

theorem _root_.Go.Mun.RStC.newArr {w w':World} {own:Go.Mun.Own} {sb:Nat} {lv mv v':Value} {ps ps':List (I7 × Value × Value)} {ms:List (Nat × Value × List (I7 × Value × Value))} {n:Nat} (h:RStC w own sb lv mv ps ms n) (ho:A0 (· = sb) w w')
  (hrow:w'.row? sb 0 3=some [v',mv,.int .i64 n]) (hfree:w'.free? sb 0 3=true) (hc:w'.ownsRow 0 35 55 v' ps'.length (F6 ps')) (hnew:∀ g,v'.ownBlock=some g→w.heap.size≤g) (hup:Q1 (ps'.map fun p=>p.1))
  (hok:∀ p∈ps',X5 w own p):RStC w' (fun b=>if v'.ownBlock=some b then some .acc else own b) sb v' mv ps' ms n∧K8 w w' own (fun b=>if v'.ownBlock=some b then some .acc else own b):=by
 have hle:own.le (fun b=>if v'.ownBlock=some b then some .acc else own b):=by
  intro b l hb
  have hlt:=h.low b (by rw [hb];simp)
  show (if v'.ownBlock=some b then some Lab.acc else own b)=some l
  rw [if_neg (fun e=>by have:=hnew b e;omega)]
  exact hb
 have hS:∀ b,(fun b=>b=sb) b→own b≠some .code∧own b≠some (.smap 0):=fun b hb=>by
  have:b=sb:=hb
  rw [this,h.lab];simp
 have hsb:∀ {v:Value} {l:Lab},l≠.st→(∀ g,v.ownBlock=some g→own g=some l)→∀ g,v.ownBlock=some g→¬ (g=sb):=fun hl hv g hg e=>by
  have:=hv g hg
  rw [e,h.lab] at this
  cases this
  exact hl rfl
 refine ⟨{
  lab:=hle _ _ h.lab
  row:=hrow
  free:=hfree
  arr:=⟨hc,fun g hg=>by show (if v'.ownBlock=some g then some Lab.acc else own g)=_;rw [if_pos hg],fun p hp=>((hok p hp).only ho hS).le hle⟩
  up:=hup
  marks:=A0.own h.marks ho fun g hg=>hsb (by simp) h.mlab g hg
  mlab:=fun g hg=>hle _ _ (h.mlab g hg)
  each:=fun m hm=>⟨((h.each m hm).1.only ho hS (hsb (by simp) (h.each m hm).1.lab)).le hle,(h.each m hm).2⟩
  apart:=?_
  low:=?_
  count:=h.count },⟨?_,?_⟩⟩
 ·refine List.pairwise_cons.2 ⟨fun b hb=>?_,(List.pairwise_cons.1 h.apart).2⟩
  obtain ⟨m,hm,rfl⟩:=List.mem_map.1 hb
  cases hg:v'.ownBlock with
  | none=>exact .inl rfl
  | some g =>
   refine .inr fun e=>?_
   have h1:=hnew g hg
   have h2:=h.low g (by rw [(h.each m hm).1.lab g e.symm];simp)
   omega
 ·intro b hb
  by_cases e:v'.ownBlock=some b
  ·exact B0 hc b e
  ·have hb2:own b≠none:=by
    intro hn
    apply hb
    show (if v'.ownBlock=some b then some Lab.acc else own b)=none
    rw [if_neg e];exact hn
   exact Nat.lt_of_lt_of_le (h.low b hb2) ho.size
 ·intro b hb
  show (if v'.ownBlock=some b then some Lab.acc else own b)=own b
  rw [if_neg (fun e=>by have:=hnew b e;omega)]
 ·exact ho.mono fun b hb=>by
   have:b=sb:=hb
   exact A2L (by rw [this];exact h.lab) (by simp) (by simp)
theorem A23 {w:World} {own:Go.Mun.Own} {a:Nat} (ha:a < wA):X5 w own (I7.new a,.slice none 0 0,.slice none 0 0):=
 ⟨⟨⟨none,0,rfl,⟨fun h=>absurd rfl h,fun _=>rfl,Nat.le_refl _,Nat.zero_le _⟩,fun h=>absurd rfl h⟩,fun x hx=>(by cases hx),Nat.zero_le _⟩,⟨World.ownsRow_nil _ _ _ _,fun g hg=>(by simp [Value.ownBlock] at hg),fun p hp=>(by cases hp),Nat.zero_le _⟩,ha,(show 0 < wW by decide),⟨Int.le_refl _,(show (0:Int)≤9223372036854775807 by decide)⟩⟩
theorem B9h (ρ:Operand→Value) (dst:Option Tmp) (x y:Operand) (t:TypeId) (pos:String) (after:Array Edge) (gd:Option (Nat × Bool)) (w:World):(execOp ρ ⟨dst,.store 45 x y,t,pos,after,gd⟩).run Tryz.prog w=J9 (A0G Tryz.prog 45 (ρ x) (ρ y) w):=O3 ρ dst x y t pos after gd w (by kernel_rfl)
attribute [go_sem ↓] B9h
theorem E9 {w:World} {b e s n:Nat} {v:Value} {xs:List Value} (h:w.ownsRow b e s v n xs):∃ ad c,v = .slice ad n c:=by
 rcases h.2 with ⟨rfl,rfl⟩ | ⟨g,cap,cur,rfl,_⟩
 ·exact ⟨none,0,rfl⟩
 ·exact ⟨_,_,rfl⟩
theorem A7t {w:World} {a:Option Addr} {n c size e base:Nat} {cs:List Value} (h:w.ownsRow base e size (.slice a n c) n cs) (hok:Q3 (n*size) cs=true):G8 w a c n size cs:=by
 refine ⟨hok,fun hm=>?_,fun e=>?_⟩
 ·obtain ⟨g,c',hv,_,hc,_,hr,_⟩:=J5 h (by omega)
  cases hv
  refine ⟨g,0,rfl,fun j u hu=>?_⟩
  have hj:=(List.getElem?_eq_some_iff.1 hu).1
  rw [K6 hok] at hj
  have:=World.row?_cell hr (i:=j) hj
  rw [this];exact hu
 ·subst e
  rcases h.2 with ⟨h1,h2⟩ | ⟨g,cap,cur,h1,h2,h3,h4⟩
  ·injection h1 with e1 e2 e3;omega
  ·injection h1 with e1 e2 e3;cases e1
theorem B1L {v w w':World} {own:Go.Mun.Own} {sb a n:Nat} {lv mv v':Value} {ps:List (I7 × Value × Value)} {ms:List (Nat × Value × List (I7 × Value × Value))} {k N:Nat} (h:RStC v own sb lv mv ps ms n) (hb:Below v.heap.size v w) (ha:a < wA) (hk:k=T3 (ps.map fun p=>p.1) a) (hnot:¬ A5C (ps.map fun p=>p.1) a)
  (hN:N=k+1+(ps.length - k)) (hv:w.ownsRow 0 35 55 v' N ((([]++F6 (ps.take k))++I8 (I7.new a,.slice none 0 0,.slice none 0 0))++F6 (ps.drop k))) (hnew:∀ g,v'.ownBlock=some g→v.heap.size≤g) (hw':w'=w.setCell ⟨sb,0,none⟩ v') :
  ∃ own',N=(ps.take k++(I7.new a,.slice none 0 0,.slice none 0 0) :: ps.drop k).length∧RStC w' own' sb v' mv (ps.take k++(I7.new a,.slice none 0 0,.slice none 0 0) :: ps.drop k) ms n∧K8 v w' own own'∧w'.cell? ⟨sb,0,none⟩=some v':=by
 have hkl:k≤ps.length:=by rw [hk];have:=A4L (ps.map fun p=>p.1) a;rwa [List.length_map] at this
 have hlen:(ps.take k++(I7.new a,.slice none 0 0,.slice none 0 0) :: ps.drop k:List (I7 × Value × Value)).length=k+1+(ps.length - k):=by
  rw [List.length_append,List.length_take,Nat.min_eq_left hkl,List.length_cons,List.length_drop];omega
 have hcells:(([]++F6 (ps.take k))++I8 (I7.new a,.slice none 0 0,.slice none 0 0))++F6 (ps.drop k)=F6 (ps.take k++(I7.new a,.slice none 0 0,.slice none 0 0) :: ps.drop k):=by
  rw [A12,T0,List.nil_append,List.append_assoc]
 rw [← hN] at hlen
 rw [hcells,← hlen] at hv
 obtain ⟨g,c,e,_,_,_,_,_⟩:=J5 hv (by rw [hlen,hN];omega)
 have hsz:=hb.size
 have hsl:=World.row?_lt h.row
 have hgs:g≠sb:=fun e2=>by have:=hnew g (by rw [e];rfl);omega
 have ho:A0 (· = sb) w w':=by rw [hw'];exact C6 _ _ _ _
 have hoV:A0 (· = sb) v w':=(A0.of_below_size hb).trans ho (fun i h _=>h)
 have hwr:w.row? sb 0 3=some [lv,mv,.int .i64 n]:=((C7 hb).1 _ _ _ hsl).trans h.row
 have hwf:w.free? sb 0 3=true:=((C7 hb).2 _ _ _ hsl).trans h.free
 have hrow:w'.row? sb 0 3=some [v',mv,.int .i64 n]:=by
  rw [hw',G6 v' hwr (Nat.zero_le _) (by omega)]
  rfl
 have hup:Q1 ((ps.take k++(I7.new a,.slice none 0 0,.slice none 0 0) :: ps.drop k:List (I7 × Value × Value)).map fun p=>p.1):=by
  have:=A90 h.up hnot
  unfold atR at this
  rw [← hk] at this
  simpa [List.map_append,List.map_take,List.map_drop] using this
 obtain ⟨h1,h2⟩:=h.newArr (v':=v') hoV hrow (by rw [hw',D0];exact hwf) (A0.own hv ho fun g2 hg2 e2=>by rw [e] at hg2;simp [Value.ownBlock] at hg2;omega) hnew hup (fun p hp=>by
  rcases List.mem_append.1 hp with h3 | h3
  ·exact h.arr.ok p (List.mem_of_mem_take h3)
  ·rcases List.mem_cons.1 h3 with rfl | h3
   ·exact A23 ha
   ·exact h.arr.ok p (List.mem_of_mem_drop h3))
 have hc:=World.row?_cell hrow (i:=0) (by omega)
 exact ⟨_,hlen.symm,h1,h2,hc⟩
def AtR (a:Nat) (ps ps':List (I7 × Value × Value)):Prop:=
 (A5C (ps.map fun p=>p.1) a∧ps'=ps)∨(¬ A5C (ps.map fun p=>p.1) a∧ps'=ps.take (T3 (ps.map fun p=>p.1) a)++(I7.new a,.slice none 0 0,.slice none 0 0) :: ps.drop (T3 (ps.map fun p=>p.1) a))
theorem A3N (a:Nat):F8 55 (N8 L8) (B8 L8) [(0,.agg (A3 20 a).toArray)]=some (I8 (I7.new a,.slice none 0 0,.slice none 0 0)):=by
 rw [F7 _ _ _ W4]
 ·rfl
 ·rw [B60]
  refine C0 ?_ (L0 _)
  show some 20=some (A3 20 a).length;rw [C4]
attribute [local irreducible] wpStill
theorem C0t {w:World} {own:Go.Mun.Own} {sb a n:Nat} {lv mv:Value} {ps:List (I7 × Value × Value)} {ms:List (Nat × Value × List (I7 × Value × Value))} (h:RStC w own sb lv mv ps ms n) (ha:a < wA) (hl:ps.length≤1000000) :
  Calls Tryz.prog 169 #[.pointer (some ⟨sb,0,none⟩),.agg (A3 20 a).toArray] w fun e w' => ∃ own' g c ps',e = .returned (.pointer (some ⟨g,T3 (ps.map fun p=>p.1) a*55,none⟩))∧RStC w' own' sb (.slice (some ⟨g,0,none⟩) ps'.length c) mv ps' ms n∧K8 w w' own own'∧AtR a ps ps':=by
 obtain ⟨la,lc,rfl⟩:=h.arr.form
 obtain ⟨w1,e1⟩:∃ w1,w1=w.alloc (.cells (A3 20 a).toArray 23):=⟨_,rfl⟩
 have hb1:Below w.heap.size w w1:=by rw [e1];exact (Below.refl _ _).alloc (Nat.le_refl _) _
 have r1:w1.row? w.heap.size 0 20=some (A3 20 a):=by rw [e1];exact World.row?_alloc_at _ _ _ rfl (C4 _ _)
 have h1:RStC w1 own sb (.slice la ps.length lc) mv ps ms n:=h.only (S:=fun _=>False) (A0.of_below_size hb1) (fun _ h=>h.elim)
 obtain ⟨m,hm⟩:∃ m,m=ps.length:=⟨_,rfl⟩
 obtain ⟨k9,hk9⟩:∃ k9,k9=T3 (ps.map fun p=>p.1) a:=⟨_,rfl⟩
 have hpl:k9≤m:=by rw [hk9,hm];have:=A4L (ps.map fun p=>p.1) a;rwa [List.length_map] at this
 have HBL:Hid (∀ i (hi:i < ps.length),i < k9→ps[i].1.ac.addr < a):=by
  intro i hi hik
  obtain ⟨x,hx,hlt⟩:=A7I (ps.map fun p=>p.1) a i (by rw [← hk9];exact hik)
  rw [List.getElem?_map,List.getElem?_eq_getElem hi] at hx
  simp at hx;rw [hx];exact hlt
 have HGE:Hid (∀ (hi:k9 < ps.length),a≤ps[k9].1.ac.addr):=by
  intro hi
  have:=A7J (ps.map fun p=>p.1) a (ps[k9].1) (by rw [← hk9,List.getElem?_map,List.getElem?_eq_getElem hi];rfl)
  exact this
 have HHAS:Hid (A5C (ps.map fun p=>p.1) a↔∃ (hi:k9 < ps.length),ps[k9].1.ac.addr=a):=by
  unfold A5C
  rw [← hk9]
  constructor
  ·rintro ⟨x,hx,hxa⟩
   rw [List.getElem?_map] at hx
   cases hg:ps[k9]? with
   | none=>rw [hg] at hx;cases hx
   | some y =>
    rw [hg] at hx
    obtain ⟨hi,he⟩:=List.getElem?_eq_some_iff.1 hg
    refine ⟨hi,?_⟩
    simp at hx
    rw [he,hx];exact hxa
  ·rintro ⟨hi,he⟩
   exact ⟨ps[k9].1,by rw [List.getElem?_map,List.getElem?_eq_getElem hi];rfl,he⟩
 have H1:=hid h1
 have HE:=hid e1
 have HB1:=hid hb1
 have HR1:=hid r1
 have HM:=hid hm
 have HK:=hid hk9
 rw [← hk9]
 rw [← hm] at hl
 have hla:=C4 20 a
 clear h h1 e1 hb1 r1 hk9
 go_enter Tryz.func169,Tryz.ntmps169
 go_wp2_with fail
 rw [← HE.out]
 go_loopw [5] (fun ix wr => ∃ k:Nat,k≤k9∧ix = .int .i64 (k:Int)∧Below w1.heap.size w1 wr) (fun ix _=>k9+1 - (intOf ix).toNat)
 case atStart=>exact ⟨0,by omega,rfl,Below.refl _ _⟩
 case round =>
  obtain ⟨k,hk,rfl,hbw⟩:=hrel
  have hw2:RStC wr.drew own sb (.slice la ps.length lc) mv ps ms n:=H1.out.only (S:=fun _=>False) (A0.of_below_size hbw.drew) (fun _ h=>h.elim)
  have c0:=World.row?_cell hw2.row (i:=0) (by omega)
  simp only [Nat.zero_add,List.getElem?_cons_zero] at c0
  rw [← hm] at c0
  have r2:wr.drew.row? w.heap.size 0 20=some (A3 20 a):=((C7 hbw.drew).1 _ _ _ (World.row?_lt HR1.out)).trans HR1.out
  have HBW:=hid hbw
  have HW2:=hid hw2
  clear hbw hw2
  by_cases hkm:k < m
  ·have hkp:k < ps.length:=by omega
   obtain ⟨g,c',hlv,hgo,hrow,hfr⟩:=HW2.out.arr.row hkp
   cases hlv
   have hxa:=(HW2.out.arr.ok _ (List.getElem_mem hkp)).addr
   have hb:=HBL.out k hkp
   obtain ⟨x,hx⟩:∃ x,x=ps[k].1.ac.addr:=⟨_,rfl⟩
   have r3:wr.drew.row? g (k*55) 20=some (A3 20 x):=by rw [hx];exact I5 hrow (i:=0) rfl (by simp [Q8,A4]) (by simp)
   have q1:=A5U r3
   have q2:=A5U r2
   have s1:=A8B g (k*55) wr.drew
   have s2:=A8B w.heap.size 0 wr.drew
   have hless:=B6e 20 x a (by rw [B3u,hx];exact hxa) (by rw [B3u];exact ha)
   have HX:=hid hx
   have hkI:(k:Int) < m:=by omega
   have dk:decide ((k:Int) < (m:Int))=true:=decide_eq_true hkI
   have dn:(k < m)=True:=eq_true hkm
   by_cases hkk:k < k9
   ·have dlt:decide (x < a)=true:=decide_eq_true (by rw [hx];exact hb hkk)
    rw [dlt] at hless
    clear hx hb hrow hfr
    generalize A1u (be 20 x)=sx at *
    generalize A1u (be 20 a)=sa at *
    go_wp2_with fail
    refine wp_region_still_lit (by kernel_rfl) (by kernel_rfl) ?_
    change wpStill _ _ (World.drew _) _ _ _
    repeat still_step
    refine wpStill_nil ?_
    have hk1:IntKind.i64.wrap ((k:Int)+1)=((k+1:Nat):Int):=by rw [U6 _ (by omega) (by omega)];omega
    go_wp2_with fail
    go_roundw
    case rel=>exact ⟨k+1,by omega,by go_num,HBW.out.drew⟩
    case measure=>simp [intOf];omega
   ·obtain rfl:k=k9:=by omega
    have hge:a≤x:=by rw [hx];exact HGE.out hkp
    have dlt:decide (x < a)=false:=decide_eq_false (by omega)
    rw [dlt] at hless
    have hhas:=HHAS.out
    have hxx:ps[k].1.ac.addr=x:=hx.symm
    have HH:Hid (A5C (ps.map fun p=>p.1) a↔x=a):=⟨fun h=>by obtain ⟨_,h2⟩:=hhas.1 h;rw [hxx] at h2;exact h2,fun h=>hhas.2 ⟨hkp,by rw [hxx];exact h⟩⟩
    have c0':wr.drew.drew.cell? ⟨sb,0,none⟩=some (.slice (some ⟨g,0,none⟩) m lc):=c0
    have r3':wr.drew.drew.row? g (k*55) 20=some (A3 20 x):=r3
    have r2':wr.drew.drew.row? w.heap.size 0 20=some (A3 20 a):=r2
    have heq:=eqA (a:=x) (b:=a) (by rw [hx];exact hxa) ha wr.drew.drew
    have HW3:=hid (HW2.out.only (S:=fun _=>False) (A0.of_below_size (Below.refl _ _).drew) (fun _ h=>h.elim))
    have HB3:Hid (Below w.heap.size w wr.drew.drew):=HB1.out.trans (HBW.out.drew.drew.mono HB1.out.size)
    have hknm:((k:Int) == (ps.length:Int))=false:=by simp;omega
    have hknd:decide ((k:Int)=(ps.length:Int))=false:=decide_eq_false (by omega)
    clear hx hb hrow hfr hhas hxx hge hxa
    generalize A1u (be 20 x)=sx at *
    generalize A1u (be 20 a)=sa at *
    go_wp2_with fail
    refine wp_region_still_lit (by kernel_rfl) (by kernel_rfl) ?_
    change wpStill _ _ (World.drew _) _ _ _
    repeat still_step
    refine wpStill_nil ?_
    change Exit.then _ _ _ _ wr.drew
    by_cases hxa:x=a
    ·have deq:decide (x=a)=true:=decide_eq_true hxa
     rw [deq] at heq
     have HP:Hid (AtR a ps ps):=.inl ⟨HH.out.2 hxa,rfl⟩
     clear hxa deq dlt
     go_wp2_with fail
     refine wp_region_still_lit (by kernel_rfl) (by kernel_rfl) ?_
     change wpStill _ _ (World.drew _) _ _ _
     repeat still_step
     refine wpStill_nil ?_
     change Exit.then _ _ _ _ wr.drew.drew
     go_wp2
     go_ret
     exact ⟨own,g,lc,ps,rfl,HW3.out,K8.below own HB3.out,HP.out⟩
    ·have deq:decide (x=a)=false:=decide_eq_false hxa
     rw [deq] at heq
     have HNOT:Hid (¬ A5C (ps.map fun p=>p.1) a):=fun h=>hxa (HH.out.1 h)
     clear hxa deq dlt
     go_wp2_with fail
     refine wp_region_still_lit (by kernel_rfl) (by kernel_rfl) ?_
     change wpStill _ _ (World.drew _) _ _ _
     repeat still_step
     refine wpStill_nil ?_
     change Exit.then _ _ _ _ wr.drew.drew
     have HV:=HW3
     have RV:Hid (wr.drew.drew.row? w.heap.size 0 20=some (A3 20 a)):=r2'
     clear r2' r3' c0' heq r2 r3 c0 q1 q2 s1 s2 hless dk dn hknm hknd
     generalize wr.drew.drew=V at *
     have hlcap:k≤lc:=by
      rcases HV.out.arr.cells.2 with ⟨h1,h2⟩ | ⟨g2,cap,cur,h1,_,_,h3,_⟩
      ·injection h1 with e1 e2 e3;omega
      ·injection h1 with e1 e2 e3;omega
     obtain ⟨tn,htn⟩:∃ tn,tn=ps.length - k:=⟨_,rfl⟩
     obtain ⟨ta,hta⟩:∃ ta,ta=A6B (some ⟨g,0,none⟩) ps.length lc k:=⟨_,rfl⟩
     obtain ⟨tc,htc⟩:∃ tc,tc=lc - k:=⟨_,rfl⟩
     have hsl:=A3m (some ⟨g,0,none⟩) ps.length lc k (by omega)
     have hsh:=A3n (some ⟨g,0,none⟩) ps.length lc k hlcap
     have hst:=HV.out.arr.src_tail k (by omega)
     rw [← htn,← hta,← htc] at hsl hst
     have HSH:Hid (∀ W,Below V.heap.size V W→G8 W (some ⟨g,0,none⟩) lc k 55 (F6 (ps.take k))):=fun W hW=>(HV.out.only (S:=fun _=>False) (A0.of_below_size hW) (fun _ h=>h.elim)).arr.src_head k (by omega)
     have cv:=World.row?_cell HV.out.row (i:=0) (by omega)
     simp only [Nat.zero_add,List.getElem?_cons_zero] at cv
     have HST:=hid hst
     have htn2:tn≤1000000:=by omega
     have HTN:=hid htn
     clear hst hta htc htn
     go_wp2_with (at_builtin;go_must (refine Z0 A0V rfl _ _ rfl (World.ownsRow_nil _ _ _ _) rfl HST.out rfl ?c1 ?c2 ?_))
     case c1=>unfold maxLen;omega
     case c2=>omega
     intro v6 w6 hv6 ho6 hn6
     obtain ⟨a6,c6,rfl⟩:=E9 hv6
     have hb6:Below V.heap.size V w6:=ho6.below (Nat.le_refl _) (fun i hi=>by simp [Value.ownBlock] at hi)
     have HV6:=hid hv6
     have HB6:=hid hb6
     have hrow6:=((C7 hb6).1 _ _ _ (World.row?_lt HV.out.row)).trans HV.out.row
     have hfree6:=((C7 hb6).2 _ _ _ (World.row?_lt HV.out.row)).trans HV.out.free
     have hbx6:=((C7 hb6).1 _ _ _ (World.row?_lt RV.out)).trans RV.out
     have HOK6:Hid (Q3 (tn*55) (F6 (ps.drop k))=true):=by
      have:=A3s (ps:=ps.drop k) (fun p hp=>HV.out.arr.ok p (List.mem_of_mem_drop hp))
      rwa [List.length_drop,← HTN.out] at this
     obtain ⟨T,hT⟩:∃ T:World→Prop,T=fun W=>W.row? sb 0 3=some [.slice (some ⟨g,0,none⟩) ps.length lc,mv,.int .i64 n]∧W.free? sb 0 3=true∧W.row? w.heap.size 0 20=some (A3 20 a):=⟨_,rfl⟩
     have HT:=hid hT
     have HTB:Hid (∀ W W',T W→Below W.heap.size W W'→T W'):=by
      rw [hT];intro W W' hW hb
      exact ⟨((C7 hb).1 _ _ _ (World.row?_lt hW.1)).trans hW.1,((C7 hb).2 _ _ _ (World.row?_lt hW.1)).trans hW.2.1,((C7 hb).1 _ _ _ (World.row?_lt hW.2.2)).trans hW.2.2⟩
     have t0:T w6.drew:=by rw [hT];exact ⟨hrow6,hfree6,hbx6⟩
     obtain ⟨C,hC⟩:∃ C,C=I8 (I7.new a,Value.slice none 0 0,Value.slice none 0 0):=⟨_,rfl⟩
     have hbuild:=A3N a
     rw [← hC] at hbuild
     have hCl:C.length=55:=by rw [hC];exact S5 _
     have HCK:Hid (Q3 55 C=true):=by show _=_;rw [hC];exact A2F (A23 (w:=V) (own:=own) ha)
     have HC:=hid hC
     have hb60:Below V.heap.size V w6.drew:=hb6.drew
     have HB60:=hid hb60
     have hv60:w6.drew.ownsRow 0 35 55 (.slice a6 tn c6) tn (F6 (ps.drop k)):=hv6
     have HV60:=hid hv60
     clear hT hC cv hv6 ho6 hn6 hb6 hrow6 hfree6 hbx6 hb60 hv60
     go_wp2_with fail
     refine A7 T [16] (.pure 0 (.pure 1 (.pure 2 (.pure 3 (.take 4 (.pure 5 (.pure 6 (.take 8 (.pure 9 (.pure 12 (.alt 7 (.alt 10 (.alt 11 (.alt 13 (.pure 14 (.pure 15 (.alt 16 .fin .stop))) .stop) .stop) .stop) (.alt 10 (.alt 7 (.alt 11 (.alt 13 (.pure 14 (.pure 15 (.alt 16 .fin .stop))) .stop) .stop) .stop) .stop)))))))))))) (by kernel_rfl) (by kernel_rfl) ?_
     generalize w6.drew=w60 at *
     iterate 6
      first
      |refine A2 ?_ rfl (by rfl) (fun w' hs=>?_) (fun _ _ _ h=>h) ?_
       rotate_left
       ·clear hs
        go_simp
        try rfl
       simp only [Act.put,D7,D6,D5]
      |refine A9 ?_ t0 rfl (by rfl) (fun w' hs=>?_) (fun _ _ _ h=>h) ?_
       rotate_left
       ·rw [HT.out] at hs
        obtain ⟨q1,q2,q3⟩:=hs;have q0:=World.row?_cell q1 (i:=0) (by omega);simp only [Nat.zero_add,List.getElem?_cons_zero] at q0
        go_simp
        try rfl
       simp only [Act.put,D7,D6,D5]
     refine A2 (.slice (some ⟨g,0,none⟩) k lc) rfl (by rfl) (fun w' hs=>?_) (fun _ _ _ h=>h) ?_
     ·clear hs
      go_simp
     simp only [Act.put,D7,D6,D5]
     refine A9 ?_ t0 rfl (by rfl) (fun w' hs=>?_) (fun _ _ _ h=>h) ?_
     rotate_left
     ·rw [HT.out] at hs
      obtain ⟨q1,q2,q3⟩:=hs;have q0:=World.row?_cell q1 (i:=0) (by omega);simp only [Nat.zero_add,List.getElem?_cons_zero] at q0
      go_simp
      try rfl
     simp only [Act.put,D7,D6,D5]
     refine A2 ?_ rfl (by rfl) (fun w' hs=>?_) (fun _ _ _ h=>h) ?_
     rotate_left
     ·clear hs
      refine (B3a _ _ _ _ _ _ _ _).trans ?_
      refine (congrArg (fun r=>E7 (V8 Tryz.prog 35 _ _ r)) hbuild).trans ?_
      rfl
     simp only [Act.put,D7,D6,D5]
     refine A2 ?_ rfl (by rfl) (fun w' hs=>?_) (fun _ _ _ h=>h) ?_
     rotate_left
     ·clear hs
      go_simp
      try rfl
     simp only [Act.put,D7,D6,D5]
     refine P6 rfl (fun K hK=>?_) ?_
     focus
      refine K9 A0V rfl _ _ rfl (World.ownsRow_nil _ _ _ _) rfl (HSH.out _ HB60.out) rfl (by unfold maxLen;omega) (by omega) ?_
      intro v7 w7 hv7 ho7 hn7
      have hb:Below w60.heap.size w60 w7:=ho7.below (Nat.le_refl _) (fun i hi=>by simp [Value.ownBlock] at hi)
      have t7:T w7:=HTB.out _ _ t0 hb
      have HB7:Hid (Below V.heap.size V w7):=HB60.out.trans (hb.mono HB60.out.size)
      have HV67:=hid (C3 HV60.out hb)
      have HV7:=hid hv7
      have HN7:Hid (∀ g,v7.ownBlock=some g→w60.heap.size≤g):=fun g hg=>(hn7 g hg).resolve_left (by simp [Value.ownBlock])
      clear hb hv7 ho7 hn7
      refine hK.out _ _ t7 ?_
      clear hK K
      refine A5 rfl (fun K hK=>?_)
      go_simp
      have hb:Below w7.heap.size w7 (World.alloc w7 (.cells C.toArray 35)):=(Below.refl _ _).alloc (Nat.le_refl _) _
      have tA:T (World.alloc w7 (.cells C.toArray 35)):=HTB.out _ _ t7 hb
      have HBA:Hid (Below V.heap.size V (World.alloc w7 (.cells C.toArray 35))):=HB7.out.trans (hb.mono HB7.out.size)
      have HV6A:=hid (C3 HV67.out hb)
      have HRA:Hid (((World.alloc w7 (.cells C.toArray 35))).row? w7.heap.size 0 55=some C):=World.row?_alloc_at _ _ _ rfl hCl
      have HV7A:=hid (C3 HV7.out hb)
      clear hb
      refine hK.out _ _ tA ?_
      clear hK K
      refine A5 rfl (fun K hK=>?_)
      refine K9 A0V rfl _ _ rfl HV7A.out rfl (G8.row (m:=1) (size:=55) HRA.out HCK.out 1) rfl (by unfold maxLen;omega) (by omega) ?_
      intro v11 w11 hv11 ho11 hn11
      have hx7:∀ i,v7.ownBlock=some i→V.heap.size≤i:=fun i hi=>by have h1:=HN7.out i hi;have h2:=HB60.out.size;(try simp at h1);omega
      have HB11:Hid (Below V.heap.size V w11):=HBA.out.trans (ho11.below HBA.out.size (fun i hi=>hx7 i hi))
      have t11:T w11:=by have h1:=tA;rw [HT.out] at h1 ⊢;exact ⟨(ho11.row? (World.row?_lt h1.1) (fun hh=>by have:=hx7 _ hh;have:=World.row?_lt HV.out.row;omega)).trans h1.1,(ho11.free? (World.row?_lt h1.1) (fun hh=>by have:=hx7 _ hh;have:=World.row?_lt HV.out.row;omega)).trans h1.2.1,(ho11.row? (World.row?_lt h1.2.2) (fun hh=>by have:=hx7 _ hh;have:=World.row?_lt RV.out;omega)).trans h1.2.2⟩
      have HV611:Hid (w11.ownsRow 0 35 55 (.slice a6 tn c6) tn (F6 (ps.drop k))):=A0.own HV6A.out ho11 (fun g2 hg2 hh=>by have h1:=HN7.out g2 hh;have h2:=B0 HV60.out g2 hg2;(try simp at h1);omega)
      have HN11:Hid (∀ g,v11.ownBlock=some g→V.heap.size≤g):=fun g2 hg2=>by
       rcases hn11 g2 hg2 with h1 | h1
       ·exact hx7 _ h1
       ·have:=HBA.out.size;omega
     rotate_left
     focus
      refine A5 rfl (fun K hK=>?_)
      go_simp
      have hb:Below w60.heap.size w60 (World.alloc w60 (.cells C.toArray 35)):=(Below.refl _ _).alloc (Nat.le_refl _) _
      have tA:T (World.alloc w60 (.cells C.toArray 35)):=HTB.out _ _ t0 hb
      have HBA:Hid (Below V.heap.size V (World.alloc w60 (.cells C.toArray 35))):=HB60.out.trans (hb.mono HB60.out.size)
      have HV6A:=hid (C3 HV60.out hb)
      have HRA:Hid (((World.alloc w60 (.cells C.toArray 35))).row? w60.heap.size 0 55=some C):=World.row?_alloc_at _ _ _ rfl hCl
      clear hb
      refine hK.out _ _ tA ?_
      clear hK K
      refine A5 rfl (fun K hK=>?_)
      refine K9 A0V rfl _ _ rfl (World.ownsRow_nil _ _ _ _) rfl (HSH.out _ HBA.out) rfl (by unfold maxLen;omega) (by omega) ?_
      intro v7 w7 hv7 ho7 hn7
      have hb:Below (World.alloc w60 (.cells C.toArray 35)).heap.size (World.alloc w60 (.cells C.toArray 35)) w7:=ho7.below (Nat.le_refl _) (fun i hi=>by simp [Value.ownBlock] at hi)
      have t7:T w7:=HTB.out _ _ tA hb
      have HB7:Hid (Below V.heap.size V w7):=HBA.out.trans (hb.mono HBA.out.size)
      have HV67:=hid (C3 HV6A.out hb)
      have HV7:=hid hv7
      have HN7:Hid (∀ g,v7.ownBlock=some g→(World.alloc w60 (.cells C.toArray 35)).heap.size≤g):=fun g hg=>(hn7 g hg).resolve_left (by simp [Value.ownBlock])
      have HRA7:=hid (((C7 hb).1 _ _ _ (World.row?_lt HRA.out)).trans HRA.out)
      clear hb hv7 ho7 hn7
      refine hK.out _ _ t7 ?_
      clear hK K
      refine A5 rfl (fun K hK=>?_)
      refine K9 A0V rfl _ _ rfl HV7.out rfl (G8.row (m:=1) (size:=55) HRA7.out HCK.out 1) rfl (by unfold maxLen;omega) (by omega) ?_
      intro v11 w11 hv11 ho11 hn11
      have hx7:∀ i,v7.ownBlock=some i→V.heap.size≤i:=fun i hi=>by have h1:=HN7.out i hi;have h2:=HB60.out.size;(try simp at h1);omega
      have HB11:Hid (Below V.heap.size V w11):=HB7.out.trans (ho11.below HB7.out.size (fun i hi=>hx7 i hi))
      have t11:T w11:=by have h1:=t7;rw [HT.out] at h1 ⊢;exact ⟨(ho11.row? (World.row?_lt h1.1) (fun hh=>by have:=hx7 _ hh;have:=World.row?_lt HV.out.row;omega)).trans h1.1,(ho11.free? (World.row?_lt h1.1) (fun hh=>by have:=hx7 _ hh;have:=World.row?_lt HV.out.row;omega)).trans h1.2.1,(ho11.row? (World.row?_lt h1.2.2) (fun hh=>by have:=hx7 _ hh;have:=World.row?_lt RV.out;omega)).trans h1.2.2⟩
      have HV611:Hid (w11.ownsRow 0 35 55 (.slice a6 tn c6) tn (F6 (ps.drop k))):=A0.own HV67.out ho11 (fun g2 hg2 hh=>by have h1:=HN7.out g2 hh;have h2:=B0 HV60.out g2 hg2;(try simp at h1);omega)
      have HN11:Hid (∀ g,v11.ownBlock=some g→V.heap.size≤g):=fun g2 hg2=>by
       rcases hn11 g2 hg2 with h1 | h1
       ·exact hx7 _ h1
       ·have:=HB7.out.size;omega
     all_goals
      have HV11:=hid hv11
      clear hv11 ho11 hn11 hx7
      refine hK.out _ _ t11 ?_
      clear hK K
      refine A5 rfl (fun K hK=>?_)
      refine K9 A0V rfl _ _ rfl HV11.out rfl (A7t HV611.out HOK6.out) rfl (by unfold maxLen;omega) (by omega) ?_
      intro v13 w13 hv13 ho13 hn13
      have HB13:Hid (Below V.heap.size V w13):=HB11.out.trans (ho13.below HB11.out.size (fun i hi=>HN11.out i hi))
      have t13:T w13:=by have h1:=t11;rw [HT.out] at h1 ⊢;exact ⟨(ho13.row? (World.row?_lt h1.1) (fun hh=>by have:=HN11.out _ hh;have:=World.row?_lt HV.out.row;omega)).trans h1.1,(ho13.free? (World.row?_lt h1.1) (fun hh=>by have:=HN11.out _ hh;have:=World.row?_lt HV.out.row;omega)).trans h1.2.1,(ho13.row? (World.row?_lt h1.2.2) (fun hh=>by have:=HN11.out _ hh;have:=World.row?_lt RV.out;omega)).trans h1.2.2⟩
      have HN13:Hid (∀ g,v13.ownBlock=some g→V.heap.size≤g):=fun g2 hg2=>by
       rcases hn13 g2 hg2 with h1 | h1
       ·exact HN11.out _ h1
       ·have:=HB11.out.size;omega
      obtain ⟨NN,hNN⟩:∃ NN,NN=k+1+(ps.length - k):=⟨_,rfl⟩
      have hv13':w13.ownsRow 0 35 55 v13 NN ((([]++F6 (ps.take k))++I8 (I7.new a,Value.slice none 0 0,Value.slice none 0 0))++F6 (ps.drop k)):=by
       rw [← HC.out,hNN,← HTN.out];simpa using hv13
      have HV13:=hid hv13'
      have HNN:=hid hNN
      have hNk:k < NN:=by omega
      clear hv13 hv13' ho13 hn13 hNN
      refine hK.out _ _ t13 ?_
      clear hK K
      iterate 2
       refine A2 ?_ rfl (by rfl) (fun w' hs=>?_) (fun _ _ _ h=>h) ?_
       rotate_left
       ·clear hs
        go_simp
        try rfl
       simp only [Act.put,D7,D6,D5]
      refine J8 rfl (by simp) (fun K hK=>?_)
      have f16:=t13
      rw [HT.out] at f16
      have f17:=World.free?_sub f16.2.1 (o':=0) (n':=1) (by omega)
      obtain ⟨g13,c13,rfl,_⟩:=J5 HV13.out (by omega)
      clear f16
      go_simp
      obtain ⟨w16,e16⟩:∃ w16,w16=w13.setCell ⟨sb,0,none⟩ (.slice (some ⟨g13,0,none⟩) NN c13):=⟨_,rfl⟩
      obtain ⟨own',e13,hst,hcg,hce⟩:=B1L HV.out HB13.out ha HK.out HNOT.out HNN.out HV13.out HN13.out e16
      have HSTF:=hid hst
      have HCGF:=hid hcg
      have HEL:=hid e13
      rw [← e16]
      clear e16 hst hcg e13
      refine hK.out _ _ ?_
      clear hK K
      refine C2 ?_
      clear t0 t7 tA t11 t13 f17
      have hNI:(k:Int) < (NN:Int):=by omega
      go_wp2
      go_ret
      exact ⟨own',g13,c13,_,rfl,by rw [← HEL.out];exact HSTF.out,(K8.below own HB3.out).trans HCGF.out,.inr ⟨HNOT.out,by rw [← HK.out]⟩⟩
  ·obtain rfl:k=k9:=by omega
   have hkn:k=ps.length:=by omega
   have HNOT:Hid (¬ A5C (ps.map fun p=>p.1) a):=fun h=>by obtain ⟨h2,_⟩:=HHAS.out.1 h;omega
   have hknd:decide ((k:Int) < (m:Int))=false:=decide_eq_false (by omega)
   have hkne:decide ((k:Int)=(m:Int))=true:=decide_eq_true (by omega)
   have hknn:(k < m)=False:=eq_false hkm
   have hkeN:((k:Int) == (m:Int))=true:=by rw [beq_iff_eq];omega
   have c0':wr.drew.drew.cell? ⟨sb,0,none⟩=some (.slice la m lc):=c0
   have HW3:=hid (HW2.out.only (S:=fun _=>False) (A0.of_below_size (Below.refl _ _).drew) (fun _ h=>h.elim))
   have HB3:Hid (Below w.heap.size w wr.drew.drew):=HB1.out.trans (HBW.out.drew.drew.mono HB1.out.size)
   have HKM:=hid hkm
   have HKN:=hid hkn
   have r2':wr.drew.drew.row? w.heap.size 0 20=some (A3 20 a):=r2
   clear hkm hkn hm
   go_wp2_with fail
   refine F4 (by kernel_rfl) (by kernel_rfl) ?_
   repeat still_step
   refine wpStill_nil ?_
   change Exit.then _ _ _ _ wr.drew
   go_wp2_with fail
   refine F4 (by kernel_rfl) (by kernel_rfl) ?_
   repeat still_step
   refine wpStill_nil ?_
   change Exit.then _ _ _ _ wr.drew.drew
   have HV:=HW3
   have RV:Hid (wr.drew.drew.row? w.heap.size 0 20=some (A3 20 a)):=r2'
   have hkp:k≤ps.length:=by have:=HKN.out;omega
   have hpl0:ps.length≤1000000:=by have:=HM.out;omega
   clear r2' c0' r2 c0 hknd hkne hknn hkeN
   generalize wr.drew.drew=V at *
   have hlcap:k≤lc:=by
    rcases HV.out.arr.cells.2 with ⟨h1,h2⟩ | ⟨g2,cap,cur,h1,_,_,h3,_⟩
    ·injection h1 with e1 e2 e3;omega
    ·injection h1 with e1 e2 e3;omega
   obtain ⟨tn,htn⟩:∃ tn,tn=ps.length - k:=⟨_,rfl⟩
   obtain ⟨ta,hta⟩:∃ ta,ta=A6B la ps.length lc k:=⟨_,rfl⟩
   obtain ⟨tc,htc⟩:∃ tc,tc=lc - k:=⟨_,rfl⟩
   have hsl:=A3m la ps.length lc k (by omega)
   have hsh:=A3n la ps.length lc k hlcap
   have hst:=HV.out.arr.src_tail k (by omega)
   rw [← htn,← hta,← htc] at hsl hst
   have HSH:Hid (∀ W,Below V.heap.size V W→G8 W la lc k 55 (F6 (ps.take k))):=fun W hW=>(HV.out.only (S:=fun _=>False) (A0.of_below_size hW) (fun _ h=>h.elim)).arr.src_head k (by omega)
   have cv:=World.row?_cell HV.out.row (i:=0) (by omega)
   simp only [Nat.zero_add,List.getElem?_cons_zero] at cv
   have HST:=hid hst
   have htn2:tn≤1000000:=by omega
   have HTN:=hid htn
   clear hst hta htc htn
   go_wp2_with (at_builtin;go_must (refine Z0 A0V rfl _ _ rfl (World.ownsRow_nil _ _ _ _) rfl HST.out rfl ?c1 ?c2 ?_))
   case c1=>unfold maxLen;omega
   case c2=>omega
   intro v6 w6 hv6 ho6 hn6
   obtain ⟨a6,c6,rfl⟩:=E9 hv6
   have hb6:Below V.heap.size V w6:=ho6.below (Nat.le_refl _) (fun i hi=>by simp [Value.ownBlock] at hi)
   have HV6:=hid hv6
   have HB6:=hid hb6
   have hrow6:=((C7 hb6).1 _ _ _ (World.row?_lt HV.out.row)).trans HV.out.row
   have hfree6:=((C7 hb6).2 _ _ _ (World.row?_lt HV.out.row)).trans HV.out.free
   have hbx6:=((C7 hb6).1 _ _ _ (World.row?_lt RV.out)).trans RV.out
   have HOK6:Hid (Q3 (tn*55) (F6 (ps.drop k))=true):=by
    have:=A3s (ps:=ps.drop k) (fun p hp=>HV.out.arr.ok p (List.mem_of_mem_drop hp))
    rwa [List.length_drop,← HTN.out] at this
   obtain ⟨T,hT⟩:∃ T:World→Prop,T=fun W=>W.row? sb 0 3=some [.slice la ps.length lc,mv,.int .i64 n]∧W.free? sb 0 3=true∧W.row? w.heap.size 0 20=some (A3 20 a):=⟨_,rfl⟩
   have HT:=hid hT
   have HTB:Hid (∀ W W',T W→Below W.heap.size W W'→T W'):=by
    rw [hT];intro W W' hW hb
    exact ⟨((C7 hb).1 _ _ _ (World.row?_lt hW.1)).trans hW.1,((C7 hb).2 _ _ _ (World.row?_lt hW.1)).trans hW.2.1,((C7 hb).1 _ _ _ (World.row?_lt hW.2.2)).trans hW.2.2⟩
   have t0:T w6.drew:=by rw [hT];exact ⟨hrow6,hfree6,hbx6⟩
   obtain ⟨C,hC⟩:∃ C,C=I8 (I7.new a,Value.slice none 0 0,Value.slice none 0 0):=⟨_,rfl⟩
   have hbuild:=A3N a
   rw [← hC] at hbuild
   have hCl:C.length=55:=by rw [hC];exact S5 _
   have HCK:Hid (Q3 55 C=true):=by show _=_;rw [hC];exact A2F (A23 (w:=V) (own:=own) ha)
   have HC:=hid hC
   have hb60:Below V.heap.size V w6.drew:=hb6.drew
   have HB60:=hid hb60
   have hv60:w6.drew.ownsRow 0 35 55 (.slice a6 tn c6) tn (F6 (ps.drop k)):=hv6
   have HV60:=hid hv60
   clear hT hC cv hv6 ho6 hn6 hb6 hrow6 hfree6 hbx6 hb60 hv60
   go_wp2_with fail
   refine A7 T [16] (.pure 0 (.pure 1 (.pure 2 (.pure 3 (.take 4 (.pure 5 (.pure 6 (.take 8 (.pure 9 (.pure 12 (.alt 7 (.alt 10 (.alt 11 (.alt 13 (.pure 14 (.pure 15 (.alt 16 .fin .stop))) .stop) .stop) .stop) (.alt 10 (.alt 7 (.alt 11 (.alt 13 (.pure 14 (.pure 15 (.alt 16 .fin .stop))) .stop) .stop) .stop) .stop)))))))))))) (by kernel_rfl) (by kernel_rfl) ?_
   generalize w6.drew=w60 at *
   iterate 6
    first
    |refine A2 ?_ rfl (by rfl) (fun w' hs=>?_) (fun _ _ _ h=>h) ?_
     rotate_left
     ·clear hs
      go_simp
      try rfl
     simp only [Act.put,D7,D6,D5]
    |refine A9 ?_ t0 rfl (by rfl) (fun w' hs=>?_) (fun _ _ _ h=>h) ?_
     rotate_left
     ·rw [HT.out] at hs
      obtain ⟨q1,q2,q3⟩:=hs;have q0:=World.row?_cell q1 (i:=0) (by omega);simp only [Nat.zero_add,List.getElem?_cons_zero] at q0
      go_simp
      try rfl
     simp only [Act.put,D7,D6,D5]
   refine A2 (.slice la k lc) rfl (by rfl) (fun w' hs=>?_) (fun _ _ _ h=>h) ?_
   ·clear hs
    go_simp
   simp only [Act.put,D7,D6,D5]
   refine A9 ?_ t0 rfl (by rfl) (fun w' hs=>?_) (fun _ _ _ h=>h) ?_
   rotate_left
   ·rw [HT.out] at hs
    obtain ⟨q1,q2,q3⟩:=hs;have q0:=World.row?_cell q1 (i:=0) (by omega);simp only [Nat.zero_add,List.getElem?_cons_zero] at q0
    go_simp
    try rfl
   simp only [Act.put,D7,D6,D5]
   refine A2 ?_ rfl (by rfl) (fun w' hs=>?_) (fun _ _ _ h=>h) ?_
   rotate_left
   ·clear hs
    refine (B3a _ _ _ _ _ _ _ _).trans ?_
    refine (congrArg (fun r=>E7 (V8 Tryz.prog 35 _ _ r)) hbuild).trans ?_
    rfl
   simp only [Act.put,D7,D6,D5]
   refine A2 ?_ rfl (by rfl) (fun w' hs=>?_) (fun _ _ _ h=>h) ?_
   rotate_left
   ·clear hs
    go_simp
    try rfl
   simp only [Act.put,D7,D6,D5]
   refine P6 rfl (fun K hK=>?_) ?_
   focus
    refine K9 A0V rfl _ _ rfl (World.ownsRow_nil _ _ _ _) rfl (HSH.out _ HB60.out) rfl (by unfold maxLen;omega) (by omega) ?_
    intro v7 w7 hv7 ho7 hn7
    have hb:Below w60.heap.size w60 w7:=ho7.below (Nat.le_refl _) (fun i hi=>by simp [Value.ownBlock] at hi)
    have t7:T w7:=HTB.out _ _ t0 hb
    have HB7:Hid (Below V.heap.size V w7):=HB60.out.trans (hb.mono HB60.out.size)
    have HV67:=hid (C3 HV60.out hb)
    have HV7:=hid hv7
    have HN7:Hid (∀ g,v7.ownBlock=some g→w60.heap.size≤g):=fun g hg=>(hn7 g hg).resolve_left (by simp [Value.ownBlock])
    clear hb hv7 ho7 hn7
    refine hK.out _ _ t7 ?_
    clear hK K
    refine A5 rfl (fun K hK=>?_)
    go_simp
    have hb:Below w7.heap.size w7 (World.alloc w7 (.cells C.toArray 35)):=(Below.refl _ _).alloc (Nat.le_refl _) _
    have tA:T (World.alloc w7 (.cells C.toArray 35)):=HTB.out _ _ t7 hb
    have HBA:Hid (Below V.heap.size V (World.alloc w7 (.cells C.toArray 35))):=HB7.out.trans (hb.mono HB7.out.size)
    have HV6A:=hid (C3 HV67.out hb)
    have HRA:Hid (((World.alloc w7 (.cells C.toArray 35))).row? w7.heap.size 0 55=some C):=World.row?_alloc_at _ _ _ rfl hCl
    have HV7A:=hid (C3 HV7.out hb)
    clear hb
    refine hK.out _ _ tA ?_
    clear hK K
    refine A5 rfl (fun K hK=>?_)
    refine K9 A0V rfl _ _ rfl HV7A.out rfl (G8.row (m:=1) (size:=55) HRA.out HCK.out 1) rfl (by unfold maxLen;omega) (by omega) ?_
    intro v11 w11 hv11 ho11 hn11
    have hx7:∀ i,v7.ownBlock=some i→V.heap.size≤i:=fun i hi=>by have h1:=HN7.out i hi;have h2:=HB60.out.size;(try simp at h1);omega
    have HB11:Hid (Below V.heap.size V w11):=HBA.out.trans (ho11.below HBA.out.size (fun i hi=>hx7 i hi))
    have t11:T w11:=by have h1:=tA;rw [HT.out] at h1 ⊢;exact ⟨(ho11.row? (World.row?_lt h1.1) (fun hh=>by have:=hx7 _ hh;have:=World.row?_lt HV.out.row;omega)).trans h1.1,(ho11.free? (World.row?_lt h1.1) (fun hh=>by have:=hx7 _ hh;have:=World.row?_lt HV.out.row;omega)).trans h1.2.1,(ho11.row? (World.row?_lt h1.2.2) (fun hh=>by have:=hx7 _ hh;have:=World.row?_lt RV.out;omega)).trans h1.2.2⟩
    have HV611:Hid (w11.ownsRow 0 35 55 (.slice a6 tn c6) tn (F6 (ps.drop k))):=A0.own HV6A.out ho11 (fun g2 hg2 hh=>by have h1:=HN7.out g2 hh;have h2:=B0 HV60.out g2 hg2;(try simp at h1);omega)
    have HN11:Hid (∀ g,v11.ownBlock=some g→V.heap.size≤g):=fun g2 hg2=>by
     rcases hn11 g2 hg2 with h1 | h1
     ·exact hx7 _ h1
     ·have:=HBA.out.size;omega
   rotate_left
   focus
    refine A5 rfl (fun K hK=>?_)
    go_simp
    have hb:Below w60.heap.size w60 (World.alloc w60 (.cells C.toArray 35)):=(Below.refl _ _).alloc (Nat.le_refl _) _
    have tA:T (World.alloc w60 (.cells C.toArray 35)):=HTB.out _ _ t0 hb
    have HBA:Hid (Below V.heap.size V (World.alloc w60 (.cells C.toArray 35))):=HB60.out.trans (hb.mono HB60.out.size)
    have HV6A:=hid (C3 HV60.out hb)
    have HRA:Hid (((World.alloc w60 (.cells C.toArray 35))).row? w60.heap.size 0 55=some C):=World.row?_alloc_at _ _ _ rfl hCl
    clear hb
    refine hK.out _ _ tA ?_
    clear hK K
    refine A5 rfl (fun K hK=>?_)
    refine K9 A0V rfl _ _ rfl (World.ownsRow_nil _ _ _ _) rfl (HSH.out _ HBA.out) rfl (by unfold maxLen;omega) (by omega) ?_
    intro v7 w7 hv7 ho7 hn7
    have hb:Below (World.alloc w60 (.cells C.toArray 35)).heap.size (World.alloc w60 (.cells C.toArray 35)) w7:=ho7.below (Nat.le_refl _) (fun i hi=>by simp [Value.ownBlock] at hi)
    have t7:T w7:=HTB.out _ _ tA hb
    have HB7:Hid (Below V.heap.size V w7):=HBA.out.trans (hb.mono HBA.out.size)
    have HV67:=hid (C3 HV6A.out hb)
    have HV7:=hid hv7
    have HN7:Hid (∀ g,v7.ownBlock=some g→(World.alloc w60 (.cells C.toArray 35)).heap.size≤g):=fun g hg=>(hn7 g hg).resolve_left (by simp [Value.ownBlock])
    have HRA7:=hid (((C7 hb).1 _ _ _ (World.row?_lt HRA.out)).trans HRA.out)
    clear hb hv7 ho7 hn7
    refine hK.out _ _ t7 ?_
    clear hK K
    refine A5 rfl (fun K hK=>?_)
    refine K9 A0V rfl _ _ rfl HV7.out rfl (G8.row (m:=1) (size:=55) HRA7.out HCK.out 1) rfl (by unfold maxLen;omega) (by omega) ?_
    intro v11 w11 hv11 ho11 hn11
    have hx7:∀ i,v7.ownBlock=some i→V.heap.size≤i:=fun i hi=>by have h1:=HN7.out i hi;have h2:=HB60.out.size;(try simp at h1);omega
    have HB11:Hid (Below V.heap.size V w11):=HB7.out.trans (ho11.below HB7.out.size (fun i hi=>hx7 i hi))
    have t11:T w11:=by have h1:=t7;rw [HT.out] at h1 ⊢;exact ⟨(ho11.row? (World.row?_lt h1.1) (fun hh=>by have:=hx7 _ hh;have:=World.row?_lt HV.out.row;omega)).trans h1.1,(ho11.free? (World.row?_lt h1.1) (fun hh=>by have:=hx7 _ hh;have:=World.row?_lt HV.out.row;omega)).trans h1.2.1,(ho11.row? (World.row?_lt h1.2.2) (fun hh=>by have:=hx7 _ hh;have:=World.row?_lt RV.out;omega)).trans h1.2.2⟩
    have HV611:Hid (w11.ownsRow 0 35 55 (.slice a6 tn c6) tn (F6 (ps.drop k))):=A0.own HV67.out ho11 (fun g2 hg2 hh=>by have h1:=HN7.out g2 hh;have h2:=B0 HV60.out g2 hg2;(try simp at h1);omega)
    have HN11:Hid (∀ g,v11.ownBlock=some g→V.heap.size≤g):=fun g2 hg2=>by
     rcases hn11 g2 hg2 with h1 | h1
     ·exact hx7 _ h1
     ·have:=HB7.out.size;omega
   all_goals
    have HV11:=hid hv11
    clear hv11 ho11 hn11 hx7
    refine hK.out _ _ t11 ?_
    clear hK K
    refine A5 rfl (fun K hK=>?_)
    refine K9 A0V rfl _ _ rfl HV11.out rfl (A7t HV611.out HOK6.out) rfl (by unfold maxLen;omega) (by omega) ?_
    intro v13 w13 hv13 ho13 hn13
    have HB13:Hid (Below V.heap.size V w13):=HB11.out.trans (ho13.below HB11.out.size (fun i hi=>HN11.out i hi))
    have t13:T w13:=by have h1:=t11;rw [HT.out] at h1 ⊢;exact ⟨(ho13.row? (World.row?_lt h1.1) (fun hh=>by have:=HN11.out _ hh;have:=World.row?_lt HV.out.row;omega)).trans h1.1,(ho13.free? (World.row?_lt h1.1) (fun hh=>by have:=HN11.out _ hh;have:=World.row?_lt HV.out.row;omega)).trans h1.2.1,(ho13.row? (World.row?_lt h1.2.2) (fun hh=>by have:=HN11.out _ hh;have:=World.row?_lt RV.out;omega)).trans h1.2.2⟩
    have HN13:Hid (∀ g,v13.ownBlock=some g→V.heap.size≤g):=fun g2 hg2=>by
     rcases hn13 g2 hg2 with h1 | h1
     ·exact HN11.out _ h1
     ·have:=HB11.out.size;omega
    obtain ⟨NN,hNN⟩:∃ NN,NN=k+1+(ps.length - k):=⟨_,rfl⟩
    have hv13':w13.ownsRow 0 35 55 v13 NN ((([]++F6 (ps.take k))++I8 (I7.new a,Value.slice none 0 0,Value.slice none 0 0))++F6 (ps.drop k)):=by
     rw [← HC.out,hNN,← HTN.out];simpa using hv13
    have HV13:=hid hv13'
    have HNN:=hid hNN
    have hNk:k < NN:=by omega
    clear hv13 hv13' ho13 hn13 hNN
    refine hK.out _ _ t13 ?_
    clear hK K
    iterate 2
     refine A2 ?_ rfl (by rfl) (fun w' hs=>?_) (fun _ _ _ h=>h) ?_
     rotate_left
     ·clear hs
      go_simp
      try rfl
     simp only [Act.put,D7,D6,D5]
    refine J8 rfl (by simp) (fun K hK=>?_)
    have f16:=t13
    rw [HT.out] at f16
    have f17:=World.free?_sub f16.2.1 (o':=0) (n':=1) (by omega)
    obtain ⟨g13,c13,rfl,_⟩:=J5 HV13.out (by omega)
    clear f16
    go_simp
    obtain ⟨w16,e16⟩:∃ w16,w16=w13.setCell ⟨sb,0,none⟩ (.slice (some ⟨g13,0,none⟩) NN c13):=⟨_,rfl⟩
    obtain ⟨own',e13,hst,hcg,hce⟩:=B1L HV.out HB13.out ha HK.out HNOT.out HNN.out HV13.out HN13.out e16
    have HSTF:=hid hst
    have HCGF:=hid hcg
    have HEL:=hid e13
    rw [← e16]
    clear e16 hst hcg e13
    refine hK.out _ _ ?_
    clear hK K
    refine C2 ?_
    clear t0 t7 tA t11 t13 f17
    have hNI:(k:Int) < (NN:Int):=by omega
    go_wp2
    go_ret
    exact ⟨own',g13,c13,_,rfl,by rw [← HEL.out];exact HSTF.out,(K8.below own HB3.out).trans HCGF.out,.inr ⟨HNOT.out,by rw [← HK.out]⟩⟩
end Go.Proofs.YtfflppedbopdpaaGreat
namespace Go.Mun
open Go.RowKit
open Go.Proofs.YtfflppedbopdpaaGreat (Ac Q8 K0 AtR A23)

theorem A8v {α:Type} (L:List α) (o:Nat) (vs:List α) (k:Nat) (h:o+vs.length≤k) (hk:k≤L.length):(splice L o vs).take k=splice (L.take k) o vs:=by
 unfold splice
 rw [List.take_append,List.take_append,List.length_take,Nat.min_eq_left (by omega:o≤L.length),List.take_take,List.take_take,Nat.min_eq_right (by omega:o≤k),Nat.min_eq_left (by omega:o≤k),List.take_of_length_le (by omega:vs.length≤k - o),List.drop_take,Nat.sub_add_eq]
theorem A7K {w:World} {base e size g n c:Nat} {xs:List Value} (h:w.ownsRow base e size (.slice (some ⟨g,0,none⟩) n c) n xs) (o:Nat) (vs:List Value) (ho:o+vs.length≤n*size) :
  (w.setCells g o vs).ownsRow base e size (.slice (some ⟨g,0,none⟩) n c) n (splice xs o vs):=by
 have hl:=h.1
 refine ⟨by unfold splice;simp;omega,?_⟩
 rcases h.2 with ⟨h1,h2⟩ | ⟨g',cap,cur,h1,h2,h3,h4,h5,h6,h7⟩
 ·injection h1 with e1;cases e1
 ·injection h1 with e1 e2 e3
  cases e1
  subst e3
  have hm:=Nat.mul_le_mul_right size h4
  refine .inr ⟨g,c,(splice cur.toList o vs).toArray,rfl,h2,?_,h4,h5,?_,?_⟩
  ·exact P8 e (0,0) vs o cur.toList w (by simpa using h3) (by simp;omega)
  ·unfold splice;simp;omega
  ·rw [← h7]
   exact A8v _ _ _ _ ho (by simp;omega)
theorem A8w {α:Type} (A B:List α) (o:Nat) (vs:List α) (h:o+vs.length≤A.length):splice (A++B) o vs=splice A o vs++B:=by
 unfold splice
 rw [List.take_append_of_le_length (by omega),List.drop_append_of_le_length (by omega)]
 simp
theorem A7u {α:Type} (A B:List α) (o:Nat) (vs:List α):splice (A++B) (A.length+o) vs=A++splice B o vs:=by
 unfold splice
 rw [List.take_length_add_append,show A.length+o+vs.length=A.length+(o+vs.length) by omega,← List.drop_drop,List.drop_left]
 simp
theorem A6L:∀ (ps:List (I7 × Value × Value)) (k off:Nat) (vs:List Value) (p':I7 × Value × Value) (hk:k < ps.length),off+vs.length≤55→I8 p'=splice (I8 ps[k]) off vs→splice (F6 ps) (k*55+off) vs=F6 (ps.set k p')
 | [],_,_,_,_,hk,_,_=>by simp at hk
 | p :: ps,0,off,vs,p',_,h1,h2=>by
  rw [T0,Nat.zero_mul,Nat.zero_add,A8w _ _ _ _ (by rw [S5];omega),List.set_cons_zero,T0,h2]
  rfl
 | p :: ps,k+1,off,vs,p',hk,h1,h2=>by
  have hk':k < ps.length:=by simpa using hk
  have ih:=A6L ps k off vs p' hk' h1 (by simpa using h2)
  rw [T0,show (k+1)*55+off=(I8 p).length+(k*55+off) by rw [S5];omega,A7u,ih,List.set_cons_succ,T0]
section
variable {w:World} {own:Own} {sb n:Nat} {lv mv:Value} {ps:List (I7 × Value × Value)} {ms:List (Nat × Value × List (I7 × Value × Value))}
theorem RStC.label (h:RStC w own sb lv mv ps ms n) {b0:Nat} (l:Lab) (h0:own b0=none) (hl:b0 < w.heap.size):RStC w (fun b=>if b=b0 then some l else own b) sb lv mv ps ms n∧own.le (fun b=>if b=b0 then some l else own b):=by
 have hle:own.le (fun b=>if b=b0 then some l else own b):=by
  intro b l' hb
  show (if b=b0 then some l else own b)=some l'
  rw [if_neg (fun e=>by rw [e,h0] at hb;cases hb)];exact hb
 refine ⟨{ h with
  lab:=hle _ _ h.lab
  arr:=h.arr.le hle
  mlab:=fun g hg=>hle _ _ (h.mlab g hg)
  each:=fun m hm=>⟨(h.each m hm).1.le hle,(h.each m hm).2⟩
  low:=fun b hb=>?_ },hle⟩
 by_cases e:b=b0
 ·rw [e];exact hl
 ·have:(if b=b0 then some l else own b)≠none:=hb
  rw [if_neg e] at this
  exact h.low b this
theorem RStC.putAt {g c k off:Nat} {vs:List Value} {p':I7 × Value × Value} (h:RStC w own sb (.slice (some ⟨g,0,none⟩) ps.length c) mv ps ms n) (hk:k < ps.length) (ho:off+vs.length≤55) (hp:I8 p'=splice (I8 ps[k]) off vs) (ha:p'.1.ac.addr=ps[k].1.ac.addr) (hok:X5 w own p') :
  RStC (w.setCells g (k*55+off) vs) own sb (.slice (some ⟨g,0,none⟩) ps.length c) mv (ps.set k p') ms n∧K8 w (w.setCells g (k*55+off) vs) own own:=by
 have hg:own g=some .acc:=h.arr.lab g rfl
 have hO:A0 (· = g) w (w.setCells g (k*55+off) vs):=A0.setCells (S:=fun b=>b=g) (A0.refl _ _) (fun _=>rfl) _ _
 have hS:∀ b,b=g→own b≠some .code∧own b≠some (.smap 0):=fun b hb=>by rw [hb,hg];simp
 have hlt:=World.row?_lt h.row
 have hsg:sb≠g:=fun e=>by have:=h.lab;rw [e,hg] at this;cases this
 refine ⟨{
  lab:=h.lab
  row:=by rw [hO.row? hlt hsg];exact h.row
  free:=by rw [hO.free? hlt hsg];exact h.free
  arr:=⟨?_,h.arr.lab,fun p hp2=>?_⟩
  up:=?_
  marks:=A0.own h.marks hO fun g2 hg2 e=>by have:=h.mlab g2 hg2;rw [e,hg] at this;cases this
  mlab:=h.mlab
  each:=fun m hm=>⟨(h.each m hm).1.only hO hS fun g2 hg2 e=>?_,(h.each m hm).2⟩
  apart:=h.apart
  low:=fun b hb=>Nat.lt_of_lt_of_le (h.low b hb) hO.size
  count:=h.count },⟨fun _ _=>rfl,hO.mono fun b hb=>A2L (l:=.acc) (by have e:b=g:=hb;rw [e];exact hg) (by simp) (by simp)⟩⟩
 ·have:=A7K h.arr.cells (k*55+off) vs (by omega)
  rw [A6L ps k off vs p' hk ho hp] at this
  rw [List.length_set];exact this
 ·rcases List.mem_or_eq_of_mem_set hp2 with h2 | rfl
  ·exact (h.arr.ok p h2).only hO hS
  ·exact hok.only hO hS
 ·rw [List.map_set]
  exact A9Z h.up (i:=k) (x:=ps[k].1) (by rw [List.getElem?_map,List.getElem?_eq_getElem hk];rfl) ha
 ·have:=(List.pairwise_cons.1 h.apart).1 m.2.1 (List.mem_map.2 ⟨m,hm,rfl⟩)
  rcases this with h1 | h1
  ·simp [Value.ownBlock] at h1
  ·exact h1 (by rw [hg2,e];rfl)
end
structure A0r (ps:List (I7 × Value × Value)) (n:Nat):Prop where
 len:ps.length≤n
 slots:∀ p∈ps,p.1.slots.length≤n∧(p.1.slots.map Prod.fst).Pairwise (· < ·)∧∀ q∈p.1.slots,q.2≠0
theorem A0r.mono {ps:List (I7 × Value × Value)} {n n':Nat} (h:A0r ps n) (hn:n≤n'):A0r ps n':=
 ⟨Nat.le_trans h.len hn,fun p hp=>⟨Nat.le_trans (h.slots p hp).1 hn,(h.slots p hp).2⟩⟩
theorem A0r.set {ps:List (I7 × Value × Value)} {n k:Nat} {p':I7 × Value × Value} (h:A0r ps n) (hp:p'.1.slots.length≤n∧(p'.1.slots.map Prod.fst).Pairwise (· < ·)∧∀ q∈p'.1.slots,q.2≠0):A0r (ps.set k p') n:=
 ⟨by rw [List.length_set];exact h.len,fun p hp2=>by
  rcases List.mem_or_eq_of_mem_set hp2 with h2 | rfl
  ·exact h.slots p h2
  ·exact hp⟩
def I1 (ps:List (I7 × Value × Value)):List I7:=ps.map fun p=>p.1
def RState (w:World) (own:Own) (sb:Nat) (S:St) (M:List (Nat × St)) (n:Nat):Prop:=
 ∃ lv mv ps ms k,RStC w own sb lv mv ps ms k∧S=rst (I1 ps)∧M=ms.map (fun m=>(m.1,rst (I1 m.2.2)))∧A0r ps n∧(∀ m∈ms,A0r m.2.2 n)∧k≤n
section
variable {w w':World} {own:Own} {sb n:Nat} {S:St} {M:List (Nat × St)}
theorem RState.only {R:Nat→Prop} (h:RState w own sb S M n) (ho:A0 R w w') (hS:∀ b,R b→own b=none):RState w' own sb S M n:=by
 obtain ⟨lv,mv,ps,ms,k,h1,h2⟩:=h
 exact ⟨lv,mv,ps,ms,k,h1.only ho hS,h2⟩
theorem RState.below (h:RState w own sb S M n) (hb:Below w.heap.size w w'):RState w' own sb S M n:=h.only (R:=fun _=>False) (A0.of_below_size hb) (fun _ h=>h.elim)
theorem RState.lows (h:RState w own sb S M n):∀ b,own b≠none→b < w.heap.size:=by
 obtain ⟨lv,mv,ps,ms,k,h1,_⟩:=h
 exact h1.low
theorem RState.mono {n':Nat} (h:RState w own sb S M n) (hn:n≤n'):RState w own sb S M n':=by
 obtain ⟨lv,mv,ps,ms,k,h1,h2,h3,h4,h5,h6⟩:=h
 exact ⟨lv,mv,ps,ms,k,h1,h2,h3,h4.mono hn,fun m hm=>(h5 m hm).mono hn,Nat.le_trans h6 hn⟩
end
theorem AtR.spec {a n:Nat} {ps ps':List (I7 × Value × Value)} (h:AtR a ps ps') (hr:Q1 (I1 ps)) (hw:A0r ps n) (hs:∀ p∈ps,p.1.slots.length≤n) :
  (∃ hk:T3 (I1 ps) a < ps'.length,(ps'[T3 (I1 ps) a]'hk).1.ac.addr=a∧(ps'[T3 (I1 ps) a]'hk).1.acc=rst (I1 ps) a)∧rst (I1 ps')=rst (I1 ps)∧A0r ps' (n+1):=by
 have hm:I1 ps=ps.map fun p=>p.1:=rfl
 rcases h with ⟨⟨x,h1,h2⟩,rfl⟩ | ⟨h1,h2⟩
 ·have hm:I1 ps'=ps'.map fun p=>p.1:=rfl
  obtain ⟨hl,he⟩:=List.getElem?_eq_some_iff.1 h1
  have hl':T3 (I1 ps') a < ps'.length:=by rw [hm];simpa using hl
  have hx:(ps'[T3 (I1 ps') a]'hl').1=x:=by simpa [I1] using he
  refine ⟨⟨hl',by rw [hx];exact h2,?_⟩,rfl,hw.mono (Nat.le_succ _)⟩
  rw [hx]
  have:=A3q hr (i:=T3 (I1 ps') a) (x:=x) (by rw [hm];exact h1)
  rw [h2] at this;exact this.symm
 ·have hf:I1 ps'=atR (I1 ps) a:=by
   unfold I1 atR
   rw [h2]
   simp [List.map_append,List.map_take,List.map_drop]
  have hle:=A4L (I1 ps) a
  have hlen:(I1 ps).length=ps.length:=by simp [I1]
  have hkl:T3 (I1 ps) a < ps'.length:=by
   rw [h2,List.length_append,List.length_take,List.length_cons,List.length_drop]
   have:T3 (ps.map fun p=>p.1) a=T3 (I1 ps) a:=rfl
   rw [this];omega
  have hel:(ps'[T3 (I1 ps) a]'hkl).1=I7.new a:=by
   have h3:=B4r (I1 ps) a
   rw [← hf] at h3
   have h4:(I1 ps')[T3 (I1 ps) a]? = some (ps'[T3 (I1 ps) a]'hkl).1:=by
    show (ps'.map fun p=>p.1)[T3 (I1 ps) a]? = _
    rw [List.getElem?_map,List.getElem?_eq_getElem hkl];rfl
   rw [h4] at h3
   exact Option.some.inj h3
  have hno:∀ x∈I1 ps,x.ac.addr≠a:=fun x hx e=>h1 ((A5B hr).2 ⟨x,hx,e⟩)
  refine ⟨⟨hkl,by rw [hel];rfl,?_⟩,by rw [hf];exact B5D hr h1,?_,?_⟩
  ·rw [hel,A3r hno];rfl
  ·have:=hw.len
   rw [h2,List.length_append,List.length_take,List.length_cons,List.length_drop];omega
  ·intro p hp
   rw [h2] at hp
   rcases List.mem_append.1 hp with h3 | h3
   ·have:=hw.slots p (List.mem_of_mem_take h3);exact ⟨Nat.le_succ_of_le this.1,this.2⟩
   ·rcases List.mem_cons.1 h3 with rfl | h3
    ·exact ⟨Nat.zero_le _,List.Pairwise.nil,fun q hq=>by cases hq⟩
    ·have:=hw.slots p (List.mem_of_mem_drop h3);exact ⟨Nat.le_succ_of_le this.1,this.2⟩
theorem B5C {ps:List (I7 × Value × Value)} {k:Nat} (hr:Q1 (I1 ps)) (hk:k < ps.length) (p':I7 × Value × Value) (ha:p'.1.ac.addr=ps[k].1.ac.addr):rst (I1 (ps.set k p'))=Z9 (rst (I1 ps)) ps[k].1.ac.addr p'.1.acc:=by
 unfold I1 at hr ⊢
 rw [List.map_set]
 exact B5B hr (i:=k) (x:=ps[k].1) (by rw [List.getElem?_map,List.getElem?_eq_getElem hk];rfl) ha
end Go.Mun
namespace Go.Mun
open Go.RowKit
open Go.Proofs.YtfflppedbopdpaaGreat (Ac Q8 K0 AtR A23)

def A30 (a:Nat):I7 × Value × Value:=(I7.new a,.slice none 0 0,.slice none 0 0)
def A2a:List (I7 × Value × Value)→Nat→I7 × Value × Value
 | [],a=>A30 a
 | p :: ps,a=>if p.1.ac.addr=a then p else A2a ps a
theorem B4v (ps:List (I7 × Value × Value)) (a:Nat):(A2a ps a).1.acc=rst (I1 ps) a:=by
 induction ps with
 | nil=>rfl
 | cons p ps ih =>
  simp only [A2a,I1,List.map_cons,rst]
  split
  ·rfl
  ·exact ih
theorem B2S (ps:List (I7 × Value × Value)) (a:Nat):(A2a ps a).1.ac.addr=a:=by
 induction ps with
 | nil=>rfl
 | cons p ps ih =>
  simp only [A2a]
  split
  ·assumption
  ·exact ih
theorem A9b (ps:List (I7 × Value × Value)) (a:Nat):A2a ps a∈ps∨A2a ps a=A30 a:=by
 induction ps with
 | nil=>exact .inr rfl
 | cons p ps ih =>
  simp only [A2a]
  split
  ·exact .inl (by simp)
  ·rcases ih with h | h
   ·exact .inl (by simp [h])
   ·exact .inr h
theorem B1q:∀ (ps:List (I7 × Value × Value)) (a i:Nat) (hi:i < ps.length),(∀ j (hj:j < ps.length),j < i→ps[j].1.ac.addr≠a)→ps[i].1.ac.addr=a→A2a ps a=ps[i]
 | [],_,_,hi,_,_=>by simp at hi
 | p :: ps,a,0,_,_,h=>by
  have h':p.1.ac.addr=a:=h
  simp only [A2a];rw [if_pos h'];rfl
 | p :: ps,a,i+1,hi,hl,h=>by
  have h':¬ p.1.ac.addr=a:=hl 0 (by simp) (by omega)
  simp only [A2a]
  rw [if_neg h']
  exact B1q ps a i (by simpa using hi) (fun j hj hji=>hl (j+1) (by simpa using hj) (by omega)) (by simpa using h)
theorem B1p:∀ (ps:List (I7 × Value × Value)) (a:Nat),(∀ j (hj:j < ps.length),ps[j].1.ac.addr≠a)→A2a ps a=A30 a
 | [],_,_=>rfl
 | p :: ps,a,hl=>by
  have h':¬ p.1.ac.addr=a:=hl 0 (by simp)
  simp only [A2a]
  rw [if_neg h']
  exact B1p ps a fun j hj=>hl (j+1) (by simpa using hj)
theorem B6t {w:World} {own:Own} {ps:List (I7 × Value × Value)} {a:Nat} (h:∀ p∈ps,X5 w own p) (ha:a < wA):X5 w own (A2a ps a):=by
 rcases A9b ps a with h1 | h1
 ·exact h _ h1
 ·rw [h1];exact A23 ha
end Go.Mun
namespace Go.Mun
open Go.RowKit
open Go.Proofs.YtfflppedbopdpaaGreat (Ac Q8 K0 AtR A23 B0)

theorem A0H {l:List (List Value)} {i:Nat} {s:List Value} (hs:l[i]? = some s) {v:List Value} (hv:v.length=s.length) {p:Nat} (hp:p=A0T l i):splice (B8 l) p v=B8 (l.set i v):=by
 have h1:=A5n hs
 rw [hp,← A18 _ _ _ (by omega),A7U hs hv]
def T4 (w:World) (own:Own) (sb:Nat) (S:St) (M:List (Nat × St)) (n a g k:Nat):Prop:=
 ∃ c mv ps ms x,RStC w own sb (.slice (some ⟨g,0,none⟩) ps.length c) mv ps ms x∧(∃ hk:k < ps.length,(ps[k]'hk).1.ac.addr=a)∧S=rst (I1 ps)∧M=ms.map (fun m=>(m.1,rst (I1 m.2.2)))∧A0r ps n∧(∀ m∈ms,A0r m.2.2 n)∧x≤n
section
variable {w w':World} {own:Own} {sb n a g k:Nat} {S:St} {M:List (Nat × St)}
theorem T4.state (h:T4 w own sb S M n a g k):RState w own sb S M n:=by
 obtain ⟨c,mv,ps,ms,x,h1,_,h3⟩:=h
 exact ⟨_,mv,ps,ms,x,h1,h3⟩
theorem T4.only {R:Nat→Prop} (h:T4 w own sb S M n a g k) (ho:A0 R w w') (hS:∀ b,R b→own b=none):T4 w' own sb S M n a g k:=by
 obtain ⟨c,mv,ps,ms,x,h1,h2⟩:=h
 exact ⟨c,mv,ps,ms,x,h1.only ho hS,h2⟩
theorem T4.below (h:T4 w own sb S M n a g k) (hb:Below w.heap.size w w'):T4 w' own sb S M n a g k:=h.only (R:=fun _=>False) (A0.of_below_size hb) (fun _ h=>h.elim)
theorem T4.lt (h:T4 w own sb S M n a g k):g < w.heap.size:=by
 obtain ⟨c,mv,ps,ms,x,h1,⟨hk,_⟩,_⟩:=h
 obtain ⟨g',c',e,_,hr,_⟩:=h1.arr.row hk
 cases e
 exact World.row?_lt hr
theorem T4.free (h:T4 w own sb S M n a g k):w.free? g (k*55) 55=true:=by
 obtain ⟨c,mv,ps,ms,x,h1,⟨hk,_⟩,_⟩:=h
 obtain ⟨g',c',e,_,_,hf⟩:=h1.arr.row hk
 cases e
 exact hf
theorem T4.label (h:T4 w own sb S M n a g k) {b0:Nat} (l:Lab) (h0:own b0=none) (hl:b0 < w.heap.size):T4 w (fun b=>if b=b0 then some l else own b) sb S M n a g k:=by
 obtain ⟨c,mv,ps,ms,x,h1,h2⟩:=h
 exact ⟨c,mv,ps,ms,x,(h1.label l h0 hl).1,h2⟩
theorem T4.put {off:Nat} {vs:List Value} (X:Acc→Acc) (h:T4 w own sb S M n a g k) (ho:off+vs.length≤55)
  (hp:∀ p:I7 × Value × Value,X5 w own p→p.1.ac.addr=a→p.1.slots.length≤n→(p.1.slots.map Prod.fst).Pairwise (· < ·)→(∀ q∈p.1.slots,q.2≠0) →
   ∃ p':I7 × Value × Value,I8 p'=splice (I8 p) off vs∧p'.1.ac.addr=a∧X5 w own p'∧(p'.1.slots.length≤n+1∧(p'.1.slots.map Prod.fst).Pairwise (· < ·)∧∀ q∈p'.1.slots,q.2≠0)∧p'.1.acc=X p.1.acc) :
  RState (w.setCells g (k*55+off) vs) own sb (Z9 S a (X (S a))) M (n+1)∧K8 w (w.setCells g (k*55+off) vs) own own:=by
 obtain ⟨c,mv,ps,ms,x,h1,⟨hk,ha⟩,h3,h4,h5,h6,h7⟩:=h
 have hmem:ps[k]∈ps:=List.getElem_mem hk
 obtain ⟨p',e1,e2,e3,e4,e5⟩:=hp ps[k] (h1.arr.ok _ hmem) ha (h5.slots _ hmem).1 (h5.slots _ hmem).2.1 (h5.slots _ hmem).2.2
 obtain ⟨k1,k2⟩:=h1.putAt hk ho e1 (e2.trans ha.symm) e3
 have hS:rst (I1 ps) a=ps[k].1.acc:=by
  have:=A3q h1.up (i:=k) (x:=ps[k].1) (by rw [List.getElem?_map,List.getElem?_eq_getElem hk];rfl)
  rw [ha] at this;exact this
 have hlen:(ps.set k p').length=ps.length:=List.length_set
 refine ⟨⟨.slice (some ⟨g,0,none⟩) ps.length c,mv,ps.set k p',ms,x,k1,?_,h4,(h5.mono (Nat.le_succ n)).set e4,fun m hm=>(h6 m hm).mono (Nat.le_succ n),Nat.le_succ_of_le h7⟩,k2⟩
 have:=B5C h1.up hk p' (e2.trans ha.symm)
 rw [this,ha,e5,h3,hS]
theorem T4.bal (h:T4 w own sb S M n a g k) (v:Nat) (hv:v < wW):RState (w.setCells g (k*55+21) (A3 32 v)) own sb (Z9 S a { S a with bal:=v }) M (n+1)∧K8 w (w.setCells g (k*55+21) (A3 32 v)) own own:=by
 refine h.put (fun x=>{ x with bal:=v }) (by rw [C4];omega) ?_
 intro p hok ha hl h1 h2
 refine ⟨(⟨{ p.1.ac with bal:=v },p.1.slots⟩,p.2),?_,ha,⟨hok.code,hok.slots,hok.addr,hv,hok.nonce⟩,⟨Nat.le_succ_of_le hl,h1,h2⟩,rfl⟩
 unfold I8
 rw [A0H (i:=2) (s:=A3 32 p.1.ac.bal) rfl (by simp) (by simp [Q8,A8,A4])]
 rfl
theorem T4.nonce (h:T4 w own sb S M n a g k) (x:Int) (hx:0≤x∧x≤9223372036854775807):RState (w.setCells g (k*55+20) [.int .i64 x]) own sb (Z9 S a { S a with nonce:=x.toNat }) M (n+1)∧K8 w (w.setCells g (k*55+20) [.int .i64 x]) own own:=by
 refine h.put (fun y=>{ y with nonce:=x.toNat }) (by simp) ?_
 intro p hok ha hl h1 h2
 refine ⟨(⟨{ p.1.ac with nonce:=x },p.1.slots⟩,p.2),?_,ha,⟨hok.code,hok.slots,hok.addr,hok.bal,hx⟩,⟨Nat.le_succ_of_le hl,h1,h2⟩,rfl⟩
 unfold I8
 rw [A0H (i:=1) (s:=[.int .i64 p.1.ac.nonce]) rfl (by simp) (by simp [Q8,A8,A4])]
 rfl
theorem T4.code (h:T4 w own sb S M n a g k) {cv:Value} {l:J1} (hc:Q2 w own cv l):RState (w.setCells g (k*55+53) [cv]) own sb (Z9 S a { S a with code:=l }) M (n+1)∧K8 w (w.setCells g (k*55+53) [cv]) own own:=by
 refine h.put (fun y=>{ y with code:=l }) (by simp) ?_
 intro p hok ha hl h1 h2
 refine ⟨(⟨{ p.1.ac with code:=l },p.1.slots⟩,cv,p.2.2),?_,ha,⟨hc,hok.slots,hok.addr,hok.bal,hok.nonce⟩,⟨Nat.le_succ_of_le hl,h1,h2⟩,rfl⟩
 unfold I8
 rw [A0H (i:=3) (s:=[p.2.1]) rfl (by simp) (by simp [Q8,A8,A4])]
 rfl
theorem T4.kill (h:T4 w own sb S M n a g k) (haw:a < wA):RState (w.setCells g (k*55+0) (I8 (A30 a))) own sb (Z9 S a Acc.none) M (n+1)∧K8 w (w.setCells g (k*55+0) (I8 (A30 a))) own own:=by
 refine h.put (fun _=>Acc.none) (by rw [S5];omega) ?_
 intro p hok ha hl h1 h2
 refine ⟨A30 a,?_,rfl,A23 haw,⟨Nat.zero_le _,List.Pairwise.nil,fun q hq=>by cases hq⟩,rfl⟩
 unfold splice
 rw [List.take_zero,List.nil_append,List.drop_eq_nil_of_le (by rw [S5,S5];omega),List.append_nil]
theorem T4.newCode {v:World} {cv:Value} {l:J1} (h:T4 v own sb S M n a g k) (hb:Below v.heap.size v w) (hv:w.ownsRow 0 5 1 cv l.length (l.map (Value.int .u8))) (hnew:∀ g,cv.ownBlock=some g→v.heap.size≤g) (hby:Byt l) (hl:l.length≤1099511627776) :
  ∃ own',RState (w.setCells g (k*55+53) [cv]) own' sb (Z9 S a { S a with code:=l }) M (n+1)∧K8 v (w.setCells g (k*55+53) [cv]) own own':=by
 have hw:=h.below hb
 obtain ⟨ad,c,e,_,hI⟩:=G9.of_own' hv
 subst e
 cases ad with
 | none =>
  have hc:Q2 w own (.slice none l.length c) l:=⟨⟨none,c,rfl,hI,fun _ p hp=>by cases hp⟩,hby,hl⟩
  obtain ⟨k1,k2⟩:=hw.code hc
  exact ⟨own,k1,(K8.below own hb).trans k2⟩
 | some p =>
  have h1:=hnew p.block rfl
  have h2:=B0 hv p.block rfl
  have h3:own p.block=none:=by
   cases e:own p.block with
   | none=>rfl
   | some x=>have:=h.state.lows p.block (by rw [e];simp);omega
  have hc:Q2 w (fun b=>if b=p.block then some .code else own b) (.slice (some p) l.length c) l:=⟨⟨some p,c,rfl,hI,fun _ q hq=>by cases hq;simp⟩,hby,hl⟩
  obtain ⟨k1,k2⟩:=(hw.label .code h3 h2).code hc
  refine ⟨_,k1,⟨fun b hbv=>?_,?_⟩⟩
  ·show (if b=p.block then some Lab.code else own b)=own b
   rw [if_neg (by omega)]
  ·refine (A0.of_below_size (S:=hot own) hb).trans k2.only fun i hx hi=>?_
   have hx2:hot _ i:=hx
   unfold hot at hx2 ⊢
   simp only [if_neg (show ¬ i=p.block by omega)] at hx2
   exact hx2
end
end Go.Mun
