/- A part of the proof of EvmLogs: ZFrm. -/
import Derived.Test.YtfflppedbopdpaaGreatZNum
import Derived.Maps.AppendAt
set_option linter.unusedVariables false
set_option linter.unusedSimpArgs false
namespace Go.Mun
open Go.RowKit

structure A0 (S:Nat→Prop) (w w':World):Prop where
 os:w'.os=w.os
 tape:w'.tape=w.tape
 output:w'.output=w.output
 size:w.heap.size≤w'.heap.size
 block:∀ k,k < w.heap.size→¬ S k→w'.heap[k]? = w.heap[k]?

theorem A0.refl (S:Nat→Prop) (w:World):A0 S w w:=⟨rfl,rfl,rfl,Nat.le_refl _,fun _ _ _=>rfl⟩
theorem A0.trans {S T:Nat→Prop} {a b c:World} (h:A0 S a b) (k:A0 T b c) (hT:∀ i,T i→i < a.heap.size→S i):A0 S a c:=
 ⟨k.os.trans h.os,k.tape.trans h.tape,k.output.trans h.output,Nat.le_trans h.size k.size,fun i hi hs =>
  (k.block i (Nat.lt_of_lt_of_le hi h.size) (fun ht=>hs (hT i ht hi))).trans (h.block i hi hs)⟩
theorem A0.mono {S T:Nat→Prop} {a b:World} (h:A0 S a b) (hT:∀ i,S i→T i):A0 T a b:=
 ⟨h.os,h.tape,h.output,h.size,fun i hi hs=>h.block i hi (fun x=>hs (hT i x))⟩
theorem A0.below {S:Nat→Prop} {B:Nat} {a b:World} (h:A0 S a b) (hB:B≤a.heap.size) (hS:∀ i,S i→B≤i):Below B a b:=
 ⟨h.os,h.tape,h.output,h.size,fun k hk=>h.block k (by omega) (fun x=>by have:=hS k x;omega)⟩
theorem A0.of_below {S:Nat→Prop} {B:Nat} {a b:World} (h:Below B a b) (hS:∀ i,i < a.heap.size→¬ S i→i < B):A0 S a b:=
 ⟨h.os,h.tape,h.output,h.size,fun k hk hs=>h.block k (hS k hk hs)⟩
theorem A0.of_below_size {S:Nat→Prop} {a b:World} (h:Below a.heap.size a b):A0 S a b:=A0.of_below h fun _ h _=>h
theorem A0.alloc {S:Nat→Prop} {a w:World} (h:A0 S a w) (o:Obj):A0 S a (w.alloc o):=
 h.trans (T:=fun _=>False) (A0.of_below_size ((Below.refl _ _).alloc (Nat.le_refl _) _)) (fun _ x=>x.elim)
theorem A0.drew {S:Nat→Prop} {a w:World} (h:A0 S a w):A0 S a w.drew:=⟨h.os,h.tape,h.output,h.size,h.block⟩
theorem A0.drewN {S:Nat→Prop} {a w:World} (h:A0 S a w) (n:Nat):A0 S a (w.drewN n):=⟨h.os,h.tape,h.output,h.size,h.block⟩
theorem A0.setCell {S:Nat→Prop} {a w:World} (h:A0 S a w) {p:Addr} (hp:p.block < a.heap.size→S p.block) (u:Value):A0 S a (w.setCell p u):=
 ⟨h.os,h.tape,h.output,by simpa [World.setCell] using h.size,fun k hk hs=>by
  rw [Below.heap_setCell _ _ _ _ (fun e=>by subst e;exact hs (hp hk))];exact h.block k hk hs⟩
theorem A0.setCells {S:Nat→Prop} {a w:World} (h:A0 S a w) {b:Nat} (hp:b < a.heap.size→S b) (vs:List Value) (o:Nat):A0 S a (w.setCells b o vs):=by
 induction vs generalizing o w with
 | nil=>exact h
 | cons v vs ih=>exact ih (h.setCell (p:=⟨b,o,none⟩) hp v) (o+1)
theorem A0.grown {S:Nat→Prop} {a w w':World} {row:Option Nat} (h:A0 S a w) (hg:w.grownBy w' row) (hr:∀ k,row=some k→k < a.heap.size→S k):A0 S a w':=
 ⟨hg.os.trans h.os,hg.tape.trans h.tape,hg.output.trans h.output,Nat.le_trans h.size hg.size,fun i hi hs =>
  (hg.block i (Nat.lt_of_lt_of_le hi h.size) (fun e=>hs (hr i e.symm hi))).trans (h.block i hi hs)⟩

section
variable {S:Nat→Prop} {w w':World} (h:A0 S w w') {b o n:Nat}
include h
theorem A0.heap (hb:b < w.heap.size) (hs:¬ S b):w'.heap[b]? = w.heap[b]?:=h.block b hb hs
theorem A0.row? (hb:b < w.heap.size) (hs:¬ S b):w'.row? b o n=w.row? b o n:=World.row?_of_block (h.block b hb hs)
theorem A0.free? (hb:b < w.heap.size) (hs:¬ S b):w'.free? b o n=w.free? b o n:=World.free?_of_block (h.block b hb hs)
theorem A0.cell? (hb:b < w.heap.size) (hs:¬ S b):w'.cell? ⟨b,o,none⟩=w.cell? ⟨b,o,none⟩:=World.cell?_of_block (w:=w) (h.block b hb hs)
theorem A0.frozen? (hb:b < w.heap.size) (hs:¬ S b):w'.frozen? ⟨b,o,none⟩=w.frozen? ⟨b,o,none⟩:=World.frozen?_of_block (w:=w) (h.block b hb hs)
end

theorem U6 (x:Int) (h0 : -9223372036854775808≤x) (h1:x≤9223372036854775807):IntKind.i64.wrap x=x:=by rw [IntKind.wrap_i64];omega
theorem wrU (x:Int) (h0:0≤x) (h1:x < 18446744073709551616):IntKind.u64.wrap x=x:=by rw [IntKind.wrap_u64];omega
theorem wr8 (x:Int) (h0:0≤x) (h1:x < 256):IntKind.u8.wrap x=x:=by rw [IntKind.wrap_u8];omega
structure Arr (w:World) (b n:Nat) (L:List Value):Prop where
 row:w.row? b 0 n=some L
 free:w.free? b 0 n=true
theorem Arr.len {w:World} {b n:Nat} {L:List Value} (h:Arr w b n L):L.length=n:=World.row?_len h.row
theorem Arr.lt {w:World} {b n:Nat} {L:List Value} (h:Arr w b n L):b < w.heap.size:=World.row?_lt h.row
theorem Arr.cell {w:World} {b n:Nat} {L:List Value} (h:Arr w b n L) {i:Nat} (hi:i < n) {v:Value} (hv:L[i]? = some v):w.cell? ⟨b,i,none⟩=some v:=by
 have:=World.row?_cell h.row hi
 rw [Nat.zero_add] at this
 rw [this,hv]
theorem Arr.free1 {w:World} {b n:Nat} {L:List Value} (h:Arr w b n L) {i:Nat} (hi:i < n):w.free? b i 1=true:=World.free?_sub h.free (by omega)
theorem Arr.of_block {w w':World} {b n:Nat} {L:List Value} (h:Arr w b n L) (hb:w'.heap[b]? = w.heap[b]?):Arr w' b n L:=
 ⟨(World.row?_of_block hb).trans h.row,(World.free?_of_block hb).trans h.free⟩
theorem Arr.only {w w':World} {S:Nat→Prop} {b n:Nat} {L:List Value} (h:Arr w b n L) (k:A0 S w w') (hs:¬ S b):Arr w' b n L:=h.of_block (k.block b h.lt hs)
theorem Arr.alloc {w:World} {b n:Nat} {L:List Value} (h:Arr w b n L) (o:Obj):Arr (w.alloc o) b n L:=h.of_block (Below.heap_alloc _ _ _ h.lt)
theorem Arr.new (w:World) (n:Nat) (L:List Value) (t:TypeId) (hn:L.length=n):Arr (w.alloc (.cells L.toArray t)) w.heap.size n L:=
 ⟨World.row?_alloc_at L t _ rfl hn,World.free?_alloc_at L t rfl (by omega)⟩
theorem Arr.drew {w:World} {b n:Nat} {L:List Value} (h:Arr w b n L):Arr w.drew b n L:=⟨h.row,h.free⟩
theorem Arr.drewN {w:World} {b n:Nat} {L:List Value} (h:Arr w b n L) (k:Nat):Arr (w.drewN k) b n L:=⟨h.row,h.free⟩
theorem Arr.setCell_other {w:World} {b n:Nat} {L:List Value} (h:Arr w b n L) {b' i:Nat} (hb:b≠b') (v:Value):Arr (w.setCell ⟨b',i,none⟩ v) b n L:=
 h.of_block (Below.heap_setCell _ _ _ _ hb)
theorem Z2 {α:Type} (L:List α) (i:Nat) (v:α) (h:i < L.length):splice L i [v]=L.set i v:=by
 apply List.ext_getElem?
 intro j
 rw [I9 _ _ _ (by simp;omega),List.getElem?_set]
 simp only [List.length_singleton]
 by_cases h1:j < i
 ·rw [if_pos h1,if_neg (by omega)]
 ·rw [if_neg h1]
  by_cases h2:j < i+1
  ·obtain rfl:i=j:=by omega
   rw [if_pos h2,if_pos rfl,if_pos h];simp
  ·rw [if_neg h2,if_neg (by omega)]
theorem Arr.set {w:World} {b n:Nat} {L:List Value} (h:Arr w b n L) {i:Nat} (hi:i < n) (v:Value):Arr (w.setCell ⟨b,i,none⟩ v) b n (L.set i v):=by
 refine ⟨?_,by rw [D1 _ (h.free1 hi)];exact h.free⟩
 rw [G6 v h.row (Nat.zero_le _) (by omega),Nat.sub_zero,Z2 _ _ _ (by rw [h.len];exact hi)]
theorem Arr.setCells {w:World} {b n:Nat} {L:List Value} (h:Arr w b n L) (M:List Value) (hM:Q3 n M=true):Arr (w.setCells b 0 M) b n M:=
 ⟨B7 M h.free hM,by rw [World.free?_setCells'];exact h.free⟩
end Go.Mun
namespace Go.Mun
open Go.RowKit
theorem A33 {P:Program} {ty:TypeId} {z:List Value} (h:∀ w,(Instr.build ty #[]).run P w = .ok (.agg z.toArray) w) (ρ:Operand→Value) (dst:Option Tmp) (t:TypeId) (pos:String) (after:Array Edge) (gd:Option (Nat × Bool)) (w:World) :
  (execOp ρ ⟨dst,.build ty #[],t,pos,after,gd⟩).run P w = .ok (.value (.agg z.toArray)) w:=by
 unfold execOp
 simp [h]
theorem A0S {P:Program} {ops:Array Oper} {rest:List Oper} {o:Oper} {a:Act} {Q:Exit→Act→World→Prop} {w:World}
  {t e:TypeId} {z:Value} {bytes:Nat} (E:P4 P t e z 1 bytes) (hgd:o.guard=none) (s x:Operand)
  (ho:o.op = .call { callee:=.builtin .append,args:=#[s,x],argTypes:=#[t,t] })
  {base:Nat} {v:Value} {n m:Nat} {xs:List Value} (hown:w.ownsRow base e 1 v n xs) (hs:a.eval s=v) {k:IntKind} {ad:Option Addr} {c:Nat} {l:List Int}
  (hx:a.eval x = .slice ad m c) (hm:m=l.length) (hI:G9 w k ad c l)
  (h63:n+m≤maxLen) (hbytes:(n+m)*bytes≤140737488355328) (hbase:base≤w.heap.size)
  (h:∀ v' w',w'.ownsRow base e 1 v' (n+m) (xs++l.map (Value.int k))→w.grownBy w' v.ownBlock→wpList P ops Q rest (a.put o.dst v') w') :
  wpList P ops Q (o :: rest) a w:=by
 subst hm
 exact A27 E hgd s x ho hown hs hx hI h63 hbytes hbase h
theorem C1 {w:World} {b o n:Nat} (h:w.free? b o n=true):b < w.heap.size:=by
 obtain ⟨c,e,f,hb,_⟩:=World.free?_inv h
 exact (Array.getElem?_eq_some_iff.1 hb).1
end Go.Mun
namespace Go.Mun
open Go.RowKit

structure G8 (w:World) (ad:Option Addr) (c m size:Nat) (cs:List Value):Prop where
 ok:Q3 (m*size) cs=true
 cell:m≠0→∃ b off,ad=some ⟨b,off,none⟩∧∀ j u,cs[j]? = some u→w.cell? ⟨b,off+j,none⟩=some u
 nil:ad=none→m=0∧c=0

theorem A0.of_grown {w w':World} {r:Option Nat} (h:w.grownBy w' r):A0 (fun g=>r=some g) w w':=
 ⟨h.os,h.tape,h.output,h.size,fun k hk hs=>h.block k hk (fun e=>hs e.symm)⟩
theorem G8.ints {w:World} {k:IntKind} {ad:Option Addr} {c:Nat} {l:List Int} (h:G9 w k ad c l):G8 w ad c l.length 1 (l.map (Value.int k)):=by
 refine ⟨by rw [Nat.mul_one];exact A3x k l,fun hm=>?_,fun e=>?_⟩
 ·obtain ⟨b,off,ha,hc⟩:=h.cell (by rintro rfl;simp at hm)
  refine ⟨b,off,ha,fun j u hj=>?_⟩
  have hj':j < l.length:=by
   rcases Nat.lt_or_ge j l.length with h | h
   ·exact h
   ·rw [List.getElem?_eq_none (by simpa using h)] at hj;cases hj
  rw [hc j hj']
  simp [hj'] at hj
  simp [hj',hj]
 ·have:=h.nil e;have:=h.len;omega
theorem G8.row {w:World} {b off m size:Nat} {cs:List Value} (h:w.row? b off (m*size)=some cs) (hok:Q3 (m*size) cs=true) (c:Nat):G8 w (some ⟨b,off,none⟩) c m size cs:=by
 refine ⟨hok,fun _=>⟨b,off,rfl,fun j u hj=>?_⟩,fun e=>by simp at e⟩
 have hj':j < m*size:=by
  have:=K6 hok
  rcases Nat.lt_or_ge j cs.length with h | h
  ·omega
  ·rw [List.getElem?_eq_none h] at hj;cases hj
 rw [World.row?_cell h hj',hj]
theorem G8.new (w:World) {m size:Nat} {cs:List Value} (e:TypeId) (fz:Nat × Nat) (hok:Q3 (m*size) cs=true) (c:Nat):G8 (w.alloc (.cells cs.toArray e fz)) (some ⟨w.heap.size,0,none⟩) c m size cs:=
 .row (World.row?_alloc_at cs e fz rfl (K6 hok)) hok c

theorem B07 {P:Program} {w:World} {t ty e:TypeId} {z:Value} {size bytes:Nat} (E:P4 P t e z size bytes)
  {v:Value} {n:Nat} {xs:List Value} (hown:w.ownsRow 0 e size v n xs) {ad:Option Addr} {m c:Nat} {cs:List Value} (hs:G8 w ad c m size cs)
  (h63:n+m≤maxLen) (hbytes:(n+m)*bytes≤140737488355328) :
  ∃ v' w',(Builtin.append_ #[t,t] ty #[v,.slice ad m c]).run P w = .ok v' w'∧w'.ownsRow 0 e size v' (n+m) (xs++cs)∧A0 (fun g=>v.ownBlock=some g) w w' ∧
   (∀ g,v'.ownBlock=some g→v.ownBlock=some g∨w.heap.size≤g):=by
 obtain ⟨i,hi,hz,hsz,hb⟩:=E.info
 cases ad with
 | none =>
  obtain ⟨rfl,rfl⟩:=hs.nil rfl
  have hcs:cs = []:=List.eq_nil_of_length_eq_zero (by simpa using K6 hs.ok)
  subst hcs
  refine ⟨v,w,run_append_owned_none (P:=P) (w:=w) 0 t ty e i size E.slice hi v n xs hown,by simpa using hown,A0.refl _ _,fun g h => .inl h⟩
 | some ad =>
  have hnew:∀ j u,cs[j]? = some u→w.cell? (ad.add j)=some u:=by
   intro j u hj
   have hm:m≠0:=by
    rintro rfl
    have:=K6 hs.ok
    rw [List.getElem?_eq_none (by omega)] at hj;cases hj
   obtain ⟨b,off,ha,hc⟩:=hs.cell hm
   cases ha
   rw [U9 rfl];exact hc j u hj
  obtain ⟨v',w',h1,h2,h3,_,h5⟩:=run_append_own_at (P:=P) w 0 t ty e i z size bytes E.slice hi hz hsz hb E.zsize E.pos v n xs hown ad m c cs (K6 hs.ok) hnew (M9 hs.ok) h63 hbytes (Nat.zero_le _)
  refine ⟨v',w',h1,h2,A0.of_grown h3,fun g hg=>?_⟩
  rcases h5 with h | h
  ·exact .inl (h ▸ hg)
  ·rw [h] at hg;cases hg;exact .inr (Nat.le_refl _)
theorem Z0 {P:Program} {ops:Array Oper} {rest:List Oper} {o:Oper} {a:Act} {Q:Exit→Act→World→Prop} {w:World}
  {t e:TypeId} {z:Value} {size bytes:Nat} (E:P4 P t e z size bytes) (hgd:o.guard=none) (s x:Operand)
  (ho:o.op = .call { callee:=.builtin .append,args:=#[s,x],argTypes:=#[t,t] })
  {v:Value} {n:Nat} {xs:List Value} (hown:w.ownsRow 0 e size v n xs) (hv:a.eval s=v) {ad:Option Addr} {m c:Nat} {cs:List Value} (hs:G8 w ad c m size cs) (hx:a.eval x = .slice ad m c)
  (h63:n+m≤maxLen) (hbytes:(n+m)*bytes≤140737488355328)
  (h:∀ v' w',w'.ownsRow 0 e size v' (n+m) (xs++cs)→A0 (fun g=>v.ownBlock=some g) w w'→(∀ g,v'.ownBlock=some g→v.ownBlock=some g∨w.heap.size≤g)→wpList P ops Q rest (a.put o.dst v') w') :
  wpList P ops Q (o :: rest) a w:=by
 refine wpList_plain hgd fun K hK=>?_
 obtain ⟨v',w',hr,h2,h3,h4⟩:=B07 (P:=P) (ty:=o.type) E hown hs h63 hbytes
 unfold Oper.wp execOp
 simp only [ho,resolve,invoke,builtin,Sem.run_bind,Sem.run_pure,Result.andThen_ok,List.map_toArray,List.map_cons,List.map_nil,hv,hx,hr]
 exact hK _ _ (h v' w' h2 h3 h4)
theorem K9 {P:Program} {ops:Array Oper} {o:Oper} {a:Act} {w:World} {K:Act→World→Prop} {Q:Exit→Act→World→Prop} {F:Prop}
  {t e:TypeId} {z:Value} {size bytes:Nat} (E:P4 P t e z size bytes) (hgd:o.guard=none) (s x:Operand)
  (ho:o.op = .call { callee:=.builtin .append,args:=#[s,x],argTypes:=#[t,t] })
  {v:Value} {n:Nat} {xs:List Value} (hown:w.ownsRow 0 e size v n xs) (hv:a.eval s=v) {ad:Option Addr} {m c:Nat} {cs:List Value} (hs:G8 w ad c m size cs) (hx:a.eval x = .slice ad m c)
  (h63:n+m≤maxLen) (hbytes:(n+m)*bytes≤140737488355328)
  (h:∀ v' w',w'.ownsRow 0 e size v' (n+m) (xs++cs)→A0 (fun g=>v.ownBlock=some g) w w'→(∀ g,v'.ownBlock=some g→v.ownBlock=some g∨w.heap.size≤g)→K (a.put o.dst v') w') :
  if Region.wanted o (yielded ops a.tmps)=true then Oper.wp P o a w K Q else F:=by
 obtain ⟨v',w',hr,h2,h3,h4⟩:=B07 (P:=P) (ty:=o.type) E hown hs h63 hbytes
 rw [if_pos (by simp [Region.wanted,hgd])]
 unfold Oper.wp execOp
 simp only [ho,resolve,invoke,builtin,Sem.run_bind,Sem.run_pure,Result.andThen_ok,List.map_toArray,List.map_cons,List.map_nil,hv,hx,hr]
 exact h v' w' h2 h3 h4
theorem A0.own {w w':World} {S:Nat→Prop} {e size n:Nat} {v:Value} {xs:List Value} {base:Nat} (h:w.ownsRow base e size v n xs) (ho:A0 S w w') (hs:∀ g,v.ownBlock=some g→¬ S g):w'.ownsRow base e size v n xs:=by
 refine ⟨h.1,?_⟩
 rcases h.2 with hn | ⟨g,cap,cur,rfl,h1,h2,h3⟩
 ·exact .inl hn
 ·refine .inr ⟨g,cap,cur,rfl,h1,?_,h3⟩
  rw [ho.block g (Array.getElem?_eq_some_iff.1 h2).1 (hs g rfl)];exact h2
end Go.Mun
