/- A part of the proof of EvmLogs: ZLib. -/
import Derived.WalkKit
import Derived.WalkSpells
import Derived.WalkLawsBesides
import Derived.Lib.Hide
import Derived.Laws.AppendOwnNone
set_option linter.unusedVariables false
set_option linter.unusedSimpArgs false
theorem Go.hid {p:Prop} (h:p):Go.RowKit.Hid p:=h
namespace Go.Mun
open Go.RowKit

theorem ret_int {k:IntKind} {a b:Int} (h:a=b):Ending.returned (.int k a) = .returned (.int k b):=by rw [h]
theorem A5h {a b:Bool} (h:a=b):Ending.returned (.bool a) = .returned (.bool b):=by rw [h]
theorem B66 {W w1:World} (hb:Below W.heap.size W w1):(∀ b o,b < W.heap.size→w1.cell? ⟨b,o,none⟩=W.cell? ⟨b,o,none⟩)∧(∀ b o,b < W.heap.size→w1.frozen? ⟨b,o,none⟩=W.frozen? ⟨b,o,none⟩):=
 ⟨fun b o h=>hb.cell (p:=⟨b,o,none⟩) h,fun b o h=>hb.frozen (p:=⟨b,o,none⟩) h⟩

structure P4 (P:Program) (t e:TypeId) (z:Value) (size bytes:Nat):Prop where
 slice:P.underlying t=some (.slice e)
 info:∃ i,P.info? e=some i∧i.zero=some z∧i.size=size∧i.bytes=bytes
 zsize:z.cells.size=size
 pos:0 < size

theorem P4.mk' {P:Program} {t e:TypeId} {z:Value} {size bytes:Nat} (h:P.underlying t=some (.slice e)) (hi:(P.info? e).map (fun i=>(i.zero,i.size,i.bytes))=some (some z,size,bytes))
  (hz:z.cells.size=size) (hp:0 < size):P4 P t e z size bytes:=by
 obtain ⟨i,a,b,c,d⟩:=info_parts hi
 exact ⟨h,⟨i,a,b,c,d⟩,hz,hp⟩

theorem M3 {P:Program} {ops:Array Oper} {rest:List Oper} {o:Oper} {a:Act} {Q:Exit→Act→World→Prop} {w:World}
  {t e:TypeId} {z:Value} {size bytes:Nat} (E:P4 P t e z size bytes) (hgd:o.guard=none) (s x:Operand)
  (ho:o.op = .call { callee:=.builtin .append,args:=#[s,x],argTypes:=#[t,t] })
  {base:Nat} {v:Value} {n:Nat} {xs:List Value} (hown:w.ownsRow base e size v n xs) (hs:a.eval s=v) {c:Nat} {cs:List Value} {fz:Nat × Nat}
  (m:Nat) (hx:a.eval x = .slice (some ⟨w.heap.size,0,none⟩) m c) (hl:cs.length=m*size) (h1:∀ u∈cs,u.oneCell'=true)
  (h63:n+m≤maxLen) (hbytes:(n+m)*bytes≤140737488355328) (hbase:base≤w.heap.size)
  (h:∀ v' w',w'.ownsRow base e size v' (n+m) (xs++cs)→w.grownBy w' v.ownBlock→(v' = .slice none 0 0↔v = .slice none 0 0∧m=0)→wpList P ops Q rest (a.put o.dst v') w') :
  wpList P ops Q (o :: rest) a (w.alloc (.cells cs.toArray e fz)):=by
 obtain ⟨i,hi,hz,hsz,hb⟩:=E.info
 refine wpList_append_own _ hgd s x t ho base e i z size bytes E.slice hi hz hsz hb E.zsize E.pos v n xs hs (hown.alloc _) ⟨w.heap.size,0,none⟩ m c cs hx hl ?_ h1 h63 hbytes (by simp;omega) ?_
 ·intro j u hj
  have hadd:(⟨w.heap.size,0,none⟩:Addr).add j=⟨w.heap.size,j,none⟩:=by unfold Addr.add;split <;> simp_all
  rw [hadd,cell_of_row _ w.heap.size j cs.toArray e fz (heap_alloc_new w _)]
  simpa using hj
 ·intro v' w' ho' hg' hn
  refine h v' w' ho' ⟨hg'.os,hg'.tape,hg'.output,?_,?_⟩ hn
  ·have:=hg'.size;simp at this;omega
  ·intro k hk hne
   rw [hg'.block k (by simp;omega) hne]
   exact Below.heap_alloc _ _ _ hk

structure G9 (w:World) (k:IntKind) (a:Option Addr) (c:Nat) (l:List Int):Prop where
 cell:l≠[]→∃ b off,a=some ⟨b,off,none⟩∧∀ i,i < l.length→w.cell? ⟨b,off+i,none⟩=some (.int k (l[i]?.getD 0))
 nil:a=none→c=0
 len:l.length≤c
 cap:c≤maxLen

theorem G9.at {w:World} {k:IntKind} {a:Option Addr} {c:Nat} {l:List Int} (h:G9 w k a c l) {i:Nat} (hi:i < l.length) :
  ∃ b off,a=some ⟨b,off,none⟩∧b < w.heap.size∧∀ i,i < l.length→w.cell? ⟨b,off+i,none⟩=some (.int k (l[i]?.getD 0)):=by
 obtain ⟨b,off,ha,hc⟩:=h.cell (by rintro rfl;simp at hi)
 exact ⟨b,off,ha,World.block_lt_of_cell? w _ (hc i hi),hc⟩

theorem G9.below {w w':World} {k:IntKind} {a:Option Addr} {c:Nat} {l:List Int} (h:G9 w k a c l) (hb:Below w.heap.size w w'):G9 w' k a c l:=by
 refine ⟨fun hn=>?_,h.nil,h.len,h.cap⟩
 obtain ⟨b,off,ha,hc⟩:=h.cell hn
 refine ⟨b,off,ha,fun i hi=>?_⟩
 rw [← hc i hi]
 exact hb.cell (p:=⟨b,off+i,none⟩) (World.block_lt_of_cell? w _ (hc i hi))

theorem G9.of_own {w:World} {base e:Nat} {k:IntKind} {v:Value} {n:Nat} {l:List Int} (h:w.ownsRow base e 1 v n (l.map (Value.int k))) :
  ∃ a c,v = .slice a l.length c∧n=l.length∧G9 w k a c l:=by
 have hn:n=l.length:=by have:=h.1;simpa using this.symm
 subst hn
 have hc:=fun g=>h.cells (g:=g)
 rcases h.2 with ⟨rfl,h0⟩ | ⟨g,cap,cur,rfl,hbg,hg,hnc,hcm,hcs,htake⟩
 ·have:l = []:=List.eq_nil_of_length_eq_zero h0
  subst this
  exact ⟨none,0,rfl,rfl,⟨fun h=>absurd rfl h,fun _=>rfl,by simp,by simp⟩⟩
 ·refine ⟨_,cap,rfl,rfl,⟨fun _=>⟨g,0,rfl,fun i hi=>?_⟩,fun h=>by simp at h,hnc,hcm⟩⟩
  have:=hc g rfl i (.int k (l[i]?.getD 0)) (by simp [hi])
  have hadd:(⟨g,0,none⟩:Addr).add i=⟨g,i,none⟩:=by unfold Addr.add;split <;> simp_all
  rw [hadd] at this
  simpa using this

theorem G9.of_own' {w:World} {base e:Nat} {k:IntKind} {v:Value} {n:Nat} {l:List Int} (h:w.ownsRow base e 1 v n (l.map (Value.int k))) :
  ∃ a c,v = .slice a n c∧n=l.length∧G9 w k a c l:=by
 obtain ⟨a,c,h1,h2,h3⟩:=G9.of_own h
 exact ⟨a,c,by rw [h2];exact h1,h2,h3⟩

theorem G9.new (w:World) (k:IntKind) (l:List Int) (e:TypeId) (h:l.length≤maxLen):G9 (w.alloc (.cells (l.map (Value.int k)).toArray e)) k (some ⟨w.heap.size,0,none⟩) l.length l:=by
 refine ⟨fun _=>⟨w.heap.size,0,rfl,fun i hi=>?_⟩,fun h=>by simp at h,Nat.le_refl _,h⟩
 rw [cell_of_row _ w.heap.size (0+i) _ e (0,0) (heap_alloc_new w _)]
 simp [hi]

theorem U9 {b off i:Nat} {x:Addr} (h:x=⟨b,off,none⟩):x.add i=⟨b,off+i,none⟩:=by
 subst h;unfold Addr.add;split <;> simp_all

theorem A27 {P:Program} {ops:Array Oper} {rest:List Oper} {o:Oper} {a:Act} {Q:Exit→Act→World→Prop} {w:World}
  {t e:TypeId} {z:Value} {bytes:Nat} (E:P4 P t e z 1 bytes) (hgd:o.guard=none) (s x:Operand)
  (ho:o.op = .call { callee:=.builtin .append,args:=#[s,x],argTypes:=#[t,t] })
  {base:Nat} {v:Value} {n:Nat} {xs:List Value} (hown:w.ownsRow base e 1 v n xs) (hs:a.eval s=v) {k:IntKind} {ad:Option Addr} {c:Nat} {l:List Int}
  (hx:a.eval x = .slice ad l.length c) (hI:G9 w k ad c l)
  (h63:n+l.length≤maxLen) (hbytes:(n+l.length)*bytes≤140737488355328) (hbase:base≤w.heap.size)
  (h:∀ v' w',w'.ownsRow base e 1 v' (n+l.length) (xs++l.map (Value.int k))→w.grownBy w' v.ownBlock→wpList P ops Q rest (a.put o.dst v') w') :
  wpList P ops Q (o :: rest) a w:=by
 obtain ⟨i,hi,hz,hsz,hb⟩:=E.info
 cases ad with
 | none =>
  have hc:=hI.nil rfl
  have hl:=hI.len
  subst hc
  have:l = []:=List.eq_nil_of_length_eq_zero (by omega)
  subst this
  exact wpList_append_own_none hgd s x t ho base e i 1 E.slice hi v n xs hs hown hx (h v w (by simpa using hown) ⟨rfl,rfl,rfl,Nat.le_refl _,fun _ _ _=>rfl⟩)
 | some ad =>
  refine wpList_append_own _ hgd s x t ho base e i z 1 bytes E.slice hi hz hsz hb E.zsize E.pos v n xs hs hown ad l.length c (l.map (Value.int k)) hx (by simp) ?_ ?_ h63 hbytes hbase fun v' w' h1 h2 _=>h v' w' h1 h2
  ·intro j u hj
   have hj':j < l.length:=by
    rcases Nat.lt_or_ge j l.length with h | h
    ·exact h
    ·rw [List.getElem?_eq_none (by simpa using h)] at hj;cases hj
   obtain ⟨b,off,ha,_,hcl⟩:=hI.at hj'
   have ha':ad=⟨b,off,none⟩:=by simpa using ha
   rw [U9 ha',hcl j hj']
   simp [hj'] at hj
   simp [hj',hj]
  ·intro u hu
   obtain ⟨y,_,rfl⟩:=List.mem_map.1 hu
   rfl

theorem B6S {x:Int} (h:(Lit.int .u8 x).wf=true):0≤x∧x≤255:=by
 simp [Lit.wf,IntKind.min,IntKind.max,IntKind.signed,IntKind.bits] at h
 exact ⟨by omega,by omega⟩
end Go.Mun
