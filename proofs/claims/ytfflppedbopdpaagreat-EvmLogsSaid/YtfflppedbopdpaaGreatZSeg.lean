/- A part of the proof of EvmLogs: ZSeg. -/
import Derived.Test.YtfflppedbopdpaaGreatZRow
import Derived.Test.YtfflppedbopdpaaGreatZFrm
set_option linter.unusedVariables false
set_option linter.unusedSimpArgs false
namespace Go.Mun
open Go.RowKit

def B8 (l:List (List Value)):List Value:=l.flatten
def A0T (l:List (List Value)) (i:Nat):Nat:=(B8 (l.take i)).length
def A1C:Nat→List (List Value)→List (Nat × Nat)
 | _,[] => []
 | o,s :: r=>(o,s.length) :: A1C (o+s.length) r
def N8 (l:List (List Value)):List (Nat × Nat):=A1C 0 l

theorem A9q (s:List Value) (l:List (List Value)):B8 (s :: l)=s++B8 l:=rfl
theorem B0F (l m:List (List Value)):B8 (l++m)=B8 l++B8 m:=by simp [B8]
theorem N9:(B8 []).length=0:=rfl
theorem G7 (s:List Value) (l:List (List Value)):(B8 (s :: l)).length=s.length+(B8 l).length:=by rw [A9q,List.length_append]
theorem A4 (l:List (List Value)):A0T l 0=0:=rfl
theorem A8 (s:List Value) (l:List (List Value)) (i:Nat):A0T (s :: l) (i+1)=s.length+A0T l i:=by
 unfold A0T;rw [List.take_succ_cons,G7]
theorem X9 {l:List (List Value)} {i:Nat} {s:List Value} (h:l[i]? = some s):B8 l=B8 (l.take i)++(s++B8 (l.drop (i+1))):=by
 obtain ⟨hi,rfl⟩:=List.getElem?_eq_some_iff.1 h
 conv=>lhs;rw [← List.take_append_drop i l,B0F,List.drop_eq_getElem_cons hi,A9q]
theorem B6E {l:List (List Value)} {i:Nat} {s:List Value} (h:l[i]? = some s) (v:List Value):B8 (l.set i v)=B8 (l.take i)++(v++B8 (l.drop (i+1))):=by
 obtain ⟨hi,_⟩:=List.getElem?_eq_some_iff.1 h
 have h2:(l.set i v)[i]? = some v:=by simp [hi]
 rw [X9 h2,List.take_set_of_le (Nat.le_refl i),List.drop_set_of_lt (Nat.lt_succ_self i)]
theorem A5k:∀ (l:List (List Value)) (o i:Nat) (s:List Value),l[i]? = some s→(A1C o l)[i]? = some (o+A0T l i,s.length)
 | [],_,_,_,h=>by simp at h
 | s :: l,o,0,t,h=>by
  simp only [List.getElem?_cons_zero,Option.some.injEq] at h
  subst h
  simp [A1C,A4]
 | s :: l,o,i+1,t,h=>by
  rw [A1C,List.getElem?_cons_succ,A5k l (o+s.length) i t (by simpa using h),A8,Nat.add_assoc]
theorem B38 {l:List (List Value)} {i:Nat} {s:List Value} (h:l[i]? = some s):(N8 l)[i]? = some (A0T l i,s.length):=by
 unfold N8;rw [A5k l 0 i s h,Nat.zero_add]
theorem A5j:∀ (l:List (List Value)) (o i:Nat) (s v:List Value),l[i]? = some s→v.length=s.length→A1C o (l.set i v)=A1C o l
 | [],_,_,_,_,h,_=>by simp at h
 | s :: l,o,0,t,v,h,hv=>by
  simp only [List.getElem?_cons_zero,Option.some.injEq] at h
  subst h
  simp [A1C,hv]
 | s :: l,o,i+1,t,v,h,hv=>by
  rw [List.set_cons_succ,A1C,A1C,A5j l _ i t v (by simpa using h) hv]
theorem A5n {l:List (List Value)} {i:Nat} {s:List Value} (h:l[i]? = some s):A0T l i+s.length≤(B8 l).length:=by
 rw [X9 h];simp [A0T]
theorem A7U {l:List (List Value)} {i:Nat} {s v:List Value} (h:l[i]? = some s) (hv:v.length=s.length):lay (B8 l) (A0T l i) v=B8 (l.set i v):=by
 have hle:=A5n h
 rw [A18 _ _ _ (by omega),B6E h]
 apply List.ext_getElem?
 intro j
 rw [I9 _ _ _ (by omega)]
 unfold A0T at *
 by_cases h1:j < (B8 (l.take i)).length
 ·rw [if_pos h1,X9 h,List.getElem?_append_left h1,List.getElem?_append_left h1]
 ·rw [if_neg h1]
  by_cases h2:j < (B8 (l.take i)).length+v.length
  ·rw [if_pos h2,List.getElem?_append_right (by omega),List.getElem?_append_left (by omega)]
  ·rw [if_neg h2,X9 h,List.getElem?_append_right (by omega),List.getElem?_append_right (by omega),List.getElem?_append_right (by omega),List.getElem?_append_right (by omega)]
   congr 1;omega
theorem B2W {l:List (List Value)} {N i:Nat} {v:Value} {rest:List (Nat × Value)} {s:List Value} (hN:(B8 l).length=N) (hs:l[i]? = some s) (hv:v.cells.toList.length=s.length) :
  F8 N (N8 l) (B8 l) ((i,v) :: rest)=F8 N (N8 (l.set i v.cells.toList)) (B8 (l.set i v.cells.toList)) rest:=by
 have hp:N8 (l.set i v.cells.toList)=N8 l:=A5j l 0 i s _ hs hv
 have hle:=A5n hs
 rw [hp,F8,B38 hs]
 simp only
 rw [if_pos ⟨by simpa using hv,by omega⟩,A7U hs hv]

section
variable {w:World} {b o N i:Nat} {l:List (List Value)} {s:List Value}
theorem I5 (h:w.row? b o N=some (B8 l)) (hs:l[i]? = some s) {p n:Nat} (hp:p=o+A0T l i) (hn:n=s.length):w.row? b p n=some s:=by
 have hle:=A5n hs
 have hl:=World.row?_len h
 subst hp hn
 rw [World.row?_sub h (by omega) (by omega),Nat.add_sub_cancel_left]
 congr 1
 rw [X9 hs]
 unfold A0T
 rw [List.drop_left,List.take_left]
theorem C8 {v:Value} (h:w.row? b o N=some (B8 l)) (hs:l[i]? = some [v]) {p:Nat} (hp:p=o+A0T l i):w.cell? ⟨b,p,none⟩=some v:=by
 have:=World.row?_cell (I5 h hs hp rfl) (i:=0) (by simp)
 simpa using this
theorem A1x (h:w.row? b o N=some (B8 l)) (hs:l[i]? = some s) {v:List Value} (hv:v.length=s.length) {p:Nat} (hp:p=o+A0T l i):(w.setCells b p v).row? b o N=some (B8 (l.set i v)):=by
 have hle:=A5n hs
 have hl:=World.row?_len h
 subst hp
 rw [World.row?_setCells_lay _ _ (by omega) (by omega),h,Option.map_some,Nat.add_sub_cancel_left,A7U hs hv]
theorem E8 {u:Value} (h:w.row? b o N=some (B8 l)) (hs:l[i]? = some [u]) (v:Value) {p:Nat} (hp:p=o+A0T l i):(w.setCell ⟨b,p,none⟩ v).row? b o N=some (B8 (l.set i [v])):=
 A1x (v:=[v]) h hs rfl hp
end
theorem A0Y:∀ {l:List (List Value)} {N:Nat},(B8 l).length=N→(∀ s∈l,Q3 s.length s=true)→Q3 N (B8 l)=true:=by
 intro l N hN h
 refine A0j hN fun v hv=>?_
 obtain ⟨s,hs,hv⟩:=List.mem_flatten.1 hv
 exact M9 (h s hs) v hv
end Go.Mun
namespace Go.Mun
open Go.RowKit

def A1n (l:List (List Value)):List Nat:=l.map List.length
theorem B6f {l:List (List Value)} {i k:Nat} (h:(A1n l)[i]? = some k):∃ s,l[i]? = some s∧s.length=k:=by
 unfold A1n at h
 rw [List.getElem?_map] at h
 cases e:l[i]? with
 | none=>rw [e] at h;cases h
 | some s=>rw [e] at h;exact ⟨s,rfl,by simpa using h⟩
theorem A84 {l:List (List Value)} {i:Nat} {s v:List Value} (h:l[i]? = some s) (hv:v.length=s.length):A1n (l.set i v)=A1n l:=by
 unfold A1n
 apply List.ext_getElem?
 intro j
 rw [List.getElem?_map,List.getElem?_map,List.getElem?_set]
 by_cases hj:i=j
 ·subst hj
  obtain ⟨hi,e⟩:=List.getElem?_eq_some_iff.1 h
  rw [if_pos rfl,if_pos hi,h];simp [hv]
 ·rw [if_neg hj]
theorem B1G (l:List (List Value)):(B8 l).length=(A1n l).sum:=by unfold B8 A1n;rw [List.length_flatten]
def A9R (l:List (List Value)):List (Nat × Value)→List (List Value)
 | []=>l
 | (i,v) :: r=>A9R (l.set i v.cells.toList) r
def B6v (k:List Nat) (parts:List (Nat × Value)):Prop:=∀ p∈parts,k[p.1]? = some p.2.cells.toList.length
theorem F7:∀ (parts:List (Nat × Value)) (l:List (List Value)) (N:Nat),(B8 l).length=N→B6v (A1n l) parts→F8 N (N8 l) (B8 l) parts=some (B8 (A9R l parts))
 | [],l,N,_,_=>rfl
 | (i,v) :: r,l,N,hN,hf=>by
  obtain ⟨s,hs,hl⟩:=B6f (hf (i,v) (by simp))
  rw [B2W hN hs hl.symm,A9R]
  refine F7 r _ N ?_ ?_
  ·rw [B1G,A84 hs hl.symm,← B1G];exact hN
  ·rw [A84 hs hl.symm];exact fun p hp=>hf p (by simp [hp])
theorem L0 (k:List Nat):B6v k []:=fun p hp=>by cases hp
theorem C0 {k:List Nat} {i:Nat} {v:Value} {r:List (Nat × Value)} (h:k[i]? = some v.cells.toList.length) (hr:B6v k r):B6v k ((i,v) :: r):=fun p hp=>by
 rcases List.mem_cons.1 hp with rfl | hp
 ·exact h
 ·exact hr p hp
end Go.Mun
