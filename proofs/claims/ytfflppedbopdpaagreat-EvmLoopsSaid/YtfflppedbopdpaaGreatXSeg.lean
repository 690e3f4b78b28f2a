/- A part of the proof of EvmLoops: XSeg. -/
import Derived.Test.YtfflppedbopdpaaGreatXRow
import Derived.Test.YtfflppedbopdpaaGreatXFrm
set_option linter.unusedVariables false
set_option linter.unusedSimpArgs false
namespace Go.Mun
open Go.RowKit

def B7 (l:List (List Value)):List Value:=l.flatten
def A04 (l:List (List Value)) (i:Nat):Nat:=(B7 (l.take i)).length
def A1J:Nat→List (List Value)→List (Nat × Nat)
 | _,[] => []
 | o,s :: r=>(o,s.length) :: A1J (o+s.length) r
def O7 (l:List (List Value)):List (Nat × Nat):=A1J 0 l

theorem A9D (s:List Value) (l:List (List Value)):B7 (s :: l)=s++B7 l:=rfl
theorem B0Z (l m:List (List Value)):B7 (l++m)=B7 l++B7 m:=by simp [B7]
theorem N8:(B7 []).length=0:=rfl
theorem I0 (s:List Value) (l:List (List Value)):(B7 (s :: l)).length=s.length+(B7 l).length:=by rw [A9D,List.length_append]
theorem A5 (l:List (List Value)):A04 l 0=0:=rfl
theorem A7 (s:List Value) (l:List (List Value)) (i:Nat):A04 (s :: l) (i+1)=s.length+A04 l i:=by
 unfold A04;rw [List.take_succ_cons,I0]
theorem Y9 {l:List (List Value)} {i:Nat} {s:List Value} (h:l[i]? = some s):B7 l=B7 (l.take i)++(s++B7 (l.drop (i+1))):=by
 obtain ⟨hi,rfl⟩:=List.getElem?_eq_some_iff.1 h
 conv=>lhs;rw [← List.take_append_drop i l,B0Z,List.drop_eq_getElem_cons hi,A9D]
theorem B6G {l:List (List Value)} {i:Nat} {s:List Value} (h:l[i]? = some s) (v:List Value):B7 (l.set i v)=B7 (l.take i)++(v++B7 (l.drop (i+1))):=by
 obtain ⟨hi,_⟩:=List.getElem?_eq_some_iff.1 h
 have h2:(l.set i v)[i]? = some v:=by simp [hi]
 rw [Y9 h2,List.take_set_of_le (Nat.le_refl i),List.drop_set_of_lt (Nat.lt_succ_self i)]
theorem A5x:∀ (l:List (List Value)) (o i:Nat) (s:List Value),l[i]? = some s→(A1J o l)[i]? = some (o+A04 l i,s.length)
 | [],_,_,_,h=>by simp at h
 | s :: l,o,0,t,h=>by
  simp only [List.getElem?_cons_zero,Option.some.injEq] at h
  subst h
  simp [A1J,A5]
 | s :: l,o,i+1,t,h=>by
  rw [A1J,List.getElem?_cons_succ,A5x l (o+s.length) i t (by simpa using h),A7,Nat.add_assoc]
theorem B39 {l:List (List Value)} {i:Nat} {s:List Value} (h:l[i]? = some s):(O7 l)[i]? = some (A04 l i,s.length):=by
 unfold O7;rw [A5x l 0 i s h,Nat.zero_add]
theorem A5w:∀ (l:List (List Value)) (o i:Nat) (s v:List Value),l[i]? = some s→v.length=s.length→A1J o (l.set i v)=A1J o l
 | [],_,_,_,_,h,_=>by simp at h
 | s :: l,o,0,t,v,h,hv=>by
  simp only [List.getElem?_cons_zero,Option.some.injEq] at h
  subst h
  simp [A1J,hv]
 | s :: l,o,i+1,t,v,h,hv=>by
  rw [List.set_cons_succ,A1J,A1J,A5w l _ i t v (by simpa using h) hv]
theorem A5B {l:List (List Value)} {i:Nat} {s:List Value} (h:l[i]? = some s):A04 l i+s.length≤(B7 l).length:=by
 rw [Y9 h];simp [A04]
theorem A7P {l:List (List Value)} {i:Nat} {s v:List Value} (h:l[i]? = some s) (hv:v.length=s.length):lay (B7 l) (A04 l i) v=B7 (l.set i v):=by
 have hle:=A5B h
 rw [A2f _ _ _ (by omega),B6G h]
 apply List.ext_getElem?
 intro j
 rw [L5 _ _ _ (by omega)]
 unfold A04 at *
 by_cases h1:j < (B7 (l.take i)).length
 ·rw [if_pos h1,Y9 h,List.getElem?_append_left h1,List.getElem?_append_left h1]
 ·rw [if_neg h1]
  by_cases h2:j < (B7 (l.take i)).length+v.length
  ·rw [if_pos h2,List.getElem?_append_right (by omega),List.getElem?_append_left (by omega)]
  ·rw [if_neg h2,Y9 h,List.getElem?_append_right (by omega),List.getElem?_append_right (by omega),List.getElem?_append_right (by omega),List.getElem?_append_right (by omega)]
   congr 1;omega
theorem B3b {l:List (List Value)} {N i:Nat} {v:Value} {rest:List (Nat × Value)} {s:List Value} (hN:(B7 l).length=N) (hs:l[i]? = some s) (hv:v.cells.toList.length=s.length) :
  I1 N (O7 l) (B7 l) ((i,v) :: rest)=I1 N (O7 (l.set i v.cells.toList)) (B7 (l.set i v.cells.toList)) rest:=by
 have hp:O7 (l.set i v.cells.toList)=O7 l:=A5w l 0 i s _ hs hv
 have hle:=A5B hs
 rw [hp,I1,B39 hs]
 simp only
 rw [if_pos ⟨by simpa using hv,by omega⟩,A7P hs hv]

section
variable {w:World} {b o N i:Nat} {l:List (List Value)} {s:List Value}
theorem J5 (h:w.row? b o N=some (B7 l)) (hs:l[i]? = some s) {p n:Nat} (hp:p=o+A04 l i) (hn:n=s.length):w.row? b p n=some s:=by
 have hle:=A5B hs
 have hl:=World.row?_len h
 subst hp hn
 rw [World.row?_sub h (by omega) (by omega),Nat.add_sub_cancel_left]
 congr 1
 rw [Y9 hs]
 unfold A04
 rw [List.drop_left,List.take_left]
theorem D1 {v:Value} (h:w.row? b o N=some (B7 l)) (hs:l[i]? = some [v]) {p:Nat} (hp:p=o+A04 l i):w.cell? ⟨b,p,none⟩=some v:=by
 have:=World.row?_cell (J5 h hs hp rfl) (i:=0) (by simp)
 simpa using this
theorem A1C (h:w.row? b o N=some (B7 l)) (hs:l[i]? = some s) {v:List Value} (hv:v.length=s.length) {p:Nat} (hp:p=o+A04 l i):(w.setCells b p v).row? b o N=some (B7 (l.set i v)):=by
 have hle:=A5B hs
 have hl:=World.row?_len h
 subst hp
 rw [World.row?_setCells_lay _ _ (by omega) (by omega),h,Option.map_some,Nat.add_sub_cancel_left,A7P hs hv]
theorem J9 {u:Value} (h:w.row? b o N=some (B7 l)) (hs:l[i]? = some [u]) (v:Value) {p:Nat} (hp:p=o+A04 l i):(w.setCell ⟨b,p,none⟩ v).row? b o N=some (B7 (l.set i [v])):=
 A1C (v:=[v]) h hs rfl hp
end
theorem A1a:∀ {l:List (List Value)} {N:Nat},(B7 l).length=N→(∀ s∈l,P0 s.length s=true)→P0 N (B7 l)=true:=by
 intro l N hN h
 refine A0q hN fun v hv=>?_
 obtain ⟨s,hs,hv⟩:=List.mem_flatten.1 hv
 exact M8 (h s hs) v hv
end Go.Mun
namespace Go.Mun
open Go.RowKit

def A1x (l:List (List Value)):List Nat:=l.map List.length
theorem B6f {l:List (List Value)} {i k:Nat} (h:(A1x l)[i]? = some k):∃ s,l[i]? = some s∧s.length=k:=by
 unfold A1x at h
 rw [List.getElem?_map] at h
 cases e:l[i]? with
 | none=>rw [e] at h;cases h
 | some s=>rw [e] at h;exact ⟨s,rfl,by simpa using h⟩
theorem A9b {l:List (List Value)} {i:Nat} {s v:List Value} (h:l[i]? = some s) (hv:v.length=s.length):A1x (l.set i v)=A1x l:=by
 unfold A1x
 apply List.ext_getElem?
 intro j
 rw [List.getElem?_map,List.getElem?_map,List.getElem?_set]
 by_cases hj:i=j
 ·subst hj
  obtain ⟨hi,e⟩:=List.getElem?_eq_some_iff.1 h
  rw [if_pos rfl,if_pos hi,h];simp [hv]
 ·rw [if_neg hj]
theorem B1Z (l:List (List Value)):(B7 l).length=(A1x l).sum:=by unfold B7 A1x;rw [List.length_flatten]
def A98 (l:List (List Value)):List (Nat × Value)→List (List Value)
 | []=>l
 | (i,v) :: r=>A98 (l.set i v.cells.toList) r
def B6v (k:List Nat) (parts:List (Nat × Value)):Prop:=∀ p∈parts,k[p.1]? = some p.2.cells.toList.length
theorem G7:∀ (parts:List (Nat × Value)) (l:List (List Value)) (N:Nat),(B7 l).length=N→B6v (A1x l) parts→I1 N (O7 l) (B7 l) parts=some (B7 (A98 l parts))
 | [],l,N,_,_=>rfl
 | (i,v) :: r,l,N,hN,hf=>by
  obtain ⟨s,hs,hl⟩:=B6f (hf (i,v) (by simp))
  rw [B3b hN hs hl.symm,A98]
  refine G7 r _ N ?_ ?_
  ·rw [B1Z,A9b hs hl.symm,← B1Z];exact hN
  ·rw [A9b hs hl.symm];exact fun p hp=>hf p (by simp [hp])
theorem L4 (k:List Nat):B6v k []:=fun p hp=>by cases hp
theorem C1 {k:List Nat} {i:Nat} {v:Value} {r:List (Nat × Value)} (h:k[i]? = some v.cells.toList.length) (hr:B6v k r):B6v k ((i,v) :: r):=fun p hp=>by
 rcases List.mem_cons.1 hp with rfl | hp
 ·exact h
 ·exact hr p hp
end Go.Mun
