/- A part of the proof of EvmLogs: ZRow. -/
import Derived.Test.YtfflppedbopdpaaGreatZLib
import Derived.Deep.MidRow
import Derived.Laws.CopyOwn
set_option linter.unusedVariables false
set_option linter.unusedSimpArgs false
namespace Go
open Go.RowKit

def World.row? (w:World) (b o n:Nat):Option (List Value):=
 match w.heap[b]? with
 | some (.cells c _ _)=>if o+n≤c.size then some ((c.toList.drop o).take n) else none
 | _=>none

def World.free? (w:World) (b o n:Nat):Bool:=
 match w.heap[b]? with
 | some (.cells c _ fz)=>decide (o+n≤c.size) && decide (fz.2≤fz.1)
 | _=>false

theorem I9 {α:Type} (L:List α) (off:Nat) (cs:List α) (h:off+cs.length≤L.length) (i:Nat) :
  (splice L off cs)[i]? = if i < off then L[i]? else if i < off+cs.length then cs[i - off]? else L[i]?:=by
 unfold splice
 by_cases h1:i < off
 ·rw [if_pos h1,List.getElem?_append_left (by simp;omega),List.getElem?_take,if_pos h1]
 ·rw [if_neg h1,List.getElem?_append_right (by simp;omega)]
  have e:(List.take off L).length=off:=by simp;omega
  rw [e]
  by_cases h2:i < off+cs.length
  ·rw [if_pos h2,List.getElem?_append_left (by omega)]
  ·rw [if_neg h2,List.getElem?_append_right (by omega),List.getElem?_drop]
   congr 1;omega

def lay (L:List Value) (off:Nat) (cs:List Value):List Value:=L.mapIdx fun i x=>if off≤i∧i < off+cs.length then (cs[i - off]?).getD x else x
theorem B1j (L:List Value) (off:Nat) (cs:List Value):(lay L off cs).length=L.length:=by simp [lay]
theorem A18 (L:List Value) (off:Nat) (cs:List Value) (h:off+cs.length≤L.length):lay L off cs=splice L off cs:=by
 apply List.ext_getElem?
 intro i
 rw [I9 L off cs h]
 simp only [lay,List.getElem?_mapIdx]
 by_cases hi:i < L.length
 ·rw [List.getElem?_eq_getElem hi]
  by_cases h1:i < off
  ·rw [if_pos h1];simp;intro h2;omega
  ·rw [if_neg h1]
   by_cases h2:i < off+cs.length
   ·rw [if_pos h2,List.getElem?_eq_getElem (by omega:i - off < cs.length)]
    simp;intro h3;have:=h3 (by omega);omega
   ·rw [if_neg h2];simp;intro h3 h4;omega
 ·rw [List.getElem?_eq_none (by omega:L.length≤i),if_neg (by omega),if_neg (by omega)];rfl
theorem A19 (L cs:List Value) (h:cs.length=L.length):lay L 0 cs=cs:=by
 rw [A18 L 0 cs (by omega)];simp [splice,h]

section
variable {w:World} {b o n:Nat}

theorem World.row?_inv {L:List Value} (h:w.row? b o n=some L) :
  ∃ c e f,w.heap[b]? = some (.cells c e f)∧o+n≤c.size∧L=(c.toList.drop o).take n:=by
 unfold World.row? at h
 split at h
 ·rename_i c e f hb
  split at h
  ·rename_i hs
   exact ⟨c,e,f,hb,hs,by simpa using h.symm⟩
  ·simp at h
 ·simp at h

theorem World.row?_len {L:List Value} (h:w.row? b o n=some L):L.length=n:=by
 obtain ⟨c,e,f,hb,hs,rfl⟩:=World.row?_inv h
 simp;omega

theorem World.row?_lt {L:List Value} (h:w.row? b o n=some L):b < w.heap.size:=by
 obtain ⟨c,e,f,hb,hs,rfl⟩:=World.row?_inv h
 exact (Array.getElem?_eq_some_iff.1 hb).1

theorem World.row?_rangeAt {L:List Value} (h:w.row? b o n=some L):w.rangeAt b o L:=by
 obtain ⟨c,e,f,hb,hs,rfl⟩:=World.row?_inv h
 intro j v hv
 rw [cell_of_row w b (o+j) c e f hb]
 rw [List.getElem?_take] at hv
 split at hv
 ·simpa using hv
 ·simp at hv

theorem World.row?_cell {L:List Value} (h:w.row? b o n=some L) {i:Nat} (hi:i < n):w.cell? ⟨b,o+i,none⟩=L[i]?:=by
 have hl:=World.row?_len h
 have:L[i]? = some L[i]:=List.getElem?_eq_getElem (by omega)
 rw [this]
 exact World.row?_rangeAt h i _ this

theorem World.row?_sub {L:List Value} (h:w.row? b o n=some L) {o' n':Nat} (ho:o≤o') (hn:o'+n'≤o+n):w.row? b o' n'=some ((L.drop (o' - o)).take n'):=by
 obtain ⟨c,e,f,hb,hs,rfl⟩:=World.row?_inv h
 unfold World.row?
 rw [hb]
 simp only
 rw [if_pos (by omega),List.drop_take,List.take_take,List.drop_drop]
 congr 2
 ·omega
 ·congr 1;omega

theorem World.free?_there (h:w.free? b o n=true):w.there b o n:=by
 unfold World.free? at h
 split at h
 ·rename_i c e fz hb
  simp at h
  intro j hj
  refine ⟨by rw [cell_of_row w b (o+j) c e fz hb];simp;omega,?_⟩
  unfold World.frozen?
  simp only [hb]
  simp;omega
 ·simp at h

theorem World.free?_sub (h:w.free? b o n=true) {o' n':Nat} (hn:o'+n'≤o+n):w.free? b o' n'=true:=by
 unfold World.free? at h ⊢
 split at h
 ·rename_i c e fz hb
  simp at h
  simp [h];omega
 ·simp at h

@[simp] theorem World.row?_drew:w.drew.row? b o n=w.row? b o n:=rfl
@[simp] theorem World.row?_drewN (k:Nat):(w.drewN k).row? b o n=w.row? b o n:=rfl
@[simp] theorem World.free?_drew:w.drew.free? b o n=w.free? b o n:=rfl
@[simp] theorem World.free?_drewN (k:Nat):(w.drewN k).free? b o n=w.free? b o n:=rfl

theorem World.row?_of_block {w':World} (h:w'.heap[b]? = w.heap[b]?):w'.row? b o n=w.row? b o n:=by unfold World.row?;rw [h]
theorem World.free?_of_block {w':World} (h:w'.heap[b]? = w.heap[b]?):w'.free? b o n=w.free? b o n:=by unfold World.free?;rw [h]

theorem World.row?_alloc_lt (ob:Obj) (h:b < w.heap.size):(w.alloc ob).row? b o n=w.row? b o n:=World.row?_of_block (by exact Below.heap_alloc w ob b h)
theorem World.free?_alloc_lt (ob:Obj) (h:b < w.heap.size):(w.alloc ob).free? b o n=w.free? b o n:=World.free?_of_block (by exact Below.heap_alloc w ob b h)

theorem World.row?_alloc_at (L:List Value) (t:TypeId) (f:Nat × Nat) (h:b=w.heap.size) (hn:L.length=n):(w.alloc (.cells L.toArray t f)).row? b 0 n=some L:=by
 subst h;subst hn
 unfold World.row?
 rw [heap_alloc_new]
 simp
theorem World.row?_alloc_sub (L:List Value) (t:TypeId) (f:Nat × Nat) (h:b=w.heap.size) (hn:o+n≤L.length):(w.alloc (.cells L.toArray t f)).row? b o n=some ((L.drop o).take n):=by
 subst h
 unfold World.row?
 rw [heap_alloc_new]
 simp [hn]
theorem World.free?_alloc_at (L:List Value) (t:TypeId) (h:b=w.heap.size) (hn:o+n≤L.length):(w.alloc (.cells L.toArray t)).free? b o n=true:=by
 subst h
 unfold World.free?
 rw [heap_alloc_new]
 simp [hn]

theorem J0 (k:Nat) (h:k≠b):∀ (vs:List Value) (o:Nat) (w:World),(w.setCells b o vs).heap[k]? = w.heap[k]?
 | [],o,w=>rfl
 | v :: vs,o,w=>by
  rw [World.setCells,J0 k h vs,heap_setCell_other _ _ _ _ h]

theorem A0X (c:Array Value) (e:TypeId) (f:Nat × Nat) (v:Value) (hb:w.heap[b]? = some (.cells c e f)):(w.setCell ⟨b,o,none⟩ v).heap[b]? = some (.cells (c.setIfInBounds o v) e f):=by
 simp [World.setCell,Array.getElem?_modify,hb]

theorem P8 (e:TypeId) (f:Nat × Nat):∀ (vs:List Value) (o:Nat) (c:List Value) (w:World),w.heap[b]? = some (.cells c.toArray e f)→o+vs.length≤c.length →
  (w.setCells b o vs).heap[b]? = some (.cells (splice c o vs).toArray e f)
 | [],o,c,w,h,_=>by simp [World.setCells,splice,h]
 | v :: vs,o,c,w,h,hl=>by
  simp at hl
  rw [World.setCells]
  have h1:=A0X (o:=o) _ _ _ v h
  have h2:(c.toArray.setIfInBounds o v)=(c.set o v).toArray:=by simp
  rw [h2] at h1
  rw [P8 e f vs (o+1) (c.set o v) _ h1 (by simp;omega)]
  congr 2
  congr 1
  unfold splice
  rw [List.take_set,List.drop_set_of_lt (by omega),List.take_add_one]
  have:o < c.length:=by omega
  simp only [List.getElem?_eq_getElem this,Option.toList_some,List.length_cons]
  rw [List.set_append_right _ _ (by simp;omega)]
  have h0:o - (List.take o c).length=0:=by simp;omega
  rw [h0]
  simp [show o+1+vs.length=o+(vs.length+1) by omega]

@[simp] theorem World.size_setCells (b:Nat):∀ (vs:List Value) (o:Nat) (w:World),(w.setCells b o vs).heap.size=w.heap.size
 | [],o,w=>rfl
 | v :: vs,o,w=>by rw [World.setCells,World.size_setCells b vs];simp

theorem World.free?_inv (h:w.free? b o n=true):∃ c e f,w.heap[b]? = some (.cells c e f)∧o+n≤c.size∧f.2≤f.1:=by
 unfold World.free? at h
 split at h
 ·rename_i c e f hb
  simp at h
  exact ⟨c,e,f,hb,h.1,h.2⟩
 ·simp at h

theorem World.free?_setCells (b' o':Nat) (vs:List Value) (hl:w.free? b' o' vs.length=true):(w.setCells b' o' vs).free? b o n=w.free? b o n:=by
 by_cases hb:b=b'
 ·subst hb
  obtain ⟨c,e,f,hb,h1,h2⟩:=World.free?_inv hl
  have:=P8 (b:=b) e f vs o' c.toList w (by simpa using hb) (by simpa using h1)
  unfold World.free?
  rw [this,hb]
  simp [length_splice c.toList o' vs (by simpa using h1)]
 ·exact World.free?_of_block (J0 b hb vs o' w)

theorem World.row?_setCells_other (b' o':Nat) (vs:List Value) (h:b≠b'):(w.setCells b' o' vs).row? b o n=w.row? b o n:=World.row?_of_block (J0 b h vs o' w)

theorem World.row?_setCells_in {L:List Value} (o':Nat) (vs:List Value) (hr:w.row? b o n=some L) (h1:o≤o') (h2:o'+vs.length≤o+n) :
  (w.setCells b o' vs).row? b o n=some (splice L (o' - o) vs):=by
 obtain ⟨c,e,f,hb,hs,rfl⟩:=World.row?_inv hr
 have:=P8 (b:=b) e f vs o' c.toList w (by simpa using hb) (by simp;omega)
 unfold World.row?
 rw [this]
 simp only [List.size_toArray]
 rw [if_pos (by rw [length_splice _ _ _ (by simp;omega)];simpa using hs)]
 congr 1
 apply List.ext_getElem?
 intro i
 rw [I9 _ _ _ (by simp;omega)]
 simp only [List.getElem?_take,List.getElem?_drop]
 rw [I9 _ _ _ (by simp;omega)]
 by_cases hi:i < n
 ·rw [if_pos hi]
  by_cases hio:o+i < o'
  ·rw [if_pos hio,if_pos (by omega),if_pos hi]
  ·rw [if_neg hio,if_neg (show ¬ i < o' - o by omega)]
   by_cases hiv:o+i < o'+vs.length
   ·rw [if_pos hiv,if_pos (by omega)];congr 1;omega
   ·rw [if_neg hiv,if_neg (by omega),if_pos hi]
 ·rw [if_neg hi,if_neg (show ¬ i < o' - o by omega),if_neg (show ¬ i < o' - o+vs.length by omega),if_neg hi]

theorem A0U (e:TypeId) (f:Nat × Nat):∀ (vs:List Value) (o:Nat) (c:Array Value) (w:World),w.heap[b]? = some (.cells c e f) →
  ∃ c',(w.setCells b o vs).heap[b]? = some (.cells c' e f)∧c'.size=c.size
 | [],o,c,w,h=>⟨c,h,rfl⟩
 | v :: vs,o,c,w,h=>by
  rw [World.setCells]
  obtain ⟨c',h1,h2⟩:=A0U e f vs (o+1) _ _ (A0X (o:=o) _ _ _ v h)
  exact ⟨c',h1,by simpa using h2⟩

theorem Z4 (r:Option Obj) (hr:∀ c e f,r≠some (.cells c e f)):∀ (vs:List Value) (o:Nat) (w:World),w.heap[b]? = r→(w.setCells b o vs).heap[b]? = r
 | [],o,w,h=>h
 | v :: vs,o,w,h=>by
  rw [World.setCells]
  refine Z4 r hr vs (o+1) _ ?_
  subst h
  simp only [World.setCell,Array.getElem?_modify,if_true]
  cases hx:w.heap[b]? with
  | none=>rfl
  | some x =>
   cases x with
   | cells c e f=>exact absurd hx (hr c e f)
   | _=>rfl

theorem World.shape_setCells (b' o':Nat) (vs:List Value) :
  (∃ c c' e f,w.heap[b]? = some (.cells c e f)∧(w.setCells b' o' vs).heap[b]? = some (.cells c' e f)∧c'.size=c.size) ∨
  ((∀ c e f,w.heap[b]?≠some (.cells c e f))∧(w.setCells b' o' vs).heap[b]? = w.heap[b]?):=by
 by_cases hb:b=b'
 ·subst hb
  cases hx:w.heap[b]? with
  | none=>exact .inr ⟨by simp,Z4 none (by simp) vs o' w hx⟩
  | some x =>
   cases x with
   | cells c e f =>
    obtain ⟨c',h1,h2⟩:=A0U e f vs o' c w hx
    exact .inl ⟨c,c',e,f,rfl,h1,h2⟩
   | _=>exact .inr ⟨by simp,Z4 _ (by simp) vs o' w hx⟩
 ·cases hx:w.heap[b]? with
  | none=>exact .inr ⟨by simp,by rw [J0 b hb vs o' w,hx]⟩
  | some x =>
   cases x with
   | cells c e f=>exact .inl ⟨c,c,e,f,rfl,by rw [J0 b hb vs o' w,hx],rfl⟩
   | _=>exact .inr ⟨by simp,by rw [J0 b hb vs o' w,hx]⟩

theorem World.free?_setCells' (b' o':Nat) (vs:List Value):(w.setCells b' o' vs).free? b o n=w.free? b o n:=by
 rcases World.shape_setCells (w:=w) (b:=b) b' o' vs with ⟨c,c',e,f,h1,h2,h3⟩ | ⟨_,h2⟩
 ·unfold World.free?;rw [h1,h2];simp [h3]
 ·exact World.free?_of_block h2

theorem World.row?_setCells_map (o':Nat) (vs:List Value) (h1:o≤o') (h2:o'+vs.length≤o+n) :
  (w.setCells b o' vs).row? b o n=(w.row? b o n).map fun L=>splice L (o' - o) vs:=by
 cases hr:w.row? b o n with
 | some L=>exact World.row?_setCells_in o' vs hr h1 h2
 | none =>
  rcases World.shape_setCells (w:=w) (b:=b) b o' vs with ⟨c,c',e,f,h3,h4,h5⟩ | ⟨_,h4⟩
  ·unfold World.row? at hr ⊢
   rw [h3] at hr
   rw [h4]
   simp only [h5]
   simp only at hr
   split at hr
   ·simp at hr
   ·rename_i hx;rw [if_neg hx];rfl
  ·rw [World.row?_of_block h4,hr];rfl

theorem World.row?_setCells_lay (o':Nat) (vs:List Value) (h1:o≤o') (h2:o'+vs.length≤o+n) :
  (w.setCells b o' vs).row? b o n=(w.row? b o n).map fun L=>lay L (o' - o) vs:=by
 rw [World.row?_setCells_map o' vs h1 h2]
 cases hr:w.row? b o n with
 | none=>rfl
 | some L =>
  have:=World.row?_len hr
  simp only [Option.map_some]
  rw [A18 _ _ _ (by omega)]

theorem World.row?_setCells_apart (o':Nat) (vs:List Value) (h:o+n≤o'∨o'+vs.length≤o):(w.setCells b o' vs).row? b o n=w.row? b o n:=by
 induction vs generalizing o' w with
 | nil=>rfl
 | cons v vs ih =>
  simp at h
  rw [World.setCells,ih _ (by omega)]
  unfold World.row?
  cases hx:w.heap[b]? with
  | none=>simp [World.setCell,Array.getElem?_modify,hx]
  | some x =>
   cases x with
   | cells c e f =>
    rw [A0X (o:=o') c e f v hx]
    simp only [Array.size_setIfInBounds]
    split
    ·congr 1
     apply List.ext_getElem?
     intro i
     simp only [List.getElem?_take,List.getElem?_drop]
     split
     ·rw [Array.toList_setIfInBounds,List.getElem?_set,if_neg (by omega)]
     ·rfl
    ·rfl
   | _=>simp [World.setCell,Array.getElem?_modify,hx]

theorem World.cell?_setCells_block (b' o':Nat) (a:Addr) (vs:List Value) (h:a.block≠b'):(w.setCells b' o' vs).cell? a=w.cell? a:=
 World.cell?_of_block (J0 a.block h vs o' w)
end

end Go
namespace Go.Mun
open Go.RowKit

structure V3 (P:Program) (ty:TypeId) (n:Nat):Prop where
 desc:∃ d,P.underlying ty=some d∧d.isRow=true
 size:(P.info? ty).map (·.size)=some n

def B1c (n:Nat) (cs:Array Value):Bool:=cs.size == n && cs.all (·.oneCell')
def Q3 (n:Nat) (cs:List Value):Bool:=cs.length == n && cs.all (·.oneCell')
@[go_sem] theorem A6h (n:Nat) (L:List Value):B1c n L.toArray=Q3 n L:=by simp [B1c,Q3]
theorem K6 {n:Nat} {L:List Value} (h:Q3 n L=true):L.length=n:=by simp [Q3] at h;exact h.1
theorem M9 {n:Nat} {L:List Value} (h:Q3 n L=true):∀ v∈L,v.oneCell'=true:=by simp [Q3] at h;exact h.2
theorem A0j {n:Nat} {L:List Value} (h:L.length=n) (h1:∀ v∈L,v.oneCell'=true):Q3 n L=true:=by simp [Q3,h];exact h1
theorem A3x (k:IntKind) (l:List Int):Q3 l.length (l.map (Value.int k))=true:=
 A0j (by simp) (fun v hv=>by obtain ⟨x,_,rfl⟩:=List.mem_map.1 hv;rfl)

section
variable (P:Program) (ty n b o:Nat) (x y:Value) (w:World)
def A6C:Result Value:=(Instr.loadAt ty x).run P w
def A7T (r:Option (List Value)):Result Value:=match r with | some cs => .ok (.agg cs.toArray) w | none=>A6C P ty (.pointer (some ⟨b,o,none⟩)) w
def A1g:Result Value:=match x with | .pointer (some ⟨b,o,none⟩)=>A7T P ty b o w (w.row? b o n) | x=>A6C P ty x w
@[go_sem] theorem B8M:A1g P ty n (.pointer (some ⟨b,o,none⟩)) w=A7T P ty b o w (w.row? b o n):=rfl
@[go_sem] theorem B61 (L:List Value):A7T P ty b o w (some L) = .ok (.agg L.toArray) w:=rfl

def A0u:Result Unit:=(Instr.storeAt ty x y).run P w
def Y4:Result Unit:=match x,y with
 | .pointer (some ⟨b,o,none⟩),.agg cs=>if (w.free? b o n && B1c n cs)=true then .ok () (w.setCells b o cs.toList) else A0u P ty (.pointer (some ⟨b,o,none⟩)) (.agg cs) w
 | x,y=>A0u P ty x y w
@[go_sem] theorem B8J (L:List Value):Y4 P ty n (.pointer (some ⟨b,o,none⟩)) (.agg L.toArray) w =
 if (w.free? b o n && Q3 n L)=true then .ok () (w.setCells b o L) else A0u P ty (.pointer (some ⟨b,o,none⟩)) (.agg L.toArray) w:=by
 simp [Y4,A6h]
end

theorem B6k {P:Program} {ty n:Nat} (h:V3 P ty n) (x:Value) (w:World):(Instr.loadAt ty x).run P w=A1g P ty n x w:=by
 unfold A1g
 split
 ·rename_i b o
  unfold A7T
  split
  ·rename_i cs hr
   obtain ⟨d,hu,hd⟩:=h.desc
   exact run_loadAt_mid w b o ty cs d (World.row?_rangeAt hr) hu hd (by rw [World.row?_len hr];exact h.size)
  ·rfl
 ·rfl

theorem B5t {P:Program} {ty n:Nat} (h:V3 P ty n) (x y:Value) (w:World):(Instr.storeAt ty x y).run P w=Y4 P ty n x y w:=by
 unfold Y4
 split
 ·rename_i b o cs
  split
  ·rename_i hc
   simp only [Bool.and_eq_true] at hc
   obtain ⟨h1,h2⟩:=hc
   simp only [B1c,Bool.and_eq_true,beq_iff_eq] at h2
   exact run_storeAt_mid w b o ty cs (by rw [h2.1];exact World.free?_there h1) (by rw [h2.1];exact h.size) h2.2
  ·rfl
 ·rfl

section
variable {P:Program} {ty n:Nat} (ρ:Operand→Value) (dst:Option Tmp) (x y:Operand) (t:TypeId) (pos:String) (after:Array Edge) (gd:Option (Nat × Bool)) (w:World)
def E7:Result Value→Result Next
 | .ok v w => .ok (.value v) w
 | .halt h w => .halt h w
def J9:Result Unit→Result Next
 | .ok _ w => .ok .skip w
 | .halt h w => .halt h w
@[go_sem] theorem B8S (v:Value) (w:World):E7 (.ok v w) = .ok (.value v) w:=rfl
@[go_sem] theorem B8R (u:Unit) (w:World):J9 (.ok u w) = .ok .skip w:=rfl
theorem A0m (h:V3 P ty n):(execOp ρ ⟨dst,.load ty x,t,pos,after,gd⟩).run P w=E7 (A1g P ty n (ρ x) w):=by
 rw [← B6k h]
 unfold execOp
 simp only [Sem.run_bind]
 cases (Instr.loadAt ty (ρ x)).run P w <;> rfl
theorem O9 (h:V3 P ty n):(execOp ρ ⟨dst,.store ty x y,t,pos,after,gd⟩).run P w=J9 (Y4 P ty n (ρ x) (ρ y) w):=by
 rw [← B5t h]
 unfold execOp
 simp only [Sem.run_bind]
 cases (Instr.storeAt ty (ρ x) (ρ y)).run P w <;> rfl
def F8 (n:Nat) (pl:List (Nat × Nat)):List Value→List (Nat × Value)→Option (List Value)
 | cs,[]=>some cs
 | cs,(i,v) :: rest=>match pl[i]? with
  | none=>none
  | some (off,size)=>if v.cells.size=size∧off+size≤n then F8 n pl (lay cs off v.cells.toList) rest else none
@[go_sem] theorem B8O (n:Nat) (pl:List (Nat × Nat)) (cs:List Value):F8 n pl cs []=some cs:=rfl
@[go_sem] theorem B8b (n:Nat) (pl:List (Nat × Nat)) (cs:List Value) (i:Nat) (v:Value) (rest:List (Nat × Value)) :
  F8 n pl cs ((i,v) :: rest)=match pl[i]? with
  | none=>none
  | some (off,size)=>if v.cells.size=size∧off+size≤n then F8 n pl (lay cs off v.cells.toList) rest else none:=rfl

theorem A2b (off:Nat):∀ (vs:List Value) (k:Nat) (cs:Array Value),off+k+vs.length≤cs.size →
  (vs.zipIdx k).foldl (fun cs (c,j)=>cs.setIfInBounds (off+j) c) cs=(splice cs.toList (off+k) vs).toArray
 | [],k,cs,_=>by simp [splice]
 | v :: vs,k,cs,h=>by
  simp at h
  rw [List.zipIdx_cons,List.foldl_cons]
  rw [A2b off vs (k+1) _ (by simp;omega)]
  congr 1
  apply List.ext_getElem?
  intro i
  rw [I9 _ _ _ (by simp;omega),I9 _ _ _ (by simp;omega)]
  simp only [Array.toList_setIfInBounds,List.getElem?_set,List.length_cons]
  by_cases h1:i < off+k
  ·rw [if_pos (by omega),if_pos h1,if_neg (by omega)]
  ·by_cases h2:i=off+k
   ·subst h2
    rw [if_pos (by omega),if_pos rfl,if_pos (by simp;omega),if_neg (by omega),if_pos (by omega)];simp
   ·rw [if_neg (by omega),if_neg h1]
    by_cases h3:i < off+k+(vs.length+1)
    ·rw [if_pos (by omega),if_pos h3,show i - (off+k)=(i - (off+(k+1)))+1 by omega];rfl
    ·rw [if_neg (by omega),if_neg h3,if_neg (by omega)]

theorem B1u (n:Nat) (pl:List (Nat × Nat)):∀ (parts:List (Nat × Value)) (cs:Array Value) (r:List Value),cs.size=n→F8 n pl cs.toList parts=some r →
  Instr.fill (fun i=>pl.toArray[i]?) cs parts=some r.toArray
 | [],cs,r,_,h=>by simp [F8] at h;subst h;simp [Instr.fill]
 | (i,v) :: rest,cs,r,hn,h=>by
  rw [F8] at h
  simp only [Instr.fill]
  cases hp:pl[i]? with
  | none=>simp [hp] at h
  | some os =>
   obtain ⟨off,size⟩:=os
   simp only [hp] at h
   split at h
   ·rename_i hc
    obtain ⟨h1,h2⟩:=hc
    rw [A18 _ _ _ (by simp;omega)] at h
    have e:=A2b off v.cells.toList 0 cs (by simp;omega)
    simp only [Nat.add_zero] at e
    simp only [List.getElem?_toArray,hp]
    rw [if_neg (by simp;omega)]
    have e2:v.cells.zipIdx.foldl (fun cs (x:Value × Nat)=>cs.setIfInBounds (off+x.2) x.1) cs=(splice cs.toList off v.cells.toList).toArray:=by
     rw [← e,← Array.foldl_toList];simp
    rw [e2]
    have:=B1u n pl rest (splice cs.toList off v.cells.toList).toArray r (by rw [List.size_toArray,length_splice cs.toList off v.cells.toList (by simp;omega)];simpa using hn) (by simpa using h)
    simpa only [List.getElem?_toArray] using this
   ·simp at h

structure P1 (P:Program) (ty n:Nat) (z:List Value) (pl:List (Nat × Nat)):Prop where
 desc:∃ it fields,P.info? ty=some it∧P.underlying ty=some (.struct fields)∧it.zero=some (.agg z.toArray)∧fields.toList.mapM (fun f=>(P.info? f.type).map fun i=>(f.offset,i.size))=some pl
 len:z.length=n

def Z1 (P:Program) (ty:TypeId) (parts:List (Nat × Value)) (w:World):Result Value:=(Instr.build ty parts.toArray).run P w
def V8 (P:Program) (ty:TypeId) (parts:List (Nat × Value)) (w:World) (r:Option (List Value)):Result Value:=match r with | some cs => .ok (.agg cs.toArray) w | none=>Z1 P ty parts w
@[go_sem] theorem B8t (P:Program) (ty:TypeId) (parts:List (Nat × Value)) (w:World) (L:List Value):V8 P ty parts w (some L) = .ok (.agg L.toArray) w:=rfl

theorem P9 {z:List Value} {pl:List (Nat × Nat)} (h:P1 P ty n z pl) (parts:List (Nat × Operand)) :
  (execOp ρ ⟨dst,.build ty parts.toArray,t,pos,after,gd⟩).run P w=E7 (V8 P ty (parts.map fun p=>(p.1,ρ p.2)) w (F8 n pl z (parts.map fun p=>(p.1,ρ p.2)))):=by
 have e:(execOp ρ ⟨dst,.build ty parts.toArray,t,pos,after,gd⟩).run P w=E7 ((Instr.build ty (parts.map fun p=>(p.1,ρ p.2)).toArray).run P w):=by
  unfold execOp
  simp only [Sem.run_bind,List.map_toArray]
  cases (Instr.build ty (parts.map fun p=>(p.1,ρ p.2)).toArray).run P w <;> rfl
 rw [e]
 cases hf:F8 n pl z (parts.map fun p=>(p.1,ρ p.2)) with
 | none=>rfl
 | some r =>
  obtain ⟨it,fields,h1,h2,h3,h4⟩:=h.desc
  have:=run_build (P:=P) w ty (parts.map fun p=>(p.1,ρ p.2)).toArray r.toArray (by
   unfold Program.built
   simp only [h1,h2,h3,h4]
   have:=B1u n pl (parts.map fun p=>(p.1,ρ p.2)) z.toArray r (by simpa using h.len) (by simpa using hf)
   simpa [Value.cells] using this)
  rw [this]
  rfl
structure A1l (P:Program) (t e n len:Nat) (z:List Value):Prop where
 desc:P.underlying t=some (.slice e)
 info:∃ ie ze,P.info? e=some ie∧ie.size=n∧ie.zero=some ze∧(Array.range (len*n)).map (ze.cells[· % ze.cells.size]!)=z.toArray
 pos:0 < len*n
 zlen:z.length=len*n
 le:len*n≤2 ^ 24

def A8o (P:Program) (t len:Nat) (parts:List (Nat × Value)) (w:World):Result Value:=(Instr.buildSlice t len parts.toArray).run P w
def A4w (P:Program) (t e len:Nat) (parts:List (Nat × Value)) (w:World) (r:Option (List Value)):Result Value:=
 match r with | some cs => .ok (.slice (some ⟨w.heap.size,0,none⟩) len len) (w.alloc (.cells cs.toArray e)) | none=>A8o P t len parts w
@[go_sem] theorem B8n (P:Program) (t e len:Nat) (parts:List (Nat × Value)) (w:World) (L:List Value) :
  A4w P t e len parts w (some L) = .ok (.slice (some ⟨w.heap.size,0,none⟩) len len) (w.alloc (.cells L.toArray e)):=rfl

theorem A9e (n m len:Nat):∀ (parts:List (Nat × Value)) (cs:Array Value) (r:List Value),cs.size=len*n→F8 (len*n) ((List.range len).map fun i=>(i*n,n)) cs.toList parts=some r →
  Instr.fill (fun i=>some (i*n,n)) cs parts=some r.toArray
 | [],cs,r,_,h=>by simp [F8] at h;subst h;simp [Instr.fill]
 | (i,v) :: rest,cs,r,hn,h=>by
  rw [F8] at h
  simp only [Instr.fill]
  cases hp:((List.range len).map fun i=>(i*n,n))[i]? with
  | none=>simp only [hp] at h;simp at h
  | some os =>
   have hos:os=(i*n,n):=by
    simp only [List.getElem?_map,Option.map_eq_some_iff] at hp
    obtain ⟨j,hj,rfl⟩:=hp
    obtain ⟨hl,he⟩:=List.getElem?_eq_some_iff.1 hj
    simp at he
    rw [he]
   subst hos
   simp only [hp] at h
   split at h
   ·rename_i hc
    obtain ⟨h1,h2⟩:=hc
    rw [A18 _ _ _ (by simp;omega)] at h
    have e:=A2b (i*n) v.cells.toList 0 cs (by simp;omega)
    simp only [Nat.add_zero] at e
    rw [if_neg (by simp;omega)]
    have e2:v.cells.zipIdx.foldl (fun cs (x:Value × Nat)=>cs.setIfInBounds (i*n+x.2) x.1) cs=(splice cs.toList (i*n) v.cells.toList).toArray:=by
     rw [← e,← Array.foldl_toList];simp
    rw [e2]
    exact A9e n m len rest (splice cs.toList (i*n) v.cells.toList).toArray r (by rw [List.size_toArray,length_splice cs.toList (i*n) v.cells.toList (by simp;omega)];simpa using hn) (by simpa using h)
   ·simp at h

theorem A05 {e len:Nat} {z:List Value} (h:A1l P ty e n len z) (parts:List (Nat × Operand)) :
  (execOp ρ ⟨dst,.buildSlice ty len parts.toArray,t,pos,after,gd⟩).run P w =
   E7 (A4w P ty e len (parts.map fun p=>(p.1,ρ p.2)) w (F8 (len*n) ((List.range len).map fun i=>(i*n,n)) z (parts.map fun p=>(p.1,ρ p.2)))):=by
 have e0:(execOp ρ ⟨dst,.buildSlice ty len parts.toArray,t,pos,after,gd⟩).run P w=E7 ((Instr.buildSlice ty len (parts.map fun p=>(p.1,ρ p.2)).toArray).run P w):=by
  unfold execOp
  simp only [Sem.run_bind,List.map_toArray]
  cases (Instr.buildSlice ty len (parts.map fun p=>(p.1,ρ p.2)).toArray).run P w <;> rfl
 rw [e0]
 cases hf:F8 (len*n) ((List.range len).map fun i=>(i*n,n)) z (parts.map fun p=>(p.1,ρ p.2)) with
 | none=>rfl
 | some r =>
  obtain ⟨ie,ze,h1,h2,h3,h4⟩:=h.info
  have hp:=h.pos
  have hl:=h.le
  have hfill:=A9e n 0 len (parts.map fun p=>(p.1,ρ p.2)) z.toArray r (by simpa using h.zlen) (by simpa using hf)
  subst h2
  have:(Instr.buildSlice ty len (parts.map fun p=>(p.1,ρ p.2)).toArray).run P w = .ok (.slice (some ⟨w.heap.size,0,none⟩) len len) (w.alloc (.cells r.toArray e)):=by
   have hs:(sizeOf e).run P w = .ok ie.size w:=by simp [sizeOf,typeInfo,h1]
   have hz:(zeroValue e).run P w = .ok ze w:=by simp [zeroValue,typeInfo,h1,h3]
   simp only [Instr.buildSlice,Sem.run_bind,run_underlying h.desc,Result.andThen_ok,hs]
   have n1:¬ len*ie.size > 2 ^ 24:=by omega
   have n2:¬ len*ie.size=0:=by omega
   simp only [n1,n2,if_false,Sem.run_bind,Sem.run_pure,Result.andThen_ok,hz,h4,hfill]
   rfl
  rw [this]
  rfl
def A0G (P:Program) (ty:TypeId) (x y:Value) (w:World):Result Unit:=match x with
 | .pointer (some ⟨b,o,none⟩)=>if (w.free? b o 1 && y.oneCell')=true then .ok () (w.setCell ⟨b,o,none⟩ y) else A0u P ty (.pointer (some ⟨b,o,none⟩)) y w
 | x=>A0u P ty x y w
@[go_sem] theorem B8K (P:Program) (ty:TypeId) (b o:Nat) (y:Value) (w:World):A0G P ty (.pointer (some ⟨b,o,none⟩)) y w =
  if (w.free? b o 1 && y.oneCell')=true then .ok () (w.setCell ⟨b,o,none⟩ y) else A0u P ty (.pointer (some ⟨b,o,none⟩)) y w:=rfl
theorem A4C {P:Program} {ty:TypeId} (h:(P.info? ty).map (·.size)=some 1) (b o:Nat) (y:Value) (w:World) (hf:w.free? b o 1=true) (hy:y.oneCell'=true) :
  (Instr.storeAt ty (.pointer (some ⟨b,o,none⟩)) y).run P w = .ok () (w.setCell ⟨b,o,none⟩ y):=by
 have ht:=World.free?_there hf 0 (by omega)
 have hc:y.cells = #[y]:=by cases y <;> first | rfl | simp [Value.oneCell'] at hy
 have := run_storeCells_cells (P := P) b o [y] 0 w (fun j hj => by obtain rfl : j = 0 := by simpa using hj
                                                                   simpa using ht.1) (fun j hj => by obtain rfl : j = 0 := by simpa using hj
                                                                                                     simpa using ht.2) (fun v hv=>by rw [List.mem_singleton.1 hv];exact hy)
 cases hq:P.info? ty with
 | none=>simp [hq] at h
 | some i =>
  have hs:i.size=1:=by simpa [hq] using h
  simp only [Nat.add_zero] at this
  simp [Instr.storeAt,Instr.sureAddr,storeVar,sizeOf,typeInfo,hq,hc,hs,this,World.setCells]
theorem O3 (h:(P.info? ty).map (·.size)=some 1):(execOp ρ ⟨dst,.store ty x y,t,pos,after,gd⟩).run P w=J9 (A0G P ty (ρ x) (ρ y) w):=by
 have e:(execOp ρ ⟨dst,.store ty x y,t,pos,after,gd⟩).run P w=J9 ((Instr.storeAt ty (ρ x) (ρ y)).run P w):=by
  unfold execOp
  simp only [Sem.run_bind]
  cases (Instr.storeAt ty (ρ x) (ρ y)).run P w <;> rfl
 rw [e]
 unfold A0G
 split
 ·rename_i b o hx
  split
  ·rename_i hc
   simp only [Bool.and_eq_true] at hc
   rw [hx,A4C h b o _ w hc.1 hc.2]
  ·rw [hx];rfl
 ·rfl
theorem P0 {z:List Value} (h:∀ w,(Instr.alloc ty true (.tuple #[])).run P w = .ok (.pointer (some ⟨w.heap.size,0,none⟩)) (w.alloc (.cells z.toArray ty))) :
  (execOp ρ ⟨dst,.alloc ty,t,pos,after,gd⟩).run P w = .ok (.value (.pointer (some ⟨w.heap.size,0,none⟩))) (w.alloc (.cells z.toArray ty)):=by
 unfold execOp
 simp only [Sem.run_bind,h]
 rfl
end

theorem A4j {P:Program} {ty n:Nat} (hT:V3 P ty n) {fn:Func} {p:Tmp} (h:fn.results = #[.cell p ty]) (tmps:Array Value) (w:World) (b o:Nat) (L:List Value)
  (hp:tmps.getD p undef = .pointer (some ⟨b,o,none⟩)) (hr:w.row? b o n=some L):(results fn tmps).run P w = .ok (.agg L.toArray) w:=by
 obtain ⟨d,hu,hd⟩:=hT.desc
 have hp':tmps[p]?.getD undef = .pointer (some ⟨b,o,none⟩):=by simpa using hp
 simp [results,h,hp',asAddr,run_loadVar_mid w b o ty L d (World.row?_rangeAt hr) hu hd (by rw [World.row?_len hr];exact hT.size)]

theorem _root_.Go.RowKit.Below.setCells {B b:Nat} {a w:World} (h:Below B a w) (hb:B≤b) (o:Nat) (vs:List Value):Below B a (w.setCells b o vs):=by
 refine h.trans ⟨?_,?_,?_,by simp,fun k hk=>J0 k (by omega) vs o w⟩
 all_goals
  clear h
  induction vs generalizing o w with
  | nil=>rfl
  | cons v vs ih=>exact ih (o+1)

attribute [go_sem] World.row?_drew World.row?_drewN World.free?_drew World.free?_drewN World.row?_alloc_lt World.free?_alloc_lt World.row?_alloc_at World.free?_alloc_at World.size_setCells

theorem X7 {P:Program} {ops:Array Oper} {rest:List Oper} {o:Oper} {a:Act} {Q:Exit→Act→World→Prop} {w:World}
  {t e:TypeId} {z:Value} {size bytes:Nat} (E:P4 P t e z size bytes) (hgd:o.guard=none) (s x:Operand)
  (ho:o.op = .call { callee:=.builtin .append,args:=#[s,x],argTypes:=#[t,t] }) {v:Value} (hs:a.eval s=v) {p m c:Nat} (hx:a.eval x = .slice (some ⟨p,0,none⟩) m c)
  {base:Nat} {n:Nat} {xs:List Value} (hown:w.ownsRow base e size v n xs) {cs:List Value} {fz:Nat × Nat} (hp:p=w.heap.size)
  (hok:Q3 (m*size) cs=true) (h63:n+m≤maxLen) (hbytes:(n+m)*bytes≤140737488355328) (hbase:base≤w.heap.size)
  (h:∀ v' w',w'.ownsRow base e size v' (n+m) (xs++cs)→w.grownBy w' v.ownBlock→(v' = .slice none 0 0↔v = .slice none 0 0∧m=0)→wpList P ops Q rest (a.put o.dst v') w') :
  wpList P ops Q (o :: rest) a (w.alloc (.cells cs.toArray e fz)):=by
 subst hp
 exact M3 E hgd s x ho hown hs m hx (K6 hok) (M9 hok) h63 hbytes hbase h

theorem C3 {w w':World} {base e size:Nat} {v:Value} {n:Nat} {xs:List Value} (h:w.ownsRow base e size v n xs) (hb:Below w.heap.size w w'):w'.ownsRow base e size v n xs:=
 h.kept (row:=none) ⟨hb.os,hb.tape,hb.output,hb.size,fun k hk _=>hb.block k hk⟩ (by cases hv:v.ownBlock <;> simp)

theorem C7 {W w1:World} (hb:Below W.heap.size W w1):(∀ b o n,b < W.heap.size→w1.row? b o n=W.row? b o n)∧(∀ b o n,b < W.heap.size→w1.free? b o n=W.free? b o n):=
 ⟨fun b _ _ h=>World.row?_of_block (hb.block b h),fun b _ _ h=>World.free?_of_block (hb.block b h)⟩

def be (k n:Nat):List Int:=(List.range k).map fun i=>((n / 256 ^ (k - 1 - i) % 256:Nat):Int)
def A3 (k n:Nat):List Value:=(be k n).map (Value.int .u8)
@[go_sem,simp] theorem A35 (k n:Nat):(be k n).length=k:=by simp [be]
@[go_sem,simp] theorem C4 (k n:Nat):(A3 k n).length=k:=by simp [A3]
@[go_sem,simp] theorem D2 (k n:Nat):Q3 k (A3 k n)=true:=by
 have:=A3x .u8 (be k n)
 simpa [A3] using this
def J4 (n:Nat):List Value:=List.replicate n (.int .u8 0)
@[go_sem,simp] theorem zU8_len (n:Nat):(J4 n).length=n:=by simp [J4]
theorem B67 (n:Nat):J4 n=A3 n 0:=by
 simp only [J4,A3,be,List.map_map]
 apply List.ext_getElem (by simp)
 intro i h1 h2
 simp
@[go_sem] theorem B93 (k:IntKind) (x:Int):(Value.int k x).oneCell'=true:=by simp [Value.oneCell']
@[go_sem] theorem B9n (x:Bool):(Value.bool x).oneCell'=true:=by simp [Value.oneCell']
@[go_sem] theorem B7S (x:ByteArray):(Value.string x).oneCell'=true:=by simp [Value.oneCell']
@[go_sem] theorem B8L (x:Option Addr) (l c:Nat):(Value.slice x l c).oneCell'=true:=by simp [Value.oneCell']
@[go_sem] theorem B6X (x:Option Addr):(Value.pointer x).oneCell'=true:=by simp [Value.oneCell']
@[go_sem] theorem B92 (x:Option Nat):(Value.map x).oneCell'=true:=by simp [Value.oneCell']
@[go_sem] theorem C0a (n:Nat):Q3 n (J4 n)=true:=by rw [B67];exact D2 n 0
@[go_sem] theorem B94 (n i:Nat) (L:List Value) (v:Value) (h:Q3 n L=true) (hv:v.oneCell'=true):Q3 n (L.set i v)=true:=
 A0j (by simpa using K6 h) (fun u hu=>by rcases List.mem_or_eq_of_mem_set hu with h' | rfl;exact M9 h u h';exact hv)

theorem G6 {w:World} {b o n o':Nat} {L:List Value} (v:Value) (hr:w.row? b o n=some L) (h1:o≤o') (h2:o' < o+n) :
  (w.setCell ⟨b,o',none⟩ v).row? b o n=some (splice L (o' - o) [v]):=World.row?_setCells_in o' [v] hr h1 (by simp;omega)
theorem Z3 {w:World} {b o n b' o':Nat} (v:Value) (h:b≠b'):(w.setCell ⟨b',o',none⟩ v).row? b o n=w.row? b o n:=World.row?_setCells_other b' o' [v] h
theorem D1 {w:World} {b o n b' o':Nat} (v:Value) (h:w.free? b' o' 1=true):(w.setCell ⟨b',o',none⟩ v).free? b o n=w.free? b o n:=World.free?_setCells b' o' [v] h

@[go_sem] theorem B96 (n off:Nat) (L cs:List Value) (h:Q3 n L=true) (h1:Q3 cs.length cs=true):Q3 n (lay L off cs)=true:=by
 refine A0j (by rw [B1j];exact K6 h) fun v hv=>?_
 unfold lay at hv
 obtain ⟨i,hi,rfl⟩:=List.mem_mapIdx.1 hv
 split
 ·cases hc:cs[i - off]? with
  | none=>exact M9 h _ (List.getElem_mem _)
  | some u=>exact M9 h1 u (List.mem_of_getElem? hc)
 ·exact M9 h _ (List.getElem_mem _)
@[go_sem] theorem B95 (v:Value) (h:v.oneCell'=true):Q3 1 [v]=true:=A0j rfl (fun u hu=>by rw [List.mem_singleton.1 hu];exact h)

attribute [go_sem] World.free?_setCells' World.row?_setCells_lay World.row?_setCells_apart B1j A19 World.row?_setCells_other World.cell?_setCells_block
@[go_sem] theorem D0 (w:World) (b o n b' o':Nat) (v:Value):(w.setCell ⟨b',o',none⟩ v).free? b o n=w.free? b o n:=World.free?_setCells' b' o' [v]
@[go_sem] theorem B2d (w:World) (b o n o':Nat) (v:Value) (h1:o≤o') (h2:o'+1≤o+n):(w.setCell ⟨b,o',none⟩ v).row? b o n=(w.row? b o n).map fun L=>lay L (o' - o) [v]:=
 World.row?_setCells_lay o' [v] h1 h2
@[go_sem] theorem A9Y (w:World) (b o n o':Nat) (v:Value) (h:o+n≤o'∨o'+1≤o):(w.setCell ⟨b,o',none⟩ v).row? b o n=w.row? b o n:=World.row?_setCells_apart o' [v] h
@[go_sem] theorem A9G (w:World) (b o n b' o':Nat) (v:Value) (h:b≠b'):(w.setCell ⟨b',o',none⟩ v).row? b o n=w.row? b o n:=World.row?_setCells_other b' o' [v] h

theorem B7 {w:World} {b n:Nat} (L:List Value) (h:w.free? b 0 n=true) (hn:Q3 n L=true):(w.setCells b 0 L).row? b 0 n=some L:=by
 obtain ⟨c,e,f,hb,h1,h2⟩:=World.free?_inv h
 have hl:=K6 hn
 have:=P8 (b:=b) e f L 0 c.toList w (by simpa using hb) (by simp;omega)
 unfold World.row?
 rw [this]
 simp only [List.size_toArray,splice,List.take_zero,List.nil_append,List.drop_zero]
 rw [if_pos (by simp;omega)]
 rw [← hl,List.take_left']
 rfl

theorem I2 {P:Program} {fn:Func} {R:Ending→World→Prop} {a:Act} {w:World} {p ty n b:Nat} (hT:V3 P ty n) (hres:fn.results = #[.cell p ty]) (L:List Value)
  (hp:a.tmps.getD p undef = .pointer (some ⟨b,0,none⟩)) (hd:a.defers = []) (hf:w.free? b 0 n=true) (hn:Q3 n L=true) (hR:R (.returned (.agg L.toArray)) (w.setCells b 0 L)) :
  bodyPost P fn R .ret a (w.setCells b 0 L):=
 ⟨hd,_,A4j hT hres a.tmps _ b 0 L hp (B7 L hf hn),hR⟩

end Go.Mun
