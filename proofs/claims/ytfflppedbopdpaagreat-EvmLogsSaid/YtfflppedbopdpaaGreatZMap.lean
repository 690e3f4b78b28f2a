/- A part of the proof of EvmLogs: ZMap. -/
import Derived.Test.YtfflppedbopdpaaGreatZFrm
import Derived.Maps.OwnSet
set_option linter.unusedVariables false
set_option linter.unusedSimpArgs false
namespace Go.Mun
open Go.RowKit Go.Maps Go.ChangeMaps Go.MapKept

structure A0q (P:Program) (k:TypeId) (ke:Nat→Value) (N:Nat):Prop where
 keyed:Maps.Keyed P k
 key:∀ a,a < N→∃ l,keyOf P k (ke a)=some l
 inj:∀ a b,a < N→b < N→ke a=ke b→a=b

section
variable {β:Type} (ke:Nat→Value) (N:Nat) (ve:β→Value)
def E1 (w:World) (b:Nat) (L:List (Nat × β)):Prop:=
 ∃ es clock,w.heap[b]? = some (.map es clock)∧es.toList.map (fun e=>(e.key,e.val))=L.map (fun p=>(ke p.1,ve p.2))∧(∀ p∈L,p.1 < N)∧Stamped es clock
end

def N0 {β:Type} (a:Nat) (x:β):List (Nat × β)→List (Nat × β)
 | [] => [(a,x)]
 | (b,y) :: l=>if b=a then (a,x) :: l else (b,y) :: N0 a x l
def A1j {β:Type} (a:Nat) (L:List (Nat × β)):List (Nat × β):=L.filter fun p=>p.1≠a
def I3 {β:Type} (a:Nat):List (Nat × β)→Option β
 | []=>none
 | (b,y) :: l=>if b=a then some y else I3 a l

theorem O8 {β:Type} (a b:Nat) (x:β) (L:List (Nat × β)):I3 b (N0 a x L)=if b=a then some x else I3 b L:=by
 induction L with
 | nil =>
  simp only [N0,I3]
  by_cases h:b=a
  ·rw [if_pos h,if_pos h.symm]
  ·rw [if_neg h,if_neg (Ne.symm h)]
 | cons p l ih =>
  obtain ⟨c,y⟩:=p
  by_cases hc:c=a
  ·subst hc
   simp only [N0,if_true,I3]
   by_cases h:b=c
   ·simp [h]
   ·rw [if_neg (Ne.symm h),if_neg h,if_neg (Ne.symm h)]
  ·simp only [N0,if_neg hc,I3,ih]
   by_cases h:c=b
   ·rw [if_pos h,if_pos h,if_neg (fun e=>hc (h.trans e))]
   ·rw [if_neg h,if_neg h]
theorem A9d {β:Type} (a b:Nat) (L:List (Nat × β)):I3 b (A1j a L)=if b=a then none else I3 b L:=by
 induction L with
 | nil=>simp [A1j,I3]
 | cons p l ih =>
  obtain ⟨c,y⟩:=p
  unfold A1j at ih ⊢
  by_cases hc:c=a
  ·subst hc
   rw [List.filter_cons_of_neg (by simp),ih]
   by_cases h:b=c
   ·simp [h]
   ·rw [if_neg h,if_neg h];simp [I3,Ne.symm h]
  ·rw [List.filter_cons_of_pos (by simpa using hc)]
   simp only [I3,ih]
   by_cases h:c=b
   ·rw [if_pos h,if_pos h,if_neg (fun e=>hc (h.trans e))]
   ·rw [if_neg h,if_neg h]
theorem A64 {β:Type} {a:Nat}:∀ {L:List (Nat × β)},(∀ p∈L,p.1≠a)→I3 a L=none
 | [],_=>rfl
 | (b,y) :: l,h=>by
  simp only [I3]
  rw [if_neg (h (b,y) (by simp)),A64 (fun p hp=>h p (by simp [hp]))]
theorem A3J {β:Type} {a:Nat} {x:β}:∀ {L:List (Nat × β)} {j:Nat},(L.map Prod.fst).Nodup→L[j]? = some (a,x)→I3 a L=some x
 | [],j,_,h=>by simp at h
 | (b,y) :: l,0,_,h=>by
  obtain ⟨rfl,rfl⟩:=by simpa using h
  simp [I3]
 | (b,y) :: l,j+1,hn,h=>by
  have h':l[j]? = some (a,x):=by simpa using h
  have hn':b ∉ l.map Prod.fst∧(l.map Prod.fst).Nodup:=by simpa using hn
  have:a∈l.map Prod.fst:=List.mem_map.2 ⟨(a,x),List.mem_of_getElem? h',rfl⟩
  simp only [I3]
  rw [if_neg (fun e=>hn'.1 (by rw [e];exact this)),A3J hn'.2 h']
theorem L7 {β:Type} {a:Nat} {x:β}:∀ {L:List (Nat × β)},I3 a L=some x→(a,x)∈L
 | [],h=>by simp [I3] at h
 | (b,y) :: l,h=>by
  simp only [I3] at h
  split at h
  ·rename_i e;subst e;cases h;simp
  ·exact List.mem_cons_of_mem _ (L7 h)
theorem A1J {β:Type} {a:Nat} {x:β}:∀ {L:List (Nat × β)},(∀ p∈L,p.1≠a)→N0 a x L=L++[(a,x)]
 | [],_=>rfl
 | (b,y) :: l,h=>by
  simp only [N0]
  rw [if_neg (h (b,y) (by simp)),A1J (fun p hp=>h p (by simp [hp]))];rfl
theorem A7G {β:Type} {a:Nat} {x y:β}:∀ {L:List (Nat × β)} {j:Nat},(L.map Prod.fst).Nodup→L[j]? = some (a,y)→N0 a x L=L.set j (a,x)
 | [],j,_,h=>by simp at h
 | (b,z) :: l,0,_,h=>by
  obtain ⟨rfl,rfl⟩:=by simpa using h
  simp [N0]
 | (b,z) :: l,j+1,hn,h=>by
  have h':l[j]? = some (a,y):=by simpa using h
  have hn':b ∉ l.map Prod.fst∧(l.map Prod.fst).Nodup:=by simpa using hn
  have:a∈l.map Prod.fst:=List.mem_map.2 ⟨(a,y),List.mem_of_getElem? h',rfl⟩
  simp only [N0]
  rw [if_neg (fun e=>hn'.1 (by rw [e];exact this)),A7G hn'.2 h'];rfl
theorem A1M {β:Type} {a:Nat} {x:β} {p:Nat × β}:∀ {L:List (Nat × β)},p∈N0 a x L→p=(a,x)∨p∈L
 | [],h=>by simp [N0] at h;exact Or.inl h
 | (b,y) :: l,h=>by
  simp only [N0] at h
  split at h
  ·rcases List.mem_cons.1 h with h | h
   ·exact Or.inl h
   ·exact Or.inr (by simp [h])
  ·rcases List.mem_cons.1 h with h | h
   ·exact Or.inr (by simp [h])
   ·rcases A1M h with h | h
    ·exact Or.inl h
    ·exact Or.inr (by simp [h])

section
variable {β:Type} {ke:Nat→Value} {N:Nat} {ve:β→Value} {w:World} {b:Nat} {L:List (Nat × β)} {P:Program} {k:TypeId}

theorem E1.lt (h:E1 ke N ve w b L):b < w.heap.size:=by
 obtain ⟨es,c,hb,_⟩:=h
 exact (Array.getElem?_eq_some_iff.1 hb).1
theorem E1.of_block {w':World} (h:E1 ke N ve w b L) (hb:w'.heap[b]? = w.heap[b]?):E1 ke N ve w' b L:=by
 obtain ⟨es,c,h1,h2⟩:=h
 exact ⟨es,c,hb.trans h1,h2⟩
theorem E1.only {w':World} {S:Nat→Prop} (h:E1 ke N ve w b L) (ho:A0 S w w') (hs:¬ S b):E1 ke N ve w' b L:=h.of_block (ho.block b h.lt hs)
theorem E1.below {w':World} (h:E1 ke N ve w b L) (hb:Below w.heap.size w w'):E1 ke N ve w' b L:=h.of_block (hb.block b h.lt)
theorem E1.new (w:World) (ke:Nat→Value) (N:Nat) (ve:β→Value):E1 ke N ve (w.alloc (.map #[] 0)) w.heap.size []:=
 ⟨#[],0,by rw [heap_alloc_new],by simp,by simp,MapKept.stamped_empty 0⟩

theorem E1.nodup (h:E1 ke N ve w b L):(L.map Prod.fst).Nodup:=by
 obtain ⟨es,c,_,he,_,hs⟩:=h
 have hp:=((MapKept.stamped_iff es c).1 hs).2.2
 have h2:(es.toList.map fun e=>(e.key,e.val)).Pairwise (fun x y=>x.1≠y.1):=by rw [List.pairwise_map];exact hp
 rw [he,List.pairwise_map] at h2
 rw [List.Nodup,List.pairwise_map]
 exact h2.imp fun {x y} h e=>h (by rw [e])

theorem A5u (K:A0q P k ke N) (w:World) {es:Array MapEntry} (he:es.toList.map (fun e=>(e.key,e.val))=L.map (fun p=>(ke p.1,ve p.2))) (hN:∀ p∈L,p.1 < N) {a:Nat} (ha:a < N) :
  ((Instr.findKey k (ke a) es.toList).run P w = .ok none w∧(∀ e∈es.toList,e.key≠ke a)∧∀ p∈L,p.1≠a) ∨
  ∃ j e x,(Instr.findKey k (ke a) es.toList).run P w = .ok (some (j,ve x)) w∧es.toList[j]? = some e∧e.key=ke a∧e.val=ve x∧L[j]? = some (a,x):=by
 obtain ⟨l,hl⟩:=K.key a ha
 have hes:∀ e∈es.toList,∃ l,keyOf P k e.key=some l:=by
  intro e hm
  have:(e.key,e.val)∈L.map (fun p=>(ke p.1,ve p.2)):=he ▸ List.mem_map.2 ⟨e,hm,rfl⟩
  obtain ⟨p,hp,hq⟩:=List.mem_map.1 this
  obtain ⟨l,hl⟩:=K.key p.1 (hN p hp)
  exact ⟨l,by rw [← (Prod.mk.inj hq).1];exact hl⟩
 rcases K.keyed.find w hl es.toList hes with ⟨h1,h2⟩ | ⟨j,e,h1,h2,h3⟩
 ·refine Or.inl ⟨h1,h2,fun p hp e=>?_⟩
  have:(ke p.1,ve p.2)∈es.toList.map (fun e=>(e.key,e.val)):=he ▸ List.mem_map.2 ⟨p,hp,rfl⟩
  obtain ⟨e0,hm,hq⟩:=List.mem_map.1 this
  exact h2 e0 hm (by rw [(Prod.mk.inj hq).1,e])
 ·have hj:=congrArg (fun l=>l[j]?) he
  simp only [List.getElem?_map,h2,Option.map_some] at hj
  cases hp:L[j]? with
  | none=>rw [hp] at hj;simp at hj
  | some p =>
   rw [hp] at hj
   obtain ⟨e1,e2⟩:=by simpa using hj
   have hpm:=List.mem_of_getElem? hp
   have hpa:p.1=a:=K.inj _ _ (hN p hpm) ha (by rw [← e1,h3])
   refine Or.inr ⟨j,e,p.2,by rw [← e2];exact h1,h2,h3,e2,by rw [← hpa];exact hp⟩

theorem E1.look (h:E1 ke N ve w b L) (K:A0q P k ke N) {t e:TypeId} (ht:P.underlying t=some (.map k e)) {z:Value} (hz:(zeroValue e).run P w = .ok z w) {a:Nat} (ha:a < N) :
  (Instr.lookup t (.map (some b)) (ke a) false).run P w = .ok (((I3 a L).map ve).getD z) w:=by
 have hn:=h.nodup
 obtain ⟨es,c,hb,he,hN,hs⟩:=h
 obtain ⟨l,hl⟩:=K.key a ha
 rcases A5u K w he hN ha with ⟨h1,_,h3⟩ | ⟨j,e0,x,h1,h2,h3,h4,h5⟩
 ·rw [A64 h3]
  simp [Instr.lookup,run_underlying ht,MapKept.run_getObj_map hb,K.keyed.check w _ hl,h1,hz,Result.andThen]
 ·rw [A3J hn h5]
  simp [Instr.lookup,run_underlying ht,MapKept.run_getObj_map hb,K.keyed.check w _ hl,h1,Result.andThen]
theorem A0B (w:World) (b:Nat) (o:Obj):A0 (· = b) w (setBlock w b o):=by
 refine ⟨rfl,rfl,rfl,by simp [setBlock],fun k hk hs=>?_⟩
 simp only [setBlock]
 rw [Array.getElem?_setIfInBounds_ne (fun e=>hs e.symm)]
theorem A1w (w:World) (b:Nat) (o:Obj) (h:b < w.heap.size):(setBlock w b o).heap[b]? = some o:=by
 simp [setBlock,h]

theorem E1.store (h:E1 ke N ve w b L) (K:A0q P k ke N) {t e:TypeId} (ht:P.underlying t=some (.map k e)) {a:Nat} (ha:a < N) (x:β) :
  ∃ w',(Instr.mapUpdate t (.map (some b)) (ke a) (ve x)).run P w = .ok () w'∧E1 ke N ve w' b (N0 a x L)∧A0 (· = b) w w':=by
 have hn:=h.nodup
 have hlt:=h.lt
 obtain ⟨es,c,hb,he,hN,hs⟩:=h
 obtain ⟨l,hl⟩:=K.key a ha
 have hN':∀ p∈N0 a x L,p.1 < N:=fun p hp=>by
  rcases A1M hp with rfl | h
  ·exact ha
  ·exact hN p h
 rcases A5u K w he hN ha with ⟨h1,h2,h3⟩ | ⟨j,e0,y,h1,h2,h3,h4,h5⟩
 ·refine ⟨setBlock w b (.map (es.push { key:=ke a,val:=ve x,born:=c }) (c+1)),?_,⟨_,_,A1w _ _ _ hlt,?_,hN',MapKept.stamped_push hs h2⟩,A0B _ _ _⟩
  ·simp [Instr.mapUpdate,run_underlying ht,MapKept.run_getObj_map hb,K.keyed.check w false hl,h1,MapKept.run_setObj_map _ hb,Result.andThen,setBlock]
  ·rw [A1J h3];simp [he]
 ·have hj:es[j]? = some e0:=by simpa using h2
  have hlist:(es.modify j (fun e'=>{ e' with key:=ke a,val:=ve x })).toList=es.toList.set j { e0 with key:=ke a,val:=ve x }:=by rw [Array.toList_modify,modify_eq_set _ _ _ _ h2]
  refine ⟨setBlock w b (.map (es.modify j (fun e'=>{ e' with key:=ke a,val:=ve x })) c),?_,⟨_,_,A1w _ _ _ hlt,?_,hN',MapKept.stamped_modify hs _ _ (fun _ _=>rfl) (fun e' _ he'=>by rw [hj] at he';cases he';exact h3.symm)⟩,A0B _ _ _⟩
  ·simp [Instr.mapUpdate,run_underlying ht,MapKept.run_getObj_map hb,K.keyed.check w false hl,h1,hj,h3,K.keyed.stays w hl,MapKept.run_setObj_map _ hb,Result.andThen,setBlock]
  ·rw [hlist,A7G hn h5,List.map_set,List.map_set,he]

theorem B1A {a:Nat} {x:β}:∀ {L:List (Nat × β)} {j:Nat},(L.map Prod.fst).Nodup→L[j]? = some (a,x)→A1j a L=L.eraseIdx j
 | [],j,_,h=>by simp at h
 | (b,y) :: l,0,hn,h=>by
  obtain ⟨rfl,rfl⟩:=by simpa using h
  have hn':b ∉ l.map Prod.fst∧(l.map Prod.fst).Nodup:=by simpa using hn
  unfold A1j
  rw [List.filter_cons_of_neg (by simp),List.eraseIdx_cons_zero]
  exact List.filter_eq_self.2 fun p hp=>by
   simp only [ne_eq,decide_not,Bool.not_eq_true',decide_eq_false_iff_not]
   exact fun e=>hn'.1 (List.mem_map.2 ⟨p,hp,e⟩)
 | (b,y) :: l,j+1,hn,h=>by
  have h':l[j]? = some (a,x):=by simpa using h
  have hn':b ∉ l.map Prod.fst∧(l.map Prod.fst).Nodup:=by simpa using hn
  have:a∈l.map Prod.fst:=List.mem_map.2 ⟨(a,x),List.mem_of_getElem? h',rfl⟩
  have ih:=B1A hn'.2 h'
  unfold A1j at ih ⊢
  rw [List.filter_cons_of_pos (by simpa using fun e:b=a=>hn'.1 (by rw [e];exact this)),ih,List.eraseIdx_cons_succ]
theorem B24 {a:Nat} {L:List (Nat × β)} (h:∀ p∈L,p.1≠a):A1j a L=L:=List.filter_eq_self.2 fun p hp=>by simpa using h p hp

theorem E1.drop (h:E1 ke N ve w b L) (K:A0q P k ke N) {t e:TypeId} (ht:P.underlying t=some (.map k e)) {a:Nat} (ha:a < N) (ty:TypeId) :
  ∃ w',(Builtin.delete_ #[t,k] ty #[.map (some b),ke a]).run P w = .ok (.tuple #[]) w'∧E1 ke N ve w' b (A1j a L)∧A0 (· = b) w w':=by
 have hn:=h.nodup
 have hlt:=h.lt
 obtain ⟨es,c,hb,he,hN,hs⟩:=h
 obtain ⟨l,hl⟩:=K.key a ha
 have hN':∀ p∈A1j a L,p.1 < N:=fun p hp=>hN p (List.mem_filter.1 hp).1
 rcases A5u K w he hN ha with ⟨h1,h2,h3⟩ | ⟨j,e0,y,h1,h2,h3,h4,h5⟩
 ·refine ⟨setBlock w b (.map es c),?_,⟨_,_,A1w _ _ _ hlt,by rw [B24 h3];exact he,hN',hs⟩,A0B _ _ _⟩
  simp [Builtin.delete_,run_underlying ht,MapKept.run_getObj_map hb,K.keyed.check w _ hl,h1,MapKept.run_setObj_map _ hb,Result.andThen,setBlock]
 ·have hjl:j < es.size:=by simpa using (List.getElem?_eq_some_iff.1 h2).1
  have hsub:(es.eraseIdxIfInBounds j).toList=es.toList.eraseIdx j:=by
   unfold Array.eraseIdxIfInBounds
   rw [dif_pos hjl]
   simp
  refine ⟨setBlock w b (.map (es.eraseIdxIfInBounds j) c),?_,⟨_,_,A1w _ _ _ hlt,?_,hN',MapKept.stamped_erase hs j⟩,A0B _ _ _⟩
  ·simp [Builtin.delete_,run_underlying ht,MapKept.run_getObj_map hb,K.keyed.check w _ hl,h1,MapKept.run_setObj_map _ hb,Result.andThen,setBlock]
  ·rw [hsub,B1A hn h5,map_eraseIdx,map_eraseIdx,he]

theorem E1.len (h:E1 ke N ve w b L) {t e:TypeId} (ht:P.underlying t=some (.map k e)) (ty:TypeId):(Builtin.len_ #[t] ty #[.map (some b)]).run P w = .ok (.int .i64 L.length) w:=by
 obtain ⟨es,c,hb,he,hN,hs⟩:=h
 have hl:es.size=L.length:=by have:=congrArg List.length he;simpa using this
 simp [Builtin.len_,run_underlying ht,MapKept.run_getObj_map hb,Result.andThen,hl];rfl

/-! ### at the operation, for the walk -/
variable {ops:Array Oper} {rest:List Oper} {o:Oper} {a:Act} {Q:Exit→Act→World→Prop}

theorem A26 (hg:o.guard=none) (m x v:Operand) (t:TypeId) (hop:o.op=Op.mapUpdate t m x v) (K:A0q P k ke N) {e:TypeId} (ht:P.underlying t=some (.map k e))
  {b:Nat} {L:List (Nat × β)} (h:E1 ke N ve w b L) (hm:a.eval m = .map (some b)) {n:Nat} (hx:a.eval x=ke n) (hn:n < N) (y:β) (hv:a.eval v=ve y)
  (hK:∀ w',E1 ke N ve w' b (N0 n y L)→A0 (· = b) w w'→wpList P ops Q rest (a.put o.dst undef) w'):wpList P ops Q (o :: rest) a w:=by
 refine wpList_plain hg fun K' hK'=>?_
 obtain ⟨w',hrun,h1,h2⟩:=h.store K ht hn y
 unfold Oper.wp
 simp [execOp,hop,hm,hx,hv,hrun,Result.andThen]
 exact hK' _ _ (hK w' h1 h2)
theorem A4X (hg:o.guard=none) (m x:Operand) (t:TypeId) (hop:o.op=Op.call { callee:=Callee.builtin Builtin.delete,args:=#[m,x],argTypes:=#[t,k] }) (K:A0q P k ke N) {e:TypeId} (ht:P.underlying t=some (.map k e))
  {b:Nat} {L:List (Nat × β)} (h:E1 ke N ve w b L) (hm:a.eval m = .map (some b)) {n:Nat} (hx:a.eval x=ke n) (hn:n < N)
  (hK:∀ w',E1 ke N ve w' b (A1j n L)→A0 (· = b) w w'→wpList P ops Q rest (a.put o.dst (.tuple #[])) w'):wpList P ops Q (o :: rest) a w:=by
 refine wpList_plain hg fun K' hK'=>?_
 obtain ⟨w',hrun,h1,h2⟩:=h.drop K ht hn o.type
 unfold Oper.wp
 simp [execOp,hop,resolve,invoke,builtin,hm,hx,hrun,Result.andThen]
 exact hK' _ _ (hK w' h1 h2)
theorem A8i (m:Operand) (t:TypeId) (hop:o.op=Op.call { callee:=Callee.builtin Builtin.len,args:=#[m],argTypes:=#[t] }) (hw:Region.wanted o (yielded ops a.tmps)=true) {v:Value} (hm:a.eval m=v) {n:Int}
  (hr:∀ ty,(Builtin.len_ #[t] ty #[v]).run P w = .ok (.int .i64 n) w) (hK:wpList P ops Q rest (a.put o.dst (.int .i64 n)) w):wpList P ops Q (o :: rest) a w:=by
 refine wpList_step fun K' hK'=>?_
 rw [if_pos hw]
 unfold Oper.wp
 simp [execOp,hop,resolve,invoke,builtin,hm,hr o.type,Result.andThen]
 exact hK' _ _ hK
/-! ### as one step of a region that draws -/
variable {K:Act→World→Prop} {F:Prop}
theorem A3k (hg:o.guard=none) (m x v:Operand) (t:TypeId) (hop:o.op=Op.mapUpdate t m x v) (Ke:A0q P k ke N) {e:TypeId} (ht:P.underlying t=some (.map k e))
  {b:Nat} {L:List (Nat × β)} (h:E1 ke N ve w b L) (hm:a.eval m = .map (some b)) {n:Nat} (hx:a.eval x=ke n) (hn:n < N) (y:β) (hv:a.eval v=ve y)
  (hK:∀ w',E1 ke N ve w' b (N0 n y L)→A0 (· = b) w w'→K (a.put o.dst undef) w'):if Region.wanted o (yielded ops a.tmps)=true then Oper.wp P o a w K Q else F:=by
 rw [if_pos (by simp [Region.wanted,hg])]
 obtain ⟨w',hrun,h1,h2⟩:=h.store Ke ht hn y
 unfold Oper.wp
 simp [execOp,hop,hm,hx,hv,hrun,Result.andThen]
 exact hK w' h1 h2
end
end Go.Mun
