/-
  Slices of bytes turned to strings: laws over any program that the walks of this seat share.
-/
import Derived.Test.YtaoacfkifcglfaaDoorEq
import Derived.Laws.BytesString
import Derived.ArgAppend
import Derived.Deep.RegionLawGrows
import Derived.Lib.SlBytesConst
import Derived.StillTailTactics
import Derived.BigQuiet
namespace Go.Mun
open Go.RowKit

/-- A list of bytes as a string. -/
def strOf (l : List Int) : ByteArray := ⟨(l.map fun n => UInt8.ofNat n.toNat).toArray⟩
theorem foldl_push (l : List Int) : ∀ s : ByteArray, l.foldl (fun r n => r.push (UInt8.ofNat n.toNat)) s = ⟨s.data ++ (l.map fun n => UInt8.ofNat n.toNat).toArray⟩ := by
  induction l with
  | nil => intro s; simp
  | cons x l ih =>
    intro s
    rw [List.foldl_cons, ih]
    simp [ByteArray.push]

theorem run_bytes_string {P : Program} {src dst e : TypeId} (hs : P.underlying src = some (.slice e)) (he : P.underlying e = some (.int .u8)) (hd : P.underlying dst = some .string)
    {w : World} {a : Option Addr} {c : Nat} {l : List Int} (hI : Ints w .u8 a c l) : (convert src dst (.slice a l.length c)).run P w = .ok (.string (strOf l)) w := by
  rw [run_convert_bytes_string w src dst e a l.length c hs he hd]
  cases a with
  | none =>
    have h1 := hI.nil rfl
    have h2 := hI.len
    have : l = [] := List.eq_nil_of_length_eq_zero (by omega)
    subst this
    simp [Conv.bytesToString, strOf]
    rfl
  | some ad =>
    have hl : (loadCells ad l.length).run P w = .ok (l.map (Value.int .u8)).toArray w := by
      have := run_loadCells_list (P := P) w ad (l.map (Value.int .u8)) (fun j v hv => by
        have hj : j < l.length := by
          rcases Nat.lt_or_ge j l.length with h | h
          · exact h
          · rw [List.getElem?_eq_none (by simpa using h)] at hv; cases hv
        obtain ⟨b, off, ha, _, hc⟩ := hI.at hj
        have ha' : ad = ⟨b, off, none⟩ := by simpa using ha
        rw [add_off ha', hc j hj]
        simp [hj] at hv
        simp [hj, hv])
      simpa using this
    rw [run_bytesToString w ad l.length c l hl, foldl_push]
    simp [strOf]


/-- A row of the call's own, or one that is full and may not be written (the bytes of a constant). -/
def RowOr (w : World) (base e size : Nat) (v : Value) (n : Nat) (xs : List Value) : Prop :=
  w.ownsRow base e size v n xs ∨ ∃ g, v = .slice (some ⟨g, 0, none⟩) n n ∧ base ≤ g ∧ g < w.heap.size ∧ xs.length = n * size ∧ ∀ j u, xs[j]? = some u → w.cell? ⟨g, j, none⟩ = some u

theorem ownsRow_mono {w : World} {base base' e size : Nat} {v : Value} {n : Nat} {xs : List Value} (h : w.ownsRow base e size v n xs) (hb : base' ≤ base) : w.ownsRow base' e size v n xs := by
  refine ⟨h.1, ?_⟩
  rcases h.2 with h | ⟨g, cap, cur, h1, h2, h3⟩
  · exact .inl h
  · exact .inr ⟨g, cap, cur, h1, Nat.le_trans hb h2, h3⟩

theorem RowOr.below {w w' : World} {base e size : Nat} {v : Value} {n : Nat} {xs : List Value} (h : RowOr w base e size v n xs) (hb : Below w.heap.size w w') : RowOr w' base e size v n xs := by
  rcases h with h | ⟨g, h1, h2, h3, h4, h5⟩
  · exact .inl (ownsRow_below h hb)
  · exact .inr ⟨g, h1, h2, Nat.lt_of_lt_of_le h3 hb.size, h4, fun j u hj => by rw [← h5 j u hj]; exact hb.cell (p := ⟨g, j, none⟩) h3⟩

theorem RowOr.lt {w : World} {base e size : Nat} {v : Value} {n : Nat} {xs : List Value} (h : RowOr w base e size v n xs) : ∀ k, v.ownBlock = some k → base ≤ k := by
  rcases h with h | ⟨g, rfl, h2, _⟩
  · exact fun k hk => (h.lt k hk).1
  · intro k hk; simp [Value.ownBlock] at hk; omega

theorem RowOr.ints {w : World} {base e : Nat} {k : IntKind} {v : Value} {n : Nat} {l : List Int} (h : RowOr w base e 1 v n (l.map (Value.int k))) (hn : n ≤ maxLen) :
    ∃ a c, v = .slice a n c ∧ n = l.length ∧ Ints w k a c l := by
  rcases h with h | ⟨g, rfl, h2, h3, h4, h5⟩
  · exact Ints.of_own' h
  · have hl : n = l.length := by simpa using h4.symm
    refine ⟨_, n, rfl, hl, fun _ => ⟨g, 0, rfl, fun i hi => ?_⟩, fun hh => by simp at hh, by omega, hn⟩
    have := h5 i (.int k (l[i]?.getD 0)) (by simp [hi])
    simpa using this

theorem run_bytes_string' {P : Program} {src dst e : TypeId} (hs : P.underlying src = some (.slice e)) (he : P.underlying e = some (.int .u8)) (hd : P.underlying dst = some .string)
    {w : World} {a : Option Addr} {n c : Nat} {l : List Int} (hn : n = l.length) (hI : Ints w .u8 a c l) : (convert src dst (.slice a n c)).run P w = .ok (.string (strOf l)) w := by
  subst hn; exact run_bytes_string hs he hd hI

theorem newrow_cells (w : World) (cs : List Value) (e : TypeId) (fz : Nat × Nat) : ∀ j u, cs[j]? = some u → (w.alloc (.cells cs.toArray e fz)).cell? ((⟨w.heap.size, 0, none⟩ : Addr).add j) = some u := by
  intro j u hj
  have hadd : (⟨w.heap.size, 0, none⟩ : Addr).add j = ⟨w.heap.size, j, none⟩ := by unfold Addr.add; split <;> simp_all
  rw [hadd, cell_of_row _ w.heap.size j cs.toArray e fz (heap_alloc_new w _)]
  simpa using hj

theorem grown_of_new {w w' : World} {o : Obj} {r r' : Option Nat} (h : (w.alloc o).grownBy w' r) (hr : r = none ∨ r = r') : w.grownBy w' r' := by
  refine ⟨h.os, h.tape, h.output, ?_, ?_⟩
  · have := h.size; simp at this; omega
  · intro k hk hne
    rw [h.block k (by simp; omega) (by rcases hr with rfl | rfl; simp; exact hne)]
    exact Below.heap_alloc _ _ _ hk

/-- The operation 'append' itself, in whatever region and whatever world. -/
theorem step_append_any {P : Program} {ops : Array Oper} {o : Oper} {a : Act} {w : World} {K : Act → World → Prop} {Q : Exit → Act → World → Prop} {F : Prop}
    {t e : TypeId} {z : Value} {size bytes : Nat} (E : ElemOf P t e z size bytes) (hgd : o.guard = none) (s x : Operand)
    (ho : o.op = .call { callee := .builtin .append, args := #[s, x], argTypes := #[t, t] }) {v : Value} (hs : a.eval s = v) {p : Addr} {m c : Nat} (hx : a.eval x = .slice (some p) m c)
    {base : Nat} {n : Nat} {xs : List Value} (hown : RowOr w base e size v n xs) {cs : List Value} (hnew : ∀ j u, cs[j]? = some u → w.cell? (p.add j) = some u) (hm : 0 < m)
    (hok : okL (m * size) cs = true) (h63 : n + m ≤ maxLen) (hbytes : (n + m) * bytes ≤ 140737488355328) (hbase : base ≤ w.heap.size)
    (h : ∀ v' w', w'.ownsRow base e size v' (n + m) (xs ++ cs) → w.grownBy w' v.ownBlock → K (a.put o.dst v') w') :
    if Region.wanted o (yielded ops a.tmps) = true then Oper.wp P o a w K Q else F := by
  obtain ⟨i, hi, hz, hsz, hb⟩ := E.info
  rcases hown with hown | ⟨g, rfl, h2, h3, h4, h5⟩
  · rw [if_pos (by simp [Region.wanted, hgd])]
    exact wp_append_own _ s x t ho base e i z size bytes E.slice hi hz hsz hb E.zsize E.pos v n xs hs hown p m c cs hx (okL_len hok) hnew (okL_mem hok) h63 hbytes hbase fun v' w' h1 h2 _ => h v' w' h1 h2
  · refine step_append_grows hgd s x t ho e i z size bytes E.slice hi hz hsz hb E.zsize E.pos (some ⟨g, 0, none⟩) n n xs hs (fun hh => by simp at hh) h4 ?_ p m c cs hx (okL_len hok) hnew (okL_mem hok) (by omega) h63 hbytes ?_
    · intro b hb j u hj
      simp at hb
      subst hb
      have hadd : (⟨g, 0, none⟩ : Addr).add j = ⟨g, j, none⟩ := by unfold Addr.add; split <;> simp_all
      rw [hadd]
      exact h5 j u hj
    · intro v' w' ho' hg'
      exact h v' w' (ownsRow_mono ho' hbase) ⟨hg'.os, hg'.tape, hg'.output, hg'.size, fun k hk _ => hg'.block k hk (by simp)⟩

/-- The operation 'append' itself, in whatever region. -/
theorem step_append_or {P : Program} {ops : Array Oper} {o : Oper} {a : Act} {w : World} {K : Act → World → Prop} {Q : Exit → Act → World → Prop} {F : Prop}
    {t e : TypeId} {z : Value} {size bytes : Nat} (E : ElemOf P t e z size bytes) (hgd : o.guard = none) (s x : Operand)
    (ho : o.op = .call { callee := .builtin .append, args := #[s, x], argTypes := #[t, t] }) {v : Value} (hs : a.eval s = v) {p m c : Nat} (hx : a.eval x = .slice (some ⟨p, 0, none⟩) m c)
    {base : Nat} {n : Nat} {xs : List Value} (hown : RowOr w base e size v n xs) {cs : List Value} {fz : Nat × Nat} (hp : p = w.heap.size) (hm : 0 < m)
    (hok : okL (m * size) cs = true) (h63 : n + m ≤ maxLen) (hbytes : (n + m) * bytes ≤ 140737488355328) (hbase : base ≤ w.heap.size)
    (h : ∀ v' w', w'.ownsRow base e size v' (n + m) (xs ++ cs) → w.grownBy w' v.ownBlock → K (a.put o.dst v') w') :
    if Region.wanted o (yielded ops a.tmps) = true then Oper.wp P o a (w.alloc (.cells cs.toArray e fz)) K Q else F := by
  obtain ⟨i, hi, hz, hsz, hb⟩ := E.info
  subst hp
  rcases hown with hown | ⟨g, rfl, h2, h3, h4, h5⟩
  · rw [if_pos (by simp [Region.wanted, hgd])]
    exact wp_append_own _ s x t ho base e i z size bytes E.slice hi hz hsz hb E.zsize E.pos v n xs hs (hown.alloc _) ⟨w.heap.size, 0, none⟩ m c cs hx (okL_len hok) (newrow_cells w cs e fz) (okL_mem hok) h63 hbytes (by simp; omega)
      fun v' w' h1 h2 _ => h v' w' h1 (grown_of_new h2 (.inr rfl))
  · refine step_append_grows hgd s x t ho e i z size bytes E.slice hi hz hsz hb E.zsize E.pos (some ⟨g, 0, none⟩) n n xs hs (fun hh => by simp at hh) h4 ?_ ⟨w.heap.size, 0, none⟩ m c cs hx (okL_len hok) (newrow_cells w cs e fz) (okL_mem hok) (by omega) h63 hbytes ?_
    · intro b hb j u hj
      simp at hb
      subst hb
      have hadd : (⟨g, 0, none⟩ : Addr).add j = ⟨g, j, none⟩ := by unfold Addr.add; split <;> simp_all
      rw [hadd, World.cell?_alloc_lt _ _ _ h3]
      exact h5 j u hj
    · intro v' w' ho' hg'
      exact h v' w' (ownsRow_mono ho' (by simp; omega)) (grown_of_new hg' (.inl rfl))

theorem wpList_append_or {P : Program} {ops : Array Oper} {rest : List Oper} {o : Oper} {a : Act} {Q : Exit → Act → World → Prop} {w : World}
    {t e : TypeId} {z : Value} {size bytes : Nat} (E : ElemOf P t e z size bytes) (hgd : o.guard = none) (s x : Operand)
    (ho : o.op = .call { callee := .builtin .append, args := #[s, x], argTypes := #[t, t] }) {v : Value} (hs : a.eval s = v) {p m c : Nat} (hx : a.eval x = .slice (some ⟨p, 0, none⟩) m c)
    {base : Nat} {n : Nat} {xs : List Value} (hown : RowOr w base e size v n xs) {cs : List Value} {fz : Nat × Nat} (hp : p = w.heap.size) (hm : 0 < m)
    (hok : okL (m * size) cs = true) (h63 : n + m ≤ maxLen) (hbytes : (n + m) * bytes ≤ 140737488355328) (hbase : base ≤ w.heap.size)
    (h : ∀ v' w', w'.ownsRow base e size v' (n + m) (xs ++ cs) → w.grownBy w' v.ownBlock → wpList P ops Q rest (a.put o.dst v') w') :
    wpList P ops Q (o :: rest) a (w.alloc (.cells cs.toArray e fz)) :=
  wpList_step fun _ hK => step_append_or E hgd s x ho hs hx hown hp hm hok h63 hbytes hbase fun v' w' h1 h2 => hK _ _ (h v' w' h1 h2)
end Go.Mun
