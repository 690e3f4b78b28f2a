/-
  A frame whose memory is another one.
  A frame's memory grows.
  The machine: grow.
  The machine: bytes of an area.
  A frame that tells something.
  The machine that TxMakes wants, in plain Lean: PUSH, SSTORE, MSTORE8, RETURN; what its code tells.
-/
import Derived.Test.YtikiciojfhfagaaGreatQTx4
import Derived.Test.YtikiciojfhfagaaGreatQEv16
set_option linter.unusedVariables false
set_option linter.unusedSimpArgs false
namespace Go.Proofs.YtikiciojfhfagaaGreat
open Go.RowKit Go.Mun

section
variable {E : Env} {w : World} {own : Own} {c : FV} {f : Fr} {S : St} {n : Nat}
/-- The memory is another one. -/
theorem FrOk.memory {w1 : World} {mv' : Value} {m' : Bts} (h : FrOk E w own c f S n) (ho : Only (fun g => c.mv.ownBlock = some g) w w1) (hr : w1.ownsRow 0 5 1 mv' m'.length (m'.map (Value.int .u8)))
    (hl : ∀ g, mv'.ownBlock = some g → c.mv.ownBlock = some g ∨ w.heap.size ≤ g) (hv : Byt m') (hn : m'.length ≤ 1048576 ∧ m'.length % 32 = 0) :
    FrOk E (w1.setCell ⟨E.fb, 133, none⟩ mv') own { c with mv := mv' } { f with mem := m' } S n := by
  have hfl := h.lt
  have hsf : ¬ c.mv.ownBlock = some E.fb := fun e => (h.mown _ e).2.1 rfl
  have hrow1 : w1.row? E.fb 0 141 = some (cat (frS E.rb c f)) := by rw [ho.row? hfl hsf]; exact h.row
  have hfree1 : w1.free? E.fb 0 141 = true := by rw [ho.free? hfl hsf]; exact h.free
  have ho2 : Only (fun b => b = E.fb ∨ c.sv.ownBlock = some b ∨ c.mv.ownBlock = some b ∨ c.lv.ownBlock = some b) w (w1.setCell ⟨E.fb, 133, none⟩ mv') :=
    (ho.mono fun b hb => .inr (.inr (.inl hb))).trans (only_cell w1 E.fb 133 mv') (fun i hi _ => .inl hi)
  have hR : ∀ b, (b = E.fb ∨ c.sv.ownBlock = some b ∨ c.mv.ownBlock = some b ∨ c.lv.ownBlock = some b) → mu own E.fb E.kp c b := fun _ h => .inr h
  obtain ⟨cs, hl1, hl2⟩ := h.logs
  have hkb : ∀ b, b < w.heap.size → (b = E.fb ∨ c.sv.ownBlock = some b ∨ mv'.ownBlock = some b ∨ c.lv.ownBlock = some b) → (b = E.fb ∨ c.sv.ownBlock = some b ∨ c.mv.ownBlock = some b ∨ c.lv.ownBlock = some b) := by
    rintro b hb (h1 | h1 | h1 | h1)
    · exact .inl h1
    · exact .inr (.inl h1)
    · rcases hl b h1 with h2 | h2
      · exact .inr (.inr (.inl h2))
      · omega
    · exact .inr (.inr (.inr h1))
  have hmu : ∀ b, b < w.heap.size → mu own E.fb E.kp { c with mv := mv' } b → mu own E.fb E.kp c b := fun b hb hx => hx.imp id (hkb b hb)
  have hstk : ∀ g, c.sv.ownBlock = some g → ¬ (g = E.fb ∨ c.mv.ownBlock = some g) := fun g hg he => by
    rcases he with he | he
    · exact (h.sown g hg).2 he
    · exact (h.mown g he).2.2 hg
  have hlog : ∀ g, c.lv.ownBlock = some g → ¬ (g = E.fb ∨ c.mv.ownBlock = some g) := fun g hg he => by
    rcases he with he | he
    · exact (h.lown g hg).2.1 he
    · exact (h.lown g hg).2.2.2 he
  have ho3 : Only (fun b => b = E.fb ∨ c.mv.ownBlock = some b) w (w1.setCell ⟨E.fb, 133, none⟩ mv') :=
    (ho.mono fun b hb => .inr hb).trans (only_cell w1 E.fb 133 mv') (fun i hi _ => .inl hi)
  have hsl := ownsRow_lt hr
  have hown : ∀ g, mv'.ownBlock = some g → own g = none ∧ g ≠ E.fb ∧ c.sv.ownBlock ≠ some g := fun g hg => by
    rcases hl g hg with h1 | h1
    · exact h.mown g h1
    · exact ⟨free_own h.st.lows h1, by omega, fun e => by have := ownsRow_lt h.stk g e; omega⟩
  have hbase : ∀ g, mv'.ownBlock = some g → E.w0.heap.size ≤ g := fun g hg => by
    rcases hl g hg with h1 | h1
    · exact ownsRow_ge h.mem g h1
    · have := h.chg.only.size; omega
  refine h.turn ho2 (set_mv mv' hrow1) (by rw [free?_setCell _ (World.free?_sub hfree1 (by omega))]; exact hfree1) ⟨rfl, rfl, rfl⟩ rfl rfl hkb ?_ h.sown h.sval h.slen ?_ hown hv hn ⟨cs, ?_, ?_⟩ ?_ h.llen ?_ ?_ (Nat.le_refl _) h.nxt
  · exact Only.own h.stk ho3 hstk
  · exact Only.own (ownsRow_base hr hbase) (only_cell w1 E.fb 133 mv') (fun g hg => (hown g hg).2.1)
  · exact Only.own hl1 ho3 hlog
  · exact hl2.only ho2 (fun b h => .inl (hR b h)) (fun b hb h => h.imp (hmu b hb) id)
  · refine fun g hg => ⟨(h.lown g hg).1, (h.lown g hg).2.1, (h.lown g hg).2.2.1, fun e => ?_⟩
    rcases hl g e with h1 | h1
    · exact (h.lown g hg).2.2.2 h1
    · have := ownsRow_lt hl1 g hg; omega
  · exact h.ret.only ho2 (fun b h => .inl (hR b h)) (fun b hb h => h.imp (hmu b hb) id)
  · exact h.out.only ho2 (fun b h => .inl (hR b h)) (fun b hb h => h.imp (hmu b hb) id)
/-- The memory is another one, told of the last world. -/
theorem FrOk.memory2 {w' : World} {mv' : Value} {m' : Bts} {gs : Nat} (h : FrOk E w own c f S n) (ho3 : Only (fun b => b = E.fb ∨ c.mv.ownBlock = some b) w w') (hrow : w'.row? E.fb 0 141 = some (cat (frS E.rb { c with mv := mv' } { f with mem := m', gas := gs }))) (hfree : w'.free? E.fb 0 141 = true)
    (hr : w'.ownsRow E.w0.heap.size 5 1 mv' m'.length (m'.map (Value.int .u8))) (hl : ∀ g, mv'.ownBlock = some g → c.mv.ownBlock = some g ∨ w.heap.size ≤ g) (hv : Byt m') (hn : m'.length ≤ 1048576 ∧ m'.length % 32 = 0) (hgs : gs ≤ f.gas) :
    FrOk E w' own { c with mv := mv' } { f with mem := m', gas := gs } S n := by
  have hfl := h.lt
  have ho2 : Only (fun b => b = E.fb ∨ c.sv.ownBlock = some b ∨ c.mv.ownBlock = some b ∨ c.lv.ownBlock = some b) w w' := ho3.mono fun b hb => hb.imp id (fun h => .inr (.inl h))
  have hR : ∀ b, (b = E.fb ∨ c.sv.ownBlock = some b ∨ c.mv.ownBlock = some b ∨ c.lv.ownBlock = some b) → mu own E.fb E.kp c b := fun _ h => .inr h
  obtain ⟨cs, hl1, hl2⟩ := h.logs
  have hkb : ∀ b, b < w.heap.size → (b = E.fb ∨ c.sv.ownBlock = some b ∨ mv'.ownBlock = some b ∨ c.lv.ownBlock = some b) → (b = E.fb ∨ c.sv.ownBlock = some b ∨ c.mv.ownBlock = some b ∨ c.lv.ownBlock = some b) := by
    rintro b hb (h1 | h1 | h1 | h1)
    · exact .inl h1
    · exact .inr (.inl h1)
    · rcases hl b h1 with h2 | h2
      · exact .inr (.inr (.inl h2))
      · omega
    · exact .inr (.inr (.inr h1))
  have hmu : ∀ b, b < w.heap.size → mu own E.fb E.kp { c with mv := mv' } b → mu own E.fb E.kp c b := fun b hb hx => hx.imp id (hkb b hb)
  have hstk : ∀ g, c.sv.ownBlock = some g → ¬ (g = E.fb ∨ c.mv.ownBlock = some g) := fun g hg he => by
    rcases he with he | he
    · exact (h.sown g hg).2 he
    · exact (h.mown g he).2.2 hg
  have hlog : ∀ g, c.lv.ownBlock = some g → ¬ (g = E.fb ∨ c.mv.ownBlock = some g) := fun g hg he => by
    rcases he with he | he
    · exact (h.lown g hg).2.1 he
    · exact (h.lown g hg).2.2.2 he
  have hsl := ownsRow_lt hr
  have hown : ∀ g, mv'.ownBlock = some g → own g = none ∧ g ≠ E.fb ∧ c.sv.ownBlock ≠ some g := fun g hg => by
    rcases hl g hg with h1 | h1
    · exact h.mown g h1
    · exact ⟨free_own h.st.lows h1, by omega, fun e => by have := ownsRow_lt h.stk g e; omega⟩
  refine h.turn ho2 hrow hfree ⟨rfl, rfl, rfl⟩ rfl rfl hkb ?_ h.sown h.sval h.slen hr hown hv hn ⟨cs, ?_, ?_⟩ ?_ h.llen ?_ ?_ hgs h.nxt
  · exact Only.own h.stk ho3 hstk
  · exact Only.own hl1 ho3 hlog
  · exact hl2.only ho2 (fun b h => .inl (hR b h)) (fun b hb h => h.imp (hmu b hb) id)
  · refine fun g hg => ⟨(h.lown g hg).1, (h.lown g hg).2.1, (h.lown g hg).2.2.1, fun e => ?_⟩
    rcases hl g e with h1 | h1
    · exact (h.lown g hg).2.2.2 h1
    · have := ownsRow_lt hl1 g hg; omega
  · exact h.ret.only ho2 (fun b h => .inl (hR b h)) (fun b hb h => h.imp (hmu b hb) id)
  · exact h.out.only ho2 (fun b h => .inl (hR b h)) (fun b hb h => h.imp (hmu b hb) id)
/-- Bytes are put into the memory. -/
theorem FrOk.memput {w1 : World} {m' : Bts} (h : FrOk E w own c f S n) (ho : Only (fun g => c.mv.ownBlock = some g) w w1) (hr : w1.ownsRow E.w0.heap.size 5 1 c.mv m'.length (m'.map (Value.int .u8)))
    (hv : Byt m') (hn : m'.length ≤ 1048576 ∧ m'.length % 32 = 0) : FrOk E w1 own c { f with mem := m' } S n := by
  have hfl := h.lt
  have hsf : ¬ c.mv.ownBlock = some E.fb := fun e => (h.mown _ e).2.1 rfl
  have ho2 : Only (fun b => b = E.fb ∨ c.sv.ownBlock = some b ∨ c.mv.ownBlock = some b ∨ c.lv.ownBlock = some b) w w1 := ho.mono fun b hb => .inr (.inr (.inl hb))
  have hR : ∀ b, (b = E.fb ∨ c.sv.ownBlock = some b ∨ c.mv.ownBlock = some b ∨ c.lv.ownBlock = some b) → mu own E.fb E.kp c b := fun _ h => .inr h
  obtain ⟨cs, hl1, hl2⟩ := h.logs
  refine h.turn ho2 (by rw [ho.row? hfl hsf]; exact h.row) (by rw [ho.free? hfl hsf]; exact h.free) ⟨rfl, rfl, rfl⟩ rfl rfl (fun _ _ hx => hx) ?_ h.sown h.sval h.slen hr h.mown hv hn ⟨cs, ?_, ?_⟩ h.lown h.llen ?_ ?_ (Nat.le_refl _) h.nxt
  · exact Only.own h.stk ho (fun g hg he => (h.mown g he).2.2 hg)
  · exact Only.own hl1 ho (fun g hg he => (h.lown g hg).2.2.2 he)
  · exact hl2.only ho2 (fun b h => .inl (hR b h)) (fun _ _ h => h)
  · exact h.ret.only ho2 (fun b h => .inl (hR b h)) (fun _ _ h => h)
  · exact h.out.only ho2 (fun b h => .inl (hR b h)) (fun _ _ h => h)
end
end Go.Proofs.YtikiciojfhfagaaGreat
namespace Go.Mun
theorem growK_fits {L a n cost x : Nat} (hL : L ≤ 1048576 ∧ L % 32 = 0) (h : growK L a n = some (cost, x)) : L + x ≤ 1048576 ∧ (L + x) % 32 = 0 ∧ cost ≤ 2150629376 ∧ (n ≠ 0 → a + n ≤ L + x) := by
  unfold growK at h
  split at h
  · cases h; exact ⟨by omega, by omega, by omega, fun h => by contradiction⟩
  · split at h
    · cases h
      have hm : max (L / 32) ((a + n + 31) / 32) ≤ 32768 := by omega
      have hc := memCost_le (max (L / 32) ((a + n + 31) / 32)) (by omega)
      refine ⟨by omega, by omega, by omega, fun _ => by omega⟩
    · cases h
end Go.Mun
namespace Go.Proofs.YtikiciojfhfagaaGreat
open Go.RowKit Go.Mun

theorem byt_zeros' {l : Bts} (h : Byt l) (x : Nat) : Byt (l ++ List.replicate x 0) := fun y hy => by
  rcases List.mem_append.1 hy with h1 | h1
  · exact h y h1
  · rw [(List.mem_replicate.1 h1).2]; exact ⟨by decide, by decide⟩
/-- What Grow makes of a frame. -/
def GrowFr (E : Env) (w w' : World) (own : Own) (c : FV) (f : Fr) (S : St) (k a n : Nat) (e : Ending) : Prop := match growK f.mem.length a n with
  | none => e = .returned (.tuple #[.int .i64 0, .bool false]) ∧ Below w.heap.size w w'
  | some (cost, x) => e = .returned (.tuple #[.int .i64 cost, .bool true]) ∧ ∃ mv', FrOk E w' own { c with mv := mv' } { f with mem := f.mem ++ List.replicate x 0 } S k ∧ (∀ g, mv'.ownBlock = some g → c.mv.ownBlock = some g ∨ w.heap.size ≤ g) ∧ Only (fun b => b = E.fb ∨ c.mv.ownBlock = some b) w w'
theorem grow_fr {E : Env} {w : World} {own : Own} {c : FV} {f : Fr} {S : St} {k : Nat} (a n : Nat) (ha : a < wW) (hn : n < wW) (h : FrOk E w own c f S k) :
    Calls Tryz.prog 231 #[.pointer (some ⟨E.fb, 133, none⟩), .agg (beC 32 a).toArray, .agg (beC 32 n).toArray] w fun e w' => GrowFr E w w' own c f S k a n e := by
  have hbase : E.w0.heap.size ≤ w.heap.size := h.chg.only.size
  refine (mem_grow a n ha hn (fr_mv h.row) (h.one (by omega)) h.mem (fun g hg => (h.mown g hg).2.1) h.mlen.1 hbase).mono ?_
  intro e w' hg
  unfold GrowIs at hg
  unfold GrowFr
  cases er : growK f.mem.length a n with
  | none =>
    rw [er] at hg
    exact hg
  | some q =>
    obtain ⟨cost, x⟩ := q
    rw [er] at hg
    obtain ⟨rfl, hg⟩ := hg
    have hfit := growK_fits h.mlen er
    refine ⟨rfl, ?_⟩
    rcases hg with ⟨hb, rfl⟩ | ⟨w1, mv', ho, rfl, hr, hl⟩
    · refine ⟨c.mv, ?_, fun g hg => .inl hg, Only.mono (S := fun _ => False) (Only.of_below_size hb) (fun _ (h : False) => h.elim)⟩
      have := h.below hb
      rw [List.replicate_zero, List.append_nil]
      exact this
    · refine ⟨mv', ?_, hl, (ho.mono fun b hb => .inr hb).trans (only_cell w1 E.fb 133 mv') (fun i hi _ => .inl hi)⟩
      have hlen : (f.mem ++ List.replicate x 0).length = f.mem.length + x := by simp
      refine h.memory ho ?_ hl (byt_zeros' h.mbyte x) (by rw [hlen]; exact ⟨hfit.1, hfit.2.1⟩)
      rw [hlen]
      exact ownsRow_mono hr (Nat.zero_le _)
end Go.Proofs.YtikiciojfhfagaaGreat
namespace Go.Proofs.YtikiciojfhfagaaGreat
open Go.RowKit Go.Mun

theorem GrowFr.one {E : Env} {w w' : World} {own : Own} {c : FV} {f : Fr} {S : St} {k a n : Nat} {e : Ending} (h : GrowFr E w w' own c f S k a n e) :
    ∃ (cost : Nat) (ok : Bool), e = .returned (.tuple #[.int .i64 cost, .bool ok]) ∧ Only (fun b => b = E.fb ∨ c.mv.ownBlock = some b) w w' ∧
      ((ok = false ∧ growK f.mem.length a n = none ∧ Below w.heap.size w w') ∨ (ok = true ∧ ∃ x, growK f.mem.length a n = some (cost, x) ∧ ∃ mv', FrOk E w' own { c with mv := mv' } { f with mem := f.mem ++ List.replicate x 0 } S k ∧ (∀ g, mv'.ownBlock = some g → c.mv.ownBlock = some g ∨ w.heap.size ≤ g))) := by
  unfold GrowFr at h
  cases er : growK f.mem.length a n with
  | none =>
    rw [er] at h
    obtain ⟨rfl, hb⟩ := h
    exact ⟨0, false, rfl, Only.mono (S := fun _ => False) (Only.of_below_size hb) (fun _ (h : False) => h.elim), .inl ⟨rfl, rfl, hb⟩⟩
  | some q =>
    obtain ⟨cost, x⟩ := q
    rw [er] at h
    obtain ⟨rfl, mv', h1, h2, h3⟩ := h
    exact ⟨cost, true, rfl, h3, .inr ⟨rfl, x, rfl, mv', h1, h2⟩⟩
/-- What grow makes of a frame: the area, or that it gives up. -/
def GrowE (E : Env) (w w' : World) (own : Own) (c : FV) (f : Fr) (S : St) (k a n : Nat) (e : Ending) : Prop :=
  (growK f.mem.length a n = none ∧ e = .panicked [{ v := stopV 11, recovered := false }] ∧ FrOk E w' own c f S k) ∨
  ∃ cost x mv', growK f.mem.length a n = some (cost, x) ∧
    ((cost ≤ f.gas ∧ e = .returned (.agg #[.int .i64 ((if n = 0 then 0 else a : Nat) : Int), .int .i64 (n : Int)]) ∧ FrOk E w' own { c with mv := mv' } { f with mem := f.mem ++ List.replicate x 0, gas := f.gas - cost } S k ∧ Only (fun b => b = E.fb ∨ c.mv.ownBlock = some b) w w' ∧ ∀ g, mv'.ownBlock = some g → c.mv.ownBlock = some g ∨ w.heap.size ≤ g) ∨
     (¬ cost ≤ f.gas ∧ e = .panicked [{ v := stopV 11, recovered := false }] ∧ FrOk E w' own { c with mv := mv' } { f with mem := f.mem ++ List.replicate x 0 } S k))
set_option maxRecDepth 100000 in
set_option maxHeartbeats 1000000 in
theorem evm_grow {E : Env} {w : World} {own : Own} {c : FV} {f : Fr} {S : St} {k : Nat} (a n : Nat) (ha : a < wW) (hn : n < wW) (h : FrOk E w own c f S k) (hN : E.N ≤ 1099511627776) :
    Calls Tryz.prog 197 #[.pointer (some ⟨E.fb, 0, none⟩), .agg (beC 32 a).toArray, .agg (beC 32 n).toArray] w fun e w' => GrowE E w w' own c f S k a n e := by
  obtain ⟨w0, e0⟩ : ∃ w0, w0 = ((w.alloc (.cells (beC 32 a).toArray 25)).alloc (.cells (beC 32 n).toArray 25)).alloc (.cells (cat zs216).toArray 220) := ⟨_, rfl⟩
  have hb0 : Below w.heap.size w w0 := by rw [e0]; exact (((Below.refl _ _).alloc (Nat.le_refl _) _).alloc (by simp) _).alloc (by simp; omega) _
  have hs0 : w0.heap.size = w.heap.size + 3 := by rw [e0]; simp
  have ra : w0.row? w.heap.size 0 32 = some (beC 32 a) := by rw [e0, World.row?_alloc_lt _ (by simp; omega), World.row?_alloc_lt _ (by simp)]; exact World.row?_alloc_at _ _ _ rfl (by simp)
  have rn : w0.row? (w.heap.size + 1) 0 32 = some (beC 32 n) := by rw [e0, World.row?_alloc_lt _ (by simp)]; exact World.row?_alloc_at _ _ _ (by simp) (by simp)
  have hf : w0.free? (w.heap.size + 1 + 1) 0 2 = true := by rw [e0]; exact World.free?_alloc_at _ _ (by simp) (by simp [zs216_len])
  have hfb := h.lt
  have hmv : ∀ b, c.mv.ownBlock = some b → b < w.heap.size := ownsRow_lt h.mem
  have h0 := h.below hb0
  have HO : Hid (∀ W, Only (fun b => b = E.fb ∨ c.mv.ownBlock = some b) w0 W → W.row? w.heap.size 0 32 = some (beC 32 a) ∧ W.row? (w.heap.size + 1) 0 32 = some (beC 32 n) ∧ W.free? (w.heap.size + 1 + 1) 0 2 = true) := fun W hW =>
    ⟨by rw [hW.row? (by omega) (fun hx => by rcases hx with h1 | h1; omega; have := hmv _ h1; omega)]; exact ra,
     by rw [hW.row? (by omega) (fun hx => by rcases hx with h1 | h1; omega; have := hmv _ h1; omega)]; exact rn,
     by rw [hW.free? (by omega) (fun hx => by rcases hx with h1 | h1; omega; have := hmv _ h1; omega)]; exact hf⟩
  obtain ⟨T, hT⟩ : ∃ T : World → Prop, T = fun W => W.row? w.heap.size 0 32 = some (beC 32 a) ∧ W.row? (w.heap.size + 1) 0 32 = some (beC 32 n) := ⟨_, rfl⟩
  have HT := Lib.hid hT
  have HTO : Hid (∀ W, Only (fun b => b = E.fb ∨ c.mv.ownBlock = some b) w0 W → T W) := fun W hW => by rw [hT]; exact ⟨(HO.out W hW).1, (HO.out W hW).2.1⟩
  have hd0 : Only (fun b => b = E.fb ∨ c.mv.ownBlock = some b) w0 w0.drew := ⟨rfl, rfl, rfl, Nat.le_refl _, fun _ _ _ => rfl⟩
  have t0 : T w0.drew := HTO.out _ hd0
  have HB := Lib.hid hb0
  have HE := Lib.hid e0
  have HD := Lib.hid hd0
  have H0 := Lib.hid h0
  have HG := Lib.hid (fun W (hW : FrOk E W own c f S k) => grow_fr a n ha hn hW)
  have HIA := Lib.hid (fun w => word_Int a ha w)
  have HIN := Lib.hid (fun w => word_Int n hn w)
  have HQ := Lib.hid (fun w => eqW (a := n) (b := 0) hn (by unfold wW; decide) w)
  have HFB := Lib.hid (And.intro hfb hmv)
  have HS := Lib.hid hs0
  have H := Lib.hid h
  clear e0 hb0 hs0 ra rn hf hfb hmv h0 h hT hd0 ha hn
  go_enter Tryz.func197, Tryz.ntmps197
  go_wp2_with fail
  rw [← HE.out]
  refine wp_region_tree T [] (.pure 0 (.pure 1 (.pure 2 (.take 3 (.take 4 (.alt 5 (.pure 6 (.pure 7 (.pure 8 (.pure 9 (.pure 10 .fin))))) .stop)))))) (by kernel_rfl) (by kernel_rfl) ?_
  refine tree_pure ?_ rfl (by rfl) (fun w' hs => ?_) (fun _ _ _ h => h) ?_
  rotate_left
  · clear hs
    go_simp
    try rfl
  simp only [Act.put, tsa, tsb, tsc]
  refine tree_pure ?_ rfl (by rfl) (fun w' hs => ?_) (fun _ _ _ h => h) ?_
  rotate_left
  · clear hs
    go_simp
    try rfl
  simp only [Act.put, tsa, tsb, tsc]
  refine tree_pure ?_ rfl (by rfl) (fun w' hs => ?_) (fun _ _ _ h => h) ?_
  rotate_left
  · clear hs
    go_simp
    try rfl
  simp only [Act.put, tsa, tsb, tsc]
  refine tree_take ?_ t0 rfl (by rfl) (fun w' hs => ?_) (fun _ _ _ h => h) ?_
  rotate_left
  · rw [HT.out] at hs
    obtain ⟨g1, g2⟩ := hs
    go_simp
    try rfl
  simp only [Act.put, tsa, tsb, tsc]
  refine tree_take ?_ t0 rfl (by rfl) (fun w' hs => ?_) (fun _ _ _ h => h) ?_
  rotate_left
  · rw [HT.out] at hs
    obtain ⟨g1, g2⟩ := hs
    go_simp
    try rfl
  simp only [Act.put, tsa, tsb, tsc]
  refine tree_run rfl (fun K hK => ?_)
  go_simp
  refine (HG.out _ (H0.out.below (Below.refl _ _).drew)).mono ?_
  rintro e w1 hg
  obtain ⟨cost, ok, rfl, ho1, hcase⟩ := hg.one
  have HO1 : Hid (Only (fun b => b = E.fb ∨ c.mv.ownBlock = some b) w0 w1) := HD.out.trans ho1 (fun _ h _ => h)
  have t1 : T w1 := HTO.out _ HO1.out
  have HCASE := Lib.hid hcase
  clear hg ho1 hcase
  refine hK.out _ _ t1 ?_
  clear hK K
  refine tree_pure ?_ rfl (by rfl) (fun w' hs => ?_) (fun _ _ _ h => h) ?_
  rotate_left
  · clear hs
    go_simp
    try rfl
  simp only [Act.put, tsa, tsb, tsc]
  refine tree_pure ?_ rfl (by rfl) (fun w' hs => ?_) (fun _ _ _ h => h) ?_
  rotate_left
  · clear hs
    go_simp
    try rfl
  simp only [Act.put, tsa, tsb, tsc]
  refine tree_pure ?_ rfl (by rfl) (fun w' hs => ?_) (fun _ _ _ h => h) ?_
  rotate_left
  · clear hs
    go_simp
    try rfl
  simp only [Act.put, tsa, tsb, tsc]
  refine tree_pure ?_ rfl (by rfl) (fun w' hs => ?_) (fun _ _ _ h => h) ?_
  rotate_left
  · clear hs
    go_simp
    try rfl
  simp only [Act.put, tsa, tsb, tsc]
  refine tree_pure ?_ rfl (by rfl) (fun w' hs => ?_) (fun _ _ _ h => h) ?_
  rotate_left
  · clear hs
    go_simp
    try rfl
  simp only [Act.put, tsa, tsb, tsc]
  refine tree_fin ?_
  clear t0 t1
  rcases HCASE.out with ⟨rfl, hk, hbw⟩ | ⟨rfl, x, hk, mv', hfr, hmv'⟩
  · have HK := Lib.hid hk
    have HF1 := Lib.hid (H0.out.below ((Below.refl w0.heap.size w0).drew.trans hbw))
    clear hk hbw
    go_wp2_with fail
    refine (need_no 11 w1).mono ?_
    rintro e w2 ⟨rfl, rfl⟩
    go_wp2
    exact ⟨rfl, .inl ⟨HK.out, rfl, HF1.out⟩⟩
  · have HK := Lib.hid hk
    have HFR := Lib.hid hfr
    have HSV := Lib.hid hmv'
    clear hk hfr hmv'
    go_wp2_with fail
    refine (need_ok 11 w1).mono ?_
    rintro e w2 ⟨rfl, rfl⟩
    go_wp2_with fail
    refine (evm_pay2 cost HFR.out hN).mono ?_
    intro e w3 hp
    rcases hp with ⟨hc, rfl, hfr3, ho3⟩ | ⟨hc, rfl, rfl⟩
    · have HO3 : Hid (Only (fun b => b = E.fb ∨ c.mv.ownBlock = some b) w0 w3) := HO1.out.trans ho3 (fun i h _ => .inl h)
      have r3 := HO.out w3 HO3.out
      have HC := Lib.hid hc
      have HF3 := Lib.hid hfr3
      have HFIN : Hid (∀ W, Below w3.heap.size w3 W → ∀ L, FrOk E (W.setCells (w.heap.size + 1 + 1) 0 L) own { c with mv := mv' } { f with mem := f.mem ++ List.replicate x 0, gas := f.gas - cost } S k ∧ Only (fun b => b = E.fb ∨ c.mv.ownBlock = some b) w (W.setCells (w.heap.size + 1 + 1) 0 L)) := by
        intro W hW L
        have hf := HF3.out.below hW
        have hO : Only (· = w.heap.size + 1 + 1) W (W.setCells (w.heap.size + 1 + 1) 0 L) := (Only.refl (· = w.heap.size + 1 + 1) _).setCells (fun _ => rfl) _ _
        have hw03 : Only (fun b => b = E.fb ∨ c.mv.ownBlock = some b) w w3 := (Only.mono (S := fun _ => False) (Only.of_below_size HB.out) (fun _ (h : False) => h.elim)).trans HO3.out (fun i h _ => h)
        have hw0 : Only (fun b => b = E.fb ∨ c.mv.ownBlock = some b) w W := Only.trans (T := fun _ => False) hw03 (Only.of_below_size hW) (fun i (h : False) _ => h.elim)
        have ho : Only (fun b => b = E.fb ∨ c.mv.ownBlock = some b) w (W.setCells (w.heap.size + 1 + 1) 0 L) := hw0.trans hO (fun i h hl => by have : i = w.heap.size + 1 + 1 := h; omega)
        have hfb := HFB.out.1
        have hsz := HS.out
        have hml : ∀ g, mv'.ownBlock = some g → c.mv.ownBlock = some g ∨ w0.heap.size ≤ g := HSV.out
        refine ⟨H.out.memory2 ho (by rw [hO.row? hf.lt (by omega)]; exact hf.row) (by rw [hO.free? hf.lt (by omega)]; exact hf.free) ?_ (fun g hg => (hml g hg).imp id (fun h => by omega)) hf.mbyte hf.mlen (Nat.sub_le _ _), ho⟩
        exact Only.own hf.mem hO (fun g hg hx => by
          have : g = w.heap.size + 1 + 1 := hx
          rcases hml g hg with h1 | h1
          · have := HFB.out.2 g h1; omega
          · omega)
      obtain ⟨r31, r32, f33⟩ := r3
      have hq := HQ.out
      have HR31 := Lib.hid r31
      have HR32 := Lib.hid r32
      have HF33 := Lib.hid f33
      clear hc hfr3 ho3 r31
      by_cases hn0 : n = 0
      · have hd : decide (n = 0) = true := decide_eq_true hn0
        rw [hd] at hq
        have HN0 := Lib.hid hn0
        clear hd hn0
        go_wp2
        refine ret_row ty216 rfl _ rfl rfl f33 rfl ?_
        obtain ⟨q1, q2⟩ := HFIN.out w3 (Below.refl _ _) (cat zs216)
        refine .inr ⟨cost, x, mv', HK.out, .inl ⟨HC.out, ?_, q1, q2, fun g hg => (HSV.out g hg).imp id (fun h => by have h1 : w0.heap.size ≤ g := h; have := HS.out; omega)⟩⟩
        rw [HN0.out, if_pos rfl]
        rfl
      · have hd : decide (n = 0) = false := decide_eq_false hn0
        rw [hd] at hq
        have HN0 := Lib.hid hn0
        have hle : a + n ≤ 1048576 := by
          have e := HK.out
          unfold growK at e
          rw [if_neg hn0] at e
          by_cases h1 : a + n ≤ 1048576
          · exact h1
          · rw [if_neg h1] at e; cases e
        have ea : intW a = some a := if_pos (by omega)
        have en : intW n = some n := if_pos (by omega)
        have ra3 := HR31.out
        clear hd hn0 hle f33
        go_wp2_with fail
        refine (HIA.out w3).mono ?_
        rintro e w4 ⟨rfl, hb4⟩
        rw [ea]
        have rn4 := ((brow hb4).1 _ _ _ (World.row?_lt HR32.out)).trans HR32.out
        have HB4 := Lib.hid hb4
        clear hb4 r32 hq ra3
        go_wp2_with fail
        refine (HIN.out w4).mono ?_
        rintro e w5 ⟨rfl, hb5⟩
        rw [en]
        have HB5 := Lib.hid (HB4.out.trans (hb5.mono HB4.out.size))
        have f5 : w5.free? (w.heap.size + 1 + 1) 0 2 = true := by rw [(brow HB5.out).2 _ _ _ (free?_lt HF33.out)]; exact HF33.out
        have hbuild : fillL 2 (plOf zs216) (cat zs216) [(0, .int .i64 (a : Int)), (1, .int .i64 (n : Int))] = some [.int .i64 (a : Int), .int .i64 (n : Int)] := rfl
        have gn : (some n).getD 0 = n := rfl
        rw [gn]
        clear hb5 rn4 ea en gn
        go_wp2
        refine ret_row ty216 rfl _ rfl rfl f5 rfl ?_
        obtain ⟨q1, q2⟩ := HFIN.out w5 HB5.out [.int .i64 (a : Int), .int .i64 (n : Int)]
        refine .inr ⟨cost, x, mv', HK.out, .inl ⟨HC.out, ?_, q1, q2, fun g hg => (HSV.out g hg).imp id (fun h => by have h1 : w0.heap.size ≤ g := h; have := HS.out; omega)⟩⟩
        rw [if_neg HN0.out]
    · have HC := Lib.hid hc
      clear hc
      go_wp2
      exact ⟨rfl, .inr ⟨cost, x, mv', HK.out, .inr ⟨HC.out, rfl, HFR.out⟩⟩⟩
end Go.Proofs.YtikiciojfhfagaaGreat
namespace Go.Proofs.YtikiciojfhfagaaGreat
open Go.RowKit Go.Mun

set_option maxRecDepth 100000 in
set_option maxHeartbeats 1000000 in
theorem evm_bytes {E : Env} {w : World} {own : Own} {c : FV} {f : Fr} {S : St} {k : Nat} (p n : Nat) (hp : p ≤ 1048576) (hn : n ≤ 1048576) (h : FrOk E w own c f S k) :
    Calls Tryz.prog 199 #[.pointer (some ⟨E.fb, 0, none⟩), .agg #[.int .i64 (p : Int), .int .i64 (n : Int)]] w fun e w' => ∃ v, e = .returned v ∧ NewB w w' v (getK f.mem p n) := by
  obtain ⟨w0, e0⟩ : ∃ w0, w0 = w.alloc (.cells #[.int .i64 (p : Int), .int .i64 (n : Int)] 220) := ⟨_, rfl⟩
  have hb0 : Below w.heap.size w w0 := by rw [e0]; exact (Below.refl _ _).alloc (Nat.le_refl _) _
  have hr : w0.row? w.heap.size 0 2 = some [.int .i64 (p : Int), .int .i64 (n : Int)] := by rw [e0]; exact World.row?_alloc_at [.int .i64 (p : Int), .int .i64 (n : Int)] 220 _ rfl rfl
  have c0 : w0.cell? ⟨w.heap.size, 0, none⟩ = some (.int .i64 (p : Int)) := World.row?_cell hr (show 0 < 2 by omega)
  have c1 : w0.cell? ⟨w.heap.size, 1, none⟩ = some (.int .i64 (n : Int)) := by have := World.row?_cell hr (show 1 < 2 by omega); rwa [Nat.zero_add] at this
  obtain ⟨T, hT⟩ : ∃ T : World → Prop, T = fun W => W.cell? ⟨w.heap.size, 0, none⟩ = some (.int .i64 (p : Int)) ∧ W.cell? ⟨w.heap.size, 1, none⟩ = some (.int .i64 (n : Int)) := ⟨_, rfl⟩
  have HT := Lib.hid hT
  have HTB : Hid (∀ W, Below w0.heap.size w0 W → T W) := fun W hW => by
    rw [hT]
    have hl := World.row?_lt hr
    exact ⟨(hW.cell (p := ⟨w.heap.size, 0, none⟩) hl).trans c0, (hW.cell (p := ⟨w.heap.size, 1, none⟩) hl).trans c1⟩
  have hd0 : Below w0.heap.size w0 w0.drew := (Below.refl _ _).drew
  have t0 : T w0.drew := HTB.out _ hd0
  have h0 := (h.below hb0).below hd0
  obtain ⟨ma, mc, hmv, _, hIm⟩ := Ints.of_own' h0.mem
  have hcell := fr_mv h0.row
  rw [hmv] at hcell
  have HG := Lib.hid (mem_get p n hp hn hcell hIm h0.mlen.1)
  have HB := Lib.hid hb0
  have HD := Lib.hid hd0
  have HE := Lib.hid e0
  clear e0 hb0 hr c0 c1 hT hd0 h0 h hIm hcell hmv hp hn
  go_enter Tryz.func199, Tryz.ntmps199
  go_wp2_with fail
  rw [← HE.out]
  refine wp_region_tree T [] (.pure 0 (.pure 1 (.pure 2 (.pure 3 (.take 4 (.pure 5 (.take 6 (.alt 7 (.pure 8 .fin) .stop)))))))) (by kernel_rfl) (by kernel_rfl) ?_
  refine tree_pure ?_ rfl (by rfl) (fun w' hs => ?_) (fun _ _ _ h => h) ?_
  rotate_left
  · clear hs
    go_simp
    try rfl
  simp only [Act.put, tsa, tsb, tsc]
  refine tree_pure ?_ rfl (by rfl) (fun w' hs => ?_) (fun _ _ _ h => h) ?_
  rotate_left
  · clear hs
    go_simp
    try rfl
  simp only [Act.put, tsa, tsb, tsc]
  refine tree_pure ?_ rfl (by rfl) (fun w' hs => ?_) (fun _ _ _ h => h) ?_
  rotate_left
  · clear hs
    go_simp
    try rfl
  simp only [Act.put, tsa, tsb, tsc]
  refine tree_pure ?_ rfl (by rfl) (fun w' hs => ?_) (fun _ _ _ h => h) ?_
  rotate_left
  · clear hs
    go_simp
    try rfl
  simp only [Act.put, tsa, tsb, tsc]
  refine tree_take ?_ t0 rfl (by rfl) (fun w' hs => ?_) (fun _ _ _ h => h) ?_
  rotate_left
  · rw [HT.out] at hs
    obtain ⟨g1, g2⟩ := hs
    go_simp
    try rfl
  simp only [Act.put, tsa, tsb, tsc]
  refine tree_pure ?_ rfl (by rfl) (fun w' hs => ?_) (fun _ _ _ h => h) ?_
  rotate_left
  · clear hs
    go_simp
    try rfl
  simp only [Act.put, tsa, tsb, tsc]
  refine tree_take ?_ t0 rfl (by rfl) (fun w' hs => ?_) (fun _ _ _ h => h) ?_
  rotate_left
  · rw [HT.out] at hs
    obtain ⟨g1, g2⟩ := hs
    go_simp
    try rfl
  simp only [Act.put, tsa, tsb, tsc]
  refine tree_run rfl (fun K hK => ?_)
  go_simp
  refine HG.out.mono ?_
  rintro e w1 ⟨v, rfl, hnb⟩
  have t1 : T w1 := HTB.out _ (HD.out.trans (hnb.below.mono HD.out.size))
  have HNB : Hid (NewB w w1 v (getK f.mem p n)) := hnb.up (HB.out.trans (HD.out.mono HB.out.size))
  clear hnb
  refine hK.out _ _ t1 ?_
  clear hK K
  refine tree_pure ?_ rfl (by rfl) (fun w' hs => ?_) (fun _ _ _ h => h) ?_
  rotate_left
  · clear hs
    go_simp
    try rfl
  simp only [Act.put, tsa, tsb, tsc]
  refine tree_fin ?_
  clear t0 t1
  go_wp2
  go_ret
  exact ⟨_, rfl, HNB.out⟩
end Go.Proofs.YtikiciojfhfagaaGreat
namespace Go.Proofs.YtikiciojfhfagaaGreat
open Go.RowKit Go.Mun

section
variable {E : Env} {w : World} {own : Own} {c : FV} {f : Fr} {S : St} {n : Nat}
/-- What is told is another. -/
theorem FrOk.outs {x : Value} {l : Bts} (h : FrOk E w own c f S n) (hx : RoAt w (mn E own c) x l) : FrOk E (w.setCell ⟨E.fb, 138, none⟩ x) own { c with out := x } { f with out := l } S n := by
  have ho : Only (fun b => b = E.fb) w (w.setCell ⟨E.fb, 138, none⟩ x) := only_cell w E.fb 138 x
  have ho2 : Only (fun b => b = E.fb ∨ c.sv.ownBlock = some b ∨ c.mv.ownBlock = some b ∨ c.lv.ownBlock = some b) w (w.setCell ⟨E.fb, 138, none⟩ x) := ho.mono fun b hb => .inl hb
  have hR : ∀ b, (b = E.fb ∨ c.sv.ownBlock = some b ∨ c.mv.ownBlock = some b ∨ c.lv.ownBlock = some b) → mu own E.fb E.kp c b := fun _ h => .inr h
  obtain ⟨cs, hl1, hl2⟩ := h.logs
  refine h.turn ho2 (set_out x h.row) (by rw [free?_setCell _ (h.one (by omega))]; exact h.free) ⟨rfl, rfl, rfl⟩ rfl rfl (fun _ _ hx => hx) ?_ h.sown h.sval h.slen ?_ h.mown h.mbyte h.mlen ⟨cs, ?_, ?_⟩ h.lown h.llen ?_ ?_ (Nat.le_refl _) h.nxt
  · exact Only.own h.stk ho (fun g hg he => (h.sown g hg).2 he)
  · exact Only.own h.mem ho (fun g hg he => (h.mown g hg).2.1 he)
  · exact Only.own hl1 ho (fun g hg he => (h.lown g hg).2.1 he)
  · exact hl2.only ho2 (fun b h => .inl (hR b h)) (fun _ _ h => h)
  · exact h.ret.only ho2 (fun b h => .inl (hR b h)) (fun _ _ h => h)
  · exact hx.only ho2 (fun b h => .inl (hR b h)) (fun _ _ h => h)
end
end Go.Proofs.YtikiciojfhfagaaGreat
namespace Go.Proofs.YtikiciojfhfagaaGreat
open Go.RowKit Go.Mun

def store8R (f : Fr) (S : St) (a x : Nat) : Res := match growK f.mem.length a 1 with
  | Option.none => .stop 11 f S
  | some (cost, z) => if cost ≤ f.gas then .ok { f with mem := putK (f.mem ++ List.replicate z 0) a [((x % 256 : Nat) : Int)], gas := f.gas - cost } S else .stop 11 f S
def tellR (f : Fr) (S : St) (a n : Nat) : Res := match growK f.mem.length a n with
  | Option.none => .stop 11 f S
  | some (cost, z) => if cost ≤ f.gas then .ok { f with mem := f.mem ++ List.replicate z 0, gas := f.gas - cost, out := getK (f.mem ++ List.replicate z 0) (if n = 0 then 0 else a) n, ended := true } S else .stop 11 f S
/-- The instructions that are told here. -/
def actM (f : Fr) (S : St) (op : Int) (v : List Nat) : Res :=
  if op = 83 then (match v with | [a, x] => store8R f S a x | _ => .none)
  else if op = 243 then (match v with | [a, n] => tellR f S a n | _ => .none)
  else actP f S op v
def stepM : Fr → St → Res := stepR actM turnP

theorem drop_at {l t : Bts} {n : Nat} {a : Int} (h : l.drop n = a :: t) : l[n]?.getD 0 = a ∧ n < l.length ∧ l.drop (n + 1) = t := by
  have h1 : (l.drop n)[0]? = some a := by rw [h]; rfl
  rw [List.getElem?_drop, Nat.add_zero] at h1
  have h2 : n < l.length := by
    rcases Nat.lt_or_ge n l.length with h2 | h2
    · exact h2
    · rw [List.drop_eq_nil_of_le h2] at h; cases h
  refine ⟨by rw [h1]; rfl, h2, ?_⟩
  rw [← List.drop_drop, h]; rfl
theorem step_push1 (f : Fr) (S : St) (x : Int) (t : Bts) (hd : f.code.drop f.next = 96 :: x :: t) (hst : f.m.static = false) (hl : f.stack.length < 1024) (hg : 3 ≤ f.gas) :
    stepM f S = .ok { f with pc := f.next, next := f.next + 2, gas := f.gas - 3, stack := f.stack ++ [x.toNat] } S := by
  obtain ⟨h1, h2, h3⟩ := drop_at hd
  obtain ⟨h4, h5, h6⟩ := drop_at h3
  have ho : opAt f = 96 := h1
  have e : ofL 96 = some (0, 1, 3) := by decide
  unfold stepM stepR
  rw [ho, e]
  simp only
  rw [if_neg (by simp; omega), if_neg (by decide)]
  rw [if_neg (by rw [hst]; simp), if_pos (by simpa using hg)]
  have e1 : popped (enter f) (0 : Int).toNat = { f with pc := f.next, next := f.next + 2 } := by
    show Fr.mk _ _ _ _ _ _ _ _ _ _ _ = _
    simp only [enter, ho, Fr.mk.injEq, true_and, and_true]
    refine ⟨?_, ?_⟩
    · show List.take (f.stack.length - 0) f.stack = f.stack
      rw [Nat.sub_zero, List.take_length]
    · show f.next + 1 + (ownOf 96).toNat = f.next + 2
      rfl
  rw [e1]
  unfold actM
  rw [if_neg (by decide), if_neg (by decide)]
  unfold actP
  rw [if_pos (by decide), if_pos ⟨by show f.next + 1 + 1 ≤ f.code.length; omega, hl⟩]
  have e2 : ownN { f with pc := f.next, next := f.next + 2, gas := f.gas - (3 : Int).toNat } ((96 : Int) - 95).toNat = x.toNat := by
    show beN ((f.code.drop (f.next + 1)).take 1) = _
    rw [h3]
    simp [beN]
  rw [e2]
  rfl
theorem step_store8 (f : Fr) (S : St) (a x : Nat) (t : Bts) (hd : f.code.drop f.next = 83 :: t) (hst : f.m.static = false) (hs : f.stack = [x, a]) (hg : 3 ≤ f.gas) :
    stepM f S = store8R { f with pc := f.next, next := f.next + 1, gas := f.gas - 3, stack := [] } S a x := by
  obtain ⟨h1, h2, h3⟩ := drop_at hd
  have ho : opAt f = 83 := h1
  have e : ofL 83 = some (2, 0, 3) := by decide
  unfold stepM stepR
  rw [ho, e]
  simp only
  rw [if_neg (by rw [hs]; simp), if_neg (by decide)]
  rw [if_neg (by rw [hst]; simp), if_pos (by simpa using hg)]
  have e1 : popped (enter f) (2 : Int).toNat = { f with pc := f.next, next := f.next + 1, stack := [] } := by
    show Fr.mk _ _ _ _ _ _ _ _ _ _ _ = _
    simp only [enter, ho, Fr.mk.injEq, true_and, and_true]
    refine ⟨?_, ?_⟩
    · rw [hs]; rfl
    · show f.next + 1 + (ownOf 83).toNat = f.next + 1
      rfl
  have e2 : tops f (2 : Int).toNat = [a, x] := by unfold tops; rw [hs]; rfl
  rw [e1, e2]
  unfold actM
  rw [if_pos rfl]
  rfl
theorem step_tell (f : Fr) (S : St) (a n : Nat) (t : Bts) (hd : f.code.drop f.next = 243 :: t) (hst : f.m.static = false) (hs : f.stack = [n, a]) :
    stepM f S = tellR { f with pc := f.next, next := f.next + 1, stack := [] } S a n := by
  obtain ⟨h1, h2, h3⟩ := drop_at hd
  have ho : opAt f = 243 := h1
  have e : ofL 243 = some (2, 0, 0) := by decide
  unfold stepM stepR
  rw [ho, e]
  simp only
  rw [if_neg (by rw [hs]; simp), if_neg (by decide)]
  rw [if_neg (by rw [hst]; simp), if_pos (by simp)]
  have e1 : popped (enter f) (2 : Int).toNat = { f with pc := f.next, next := f.next + 1, stack := [] } := by
    show Fr.mk _ _ _ _ _ _ _ _ _ _ _ = _
    simp only [enter, ho, Fr.mk.injEq, true_and, and_true]
    refine ⟨?_, ?_⟩
    · rw [hs]; rfl
    · show f.next + 1 + (ownOf 243).toNat = f.next + 1
      rfl
  have e2 : tops f (2 : Int).toNat = [a, n] := by unfold tops; rw [hs]; rfl
  rw [e1, e2]
  unfold actM
  rw [if_neg (by decide), if_pos rfl]
  rfl
theorem loopR_ok {step : Fr → St → Res} {k : Nat} {f f' : Fr} {S S' : St} (h : step f S = .ok f' S') (he : f.ended = false) (hn : f.next < f.code.length) : loopR step (k + 1) f S = loopR step k f' S' := by
  rw [loopR, if_neg (by rw [he]; rintro (h | h); exact absurd h (by simp); omega), h]
theorem loopR_end {step : Fr → St → Res} {k : Nat} {f : Fr} {S : St} (he : f.ended = true) : loopR step (k + 1) f S = some (0, f, S) := by
  rw [loopR, if_pos (.inl he)]
/-- The code that lays bytes into memory. -/
def dataM : Nat → Bts → Bts
  | _, [] => []
  | i, x :: l => 96 :: x :: 96 :: (i : Int) :: 83 :: dataM (i + 1) l
/-- The code that tells bytes. -/
def codeM (l : Bts) : Bts := dataM 0 l ++ [96, (l.length : Int), 96, 0, 243]
theorem dataM_len : ∀ (l : Bts) (i : Nat), (dataM i l).length = 5 * l.length
  | [], _ => rfl
  | x :: l, i => by simp [dataM, dataM_len l (i + 1)]; omega
theorem codeM_len (l : Bts) : (codeM l).length = 5 * l.length + 5 := by simp [codeM, dataM_len]
/-- The memory behind so many bytes. -/
def memM (m : Bts) : Bts := if m = [] then [] else m ++ List.replicate (32 - m.length) 0
theorem memM_len {m : Bts} (h : m.length ≤ 32) (hn : m ≠ []) : (memM m).length = 32 := by
  unfold memM; rw [if_neg hn]; simp; omega
theorem putK_next (m : Bts) (x : Int) (h : m.length < 32) : putK (if m = [] then List.replicate 32 0 else memM m) m.length [x] = memM (m ++ [x]) := by
  have e : (if m = [] then List.replicate 32 0 else memM m) = m ++ List.replicate (32 - m.length) (0 : Int) := by
    by_cases hm : m = []
    · subst hm; rw [if_pos rfl]; rfl
    · rw [if_neg hm]; unfold memM; rw [if_neg hm]
  rw [e]
  unfold putK memM
  rw [if_neg (by simp)]
  have h1 : (m ++ List.replicate (32 - m.length) (0 : Int)).take m.length = m := by simp
  have h2 : (m ++ List.replicate (32 - m.length) (0 : Int)).drop (m.length + [x].length) = List.replicate (32 - (m ++ [x]).length) 0 := by
    rw [← List.drop_drop]
    simp
    omega
  rw [h1, h2, List.append_assoc]
theorem store8_next (f : Fr) (S : St) (m : Bts) (x : Nat) (hx : x < 256) (hm : m.length < 32) (hf : f.mem = memM m) (hg : 3 ≤ f.gas) :
    ∃ g', g' ≤ f.gas ∧ f.gas ≤ g' + 3 ∧ store8R f S m.length x = .ok { f with mem := memM (m ++ [(x : Int)]), gas := g' } S := by
  have hxm : x % 256 = x := Nat.mod_eq_of_lt hx
  by_cases hn : m = []
  · have e : growK f.mem.length m.length 1 = some (3, 32) := by rw [hf, hn]; rfl
    refine ⟨f.gas - 3, Nat.sub_le _ _, by omega, ?_⟩
    unfold store8R
    rw [e]
    simp only
    rw [if_pos hg, hxm]
    have hp := putK_next m (x : Int) hm
    rw [if_pos hn] at hp
    have e2 : f.mem = [] := by rw [hf, hn]; rfl
    rw [e2, List.nil_append, hp]
  · have e : growK f.mem.length m.length 1 = some (0, 0) := by
      rw [hf, memM_len (by omega) hn]
      unfold growK
      rw [if_neg (by decide), if_pos (by omega)]
      have : max (32 / 32) ((m.length + 1 + 31) / 32) = 1 := by omega
      rw [this]; rfl
    refine ⟨f.gas, Nat.le_refl _, Nat.le_add_right _ _, ?_⟩
    unfold store8R
    rw [e]
    simp only
    rw [if_pos (Nat.zero_le _), hxm]
    have hp := putK_next m (x : Int) hm
    rw [if_neg hn] at hp
    rw [hf, List.replicate_zero, List.append_nil, hp, Nat.sub_zero]
theorem run_bytes (S : St) (k : Nat) : ∀ (l m t : Bts) (f : Fr), Byt l → m.length + l.length ≤ 32 → f.code.drop f.next = dataM m.length l ++ t → f.ended = false → f.stack = [] → f.m.static = false → f.mem = memM m → 12 * l.length ≤ f.gas →
    ∃ pc' g', g' ≤ f.gas ∧ f.gas ≤ g' + 12 * l.length ∧ loopR stepM (k + 3 * l.length) f S = loopR stepM k { f with pc := pc', next := f.next + 5 * l.length, gas := g', mem := memM (m ++ l) } S
  | [], m, t, f, _, _, _, _, _, _, hm, _ => ⟨f.pc, f.gas, Nat.le_refl _, by simp, by
      rw [List.append_nil, ← hm]
      rfl⟩
  | x :: l, m, t, f, hb, hl, hd, he, hs, hst, hm, hg => by
    have hx := hb x (by simp)
    simp only [List.length_cons] at hl hg
    simp only [dataM, List.cons_append] at hd
    have s1 := step_push1 f S x _ hd hst (by rw [hs]; simp) (by omega)
    obtain ⟨_, n1, d1⟩ := drop_at hd
    obtain ⟨_, n2, d2⟩ := drop_at d1
    have s2 := step_push1 { f with pc := f.next, next := f.next + 2, gas := f.gas - 3, stack := f.stack ++ [x.toNat] } S (m.length : Int) _ d2 hst (by rw [hs]; simp) (by show 3 ≤ f.gas - 3; omega)
    obtain ⟨_, n3, d3⟩ := drop_at d2
    obtain ⟨_, n4, d4⟩ := drop_at d3
    have s3 := step_store8 { f with pc := f.next + 2, next := f.next + 2 + 2, gas := f.gas - 3 - 3, stack := f.stack ++ [x.toNat] ++ [(m.length : Int).toNat] } S m.length x.toNat _ d4 hst (by rw [hs]; rfl) (by show 3 ≤ f.gas - 3 - 3; omega)
    obtain ⟨_, n5, d5⟩ := drop_at d4
    obtain ⟨g1, hg1, hg2, s4⟩ := store8_next { f with pc := f.next + 2 + 2, next := f.next + 2 + 2 + 1, gas := f.gas - 3 - 3 - 3, stack := [] } S m x.toNat (by omega) (by omega) hm (by show 3 ≤ f.gas - 3 - 3 - 3; omega)
    have s5 := s3.trans s4
    have hxx : ((x.toNat : Nat) : Int) = x := by omega
    rw [hxx] at s5
    have hg1' : g1 ≤ f.gas - 3 - 3 - 3 := hg1
    have hg2' : f.gas - 3 - 3 - 3 ≤ g1 + 3 := hg2
    obtain ⟨pc', g', hp1, hp2, hp3⟩ := run_bytes S k l (m ++ [x]) t { f with pc := f.next + 2 + 2, next := f.next + 2 + 2 + 1, gas := g1, stack := [], mem := memM (m ++ [x]) } (fun y hy => hb y (List.mem_cons_of_mem _ hy)) (by simp; omega) (by simpa using d5) he rfl hst rfl (by show 12 * l.length ≤ g1; omega)
    refine ⟨pc', g', Nat.le_trans hp1 (by show g1 ≤ f.gas; omega), ?_, ?_⟩
    · have : g1 ≤ g' + 12 * l.length := hp2
      simp only [List.length_cons]; omega
    · rw [show k + 3 * (x :: l).length = (k + 3 * l.length) + 1 + 1 + 1 by simp only [List.length_cons]; omega]
      rw [loopR_ok s1 he n1, loopR_ok s2 he n3, loopR_ok s5 he n5, hp3]
      congr 1
      rw [hs]
      simp only [Fr.mk.injEq, true_and, and_true, List.length_cons, List.append_assoc, List.cons_append, List.nil_append]
      omega
/-- The whole run. -/
theorem run_codeM (S : St) (l : Bts) (f : Fr) (hb : Byt l) (h1 : 1 ≤ l.length) (h2 : l.length ≤ 20) (hc : f.code = codeM l) (hn : f.next = 0) (he : f.ended = false) (hs : f.stack = []) (hst : f.m.static = false) (hm : f.mem = []) (hg : 1000 ≤ f.gas) :
    ∃ f', loopR stepM (4 + 3 * l.length) f S = some (0, f', S) ∧ f'.out = l ∧ f'.gas ≤ f.gas ∧ f.gas ≤ f'.gas + 1000 := by
  have hne : l ≠ [] := by intro h; rw [h] at h1; cases h1
  obtain ⟨pc', g', hp1, hp2, hp3⟩ := run_bytes S 4 l [] [96, (l.length : Int), 96, 0, 243] f hb (by simp; omega) (by rw [hc, hn]; rfl) he hs hst (by rw [hm]; rfl) (by omega)
  rw [List.nil_append] at hp3
  have hd : f.code.drop (f.next + 5 * l.length) = [96, (l.length : Int), 96, 0, 243] := by
    rw [hc, hn, Nat.zero_add]
    unfold codeM
    rw [List.drop_append_of_le_length (by rw [dataM_len]; exact Nat.le_refl _), List.drop_eq_nil_of_le (by rw [dataM_len]; exact Nat.le_refl _)]
    rfl
  obtain ⟨_, n1, d1⟩ := drop_at hd
  obtain ⟨_, n2, d2⟩ := drop_at d1
  obtain ⟨_, n3, d3⟩ := drop_at d2
  obtain ⟨_, n4, d4⟩ := drop_at d3
  obtain ⟨_, n5, d5⟩ := drop_at d4
  have s1 := step_push1 { f with pc := pc', next := f.next + 5 * l.length, gas := g', mem := memM l } S (l.length : Int) _ hd hst (by rw [show Fr.stack _ = f.stack from rfl, hs]; decide) (by show 3 ≤ g'; omega)
  have s2 := step_push1 { f with pc := f.next + 5 * l.length, next := f.next + 5 * l.length + 2, gas := g' - 3, mem := memM l, stack := f.stack ++ [(l.length : Int).toNat] } S 0 _ d2 hst (by show (f.stack ++ [(l.length : Int).toNat]).length < 1024; rw [hs]; simp) (by show 3 ≤ g' - 3; omega)
  have s3 := step_tell { f with pc := f.next + 5 * l.length + 2, next := f.next + 5 * l.length + 2 + 2, gas := g' - 3 - 3, mem := memM l, stack := f.stack ++ [(l.length : Int).toNat] ++ [(0 : Int).toNat] } S 0 l.length _ d4 hst (by show f.stack ++ [(l.length : Int).toNat] ++ [(0 : Int).toNat] = _; rw [hs]; rfl)
  have e : growK (memM l).length 0 l.length = some (0, 0) := by
    rw [memM_len (by omega) hne]
    unfold growK
    rw [if_neg (by omega), if_pos (by omega)]
    have : max (32 / 32) ((0 + l.length + 31) / 32) = 1 := by omega
    rw [this]; rfl
  have ek : getK (memM l ++ List.replicate 0 0) (if l.length = 0 then 0 else 0) l.length = l := by
    unfold getK memM
    rw [if_neg hne, if_neg (by omega), List.drop_zero, List.replicate_zero, List.append_nil, List.append_assoc]
    simp
  unfold tellR at s3
  rw [e] at s3
  simp only at s3
  rw [if_pos (Nat.zero_le _), ek] at s3
  have q1 := loopR_ok (k := 3) s1 he n1
  have q2 := loopR_ok (k := 2) s2 he n3
  have q3 := loopR_ok (k := 1) s3 he n5
  refine ⟨_, hp3.trans (q1.trans (q2.trans (q3.trans (loopR_end rfl)))), rfl, ?_, ?_⟩
  · show g' - 3 - 3 - 0 ≤ f.gas
    omega
  · show f.gas ≤ g' - 3 - 3 - 0 + 1000
    omega
end Go.Proofs.YtikiciojfhfagaaGreat
