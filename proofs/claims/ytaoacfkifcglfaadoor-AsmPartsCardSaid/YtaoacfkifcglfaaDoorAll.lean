/-
  The contract of the reference's all: the whole table of instructions by bytes.
-/
import Derived.Test.YtaoacfkifcglfaaDoorRng
import Derived.Deep.RegionHeld3
namespace Go.Mun
theorem rangesT_len (k : Nat) : (rangesT k).length = 256 := by simp [rangesT]
theorem rangesT_set (k : Nat) : (rangesT k).set k (rangesL k) = rangesT (k + 1) := by
  apply List.ext_getElem (by simp [rangesT])
  intro i h1 h2
  simp only [List.getElem_set, rangesT, List.getElem_map, List.getElem_range]
  by_cases hi : k = i
  · subst hi; simp
  · rw [if_neg hi]
    by_cases h3 : i < k
    · rw [if_pos h3, if_pos (by omega)]
    · rw [if_neg h3, if_neg (by omega)]
theorem rangesT_zero : rangesT 0 = List.replicate 256 infZ := by
  have h : ∀ n : Nat, ((List.range n).map fun i => if i < 0 then rangesL i else infZ) = List.replicate n infZ := by
    intro n
    apply List.ext_getElem (by rw [List.length_map, List.length_range, List.length_replicate])
    intro i h1 h2
    rw [List.getElem_map, List.getElem_replicate, if_neg (Nat.not_lt_zero _)]
  exact h 256
theorem laidT_len (k : Nat) : (laidT k).length = 256 := by
  unfold laidT
  have : ∀ (xs l : List Inf), l.length = 256 → (xs.foldl (fun l x => l.set x.op.toNat x) l).length = 256 := by
    intro xs
    induction xs with
    | nil => intro l h; exact h
    | cons x xs ih => intro l h; exact ih _ (by simpa using h)
  exact this _ _ (rangesT_len 256)
theorem laidT_set (k : Nat) (x : Inf) (h : tableT[k]? = some x) : (laidT k).set x.op.toNat x = laidT (k + 1) := by
  unfold laidT
  rw [List.take_add_one, h, List.foldl_append]
  rfl
theorem table_op : ∀ k : Fin 69, ∃ x, tableT[k.1]? = some x ∧ 0 ≤ x.op ∧ x.op < 256 := by
  intro k
  have : ∀ k : Fin 69, 0 ≤ (tableT[k.1]?.getD infZ).op ∧ (tableT[k.1]?.getD infZ).op < 256 := by decide +kernel
  have h := this k
  have hl : k.1 < tableT.length := k.2
  rw [List.getElem?_eq_getElem hl] at h ⊢
  exact ⟨_, rfl, h⟩
end Go.Mun
namespace Go.Proofs.YtaoacfkifcglfaaDoor
open Go.RowKit Go.Mun
def infs0 : List Value := infsC (List.replicate 256 infZ)
theorem ty82 : RowTy Tryd.prog 82 1280 := ⟨⟨_, Tryd.underlying82, rfl⟩, by kernel_rfl⟩
theorem ld82 (ρ : Operand → Value) (dst : Option Tmp) (x : Operand) (t : TypeId) (pos : String) (after : Array Edge) (gd : Option (Nat × Bool)) (w : World) : (execOp ρ ⟨dst, .load 82 x, t, pos, after, gd⟩).run Tryd.prog w = asNext (ldRow Tryd.prog 82 1280 (ρ x) w) := ex_load ρ dst x t pos after gd w ty82
theorem st82 (ρ : Operand → Value) (dst : Option Tmp) (x y : Operand) (t : TypeId) (pos : String) (after : Array Edge) (gd : Option (Nat × Bool)) (w : World) : (execOp ρ ⟨dst, .store 82 x y, t, pos, after, gd⟩).run Tryd.prog w = asSkip (stRow Tryd.prog 82 1280 (ρ x) (ρ y) w) := ex_store ρ dst x y t pos after gd w ty82
theorem al82 (ρ : Operand → Value) (dst : Option Tmp) (t : TypeId) (pos : String) (after : Array Edge) (gd : Option (Nat × Bool)) (w : World) : (execOp ρ ⟨dst, .alloc 82, t, pos, after, gd⟩).run Tryd.prog w = .ok (.value (.pointer (some ⟨w.heap.size, 0, none⟩))) (w.alloc (.cells infs0.toArray 82)) := ex_alloc ρ dst t pos after gd w (fun _ => by kernel_rfl)
attribute [go_sem ↓] ld82 st82 al82
theorem infs0_len : infs0.length = 1280 := by unfold infs0; rw [infsC_len, List.length_replicate]
attribute [local irreducible] Inf.c infZC infsC infs0

/-- The table while it is laid: its block, the block for the result. -/
structure AllR (l : List Inf) (w wr : World) : Prop where
  below : Below w.heap.size w wr
  size : w.heap.size + 1 < wr.heap.size
  res : wr.free? w.heap.size 0 1280 = true
  free : wr.free? (w.heap.size + 1) 0 1280 = true
  row : wr.row? (w.heap.size + 1) 0 1280 = some (infsC l)
  len : l.length = 256

theorem AllR.start (w : World) : AllR (rangesT 0) w ((w.alloc (.cells infs0.toArray 82)).alloc (.cells infs0.toArray 82)) := by
  have hs : (w.alloc (.cells infs0.toArray 82)).heap.size = w.heap.size + 1 := by simp
  refine ⟨((Below.refl _ _).alloc (Nat.le_refl _) _).alloc (by simp) _, by simp, ?_, ?_, ?_, rangesT_len 0⟩
  · rw [World.free?_alloc_lt _ (by simp)]; exact World.free?_alloc_at _ _ rfl (by rw [infs0_len]; decide)
  · rw [← hs]; exact World.free?_alloc_at _ _ rfl (by rw [infs0_len]; decide)
  · rw [← hs, World.row?_alloc_at _ _ _ rfl infs0_len, rangesT_zero]; unfold infs0; rfl
theorem AllR.next {l : List Inf} {w wr w2 : World} (h : AllR l w wr) (hb : Below wr.heap.size wr w2) : AllR l w w2 := by
  obtain ⟨h1, h2, h3, h4, h5, h6⟩ := h
  have l1 := free?_lt h3
  have l2 := free?_lt h4
  exact ⟨h1.trans (hb.mono h1.size), Nat.lt_of_lt_of_le h2 hb.size, free?_below hb l1 h3, free?_below hb l2 h4, by rw [(brow hb).1 _ _ _ l2]; exact h5, h6⟩
theorem AllR.drew {l : List Inf} {w wr : World} (h : AllR l w wr) : AllR l w wr.drew := ⟨h.below.drew, h.size, h.res, h.free, h.row, h.len⟩
theorem AllR.set {l : List Inf} {w wr : World} (h : AllR l w wr) (i : Nat) (hi : i < 256) (x : Inf) : AllR (l.set i x) w (wr.setCells (w.heap.size + 1) (i * 5) x.c) := by
  obtain ⟨h1, h2, h3, h4, h5, h6⟩ := h
  have hc : x.c.length = 5 := by unfold Inf.c; rfl
  refine ⟨h1.setCells (by omega) _ _, by simpa using h2, by rw [World.free?_setCells']; exact h3, by rw [World.free?_setCells']; exact h4, ?_, by simpa using h6⟩
  rw [World.row?_setCells_in (i * 5) x.c h5 (Nat.zero_le _) (by rw [hc]; omega), Nat.sub_zero, Nat.mul_comm i 5, infsC_set l i x (by omega)]
theorem AllR.at {l : List Inf} {w wr : World} (h : AllR l w wr) (i : Nat) (hi : i < 256) : wr.free? (w.heap.size + 1) (i * 5) 5 = true :=
  World.free?_sub h.free (by omega)

/-- The lines of the table in their block. -/
def TblR (b : Nat) (wr : World) : Prop := ∀ (i : Nat) (x : Inf), tableT[i]? = some x → wr.row? b (i * 5) 5 = some x.c
theorem TblR.new (w : World) : TblR w.heap.size (w.alloc (.cells (infsC tableT).toArray 79)) := by
  intro i x hx
  have hi : i < tableT.length := (List.getElem?_eq_some_iff.1 hx).1
  have hl : tableT.length = 69 := rfl
  rw [World.row?_alloc_sub _ _ _ rfl (by rw [infsC_len]; omega), Nat.mul_comm i 5, infsC_at _ i x hx]
theorem TblR.set {b b' o : Nat} {cs : List Value} {wr : World} (h : TblR b wr) (hb : b ≠ b') : TblR b (wr.setCells b' o cs) := by
  intro i x hx
  rw [World.row?_setCells_other _ _ _ hb]; exact h i x hx
theorem inf_cell0 {w : World} {b o : Nat} {x : Inf} (h : w.row? b o 5 = some x.c) : w.cell? ⟨b, o, none⟩ = some (.int .u8 x.op) := by
  have := World.row?_cell h (i := 0) (by decide)
  simp only [Nat.add_zero] at this
  rw [this]; unfold Inf.c; rfl
theorem inf_cell1 {w : World} {b o : Nat} {x : Inf} (h : w.row? b o 5 = some x.c) : w.cell? ⟨b, o + 1, none⟩ = some (.string (str x.name)) := by
  rw [World.row?_cell h (i := 1) (by decide)]; unfold Inf.c; rfl

set_option maxRecDepth 100000 in
set_option maxHeartbeats 1000000 in
theorem ref_all (w : World) : Calls Tryd.prog 51 #[] w fun e w' => e = .returned (.agg (infsC infT).toArray) ∧ Below w.heap.size w w' := by
  go_enter Tryd.func51, Tryd.ntmps51
  go_wp2
  go_loopw [2] (fun i wr => ∃ k : Nat, k ≤ 256 ∧ i = .int .i64 (k : Int) ∧ Hid (AllR (rangesT k) w wr)) (fun i _ => 256 - (intOf i).toNat)
  case atStart => exact ⟨0, by omega, rfl, Lib.hid (AllR.start w)⟩
  case round =>
    obtain ⟨k, hk, rfl, HR⟩ := hrel
    by_cases hlt : k < 256
    · go_wp2_with fail
      refine (ref_ranges k hlt _).mono ?_
      rintro e w1 ⟨rfl, hb⟩
      have H1 := Lib.hid (HR.out.next hb)
      have hf := H1.out.at k hlt
      have hok := Inf.ok (rangesL k)
      have HS := Lib.hid (rangesT_set k)
      clear hb
      generalize hx : rangesL k = x at *
      clear hx
      go_wp2
      go_roundw
      case rel => exact ⟨k + 1, by omega, by go_num, Lib.hid (by have := H1.out.set k hlt x; rw [HS.out] at this; exact this)⟩
      case measure => simp [intOf]; omega
    · have hk256 : k = 256 := by omega
      rw [hk256] at HR
      have hge : 256 ≤ k := by omega
      clear hk256
      go_wp2_with fail
      refine (ref_table _).mono ?_
      rintro e w1 ⟨rfl, hw1⟩
      have hb := (Below.refl wr.heap.size wr).alloc (Nat.le_refl _) (.cells (infsC tableT).toArray 79)
      have ht := TblR.new wr
      rw [hw1] at hb ht
      have A1 := Lib.hid (HR.out.next hb)
      have T1 := Lib.hid ht
      have hne : wr.heap.size ≠ w.heap.size + 1 := by have := HR.out.size; omega
      clear hb ht hw1
      generalize wr.heap.size = Bt at *
      go_wp2
      go_loopw [4] (fun i wr => ∃ k : Nat, k ≤ 69 ∧ i = .int .i64 (k : Int) ∧ Hid (AllR (laidT k) w wr) ∧ Hid (TblR Bt wr)) (fun i _ => 69 - (intOf i).toNat)
      case atStart => exact ⟨0, by omega, rfl, A1, T1⟩
      case round =>
        obtain ⟨k, hk, rfl, HR, HT⟩ := hrel
        by_cases hlt : k < 69
        · obtain ⟨x, hx, x0, x1⟩ := table_op ⟨k, hlt⟩
          simp only at hx
          obtain ⟨o, ho⟩ := Int.eq_ofNat_of_zero_le x0
          have hrow := HT.out k x hx
          have hcell := inf_cell0 hrow
          rw [ho] at hcell x1
          have ho256 : o < 256 := by omega
          have hf := HR.out.at o ho256
          have hok := Inf.ok x
          have HS : Hid ((laidT k).set o x = laidT (k + 1)) := Lib.hid (by
            have := laidT_set k x hx
            rw [ho, Int.toNat_natCast] at this; exact this)
          clear hx ho x0
          go_wp2
          go_region_held3 (fun w' => w'.cell? ⟨Bt, k * 5, none⟩ = some (.int .u8 (o : Int)) ∧ w'.row? Bt (k * 5) 5 = some (Inf.c x)) (first | exact ⟨hcell, hrow⟩ | exact ⟨(World.cell?_setCells_block _ _ _ _ hne).trans hcell, (World.row?_setCells_other _ _ _ hne).trans hrow⟩) ((fail))
          go_wp2
          go_roundw
          case rel => exact ⟨k + 1, by omega, by go_num, Lib.hid (by have := HR.out.drew.set o ho256 x; rw [HS.out] at this; exact this), Lib.hid (TblR.set (wr := wr.drew) HT.out hne)⟩
          case measure => simp [intOf]; omega
        · have hk69 : k = 69 := by omega
          have hge2 : 69 ≤ k := by omega
          rw [hk69] at HR
          clear hk69
          have hr1 := HR.out.row
          have hr2 := HR.out.res
          have hok : okL 1280 (infsC (laidT 69)) = true := by
            have := infsC_ok (laidT 69)
            rw [laidT_len] at this
            exact this
          have hbl := HR.out.below
          have HBL := Lib.hid hbl
          clear hbl
          go_wp2
          exact ret_row ty82 rfl _ rfl rfl hr2 hok ⟨rfl, HBL.out.setCells (Nat.le_refl _) _ _⟩
end Go.Proofs.YtaoacfkifcglfaaDoor
