/-
  Contracts of the reference's Info and Line.
-/
import Derived.Test.YtaoacfkifcglfaaDoorAll
import Derived.Test.YtaoacfkifcglfaaDoorLawA
namespace Go.Proofs.YtaoacfkifcglfaaDoor
open Go.RowKit Go.Mun
attribute [local irreducible] Inf.c infZC infsC infs0

def infAt (m : Nat) : Inf := infT[m]?.getD infZ
theorem infAt_get (m : Nat) (hm : m < 256) : infT[m]? = some (infAt m) := by
  unfold infAt
  rw [List.getElem?_eq_getElem (by rw [infT_len]; exact hm)]; rfl
theorem infAt_ok (m : Nat) (hm : m < 256) : (infAt m).name = nameL m ∧ (infAt m).pops = popsOf (costL m) ∧ (infAt m).pushes = pushesOf (costL m) ∧ (infAt m).gas = gasOf (costL m) := by
  have h := List.all_eq_true.1 infT_ok m (List.mem_range.2 hm)
  simp only [Bool.and_eq_true, decide_eq_true_eq] at h
  exact ⟨h.1.1.1, h.1.1.2, h.1.2, h.2⟩

/-- An array that was just laid and stored. -/
theorem laid_rowG {p : Nat} {w0 w4 W : World} {n ty : Nat} {z L : List Value} (hW : W = (w4.alloc (.cells z.toArray ty)).setCells w4.heap.size 0 L) (hz : z.length = n) (hp : p ≤ w0.heap.size) (hb : Below p w0 w4) (hok : okL n L = true) :
    Below p w0 W ∧ Below w4.heap.size w4 W ∧ W.row? w4.heap.size 0 n = some L := by
  subst hW
  have hs := Nat.le_trans hp hb.size
  exact ⟨(hb.alloc hs _).setCells hs _ _, ((Below.refl _ _).alloc (Nat.le_refl _) _).setCells (Nat.le_refl _) _ _, row?_setCells_whole _ (World.free?_alloc_at _ _ rfl (by omega)) hok⟩
theorem infT_ok1280 : okL 1280 (infsC infT) = true := by
  have := infsC_ok infT
  rw [infT_len] at this
  exact this
theorem inf_row {w : World} {b : Nat} (h : w.row? b 0 1280 = some (infsC infT)) (m : Nat) (hm : m < 256) : w.row? b (m * 5) 5 = some (infAt m).c := by
  rw [World.row?_sub h (Nat.zero_le _) (by omega), Nat.sub_zero, Nat.mul_comm m 5, infsC_at infT m _ (infAt_get m hm)]

set_option maxRecDepth 100000 in
set_option maxHeartbeats 1000000 in
theorem ref_info (m : Nat) (hm : m < 256) (w : World) : Calls Tryd.prog 50 #[.int .u8 (m : Int)] w fun e w' => e = .returned (.tuple #[.agg (infAt m).c.toArray, .bool (!(nameL m).isEmpty)]) ∧ Below w.heap.size w w' := by
  have hf0 : (w.alloc (.cells infZC.toArray 79)).free? w.heap.size 0 5 = true := World.free?_alloc_at _ _ rfl (by rw [okL_len infZC_ok]; decide)
  have HF0 := Lib.hid hf0
  clear hf0
  go_enter Tryd.func50, Tryd.ntmps50
  go_wp2_with fail
  refine (ref_all _).mono ?_
  rintro e w1 ⟨rfl, hb⟩
  have B1 := Lib.hid (show Below w.heap.size w w1 from ((Below.refl _ _).alloc (Nat.le_refl _) _).trans (hb.mono (by simp)))
  have F1 := Lib.hid (free?_below hb (by simp) HF0.out)
  clear hb
  have ok := infT_ok1280
  have h0 := infs0_len
  go_wp2
  clear h0
  obtain ⟨W, hW⟩ : ∃ W, W = (w1.alloc (.cells infs0.toArray 82)).setCells w1.heap.size 0 (infsC infT) := ⟨_, rfl⟩
  rw [← hW]
  obtain ⟨b2, d2, r2⟩ := laid_rowG hW infs0_len (Nat.le_refl _) B1.out ok
  have hrow := inf_row r2 m hm
  have hcell := inf_cell1 hrow
  rw [(infAt_ok m hm).1] at hcell
  have hf : W.free? w.heap.size 0 5 = true := free?_below d2 (free?_lt F1.out) F1.out
  have hlt := free?_lt F1.out
  have hne : w1.heap.size ≠ w.heap.size := by omega
  have B2 := Lib.hid b2
  have HF := Lib.hid hf
  have hok := Inf.ok (infAt m)
  clear hW b2 d2 r2 hlt ok
  generalize w1.heap.size = B4 at *
  obtain ⟨q, hq⟩ : ∃ q, q = str (nameL m) := ⟨_, rfl⟩
  have hqe : q.toList.isEmpty = (nameL m).isEmpty := by rw [hq, str_toList]
  rw [← hq] at hcell
  clear hq
  generalize hx : infAt m = x at *
  generalize he : (nameL m).isEmpty = em at *
  have HX := Lib.hid hx
  have HE := Lib.hid he
  clear hx he
  have i0 : (0 : Int) ≤ (m : Int) := by omega
  have i1 : (m : Int) < 256 := by omega
  go_region_held3 (fun w' => w'.cell? ⟨B4, m * 5 + 1, none⟩ = some (.string q) ∧ w'.row? B4 (m * 5) 5 = some (Inf.c x)) (first | exact ⟨hcell, hrow⟩ | exact ⟨(World.cell?_setCells_block _ _ _ _ hne).trans hcell, (World.row?_setCells_other _ _ _ hne).trans hrow⟩) ((fail))
  all_goals
    go_wp2
    refine ret_row2 ty79 rfl (Inf.c x) _ rfl rfl rfl (row?_setCells_whole _ hf hok) ⟨by rw [HX.out, HE.out]; rfl, ?_⟩
    exact B2.out.drew.setCells (Nat.le_refl _) _ _

set_option maxRecDepth 100000 in
set_option maxHeartbeats 1000000 in
theorem ref_line (m : Nat) (hm : m < 256) (w : World) : Calls Tryd.prog 31 #[.int .u8 (m : Int)] w fun e w' =>
    e = .returned (.tuple #[.string (str (nameL m)), .int .i64 (popsOf (costL m)), .int .i64 (pushesOf (costL m)), .int .i64 (gasOf (costL m))]) ∧ Below w.heap.size w w' := by
  obtain ⟨e1, e2, e3, e4⟩ := infAt_ok m hm
  have hok := Inf.ok (infAt m)
  have hz := okL_len infZC_ok
  have HI : Hid (∀ w, Calls Tryd.prog 50 #[.int .u8 (m : Int)] w fun e w' => e = .returned (.tuple #[.agg (infAt m).c.toArray, .bool (!(nameL m).isEmpty)]) ∧ Below w.heap.size w w') := Lib.hid fun w => ref_info m hm w
  obtain ⟨x, hx⟩ : ∃ x, x = infAt m := ⟨_, rfl⟩
  rw [← hx] at e1 e2 e3 e4 hok HI
  have E1 := Lib.hid e1
  have E2 := Lib.hid e2
  have E3 := Lib.hid e3
  have E4 := Lib.hid e4
  clear e1 e2 e3 e4 hx
  go_enter Tryd.func31, Tryd.ntmps31
  go_wp2_with fail
  refine (HI.out _).mono ?_
  rintro e w1 ⟨rfl, hb⟩
  have B1 := Lib.hid hb
  clear hb
  go_wp2
  obtain ⟨W, hW⟩ : ∃ W, W = (w1.alloc (.cells infZC.toArray 79)).setCells w1.heap.size 0 x.c := ⟨_, rfl⟩
  rw [← hW]
  obtain ⟨b2, d2, r2⟩ := laid_rowG hW hz (Nat.le_refl _) B1.out hok
  have B2 := Lib.hid b2
  have c1 : W.cell? ⟨w1.heap.size, 1, none⟩ = some (.string (str x.name)) := by have := World.row?_cell r2 (i := 1) (by decide); rw [Nat.zero_add] at this; rw [this]; unfold Inf.c; rfl
  have c2 : W.cell? ⟨w1.heap.size, 2, none⟩ = some (.int .i64 x.pops) := by have := World.row?_cell r2 (i := 2) (by decide); rw [Nat.zero_add] at this; rw [this]; unfold Inf.c; rfl
  have c3 : W.cell? ⟨w1.heap.size, 3, none⟩ = some (.int .i64 x.pushes) := by have := World.row?_cell r2 (i := 3) (by decide); rw [Nat.zero_add] at this; rw [this]; unfold Inf.c; rfl
  have c4 : W.cell? ⟨w1.heap.size, 4, none⟩ = some (.int .i64 x.gas) := by have := World.row?_cell r2 (i := 4) (by decide); rw [Nat.zero_add] at this; rw [this]; unfold Inf.c; rfl
  clear hW b2 d2 r2 hz hok
  generalize w1.heap.size = p at *
  go_quiet (fail)
  go_wp2
  refine bodyPost_ret (v := .tuple #[.string (str x.name), .int .i64 x.pops, .int .i64 x.pushes, .int .i64 x.gas]) ?_ rfl ⟨by rw [E1.out, E2.out, E3.out, E4.out], below_drewN B2.out _⟩
  simp [results, Tryd.results31, go_sem]
end Go.Proofs.YtaoacfkifcglfaaDoor
