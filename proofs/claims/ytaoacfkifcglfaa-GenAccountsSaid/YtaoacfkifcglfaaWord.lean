import Derived.Test.YtaoacfkifcglfaaOpsJumpsW
import Derived.Test.YtaoacfkifcglfaaTy
import Derived.Test.YtaoacfkifcglfaaNum
namespace Go.Proofs.Ytaoacfkifcglfaa
open Go.RowKit Go.Mun

theorem gen_addr (n : Int) (w : World) :
    Calls Try.prog 22 #[.int .i64 n] w fun e w' => e = .returned (.agg (beC 20 (n % 256).toNat).toArray) ∧ Below w.heap.size w w' := by
  obtain ⟨m, hm⟩ : ∃ m : Nat, n % 256 = (m : Int) := ⟨(n % 256).toNat, by omega⟩
  have H := Lib.hid (be_small 20 m (by decide) (by omega))
  go_enter Try.func22, Try.ntmps22
  go_wp2
  refine ret_row ty47 rfl _ rfl rfl (by simp [go_sem]) (by simp [go_sem]) ⟨?_, ?_⟩
  · rw [H.out, hm]; rfl
  · exact (((Below.refl _ _).alloc (Nat.le_refl _) _).alloc (by simp) _).setCells (Nat.le_refl _) _ _
structure NW (x0 x1 x2 x3 : Nat) (N k : Nat) (w wr : World) : Prop where
  below : Below w.heap.size w wr
  xs : ∀ q, q < 4 → wr.cell? ⟨w.heap.size, q, none⟩ = some (.int .u64 (limb x0 x1 x2 x3 q : Nat))
  size : w.heap.size + 1 + 1 < wr.heap.size
  res : wr.free? (w.heap.size + 1) 0 32 = true
  out : wr.row? (w.heap.size + 1 + 1) 0 32 = some (beZ 32 N k)
  free : wr.free? (w.heap.size + 1 + 1) 0 32 = true

theorem NW.step {x0 x1 x2 x3 N k : Nat} {w wr : World} (h : NW x0 x1 x2 x3 N k w wr) (hk : k < 32) (x : Int) (hx : x = (N / 256 ^ (31 - k) % 256 : Nat)) :
    NW x0 x1 x2 x3 N (k + 1) w (wr.setCell ⟨w.heap.size + 1 + 1, k, none⟩ (.int .u8 x)) := by
  obtain ⟨h1, h2, h3, h4, h5, h6⟩ := h
  have hf := World.free?_sub h6 (o' := k) (n' := 1) (by omega)
  refine ⟨h1.setCell (by simp; omega) _, fun q hq => ?_, by simpa using h3, by rw [free?_setCell _ hf]; exact h4, ?_, by rw [free?_setCell _ hf]; exact h6⟩
  · rw [← h2 q hq]
    exact World.cell?_of_block (heap_setCell_other _ _ _ _ (by simp; omega))
  · rw [row?_setCell_in _ h5 (Nat.zero_le _) (by omega), ← beZ_set 32 N k hk x hx]; rfl

theorem number_word (x0 x1 x2 x3 : Nat) (h0 : x0 < 18446744073709551616) (h1 : x1 < 18446744073709551616) (h2 : x2 < 18446744073709551616) (h3 : x3 < 18446744073709551616) (w : World) :
    Calls Try.prog 27 #[.agg #[.int .u64 x0, .int .u64 x1, .int .u64 x2, .int .u64 x3]] w fun e w' => e = .returned (.agg (beC 32 (limbN x0 x1 x2 x3)).toArray) ∧ Below w.heap.size w w' := by
  have HX := Lib.hid (And.intro h0 (And.intro h1 (And.intro h2 h3)))
  clear h0 h1 h2 h3
  go_enter Try.func27, Try.ntmps27
  go_wp2
  go_loopw [6] (fun i wr => ∃ k : Nat, k ≤ 32 ∧ i = .int .i64 k ∧ NW x0 x1 x2 x3 (limbN x0 x1 x2 x3) k w wr) (fun i _ => 32 - (intOf i).toNat)
  case atStart =>
    refine ⟨0, by omega, rfl, (((Below.refl _ _).alloc (Nat.le_refl _) _).alloc (by simp) _).alloc (by simp; omega) _, fun q hq => ?_, by simp, by simp [go_sem], by rw [beZ_zero]; simp [go_sem], by simp [go_sem]⟩
    rw [World.cell?_alloc_lt _ _ _ (by simp; omega), World.cell?_alloc_lt _ _ _ (by simp), World.cell?_alloc_new]
    match q, hq with
    | 0, _ => rfl
    | 1, _ => rfl
    | 2, _ => rfl
    | 3, _ => rfl
  case round =>
    obtain ⟨k, hk, rfl, hr⟩ := hrel
    by_cases hlt : k < 32
    · have hx := hr.xs ((31 - k) / 8) (by omega)
      have hl := limb_lt x0 x1 x2 x3 ((31 - k) / 8) HX.out.1 HX.out.2.1 HX.out.2.2.1 HX.out.2.2.2
      have HB := Lib.hid (limb_byte x0 x1 x2 x3 (31 - k) (by omega) HX.out.1 HX.out.2.1 HX.out.2.2.1)
      generalize limb x0 x1 x2 x3 ((31 - k) / 8) = x at *
      have h1 : 0 ≤ 8 * ((31 - (k : Int)) % 8) := by omega
      have h2 : 8 * ((31 - (k : Int)) % 8) ≤ 63 := by omega
      have hf : wr.frozen? ⟨w.heap.size + 1 + 1, k, none⟩ = false := by have := (World.free?_there hr.free k hlt).2; simpa using this
      obtain ⟨vo, hc⟩ : ∃ v, wr.cell? ⟨w.heap.size + 1 + 1, k, none⟩ = some v := Option.isSome_iff_exists.1 (by have := (World.free?_there hr.free k hlt).1; simpa using this)
      have HR := Lib.hid hr
      clear hr
      go_wp2
      go_roundw
      case rel =>
        refine ⟨k + 1, by omega, by go_num, HR.out.step hlt _ ?_⟩
        rw [HB.out]
        simp
      case measure => simp [intOf]; omega
    · obtain rfl : k = 32 := by omega
      have hr1 := hr.out
      have hr2 := hr.res
      rw [beZ_full] at hr1
      go_wp2
      refine ret_row ty50 rfl _ rfl rfl hr2 (beC_ok _ _) ⟨rfl, hr.below.setCells (by omega) _ _⟩
theorem number_word' (y0 y1 y2 y3 : Int) (x0 x1 x2 x3 : Nat) (e0 : y0 = x0) (e1 : y1 = x1) (e2 : y2 = x2) (e3 : y3 = x3) (h0 : x0 < 18446744073709551616) (h1 : x1 < 18446744073709551616) (h2 : x2 < 18446744073709551616) (h3 : x3 < 18446744073709551616) (w : World) :
    Calls Try.prog 27 #[.agg #[.int .u64 y0, .int .u64 y1, .int .u64 y2, .int .u64 y3]] w fun e w' => e = .returned (.agg (beC 32 (limbN x0 x1 x2 x3)).toArray) ∧ Below w.heap.size w w' := by
  subst e0 e1 e2 e3; exact number_word x0 x1 x2 x3 h0 h1 h2 h3 w

theorem word_of (n : Int) (hn : -9223372036854775808 ≤ n) (hn' : n ≤ 9223372036854775807) (w : World) :
    Calls Try.prog 23 #[.int .i64 n] w fun e w' => e = .returned (.agg (beC 32 (ofW n)).toArray) ∧ Below w.heap.size w w' := by
  by_cases h : n < 0
  · obtain ⟨m, hm⟩ : ∃ m : Nat, IntKind.u64.wrap n = (m : Int) := ⟨(n + 18446744073709551616).toNat, by rw [IntKind.wrap_u64]; omega⟩
    have H : Hid (m < 18446744073709551616 ∧ limbN m 18446744073709551615 18446744073709551615 18446744073709551615 = ofW n) := by
      rw [IntKind.wrap_u64] at hm
      constructor
      · omega
      · unfold limbN ofW; omega
    go_enter Try.func23, Try.ntmps23
    go_wp2_with fail
    refine (number_word' _ _ _ _ m 18446744073709551615 18446744073709551615 18446744073709551615 rfl rfl rfl rfl H.out.1 (by decide) (by decide) (by decide) _).mono ?_
    rintro e w1 ⟨rfl, hb⟩
    rw [H.out.2]
    have s1 := hb.size
    simp only [World.size_alloc] at s1
    have f1 : w1.free? w.heap.size 0 32 = true := by rw [(brow hb).2 _ _ _ (by simp; omega)]; simp [go_sem]
    go_wp2
    refine ret_row ty50 rfl _ rfl rfl f1 (beC_ok _ _) ⟨rfl, ?_⟩
    exact ((((Below.refl _ _).alloc (Nat.le_refl _) _).alloc (by simp) _).trans (hb.mono (by simp; omega))).setCells (Nat.le_refl _) _ _
  · obtain ⟨m, rfl⟩ := Int.eq_ofNat_of_zero_le (show 0 ≤ n by omega)
    have H : Hid (m < 18446744073709551616 ∧ limbN m 0 0 0 = ofW m) := by
      constructor
      · omega
      · unfold limbN ofW; omega
    have hm : IntKind.u64.wrap (m : Int) = (m : Int) := by rw [IntKind.wrap_u64]; omega
    clear hn
    go_enter Try.func23, Try.ntmps23
    go_wp2_with fail
    refine (number_word' _ _ _ _ m 0 0 0 rfl rfl rfl rfl H.out.1 (by decide) (by decide) (by decide) _).mono ?_
    rintro e w1 ⟨rfl, hb⟩
    rw [H.out.2]
    have s1 := hb.size
    simp only [World.size_alloc] at s1
    have f1 : w1.free? w.heap.size 0 32 = true := by rw [(brow hb).2 _ _ _ (by simp; omega)]; simp [go_sem]
    go_wp2
    refine ret_row ty50 rfl _ rfl rfl f1 (beC_ok _ _) ⟨rfl, ?_⟩
    exact ((((Below.refl _ _).alloc (Nat.le_refl _) _).alloc (by simp) _).trans (hb.mono (by simp; omega))).setCells (Nat.le_refl _) _ _

/-- The reference's word while it is written: m is what is left of n behind 31 - i of its bytes. -/
structure RO (n : Int) (k j : Nat) (w wr : World) : Prop where
  below : Below w.heap.size w wr
  size : w.heap.size + 1 < wr.heap.size
  res : wr.free? w.heap.size 0 32 = true
  free : wr.free? (w.heap.size + 1) 0 32 = true
  row : ∃ L : List Int, wr.row? (w.heap.size + 1) 0 32 = some (u8L L) ∧ L.length = 32 ∧ (∀ i, i < 32 → 32 - k ≤ i → L[i]?.getD 0 = n / 256 ^ (31 - i) % 256) ∧ (∀ i, i < j → L[i]?.getD 0 = n / 256 ^ 8 % 256)

theorem RO.cell {n : Int} {k j : Nat} {w wr : World} (h : RO n k j w wr) (i : Nat) (hi : i < 32) :
    wr.frozen? ⟨w.heap.size + 1, i, none⟩ = false ∧ ∃ v, wr.cell? ⟨w.heap.size + 1, i, none⟩ = some v := by
  have := World.free?_there h.free i hi
  simp only [Nat.zero_add] at this
  exact ⟨this.2, Option.isSome_iff_exists.1 this.1⟩

theorem RO.step1 {n : Int} {k : Nat} {w wr : World} (h : RO n k 0 w wr) (hk : k < 8) (x : Int) (hx : x = n / 256 ^ k % 256) :
    RO n (k + 1) 0 w (wr.setCell ⟨w.heap.size + 1, 31 - k, none⟩ (.int .u8 x)) := by
  obtain ⟨h1, h2, h3, h4, L, h5, h6, h7, h8⟩ := h
  have hf := World.free?_sub h4 (o' := 31 - k) (n' := 1) (by omega)
  refine ⟨h1.setCell (by simp) _, by simpa using h2, by rw [free?_setCell _ hf]; exact h3, by rw [free?_setCell _ hf]; exact h4, L.set (31 - k) x, ?_, by simpa using h6, fun i hi hik => ?_, fun i hi => by omega⟩
  · rw [row?_setCell_in _ h5 (Nat.zero_le _) (by omega)]
    simp only [Nat.sub_zero]
    rw [u8L_set L _ (by omega)]
  · rw [List.getElem?_set]
    by_cases h9 : 31 - k = i
    · rw [if_pos h9, if_pos (by omega), hx]; simp only [Option.getD_some]; congr 3; omega
    · rw [if_neg h9]; exact h7 i hi (by omega)

theorem RO.step2 {n : Int} {j : Nat} {w wr : World} (h : RO n 8 j w wr) (hj : j < 24) (x : Int) (hx : x = n / 256 ^ 8 % 256) :
    RO n 8 (j + 1) w (wr.setCell ⟨w.heap.size + 1, j, none⟩ (.int .u8 x)) := by
  obtain ⟨h1, h2, h3, h4, L, h5, h6, h7, h8⟩ := h
  have hf := World.free?_sub h4 (o' := j) (n' := 1) (by omega)
  refine ⟨h1.setCell (by simp) _, by simpa using h2, by rw [free?_setCell _ hf]; exact h3, by rw [free?_setCell _ hf]; exact h4, L.set j x, ?_, by simpa using h6, fun i hi hik => ?_, fun i hi => ?_⟩
  · rw [row?_setCell_in _ h5 (Nat.zero_le _) (by omega)]
    simp only [Nat.sub_zero]
    rw [u8L_set L _ (by omega)]
  · rw [List.getElem?_set, if_neg (by omega)]; exact h7 i hi hik
  · rw [List.getElem?_set]
    by_cases h9 : j = i
    · rw [if_pos h9, if_pos (by omega), hx]; rfl
    · rw [if_neg h9]; exact h8 i (by omega)

theorem RO.done {n : Int} {w wr : World} (h : RO n 8 24 w wr) (hn : -9223372036854775808 ≤ n) (hn' : n ≤ 9223372036854775807) : wr.row? (w.heap.size + 1) 0 32 = some (beC 32 (ofW n)) := by
  obtain ⟨h1, h2, h3, h4, L, h5, h6, h7, h8⟩ := h
  rw [h5]
  have : L = be 32 (ofW n) := by
    apply List.ext_getElem (by simpa using h6)
    intro i g1 g2
    have hi : i < 32 := by omega
    have e : (be 32 (ofW n))[i] = n / 256 ^ (31 - i) % 256 := by
      rw [← ofW_byte n (31 - i) (by omega)]; simp [be]
    refine Eq.trans ?_ e.symm
    by_cases h24 : 24 ≤ i
    · have := h7 i hi (by omega); simpa [g1] using this
    · have h9 := h8 i (by omega)
      have h10 : n / 256 ^ (31 - i) % 256 = n / 256 ^ 8 % 256 := by
        obtain ⟨t, ht⟩ : ∃ t, 31 - i = 8 + t := ⟨31 - i - 8, by omega⟩
        rw [ht, Int.pow_add, ← Int.ediv_ediv_of_nonneg (by decide)]
        have hp : (0 : Int) < 256 ^ t := Int.pow_pos (by decide)
        have hq : n / 256 ^ 8 = 0 ∨ n / 256 ^ 8 = -1 := by omega
        rcases hq with hq | hq
        · rw [hq]; simp
        · rw [hq]
          have : (-1 : Int) / 256 ^ t = -1 := by
            rw [Int.neg_one_ediv]; simp [Int.sign_eq_one_of_pos hp]
          rw [this]
      rw [h10, ← h9]; simp [g1]
  rw [this]; rfl

theorem ref_of (n : Int) (hn : -9223372036854775808 ≤ n) (hn' : n ≤ 9223372036854775807) (w : World) :
    Calls Try.prog 26 #[.int .i64 n] w fun e w' => e = .returned (.agg (beC 32 (ofW n)).toArray) ∧ Below w.heap.size w w' := by
  have HN := Lib.hid (And.intro hn hn')
  clear hn hn'
  go_enter Try.func26, Try.ntmps26
  go_wp2
  go_loopw [0, 4] (fun m i wr => ∃ k : Nat, k ≤ 8 ∧ i = .int .i64 (31 - (k : Int)) ∧ m = .int .i64 (n / 256 ^ k) ∧ RO n k 0 w wr) (fun _ i _ => (intOf i).toNat)
  case atStart =>
    refine ⟨0, by omega, rfl, by simp, ((Below.refl _ _).alloc (Nat.le_refl _) _).alloc (by simp) _, by simp, by simp [go_sem], by simp [go_sem], List.replicate 32 0, ?_, by simp, by intro i hi hi'; omega, by intro i hi; omega⟩
    have : u8L (List.replicate 32 0) = zU8 32 := by simp [u8L, zU8]
    rw [this]
    simp [go_sem]
  case round =>
    obtain ⟨k, hk, rfl, rfl, hr⟩ := hrel
    by_cases hlt : k < 8
    · obtain ⟨hf, vo, hc⟩ := hr.cell (31 - k) (by omega)
      have HR := Lib.hid hr
      clear hr
      generalize hm : n / 256 ^ k = m at *
      have HM := Lib.hid hm
      clear hm
      go_wp2
      go_roundw
      case rel =>
        refine ⟨k + 1, by omega, by go_num, ?_, HR.out.step1 hlt _ ?_⟩
        · rw [← HM.out, Int.pow_succ, ← Int.ediv_ediv_of_nonneg (by have : (0 : Int) < 256 ^ k := Int.pow_pos (by decide); omega)]
        · rw [HM.out, and_255]; omega
      case measure => simp [intOf]; omega
    · obtain rfl : k = 8 := by omega
      generalize hm : n / 256 ^ 8 = m at *
      have HM := Lib.hid hm
      clear hm
      have HR0 := Lib.hid hr
      clear hr
      go_wp2
      go_loopw [5] (fun i wr => ∃ j : Nat, j ≤ 24 ∧ i = .int .i64 j ∧ RO n 8 j w wr) (fun i _ => 24 - (intOf i).toNat)
      case atStart => exact ⟨0, by omega, rfl, HR0.out⟩
      case round =>
        obtain ⟨j, hj, rfl, hr⟩ := hrel
        by_cases hlt : j < 24
        · obtain ⟨hf, vo, hc⟩ := hr.cell j (by omega)
          have HR := Lib.hid hr
          clear hr
          go_wp2
          go_roundw
          case rel =>
            refine ⟨j + 1, by omega, by go_num, HR.out.step2 hlt _ ?_⟩
            rw [HM.out, and_255]; omega
          case measure => simp [intOf]; omega
        · obtain rfl : j = 24 := by omega
          have h1 := hr.done HN.out.1 HN.out.2
          have h2 := hr.res
          have h3 := hr.size
          go_wp2
          refine ret_row ty50 rfl _ rfl rfl h2 (beC_ok _ _) ⟨rfl, hr.below.setCells (Nat.le_refl _) _ _⟩
end Go.Proofs.Ytaoacfkifcglfaa
