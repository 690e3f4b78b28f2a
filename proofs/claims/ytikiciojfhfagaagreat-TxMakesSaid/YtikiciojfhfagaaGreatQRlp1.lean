/-
  RLP: contracts of the library's Reverse at bytes, of rlp.big, size, headed.
-/
import Derived.Test.YtikiciojfhfagaaGreatQKecT
import Derived.Test.YtikiciojfhfagaaGreatQRlpP
set_option linter.unusedVariables false
set_option linter.unusedSimpArgs false
namespace Go.Proofs.YtikiciojfhfagaaGreat
open Go.RowKit Go.Mun

set_option maxRecDepth 100000 in
theorem reverse_nil (a : Option Addr) (c : Nat) (w : World) : Calls Tryz.prog 164 #[.slice a 0 c] w fun e w' => e = .returned (.tuple #[]) ∧ w = w' := by
  go_enter Tryz.func164, Tryz.ntmps164
  go_wp2
  go_loop [2, 3] (fun i j => i = .int .i64 0 ∧ j = .int .i64 (-1)) (fun _ _ => 0)
  case atStart => exact ⟨rfl, rfl⟩
  case round =>
    obtain ⟨rfl, rfl⟩ := hrel
    go_wp2
    go_end0
    exact ⟨rfl, rfl⟩

set_option maxRecDepth 100000 in
set_option maxHeartbeats 2000000 in
theorem reverse_u8 (g n c : Nat) (L : List Int) (hn : n = L.length) (h0 : 0 < n) (hn2 : n ≤ 9223372036854775807) (w : World) (hA : Arr w g n (u8L L)) :
    Calls Tryz.prog 164 #[.slice (some ⟨g, 0, none⟩) n c] w fun e w' => e = .returned (.tuple #[]) ∧ Arr w' g n (u8L L.reverse) ∧ Only (· = g) w w' := by
  have HA := Lib.hid hA
  have HN := Lib.hid hn
  clear hA hn
  go_enter Tryz.func164, Tryz.ntmps164
  go_wp2_with fail
  go_loopw [2, 3] (fun i j wr => ∃ k : Nat, k ≤ n ∧ i = .int .i64 k ∧ j = .int .i64 ((n : Int) - 1 - k) ∧ Arr wr g n (u8L (revAt L k)) ∧ Only (· = g) w wr) (fun i j _ => n - (intOf i).toNat)
  case atStart => exact ⟨0, by omega, rfl, by simp, by rw [revAt_zero]; exact HA.out, Only.refl _ _⟩
  case round =>
    obtain ⟨k, hk, rfl, rfl, hr, ho⟩ := hrel
    by_cases hlt : k < n - 1 - k
    · obtain ⟨j, ej⟩ : ∃ j, j = n - 1 - k := ⟨_, rfl⟩
      have bj : (n : Int) - 1 - (k : Int) = (j : Int) := by omega
      rw [bj]
      have c1 := u8_at hr (show k < n by omega)
      have c2 := u8_at hr (show j < n by omega)
      rw [revAt_at L k k (Nat.le_refl _) (by rw [← HN.out]; omega) (by rw [← HN.out]; omega)] at c1
      rw [revAt_at L k j (by omega) (by rw [← HN.out]; omega) (by rw [← HN.out]; omega)] at c2
      obtain ⟨x, ex⟩ : ∃ x, x = L.getD k 0 := ⟨_, rfl⟩
      obtain ⟨y, ey⟩ : ∃ y, y = L.getD j 0 := ⟨_, rfl⟩
      rw [← ex] at c1
      rw [← ey] at c2
      have f1 := hr.free1 (show k < n by omega)
      have f2 := hr.free1 (show j < n by omega)
      have b1 : (k : Int) < (j : Int) := by omega
      have b2 : (k : Int) < (n : Int) := by omega
      have b3 : (j : Int) < (n : Int) := by omega
      have u1 := hr.unfrozen (show k < n by omega)
      have u2 := hr.unfrozen (show j < n by omega)
      have hs : Arr ((wr.setCell ⟨g, k, none⟩ (.int .u8 y)).setCell ⟨g, j, none⟩ (.int .u8 x)) g n (u8L (revAt L (k + 1))) := by
        rw [← revAt_step L k (by rw [← HN.out]; omega), ← u8L_set', ← u8L_set', ← HN.out, ← ej, ← ex, ← ey]
        exact (hr.set (by omega) _).set (by omega) _
      have HR := Lib.hid (And.intro hr ho)
      have HS := Lib.hid hs
      have HJ := Lib.hid (And.intro ej bj)
      clear hr ho hs ej bj ex ey
      go_wp2_with fail
      go_region
      have HO : Hid (Only (· = g) w ((wr.setCell ⟨g, k, none⟩ (.int .u8 y)).setCell ⟨g, j, none⟩ (.int .u8 x))) := (HR.out.2.setCell (by simp) _).setCell (by simp) _
      have HS2 := Lib.hid (And.intro HS.out.drew HO.out.drew)
      clear HS HO HR
      generalize ((wr.setCell ⟨g, k, none⟩ (.int .u8 y)).setCell ⟨g, j, none⟩ (.int .u8 x)).drew = wd at *
      go_wp2
      go_roundw
      case rel => exact ⟨k + 1, by omega, by go_num, by have := HJ.out.2; rw [← this]; go_num, HS2.out.1, HS2.out.2⟩
      case measure => simp [intOf]; omega
    · have e := revAt_full L k (by rw [← HN.out]; omega)
      rw [e] at hr
      have HR := Lib.hid (And.intro hr ho)
      clear hr ho e
      have b1 : ¬ (k : Int) < (n : Int) - 1 - k := by omega
      go_wp2
      go_end0
      exact ⟨rfl, HR.out⟩

/-- A slice of bytes that a call hands back, of new memory. -/
structure NewB (w w' : World) (v : Value) (l : List Int) : Prop where
  read : ∃ a c, v = .slice a l.length c ∧ Ints w' .u8 a c l ∧ ∀ p, a = some p → w.heap.size ≤ p.block
  below : Below w.heap.size w w'
theorem NewB.up {w w1 w2 : World} {v : Value} {l : List Int} (h : NewB w1 w2 v l) (hb : Below w.heap.size w w1) : NewB w w2 v l := by
  obtain ⟨⟨a, c, rfl, hi, hf⟩, h2⟩ := h
  exact ⟨⟨a, c, rfl, hi, fun p hp => Nat.le_trans hb.size (hf p hp)⟩, hb.trans (h2.mono hb.size)⟩
structure OwnB (w w' : World) (v : Value) (l : List Int) : Prop where
  own : w'.ownsRow w.heap.size 5 1 v l.length (l.map (Value.int .u8))
  below : Below w.heap.size w w'
theorem OwnB.new {w w' : World} {v : Value} {l : List Int} (h : OwnB w w' v l) : NewB w w' v l := by
  obtain ⟨a, c, rfl, _, hi⟩ := Ints.of_own' h.own
  refine ⟨⟨a, c, rfl, hi, fun p hp => ?_⟩, h.below⟩
  subst hp
  obtain ⟨b, o, s⟩ := p
  rcases h.own.2 with ⟨he, _⟩ | ⟨g, cap, cur, he, hg, _⟩
  · cases he
  · cases he; exact hg
theorem Ints.of_arr {w : World} {g n c : Nat} {L : List Int} (h : Arr w g n (u8L L)) (hn : n = L.length) (hc : n ≤ c) (hm : c ≤ maxLen) : Ints w .u8 (some ⟨g, 0, none⟩) c L := by
  refine ⟨fun _ => ⟨g, 0, rfl, fun i hi => ?_⟩, fun h => by simp at h, by omega, hm⟩
  have := u8_at h (show i < n by omega)
  rw [Nat.zero_add, this]; rfl

set_option maxRecDepth 100000 in
set_option maxHeartbeats 2000000 in
theorem rlp_big (n : Nat) (hn : n ≤ 9223372036854775807) (w : World) :
    Calls Tryz.prog 70 #[.int .i64 n] w fun e w' => ∃ v, e = .returned v ∧ NewB w w' v (bigL n) := by
  go_enter Tryz.func70, Tryz.ntmps70
  go_wp2_with fail
  go_loopw [0, 3] (fun i v wr => ∃ (m : Nat) (acc : List Int), m ≤ n ∧ i = .int .i64 m ∧ digs n = acc ++ digs m ∧ OwnB w wr v acc) (fun i _ _ => (intOf i).toNat)
  case atStart => exact ⟨n, [], Nat.le_refl _, rfl, rfl, World.ownsRow_nil _ _ _ _, Below.refl _ _⟩
  case round =>
    obtain ⟨m, acc, hm, rfl, hd, ho⟩ := hrel
    have hl8 := digs_len n 8 (by have : (256 : Nat) ^ 8 = 18446744073709551616 := by decide
                                 omega)
    by_cases h0 : 0 < m
    · rw [digs_pos m h0] at hd
      have hacc : acc.length < 8 := by rw [hd] at hl8; simp at hl8; omega
      obtain ⟨k, ek⟩ : ∃ k, k = acc.length := ⟨_, rfl⟩
      have hown := ho.own
      rw [← ek] at hown hacc
      have b1 : 0 < (m : Int) := by omega
      have w1 : IntKind.u8.wrap (m : Int) = (m : Int) % 256 := by rw [IntKind.wrap_u8]
      have HO := Lib.hid hown
      have HB := Lib.hid ho.below
      have HD := Lib.hid hd
      have HK := Lib.hid ek
      clear ho hd ek hown hl8
      go_wp2_with (at_builtin; go_must (refine wpList_append_new elem26 rfl _ _ rfl HO.out rfl 1 rfl (cs := [.int .u8 ((m : Int) % 256)]) rfl ?d1 ?d2 ?d3 ?d4 ?_))
      case d1 => simp [go_sem]
      case d2 => unfold maxLen; omega
      case d3 => omega
      case d4 => exact HB.out.size
      intro v3 w3 ho3 hg3 _
      have HB3 : Hid (Below w.heap.size w w3) := HB.out.grown hg3 HB.out.size (fun k hk => (HO.out.lt k hk).1)
      have HO3 : Hid (w3.ownsRow w.heap.size 5 1 v3 (acc ++ [((m % 256 : Nat) : Int)]).length ((acc ++ [((m % 256 : Nat) : Int)]).map (Value.int .u8))) := by
        unfold Hid
        rw [show (acc ++ [((m % 256 : Nat) : Int)]).length = k + 1 by simp [HK.out]]
        simpa using ho3
      clear ho3 hg3
      go_wp2_with fail
      go_roundw
      case rel => exact ⟨m / 256, acc ++ [((m % 256 : Nat) : Int)], by omega, by simp, by rw [HD.out]; simp, HO3.out, HB3.out⟩
      case measure => simp [intOf]; omega
    · obtain rfl : m = 0 := by omega
      rw [digs_zero, List.append_nil] at hd
      have hk8 : acc.length ≤ 8 := by rw [← hd]; exact hl8
      by_cases hz : acc.length = 0
      · have : acc = [] := List.length_eq_zero_iff.1 hz
        subst this
        have hB : Hid (bigL n = []) := by unfold Hid bigL; rw [hd]; rfl
        have ho1 := ho.own
        simp only [List.length_nil] at ho1
        obtain ⟨a, c, rfl⟩ := own_slice ho1
        have HO := Lib.hid ho
        clear ho ho1 hd hz hk8 hl8
        go_wp2_with fail
        refine (reverse_nil a c _).mono ?_
        rintro e w1 ⟨rfl, rfl⟩
        go_wp2
        go_ret
        exact ⟨_, rfl, by rw [hB.out]; exact HO.out.new⟩
      · obtain ⟨k, ek⟩ : ∃ k, k = acc.length := ⟨_, rfl⟩
        have ho1 := ho.own
        rw [← ek] at ho1 hz hk8
        obtain ⟨g, c, hv, hg, hc1, hc2, hA⟩ := own_arr ho1 (by omega)
        subst hv
        have hA : Arr _ g k (u8L acc) := hA
        have HBl := Lib.hid ho.below
        have HB : Hid (bigL n = acc.reverse) := by unfold Hid bigL; rw [hd]
        have hk0 : 0 < k := by omega
        have HK := Lib.hid ek
        have HG := Lib.hid hg
        clear ho ho1 hd hl8 ek
        go_wp2_with fail
        refine (reverse_u8 g k c acc HK.out hk0 (by omega) _ hA).mono ?_
        rintro e w1 ⟨rfl, h1, h2⟩
        have HR : Hid (NewB w w1 (.slice (some ⟨g, 0, none⟩) k c) (bigL n)) := by
          unfold Hid
          rw [HB.out]
          exact ⟨⟨_, c, by rw [List.length_reverse, ← HK.out], Ints.of_arr h1 (by rw [List.length_reverse]; exact HK.out) hc1 hc2, fun p hp => by cases hp; exact HG.out⟩, HBl.out.trans (h2.below HBl.out.size (by omega))⟩
        clear h1 h2 hA hg
        go_wp2
        go_ret
        exact ⟨_, rfl, HR.out⟩

theorem size_nat (n : Nat) (hn : n ≤ 16777216) : (bigL n).length ≤ 4 := by
  unfold bigL
  rw [List.length_reverse]
  exact digs_len n 4 (by have : (256 : Nat) ^ 4 = 4294967296 := by decide
                         omega)
def sizeN (n : Nat) : Nat := if n ≤ 55 then 1 + n else 1 + (bigL n).length + n
set_option maxHeartbeats 1000000 in
theorem rlp_size (n : Nat) (hn : n ≤ 16777216) (w : World) :
    Calls Tryz.prog 162 #[.int .i64 n] w fun e w' => e = .returned (.int .i64 (sizeN n : Nat)) ∧ Below w.heap.size w w' := by
  by_cases h : n ≤ 55
  · have b1 : (n : Int) ≤ 55 := by omega
    have b2 : IntKind.i64.wrap (1 + (n : Int)) = 1 + (n : Int) := wrI _ (by omega) (by omega)
    have H : Hid (sizeN n = 1 + n) := by unfold Hid sizeN; rw [if_pos h]
    clear h
    go_enter Tryz.func162, Tryz.ntmps162
    go_wp2
    go_ret
    exact ⟨ret_int (by rw [H.out]; omega), Below.refl _ _⟩
  · have b1 : ¬ (n : Int) ≤ 55 := by omega
    have H : Hid (sizeN n = 1 + (bigL n).length + n) := by unfold Hid sizeN; rw [if_neg h]
    have hs := size_nat n hn
    clear h
    go_enter Tryz.func162, Tryz.ntmps162
    go_wp2_with fail
    refine (rlp_big n (by omega) _).mono ?_
    rintro e w1 ⟨v, rfl, h1⟩
    obtain ⟨a, c, rfl, h2, _⟩ := h1.read
    have HB := Lib.hid h1.below
    clear h1 h2
    generalize (bigL n).length = k at *
    go_wp2
    go_ret
    exact ⟨ret_int (by rw [H.out]; omega), HB.out⟩

set_option maxHeartbeats 4000000 in
theorem rlp_headed (base n : Nat) (a : Option Addr) (c : Nat) (l : List Int) (hb : base ≤ 192) (hn : n = l.length) (hn2 : n ≤ 16777216) (w : World) (hI : Ints w .u8 a c l) :
    Calls Tryz.prog 163 #[.int .i64 base, .slice a n c] w fun e w' => ∃ v, e = .returned v ∧ OwnB w w' v (headL base n ++ l) := by
  have HN := Lib.hid hn
  by_cases h : n ≤ 55
  · have b1 : (n : Int) ≤ 55 := by omega
    have b2 : IntKind.u8.wrap ((base : Int) + (n : Int)) = ((base + n : Nat) : Int) := by rw [IntKind.wrap_u8]; omega
    have H : Hid (headL base n = [((base + n : Nat) : Int)]) := by unfold Hid headL; rw [if_pos h]
    obtain ⟨y, ey⟩ : ∃ y, y = ((base + n : Nat) : Int) := ⟨_, rfl⟩
    rw [← ey] at b2
    have HY := Lib.hid ey
    have HI := Lib.hid (hI.below ((Below.refl _ _).alloc (Nat.le_refl _) (.cells #[Value.int .u8 y] 5)))
    have HO := World.ownsRow_lit (e := 5) (size := 1) w #[Value.int .u8 y] 1 (Nat.le_refl _) (by decide) rfl
    have HO := Lib.hid HO
    clear hI hn h ey
    go_enter Tryz.func163, Tryz.ntmps163
    go_wp2_with (at_builtin; go_must (refine wpList_append_intsN (base := w.heap.size) (n := 1) (xs := [Value.int .u8 y]) elem26 rfl _ _ rfl HO.out rfl rfl HN.out HI.out ?c3 ?c4 ?c5 ?_))
    case c3 => unfold maxLen; omega
    case c4 => omega
    intro v1 w1 ho1 hg1
    have HB : Hid (Below w.heap.size w w1) := ((Below.refl _ _).alloc (Nat.le_refl _) _).grown hg1 (by simp) (fun k hk => (HO.out.lt k hk).1)
    have HO1 : Hid (w1.ownsRow w.heap.size 5 1 v1 (headL base n ++ l).length ((headL base n ++ l).map (Value.int .u8))) := by
      unfold Hid
      rw [H.out, ← HY.out]
      have e : ([y] ++ l).length = 1 + n := by simp [HN.out]; omega
      rw [e]; simpa using ho1
    clear ho1 hg1
    go_wp2
    go_ret
    exact ⟨_, rfl, HO1.out, HB.out⟩
  · have b1 : ¬ (n : Int) ≤ 55 := by omega
    have hs := size_nat n hn2
    have H : Hid (headL base n = ((base + 55 + (bigL n).length : Nat) : Int) :: bigL n) := by unfold Hid headL; rw [if_neg h]
    have HI := Lib.hid hI
    clear hI hn h
    go_enter Tryz.func163, Tryz.ntmps163
    go_wp2_with fail
    refine (rlp_big n (by omega) _).mono ?_
    rintro e w1 ⟨v, rfl, h1⟩
    obtain ⟨a2, c2, rfl, h2, _⟩ := h1.read
    have HB1 := Lib.hid h1.below
    generalize hbl : bigL n = bl at *
    obtain ⟨k, ek⟩ : ∃ k, k = bl.length := ⟨_, rfl⟩
    rw [← ek] at hs H
    have b2 : IntKind.u8.wrap ((base : Int) + 55 + (k : Int)) = ((base + 55 + k : Nat) : Int) := by rw [IntKind.wrap_u8]; omega
    have b3 : IntKind.i64.wrap ((base : Int) + 55) = (base : Int) + 55 := wrI _ (by omega) (by omega)
    have b4 : IntKind.i64.wrap ((base : Int) + 55 + (k : Int)) = (base : Int) + 55 + (k : Int) := wrI _ (by omega) (by omega)
    obtain ⟨y, ey⟩ : ∃ y, y = ((base + 55 + k : Nat) : Int) := ⟨_, rfl⟩
    rw [← ey] at b2
    have HY := Lib.hid ey
    have HK := Lib.hid ek
    have HI2 := Lib.hid (h2.below ((Below.refl _ _).alloc (Nat.le_refl _) (.cells #[Value.int .u8 y] 5)))
    have HIa := Lib.hid (HI.out.below HB1.out)
    have HIb := Lib.hid (HIa.out.below ((Below.refl _ _).alloc (Nat.le_refl _) (.cells #[Value.int .u8 y] 5)))
    have HO := Lib.hid (World.ownsRow_lit (e := 5) (size := 1) w1 #[Value.int .u8 y] 1 (HB1.out.size) (by decide) rfl)
    rw [← ek]
    have HBL := Lib.hid hbl
    clear h1 h2 ek ey hbl
    go_wp2_with (at_builtin; go_must (refine wpList_append_intsN (base := w.heap.size) (n := 1) (xs := [Value.int .u8 y]) elem26 rfl _ _ rfl HO.out rfl rfl HK.out HI2.out ?e3 ?e4 ?e5 ?_))
    case e3 => unfold maxLen; omega
    case e4 => omega
    case e5 => have := HB1.out.size; simp; omega
    intro v2 w2 ho2 hg2
    have HB2 : Hid (Below w.heap.size w w2) := (HB1.out.alloc (HB1.out.size) _).grown hg2 (by have := HB1.out.size; simp; omega) (fun k hk => (HO.out.lt k hk).1)
    have HIc : Hid (Ints w2 .u8 a c l) := HI.out.below HB2.out
    have HO2 : Hid (w2.ownsRow w.heap.size 5 1 v2 (1 + k) ([Value.int .u8 y] ++ bl.map (Value.int .u8))) := ho2
    clear ho2 hg2
    go_wp2_with (at_builtin; go_must (refine wpList_append_intsN (base := w.heap.size) elem26 rfl _ _ rfl HO2.out rfl rfl HN.out HIc.out ?d3 ?d4 ?d5 ?_))
    case d3 => unfold maxLen; omega
    case d4 => omega
    case d5 => exact HB2.out.size
    intro v3 w3 ho3 hg3
    have HB3 : Hid (Below w.heap.size w w3) := HB2.out.grown hg3 HB2.out.size (fun k hk => (HO2.out.lt k hk).1)
    have HO3 : Hid (w3.ownsRow w.heap.size 5 1 v3 (headL base n ++ l).length ((headL base n ++ l).map (Value.int .u8))) := by
      unfold Hid
      rw [H.out, ← HY.out]
      have e : ((y :: bl) ++ l).length = 1 + k + n := by simp [HN.out, HK.out]; omega
      rw [e]; simpa using ho3
    clear ho3 hg3
    go_wp2
    go_ret
    exact ⟨_, rfl, HO3.out, HB3.out⟩
end Go.Proofs.YtikiciojfhfagaaGreat
