/-
  Contracts of the reference's digit and ReadHex.
-/
import Derived.Test.YtaoacfkifcglfaaDoorRefS
namespace Go.Proofs.YtaoacfkifcglfaaDoor
open Go.RowKit Go.Mun
attribute [local irreducible] be beC zU8

theorem dig_range2 {d : Nat} (h1 : d < 16) : 48 ≤ dig (d : Int) ∧ dig (d : Int) ≤ 102 := dig_range (by omega) (by omega)
theorem dig_found (b : UInt8) (c : Int) (hc : c = b.toNat) (i : Nat) (hi : i < 16) (h : dig (i : Int) = c) : isHex b = true ∧ hv b = i := by
  have := dig_u8 (i : Int) (by omega) (by omega)
  have e : UInt8.ofNat (dig (i : Int)).toNat = b := by rw [h, hc]; simp
  rw [e] at this
  exact this
theorem dig_none (b : UInt8) (c : Int) (hc : c = b.toNat) (h : ∀ j : Nat, j < 16 → dig (j : Int) ≠ c) : isHex b = false := by
  cases hx : isHex b with
  | false => rfl
  | true =>
    obtain ⟨h0, h1, h2⟩ := hex_dig b hx
    obtain ⟨n, hn⟩ := Int.eq_ofNat_of_zero_le h0
    refine absurd ?_ (h n (by omega))
    have r := dig_range h0 h1
    rw [← hn, hc, ← h2]
    have e : (UInt8.ofNat (dig (hv b)).toNat).toNat = (dig (hv b)).toNat := by simp; omega
    rw [h2] at e
    rw [h2]
    omega

/-- What digit tells of a byte. -/
def DigR (b : UInt8) (e : Ending) : Prop := (isHex b = true → e = .returned (.tuple #[.int .i64 (hv b), .bool true])) ∧ (isHex b = false → e = .returned (.tuple #[.int .i64 0, .bool false]))

set_option maxRecDepth 10000 in
set_option maxHeartbeats 400000 in
theorem ref_digit (b : UInt8) (c : Int) (hc : c = b.toNat) (w : World) : Calls Tryd.prog 43 #[.int .u8 c] w fun e w' => DigR b e ∧ w = w' := by
  have HC := Lib.hid hc
  clear hc
  go_enter Tryd.func43, Tryd.ntmps43
  go_wp2
  go_loop [4] (fun i => ∃ k : Nat, k ≤ 16 ∧ i = .int .i64 k ∧ Hid (∀ j : Nat, j < k → dig (j : Int) ≠ c)) (fun i => 16 - (intOf i).toNat)
  case atStart => exact ⟨0, by omega, rfl, Lib.hid fun j hj => by omega⟩
  case round =>
    obtain ⟨k, hk, rfl, HN⟩ := hrel
    by_cases hlt : k < 16
    · have hix : ∀ wx, (Instr.index 9 (.string ⟨#[48, 49, 50, 51, 52, 53, 54, 55, 56, 57, 97, 98, 99, 100, 101, 102]⟩) (.int .i64 (k : Int))).run Tryd.prog wx = .ok (.int .u8 (dig (k : Int))) wx := by
        intro wx
        obtain rfl | rfl | rfl | rfl | rfl | rfl | rfl | rfl | rfl | rfl | rfl | rfl | rfl | rfl | rfl | rfl : k = 0 ∨ k = 1 ∨ k = 2 ∨ k = 3 ∨ k = 4 ∨ k = 5 ∨ k = 6 ∨ k = 7 ∨ k = 8 ∨ k = 9 ∨ k = 10 ∨ k = 11 ∨ k = 12 ∨ k = 13 ∨ k = 14 ∨ k = 15 := by omega
        all_goals (clear hlt hk HN; kernel_rfl)
      obtain ⟨d, hd⟩ : ∃ d, d = dig (k : Int) := ⟨_, rfl⟩
      rw [← hd] at hix
      have HD := Lib.hid hd
      clear hd
      by_cases he : d = c
      · have HE := Lib.hid he
        have ce : (d == c) = true := by simpa using he
        clear he
        go_wp2
        go_ret2
        obtain ⟨h1, h2⟩ := dig_found b c HC.out k hlt (by rw [← HD.out, HE.out])
        exact ⟨⟨fun _ => (by rw [h2]; rfl), fun h => (by rw [h1] at h; cases h)⟩, rfl⟩
      · have ce : (d == c) = false := by simpa using he
        have HE := Lib.hid he
        clear he
        go_wp2
        go_round
        case rel => exact ⟨k + 1, by omega, by go_num, Lib.hid fun j hj => by
          by_cases hjk : j = k
          · subst hjk; rw [← HD.out]; exact HE.out
          · exact HN.out j (by omega)⟩
        case measure => simp [intOf]; omega
    · obtain rfl : k = 16 := by omega
      go_wp2
      go_ret2
      have := dig_none b c HC.out HN.out
      exact ⟨⟨fun h => (by rw [this] at h; cases h), fun _ => rfl⟩, rfl⟩

structure ReadHR (o : Option (List Int)) (base : Nat) (e : Ending) (w' : World) : Prop where
  good : ∀ b, o = some b → ∃ v, e = .returned (.tuple #[v, .bool true]) ∧ w'.ownsRow base 5 1 v b.length (b.map (Value.int .u8))
  bad : o = none → e = .returned (.tuple #[.slice none 0 0, .bool false])

theorem run_index_bytes {P : Program} {t : TypeId} (hu : P.underlying t = some .string) (s : ByteArray) (k : IntKind) (i : Int) (j : Nat) (hj : i = (j : Int)) (x : UInt8) (hi : s.data.toList[j]? = some x) (w : World) :
    (Instr.index t (.string s) (.int k i)).run P w = .ok (.int .u8 (x.toNat : Int)) w := by
  subst hj
  obtain ⟨h, hx⟩ := List.getElem?_eq_some_iff.1 hi
  have h' : j < s.size := h
  rw [run_index_string w t _ _ _ hu, dif_pos ⟨by omega, by omega⟩]
  have e : s[((j : Int)).toNat]'(by simpa using h') = x := by
    simp only [Int.toNat_natCast]
    rw [← hx]; rfl
  rw [e]

theorem all_bad {B : List UInt8} {j : Nat} {b : UInt8} (h : B[j]? = some b) (hb : isHex b = false) : B.all isHex = false := by
  rw [List.all_eq_false]
  exact ⟨b, List.mem_of_getElem? h, by rw [hb]; simp⟩
theorem take2_all {B : List UInt8} {j : Nat} {b1 b2 : UInt8} (h1 : B[j]? = some b1) (h2 : B[j + 1]? = some b2) (ha : (B.take j).all isHex = true) (x1 : isHex b1 = true) (x2 : isHex b2 = true) : (B.take (j + 2)).all isHex = true := by
  rw [List.take_add_one, List.take_add_one, h1, h2]
  simp only [List.all_append, ha, Option.toList_some, List.all_cons, x1, x2, List.all_nil, Bool.and_self]

set_option maxRecDepth 10000 in
set_option maxHeartbeats 400000 in
theorem ref_read (s : ByteArray) (hs : s.size ≤ 1099511627776) (w : World) :
    Calls Tryd.prog 19 #[.string s] w fun e w' => ReadHR (hexRead s.data.toList) w.heap.size e w' ∧ Below w.heap.size w w' := by
  have hlen : s.data.toList.length = s.size := rfl
  obtain ⟨n, hn⟩ : ∃ n, n = s.size := ⟨_, rfl⟩
  by_cases h2 : n < 2
  · have HR := Lib.hid (show hexRead s.data.toList = none by
      have : hexBody s.data.toList = none := by
        unfold hexBody
        rw [if_neg]
        rintro ⟨h, _⟩
        have := congrArg List.length h
        simp at this; omega
      unfold hexRead; rw [this]; rfl)
    have hsz : s.size = n := hn.symm
    clear hlen hn
    go_enter Tryd.func19, Tryd.ntmps19
    go_wp2
    go_ret2
    exact ⟨⟨fun b h => (by rw [HR.out] at h; cases h), fun _ => rfl⟩, Below.refl _ _⟩
  · have hsz : s.size = n := hn.symm
    have hsl : ∀ wx, (Instr.slice 9 (.string s) none (some (.int .i64 2)) none).run Tryd.prog wx = .ok (.string ⟨(s.data.toList.take 2).toArray⟩) wx := by
      intro wx
      rw [run_slice_string_h (ht := Tryd.underlying9) (kh := .i64) (h := 2) (h0 := by omega) (h2 := by omega)]
      congr 2
      apply ByteArray.ext
      simp [ByteArray.data_extract]
      apply Array.ext'
      simp
    obtain ⟨p, hp⟩ : ∃ p : ByteArray, p = ⟨(s.data.toList.take 2).toArray⟩ := ⟨_, rfl⟩
    rw [← hp] at hsl
    by_cases hpre : s.data.toList.take 2 = [48, 120]
    · have hpe : (p.toList == [48, 120]) = true := by
        rw [hp, ByteArray.toList_eq]
        simpa using hpre
      have HB : hexBody s.data.toList = if (s.data.toList.drop 2).all isHex = true then some (s.data.toList.drop 2) else none := by
        unfold hexBody
        by_cases h : (s.data.toList.drop 2).all isHex = true
        · rw [if_pos ⟨hpre, h⟩, if_pos h]
        · rw [if_neg (fun h' => h h'.2), if_neg h]
      obtain ⟨B, hB⟩ : ∃ B, B = s.data.toList.drop 2 := ⟨_, rfl⟩
      have hBl : B.length = n - 2 := by rw [hB, List.length_drop]; omega
      rw [← hB] at HB
      by_cases hodd : n % 2 = 0
      · obtain ⟨m, hm⟩ : ∃ m, B.length = 2 * m := ⟨B.length / 2, by omega⟩
        have hn2 : n = 2 * m + 2 := by omega
        have HR := Lib.hid (show hexRead s.data.toList = if B.all isHex = true then some (joinL (B.map hv)) else none by
          unfold hexRead; rw [HB]
          split
          · simp only [Option.bind_some]; rw [if_pos (by omega)]
          · rfl)
        have hev : ((n : Int) % 2 != 0) = false := by simp; omega
        have hev2 : ((n : Int) % 2 == 0) = true := by simp; omega
        have HBi := Lib.hid (show ∀ j : Nat, s.data.toList[2 + j]? = B[j]? from fun j => by rw [hB, List.getElem?_drop])
        have HM := Lib.hid hm
        have HN := Lib.hid hn2
        have HJ := Lib.hid (joinL_len m (B.map hv) (by simpa using hm))
        clear hB HB hp hpre hn hlen hBl hodd hm hn2
        have h40 : n ≤ 1099511627776 := by omega
        go_enter Tryd.func19, Tryd.ntmps19
        go_wp2
        go_loopw [4, 5] (fun v i wr => ∃ k j : Nat, Hid (j = 2 * k) ∧ k ≤ m ∧ i = .int .i64 ((j : Int) + 2) ∧ Hid (wr.ownsRow w.heap.size 5 1 v k (((joinL (B.map hv)).take k).map (Value.int .u8))) ∧ Hid ((B.take j).all isHex = true) ∧ Hid (Below w.heap.size w wr)) (fun _ i _ => n - (intOf i).toNat)
        case atStart => exact ⟨0, 0, Lib.hid rfl, by omega, rfl, Lib.hid ⟨by simp, .inl ⟨rfl, rfl⟩⟩, Lib.hid rfl, Lib.hid (Below.refl _ _)⟩
        case round =>
          obtain ⟨k, j, HJK, hk, rfl, HO, HA, HBl⟩ := hrel
          by_cases hlt : k < m
          · have hjn : j + 2 < n := by have := HN.out; have := HJK.out; omega
            have hj1 : j + 1 < B.length := by have := HM.out; have := HJK.out; omega
            obtain ⟨b1, hb1⟩ : ∃ b1, B[j]? = some b1 := ⟨B[j], List.getElem?_eq_getElem (by omega)⟩
            obtain ⟨b2, hb2⟩ : ∃ b2, B[j + 1]? = some b2 := ⟨B[j + 1], List.getElem?_eq_getElem (by omega)⟩
            have hi1 : ∀ wx, (Instr.index 9 (.string s) (.int .i64 ((j : Int) + 2))).run Tryd.prog wx = .ok (.int .u8 (b1.toNat : Int)) wx := fun wx => run_index_bytes Tryd.underlying9 s .i64 _ (2 + j) (by omega) b1 (by rw [HBi.out, hb1]) wx
            have hi2 : ∀ wx, (Instr.index 9 (.string s) (.int .i64 ((j : Int) + 2 + 1))).run Tryd.prog wx = .ok (.int .u8 (b2.toNat : Int)) wx := fun wx => run_index_bytes Tryd.underlying9 s .i64 _ (2 + (j + 1)) (by omega) b2 (by rw [HBi.out, hb2]) wx
            have H1 := Lib.hid hb1
            have H2 := Lib.hid hb2
            clear hb1 hb2 hj1
            go_wp2_with fail
            refine (ref_digit b1 _ rfl _).mono ?_
            rintro e wx ⟨hd1, rfl⟩
            by_cases x1 : isHex b1 = true
            · obtain rfl := hd1.1 x1
              have r1 := hex_dig b1 x1
              have r10 := r1.1
              have r11 := r1.2.1
              have X1 := Lib.hid x1
              clear hd1 r1 x1
              obtain ⟨x, hx⟩ : ∃ x, x = hv b1 := ⟨_, rfl⟩
              rw [← hx] at r10 r11 ⊢
              have HX := Lib.hid hx
              clear hx
              go_wp2_with fail
              refine (ref_digit b2 _ rfl _).mono ?_
              rintro e wx ⟨hd2, rfl⟩
              by_cases x2 : isHex b2 = true
              · obtain rfl := hd2.1 x2
                have r2 := hex_dig b2 x2
                have r20 := r2.1
                have r21 := r2.2.1
                have X2 := Lib.hid x2
                clear hd2 r2 x2 hi1 hi2
                obtain ⟨y, hy⟩ : ∃ y, y = hv b2 := ⟨_, rfl⟩
                rw [← hy] at r20 r21 ⊢
                have HY := Lib.hid hy
                have HD := Lib.hid (joinL_take m (B.map hv) k (by simpa using HM.out) hlt)
                have hh1 : (B.map hv)[2 * k]?.getD 0 = x := by rw [← HJK.out, List.getElem?_map, H1.out, HX.out]; rfl
                have hh2 : (B.map hv)[2 * k + 1]?.getD 0 = y := by rw [← HJK.out, List.getElem?_map, H2.out, hy]; rfl
                have HD2 := Lib.hid (HD.out.trans (by rw [hh1, hh2]))
                clear HD hh1 hh2 hy
                have ea : IntKind.i64.wrap (16 * x) = 16 * x := by rw [IntKind.wrap_i64]; omega
                have eb : IntKind.i64.wrap (16 * x + y) = 16 * x + y := by rw [IntKind.wrap_i64]; omega
                have ec : IntKind.u8.wrap (16 * x + y) = 16 * x + y := by rw [IntKind.wrap_u8]; omega
                have sr := HBl.out.size
                have hkb : k ≤ 1099511627776 := by have := HN.out; omega
                go_wp2_with (at_builtin; go_must (refine wpList_append_at (base := w.heap.size) (n := k) (xs := ((joinL (B.map hv)).take k).map (Value.int .u8)) (cs := [16 * x + y].map (Value.int .u8)) elem33 rfl _ _ rfl rfl rfl ?own ?c0 ?c1 ?c3 ?c4 ?c5 ?_))
                case own => exact HO.out
                case c0 => rfl
                case c1 => exact okL_ints .u8 _
                case c3 => unfold maxLen; omega
                case c4 => omega
                case c5 => exact sr
                intro v' w' ho hg _
                have HO2 : Hid (w'.ownsRow w.heap.size 5 1 v' (k + 1) (((joinL (B.map hv)).take (k + 1)).map (Value.int .u8))) := Lib.hid (by
                  rw [HD2.out, List.map_append, List.map_take]
                  exact ho)
                have HB2 : Hid (Below w.heap.size w w') := Lib.hid (HBl.out.grown hg sr (fun k hk => (HO.out.lt k hk).1))
                clear ho hg
                go_wp2
                go_roundw
                case rel => exact ⟨k + 1, j + 2, Lib.hid (by have := HJK.out; omega), by omega, by go_num, HO2, Lib.hid (take2_all H1.out H2.out HA.out X1.out X2.out), HB2⟩
                case measure => simp [intOf]; omega
              · have x2' : isHex b2 = false := by simpa using x2
                obtain rfl := hd2.2 x2'
                have HF := Lib.hid (all_bad H2.out x2')
                clear hd2 x2 x2' hi1 hi2
                go_wp2
                go_ret2
                exact ⟨⟨fun b h => (by rw [HR.out, if_neg (by rw [HF.out]; decide)] at h; cases h), fun _ => rfl⟩, HBl.out⟩
            · have x1' : isHex b1 = false := by simpa using x1
              obtain rfl := hd1.2 x1'
              have HF := Lib.hid (all_bad H1.out x1')
              clear hd1 x1 x1' hi1
              go_wp2_with fail
              refine (ref_digit b2 _ rfl _).mono ?_
              rintro e wx ⟨hd2, rfl⟩
              have hd3 : ∃ v b, e = .returned (.tuple #[v, .bool b]) := by
                cases x2 : isHex b2 with
                | true => exact ⟨_, _, hd2.1 x2⟩
                | false => exact ⟨_, _, hd2.2 x2⟩
              obtain ⟨v, b, rfl⟩ := hd3
              clear hd2 hi2
              go_wp2
              go_ret2
              exact ⟨⟨fun b h => (by rw [HR.out, if_neg (by rw [HF.out]; decide)] at h; cases h), fun _ => rfl⟩, HBl.out⟩
          · have hkm : k = m := by omega
            have hjn : n ≤ j + 2 := by have := HN.out; have := HJK.out; omega
            have HF : Hid (B.all isHex = true) := Lib.hid (by
              have := HA.out
              rw [List.take_of_length_le (by have := HM.out; have := HJK.out; omega)] at this
              exact this)
            have HO2 := HO.out
            rw [List.take_of_length_le (by rw [HJ.out]; omega), hkm, ← HJ.out] at HO2
            have HO3 := Lib.hid HO2
            clear HO2
            clear hkm hlt
            go_wp2
            go_ret2
            exact ⟨⟨fun b h => (by rw [HR.out, if_pos HF.out] at h; cases h; exact ⟨_, rfl, HO3.out⟩), fun h => (by rw [HR.out, if_pos HF.out] at h; cases h)⟩, HBl.out⟩
      · have HR := Lib.hid (show hexRead s.data.toList = none by
          unfold hexRead; rw [HB]
          split
          · simp only [Option.bind_some]; rw [if_neg (by omega)]
          · rfl)
        have hev : ((n : Int) % 2 != 0) = true := by simp; omega
        have hev2 : ((n : Int) % 2 == 0) = false := by simp; omega
        clear hB HB hp hpre hn hlen hBl hodd
        go_enter Tryd.func19, Tryd.ntmps19
        go_wp2
        go_ret2
        exact ⟨⟨fun b h => (by rw [HR.out] at h; cases h), fun _ => rfl⟩, Below.refl _ _⟩
    · have HR := Lib.hid (show hexRead s.data.toList = none by
        have : hexBody s.data.toList = none := by unfold hexBody; rw [if_neg (fun h => hpre h.1)]
        unfold hexRead; rw [this]; rfl)
      have hne : (p.toList == [48, 120]) = false := by
        rw [beq_eq_false_iff_ne, hp, ByteArray.toList_eq]
        simpa using hpre
      clear hp hpre hn hlen
      go_enter Tryd.func19, Tryd.ntmps19
      go_wp2
      go_ret2
      exact ⟨⟨fun b h => (by rw [HR.out] at h; cases h), fun _ => rfl⟩, Below.refl _ _⟩
end Go.Proofs.YtaoacfkifcglfaaDoor
