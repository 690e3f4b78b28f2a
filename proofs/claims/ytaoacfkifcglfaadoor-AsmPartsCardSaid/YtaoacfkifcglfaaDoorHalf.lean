/-
  The contract of hex.halves: a text's digits.
-/
import Derived.Test.YtaoacfkifcglfaaDoorHexS
import Derived.Lib.OthersKept
import Derived.WalkSmall
namespace Go.Mun
open Go.RowKit
theorem ownsRow_iterOf {w : World} {base e size : Nat} {v : Value} {n : Nat} {xs : List Value} (h : w.ownsRow base e size v n xs) {k : Nat} {s : ByteArray} {pos : Nat} (hk : w.heap[k]? = some (.stringIter s pos)) (pos' : Nat) :
    (w.iterAt k s pos').ownsRow base e size v n xs := by
  refine ⟨h.1, ?_⟩
  rcases h.2 with h | ⟨g, cap, cur, h1, h2, h3, h4⟩
  · exact .inl h
  · refine .inr ⟨g, cap, cur, h1, h2, ?_, h4⟩
    rw [Go.Lib.iterAt_other _ _ _ _ _ (by rintro rfl; rw [hk] at h3; cases h3)]
    exact h3
theorem grown_iter {w w' : World} {base e size : Nat} {v : Value} {n : Nat} {xs : List Value} (h : w.ownsRow base e size v n xs) {k : Nat} {s : ByteArray} {pos : Nat} (hk : w.heap[k]? = some (.stringIter s pos)) (hg : w.grownBy w' v.ownBlock) :
    w'.heap[k]? = some (.stringIter s pos) := by
  have hlt : k < w.heap.size := (Array.getElem?_eq_some_iff.1 hk).1
  rw [hg.block k hlt ?_, hk]
  intro hh
  obtain ⟨cur, hc⟩ := ownsRow_type h hh.symm
  rw [hk] at hc; cases hc
end Go.Mun
namespace Go.Proofs.YtaoacfkifcglfaaDoor
open Go.RowKit Go.Mun
attribute [local irreducible] be beC zU8

def isHex (b : UInt8) : Bool := (decide (48 ≤ b.toNat) && decide (b.toNat ≤ 57)) || (decide (97 ≤ b.toNat) && decide (b.toNat ≤ 102))
def hv (b : UInt8) : Int := if b.toNat ≤ 57 then (b.toNat : Int) - 48 else (b.toNat : Int) - 87

/-- What halves tells of the bytes behind the head. -/
structure HalvesOf (r : List UInt8) (ok : Bool) (base : Nat) (e : Ending) (w' : World) : Prop where
  good : r.all isHex = true → ∃ v, e = .returned (.tuple #[v, .bool ok]) ∧ w'.ownsRow base 5 1 v r.length ((r.map hv).map (Value.int .u8))
  bad : r.all isHex = false → e = .returned (.tuple #[.slice none 0 0, .bool false])

def rowB (t : ByteArray) (pos : Nat) : List Value := ((t.data.toList.take pos).map hv).map (Value.int .u8)

structure HIt (t : ByteArray) (pos : Nat) (v : Value) (w wr : World) : Prop where
  it : wr.heap[w.heap.size]? = some (.stringIter t pos)
  own : wr.ownsRow w.heap.size 5 1 v pos (rowB t pos)
  below : Below w.heap.size w wr
  good : (t.data.toList.take pos).all isHex = true

theorem HIt.start (t : ByteArray) (w : World) : HIt t 0 (.slice none 0 0) w (w.iter t 0) := by
  refine ⟨World.iter_heap w t 0, ⟨by simp [rowB], .inl ⟨rfl, rfl⟩⟩, (Below.refl _ _).alloc (Nat.le_refl _) _, by simp⟩
structure HMid (t : ByteArray) (pos q : Nat) (v : Value) (w wr : World) : Prop where
  it : wr.heap[w.heap.size]? = some (.stringIter t q)
  own : wr.ownsRow w.heap.size 5 1 v pos (rowB t pos)
  below : Below w.heap.size w wr
  good : (t.data.toList.take pos).all isHex = true
  size : w.heap.size < wr.heap.size
theorem HIt.mid {t : ByteArray} {pos : Nat} {v : Value} {w wr wi : World} (h : HIt t pos v w wr) {q : Nat} (hi : wi = wr.iterAt w.heap.size t q) : HMid t pos q v w wi := by
  subst hi
  have h2 := Go.Lib.iterAt_heap wr w.heap.size t pos q h.it
  exact ⟨h2, ownsRow_iterOf h.own h.it q, Go.Lib.below_iterAt h.below (Nat.le_refl _) t q, h.good, (Array.getElem?_eq_some_iff.1 h2).1⟩
theorem take_bytes (t : ByteArray) (pos : Nat) (h : pos < t.size) : t.data.toList.take (pos + 1) = t.data.toList.take pos ++ [t[pos]'h] := by
  have h' : pos < t.data.toList.length := by simpa using h
  rw [List.take_succ_eq_append_getElem h']
  rfl
theorem HMid.step {t : ByteArray} {pos : Nat} {v v' : Value} {w wi w' : World} (h : HMid t pos (pos + 1) v w wi) (hp : pos < t.size) (hx : isHex (t[pos]'hp) = true) {x y : Int} (hv' : hv (t[pos]'hp) = x) (hxy : y = x)
    (ho : w'.ownsRow w.heap.size 5 1 v' (pos + 1) ((rowB t pos) ++ [.int .u8 y])) (hg : wi.grownBy w' v.ownBlock) : HIt t (pos + 1) v' w w' := by
  subst hxy
  refine ⟨grown_iter h.own h.it hg, ?_, h.below.grown hg (Nat.le_of_lt h.size) (fun k hk => (h.own.lt k hk).1), ?_⟩
  · unfold rowB at *
    rw [take_bytes t pos hp, List.map_append, List.map_append, List.map_singleton, List.map_singleton, hv']
    exact ho
  · rw [take_bytes t pos hp, List.all_append, h.good]
    simp [hx]
theorem HIt.last {t : ByteArray} {v : Value} {w wr : World} (h : HIt t t.size v w wr) : wr.ownsRow w.heap.size 5 1 v t.data.toList.length ((t.data.toList.map hv).map (Value.int .u8)) := by
  have h1 := h.own
  have h2 : t.data.toList.length = t.size := rfl
  unfold rowB at h1
  rw [List.take_of_length_le (by omega)] at h1
  rw [h2]; exact h1
theorem HIt.all {t : ByteArray} {v : Value} {w wr : World} (h : HIt t t.size v w wr) : t.data.toList.all isHex = true := by
  have h1 := h.good
  have h2 : t.data.toList.length = t.size := rfl
  rw [List.take_of_length_le (by omega)] at h1
  exact h1
attribute [local irreducible] rowB
theorem bad_all (t : ByteArray) (pos : Nat) (h : pos < t.size) (hx : isHex (t[pos]'h) = false) : t.data.toList.all isHex = false := by
  rw [List.all_eq_false]
  refine ⟨t[pos]'h, ?_, by rw [hx]; simp⟩
  have h' : pos < t.data.toList.length := h
  exact List.getElem_mem h'
theorem hexCase (t : ByteArray) (pos : Nat) (h : pos < t.size) :
    (∃ x : Nat, Utf8.decode t pos = (x, 1) ∧ 48 ≤ x ∧ x ≤ 57 ∧ isHex (t[pos]'h) = true ∧ hv (t[pos]'h) = x - 48) ∨
    (∃ x : Nat, Utf8.decode t pos = (x, 1) ∧ 97 ≤ x ∧ x ≤ 102 ∧ isHex (t[pos]'h) = true ∧ hv (t[pos]'h) = x - 87) ∨
    ((((Utf8.decode t pos).1 < 48 ∨ 57 < (Utf8.decode t pos).1) ∧ ((Utf8.decode t pos).1 < 97 ∨ 102 < (Utf8.decode t pos).1)) ∧ isHex (t[pos]'h) = false) := by
  by_cases ha : (t[pos]'h).toNat < 128
  · rw [decode_ascii t pos h ha]
    generalize t[pos]'h = b at *
    by_cases h1 : 48 ≤ b.toNat ∧ b.toNat ≤ 57
    · exact .inl ⟨b.toNat, rfl, h1.1, h1.2, by simp [isHex, h1.1, h1.2], by unfold hv; rw [if_pos h1.2]⟩
    · by_cases h2 : 97 ≤ b.toNat ∧ b.toNat ≤ 102
      · exact .inr (.inl ⟨b.toNat, rfl, h2.1, h2.2, by simp [isHex, h2.1, h2.2], by unfold hv; rw [if_neg (by omega)]⟩)
      · refine .inr (.inr ⟨⟨by simp only; omega, by simp only; omega⟩, ?_⟩)
        cases hh : isHex b with
        | false => rfl
        | true => simp [isHex] at hh; omega
  · have hd := (decode_high t pos h (by omega)).1
    refine .inr (.inr ⟨⟨.inr (by omega), .inr (by omega)⟩, ?_⟩)
    generalize t[pos]'h = b at *
    cases hh : isHex b with
    | false => rfl
    | true => simp [isHex] at hh; omega

set_option maxRecDepth 10000 in
set_option maxHeartbeats 400000 in
theorem halves_of (s t : ByteArray) (ok : Bool) (hcut : ∀ wx, Calls Tryd.prog 62 #[.string s, .string ⟨#[48, 120]⟩] wx fun e w' => e = .returned (.tuple #[.string t, .bool ok]) ∧ w' = wx) (ht : t.size ≤ 1099511627776) (w : World) :
    Calls Tryd.prog 41 #[.string s] w fun e w' => HalvesOf t.data.toList ok w.heap.size e w' ∧ Below w.heap.size w w' := by
  have HT := Lib.hid ht
  have HC := Lib.hid hcut
  clear ht hcut
  go_enter Tryd.func41, Tryd.ntmps41
  go_wp2_with fail
  refine (HC.out _).mono ?_
  rintro e w1 ⟨rfl, rfl⟩
  clear HC
  go_wp2_with fail
  go_loopw [6] (fun v wr => ∃ pos : Nat, pos ≤ t.size ∧ HIt t pos v w1 wr) (fun _ wr => t.size - wr.iterPos w1.heap.size)
  case atStart => exact ⟨0, by omega, HIt.start t w1⟩
  case round =>
    obtain ⟨pos, hp, hr⟩ := hrel
    have hp0 := iterPos_of hr.it
    by_cases hlt : pos < t.size
    · have hn := fun ty => Go.Lib.run_next_any_at (P := Tryd.prog) wr w1.heap.size t pos ty hr.it hlt
      have HR := Lib.hid hr
      clear hr
      rcases hexCase t pos hlt with ⟨x, hd, h1, h2, hs, hv⟩ | ⟨x, hd, h1, h2, hs, hv⟩ | ⟨hd, hs⟩
      · rw [hd] at hn
        obtain ⟨wi, hwi⟩ : ∃ wi, wi = wr.iterAt w1.heap.size t (pos + 1) := ⟨_, rfl⟩
        have HM := Lib.hid (HR.out.mid hwi)
        have sz := HM.out.size
        rw [← hwi] at hn
        have HV := Lib.hid (And.intro hs hv)
        clear hwi hd hs hv
        go_wp2_with (at_builtin; go_must (refine wpList_append_at (base := w1.heap.size) (n := pos) (xs := rowB t pos) elem33 rfl _ _ rfl rfl rfl ?own ?c0 ?c1 ?c3 ?c4 ?c5 ?_))
        case own => exact HM.out.own
        case c0 => rfl
        case c3 => have := HT.out; unfold maxLen; omega
        case c4 => have := HT.out; omega
        case c5 => have := HM.out.size; omega
        intro v' w' ho hg _
        have HN := Lib.hid (HM.out.step hlt HV.out.1 HV.out.2 (by omega) ho hg)
        clear ho hg
        go_wp2
        go_roundw
        case rel => exact ⟨pos + 1, by omega, HN.out⟩
        case measure => rw [iterPos_of HN.out.it, hp0]; omega
      · rw [hd] at hn
        obtain ⟨wi, hwi⟩ : ∃ wi, wi = wr.iterAt w1.heap.size t (pos + 1) := ⟨_, rfl⟩
        have HM := Lib.hid (HR.out.mid hwi)
        have sz := HM.out.size
        rw [← hwi] at hn
        have HV := Lib.hid (And.intro hs hv)
        clear hwi hd hs hv
        go_wp2_with (at_builtin; go_must (refine wpList_append_at (base := w1.heap.size) (n := pos) (xs := rowB t pos) elem33 rfl _ _ rfl rfl rfl ?ownb ?c0b ?c1b ?c3b ?c4b ?c5b ?_))
        case ownb => exact HM.out.own
        case c0b => rfl
        case c3b => have := HT.out; unfold maxLen; omega
        case c4b => have := HT.out; omega
        case c5b => have := HM.out.size; omega
        intro v' w' ho hg _
        have HN := Lib.hid (HM.out.step hlt HV.out.1 HV.out.2 (by omega) ho hg)
        clear ho hg
        go_wp2
        go_roundw
        case rel => exact ⟨pos + 1, by omega, HN.out⟩
        case measure => rw [iterPos_of HN.out.it, hp0]; omega
      · have hd1 := hd.1
        have hd2 := hd.2
        obtain ⟨wi, hwi⟩ : ∃ wi, wi = wr.iterAt w1.heap.size t (pos + (Utf8.decode t pos).2) := ⟨_, rfl⟩
        have HM := Lib.hid (HR.out.mid hwi)
        rw [← hwi] at hn
        have HV := Lib.hid hs
        clear hwi hd hs
        generalize (Utf8.decode t pos).1 = x at *
        obtain hx | hx | hx : (x < 48) ∨ (57 < x ∧ x < 97) ∨ (102 < x) := by omega
        all_goals
          clear hd1 hd2
          go_wp2
          go_ret2
          refine ⟨⟨fun h => ?_, fun _ => rfl⟩, HM.out.below⟩
          rw [bad_all t pos hlt HV.out] at h; cases h
    · obtain rfl : pos = t.size := by omega
      have hn := fun ty => Go.Lib.run_next_end_at (P := Tryd.prog) wr w1.heap.size t t.size ty hr.it hlt
      have HR := Lib.hid hr
      clear hr
      go_wp2
      go_ret2
      refine ⟨⟨fun _ => ⟨_, rfl, HR.out.last⟩, fun h => ?_⟩, HR.out.below⟩
      rw [HR.out.all] at h; cases h
end Go.Proofs.YtaoacfkifcglfaaDoor
