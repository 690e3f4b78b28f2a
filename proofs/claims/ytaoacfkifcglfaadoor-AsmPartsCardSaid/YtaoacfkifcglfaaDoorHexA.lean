/-
  Contract of hex.Addr.
-/
import Derived.Test.YtaoacfkifcglfaaDoorHexW
namespace Go.Proofs.YtaoacfkifcglfaaDoor
open Go.RowKit Go.Mun
attribute [local irreducible] be beC zU8

set_option maxRecDepth 10000 in
set_option maxHeartbeats 400000 in
theorem hex_addr (s : ByteArray) (hs : s.size ≤ 1099511627776) (w : World) :
    Calls Tryd.prog 21 #[.string s] w fun e w' => e = .returned (addrV (hexAddr s.data.toList)) ∧ Below w.heap.size w w' := by
  have HS := Lib.hid hs
  clear hs
  cases hread : hexRead s.data.toList with
  | none =>
    have HR := Lib.hid (show hexAddr s.data.toList = none by unfold hexAddr; rw [hread]; rfl)
    have HB := Lib.hid hread
    clear hread
    go_enter Tryd.func21, Tryd.ntmps21
    go_wp2_with fail
    refine (hex_read s HS.out _).mono ?_
    rintro e w1 ⟨hr, hb⟩
    obtain rfl := hr.bad HB.out
    clear hr
    have hf : w1.free? w.heap.size 0 20 = true := by rw [(brow hb).2 _ _ _ (by simp)]; exact World.free?_alloc_at _ _ rfl (by simp)
    have H1 := Lib.hid (show Below w.heap.size w w1 from ((Below.refl _ _).alloc (Nat.le_refl _) _).trans (hb.mono (by simp)))
    clear hb
    go_wp2
    exact ret_row2 ty41 rfl _ _ rfl rfl rfl (row?_setCells_whole _ hf (zU8_ok 20)) ⟨by rw [HR.out]; rfl, H1.out.setCells (Nat.le_refl _) _ _⟩
  | some b =>
    have HR0 := Lib.hid (show hexAddr s.data.toList = if b.length = 20 then some b else none by unfold hexAddr; rw [hread]; rfl)
    have HB := Lib.hid hread
    clear hread
    go_enter Tryd.func21, Tryd.ntmps21
    go_wp2_with fail
    refine (hex_read s HS.out _).mono ?_
    rintro e w1 ⟨hr, hb⟩
    obtain ⟨v, rfl, ho⟩ := hr.good b HB.out
    clear hr
    have hf : w1.free? w.heap.size 0 20 = true := by rw [(brow hb).2 _ _ _ (by simp)]; exact World.free?_alloc_at _ _ rfl (by simp)
    have H1 := Lib.hid (show Below w.heap.size w w1 from ((Below.refl _ _).alloc (Nat.le_refl _) _).trans (hb.mono (by simp)))
    clear hb
    by_cases h20 : b.length = 20
    · have HR := Lib.hid (show hexAddr s.data.toList = some b by rw [HR0.out, if_pos h20])
      rw [h20] at ho
      obtain ⟨g, c3, rfl, hg1, hg2, hrow3⟩ := own_row ho (by decide)
      have hr3 : w1.row? g 0 20 = some (u8L b) := hrow3
      have hok : okL 20 (u8L b) = true := u8L_ok _ 20 h20
      have hat := fun wx => run_toArray (P := Tryd.prog) Tryd.underlying41 (some ⟨g, 0, none⟩) 20 c3 (Nat.le_refl _) wx
      clear ho hrow3 hg1 h20
      go_wp2
      exact ret_row2 ty41 rfl _ _ rfl rfl rfl (row?_setCells_whole _ hf hok) ⟨by rw [HR.out]; rfl, H1.out.setCells (Nat.le_refl _) _ _⟩
    · have HR := Lib.hid (show hexAddr s.data.toList = none by rw [HR0.out, if_neg h20])
      obtain ⟨a, c, rfl, hn, hI⟩ := Ints.of_own' ho
      obtain ⟨n, hn⟩ : ∃ n, n = b.length := ⟨_, rfl⟩
      rw [← hn] at ⊢ h20
      have cn : ((n : Int) != 20) = true := by simp; omega
      have cn2 : ((n : Int) == 20) = false := by simp; omega
      clear ho hI hn h20
      go_wp2
      exact ret_row2 ty41 rfl _ _ rfl rfl rfl (row?_setCells_whole _ hf (zU8_ok 20)) ⟨by rw [HR.out]; rfl, H1.out.setCells (Nat.le_refl _) _ _⟩
end Go.Proofs.YtaoacfkifcglfaaDoor
