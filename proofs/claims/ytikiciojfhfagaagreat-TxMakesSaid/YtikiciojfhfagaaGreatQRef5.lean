/-
  The reference's names of accounts: Address, Address2.
-/
import Derived.Test.YtikiciojfhfagaaGreatQRef2
set_option linter.unusedVariables false
set_option linter.unusedSimpArgs false
namespace Go.Proofs.YtikiciojfhfagaaGreat
open Go.RowKit Go.Mun
set_option maxRecDepth 100000 in
set_option maxHeartbeats 1000000 in
theorem ref_address (F : List Int) (hF : F.length = 20) (hx : ∀ x ∈ F, 0 ≤ x ∧ x < 256) (n : Int) (hn0 : -9223372036854775808 ≤ n) (hn : n ≤ 9223372036854775807) (w : World) :
    Calls Tryz.prog 10 #[.agg (u8L F).toArray, .int .i64 n] w fun e w' => e = .returned (.agg (u8L (lowL (kecL (adrB F n)))).toArray) ∧ Below w.heap.size w w' := by
  have hs := adr_small F hF n hn
  have hl : (u8L F).length = 20 := by simp [hF]
  have hok := u8L_ok F 20 hF
  obtain ⟨w0, e0⟩ : ∃ w0, w0 = (w.alloc (.cells (u8L F).toArray 23)).alloc (.cells (zU8 20).toArray 23) := ⟨_, rfl⟩
  have hb0 : Below w.heap.size w w0 := by rw [e0]; exact ((Below.refl _ _).alloc (Nat.le_refl _) _).alloc (by simp) _
  have hz0 : w0.heap.size = w.heap.size + 2 := by rw [e0]; simp
  have hr0 : w0.row? w.heap.size 0 20 = some (u8L F) := by rw [e0, World.row?_alloc_lt _ (by simp)]; exact World.row?_alloc_at (u8L F) 23 _ rfl hl
  have hf0 : w0.free? (w.heap.size + 1) 0 20 = true := by rw [e0]; simp [go_sem]
  have hit : ∀ W, Below w0.heap.size w0 W → ItemAt W [.bool false, .slice (some ⟨w.heap.size, 0, none⟩) 20 20, .slice none 0 0] (.bytes F) := by
    intro W hW
    refine item_bytes hF ?_ (Nat.le_refl _) (by unfold maxLen; omega) hx
    rw [World.row?_of_block (hW.block _ (by omega))]; exact hr0
  have HE0 := Lib.hid e0
  have HB0 := Lib.hid hb0
  have HZ0 := Lib.hid hz0
  have HF0 := Lib.hid hf0
  have HIT := Lib.hid hit
  have HFX := Lib.hid (And.intro hF hx)
  have HN := Lib.hid (And.intro hn0 hn)
  have HS := Lib.hid hs
  clear e0 hb0 hz0 hr0 hf0 hit hF hx hn0 hn hs
  go_enter Tryz.func10, Tryz.ntmps10
  go_wp2_with fail
  rw [← HE0.out]
  refine (ref_bytes _ 20 20 w0).mono ?_
  rintro e w1 ⟨rfl, hb1⟩
  have HB1 := Lib.hid hb1
  clear hb1
  go_wp2_with fail
  refine (ref_num n HN.out.1 HN.out.2 w1).mono ?_
  rintro e w2 ⟨v2, rfl, ⟨cs, rfl, hi2⟩, hb2⟩
  have hcs := hi2.len
  have HB2 : Hid (Below w0.heap.size w0 w2) := HB1.out.trans (hb2.mono HB1.out.size)
  have hit2 := item_two (HIT.out w2 HB2.out) hi2
  rw [lay3_02] at hit2
  have HI2 := Lib.hid hit2
  have hcs0 : [Value.bool false, .slice (some ⟨w.heap.size, 0, none⟩) 20 20, .slice none 0 0].length = 3 := rfl
  clear hb2 hi2 hit2
  obtain ⟨c0, ec0⟩ : ∃ c0, c0 = [Value.bool false, .slice (some ⟨w.heap.size, 0, none⟩) 20 20, .slice none 0 0] := ⟨_, rfl⟩
  have HC0 := Lib.hid ec0
  rw [← ec0] at hcs0 HI2
  rw [← ec0]
  clear ec0
  go_wp2_with fail
  refine (ref_list _ 2 2 _).mono ?_
  rintro e w3 ⟨rfl, hb3⟩
  have HI3 := Lib.hid (HI2.out.kept hb3)
  have HB3 : Hid (Below w0.heap.size w0 w3) := HB2.out.trans ((((Below.refl _ w2).alloc (Nat.le_refl _) _).trans (hb3.mono (by simp))).mono HB2.out.size)
  clear hb3
  go_wp2_with fail
  refine (ref_pack _ _ w3 (by simp [depthT, depthTs]) (show (packT (.list [.bytes F, .bytes (bigL n.toNat)])).length ≤ 16777216 from Nat.le_trans HS.out (by decide)) HI3.out).mono ?_
  rintro e w4 ⟨v4, rfl, ⟨a4, c4, rfl, hI4, -⟩, hb4⟩
  have HB4 : Hid (Below w0.heap.size w0 w4) := HB3.out.trans (hb4.mono HB3.out.size)
  have HI4 := Lib.hid hI4
  have HY := Lib.hid (adrB_byte F HFX.out.1 HFX.out.2 n HN.out.2)
  have HQ : Hid (adrB F n = packT (.list [.bytes F, .bytes (bigL n.toNat)])) := rfl
  rw [← HQ.out] at HI4
  rw [← HQ.out]
  have HS4 := Lib.hid HS.out
  generalize hQ : adrB F n = Q at *
  have HQ2 := Lib.hid hQ
  clear hb4 hI4 hQ
  have hq : Q.length ≤ 70000000000000 := Nat.le_trans HS.out (by decide)
  obtain ⟨q, eq⟩ : ∃ q, q = Q.length := ⟨_, rfl⟩
  rw [← eq] at hq
  rw [← eq]
  have HQL := Lib.hid eq
  clear eq
  go_wp2_with fail
  refine (ref_kec a4 q c4 Q HQL.out hq _ HI4.out HY.out).mono ?_
  rintro e w5 ⟨rfl, hb5⟩
  have HB5 : Hid (Below w0.heap.size w0 w5) := HB4.out.trans (hb5.mono HB4.out.size)
  have hl32 := kecL_len Q
  generalize hK : kecL Q = K at *
  have HK := Lib.hid hK
  clear hb5 hK
  go_wp2_with fail
  refine (ref_low K hl32 _).mono ?_
  rintro e w6 ⟨rfl, hb6⟩
  have HB6 : Hid (Below w0.heap.size w0 w6) := HB5.out.trans (hb6.mono HB5.out.size)
  have hf6 : w6.free? (w.heap.size + 1) 0 20 = true := by
    rw [World.free?_of_block (HB6.out.block _ (by have := HZ0.out; omega))]; exact HF0.out
  have hok6 := u8L_ok (lowL K) 20 (lowL_len _ hl32)
  generalize hR : u8L (lowL K) = R at *
  have HR := Lib.hid hR
  clear hb6 hR
  go_wp2
  exact ret_row ty23 rfl _ rfl rfl hf6 hok6 ⟨by rw [HQ2.out, HK.out, HR.out], (HB0.out.trans (HB6.out.mono HB0.out.size)).setCells (by omega) _ _⟩
end Go.Proofs.YtikiciojfhfagaaGreat
