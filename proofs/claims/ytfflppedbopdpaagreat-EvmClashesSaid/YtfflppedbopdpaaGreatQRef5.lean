/-
  The reference's names of accounts: Address, Address2.
-/
import Derived.Test.YtfflppedbopdpaaGreatQRef2
set_option linter.unusedVariables false
set_option maxRecDepth 1000000
set_option maxHeartbeats 8000000
set_option linter.unusedSimpArgs false
namespace Go.Proofs.YtfflppedbopdpaaGreat
open Go.RowKit Go.Mun
theorem ref_address (F : List Int) (hF : F.length = 20) (hx : ∀ x ∈ F, 0 ≤ x ∧ x < 256) (n : Int) (hn0 : -9223372036854775808 ≤ n) (hn : n ≤ 9223372036854775807) (w : World) :
  Calls Tryz.prog 10 #[.agg (u8L F).toArray, .int .i64 n] w fun e w' => e = .returned (.agg (u8L (lowL (kecL (adrB F n)))).toArray) ∧ Below w.heap.size w w' := by
 have hs := adr_small F hF n hn
 have hl : (u8L F).length = 20 := by simp [hF]
 have hok := u8L_ok F 20 hF
 obtain ⟨w0, e0⟩ : ∃ w0, w0 = (w.alloc (.cells (u8L F).toArray 23)).alloc (.cells (zU8 20).toArray 23) := ⟨_, rfl⟩
 have hb0 : Below w.heap.size w w0 := by rw [e0]; exact ((Below.refl _ _).alloc (Nat.le_refl _) _).alloc (by simp) _
 have hz0 : w0.heap.size = w.heap.size + 2 := by rw [e0]; simp
 have hr0 : w0.row? w.heap.size 0 20 = some (u8L F) := by rw [e0, World.row?_alloc_lt _ (by simp)]; exact World.row?_alloc_at (u8L F) 23 _ rfl hl
 have hf0 : w0.free? (w.heap.size + 1) 0 20 = true := by rw [e0]; simp [go_sem]
 have hit : ∀ W, Below w0.heap.size w0 W → ItemAt W [.bool false, .slice (some ⟨w.heap.size, 0, none⟩) 20 20, .slice none 0 0] (.bytes F) := by
  intro W hW
  refine item_bytes hF ?_ (Nat.le_refl _) (by unfold maxLen; omega) hx
  rw [World.row?_of_block (hW.block _ (by omega))]; exact hr0
 have HE0 := Lib.hid e0
 have HB0 := Lib.hid hb0
 have HZ0 := Lib.hid hz0
 have HF0 := Lib.hid hf0
 have HIT := Lib.hid hit
 have HFX := Lib.hid (And.intro hF hx)
 have HN := Lib.hid (And.intro hn0 hn)
 have HS := Lib.hid hs
 clear e0 hb0 hz0 hr0 hf0 hit hF hx hn0 hn hs
 go_enter Tryz.func10, Tryz.ntmps10
 go_wp2_with fail
 rw [← HE0.out]
 refine (ref_bytes _ 20 20 w0).mono ?_
 rintro e w1 ⟨rfl, hb1⟩
 have HB1 := Lib.hid hb1
 clear hb1
 go_wp2_with fail
 refine (ref_num n HN.out.1 HN.out.2 w1).mono ?_
 rintro e w2 ⟨v2, rfl, ⟨cs, rfl, hi2⟩, hb2⟩
 have hcs := hi2.len
 have HB2 : Hid (Below w0.heap.size w0 w2) := HB1.out.trans (hb2.mono HB1.out.size)
 have hit2 := item_two (HIT.out w2 HB2.out) hi2
 rw [lay3_02] at hit2
 have HI2 := Lib.hid hit2
 have hcs0 : [Value.bool false, .slice (some ⟨w.heap.size, 0, none⟩) 20 20, .slice none 0 0].length = 3 := rfl
 clear hb2 hi2 hit2
 obtain ⟨c0, ec0⟩ : ∃ c0, c0 = [Value.bool false, .slice (some ⟨w.heap.size, 0, none⟩) 20 20, .slice none 0 0] := ⟨_, rfl⟩
 have HC0 := Lib.hid ec0
 rw [← ec0] at hcs0 HI2
 rw [← ec0]
 clear ec0
 go_wp2_with fail
 refine (ref_list _ 2 2 _).mono ?_
 rintro e w3 ⟨rfl, hb3⟩
 have HI3 := Lib.hid (HI2.out.kept hb3)
 have HB3 : Hid (Below w0.heap.size w0 w3) := HB2.out.trans ((((Below.refl _ w2).alloc (Nat.le_refl _) _).trans (hb3.mono (by simp))).mono HB2.out.size)
 clear hb3
 go_wp2_with fail
 refine (ref_pack _ _ w3 (by simp [depthT, depthTs]) (show (packT (.list [.bytes F, .bytes (bigL n.toNat)])).length ≤ 16777216 from Nat.le_trans HS.out (by decide)) HI3.out).mono ?_
 rintro e w4 ⟨v4, rfl, ⟨a4, c4, rfl, hI4, -⟩, hb4⟩
 have HB4 : Hid (Below w0.heap.size w0 w4) := HB3.out.trans (hb4.mono HB3.out.size)
 have HI4 := Lib.hid hI4
 have HY := Lib.hid (adrB_byte F HFX.out.1 HFX.out.2 n HN.out.2)
 have HQ : Hid (adrB F n = packT (.list [.bytes F, .bytes (bigL n.toNat)])) := rfl
 rw [← HQ.out] at HI4
 rw [← HQ.out]
 have HS4 := Lib.hid HS.out
 generalize hQ : adrB F n = Q at *
 have HQ2 := Lib.hid hQ
 clear hb4 hI4 hQ
 have hq : Q.length ≤ 70000000000000 := Nat.le_trans HS.out (by decide)
 obtain ⟨q, eq⟩ : ∃ q, q = Q.length := ⟨_, rfl⟩
 rw [← eq] at hq
 rw [← eq]
 have HQL := Lib.hid eq
 clear eq
 go_wp2_with fail
 refine (ref_kec a4 q c4 Q HQL.out hq _ HI4.out HY.out).mono ?_
 rintro e w5 ⟨rfl, hb5⟩
 have HB5 : Hid (Below w0.heap.size w0 w5) := HB4.out.trans (hb5.mono HB4.out.size)
 have hl32 := kecL_len Q
 generalize hK : kecL Q = K at *
 have HK := Lib.hid hK
 clear hb5 hK
 go_wp2_with fail
 refine (ref_low K hl32 _).mono ?_
 rintro e w6 ⟨rfl, hb6⟩
 have HB6 : Hid (Below w0.heap.size w0 w6) := HB5.out.trans (hb6.mono HB5.out.size)
 have hf6 : w6.free? (w.heap.size + 1) 0 20 = true := by
  rw [World.free?_of_block (HB6.out.block _ (by have := HZ0.out; omega))]; exact HF0.out
 have hok6 := u8L_ok (lowL K) 20 (lowL_len _ hl32)
 generalize hR : u8L (lowL K) = R at *
 have HR := Lib.hid hR
 clear hb6 hR
 go_wp2
 exact ret_row ty23 rfl _ rfl rfl hf6 hok6 ⟨by rw [HQ2.out, HK.out, HR.out], (HB0.out.trans (HB6.out.mono HB0.out.size)).setCells (by omega) _ _⟩
theorem ints_rowR {W : World} {b n : Nat} {L : List Int} (hL : L.length = n) (hn : n ≤ 32) (hr : W.row? b 0 n = some (u8L L)) : Ints W .u8 (some ⟨b, 0, none⟩) n L := by
 refine ⟨fun _ => ⟨b, 0, rfl, fun i hi => ?_⟩, fun h => by simp at h, by omega, by unfold maxLen; omega⟩
 rw [World.row?_cell hr (show i < n by omega)]
 simp [u8L, List.getElem?_map, List.getElem?_eq_getElem hi]
theorem ref_address2 (F S D : List Int) (hF : F.length = 20) (hS : S.length = 32) (hx : ∀ x ∈ F, 0 ≤ x ∧ x < 256) (hy : ∀ x ∈ S, 0 ≤ x ∧ x < 256) (a : Option Addr) (n c : Nat) (hn : n = D.length) (hn2 : n ≤ 70000000000000) (w : World)
  (hI : Ints w .u8 a c D) (hd : ∀ x ∈ D, 0 ≤ x ∧ x < 256) :
  Calls Tryz.prog 12 #[.agg (u8L F).toArray, .agg (u8L S).toArray, .slice a n c] w fun e w' => e = .returned (.agg (u8L (lowL (kecL (adr2B F S D)))).toArray) ∧ Below w.heap.size w w' := by
 have hl : (u8L F).length = 20 := by simp [hF]
 have hl2 : (u8L S).length = 32 := by simp [hS]
 have hok := u8L_ok F 20 hF
 have hok2 := u8L_ok S 32 hS
 obtain ⟨w0, e0⟩ : ∃ w0, w0 = ((w.alloc (.cells (u8L F).toArray 23)).alloc (.cells (u8L S).toArray 25)).alloc (.cells (zU8 20).toArray 23) := ⟨_, rfl⟩
 have hb0 : Below w.heap.size w w0 := by rw [e0]; exact (((Below.refl _ _).alloc (Nat.le_refl _) _).alloc (by simp) _).alloc (by simp; omega) _
 have hz0 : w0.heap.size = w.heap.size + 3 := by rw [e0]; simp
 have hr1 : w0.row? w.heap.size 0 20 = some (u8L F) := by
  rw [e0, World.row?_alloc_lt _ (by simp; omega), World.row?_alloc_lt _ (by simp)]; exact World.row?_alloc_at (u8L F) 23 _ rfl hl
 have hr2 : w0.row? (w.heap.size + 1) 0 32 = some (u8L S) := by
  rw [e0, World.row?_alloc_lt _ (by simp)]; exact World.row?_alloc_at (u8L S) 25 _ (by simp) hl2
 have hf0 : w0.free? (w.heap.size + 2) 0 20 = true := by rw [e0]; simp [go_sem]
 have hi1 := ints_rowR hF (by decide) hr1
 have hi2 := ints_rowR hS (Nat.le_refl _) hr2
 obtain ⟨l1, hl1⟩ : ∃ l1, l1 = F.length := ⟨_, rfl⟩
 obtain ⟨l2, hl2'⟩ : ∃ l2, l2 = S.length := ⟨_, rfl⟩
 have ho := World.ownsRow_lit (e := 5) (size := 1) w0 #[Value.int .u8 255] 1 (Nat.le_refl _) (by decide) rfl
 have hz0' : w0.heap.size = w.heap.size + 1 + 1 + 1 := hz0
 have hi1' := hi1.below ((Below.refl _ w0).alloc (Nat.le_refl _) (.cells #[Value.int .u8 255] 5))
 rw [hz0', e0] at ho
 rw [e0] at hi1'
 have HE0 := Lib.hid e0
 have HB0 := Lib.hid hb0
 have HZ0 := Lib.hid hz0
 have HF0 := Lib.hid hf0
 have HI1 := Lib.hid hi1'
 have HI2 := Lib.hid hi2
 have HD := Lib.hid hd
 have HI := Lib.hid (hI.below hb0)
 have HO := Lib.hid ho
 have HFS := Lib.hid (And.intro hF hS)
 have HXY := Lib.hid (And.intro hx hy)
 have HN := Lib.hid hn
 have HL1 : Hid (20 = F.length) := hF.symm
 have HL2 : Hid (32 = S.length) := hS.symm
 clear e0 hb0 hz0 hz0' hr1 hr2 hf0 hi1 hi2 hl1 hl2' hd hI ho hF hS hx hy hn hi1'
 go_enter Tryz.func12, Tryz.ntmps12
 go_wp2_with (at_builtin; go_must (refine wpList_append_intsN (base := w.heap.size + 1 + 1 + 1) (n := 1) elem26 rfl _ _ rfl HO.out rfl rfl HL1.out HI1.out ?c3 ?c4 ?c5 ?_))
 case c3 => unfold maxLen; omega
 intro v1 w1 ho1 hg1
 have hb1 : Below w0.heap.size w0 w1 := by
  have := HO.out.lt
  rw [← HE0.out] at hg1 this
  exact ((Below.refl _ w0).alloc (Nat.le_refl _) _).grown hg1 (by simp) (fun k hk => by have := (this k hk).1; have := HZ0.out; omega)
 have HB1 := Lib.hid hb1
 have HO1 := Lib.hid ho1
 have HI2b := Lib.hid (HI2.out.below hb1)
 have hz1 : w0.heap.size ≤ w1.heap.size := hb1.size
 have HZ1 : Hid (w.heap.size + 1 + 1 + 1 ≤ w1.heap.size) := by have := HZ0.out; unfold Hid; omega
 clear ho1 hg1 hb1 hz1
 go_wp2_with (at_builtin; go_must (refine wpList_append_intsN (base := w.heap.size + 1 + 1 + 1) elem26 rfl _ _ rfl HO1.out rfl rfl HL2.out HI2b.out ?d3 ?d5 ?d6 ?_))
 case d3 => unfold maxLen; omega
 case d5 => decide
 case d6 => exact HZ1.out
 intro v2 w2 ho2 hg2
 have hb2 : Below w0.heap.size w0 w2 := HB1.out.grown hg2 HB1.out.size (fun k hk => by have := (HO1.out.lt k hk).1; have := HZ0.out; omega)
 have HB2 := Lib.hid hb2
 have HO2 := Lib.hid ho2
 have HIb := Lib.hid (HI.out.below hb2)
 clear ho2 hg2 hb2
 go_wp2_with fail
 refine (ref_kec a n c D HN.out hn2 _ HIb.out HD.out).mono ?_
 rintro e w3 ⟨rfl, hb3⟩
 have HB3 : Hid (Below w0.heap.size w0 w3) := HB2.out.trans (hb3.mono HB2.out.size)
 have HO3 := Lib.hid (ownsRow_below HO2.out hb3)
 have hl32 := kecL_len D
 have hK2 := u8L_ok (kecL D) 32 hl32
 obtain ⟨w4, e4⟩ : ∃ w4, w4 = (w3.alloc (.cells (zU8 32).toArray 25)).setCells w3.heap.size 0 (u8L (kecL D)) := ⟨_, rfl⟩
 have hr4 : w4.row? w3.heap.size 0 32 = some (u8L (kecL D)) := by rw [e4]; exact row?_setCells_whole _ (by simp [go_sem]) hK2
 have hb4 : Below w3.heap.size w3 w4 := by rw [e4]; exact ((Below.refl _ _).alloc (Nat.le_refl _) _).setCells (Nat.le_refl _) _ _
 have hi4 := ints_rowR hl32 (Nat.le_refl _) hr4
 have ho4 := ownsRow_below HO3.out hb4
 have hz4 : w.heap.size + 1 + 1 + 1 ≤ w4.heap.size := by have := HB3.out.size; have := hb4.size; have := HZ0.out; omega
 have HB4 : Hid (Below w0.heap.size w0 w4) := HB3.out.trans (hb4.mono HB3.out.size)
 rw [e4] at hi4 ho4 hz4
 have HE4 := Lib.hid e4
 have HI4 := Lib.hid hi4
 have HO4 := Lib.hid ho4
 have HZ4 := Lib.hid hz4
 have HLK : Hid (32 = (kecL D).length) := hl32.symm
 have hKl : (u8L (kecL D)).length = 32 := by simp [hl32]
 clear hb3 e4 hr4 hb4 hi4 ho4 hz4 hl32
 go_wp2_with (at_builtin; go_must (refine wpList_append_intsN (base := w.heap.size + 1 + 1 + 1) elem26 rfl _ _ rfl HO4.out rfl rfl HLK.out HI4.out ?f3 ?f5 ?f6 ?_))
 case f3 => unfold maxLen; omega
 case f5 => decide
 case f6 => exact HZ4.out
 intro v5 w5 ho5 hg5
 rw [← HE4.out] at hg5
 have hb5 : Below w0.heap.size w0 w5 := HB4.out.grown hg5 HB4.out.size (fun k hk => by have := (HO4.out.lt k hk).1; have := HZ0.out; omega)
 have hq : (adr2B F S D).length = 85 := by simp [adr2B, HFS.out.1, HFS.out.2, kecL_len]
 have ho5' : w5.ownsRow (w.heap.size + 1 + 1 + 1) 5 1 v5 (adr2B F S D).length ((adr2B F S D).map (Value.int .u8)) := by
  rw [hq]; simpa [adr2B] using ho5
 obtain ⟨a5, c5, rfl, -, hi5⟩ := Ints.of_own' ho5'
 have hy5 : ∀ x ∈ adr2B F S D, 0 ≤ x ∧ x < 256 := by
  intro x hx5
  simp only [adr2B, List.mem_append, List.mem_singleton] at hx5
  rcases hx5 with ((rfl | h) | h) | h
  ·decide
  ·exact HXY.out.1 x h
  ·exact HXY.out.2 x h
  ·exact kecL_byte D x h
 have HB5 := Lib.hid hb5
 have HI5 := Lib.hid hi5
 have HY5 := Lib.hid hy5
 clear ho5 hg5 hb5 ho5' hi5 hy5 hKl hK2
 rw [hq]
 generalize hQ : adr2B F S D = Q at *
 have HQ := Lib.hid hQ
 have HQL : Hid (85 = Q.length) := hq.symm
 clear hq hQ
 go_wp2_with fail
 refine (ref_kec a5 85 c5 Q HQL.out (by decide) _ HI5.out HY5.out).mono ?_
 rintro e w6 ⟨rfl, hb6⟩
 have HB6 : Hid (Below w0.heap.size w0 w6) := HB5.out.trans (hb6.mono HB5.out.size)
 have hl32 := kecL_len Q
 generalize hK : kecL Q = K at *
 have HK := Lib.hid hK
 clear hb6 hK
 go_wp2_with fail
 refine (ref_low K hl32 _).mono ?_
 rintro e w7 ⟨rfl, hb7⟩
 have HB7 : Hid (Below w0.heap.size w0 w7) := HB6.out.trans (hb7.mono HB6.out.size)
 have hf7 : w7.free? (w.heap.size + 1 + 1) 0 20 = true := by
  rw [World.free?_of_block (HB7.out.block _ (by have := HZ0.out; omega))]; exact HF0.out
 have hok7 := u8L_ok (lowL K) 20 (lowL_len _ hl32)
 generalize hR : u8L (lowL K) = R at *
 have HR := Lib.hid hR
 clear hb7 hR
 go_wp2
 exact ret_row ty23 rfl _ rfl rfl hf7 hok7 ⟨by rw [HQ.out, HK.out, HR.out], (HB0.out.trans (HB7.out.mono HB0.out.size)).setCells (by omega) _ _⟩
end Go.Proofs.YtfflppedbopdpaaGreat
