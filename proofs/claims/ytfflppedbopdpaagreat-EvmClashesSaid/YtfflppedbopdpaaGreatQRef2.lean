/-
  The reference's RLP: contracts of Bytes, List, Lowest, Big, Num.
  The reference's RLP: contracts of Deep, pack, Pack.
  The reference's RLP: pack of lists, Pack.
-/
import Derived.Test.YtfflppedbopdpaaGreatQRef1
import Derived.Test.YtfflppedbopdpaaGreatQRRlp
import Derived.Test.YtfflppedbopdpaaGreatQRlp2
import Derived.Test.YtfflppedbopdpaaGreatQKecT
import Derived.Test.YtfflppedbopdpaaGreatQEv16
set_option linter.unusedVariables false
set_option maxRecDepth 1000000
set_option maxHeartbeats 8000000
set_option linter.unusedSimpArgs false
namespace Go.Proofs.YtfflppedbopdpaaGreat
open Go.RowKit Go.Mun

theorem ref_kec (ad : Option Addr) (n c : Nat) (l : List Int) (hn : n = l.length) (hn2 : n ≤ 70000000000000) (w : World) (hI : Ints w .u8 ad c l) (hb : ∀ x ∈ l, 0 ≤ x ∧ x < 256) :
  Calls Tryz.prog 36 #[.slice ad n c] w fun e w' => e = .returned (.agg (u8L (kecL l)).toArray) ∧ Below w.heap.size w w' := by
 subst hn
 rw [keccak_eq]
 exact ref_keccak ad l.length c l rfl hn2 w hI hb
theorem ref_bytes (a : Option Addr) (n c : Nat) (w : World) :
  Calls Tryz.prog 33 #[.slice a n c] w fun e w' => e = .returned (.agg [Value.bool false, .slice a n c, .slice none 0 0].toArray) ∧ Below w.heap.size w w' := by
 go_enter Tryz.func33, Tryz.ntmps33
 go_wp2
 rw [lay3_1]
 exact ret_row ty61 rfl _ rfl rfl (by simp [go_sem]) (by simp [okL, Value.oneCell']) ⟨rfl, ((Below.refl _ _).alloc (Nat.le_refl _) _).setCells (Nat.le_refl _) _ _⟩
theorem ref_list (a : Option Addr) (n c : Nat) (w : World) :
  Calls Tryz.prog 32 #[.slice a n c] w fun e w' => e = .returned (.agg [Value.bool true, .slice none 0 0, .slice a n c].toArray) ∧ Below w.heap.size w w' := by
 go_enter Tryz.func32, Tryz.ntmps32
 go_wp2
 rw [lay3_02]
 exact ret_row ty61 rfl _ rfl rfl (by simp [go_sem]) (by simp [okL, Value.oneCell']) ⟨rfl, ((Below.refl _ _).alloc (Nat.le_refl _) _).setCells (Nat.le_refl _) _ _⟩

theorem ref_low (L : List Int) (h : L.length = 32) (w : World) : Calls Tryz.prog 35 #[.agg (u8L L).toArray] w fun e w' => e = .returned (.agg (u8L (lowL L)).toArray) ∧ Below w.heap.size w w' := by
 have hl : (u8L L).length = 32 := by simp [h]
 have hok := u8L_ok L 32 h
 have H : Hid ((((u8L L).drop 12).take 20) = u8L (lowL L)) := by unfold Hid lowL u8L; rw [List.map_take, List.map_drop]
 have hok2 := u8L_ok (lowL L) 20 (lowL_len L h)
 have hl2 : (u8L (lowL L)).length = 20 := by simp [lowL_len L h]
 clear h
 generalize u8L L = V at *
 obtain ⟨w0, ew0⟩ : ∃ w0, w0 = ((w.alloc (.cells V.toArray 25)).alloc (.cells (zU8 20).toArray 23)).alloc (.cells (zU8 20).toArray 23) := ⟨_, rfl⟩
 have kr : w0.row? w.heap.size 12 20 = some ((V.drop 12).take 20) := by
  rw [ew0, World.row?_alloc_lt _ (by simp; omega), World.row?_alloc_lt _ (by simp)]; exact World.row?_alloc_sub V 25 _ rfl (by omega)
 rw [H.out] at kr
 generalize u8L (lowL L) = R at *
 have kf : w0.free? (w.heap.size + 1 + 1) 0 20 = true := by rw [ew0]; simp [go_sem]
 have kf1 : w0.free? (w.heap.size + 1) 0 20 = true := by rw [ew0]; simp [go_sem]
 have HE0 := Lib.hid ew0
 have HB0 : Hid (Below w.heap.size w w0) := by rw [ew0]; exact (((Below.refl _ _).alloc (Nat.le_refl _) _).alloc (by simp) _).alloc (by simp; omega) _
 clear ew0
 go_enter Tryz.func35, Tryz.ntmps35
 go_wp2_with fail
 rw [← HE0.out]
 have HHP : Hid (w0.drew.heap[w.heap.size + 1 + 1]? = some (.cells (zU8 20).toArray 23 (0, 0))) := by
  show w0.heap[w.heap.size + 1 + 1]? = _
  rw [HE0.out]
  have := heap_alloc_new ((w.alloc (.cells V.toArray 25)).alloc (.cells (zU8 20).toArray 23)) (.cells (zU8 20).toArray 23)
  simpa using this
 have HSRC : Hid (∀ i v, R[i]? = some v → w0.drew.cell? ((⟨w.heap.size, 12, none⟩ : Addr).add i) = some v) := by
  intro i v hv
  rw [add_off rfl]
  have hlt : i < 20 := by obtain ⟨h, _⟩ := List.getElem?_eq_some_iff.1 hv; omega
  show w0.cell? _ = _
  rw [World.row?_cell kr hlt]; exact hv
 have HO1 : Hid (∀ v ∈ R, v.oneCell' = true) := okL_mem hok2
 have hs25 := slice25 w.heap.size 12 (by decide)
 have HKF1 := Lib.hid kf1
 have HL20 := Lib.hid hl2
 have HOK2 := Lib.hid hok2
 clear kf kf1 kr hok hl hl2 hok2
 refine wp_region_tree (fun _ => True) [] (.pure 0 (.pure 1 (.alt 2 .fin .stop))) (by kernel_rfl) (by kernel_rfl) ?_
 iterate 2
  refine tree_pure ?_ rfl (by rfl) (fun w' hs => ?_) (fun _ _ _ h => h) ?_
  rotate_left
  ·clear hs
   go_simp
   try rfl
  simp only [Act.put, tsa, tsb, tsc]
 refine tree_run rfl (fun K hK => ?_)
 refine step_copy_splice rfl _ _ 26 26 rfl 5 Tryz.underlying26 (by kernel_rfl) (some ⟨w.heap.size + 1 + 1, 0, none⟩) (some ⟨w.heap.size, 12, none⟩) 20 20 20 20 rfl rfl (w.heap.size + 1 + 1) 0 (zU8 20) 23 HHP.out R (HL20.out.trans rfl) (fun _ => ⟨rfl, _, rfl, HSRC.out⟩) (by rw [HL20.out]; simp [zU8]) HO1.out (w.heap.size + 1 + 1) w0.drew ((Below.refl _ _).mono (Nat.le_refl _)) (Nat.le_refl _) ?_
 intro w5 hg5 hb5
 have hcells : splice (zU8 20) 0 R = R := by
  unfold splice
  rw [HL20.out]; simp [zU8]
 rw [hcells] at hg5
 have hr5 : w5.row? (w.heap.size + 1 + 1) 0 20 = some R := by
  unfold World.row?
  rw [show w5.heap[w.heap.size + 1 + 1]? = _ from hg5]
  simp [HL20.out]
  exact List.take_of_length_le (by rw [HL20.out]; omega)
 have hf5 : w5.free? (w.heap.size + 1) 0 20 = true := by
  rw [World.free?_of_block (hb5.block _ (Nat.lt_succ_self _))]
  exact HKF1.out
 have HB5 : Hid (Below w.heap.size w w5) := HB0.out.drew.trans (hb5.mono (by omega))
 have hok2 := HOK2.out
 have hl2 := HL20.out
 clear hg5 hb5 hcells
 refine hK.out _ _ trivial ?_
 clear hK K
 refine tree_fin ?_
 clear hs25
 go_wp2
 exact ret_row ty23 rfl _ rfl rfl hf5 hok2 ⟨rfl, HB5.out.setCells (by omega) _ _⟩

theorem be_snoc (k m : Nat) : be (k + 1) m = be k (m / 256) ++ [((m % 256 : Nat) : Int)] := by
 unfold be
 rw [List.range_succ, List.map_append]
 congr 1
 ·refine List.map_congr_left fun i hi => ?_
  have hi := List.mem_range.1 hi
  rw [show k + 1 - 1 - i = (k - 1 - i) + 1 by omega, Nat.pow_succ, Nat.mul_comm, Nat.div_div_eq_div_mul]
 ·simp
theorem bigL_zero : bigL 0 = [] := by unfold bigL; rw [digs_zero]; rfl
theorem bigL_len (k m : Nat) (h : m < 256 ^ k) : (bigL m).length ≤ k := by unfold bigL; rw [List.length_reverse]; exact digs_len m k h
theorem be_big : ∀ (k m : Nat), m < 256 ^ k → be k m = List.replicate (k - (bigL m).length) 0 ++ bigL m
 | 0, m, h => by
  obtain rfl : m = 0 := by simpa using h
  rw [bigL_zero]; rfl
 | k + 1, m, h => by
  rw [be_snoc, be_big k (m / 256) (by rw [Nat.div_lt_iff_lt_mul (by decide)]; rw [Nat.pow_succ] at h; exact h)]
  by_cases h0 : m = 0
  ·subst h0
   rw [Nat.zero_div, bigL_zero, List.append_nil, List.append_nil, List.length_nil, Nat.sub_zero, Nat.sub_zero, List.replicate_succ']
   rfl
  ·rw [bigL_step m (by omega), List.append_assoc]
   congr 2
   simp
theorem bigL_head (m : Nat) (h : 0 < m) : ∃ x r, bigL m = x :: r ∧ 0 < x ∧ x < 256 := by
 induction m using Nat.strongRecOn with
 | _ m ih =>
  rw [bigL_step m h]
  by_cases h0 : m / 256 = 0
  ·rw [h0, bigL_zero]
   exact ⟨_, [], rfl, by omega, by omega⟩
  ·obtain ⟨x, r, e, h1, h2⟩ := ih (m / 256) (by omega) (by omega)
   exact ⟨x, r ++ _, by rw [e]; rfl, h1, h2⟩
theorem slice25_end (b : Nat) (w : World) : (Instr.sliceAt 25 (.pointer (some ⟨b, 0, none⟩)) (some (.int .i64 32)) none none).run Tryz.prog w = .ok (.slice (some ⟨b, 0, none⟩) 0 0) w := by
 kernel_rfl
attribute [local irreducible] be beC zU8
theorem ref_big (m : Nat) (hm : m < 256 ^ 32) (w : World) : Calls Tryz.prog 57 #[.agg (beC 32 m).toArray] w fun e w' => ∃ a c, e = .returned (.agg [Value.bool false, .slice a (bigL m).length c, .slice none 0 0].toArray) ∧ Ints w' .u8 a c (bigL m) ∧ (∀ p, a = some p → w.heap.size + 2 ≤ p.block) ∧ Below w.heap.size w w' := by
 have hz := be_big 32 m hm
 have hl := bigL_len 32 m hm
 obtain ⟨z, ez⟩ : ∃ z, z = 32 - (bigL m).length := ⟨_, rfl⟩
 rw [← ez] at hz
 have hz32 : z ≤ 32 := by omega
 obtain ⟨w0, ew0⟩ : ∃ w0, w0 = (w.alloc (.cells (beC 32 m).toArray 25)).alloc (.cells itemZ.toArray 69) := ⟨_, rfl⟩
 have hb0 : Below w.heap.size w w0 := by rw [ew0]; exact ((Below.refl _ _).alloc (Nat.le_refl _) _).alloc (by simp) _
 have hs0 : w0.heap.size = w.heap.size + 2 := by rw [ew0]; simp
 have hr0 : w0.row? w.heap.size 0 32 = some (beC 32 m) := by rw [ew0, World.row?_alloc_lt _ (by simp)]; exact World.row?_alloc_at _ _ _ rfl (by simp)
 have hf0 : w0.free? (w.heap.size + 1) 0 3 = true := by rw [ew0]; simp [go_sem]
 have hc : ∀ i, i < 32 → w0.cell? ⟨w.heap.size, i, none⟩ = some (.int .u8 ((List.replicate z 0 ++ bigL m)[i]?.getD 0)) := by
  intro i hi
  have := World.row?_cell hr0 hi
  rw [Nat.zero_add] at this
  rw [this]
  unfold beC
  rw [hz, List.getElem?_map]
  rw [List.getElem?_eq_getElem (by simp; omega)]
  rfl
 have HC := Lib.hid hc
 have HZ := Lib.hid ez
 have HB0 := Lib.hid hb0
 have HS0 := Lib.hid hs0
 have HF0 := Lib.hid hf0
 have HE0 := Lib.hid ew0
 have HY := Lib.hid (bigL_byte m)
 have HM := Lib.hid hl
 clear hz hl hc ez hb0 hs0 hr0 hf0 ew0 hm
 go_enter Tryz.func57, Tryz.ntmps57
 go_wp2_with fail
 rw [← HE0.out]
 go_loop [3] (fun i => ∃ k : Nat, k ≤ z ∧ i = .int .i64 k) (fun i => z - (intOf i).toNat)
 case atStart => exact ⟨0, Nat.zero_le _, rfl⟩
 case round =>
  obtain ⟨k, hk, rfl⟩ := hrel
  by_cases hlt : k < z
  ·have c0 := HC.out k (by omega)
   rw [List.getElem?_append_left (by simpa using hlt), List.getElem?_replicate, if_pos hlt, Option.getD_some] at c0
   have b1 : (k : Int) < 32 := by omega
   go_wp2_with fail
   go_round
   case rel => exact ⟨k + 1, by omega, by go_num⟩
   case measure => simp [intOf]; omega
  ·obtain rfl : k = z := by omega
   by_cases h0 : m = 0
   ·have hb : bigL m = [] := by rw [h0]; exact bigL_zero
    have hk32 : k = 32 := by have := HZ.out; rw [hb] at this; simpa using this
    subst hk32
    have hsl := slice25_end w.heap.size
    have HN : Hid (0 = (bigL m).length) := by rw [hb]; rfl
    have HI : Hid (Ints w0 .u8 (some ⟨w.heap.size, 0, none⟩) 0 (bigL m)) := by rw [hb]; exact ⟨fun h => absurd rfl h, fun h => by simp at h, Nat.zero_le _, Nat.zero_le _⟩
    clear hb h0
    have HO := Lib.hid (World.ownsRow_nil w0 w0.heap.size 5 1)
    clear hlt hk
    go_wp2_with (at_builtin; go_must (refine wpList_append_intsN (base := w0.heap.size) (n := 0) (xs := []) elem26 rfl _ _ rfl HO.out rfl rfl HN.out HI.out ?cx3 ?cx4 ?cx5 ?_))
    intro v1 w1 ho1 hg1
    have HO1 : Hid (OwnB w0 w1 v1 (bigL m)) := by
     refine ⟨?_, (Below.refl _ w0).grown hg1 (Nat.le_refl _) (fun k hk => (HO.out.lt k hk).1)⟩
     rw [← HN.out]
     simpa using ho1
    clear ho1 hg1
    obtain ⟨⟨a1, c1, rfl, hi1, hfr⟩, hb1⟩ := HO1.out.new
    have HI1 := Lib.hid hi1
    have HB1 := Lib.hid hb1
    have HFR := Lib.hid hfr
    clear hi1 hb1 hfr
    go_wp2_with fail
    refine (ref_bytes a1 _ c1 w1).mono ?_
    rintro e w2 ⟨rfl, hb2⟩
    have HI2 := Lib.hid (HI1.out.below hb2)
    have HB2 : Hid (Below w0.heap.size w0 w2) := HB1.out.trans (hb2.mono HB1.out.size)
    have hf2 : w2.free? (w.heap.size + 1) 0 3 = true := by
     rw [World.free?_of_block (HB2.out.block _ (by have := HS0.out; omega))]; exact HF0.out
    have hlt2 : w.heap.size + 1 < w2.heap.size := by have := HS0.out; have := HB2.out.size; omega
    clear hb2
    go_wp2
    refine ret_row ty61 rfl _ rfl rfl hf2 (by simp [okL, Value.oneCell']) ⟨a1, c1, rfl, ?_, fun p hp => by have := HFR.out p hp; have := HS0.out; omega, (HB0.out.trans (HB2.out.mono HB0.out.size)).setCells (by omega) _ _⟩
    refine Ints.only (S := (· = w.heap.size + 1)) HI2.out ((Only.refl (· = w.heap.size + 1) w2).setCells (fun _ => rfl) _ _) (fun p hp => ?_)
    have := HFR.out p hp
    have := HS0.out
    show ¬ _ = _
    omega
   ·obtain ⟨x, r, ex, hx1, hx2⟩ := bigL_head m (by omega)
    have hlen : (bigL m).length = r.length + 1 := by rw [ex]; rfl
    have hk32 : k < 32 := by have := HZ.out; omega
    have c0 := HC.out k hk32
    rw [ex, List.getElem?_append_right (by simp), List.length_replicate, Nat.sub_self, List.getElem?_cons_zero, Option.getD_some] at c0
    have b1 : (k : Int) < 32 := by omega
    have b2 : (x == 0) = false := by simp only [beq_eq_false_iff_ne]; omega
    have hsl := slice25 w.heap.size k hk32
    obtain ⟨n, hn⟩ : ∃ n, n = (bigL m).length := ⟨_, rfl⟩
    have HN := Lib.hid hn
    have h32k : 32 - k = n := by have := HZ.out; have := HM.out; omega
    rw [h32k] at hsl
    have hn32 : n ≤ 32 := by have := HM.out; rw [← hn] at this; exact this
    have HI : Hid (Ints w0 .u8 (some ⟨w.heap.size, k, none⟩) n (bigL m)) := by
     have := HM.out
     refine ⟨fun _ => ⟨w.heap.size, k, rfl, fun i hi => ?_⟩, fun h => by simp at h, by omega, by show n ≤ maxLen; unfold maxLen; omega⟩
     rw [HC.out (k + i) (by omega), List.getElem?_append_right (by simp), List.length_replicate, show k + i - k = i by omega, List.getElem?_eq_getElem hi]
    clear hlen ex hn h32k
    have HO := Lib.hid (World.ownsRow_nil w0 w0.heap.size 5 1)
    clear hlt hk
    go_wp2_with (at_builtin; go_must (refine wpList_append_intsN (base := w0.heap.size) (n := 0) (xs := []) elem26 rfl _ _ rfl HO.out rfl rfl HN.out HI.out ?cy3 ?cy4 ?cy5 ?_))
    case cy3 => unfold maxLen; omega
    case cy4 => omega
    intro v1 w1 ho1 hg1
    have HO1 : Hid (OwnB w0 w1 v1 (bigL m)) := by
     refine ⟨?_, (Below.refl _ w0).grown hg1 (Nat.le_refl _) (fun k hk => (HO.out.lt k hk).1)⟩
     rw [← HN.out]
     simpa using ho1
    clear ho1 hg1
    obtain ⟨⟨a1, c1, rfl, hi1, hfr⟩, hb1⟩ := HO1.out.new
    have HI1 := Lib.hid hi1
    have HB1 := Lib.hid hb1
    have HFR := Lib.hid hfr
    clear hi1 hb1 hfr
    go_wp2_with fail
    refine (ref_bytes a1 _ c1 w1).mono ?_
    rintro e w2 ⟨rfl, hb2⟩
    have HI2 := Lib.hid (HI1.out.below hb2)
    have HB2 : Hid (Below w0.heap.size w0 w2) := HB1.out.trans (hb2.mono HB1.out.size)
    have hf2 : w2.free? (w.heap.size + 1) 0 3 = true := by
     rw [World.free?_of_block (HB2.out.block _ (by have := HS0.out; omega))]; exact HF0.out
    have hlt2 : w.heap.size + 1 < w2.heap.size := by have := HS0.out; have := HB2.out.size; omega
    clear hb2
    go_wp2
    refine ret_row ty61 rfl _ rfl rfl hf2 (by simp [okL, Value.oneCell']) ⟨a1, c1, rfl, ?_, fun p hp => by have := HFR.out p hp; have := HS0.out; omega, (HB0.out.trans (HB2.out.mono HB0.out.size)).setCells (by omega) _ _⟩
    refine Ints.only (S := (· = w.heap.size + 1)) HI2.out ((Only.refl (· = w.heap.size + 1) w2).setCells (fun _ => rfl) _ _) (fun p hp => ?_)
    have := HFR.out p hp
    have := HS0.out
    show ¬ _ = _
    omega
theorem ofW_nat (n : Nat) (h : n ≤ 9223372036854775807) : ofW (n : Int) = n := by
 unfold ofW; omega
theorem ref_num (n : Int) (hn : -9223372036854775808 ≤ n) (hn' : n ≤ 9223372036854775807) (w : World) : Calls Tryz.prog 34 #[.int .i64 n] w fun e w' => ∃ v, e = .returned v ∧ NewI w w' v (.bytes (bigL n.toNat)) := by
 obtain ⟨m, em⟩ : ∃ m, m = n.toNat := ⟨_, rfl⟩
 have hm : m ≤ 9223372036854775807 := by omega
 have hm32 : m < 256 ^ 32 := Nat.lt_of_le_of_lt hm (by decide)
 have O := ofW_nat m hm
 have hm1 : -9223372036854775808 ≤ (m : Int) := by omega
 have hm2 : (m : Int) ≤ 9223372036854775807 := by omega
 rw [← em]
 by_cases h : n < 0
 ·have e0 : (0 : Int) = (m : Int) := by omega
  have HE := Lib.hid e0
  clear e0 em hm
  go_enter Tryz.func34, Tryz.ntmps34
  go_wp2_with fail
  rw [HE.out]
  refine (ref_of m hm1 hm2 _).mono ?_
  rintro e w1 ⟨rfl, hb1⟩
  rw [O]
  have HB1 : Hid (Below w.heap.size w w1) := ((Below.refl w.heap.size w).alloc (Nat.le_refl _) (.cells itemZ.toArray 69)).trans (hb1.mono (by simp))
  have hf1 : w1.free? w.heap.size 0 3 = true := by
   rw [World.free?_of_block (hb1.block _ (by simp))]; simp [go_sem]
  have HF1 := Lib.hid hf1
  clear hb1 hf1
  go_wp2_with fail
  refine (ref_big m hm32 w1).mono ?_
  rintro e w2 ⟨a, c, rfl, hi, hfr, hb2⟩
  have hok : okL 3 [Value.bool false, .slice a (bigL m).length c, .slice none 0 0] = true := rfl
  have hf2 : w2.free? w.heap.size 0 3 = true := by
   rw [World.free?_of_block (hb2.block _ (free?_lt HF1.out))]; exact HF1.out
  have HB2 : Hid (Below w.heap.size w w2) := HB1.out.trans (hb2.mono HB1.out.size)
  have HI := Lib.hid hi
  have HFR := Lib.hid hfr
  have hs1 : w.heap.size < w1.heap.size := free?_lt HF1.out
  clear hi hb2 hfr
  go_wp2
  refine ret_row ty61 rfl _ rfl rfl hf2 hok ⟨_, rfl, ⟨_, rfl, ?_⟩, HB2.out.setCells (Nat.le_refl _) _ _⟩
  refine .bytes a _ c _ none 0 0 rfl ?_ (bigL_byte m)
  refine Ints.only (S := (· = w.heap.size)) HI.out ((Only.refl (· = w.heap.size) w2).setCells (fun _ => rfl) _ _) (fun p hp => ?_)
  have := HFR.out p hp
  show ¬ _ = _
  omega
 ·have e0 : n = (m : Int) := by omega
  subst e0
  clear em hm
  go_enter Tryz.func34, Tryz.ntmps34
  go_wp2_with fail
  refine (ref_of m hm1 hm2 _).mono ?_
  rintro e w1 ⟨rfl, hb1⟩
  rw [O]
  have HB1 : Hid (Below w.heap.size w w1) := ((Below.refl w.heap.size w).alloc (Nat.le_refl _) (.cells itemZ.toArray 69)).trans (hb1.mono (by simp))
  have hf1 : w1.free? w.heap.size 0 3 = true := by
   rw [World.free?_of_block (hb1.block _ (by simp))]; simp [go_sem]
  have HF1 := Lib.hid hf1
  clear hb1 hf1
  go_wp2_with fail
  refine (ref_big m hm32 w1).mono ?_
  rintro e w2 ⟨a, c, rfl, hi, hfr, hb2⟩
  have hok : okL 3 [Value.bool false, .slice a (bigL m).length c, .slice none 0 0] = true := rfl
  have hf2 : w2.free? w.heap.size 0 3 = true := by
   rw [World.free?_of_block (hb2.block _ (free?_lt HF1.out))]; exact HF1.out
  have HB2 : Hid (Below w.heap.size w w2) := HB1.out.trans (hb2.mono HB1.out.size)
  have HI := Lib.hid hi
  have HFR := Lib.hid hfr
  have hs1 : w.heap.size < w1.heap.size := free?_lt HF1.out
  clear hi hb2 hfr
  go_wp2
  refine ret_row ty61 rfl _ rfl rfl hf2 hok ⟨_, rfl, ⟨_, rfl, ?_⟩, HB2.out.setCells (Nat.le_refl _) _ _⟩
  refine .bytes a _ c _ none 0 0 rfl ?_ (bigL_byte m)
  refine Ints.only (S := (· = w.heap.size)) HI.out ((Only.refl (· = w.heap.size) w2).setCells (fun _ => rfl) _ _) (fun p hp => ?_)
  have := HFR.out p hp
  show ¬ _ = _
  omega
end Go.Proofs.YtfflppedbopdpaaGreat
namespace Go.Proofs.YtfflppedbopdpaaGreat
open Go.RowKit Go.Mun
theorem depthTs_take (ts : List RTree) (k : Nat) (h : k < ts.length) : depthTs (ts.take (k + 1)) = max (depthTs (ts.take k)) (depthT ts[k]) := by
 induction ts generalizing k with
 | nil => simp at h
 | cons t ts ih =>
  cases k with
  | zero => simp [depthTs]
  | succ k =>
   simp at h
   simp only [List.take_succ_cons, depthTs, ih k (by omega), List.getElem_cons_succ]
   omega
theorem depthTs_take_le (ts : List RTree) (k : Nat) : depthTs (ts.take k) ≤ depthTs ts := by
 induction ts generalizing k with
 | nil => simp [depthTs]
 | cons t ts ih =>
  cases k with
  | zero => simp [depthTs]
  | succ k => simp only [List.take_succ_cons, depthTs]; have := ih k; omega
def Deep2 (k : Nat) : Prop := ∀ (cs : List Value) (t : RTree) (d : Nat) (w : World), depthT t ≤ k → depthT t ≤ d → d ≤ 32 → (packT t).length ≤ 16777216 → ItemAt w cs t →
 Calls Tryz.prog 55 #[.agg cs.toArray, .int .i64 d] w fun e w' => e = .returned (.int .i64 (depthT t : Nat)) ∧ Below w.heap.size w w'
theorem deep_bytes (a : Option Addr) (n c : Nat) (o1 : Option Addr) (o2 o3 : Nat) (d : Int) (w : World) :
  Calls Tryz.prog 55 #[.agg [Value.bool false, .slice a n c, .slice o1 o2 o3].toArray, .int .i64 d] w fun e w' => e = .returned (.int .i64 0) ∧ Below w.heap.size w w' := by
 have hok : okL 3 [Value.bool false, .slice a n c, .slice o1 o2 o3] = true := by simp [okL, Value.oneCell']
 have c0 : (w.alloc (.cells [Value.bool false, .slice a n c, .slice o1 o2 o3].toArray 69)).cell? ⟨w.heap.size, 0, none⟩ = some (.bool false) := by rw [World.cell?_alloc_new]; rfl
 go_enter Tryz.func55, Tryz.ntmps55
 go_wp2
 go_ret
 exact ⟨rfl, (Below.refl _ _).alloc (Nat.le_refl _) _⟩
theorem deep_list (k : Nat) (ih : Deep2 k) (a : Option Addr) (n c : Nat) (ts : List RTree) (css : Nat → List Value) (d : Nat) (o1 : Option Addr) (o2 o3 : Nat) (w : World) (hn : n = ts.length)
  (hr : 0 < n → ∃ b off, a = some ⟨b, off, none⟩ ∧ ∀ i, i < n → w.row? b (off + i * 3) 3 = some (css i)) (hi : ∀ i (h : i < ts.length), ItemAt w (css i) ts[i])
  (hd : depthTs ts ≤ k) (hd2 : 1 + depthTs ts ≤ d) (hd3 : d ≤ 32) (hs : (packTs ts).length ≤ 16777216) (hn2 : n ≤ 16777216) :
  Calls Tryz.prog 55 #[.agg [Value.bool true, .slice o1 o2 o3, .slice a n c].toArray, .int .i64 d] w fun e w' => e = .returned (.int .i64 ((1 + depthTs ts : Nat) : Int)) ∧ Below w.heap.size w w' := by
 have HN := Lib.hid hn
 have HR := Lib.hid hr
 have HI := Lib.hid hi
 have HD := Lib.hid (And.intro hd (And.intro hd2 hd3))
 have HS := Lib.hid hs
 have hd0 : ((d : Int) == 0) = false := by simp; omega
 have hdw : IntKind.i64.wrap ((d : Int) - 1) = ((d - 1 : Nat) : Int) := by rw [wrI _ (by omega) (by omega)]; omega
 have hok : okL 3 [Value.bool true, .slice o1 o2 o3, .slice a n c] = true := by simp [okL, Value.oneCell']
 obtain ⟨w0, e0⟩ : ∃ w0, w0 = w.alloc (.cells [Value.bool true, .slice o1 o2 o3, .slice a n c].toArray 69) := ⟨_, rfl⟩
 have c0 : w0.cell? ⟨w.heap.size, 0, none⟩ = some (.bool true) := by rw [e0, World.cell?_alloc_new]; rfl
 have c2 : w0.cell? ⟨w.heap.size, 2, none⟩ = some (.slice a n c) := by rw [e0, World.cell?_alloc_new]; rfl
 have hb0 : Below w.heap.size w w0 := by rw [e0]; exact (Below.refl _ _).alloc (Nat.le_refl _) _
 have hlt0 : w.heap.size < w0.heap.size := by rw [e0]; simp
 have HE0 := Lib.hid e0
 have HB0 := Lib.hid hb0
 have HC2 := Lib.hid c2
 have HL0 := Lib.hid hlt0
 have d0 := c0
 have d2 := c2
 rw [e0] at d0 d2
 clear hn hr hi hd hd2 hd3 hs e0 hb0 hlt0
 go_enter Tryz.func55, Tryz.ntmps55
 go_wp2_with fail
 rw [← HE0.out]
 clear d0 d2 c0 c2 hok
 go_loopw [5, 6, 7] (fun m i _ wr => ∃ j : Nat, j ≤ n ∧ i = .int .i64 j ∧ m = .int .i64 (depthTs (ts.take j) : Nat) ∧ Below w0.heap.size w0 wr) (fun _ i _ _ => n - (intOf i).toNat)
 case atStart => exact ⟨0, by omega, rfl, rfl, Below.refl _ _⟩
 case round =>
  obtain ⟨j, hj, rfl, rfl, hb⟩ := hrel
  have c2 := (hb.cell (p := ⟨w.heap.size, 2, none⟩) HL0.out).trans HC2.out
  by_cases hlt : j < n
  ·obtain ⟨b, off, ha, hc⟩ := HR.out (by omega)
   subst ha
   have hj' : j < ts.length := by rw [← HN.out]; exact hlt
   have k0 := hc j hlt
   have hbl := World.row?_lt k0
   have hbw : Below w.heap.size w wr := HB0.out.trans (hb.mono HB0.out.size)
   rw [(brow hbw).1 _ _ _ hbl |>.symm] at k0
   have hit := HI.out j hj'
   have HP := Lib.hid (depthTs_take ts j hj')
   have hle := packT_le ts j hj'
   have hdep := depthT_le ts j hj'
   have hdle := depthTs_take_le ts j
   generalize css j = cs at *
   generalize ts[j] = t at *
   obtain ⟨s0, es0⟩ : ∃ s0, s0 = depthTs (ts.take j) := ⟨_, rfl⟩
   rw [← es0]
   have HES := Lib.hid es0
   have hcs : cs.length = 3 := World.row?_len k0
   have hcok : okL 3 cs = true := by cases hit <;> rfl
   have HB := Lib.hid hb
   have HIt := Lib.hid (hit.kept hbw)
   have HS1 := Lib.hid (And.intro hle (And.intro hdep hdle))
   have b1 : (j : Int) < (n : Int) := by omega
   have hcall : Hid (∀ w', Below wr.heap.size wr w' → Calls Tryz.prog 55 #[.agg cs.toArray, .int .i64 ((d - 1 : Nat) : Int)] w' fun e w'' => e = .returned (.int .i64 (depthT t : Nat)) ∧ Below w'.heap.size w' w'') := by
    intro w' hb'
    exact ih cs t (d - 1) w' (by have := HS1.out; have := HD.out; omega) (by have := HS1.out; have := HD.out; omega) (by have := HD.out; omega) (by have := HS1.out; have := HS.out; omega) (HIt.out.kept hb')
   clear hb hit hc hle hdep hdle hbw es0
   go_wp2_with fail
   refine (hcall.out _ (Below.refl _ _)).mono ?_
   rintro e w2 ⟨rfl, hb2⟩
   have HB2 : Hid (Below w0.heap.size w0 w2) := HB.out.trans (hb2.mono HB.out.size)
   obtain ⟨s1, es1⟩ : ∃ s1, s1 = depthT t := ⟨_, rfl⟩
   rw [← es1]
   have HE1 := Lib.hid es1
   clear hb2 es1
   by_cases hgt : s0 < s1
   ·have g1 : (s0 : Int) < (s1 : Int) := by omega
    go_wp2_with fail
    go_roundw
    case rel => exact ⟨j + 1, by omega, by go_num, by rw [HP.out, ← HES.out, ← HE1.out, Nat.max_eq_right (by omega)], HB2.out⟩
    case measure => simp [intOf]; omega
   ·have g1 : ¬ (s0 : Int) < (s1 : Int) := by omega
    go_wp2_with fail
    go_roundw
    case rel => exact ⟨j + 1, by omega, by go_num, by rw [HP.out, ← HES.out, ← HE1.out, Nat.max_eq_left (by omega)], HB2.out⟩
    case measure => simp [intOf]; omega
  ·obtain rfl : j = n := by omega
   have e : ts.take j = ts := List.take_of_length_le (by rw [HN.out]; omega)
   rw [e]
   have HB := Lib.hid hb
   have hd := HD.out
   generalize hs0 : depthTs ts = s0 at *
   have HS0 := Lib.hid hs0
   have b1 : ¬ (j : Int) < (j : Int) := by omega
   have b2 : IntKind.i64.wrap ((s0 : Int) + 1) = ((1 + s0 : Nat) : Int) := by rw [wrI _ (by omega) (by omega)]; omega
   clear hb e hd hs0
   go_wp2
   go_ret
   exact ⟨by rw [HS0.out]; rfl, HB0.out.trans (HB.out.mono HB0.out.size)⟩
theorem deep_ok : ∀ k, Deep2 k := by
 intro k
 induction k with
 | zero =>
  intro cs t d w h1 h2 h3 h4 h5
  cases h5 with
  | bytes a n c l o1 o2 o3 hn hI hx => exact deep_bytes _ _ _ _ _ _ _ w
  | list a n c ts cs o1 o2 o3 hn hr hi => simp [depthT] at h1
 | succ k ih =>
  intro cs t d w h1 h2 h3 h4 h5
  cases h5 with
  | bytes a n c l o1 o2 o3 hn hI hx => exact deep_bytes _ _ _ _ _ _ _ w
  | list a n c ts cs o1 o2 o3 hn hr hi =>
   simp only [depthT] at h1 h2
   have := packTs_pos ts; have := packTs_le ts
   exact deep_list k ih a n c ts cs d o1 o2 o3 w hn hr hi (by omega) (by omega) h3 (by omega) (by omega)

def PackR (k : Nat) : Prop := ∀ (cs : List Value) (t : RTree) (w : World), depthT t ≤ k → (packT t).length ≤ 16777216 → ItemAt w cs t →
 Calls Tryz.prog 56 #[.agg cs.toArray] w fun e w' => ∃ v, e = .returned (.tuple #[v, .bool true]) ∧ OwnB w w' v (packT t)
theorem pack_bytes (a : Option Addr) (n c : Nat) (l : List Int) (o1 : Option Addr) (o2 o3 : Nat) (hn : n = l.length) (hx : ∀ x ∈ l, 0 ≤ x ∧ x < 256) (hs : n ≤ 16777216) (w : World) (hI : Ints w .u8 a c l) :
  Calls Tryz.prog 56 #[.agg [Value.bool false, .slice a n c, .slice o1 o2 o3].toArray] w fun e w' => ∃ v, e = .returned (.tuple #[v, .bool true]) ∧ OwnB w w' v (packT (.bytes l)) := by
 have hok : okL 3 [Value.bool false, .slice a n c, .slice o1 o2 o3] = true := by simp [okL, Value.oneCell']
 obtain ⟨w0, e0⟩ : ∃ w0, w0 = w.alloc (.cells [Value.bool false, .slice a n c, .slice o1 o2 o3].toArray 69) := ⟨_, rfl⟩
 have c0 : w0.cell? ⟨w.heap.size, 0, none⟩ = some (.bool false) := by rw [e0, World.cell?_alloc_new]; rfl
 have c1 : w0.cell? ⟨w.heap.size, 1, none⟩ = some (.slice a n c) := by rw [e0, World.cell?_alloc_new]; rfl
 have hb0 : Below w.heap.size w w0 := by rw [e0]; exact (Below.refl _ _).alloc (Nat.le_refl _) _
 have HI := Lib.hid (hI.below hb0)
 have HB0 := Lib.hid hb0
 have HE0 := Lib.hid e0
 have HN := Lib.hid hn
 have d0 := c0
 have d1 := c1
 rw [e0] at d0 d1
 have hle : (n : Int) ≤ 16777216 := by omega
 by_cases h1 : n = 1 ∧ l.getD 0 0 < 128
 ·obtain ⟨h1, h2⟩ := h1
  subst h1
  obtain ⟨b, off, rfl, hb, hc⟩ := (HI.out).at (show 0 < l.length by omega)
  have k0 := hc 0 (by omega)
  rw [Nat.add_zero] at k0
  have H : Hid (packT (.bytes l) = [l.getD 0 0]) := by
   unfold Hid; simp only [packT]
   rw [if_pos ⟨hn.symm, h2⟩]
   match l, hn with
   | [x], _ => rfl
  have hg : l.getD 0 0 = l[0]?.getD 0 := by simp
  rw [hg] at h2 H
  generalize l[0]?.getD 0 = x at *
  have k1 := k0
  rw [e0] at k1
  have ho := World.ownsRow_lit (e := 5) (size := 1) w0 #[Value.int .u8 x] 1 (hb0.size) (by decide) rfl
  have hs0 : w0.heap.size = w.heap.size + 1 := by rw [e0]; simp
  rw [hs0] at ho
  have HO := Lib.hid ho
  clear ho hs0
  clear hb hc hb0 e0 hn hx hI hg
  go_enter Tryz.func56, Tryz.ntmps56
  go_wp2_with fail
  rw [← HE0.out]
  go_ret2
  exact ⟨.slice (some ⟨w.heap.size + 1, 0, none⟩) 1 1, rfl, by rw [H.out]; exact HO.out, HB0.out.alloc HB0.out.size _⟩
 ·have H : Hid (packT (.bytes l) = headL 128 n ++ l) := by
   unfold Hid; simp only [packT]
   rw [if_neg (by rw [← hn]; exact h1), ← hn]
  have tail : ∀ w', Below w0.heap.size w0 w' → True := fun _ _ => trivial
  by_cases h3 : n = 1
  ·subst h3
   obtain ⟨b, off, rfl, hb, hc⟩ := (HI.out).at (show 0 < l.length by omega)
   have k0 := hc 0 (by omega)
   rw [Nat.add_zero] at k0
   have hg : l.getD 0 0 = l[0]?.getD 0 := by simp
   have h2 : ¬ l[0]?.getD 0 < 128 := fun h => h1 ⟨rfl, by rw [hg]; exact h⟩
   generalize l[0]?.getD 0 = x at *
   have k1 := k0
   rw [e0] at k1
   clear hb hc hb0 e0 hn hx hI hg h1 tail
   go_enter Tryz.func56, Tryz.ntmps56
   go_wp2_with fail
   rw [← HE0.out]
   refine (ref_head 1 128 (by decide) (by omega) w0).mono ?_
   rintro e w1 ⟨v1, rfl, h1⟩
   have HO1 := Lib.hid h1.own
   have HI1 := Lib.hid (HI.out.below h1.below)
   have HB1 := Lib.hid h1.below
   have hh := headL_len 128 1
   have hbl := size_nat 1 (by omega)
   obtain ⟨q, hq⟩ : ∃ q, q = (headL 128 1).length := ⟨_, rfl⟩
   have hq5 : q ≤ 5 := by rw [← hq] at hh; split at hh <;> omega
   rw [← hq] at HO1
   have HQ := Lib.hid hq
   clear h1 hh hbl hq
   go_wp2_with (at_builtin; go_must (refine wpList_append_intsN (base := w0.heap.size) elem26 rfl _ _ rfl HO1.out rfl rfl HN.out HI1.out ?cx3 ?cx4 ?cx5 ?_))
   case cx3 => unfold maxLen; omega
   case cx4 => omega
   case cx5 => exact HB1.out.size
   intro v2 w2 ho2 hg2
   have H2 : Hid (OwnB w w2 v2 (packT (.bytes l))) := by
    unfold Hid
    rw [H.out]
    refine ⟨?_, HB0.out.trans ((HB1.out.grown hg2 HB1.out.size (fun k hk => (HO1.out.lt k hk).1)).mono HB0.out.size)⟩
    rw [List.length_append, ← HQ.out, ← HN.out, List.map_append]
    exact ownsRow_mono ho2 HB0.out.size
   clear ho2 hg2
   go_wp2
   go_ret2
   exact ⟨_, rfl, H2.out⟩
  ·have h2 : ((n : Int) == 1) = false := by simp; omega
   clear hb0 e0 hn hx hI h1 tail
   go_enter Tryz.func56, Tryz.ntmps56
   go_wp2_with fail
   rw [← HE0.out]
   refine (ref_head n 128 (by decide) (by omega) w0).mono ?_
   rintro e w1 ⟨v1, rfl, h1⟩
   have HO1 := Lib.hid h1.own
   have HI1 := Lib.hid (HI.out.below h1.below)
   have HB1 := Lib.hid h1.below
   have hh := headL_len 128 n
   have hbl := size_nat n (by omega)
   obtain ⟨q, hq⟩ : ∃ q, q = (headL 128 n).length := ⟨_, rfl⟩
   have hq5 : q ≤ 5 := by rw [← hq] at hh; split at hh <;> omega
   rw [← hq] at HO1
   have HQ := Lib.hid hq
   clear h1 hh hbl hq
   go_wp2_with (at_builtin; go_must (refine wpList_append_intsN (base := w0.heap.size) elem26 rfl _ _ rfl HO1.out rfl rfl HN.out HI1.out ?cy3 ?cy4 ?cy5 ?_))
   case cy3 => unfold maxLen; omega
   case cy4 => omega
   case cy5 => exact HB1.out.size
   intro v2 w2 ho2 hg2
   have H2 : Hid (OwnB w w2 v2 (packT (.bytes l))) := by
    unfold Hid
    rw [H.out]
    refine ⟨?_, HB0.out.trans ((HB1.out.grown hg2 HB1.out.size (fun k hk => (HO1.out.lt k hk).1)).mono HB0.out.size)⟩
    rw [List.length_append, ← HQ.out, ← HN.out, List.map_append]
    exact ownsRow_mono ho2 HB0.out.size
   clear ho2 hg2
   go_wp2
   go_ret2
   exact ⟨_, rfl, H2.out⟩
theorem pack_list (k : Nat) (ih : PackR k) (a : Option Addr) (n c : Nat) (ts : List RTree) (css : Nat → List Value) (o1 : Option Addr) (o2 o3 : Nat) (w : World) (hn : n = ts.length)
  (hr : 0 < n → ∃ b off, a = some ⟨b, off, none⟩ ∧ ∀ i, i < n → w.row? b (off + i * 3) 3 = some (css i)) (hi : ∀ i (h : i < ts.length), ItemAt w (css i) ts[i])
  (hd : depthTs ts ≤ k) (hs : (packTs ts).length ≤ 16777216) (hn2 : n ≤ 16777216) :
  Calls Tryz.prog 56 #[.agg [Value.bool true, .slice o1 o2 o3, .slice a n c].toArray] w fun e w' => ∃ v, e = .returned (.tuple #[v, .bool true]) ∧ OwnB w w' v (packT (.list ts)) := by
 have HN := Lib.hid hn
 have HR := Lib.hid hr
 have HI := Lib.hid hi
 have HD := Lib.hid hd
 have HS := Lib.hid hs
 have hok : okL 3 [Value.bool true, .slice o1 o2 o3, .slice a n c] = true := by simp [okL, Value.oneCell']
 obtain ⟨w0, e0⟩ : ∃ w0, w0 = w.alloc (.cells [Value.bool true, .slice o1 o2 o3, .slice a n c].toArray 69) := ⟨_, rfl⟩
 have c0 : w0.cell? ⟨w.heap.size, 0, none⟩ = some (.bool true) := by rw [e0, World.cell?_alloc_new]; rfl
 have c2 : w0.cell? ⟨w.heap.size, 2, none⟩ = some (.slice a n c) := by rw [e0, World.cell?_alloc_new]; rfl
 have hb0 : Below w.heap.size w w0 := by rw [e0]; exact (Below.refl _ _).alloc (Nat.le_refl _) _
 have hlt0 : w.heap.size < w0.heap.size := by rw [e0]; simp
 have HE0 := Lib.hid e0
 have HB0 := Lib.hid hb0
 have HC2 := Lib.hid c2
 have HL0 := Lib.hid hlt0
 have d0 := c0
 have d2 := c2
 rw [e0] at d0 d2
 have HT : Hid (packT (.list ts) = headL 192 (packTs ts).length ++ packTs ts) := by unfold Hid; simp only [packT]
 clear hn hr hi hd hs e0 hb0 hlt0
 go_enter Tryz.func56, Tryz.ntmps56
 go_wp2_with fail
 rw [← HE0.out]
 clear d0 d2 c0 c2 hok
 go_loopw [5, 6, 7, 8] (fun v i _ _ wr => ∃ j : Nat, j ≤ n ∧ i = .int .i64 j ∧ OwnB w0 wr v (packTs (ts.take j))) (fun _ i _ _ _ => n - (intOf i).toNat)
 case atStart => exact ⟨0, by omega, rfl, World.ownsRow_nil _ _ _ _, Below.refl _ _⟩
 case round =>
  obtain ⟨j, hj, rfl, ho⟩ := hrel
  have hb := ho.below
  have c2 := (hb.cell (p := ⟨w.heap.size, 2, none⟩) HL0.out).trans HC2.out
  by_cases hlt : j < n
  ·obtain ⟨b, off, ha, hc⟩ := HR.out (by omega)
   subst ha
   have hj' : j < ts.length := by rw [← HN.out]; exact hlt
   have k0 := hc j hlt
   have hbl := World.row?_lt k0
   have hbw : Below w.heap.size w wr := HB0.out.trans (hb.mono HB0.out.size)
   rw [(brow hbw).1 _ _ _ hbl |>.symm] at k0
   have hit := HI.out j hj'
   have HP := Lib.hid (packTs_take ts j hj')
   have hle := packT_le ts j hj'
   have hle2 := packTs_take_le ts (j + 1)
   have hdep := depthT_le ts j hj'
   generalize css j = cs at *
   generalize ts[j] = t at *
   obtain ⟨s0, es0⟩ : ∃ s0, s0 = (packTs (ts.take j)).length := ⟨_, rfl⟩
   have hsum : s0 + (packT t).length = (packTs (ts.take (j + 1))).length := by rw [HP.out, List.length_append, es0]
   have hcs : cs.length = 3 := World.row?_len k0
   have hcok : okL 3 cs = true := by cases hit <;> rfl
   have hown := ho.own
   obtain ⟨av, cv, rfl, _, _⟩ := Ints.of_own' hown
   rw [← es0] at hown
   have HE1 := Lib.hid es0
   have HB := Lib.hid hb
   have HOw := Lib.hid hown
   have HIt := Lib.hid (hit.kept hbw)
   have HS1 := Lib.hid (And.intro hsum (And.intro hle (And.intro hle2 hdep)))
   have b1 : (j : Int) < (n : Int) := by omega
   rw [← es0]
   clear hb hit hc hle hle2 hdep hbw es0 ho hown hsum
   go_wp2_with fail
   refine (ih cs t _ (by have := HS1.out; have := HD.out; omega) (by have := HS1.out; have := HS.out; omega) HIt.out).mono ?_
   rintro e w2 ⟨v2, rfl, h2⟩
   obtain ⟨a3, c3, rfl, _, hI3⟩ := Ints.of_own' h2.own
   have HI3 := Lib.hid hI3
   have HB2 : Hid (Below w0.heap.size w0 w2) := HB.out.trans (h2.below.mono HB.out.size)
   have HOw3 := Lib.hid (ownsRow_below HOw.out h2.below)
   obtain ⟨s1, es1⟩ : ∃ s1, s1 = (packT t).length := ⟨_, rfl⟩
   have hS1 : s0 + s1 ≤ 16777216 := by have := HS1.out; have := HS.out; omega
   have HS2 : Hid (s0 + s1 = (packTs (ts.take (j + 1))).length) := by unfold Hid; rw [es1]; exact HS1.out.1
   rw [← es1]
   have HE := Lib.hid es1
   have hw1 : IntKind.i64.wrap ((s0 : Int) + (s1 : Int)) = (s0 : Int) + (s1 : Int) := wrI _ (by omega) (by omega)
   have hgt : ¬ (16777216 : Int) < (s0 : Int) + (s1 : Int) := by omega
   clear h2 es1 hI3
   go_wp2_with (at_builtin; go_must (refine wpList_append_intsN (base := w0.heap.size) elem26 rfl _ _ rfl HOw3.out rfl rfl HE.out HI3.out ?d3 ?d4 ?d5 ?_))
   case d3 => unfold maxLen; omega
   case d4 => omega
   case d5 => exact HB2.out.size
   intro v4 w4 ho4 hg4
   have H4 : Hid (OwnB w0 w4 v4 (packTs (ts.take (j + 1)))) := by
    refine ⟨?_, HB2.out.grown hg4 HB2.out.size (fun k hk => (HOw3.out.lt k hk).1)⟩
    rw [← HS2.out, HP.out, List.map_append]
    exact ho4
   clear ho4 hg4
   go_wp2_with fail
   go_roundw
   case rel => exact ⟨j + 1, by omega, by go_num, H4.out⟩
   case measure => simp [intOf]; omega
  ·obtain rfl : j = n := by omega
   have e : ts.take j = ts := List.take_of_length_le (by rw [HN.out]; omega)
   rw [e] at ho
   have hsz := HS.out
   obtain ⟨s0, es0⟩ : ∃ s0, s0 = (packTs ts).length := ⟨_, rfl⟩
   obtain ⟨av, cv, rfl, _, hIv⟩ := Ints.of_own' ho.own
   rw [← es0] at hsz
   rw [← es0]
   have HI5 := Lib.hid hIv
   have HE5 := Lib.hid es0
   have HB := Lib.hid ho.below
   have b1 : ¬ (j : Int) < (j : Int) := by omega
   clear hb ho e hIv es0
   go_wp2_with fail
   refine (ref_head s0 192 (by decide) (by omega) wr).mono ?_
   rintro e w1 ⟨v1, rfl, h1⟩
   have HO1 := Lib.hid h1.own
   have HI1 := Lib.hid (HI5.out.below h1.below)
   have HB1 := Lib.hid h1.below
   have hh := headL_len 192 s0
   have hbl := size_nat s0 (by omega)
   obtain ⟨q, hq⟩ : ∃ q, q = (headL 192 s0).length := ⟨_, rfl⟩
   have hq5 : q ≤ 5 := by rw [← hq] at hh; split at hh <;> omega
   rw [← hq] at HO1
   have HQ := Lib.hid hq
   clear h1 hh hbl hq
   go_wp2_with (at_builtin; go_must (refine wpList_append_intsN (base := wr.heap.size) elem26 rfl _ _ rfl HO1.out rfl rfl HE5.out HI1.out ?f3 ?f4 ?f5 ?_))
   case f3 => unfold maxLen; omega
   case f4 => omega
   case f5 => exact HB1.out.size
   intro v2 w2 ho2 hg2
   have H2 : Hid (OwnB w w2 v2 (packT (.list ts))) := by
    unfold Hid
    have hle : w.heap.size ≤ wr.heap.size := Nat.le_trans HB0.out.size HB.out.size
    rw [HT.out, ← HE5.out]
    refine ⟨?_, (HB0.out.trans (HB.out.mono HB0.out.size)).trans ((HB1.out.grown hg2 HB1.out.size (fun k hk => (HO1.out.lt k hk).1)).mono hle)⟩
    rw [List.length_append, ← HQ.out, ← HE5.out, List.map_append]
    exact ownsRow_mono ho2 hle
   clear ho2 hg2
   go_wp2
   go_ret2
   exact ⟨_, rfl, H2.out⟩
theorem packr_ok : ∀ k, PackR k := by
 intro k
 induction k with
 | zero =>
  intro cs t w h1 h3 h4
  cases h4 with
  | bytes a n c l o1 o2 o3 hn hI hx =>
   have : l.length ≤ (packT (.bytes l)).length := by simp only [packT]; split <;> simp
   exact pack_bytes a n c l o1 o2 o3 hn hx (by omega) w hI
  | list a n c ts cs o1 o2 o3 hn hr hi => simp [depthT] at h1
 | succ k ih =>
  intro cs t w h1 h3 h4
  cases h4 with
  | bytes a n c l o1 o2 o3 hn hI hx =>
   have : l.length ≤ (packT (.bytes l)).length := by simp only [packT]; split <;> simp
   exact pack_bytes a n c l o1 o2 o3 hn hx (by omega) w hI
  | list a n c ts cs o1 o2 o3 hn hr hi =>
   simp only [depthT] at h1
   have := packTs_pos ts; have := packTs_le ts
   exact pack_list k ih a n c ts cs o1 o2 o3 w hn hr hi (by omega) (by omega) (by omega)
theorem ref_pack (cs : List Value) (t : RTree) (w : World) (hd : depthT t ≤ 32) (hs : (packT t).length ≤ 16777216) (hi : ItemAt w cs t) :
  Calls Tryz.prog 31 #[.agg cs.toArray] w fun e w' => ∃ v, e = .returned (.tuple #[v, .int .i64 0]) ∧ NewB w w' v (packT t) := by
 have HI := Lib.hid hi
 have hcs : cs.length = 3 := by cases hi <;> rfl
 have hcok : okL 3 cs = true := by cases hi <;> rfl
 obtain ⟨w0, e0⟩ : ∃ w0, w0 = w.alloc (.cells cs.toArray 69) := ⟨_, rfl⟩
 have hb0 : Below w.heap.size w w0 := by rw [e0]; exact (Below.refl _ _).alloc (Nat.le_refl _) _
 have hr0 : w0.row? w.heap.size 0 3 = some cs := by rw [e0]; exact World.row?_alloc_at cs 69 _ rfl hcs
 have HE0 := Lib.hid e0
 have HB0 := Lib.hid hb0
 have HR0 := Lib.hid hr0
 have hlt := World.row?_lt hr0
 clear hi hb0 hr0 e0
 go_enter Tryz.func31, Tryz.ntmps31
 go_wp2_with fail
 rw [← HE0.out]
 refine (deep_ok 32 cs t 32 w0 hd hd (by decide) hs (HI.out.kept HB0.out)).mono ?_
 rintro e w1 ⟨rfl, hb1⟩
 have HB1 : Hid (Below w.heap.size w w1) := HB0.out.trans (hb1.mono HB0.out.size)
 have hr1 : w1.row? w.heap.size 0 3 = some cs := by rw [World.row?_of_block (hb1.block _ hlt)]; exact HR0.out
 have g1 : ¬ (32 : Int) < (depthT t : Nat) := by omega
 obtain ⟨dd, ed⟩ : ∃ dd, dd = depthT t := ⟨_, rfl⟩
 rw [← ed] at g1
 rw [← ed]
 clear hb1 ed
 go_wp2_with fail
 refine (packr_ok 32 cs t w1 hd hs (HI.out.kept HB1.out)).mono ?_
 rintro e w2 ⟨v, rfl, h2⟩
 obtain ⟨⟨a, c, rfl, h3, h4⟩, h5⟩ := h2.new
 have H2 : Hid (NewB w w2 (.slice a (packT t).length c) (packT t)) := ⟨⟨a, c, rfl, h3, fun p hp => Nat.le_trans HB1.out.size (h4 p hp)⟩, HB1.out.trans (h5.mono HB1.out.size)⟩
 have g2 : ¬ (16777216 : Int) < ((packT t).length : Nat) := by omega
 generalize hq : ((packT t).length) = q at *
 have HQ := Lib.hid hq
 clear h2 h3 h4 h5 hq
 go_wp2
 go_ret2
 exact ⟨_, rfl, H2.out⟩
end Go.Proofs.YtfflppedbopdpaaGreat
