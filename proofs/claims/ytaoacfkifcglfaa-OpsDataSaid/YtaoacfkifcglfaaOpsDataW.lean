/-
  The walk of the law OpsData: it returns true and leaves old memory alone, for every number and every slice of bytes.
-/
import Derived.Test.YtaoacfkifcglfaaOpsJumpsW
namespace Go.Proofs.Ytaoacfkifcglfaa
open Go.RowKit Go.Mun

def cA (n k : Nat) : List Int := (95 + n : Int) :: List.replicate k 91
def cB (n : Nat) : List Int := cA n n ++ [91, 127]
def cC (n k : Nat) : List Int := cB n ++ List.replicate k 91
def cD (n : Nat) (data : List Int) : List Int := cC n 32 ++ data

theorem cA_succ (n k : Nat) : cA n (k + 1) = cA n k ++ [91] := by
  unfold cA; rw [List.replicate_succ']; rfl
theorem cC_succ (n k : Nat) : cC n (k + 1) = cC n k ++ [91] := by
  unfold cC; rw [List.replicate_succ', List.append_assoc]
theorem cA_len (n k : Nat) : (cA n k).length = k + 1 := by simp [cA]
theorem cB_len (n : Nat) : (cB n).length = n + 3 := by simp [cB, cA_len]
theorem cC_len (n k : Nat) : (cC n k).length = n + 3 + k := by simp [cC, cB_len]
theorem cD_len (n : Nat) (d : List Int) : (cD n d).length = n + 35 + d.length := by simp [cD, cC_len]

theorem elem5 : ElemOf Try.prog 30 5 (.int .u8 0) 1 1 := .mk' Try.underlying30 (by kernel_rfl) rfl (by decide)

theorem own_one (w : World) (B : Nat) (x : Int) (hB : B ≤ w.heap.size) : (w.alloc (.cells #[.int .u8 x] 5)).ownsRow B 5 1 (.slice (some ⟨w.heap.size, 0, none⟩) 1 1) 1 ([x].map (Value.int .u8)) :=
  ⟨rfl, .inr ⟨w.heap.size, 1, _, rfl, hB, heap_alloc_new w _, Nat.le_refl _, by unfold maxLen; omega, rfl, rfl⟩⟩


theorem jumps_mem (l : List Int) : ∀ (n i : Nat) (x : Int), x ∈ jumps l n i → ∃ p : Nat, x = p ∧ i ≤ p ∧ p < l.length ∧ l[p]?.getD 0 = 91
  | 0, i, x, h => by simp [jumps] at h
  | n + 1, i, x, h => by
    rw [jumps] at h
    split at h
    · rename_i hi
      rcases List.mem_append.1 h with h | h
      · split at h
        · rename_i h91
          simp at h
          exact ⟨i, h, Nat.le_refl _, hi, h91⟩
        · simp at h
      · obtain ⟨p, h1, h2, h3, h4⟩ := jumps_mem l n _ x h
        exact ⟨p, h1, by omega, h3, h4⟩
    · simp at h

theorem jumps_sorted (l : List Int) : ∀ n i : Nat, (jumps l n i).Pairwise (· < ·)
  | 0, i => by simp [jumps]
  | n + 1, i => by
    rw [jumps]
    split
    · refine List.pairwise_append.2 ⟨by split <;> simp, jumps_sorted l n _, fun a ha b hb => ?_⟩
      obtain ⟨p, h1, h2, h3, h4⟩ := jumps_mem l n _ b hb
      split at ha
      · simp at ha; omega
      · simp at ha
    · simp

theorem cD_0 (n : Nat) (d : List Int) : (cD n d)[0]?.getD 0 = 95 + (n : Int) := by unfold cD cC cB cA; rfl
theorem cD_1 (n : Nat) (d : List Int) : (cD n d)[n + 1]?.getD 0 = 91 := by
  unfold cD cC cB
  rw [List.append_assoc, List.append_assoc, List.getElem?_append_right (by simp [cA_len])]
  simp [cA_len]
theorem cD_2 (n : Nat) (d : List Int) : (cD n d)[n + 2]?.getD 0 = 127 := by
  unfold cD cC cB
  rw [List.append_assoc, List.append_assoc, List.getElem?_append_right (by simp [cA_len])]
  simp [cA_len]

theorem data_jumps (n : Nat) (d : List Int) (h1 : 1 ≤ n) (h2 : n ≤ 32) :
    ∃ m, jumps (cD n d) (cD n d).length 0 = ((n + 1 : Nat) : Int) :: jumps (cD n d) m (n + 35) := by
  have hl := cD_len n d
  have e0 := cD_0 n d
  have e1 := cD_1 n d
  have e2 := cD_2 n d
  generalize hL : cD n d = L at *
  have o0 : ownOf (95 + (n : Int)) = n := by unfold ownOf; rw [if_pos (by omega)]; omega
  have o1 : ownOf 91 = 0 := by decide
  have o2 : ownOf 127 = 32 := by decide
  refine ⟨n + 32 + d.length, ?_⟩
  rw [show L.length = n + 32 + d.length + 1 + 1 + 1 by omega]
  rw [jumps, if_pos (by omega), if_neg (by rw [e0]; omega), e0, o0]
  rw [show 0 + 1 + ((n : Int)).toNat = n + 1 by omega]
  rw [jumps, if_pos (by omega), if_pos e1, e1, o1]
  rw [show n + 1 + 1 + (0 : Int).toNat = n + 2 from rfl]
  rw [jumps, if_pos (by omega), if_neg (by rw [e2]; omega), e2, o2]
  rfl

theorem data_law (n : Nat) (d L : List Int) (h1 : 1 ≤ n) (h2 : n ≤ 32) (hL : L = jumps (cD n d) (cD n d).length 0) :
    0 < L.length ∧ L[0]?.getD 0 = (n : Int) + 1 ∧ ∀ i, i + 1 < L.length → ∃ p : Nat, L[i + 1]?.getD 0 = p ∧ n + 35 ≤ p ∧ p < n + 35 + d.length ∧ (cD n d)[p]?.getD 0 = 91 ∧ L[i]?.getD 0 < p := by
  obtain ⟨m, hm⟩ := data_jumps n d h1 h2
  have hs := jumps_sorted (cD n d) (cD n d).length 0
  rw [← hL] at hs hm
  refine ⟨by rw [hm]; simp, by rw [hm]; simp, fun i hi => ?_⟩
  have hmem : L[i + 1]?.getD 0 ∈ jumps (cD n d) m (n + 35) := by
    rw [hm] at hi ⊢
    simp at hi
    simp [hi]
  obtain ⟨p, q1, q2, q3, q4⟩ := jumps_mem _ _ _ _ hmem
  refine ⟨p, q1, q2, by rw [cD_len] at q3; exact q3, q4, ?_⟩
  rw [← q1]
  have := List.pairwise_iff_getElem.1 hs i (i + 1) (by omega) hi (by omega)
  simpa [show i < L.length by omega, hi] using this

theorem ops_jumps_len (a : Option Addr) (len cap : Nat) (l : List Int) (w : World) (hlen : len = l.length) (hi : Ints w .u8 a cap l) (hb : ∀ i, i < l.length → 0 ≤ l[i]?.getD 0 ∧ l[i]?.getD 0 ≤ 255) (hl : l.length ≤ 1099511627776) :
    Calls Try.prog 14 #[.slice a len cap] w fun e w' => ∃ v, e = .returned v ∧ w'.ownsRow w.heap.size 3 1 v (jumps l l.length 0).length ((jumps l l.length 0).map (Value.int .i64)) ∧ Below w.heap.size w w' := by
  subst hlen; exact ops_jumps a cap l w hi hb hl

theorem cD_bytes (n : Nat) (d : List Int) (hn : n ≤ 32) (hb : ∀ i, i < d.length → 0 ≤ d[i]?.getD 0 ∧ d[i]?.getD 0 ≤ 255) : ∀ i, i < (cD n d).length → 0 ≤ (cD n d)[i]?.getD 0 ∧ (cD n d)[i]?.getD 0 ≤ 255 := by
  have hd : ∀ x ∈ d, 0 ≤ x ∧ x ≤ 255 := fun x hx => by
    obtain ⟨i, hi, rfl⟩ := List.getElem_of_mem hx
    simpa [hi] using hb i hi
  have : ∀ x ∈ cD n d, 0 ≤ x ∧ x ≤ 255 := by
    intro x hx
    simp only [cD, cC, cB, cA, List.mem_append, List.mem_cons, List.mem_replicate, List.not_mem_nil, or_false] at hx
    rcases hx with (((hx | hx) | hx | hx) | hx) | hx
    · omega
    · omega
    · omega
    · omega
    · omega
    · exact hd x hx
  intro i hi
  simpa [hi] using this _ (List.getElem_mem hi)

set_option maxHeartbeats 800000 in
theorem opsdata_main (n : Nat) (a : Option Addr) (cap : Nat) (d : List Int) (w : World) (hn : 1 ≤ n) (hn' : n ≤ 32) (hd : d.length ≤ 100) (hi : Ints w .u8 a cap d) (hb : ∀ i, i < d.length → 0 ≤ d[i]?.getD 0 ∧ d[i]?.getD 0 ≤ 255) :
    Calls Try.prog 5 #[.int .i64 n, .slice a d.length cap] w fun e w' => e = .returned (.bool true) ∧ Below w.heap.size w w' := by
  have HB := Lib.hid hb
  have HI := Lib.hid hi
  clear hb hi
  go_enter Try.func5, Try.ntmps5
  go_wp2_with fail
  refine (alive11 _).mono ?_
  rintro e w1 ⟨rfl, hb1⟩
  have s1 := hb1.size
  go_wp2_with fail
  go_loopw [6, 7] (fun v i wr => ∃ (k : Nat), k ≤ n ∧ i = .int .i64 k ∧ wr.ownsRow w.heap.size 5 1 v (k + 1) ((cA n k).map (Value.int .u8)) ∧ Below w.heap.size w wr) (fun _ i _ => n - (intOf i).toNat)
  case atStart =>
    exact ⟨0, by omega, rfl, own_one _ _ _ s1, hb1.alloc s1 _⟩
  case round =>
    obtain ⟨k, hk, rfl, hown, hbl⟩ := hrel
    have HO := Lib.hid hown
    clear hown
    have sr := hbl.size
    by_cases hlt : k < n
    · go_wp2_with (at_builtin; refine wpList_append_new elem5 rfl _ _ rfl HO.out rfl 1 rfl rfl ?c1 ?c2 ?c3 ?c4 ?_)
      case c1 => simp [Value.oneCell']
      case c2 => unfold maxLen; omega
      case c3 => omega
      case c4 => exact sr
      intro v' w2 ho hg _
      go_wp2
      go_roundw
      case rel => exact ⟨k + 1, by omega, by go_num, by rw [cA_succ]; simpa using ho, hbl.grown hg sr (fun j hj => (HO.out.lt j hj).1)⟩
      case measure => simp [intOf]; omega
    · obtain rfl : k = n := by omega
      go_wp2_with (at_builtin; refine wpList_append_new elem5 rfl _ _ rfl HO.out rfl 2 rfl rfl ?d1 ?d2 ?d3 ?d4 ?_)
      case d1 => intro u hu; simp at hu; rcases hu with rfl | rfl <;> rfl
      case d2 => unfold maxLen; omega
      case d3 => omega
      case d4 => exact sr
      intro v2 w2 ho2 hg2 _
      have hbl2 := hbl.grown hg2 sr (fun j hj => (HO.out.lt j hj).1)
      have sr2 := hbl2.size
      have ho2' : w2.ownsRow w.heap.size 5 1 v2 (k + 1 + 2) ((cC k 0).map (Value.int .u8)) := by simpa [cC, cB] using ho2
      clear ho2 hg2 hbl HO
      obtain ⟨a2, c2, rfl, -, -⟩ := Ints.of_own' ho2'
      have HO2 := Lib.hid ho2'
      clear ho2'
      go_wp2_with fail
      clear sr2
      obtain ⟨wo, HW⟩ : ∃ wo : World, Hid (wo = w2) := ⟨_, rfl⟩
      go_loopw [6, 9] (fun v i wr => ∃ (j : Nat), j ≤ 32 ∧ i = .int .i64 j ∧ wr.ownsRow w.heap.size 5 1 v (k + 1 + 2 + j) ((cC k j).map (Value.int .u8)) ∧ Below w.heap.size w wr) (fun _ i _ => 32 - (intOf i).toNat)
      case atStart => exact ⟨0, by omega, rfl, HO2.out, hbl2⟩
      case round =>
        obtain ⟨j, hj, rfl, hown, hbl⟩ := hrel
        have HO := Lib.hid hown
        clear hown
        have sr := hbl.size
        by_cases hlt : j < 32
        · go_wp2_with (at_builtin; refine wpList_append_new elem5 rfl _ _ rfl HO.out rfl 1 rfl rfl ?e1 ?e2 ?e3 ?e4 ?_)
          case e1 => simp [Value.oneCell']
          case e2 => unfold maxLen; omega
          case e3 => omega
          case e4 => exact sr
          intro v' w3 ho hg _
          go_wp2
          go_roundw
          case rel => exact ⟨j + 1, by omega, by go_num, by rw [cC_succ, ← Nat.add_assoc]; simpa using ho, hbl.grown hg sr (fun j hj => (HO.out.lt j hj).1)⟩
          case measure => simp [intOf]; omega
        · obtain rfl : j = 32 := by omega
          have I1 := Lib.hid (HI.out.below hbl)
          have hwf := Lib.hid (cD_bytes k d hn' HB.out)
          clear HB hbl2 hb1 s1 HO2 HW
          go_wp2_with (at_builtin; refine wpList_append_ints elem5 rfl _ _ rfl HO.out rfl rfl I1.out ?f1 ?f2 ?f3 ?_)
          case f1 => unfold maxLen; omega
          case f2 => omega
          case f3 => exact sr
          intro v4 w4 ho4 hg4
          have hbl4 := hbl.grown hg4 sr (fun j hj => (HO.out.lt j hj).1)
          have ho4' : w4.ownsRow w.heap.size 5 1 v4 (k + 1 + 2 + 32 + d.length) ((cD k d).map (Value.int .u8)) := by simpa [cD] using ho4
          clear ho4 hg4 HO I1 HI
          obtain ⟨a4, c4, rfl, -, I4⟩ := Ints.of_own' ho4'
          have HI4 := Lib.hid I4
          clear I4 ho4'
          go_wp2_with fail
          refine (ops_jumps_len a4 _ c4 (cD k d) _ (by rw [cD_len]) HI4.out hwf.out (by rw [cD_len]; omega)).mono ?_
          rintro e w5 ⟨v5, rfl, ho5, hb5⟩
          have HI5 := Lib.hid (HI4.out.below hb5)
          obtain ⟨L, HL⟩ : ∃ L, Hid (L = jumps (cD k d) (cD k d).length 0) := ⟨_, rfl⟩
          rw [← HL.out] at ho5
          have HP := Lib.hid (data_law k d L hn hn' HL.out)
          obtain ⟨a5, c5, rfl, -, I5⟩ := Ints.of_own ho5
          clear ho5
          have hlen0 := HP.out.1
          have hl63 := Nat.le_trans I5.len I5.cap
          unfold maxLen at hl63
          obtain ⟨b5, o5, rfl, hb5b, hc5⟩ := I5.at hlen0
          have hc50 := hc5 0 hlen0
          rw [HP.out.2.1, Nat.add_zero] at hc50
          have HC5 := Lib.hid hc5
          clear hc5 I5
          go_wp2_with fail
          clear hc50
          go_loopw [11] (fun i wr => ∃ (i0 : Nat), i0 < L.length ∧ i = .int .i64 ((i0 : Int) + 1) ∧ Below w5.heap.size w5 wr) (fun i _ => L.length - (intOf i).toNat)
          case atStart => exact ⟨0, hlen0, rfl, Below.refl _ _⟩
          case round =>
            obtain ⟨q, hq, rfl, hbr⟩ := hrel
            by_cases hlt : q + 1 < L.length
            · obtain ⟨p, p1, p2, p3, p4, p5⟩ := HP.out.2.2 q hlt
              obtain ⟨b4, o4, rfl, hb4b, hc4⟩ := HI5.out.at (show p < (cD k d).length by rw [cD_len]; exact p3)
              have hc4p := (hbr.cell (p := ⟨b4, o4 + p, none⟩) hb4b).trans (hc4 p (by rw [cD_len]; exact p3))
              have hcq := (hbr.cell (p := ⟨b5, o5 + q, none⟩) hb5b).trans (HC5.out q hq)
              have hcq1 := (hbr.cell (p := ⟨b5, o5 + (q + 1), none⟩) hb5b).trans (HC5.out (q + 1) hlt)
              rw [p1] at hcq1
              rw [p4] at hc4p
              generalize L[q]?.getD 0 = y at *
              clear hc4 p1 p4
              have t1 : decide ((p : Int) < ((k : Int) + 1 + 2 + 32)) = false := by simp; omega
              have t3 : decide ((k : Int) + 1 + 2 + 32 + (d.length : Int) ≤ (p : Int)) = false := by simp; omega
              have t4 : decide ((p : Int) ≤ y) = false := by simp; omega
              have u1 : (q : Int) + 1 < (L.length : Int) := by omega
              have u2 : (p : Int) < (k : Int) + 1 + 2 + 32 + (d.length : Int) := by omega
              have u3 : (q : Int) < (L.length : Int) := by omega
              go_wp2
              go_quiet (fail)
              go_wp2
              go_roundw
              case rel => exact ⟨q + 1, hlt, by go_num, by first | exact hbr | exact below_drewN hbr _⟩
              case measure => simp [intOf]; omega
            · have t1 : decide ((q : Int) + 1 < (L.length : Int)) = false := by simp; omega
              go_wp2
              go_ret
              exact ⟨rfl, (hbl4.trans (hb5.mono hbl4.size)).trans (hbr.mono (Nat.le_trans hbl4.size hb5.size))⟩

theorem opsdata_out (n : Int) (a : Option Addr) (len cap : Nat) (w : World) (hn : n < 1 ∨ 32 < n ∨ 100 < len) (hl : len ≤ 9223372036854775807) :
    Calls Try.prog 5 #[.int .i64 n, .slice a len cap] w fun e w' => e = .returned (.bool true) ∧ Below w.heap.size w w' := by
  by_cases h1 : n < 1
  · clear hn
    go_enter Try.func5, Try.ntmps5
    go_wp2_with fail
    refine (alive11 _).mono ?_
    rintro e w1 ⟨rfl, hb1⟩
    go_wp2_with fail
    go_ret
    exact ⟨rfl, hb1⟩
  by_cases h2 : 32 < n
  · clear hn
    go_enter Try.func5, Try.ntmps5
    go_wp2_with fail
    refine (alive11 _).mono ?_
    rintro e w1 ⟨rfl, hb1⟩
    go_wp2_with fail
    go_ret
    exact ⟨rfl, hb1⟩
  · have h3 : 100 < len := by omega
    clear hn
    go_enter Try.func5, Try.ntmps5
    go_wp2_with fail
    refine (alive11 _).mono ?_
    rintro e w1 ⟨rfl, hb1⟩
    go_wp2_with fail
    go_ret
    exact ⟨rfl, hb1⟩
end Go.Proofs.Ytaoacfkifcglfaa
