/-
  RLP: items as trees; contracts of rlp.of, measure, write, Pack, Num.
  The program's names of accounts: contracts of rlp.Num, evm.low, evm.Address, evm.Address2.
-/
import Derived.Test.YtikiciojfhfagaaGreatQRlp1
import Derived.Test.YtikiciojfhfagaaGreatQTy2
import Derived.Deep.RegionHeld3
set_option linter.unusedVariables false
set_option linter.unusedSimpArgs false
namespace Go.Mun
open Go.RowKit

inductive RTree where
  | bytes (l : List Int)
  | list (ts : List RTree)
mutual
def packT : RTree → List Int
  | .bytes l => if l.length = 1 ∧ l.getD 0 0 < 128 then l else headL 128 l.length ++ l
  | .list ts => headL 192 (packTs ts).length ++ packTs ts
def packTs : List RTree → List Int
  | [] => []
  | t :: ts => packT t ++ packTs ts
end
mutual
def depthT : RTree → Nat
  | .bytes _ => 0
  | .list ts => 1 + depthTs ts
def depthTs : List RTree → Nat
  | [] => 0
  | t :: ts => max (depthT t) (depthTs ts)
end
theorem packTs_take (ts : List RTree) (k : Nat) (h : k < ts.length) : packTs (ts.take (k + 1)) = packTs (ts.take k) ++ packT ts[k] := by
  induction ts generalizing k with
  | nil => simp at h
  | cons t ts ih =>
    cases k with
    | zero => simp [packTs]
    | succ k =>
      simp at h
      simp only [List.take_succ_cons, packTs, ih k (by omega), List.getElem_cons_succ, List.append_assoc]
theorem packTs_take_le (ts : List RTree) (k : Nat) : (packTs (ts.take k)).length ≤ (packTs ts).length := by
  induction ts generalizing k with
  | nil => simp [packTs]
  | cons t ts ih =>
    cases k with
    | zero => simp [packTs]
    | succ k => simp only [List.take_succ_cons, packTs, List.length_append]; have := ih k; omega
theorem packT_le (ts : List RTree) (k : Nat) (h : k < ts.length) : (packT ts[k]).length ≤ (packTs ts).length := by
  have h1 := packTs_take ts k h
  have h2 := packTs_take_le ts (k + 1)
  rw [h1] at h2; simp at h2; omega
theorem depthT_le (ts : List RTree) (k : Nat) (h : k < ts.length) : depthT ts[k] ≤ depthTs ts := by
  induction ts generalizing k with
  | nil => simp at h
  | cons t ts ih =>
    cases k with
    | zero => simp [depthTs]; omega
    | succ k => simp at h; have := ih k (by omega); simp only [depthTs, List.getElem_cons_succ]; omega
theorem headL_len (base n : Nat) : (headL base n).length + n = if n ≤ 55 then 1 + n else 1 + (bigL n).length + n := by
  unfold headL
  split <;> simp; omega

/-- Cells of an item that read as a tree. -/
inductive ItemAt (w : World) : List Value → RTree → Prop where
  | bytes (a : Option Addr) (n c : Nat) (l : List Int) (o1 : Option Addr) (o2 o3 : Nat) : n = l.length → Ints w .u8 a c l → (∀ x ∈ l, 0 ≤ x ∧ x < 256) → ItemAt w [.bool false, .slice a n c, .slice o1 o2 o3] (.bytes l)
  | list (a : Option Addr) (n c : Nat) (ts : List RTree) (cs : Nat → List Value) (o1 : Option Addr) (o2 o3 : Nat) : n = ts.length → (0 < n → ∃ b off, a = some ⟨b, off, none⟩ ∧ ∀ i, i < n → w.row? b (off + i * 3) 3 = some (cs i)) →
      (∀ i (h : i < ts.length), ItemAt w (cs i) ts[i]) → ItemAt w [.bool true, .slice o1 o2 o3, .slice a n c] (.list ts)
theorem ItemAt.kept {w w' : World} {cs : List Value} {t : RTree} (h : ItemAt w cs t) (hb : Below w.heap.size w w') : ItemAt w' cs t := by
  induction h with
  | bytes a n c l o1 o2 o3 hn hI hx => exact .bytes a n c l o1 o2 o3 hn (hI.below hb) hx
  | list a n c ts cs o1 o2 o3 hn hr _ ih =>
    refine .list a n c ts cs o1 o2 o3 hn (fun h0 => ?_) ih
    obtain ⟨b, off, ha, hc⟩ := hr h0
    exact ⟨b, off, ha, fun i hi => by rw [(brow hb).1 _ _ _ (World.row?_lt (hc i hi))]; exact hc i hi⟩
/-- What the program makes of an item: bytes, or a list. -/
def ifaceOf : List Value → Value
  | [.bool false, s, _] => .iface 26 s
  | [.bool true, _, s] => .iface 63 s
  | _ => .nilIface
end Go.Mun
namespace Go.Proofs.YtikiciojfhfagaaGreat
open Go.RowKit Go.Mun

theorem ta26 (v : Value) (w : World) : (Instr.typeAssert (.iface 26 v) 129 26 true).run Tryz.prog w = .ok (.tuple #[v, .bool true]) w := by
  simp [Instr.typeAssert, Sem.run_bind, run_underlying Tryz.underlying26]
theorem ta59 (v : Value) (w : World) : (Instr.typeAssert (.iface 63 v) 129 63 true).run Tryz.prog w = .ok (.tuple #[v, .bool true]) w := by
  simp [Instr.typeAssert, Sem.run_bind, run_underlying Tryz.underlying63]
theorem ta59' (v : Value) (w : World) : (Instr.typeAssert (.iface 63 v) 129 26 true).run Tryz.prog w = .ok (.tuple #[.slice none 0 0, .bool false]) w := by
  simp [Instr.typeAssert, Sem.run_bind, run_underlying Tryz.underlying26]
attribute [local go_sem] ta26 ta59 ta59'
theorem rlp_of (cs : List Value) (t : RTree) (w w0 : World) (h : ItemAt w0 cs t) : Calls Tryz.prog 67 #[.agg cs.toArray] w fun e w' => e = .returned (ifaceOf cs) ∧ Below w.heap.size w w' := by
  cases h with
  | bytes a n c l o1 o2 o3 hn hI hx =>
    clear hn hI hx
    go_enter Tryz.func67, Tryz.ntmps67
    go_wp2
    go_ret
    exact ⟨rfl, (Below.refl _ _).alloc (Nat.le_refl _) _⟩
  | list a n c ts cs o1 o2 o3 hn hr hi =>
    clear hn hr hi
    go_enter Tryz.func67, Tryz.ntmps67
    go_wp2
    go_ret
    exact ⟨rfl, (Below.refl _ _).alloc (Nat.le_refl _) _⟩
theorem packB_len (l : List Int) (h : ¬ (l.length = 1 ∧ l.getD 0 0 < 128)) : (packT (.bytes l)).length = sizeN l.length := by
  simp only [packT]
  rw [if_neg h, List.length_append, headL_len]; rfl
set_option maxRecDepth 100000 in
set_option maxHeartbeats 2000000 in
theorem measure_bytes (a : Option Addr) (n c : Nat) (l : List Int) (d : Int) (hn : n = l.length) (hx : ∀ x ∈ l, 0 ≤ x ∧ x < 256) (hs : (packT (.bytes l)).length ≤ 16777216) (w : World) (hI : Ints w .u8 a c l) :
    Calls Tryz.prog 68 #[.iface 26 (.slice a n c), .int .i64 d] w fun e w' => e = .returned (.tuple #[.int .i64 ((packT (.bytes l)).length : Nat), .bool true]) ∧ Below w.heap.size w w' := by
  by_cases h1 : n = 1
  · subst h1
    obtain ⟨b, off, rfl, hb, hc⟩ := hI.at (show 0 < l.length by omega)
    have c0 := hc 0 (by omega)
    rw [Nat.add_zero] at c0
    have hx0 := hx (l[0]?.getD 0) (by rw [List.getElem?_eq_getElem (by omega)]; exact List.getElem_mem _)
    have hg : l.getD 0 0 = l[0]?.getD 0 := by simp
    by_cases h2 : l.getD 0 0 < 128
    · have H : Hid ((packT (.bytes l)).length = 1) := by
        unfold Hid; simp only [packT]
        rw [if_pos ⟨hn.symm, h2⟩]; exact hn.symm
      rw [hg] at h2
      generalize l[0]?.getD 0 = x at *
      have HN := Lib.hid hn
      clear hn hx hc hI hs hg
      go_enter Tryz.func68, Tryz.ntmps68
      go_wp2
      go_ret2
      exact ⟨by rw [H.out]; rfl, Below.refl _ _⟩
    · have H : Hid ((packT (.bytes l)).length = sizeN 1) := by
        unfold Hid; rw [packB_len l (by rintro ⟨_, h⟩; exact h2 h), ← hn]
      rw [hg] at h2
      generalize l[0]?.getD 0 = x at *
      have HN := Lib.hid hn
      clear hn hx hc hI hs hg
      go_enter Tryz.func68, Tryz.ntmps68
      go_wp2_with fail
      refine (rlp_size 1 (by decide) _).mono ?_
      rintro e w1 ⟨rfl, hb1⟩
      go_wp2
      go_ret2
      exact ⟨by rw [H.out]; rfl, hb1⟩
  · have H : Hid ((packT (.bytes l)).length = sizeN n) := by
      unfold Hid; rw [packB_len l (by rintro ⟨h, _⟩; omega), ← hn]
    have hle : n ≤ 16777216 := by
      rw [H.out] at hs; unfold sizeN at hs; split at hs <;> omega
    have b1 : ((n : Int) == 1) = false := by simp; omega
    have b2 : (n : Int) ≤ 16777216 := by omega
    clear hn hx hI hs h1
    go_enter Tryz.func68, Tryz.ntmps68
    go_wp2_with fail
    refine (rlp_size n hle _).mono ?_
    rintro e w1 ⟨rfl, hb1⟩
    go_wp2
    go_ret2
    exact ⟨by rw [H.out]; rfl, hb1⟩

/-- The contract of measure at trees of some depth. -/
def MeasOk (k : Nat) : Prop := ∀ (cs : List Value) (t : RTree) (d : Nat) (w : World), depthT t ≤ k → depthT t + d ≤ 32 → (packT t).length ≤ 16777216 → ItemAt w cs t →
  Calls Tryz.prog 68 #[ifaceOf cs, .int .i64 d] w fun e w' => e = .returned (.tuple #[.int .i64 ((packT t).length : Nat), .bool true]) ∧ Below w.heap.size w w'
set_option maxRecDepth 100000 in
set_option maxHeartbeats 4000000 in
theorem measure_list (k : Nat) (ih : MeasOk k) (a : Option Addr) (n c : Nat) (ts : List RTree) (css : Nat → List Value) (d : Nat) (w : World) (hn : n = ts.length)
    (hr : 0 < n → ∃ b off, a = some ⟨b, off, none⟩ ∧ ∀ i, i < n → w.row? b (off + i * 3) 3 = some (css i)) (hi : ∀ i (h : i < ts.length), ItemAt w (css i) ts[i])
    (hd : depthTs ts ≤ k) (hd2 : 1 + depthTs ts + d ≤ 32) (hs : (packT (.list ts)).length ≤ 16777216) (hn2 : n ≤ 16777216) :
    Calls Tryz.prog 68 #[.iface 63 (.slice a n c), .int .i64 d] w fun e w' => e = .returned (.tuple #[.int .i64 ((packT (.list ts)).length : Nat), .bool true]) ∧ Below w.heap.size w w' := by
  have HN := Lib.hid hn
  have HR := Lib.hid hr
  have HI := Lib.hid hi
  have HD := Lib.hid (And.intro hd hd2)
  have hd32 : ((d : Int) == 32) = false := by simp; omega
  have hdw : IntKind.i64.wrap ((d : Int) + 1) = (d : Int) + 1 := wrI _ (by omega) (by omega)
  have hT : Hid ((packT (.list ts)).length = sizeN (packTs ts).length ∧ (packTs ts).length ≤ 16777216) := by
    have e : (packT (.list ts)).length = sizeN (packTs ts).length := by simp only [packT, List.length_append]; rw [headL_len]; rfl
    refine ⟨e, ?_⟩
    rw [e] at hs
    unfold sizeN at hs
    split at hs <;> omega
  have hd31 : d ≤ 31 := by omega
  clear hn hr hi hd hd2 hs
  go_enter Tryz.func68, Tryz.ntmps68
  go_wp2_with fail
  go_loopw [8, 39] (fun s i wr => ∃ j : Nat, j ≤ n ∧ i = .int .i64 j ∧ s = .int .i64 ((packTs (ts.take j)).length : Nat) ∧ Below w.heap.size w wr) (fun _ i _ => n - (intOf i).toNat)
  case atStart => exact ⟨0, by omega, rfl, rfl, Below.refl _ _⟩
  case round =>
    obtain ⟨j, hj, rfl, rfl, hb⟩ := hrel
    by_cases hlt : j < n
    · obtain ⟨b, off, ha, hc⟩ := HR.out (by omega)
      subst ha
      have hj' : j < ts.length := by rw [← HN.out]; exact hlt
      have c0 := hc j hlt
      have hbl := World.row?_lt c0
      rw [(brow hb).1 _ _ _ hbl |>.symm] at c0
      have hit := HI.out j hj'
      have HP := Lib.hid (packTs_take ts j hj')
      have hle := packT_le ts j hj'
      have hle2 := packTs_take_le ts (j + 1)
      have hdep := depthT_le ts j hj'
      generalize css j = cs at *
      generalize ts[j] = t at *
      obtain ⟨s0, es0⟩ : ∃ s0, s0 = (packTs (ts.take j)).length := ⟨_, rfl⟩
      have hsum : s0 + (packT t).length = (packTs (ts.take (j + 1))).length := by rw [HP.out, List.length_append, es0]
      have hcs : cs.length = 3 := World.row?_len c0
      have hcok : okL 3 cs = true := by cases hit <;> rfl
      rw [← es0]
      have HB := Lib.hid hb
      have HIt := Lib.hid hit
      have HS := Lib.hid (And.intro hsum (And.intro hle (And.intro hle2 hdep)))
      have b1 : (j : Int) < (n : Int) := by omega
      clear hb hit hc hsum hle hle2 hdep es0
      go_wp2_with fail
      refine (rlp_of cs t _ w HIt.out).mono ?_
      rintro e w2 ⟨rfl, hb2⟩
      have HB2 : Hid (Below w.heap.size w w2) :=
        HB.out.trans ((((Below.refl wr.heap.size wr).alloc (Nat.le_refl _) _).setCells (Nat.le_refl _) 0 cs).trans (hb2.mono (by simp)) |>.mono HB.out.size)
      have hit2 := HIt.out.kept HB2.out
      clear hb2
      go_wp2_with fail
      refine (ih cs t (d + 1) w2 (by have := HS.out; have := HD.out; omega) (by have := HS.out; have := HD.out; omega) (by have := HS.out; have := hT.out; omega) hit2).mono ?_
      rintro e w3 ⟨rfl, hb3⟩
      have HB3 : Hid (Below w.heap.size w w3) := HB2.out.trans (hb3.mono HB2.out.size)
      obtain ⟨s1, es1⟩ : ∃ s1, s1 = (packT t).length := ⟨_, rfl⟩
      have hS1 : s0 + s1 ≤ 16777216 := by have := HS.out; have := hT.out; omega
      have hw1 : IntKind.i64.wrap ((s0 : Int) + (s1 : Int)) = (s0 : Int) + (s1 : Int) := wrI _ (by omega) (by omega)
      have hgt : ¬ (16777216 : Int) < (s0 : Int) + (s1 : Int) := by omega
      have HS1 : Hid (s0 + s1 = (packTs (ts.take (j + 1))).length) := by unfold Hid; rw [es1]; exact HS.out.1
      rw [← es1]
      clear hb3 hit2 es1
      go_wp2_with fail
      go_roundw
      case rel => exact ⟨j + 1, by omega, by go_num, by rw [← HS1.out]; go_num, HB3.out⟩
      case measure => simp [intOf]; omega
    · obtain rfl : j = n := by omega
      have e : ts.take j = ts := List.take_of_length_le (by rw [HN.out]; omega)
      rw [e]
      have HB := Lib.hid hb
      have hle := hT.out.2
      have HT1 := Lib.hid hT.out.1
      clear hb e hT
      generalize (packTs ts).length = s0 at *
      have b1 : ¬ (j : Int) < (j : Int) := by omega
      go_wp2_with fail
      refine (rlp_size s0 hle _).mono ?_
      rintro e w1 ⟨rfl, hb1⟩
      have HB1 : Hid (Below w.heap.size w w1) := HB.out.trans (hb1.mono HB.out.size)
      clear hb1
      go_wp2
      go_ret2
      exact ⟨by rw [HT1.out]; rfl, HB1.out⟩

theorem headL_pos (base n : Nat) : 1 ≤ (headL base n).length := by unfold headL; split <;> simp
theorem packT_pos (t : RTree) : 1 ≤ (packT t).length := by
  cases t with
  | bytes l =>
    simp only [packT]
    split
    · rename_i h; omega
    · have := headL_pos 128 l.length; simp; omega
  | list ts => have := headL_pos 192 (packTs ts).length; simp only [packT, List.length_append]; omega
theorem packTs_pos (ts : List RTree) : ts.length ≤ (packTs ts).length := by
  induction ts with
  | nil => simp
  | cons t ts ih => have := packT_pos t; simp only [packTs, List.length_append, List.length_cons]; omega
theorem packTs_le (ts : List RTree) : (packTs ts).length ≤ (packT (.list ts)).length := by simp only [packT, List.length_append]; omega
theorem meas_ok : ∀ k, MeasOk k := by
  intro k
  induction k with
  | zero =>
    intro cs t d w h1 h2 h3 h4
    cases h4 with
    | bytes a n c l o1 o2 o3 hn hI hx => exact measure_bytes a n c l d hn hx h3 w hI
    | list a n c ts cs o1 o2 o3 hn hr hi => simp [depthT] at h1
  | succ k ih =>
    intro cs t d w h1 h2 h3 h4
    cases h4 with
    | bytes a n c l o1 o2 o3 hn hI hx => exact measure_bytes a n c l d hn hx h3 w hI
    | list a n c ts cs o1 o2 o3 hn hr hi =>
      simp only [depthT] at h1 h2
      have := packTs_pos ts; have := packTs_le ts
      exact measure_list k ih a n c ts cs d w hn hr hi (by omega) (by omega) h3 (by omega)

/-! write -/
set_option maxRecDepth 100000 in
set_option maxHeartbeats 2000000 in
theorem write_bytes (a : Option Addr) (n c : Nat) (l : List Int) (hn : n = l.length) (hx : ∀ x ∈ l, 0 ≤ x ∧ x < 256) (hs : n ≤ 16777216) (w : World) (hI : Ints w .u8 a c l) :
    Calls Tryz.prog 69 #[.iface 26 (.slice a n c)] w fun e w' => ∃ v, e = .returned v ∧ OwnB w w' v (packT (.bytes l)) := by
  by_cases h1 : n = 1
  · subst h1
    have hI2 := hI
    obtain ⟨b, off, rfl, hb, hc⟩ := hI.at (show 0 < l.length by omega)
    have c0 := hc 0 (by omega)
    rw [Nat.add_zero] at c0
    have hx0 := hx (l[0]?.getD 0) (by rw [List.getElem?_eq_getElem (by omega)]; exact List.getElem_mem _)
    have hg : l.getD 0 0 = l[0]?.getD 0 := by simp
    by_cases h2 : l.getD 0 0 < 128
    · have H : Hid (packT (.bytes l) = [l[0]?.getD 0]) := by
        unfold Hid; simp only [packT]
        rw [if_pos ⟨hn.symm, h2⟩]
        match l, hn with
        | [x], _ => rfl
      rw [hg] at h2
      generalize l[0]?.getD 0 = x at *
      have HO := Lib.hid (World.ownsRow_lit (e := 5) (size := 1) w #[Value.int .u8 x] 1 (Nat.le_refl _) (by decide) rfl)
      clear hn hx hc hI hI2 hs hg
      go_enter Tryz.func69, Tryz.ntmps69
      go_wp2
      go_ret
      exact ⟨_, rfl, by rw [H.out]; exact HO.out, (Below.refl _ _).alloc (Nat.le_refl _) _⟩
    · have H : Hid (packT (.bytes l) = headL 128 1 ++ l) := by
        unfold Hid; simp only [packT]
        rw [if_neg (by rintro ⟨_, h⟩; exact h2 h), ← hn]
      rw [hg] at h2
      generalize l[0]?.getD 0 = x at *
      have HN := Lib.hid hn
      have HI := Lib.hid hI2
      clear hn hx hc hI hI2 hs hg
      go_enter Tryz.func69, Tryz.ntmps69
      go_wp2_with fail
      refine (rlp_headed 128 1 _ c l (by decide) HN.out (by decide) _ HI.out).mono ?_
      rintro e w1 ⟨v, rfl, h5⟩
      have H5 : Hid (OwnB w w1 v (packT (.bytes l))) := by unfold Hid; rw [H.out]; exact h5
      clear h5
      go_wp2
      go_ret
      exact ⟨_, rfl, H5.out⟩
  · have H : Hid (packT (.bytes l) = headL 128 n ++ l) := by
      unfold Hid; simp only [packT]
      rw [if_neg (by rintro ⟨h, _⟩; omega), ← hn]
    have b1 : ((n : Int) == 1) = false := by simp; omega
    have HN := Lib.hid hn
    have HI := Lib.hid hI
    clear hn hx hI h1
    go_enter Tryz.func69, Tryz.ntmps69
    go_wp2_with fail
    refine (rlp_headed 128 n a c l (by decide) HN.out hs _ HI.out).mono ?_
    rintro e w1 ⟨v, rfl, h5⟩
    have H5 : Hid (OwnB w w1 v (packT (.bytes l))) := by unfold Hid; rw [H.out]; exact h5
    clear h5
    go_wp2
    go_ret
    exact ⟨_, rfl, H5.out⟩
def WriteOk (k : Nat) : Prop := ∀ (cs : List Value) (t : RTree) (w : World), depthT t ≤ k → (packT t).length ≤ 16777216 → ItemAt w cs t →
  Calls Tryz.prog 69 #[ifaceOf cs] w fun e w' => ∃ v, e = .returned v ∧ OwnB w w' v (packT t)
set_option maxRecDepth 100000 in
set_option maxHeartbeats 4000000 in
theorem write_list (k : Nat) (ih : WriteOk k) (a : Option Addr) (n c : Nat) (ts : List RTree) (css : Nat → List Value) (w : World) (hn : n = ts.length)
    (hr : 0 < n → ∃ b off, a = some ⟨b, off, none⟩ ∧ ∀ i, i < n → w.row? b (off + i * 3) 3 = some (css i)) (hi : ∀ i (h : i < ts.length), ItemAt w (css i) ts[i])
    (hd : depthTs ts ≤ k) (hs : (packT (.list ts)).length ≤ 16777216) (hn2 : n ≤ 16777216) :
    Calls Tryz.prog 69 #[.iface 63 (.slice a n c)] w fun e w' => ∃ v, e = .returned v ∧ OwnB w w' v (packT (.list ts)) := by
  have HN := Lib.hid hn
  have HR := Lib.hid hr
  have HI := Lib.hid hi
  have HD := Lib.hid hd
  have hT : Hid (packT (.list ts) = headL 192 (packTs ts).length ++ packTs ts ∧ (packTs ts).length ≤ 16777216) := by
    refine ⟨by simp only [packT], ?_⟩
    have := packTs_le ts; omega
  clear hn hr hi hd hs
  go_enter Tryz.func69, Tryz.ntmps69
  go_wp2_with fail
  go_loopw [5, 32] (fun s i wr => ∃ j : Nat, j ≤ n ∧ i = .int .i64 j ∧ OwnB w wr s (packTs (ts.take j))) (fun _ i _ => n - (intOf i).toNat)
  case atStart => exact ⟨0, by omega, rfl, World.ownsRow_nil _ _ _ _, Below.refl _ _⟩
  case round =>
    obtain ⟨j, hj, rfl, ho⟩ := hrel
    by_cases hlt : j < n
    · obtain ⟨b, off, ha, hc⟩ := HR.out (by omega)
      subst ha
      have hj' : j < ts.length := by rw [← HN.out]; exact hlt
      have c0 := hc j hlt
      have hbl := World.row?_lt c0
      have hb := ho.below
      rw [(brow hb).1 _ _ _ hbl |>.symm] at c0
      have hit := HI.out j hj'
      have HP := Lib.hid (packTs_take ts j hj')
      have hle := packT_le ts j hj'
      have hle2 := packTs_take_le ts (j + 1)
      have hdep := depthT_le ts j hj'
      generalize css j = cs at *
      generalize ts[j] = t at *
      obtain ⟨s0, es0⟩ : ∃ s0, s0 = (packTs (ts.take j)).length := ⟨_, rfl⟩
      have hsum : s0 + (packT t).length = (packTs (ts.take (j + 1))).length := by rw [HP.out, List.length_append, es0]
      have hcs : cs.length = 3 := World.row?_len c0
      have hcok : okL 3 cs = true := by cases hit <;> rfl
      have hown := ho.own
      rw [← es0] at hown
      have HE0 := Lib.hid es0
      have HB := Lib.hid hb
      have HIt := Lib.hid hit
      have HOw := Lib.hid hown
      have HS := Lib.hid (And.intro hsum (And.intro hle (And.intro hle2 hdep)))
      have b1 : (j : Int) < (n : Int) := by omega
      clear hb hit hc hsum hle hle2 hdep ho hown
      go_wp2_with fail
      refine (rlp_of cs t _ w HIt.out).mono ?_
      rintro e w2 ⟨rfl, hb2⟩
      have HB12 : Hid (Below wr.heap.size wr w2) := (((Below.refl wr.heap.size wr).alloc (Nat.le_refl _) _).setCells (Nat.le_refl _) 0 cs).trans (hb2.mono (by simp))
      have HB2 : Hid (Below w.heap.size w w2) := HB.out.trans (HB12.out.mono HB.out.size)
      have hit2 := HIt.out.kept HB2.out
      clear hb2
      go_wp2_with fail
      refine (ih cs t w2 (by have := HS.out; have := HD.out; omega) (by have := HS.out; have := hT.out; omega) hit2).mono ?_
      rintro e w3 ⟨v3, rfl, h3⟩
      have HB13 : Hid (Below wr.heap.size wr w3) := HB12.out.trans (h3.below.mono HB12.out.size)
      have HB3 : Hid (Below w.heap.size w w3) := HB2.out.trans (h3.below.mono HB2.out.size)
      obtain ⟨a3, c3, rfl, _, hI3⟩ := Ints.of_own' h3.own
      have HI3 := Lib.hid hI3
      have HOw3 := Lib.hid (ownsRow_below HOw.out HB13.out)
      obtain ⟨s1, es1⟩ : ∃ s1, s1 = (packT t).length := ⟨_, rfl⟩
      have hS1 : s0 + s1 ≤ 16777216 := by have := HS.out; have := hT.out; omega
      have HS1 : Hid (s0 + s1 = (packTs (ts.take (j + 1))).length ∧ s1 = (packT t).length) := ⟨by rw [es1]; exact HS.out.1, es1⟩
      rw [← es1]
      have HE := Lib.hid es1
      clear h3 hit2 es1 hI3
      go_wp2_with (at_builtin; go_must (refine wpList_append_intsN (base := w.heap.size) elem26 rfl _ _ rfl HOw3.out rfl rfl HE.out HI3.out ?d3 ?d4 ?d5 ?_))
      case d3 => unfold maxLen; omega
      case d4 => omega
      case d5 => exact HB3.out.size
      intro v4 w4 ho4 hg4
      have H4 : Hid (OwnB w w4 v4 (packTs (ts.take (j + 1)))) := by
        refine ⟨?_, HB3.out.grown hg4 HB3.out.size (fun k hk => (HOw3.out.lt k hk).1)⟩
        rw [← HS1.out.1, HP.out, List.map_append]
        first | exact ho4 | (rw [HE0.out]; exact ho4)
      clear ho4 hg4
      go_wp2_with fail
      go_roundw
      case rel => exact ⟨j + 1, by omega, by go_num, H4.out⟩
      case measure => simp [intOf]; omega
    · obtain rfl : j = n := by omega
      have e : ts.take j = ts := List.take_of_length_le (by rw [HN.out]; omega)
      rw [e] at ho
      have hle := hT.out.2
      have HT1 := Lib.hid hT.out.1
      obtain ⟨s0, es0⟩ : ∃ s0, s0 = (packTs ts).length := ⟨_, rfl⟩
      have hown := ho.own
      rw [← es0] at hown hle HT1
      obtain ⟨a3, c3, rfl, hl3, hI3⟩ := Ints.of_own' hown
      have HI3 := Lib.hid hI3
      have HE := Lib.hid es0
      have HB := Lib.hid ho.below
      clear ho e hT es0 hown hl3 hI3
      have b1 : ¬ (j : Int) < (j : Int) := by omega
      go_wp2_with fail
      refine (rlp_headed 192 s0 a3 c3 (packTs ts) (by decide) HE.out hle _ HI3.out).mono ?_
      rintro e w1 ⟨v, rfl, h5⟩
      have H5 : Hid (OwnB w w1 v (packT (.list ts))) := by
        unfold Hid; rw [HT1.out]
        exact ⟨ownsRow_mono h5.own HB.out.size, HB.out.trans (h5.below.mono HB.out.size)⟩
      clear h5
      go_wp2
      go_ret
      exact ⟨_, rfl, H5.out⟩
theorem write_ok : ∀ k, WriteOk k := by
  intro k
  induction k with
  | zero =>
    intro cs t w h1 h3 h4
    cases h4 with
    | bytes a n c l o1 o2 o3 hn hI hx =>
      have : l.length ≤ (packT (.bytes l)).length := by simp only [packT]; split <;> simp
      exact write_bytes a n c l hn hx (by omega) w hI
    | list a n c ts cs o1 o2 o3 hn hr hi => simp [depthT] at h1
  | succ k ih =>
    intro cs t w h1 h3 h4
    cases h4 with
    | bytes a n c l o1 o2 o3 hn hI hx =>
      have : l.length ≤ (packT (.bytes l)).length := by simp only [packT]; split <;> simp
      exact write_bytes a n c l hn hx (by omega) w hI
    | list a n c ts cs o1 o2 o3 hn hr hi =>
      simp only [depthT] at h1
      have := packTs_pos ts; have := packTs_le ts
      exact write_list k ih a n c ts cs w hn hr hi (by omega) h3 (by omega)

set_option maxRecDepth 100000 in
set_option maxHeartbeats 2000000 in
theorem rlp_pack (cs : List Value) (t : RTree) (w : World) (hd : depthT t ≤ 32) (hs : (packT t).length ≤ 16777216) (hi : ItemAt w cs t) :
    Calls Tryz.prog 36 #[.agg cs.toArray] w fun e w' => ∃ v, e = .returned (.tuple #[v, .int .i64 0]) ∧ NewB w w' v (packT t) := by
  have HI := Lib.hid hi
  have hcs : cs.length = 3 := by cases hi <;> rfl
  have hcok : okL 3 cs = true := by cases hi <;> rfl
  clear hi
  go_enter Tryz.func36, Tryz.ntmps36
  go_wp2_with fail
  refine (rlp_of cs t _ w HI.out).mono ?_
  rintro e w1 ⟨rfl, hb1⟩
  have HB1 : Hid (Below w.heap.size w w1) := ((Below.refl w.heap.size w).alloc (Nat.le_refl _) (.cells cs.toArray 65)).trans (hb1.mono (by simp))
  have hi1 := HI.out.kept HB1.out
  clear hb1
  go_wp2_with fail
  refine (meas_ok 32 cs t 0 w1 hd hd hs hi1).mono ?_
  rintro e w2 ⟨rfl, hb2⟩
  have HB2 : Hid (Below w.heap.size w w2) := HB1.out.trans (hb2.mono HB1.out.size)
  have hi2 := HI.out.kept HB2.out
  have hgt : ¬ (16777216 : Int) < ((packT t).length : Nat) := by omega
  generalize hq : ((packT t).length : Int) = q at *
  have HQ := Lib.hid hq
  clear hb2 hi1 hq
  go_wp2_with fail
  refine (write_ok 32 cs t w2 hd hs hi2).mono ?_
  rintro e w3 ⟨v, rfl, h3⟩
  have H3 : Hid (NewB w w3 v (packT t)) := h3.new.up HB2.out
  clear h3
  go_wp2
  go_ret2
  exact ⟨v, rfl, H3.out⟩
end Go.Proofs.YtikiciojfhfagaaGreat
namespace Go.Proofs.YtikiciojfhfagaaGreat
open Go.RowKit Go.Mun

set_option maxRecDepth 100000 in
theorem rlp_bigI (n : Int) (hn : n ≤ 9223372036854775807) (w : World) : Calls Tryz.prog 70 #[.int .i64 n] w fun e w' => ∃ v, e = .returned v ∧ NewB w w' v (bigL n.toNat) := by
  by_cases h : 0 ≤ n
  · obtain ⟨m, rfl⟩ := Int.eq_ofNat_of_zero_le h
    exact rlp_big m (by omega) w
  · have e : n.toNat = 0 := by omega
    have H : Hid (bigL n.toNat = []) := by unfold Hid; rw [e, bigL, digs_zero]; rfl
    have b1 : ¬ 0 < n := by omega
    clear e h
    go_enter Tryz.func70, Tryz.ntmps70
    go_wp2_with fail
    go_loop [0, 3] (fun i v => i = .int .i64 n ∧ v = .slice none 0 0) (fun _ _ => 0)
    case atStart => exact ⟨rfl, rfl⟩
    case round =>
      obtain ⟨rfl, rfl⟩ := hrel
      go_wp2_with fail
      refine (reverse_nil none 0 _).mono ?_
      rintro e w1 ⟨rfl, rfl⟩
      go_wp2
      go_ret
      exact ⟨_, rfl, ⟨none, 0, by rw [H.out]; rfl, by rw [H.out]; exact ⟨fun h => absurd rfl h, fun _ => rfl, Nat.zero_le _, Nat.zero_le _⟩, fun p hp => by cases hp⟩, Below.refl _ _⟩
theorem Ints.only {w w' : World} {k : IntKind} {a : Option Addr} {c : Nat} {l : List Int} {S : Nat → Prop} (h : Ints w k a c l) (ho : Only S w w') (hs : ∀ p, a = some p → ¬ S p.block) : Ints w' k a c l := by
  refine ⟨fun hl => ?_, h.nil, h.len, h.cap⟩
  obtain ⟨b, off, ha, hc⟩ := h.cell hl
  refine ⟨b, off, ha, fun i hi => ?_⟩
  have hb : b < w.heap.size := by
    obtain ⟨b2, o2, ha2, hb2, _⟩ := h.at (i := 0) (List.length_pos_iff.2 hl)
    rw [ha] at ha2; cases ha2; exact hb2
  rw [ho.cell? hb (hs _ ha)]; exact hc i hi
theorem bigL_byte (n : Nat) : ∀ x ∈ bigL n, 0 ≤ x ∧ x < 256 := fun x hx => digs_byte n x (List.mem_reverse.1 hx)

/-- An item that a call hands back. -/
structure NewI (w w' : World) (v : Value) (t : RTree) : Prop where
  read : ∃ cs, v = .agg cs.toArray ∧ ItemAt w' cs t
  below : Below w.heap.size w w'
set_option maxRecDepth 100000 in
theorem rlp_num (n : Int) (hn : n ≤ 9223372036854775807) (w : World) : Calls Tryz.prog 37 #[.int .i64 n] w fun e w' => ∃ v, e = .returned v ∧ NewI w w' v (.bytes (bigL n.toNat)) := by
  go_enter Tryz.func37, Tryz.ntmps37
  go_wp2_with fail
  refine (rlp_bigI n hn _).mono ?_
  rintro e w1 ⟨v, rfl, h1⟩
  obtain ⟨a, c, rfl, h2, hfr⟩ := h1.read
  have HF := Lib.hid hfr
  clear hfr
  have hf : w1.free? w.heap.size 0 3 = true := by
    rw [(brow h1.below).2 _ _ _ (by simp)]; simp [go_sem]
  have hb := h1.below
  have HB : Hid (Below w.heap.size w w1) := ((Below.refl _ _).alloc (Nat.le_refl _) _).trans (hb.mono (by simp))
  have hby := bigL_byte n.toNat
  have H2 := Lib.hid h2
  have hY := Lib.hid hby
  generalize hl : (bigL n.toNat).length = k at *
  have HL := Lib.hid hl
  clear h1 h2 hb hby hl
  go_wp2
  have e : lay itemZ 1 [Value.slice a k c] = [.bool false, .slice a k c, .slice none 0 0] := rfl
  rw [e]
  refine ret_row ty61 rfl _ rfl rfl hf (by simp [okL, Value.oneCell']) ⟨_, rfl, ⟨_, rfl, ?_⟩, HB.out.setCells (Nat.le_refl _) _ _⟩
  refine .bytes a k c _ none 0 0 HL.out.symm ?_ hY.out
  refine Ints.only (S := (· = w.heap.size)) H2.out ((Only.refl (· = w.heap.size) w1).setCells (fun _ => rfl) _ _) (fun p hp => ?_)
  have := HF.out p hp
  simp at this
  omega

def lowL (L : List Int) : List Int := (L.drop 12).take 20
theorem lowL_len (L : List Int) (h : L.length = 32) : (lowL L).length = 20 := by simp [lowL, h]
set_option maxRecDepth 100000 in
theorem evm_low (L : List Int) (h : L.length = 32) (w : World) : Calls Tryz.prog 38 #[.agg (u8L L).toArray] w fun e w' => e = .returned (.agg (u8L (lowL L)).toArray) ∧ Below w.heap.size w w' := by
  have hl : (u8L L).length = 32 := by simp [h]
  have hok := u8L_ok L 32 h
  have H : Hid ((((u8L L).drop 12).take 20) = u8L (lowL L)) := by unfold Hid lowL u8L; rw [List.map_take, List.map_drop]
  have hok2 := u8L_ok (lowL L) 20 (lowL_len L h)
  clear h
  generalize u8L L = V at *
  have ka : ∀ b w, (Instr.arrayAt 23 (.slice (some ⟨b, 12, none⟩) 20 20)).run Tryz.prog w = .ok (.pointer (some ⟨b, 12, none⟩)) w := fun b w => run_toArray Tryz.underlying23 _ _ _ (by decide) w
  have kr : (w.alloc (.cells V.toArray 25)).row? w.heap.size 12 20 = some ((V.drop 12).take 20) := World.row?_alloc_sub V 25 _ rfl (by omega)
  rw [H.out] at kr
  generalize u8L (lowL L) = R at *
  have kf : ((w.alloc (.cells V.toArray 25)).alloc (.cells (zU8 20).toArray 23)).free? (w.heap.size + 1) 0 20 = true := by simp [go_sem]
  go_enter Tryz.func38, Tryz.ntmps38
  go_wp2
  exact ret_row ty23 rfl _ rfl rfl kf hok2 ⟨rfl, (((Below.refl _ _).alloc (Nat.le_refl _) _).alloc (by simp) _).setCells (by simp) _ _⟩

/-! a literal of two items -/
def itemZ2 : List Value := itemZ ++ itemZ
set_option maxRecDepth 1000000 in
theorem sl59_2 : SliceLit Tryz.prog 63 65 3 2 itemZ2 := ⟨Tryz.underlying63, ⟨_, .agg itemZ.toArray, rfl, by kernel_rfl, by kernel_rfl, by kernel_rfl⟩, by decide, by simp [itemZ2, itemZ], by decide⟩
def fill59 (p : List (Nat × Value)) : Option (List Value) := fillL (2 * 3) ((List.range 2).map fun i => (i * 3, 3)) itemZ2 p
theorem bs59_2 (ρ : Operand → Value) (dst : Option Tmp) (x y : Operand) (t : TypeId) (pos : String) (after : Array Edge) (gd : Option (Nat × Bool)) (w : World) :
    (execOp ρ ⟨dst, .buildSlice 63 2 #[(0, x), (1, y)], t, pos, after, gd⟩).run Tryz.prog w = asNext (bsRow Tryz.prog 63 65 2 [(0, ρ x), (1, ρ y)] w (fill59 [(0, ρ x), (1, ρ y)])) :=
  ex_bslice ρ dst t pos after gd w sl59_2 [(0, x), (1, y)]
@[go_sem] theorem fill59_two (c0 c1 : List Value) (h0 : c0.length = 3) (h1 : c1.length = 3) : fill59 [(0, .agg c0.toArray), (1, .agg c1.toArray)] = some (c0 ++ c1) := by
  match c0, h0, c1, h1 with
  | [a, b, c], _, [d, e, f], _ => rfl
attribute [go_sem ↓] bs59_2

theorem item_bytes {w : World} {b off n c : Nat} {F : List Int} (hF : F.length = n) (hr : w.row? b off n = some (u8L F)) (hc : n ≤ c) (hm : c ≤ maxLen) (hx : ∀ x ∈ F, 0 ≤ x ∧ x < 256) :
    ItemAt w [.bool false, .slice (some ⟨b, off, none⟩) n c, .slice none 0 0] (.bytes F) := by
  refine .bytes _ n c F none 0 0 hF.symm ⟨fun _ => ⟨b, off, rfl, fun i hi => ?_⟩, fun h => by simp at h, by omega, hm⟩ hx
  rw [World.row?_cell hr (show i < n by omega)]
  simp [u8L, List.getElem?_map, List.getElem?_eq_getElem hi]

/-- The bytes that an address comes of. -/
def adrB (F : List Int) (n : Int) : List Int := packT (.list [.bytes F, .bytes (bigL n.toNat)])
theorem adr_small (F : List Int) (hF : F.length = 20) (n : Int) (hn : n ≤ 9223372036854775807) : (adrB F n).length ≤ 100 := by
  have h8 := digs_len n.toNat 8 (by have : (256 : Nat) ^ 8 = 18446744073709551616 := by decide
                                    omega)
  have hb : (bigL n.toNat).length ≤ 8 := by simpa [bigL] using h8
  have e1 : (packT (.bytes F)).length ≤ 21 := by
    simp only [packT]
    split
    · omega
    · simp [headL, hF]
  have e2 : (packT (.bytes (bigL n.toNat))).length ≤ 9 := by
    simp only [packT]
    split
    · omega
    · simp only [headL, List.length_append]; rw [if_pos (by omega)]; simp; omega
  have e3 : (packTs [.bytes F, .bytes (bigL n.toNat)]).length ≤ 30 := by
    simp only [packTs, List.length_append, List.length_nil]; omega
  have e4 : (adrB F n).length = (headL 192 (packTs [.bytes F, .bytes (bigL n.toNat)]).length).length + (packTs [.bytes F, .bytes (bigL n.toNat)]).length := by
    unfold adrB; rw [packT, List.length_append]
  rw [e4, headL_len, if_pos (by omega)]; omega
theorem headL_byte (base n : Nat) (hb : base ≤ 192) (hn : n ≤ 16777216) : ∀ x ∈ headL base n, 0 ≤ x ∧ x < 256 := by
  have hs := size_nat n hn
  intro x hx
  unfold headL at hx
  split at hx
  · simp at hx; omega
  · rcases List.mem_cons.1 hx with rfl | h
    · omega
    · exact bigL_byte n x h
theorem packB_byte (l : List Int) (hl : l.length ≤ 16777216) (h : ∀ x ∈ l, 0 ≤ x ∧ x < 256) : ∀ x ∈ packT (.bytes l), 0 ≤ x ∧ x < 256 := by
  intro x hx
  simp only [packT] at hx
  split at hx
  · exact h x hx
  · rcases List.mem_append.1 hx with h1 | h1
    · exact headL_byte 128 _ (by decide) hl x h1
    · exact h x h1
theorem packL_byte (ts : List RTree) (hl : (packTs ts).length ≤ 16777216) (h : ∀ t ∈ ts, ∀ x ∈ packT t, 0 ≤ x ∧ x < 256) : ∀ x ∈ packT (.list ts), 0 ≤ x ∧ x < 256 := by
  have h2 : ∀ ts : List RTree, (∀ t ∈ ts, ∀ x ∈ packT t, 0 ≤ x ∧ x < 256) → ∀ x ∈ packTs ts, 0 ≤ x ∧ x < 256 := by
    intro ts
    induction ts with
    | nil => intro _ x hx; simp [packTs] at hx
    | cons t ts ih =>
      intro h x hx
      simp only [packTs, List.mem_append] at hx
      rcases hx with h1 | h1
      · exact h t (by simp) x h1
      · exact ih (fun t ht => h t (by simp [ht])) x h1
  intro x hx
  simp only [packT, List.mem_append] at hx
  rcases hx with h1 | h1
  · exact headL_byte 192 _ (by decide) hl x h1
  · exact h2 ts h x h1
theorem adrB_byte (F : List Int) (hF : F.length = 20) (hx : ∀ x ∈ F, 0 ≤ x ∧ x < 256) (n : Int) (hn : n ≤ 9223372036854775807) : ∀ x ∈ adrB F n, 0 ≤ x ∧ x < 256 := by
  have hs := adr_small F hF n hn
  have h8 := digs_len n.toNat 8 (by have : (256 : Nat) ^ 8 = 18446744073709551616 := by decide
                                    omega)
  have hb : (bigL n.toNat).length ≤ 8 := by simpa [bigL] using h8
  refine packL_byte _ (Nat.le_trans (packTs_le _) (Nat.le_trans hs (by decide))) ?_
  intro t ht
  rcases List.mem_cons.1 ht with rfl | h
  · exact packB_byte F (by omega) hx
  · obtain rfl : t = .bytes (bigL n.toNat) := by simpa using h
    exact packB_byte _ (by omega) (bigL_byte _)
theorem parts_one {w : World} {a : Option Addr} {c : Nat} {l : List Int} (t : TypeId) (h : Ints w .u8 a c l) (hx : ∀ x ∈ l, 0 ≤ x ∧ x < 256) : Parts (w.alloc (.cells #[.slice a l.length c] t)) w.heap.size 0 [l] := by
  refine ⟨by simp, fun i hi => ?_, fun l' hl' => ?_⟩
  · obtain rfl : i = 0 := by simpa using hi
    refine ⟨a, c, ?_, h.below ((Below.refl _ _).alloc (Nat.le_refl _) _)⟩
    rw [World.cell?_alloc_new]; rfl
  · obtain rfl : l' = l := by simpa using hl'
    exact hx
theorem Parts.drew {w : World} {b off : Nat} {bs : List (List Int)} (h : Parts w b off bs) : Parts w.drew b off bs := by
  refine ⟨h.lt, fun i hi => ?_, h.byte⟩
  obtain ⟨a, c, h1, h2⟩ := h.cell i hi
  exact ⟨a, c, h1, h2.below ⟨rfl, rfl, rfl, Nat.le_refl _, fun _ _ => rfl⟩⟩
theorem kecL_byte (l : List Int) : ∀ x ∈ kecL l, 0 ≤ x ∧ x < 256 := by
  intro x hx
  simp only [kecL, List.mem_map] at hx
  obtain ⟨i, _, rfl⟩ := hx
  unfold outB
  omega
theorem kecL_len (l : List Int) : (kecL l).length = 32 := by simp [kecL]
theorem _root_.Go.Mun.ItemAt.len {w : World} {cs : List Value} {t : RTree} (h : ItemAt w cs t) : cs.length = 3 := by cases h <;> rfl
theorem lay3_1 (s : Value) : lay itemZ 1 [s] = [.bool false, s, .slice none 0 0] := rfl
theorem lay3_02 (s : Value) : lay (lay itemZ 0 [.bool true]) 2 [s] = [.bool true, .slice none 0 0, s] := rfl
/-- Two items side by side in a new block. -/
theorem item_two {w : World} {c0 c1 : List Value} {t0 t1 : RTree} (h0 : ItemAt w c0 t0) (h1 : ItemAt w c1 t1) :
    ItemAt (w.alloc (.cells (c0 ++ c1).toArray 65)) (lay (lay itemZ 0 [.bool true]) 2 [.slice (some ⟨w.heap.size, 0, none⟩) 2 2]) (.list [t0, t1]) := by
  rw [lay3_02]
  have hb : Below w.heap.size w (w.alloc (.cells (c0 ++ c1).toArray 65)) := (Below.refl _ _).alloc (Nat.le_refl _) _
  have l0 := h0.len; have l1 := h1.len
  refine .list _ 2 2 _ (fun i => if i = 0 then c0 else c1) none 0 0 rfl (fun _ => ⟨_, 0, rfl, fun i hi => ?_⟩) (fun i hi => ?_)
  · rw [World.row?_alloc_sub (c0 ++ c1) 65 _ rfl (by simp; omega)]
    match i, hi with
    | 0, _ => simp [← l0]
    | 1, _ => simp [← l0, List.drop_left']; rw [l0, ← l1]; simp
  · match i, hi with
    | 0, _ => exact h0.kept hb
    | 1, _ => exact h1.kept hb
set_option maxRecDepth 100000 in
set_option maxHeartbeats 2000000 in
theorem evm_address (F : List Int) (hF : F.length = 20) (hx : ∀ x ∈ F, 0 ≤ x ∧ x < 256) (n : Int) (hn : n ≤ 9223372036854775807) (w : World) :
    Calls Tryz.prog 9 #[.agg (u8L F).toArray, .int .i64 n] w fun e w' => e = .returned (.agg (u8L (lowL (kecL (adrB F n)))).toArray) ∧ Below w.heap.size w w' := by
  have hs := adr_small F hF n hn
  have hl : (u8L F).length = 20 := by simp [hF]
  have hok := u8L_ok F 20 hF
  have HFx := Lib.hid (And.intro hF hx)
  have HS := Lib.hid hs
  have hit : ∀ W, Below (w.heap.size + 1 + 1) ((w.alloc (Obj.cells (u8L F).toArray 23)).alloc (Obj.cells (zU8 20).toArray 23)) W → ItemAt W (lay itemZ 1 [.slice (some ⟨w.heap.size, 0, none⟩) 20 20]) (.bytes F) := by
    intro W hW
    rw [lay3_1]
    refine item_bytes hF ?_ (Nat.le_refl _) (by unfold maxLen; omega) hx
    rw [World.row?_of_block (hW.block _ (by omega)), World.row?_alloc_lt _ (by simp)]
    exact World.row?_alloc_at (u8L F) 23 _ rfl hl
  have HIt := Lib.hid hit
  have HB0 := Lib.hid (((Below.refl w.heap.size w).alloc (Nat.le_refl _) (Obj.cells (u8L F).toArray 23)).alloc (by simp) (Obj.cells (zU8 20).toArray 23))
  have HZ0 : Hid (((w.alloc (Obj.cells (u8L F).toArray 23)).alloc (Obj.cells (zU8 20).toArray 23)).heap.size = w.heap.size + 1 + 1) := by unfold Hid; simp
  have HF0 : Hid (((w.alloc (Obj.cells (u8L F).toArray 23)).alloc (Obj.cells (zU8 20).toArray 23)).free? (w.heap.size + 1) 0 20 = true) := by unfold Hid; simp [go_sem]
  clear hF hx hs hit
  go_enter Tryz.func9, Tryz.ntmps9
  go_wp2_with fail
  generalize (w.alloc (Obj.cells (u8L F).toArray 23)).alloc (Obj.cells (zU8 20).toArray 23) = w0 at *
  go_region_held3 (fun w' => True) (trivial)
    (first | (go_at_call 37; refine (rlp_num n hn _).mono ?_; rintro e w1 ⟨v1, rfl, h1⟩; obtain ⟨cs1, rfl, hi1⟩ := h1.read; have hcs1 := hi1.len; have hb1 := h1.below) | (go_at_call 36; refine (rlp_pack _ _ _ (by simp [depthT, depthTs]) (show (packT (.list [.bytes F, .bytes (bigL n.toNat)])).length ≤ 16777216 from Nat.le_trans HS.out (by decide)) (item_two (HIt.out _ (by rw [← HZ0.out]; exact (Below.refl _ w0).drew.trans hb1)) hi1)).mono ?_; rintro e w2 ⟨v2, rfl, h2⟩))
  obtain ⟨a2, c2, rfl, hi2, _⟩ := h2.read
  have HB1 : Hid (Below w.heap.size w w1) := HB0.out.drew.trans (hb1.mono (by have := HZ0.out; simp; omega))
  have HB2 : Hid (Below w.heap.size w w2) := (HB1.out.alloc (HB1.out.size) _).trans (h2.below.mono (by have := HB1.out.size; simp; omega))
  have HF2 : Hid (w2.free? (w.heap.size + 1) 0 20 = true) := by
    have hb12 : Below w0.heap.size w0 w2 := ((Below.refl _ w0).drew.trans hb1).trans ((((Below.refl _ w1).alloc (Nat.le_refl _) _).trans (h2.below.mono (by simp))).mono (hb1.size))
    unfold Hid
    rw [World.free?_of_block (hb12.block _ (by rw [HZ0.out]; omega))]; exact HF0.out
  have HP := Lib.hid (parts_one 26 hi2 (adrB_byte F HFx.out.1 HFx.out.2 n hn))
  have HLn : Hid (lowL (kecL [packT (.list [.bytes F, .bytes (bigL n.toNat)])].flatten) = lowL (kecL (adrB F n))) := by unfold Hid; simp [adrB]
  have hlen : (packT (.list [.bytes F, .bytes (bigL n.toNat)])).length ≤ 100 := HS.out
  have HP2 : Hid (Parts (w2.alloc (.cells #[.slice a2 (packT (.list [.bytes F, .bytes (bigL n.toNat)])).length c2] 26)) w2.heap.size 0 [packT (.list [.bytes F, .bytes (bigL n.toNat)])]) := HP.out
  generalize packT (.list [.bytes F, .bytes (bigL n.toNat)]) = Q at *
  generalize hq : Q.length = q at *
  clear h2 hi2 h1 hb1 HP hi1 hcs1 hq
  go_wp2_with fail
  refine (kec_sum w2.heap.size 0 1 1 [Q] rfl (by decide) _ HP2.out).mono ?_
  rintro e w3 ⟨rfl, hb3⟩
  have hl32 := kecL_len [Q].flatten
  have HB3 : Hid (Below w2.heap.size w2 w3) := ((Below.refl _ w2).alloc (Nat.le_refl _) _).trans (hb3.mono (by simp))
  clear hb3
  generalize kecL [Q].flatten = K at *
  go_wp2_with fail
  refine (evm_low K hl32 _).mono ?_
  rintro e w4 ⟨rfl, hb4⟩
  rw [HLn.out]
  have HB4 : Hid (Below w2.heap.size w2 w4) := HB3.out.trans (hb4.mono HB3.out.size)
  have hf4 : w4.free? (w.heap.size + 1) 0 20 = true := by
    rw [World.free?_of_block (HB4.out.block _ (free?_lt HF2.out))]; exact HF2.out
  have hok4 := u8L_ok (lowL (kecL (adrB F n))) 20 (lowL_len _ (kecL_len _))
  have HB5 : Hid (Below w.heap.size w w4) := HB2.out.trans (HB4.out.mono HB2.out.size)
  generalize hR : u8L (lowL (kecL (adrB F n))) = R at *
  have HRR := Lib.hid hR
  clear hb4 hR
  go_wp2
  exact ret_row ty23 rfl _ rfl rfl hf4 hok4 ⟨by rw [HRR.out], HB5.out.setCells (by omega) _ _⟩

/-- The bytes that an address of a salt comes of. -/
def adr2B (F S D : List Int) : List Int := [255] ++ F ++ S ++ kecL D
end Go.Proofs.YtikiciojfhfagaaGreat
