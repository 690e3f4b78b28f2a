/-
  Bytes compared: the order of the numbers that they are.
  The comparison of two addresses as bytes.
  The comparison of two addresses, as Accounts hands it to SortedFunc.
-/
import Derived.Test.YtiglinnjnobodaaGreatQEv16
import Derived.Lib.Bytealg
import Derived.Sort.Statements
import Derived.Test.YtiglinnjnobodaaGreatQTy3
import Derived.Test.YtiglinnjnobodaaGreatQSeq
import Derived.Sort.Grow
import Derived.Test.YtiglinnjnobodaaGreatQItr1
import Derived.Shelf.SlSortCmp.InsertionK
set_option linter.unusedVariables false
set_option linter.unusedSimpArgs false
namespace Go.Mun
open Go.RowKit

/-- The number of bytes. -/
def numU : List UInt8 → Nat
  | [] => 0
  | x :: l => x.toNat * 256 ^ l.length + numU l
theorem numU_lt : ∀ l : List UInt8, numU l < 256 ^ l.length
  | [] => by simp [numU]
  | x :: l => by
    have h1 : x.toNat < 256 := x.toNat_lt
    have h2 := numU_lt l
    have h3 : x.toNat * 256 ^ l.length ≤ 255 * 256 ^ l.length := Nat.mul_le_mul_right _ (by omega)
    simp only [numU, List.length_cons, Nat.pow_succ]
    omega
theorem cmpU : ∀ (A B : List UInt8), A.length = B.length → Lib.compareBytes A B = if numU A < numU B then -1 else if numU B < numU A then 1 else 0
  | [], [], _ => by simp [Lib.compareBytes, numU]
  | [], _ :: _, h => by simp at h
  | _ :: _, [], h => by simp at h
  | x :: A, y :: B, h => by
    have hl : A.length = B.length := by simpa using h
    have ha := numU_lt A
    have hb := numU_lt B
    rw [hl] at ha
    unfold Lib.compareBytes
    simp only [numU, hl]
    have hxy : x < y ↔ x.toNat < y.toNat := UInt8.lt_iff_toNat_lt
    have hyx : y < x ↔ y.toNat < x.toNat := UInt8.lt_iff_toNat_lt
    by_cases h1 : x < y
    · have h2 : (x.toNat + 1) * 256 ^ B.length ≤ y.toNat * 256 ^ B.length := Nat.mul_le_mul_right _ (hxy.1 h1)
      rw [Nat.add_mul, Nat.one_mul] at h2
      rw [if_pos h1, if_pos (by omega)]
    · rw [if_neg h1]
      by_cases h2 : y < x
      · have h3 : (y.toNat + 1) * 256 ^ B.length ≤ x.toNat * 256 ^ B.length := Nat.mul_le_mul_right _ (hyx.1 h2)
        rw [Nat.add_mul, Nat.one_mul] at h3
        rw [if_pos h2, if_neg (by omega), if_pos (by omega)]
      · have he : x.toNat = y.toNat := by
          rw [hxy] at h1; rw [hyx] at h2; omega
        rw [if_neg h2, cmpU A B hl, he]
        simp only [Nat.add_lt_add_iff_left]
def toU (l : Bts) : List UInt8 := l.map fun x => x.toNat.toUInt8
theorem numU_toU : ∀ l : Bts, Byt l → numU (toU l) = beN l
  | [], _ => rfl
  | x :: l, h => by
    have hx := h x (by simp)
    have h1 : (x.toNat.toUInt8).toNat = x.toNat := by
      show (UInt8.ofNat x.toNat).toNat = x.toNat
      rw [UInt8.toNat_ofNat']
      omega
    have h2 := numU_toU l (fun y hy => h y (List.mem_cons_of_mem _ hy))
    show (x.toNat.toUInt8).toNat * 256 ^ (toU l).length + numU (toU l) = x.toNat * 256 ^ l.length + beN l
    rw [h1, h2]
    simp [toU]
theorem be_byt (k a : Nat) : Byt (be k a) := by
  intro x hx
  unfold be at hx
  obtain ⟨i, _, rfl⟩ := List.mem_map.1 hx
  have := Nat.mod_lt (a / 256 ^ (k - 1 - i)) (show 0 < 256 by decide)
  omega
theorem beN_be : ∀ (k n : Nat), n < 256 ^ k → beN (be k n) = n
  | 0, n, h => by
    have : n = 0 := by simpa using h
    subst this; rfl
  | k + 1, n, h => by
    have h1 : n / 256 ^ k < 256 := by
      rw [Nat.div_lt_iff_lt_mul (Nat.pow_pos (by decide))]
      rw [Nat.pow_succ] at h; omega
    rw [be_succ]
    simp only [beN, be_len]
    have e : be k n = be k (n % 256 ^ k) := (be_mod k n).symm
    rw [e, beN_be k (n % 256 ^ k) (Nat.mod_lt _ (Nat.pow_pos (by decide)))]
    have h3 : ((n / 256 ^ k % 256 : Nat) : Int).toNat = n / 256 ^ k := by rw [Int.toNat_natCast, Nat.mod_eq_of_lt h1]
    first
      | rw [h3, Nat.mul_comm, Nat.div_add_mod]
      | (simp only [Int.toNat_natCast]; rw [Nat.mod_eq_of_lt h1, Nat.mul_comm, Nat.div_add_mod])
/-- How two numbers compare. -/
def cmpZ (a b : Nat) : Int := if a < b then -1 else if b < a then 1 else 0
theorem cmp_be (k a b : Nat) (ha : a < 256 ^ k) (hb : b < 256 ^ k) : Lib.compareBytes (toU (be k a)) (toU (be k b)) = cmpZ a b := by
  rw [cmpU _ _ (by simp [toU]), numU_toU _ (be_byt k a), numU_toU _ (be_byt k b), beN_be k a ha, beN_be k b hb]
  rfl
/-- A slice's bytes are loaded. -/
theorem run_loadBytes {P : Program} {w : World} {b : Nat} : ∀ (l : Bts) (off : Nat) (acc : ByteArray), (∀ i, i < l.length → w.cell? ⟨b, off + i, none⟩ = some (.int .u8 (l[i]?.getD 0))) →
    (Extern.Bytes.loadBytes ⟨b, off, none⟩ l.length acc).run P w = .ok ⟨acc.data ++ (toU l).toArray⟩ w
  | [], off, acc, _ => by
    show Result.ok acc w = _
    simp [toU]
  | x :: l, off, acc, h => by
    have h0 := h 0 (by simp)
    simp only [Nat.add_zero, List.getElem?_cons_zero, Option.getD_some] at h0
    have hi := run_loadBytes (P := P) l (off + 1) (acc.push x.toNat.toUInt8) (fun i hi => by
      have := h (i + 1) (by simp; omega)
      simp only [List.getElem?_cons_succ] at this
      rw [show off + 1 + i = off + (i + 1) by omega]; exact this)
    have hl : (load ⟨b, off, none⟩).run P w = .ok (.int .u8 x) w := by
      rw [run_load, h0]
    simp only [List.length_cons, Extern.Bytes.loadBytes, Sem.run_bind, hl, Result.andThen]
    have ha : (⟨b, off, none⟩ : Addr).add 1 = ⟨b, off + 1, none⟩ := add_off rfl
    rw [ha, hi]
    congr 1
    simp [toU, ByteArray.push]
theorem run_bytesOf {P : Program} {w : World} {a : Option Addr} {c : Nat} {l : Bts} (hI : Ints w .u8 a c l) : (Extern.Bytes.bytesOf (.slice a l.length c)).run P w = .ok ⟨(toU l).toArray⟩ w := by
  cases a with
  | none =>
    have h1 := hI.nil rfl
    have h2 := hI.len
    have : l = [] := List.eq_nil_of_length_eq_zero (by omega)
    subst this
    rfl
  | some ad =>
    by_cases hn : l = []
    · subst hn; rfl
    · obtain ⟨b, off, ha, hc⟩ := hI.cell hn
      cases ha
      have := run_loadBytes (P := P) l off ByteArray.empty hc
      show (Extern.Bytes.loadBytes ⟨b, off, none⟩ l.length ByteArray.empty).run P w = _
      simpa using this
end Go.Mun
namespace Go.Proofs.YtiglinnjnobodaaGreat
open Go.RowKit Go.Mun
theorem bytealg117 {w : World} {a a2 : Option Addr} {c c2 : Nat} {l m : Bts} (hI : Ints w .u8 a c l) (hJ : Ints w .u8 a2 c2 m) :
    (callFunc 117 #[.slice a l.length c, .slice a2 m.length c2]).run Tryz.prog w = .ok (.value (.int .i64 (Lib.compareBytes (toU l) (toU m)))) w := by
  rw [run_callFunc_extern Tryz.func117 (by kernel_rfl) (by kernel_rfl) (by kernel_rfl) (e := Extern.BytealgCompare.compare) (by kernel_rfl)]
  show (((do pure (goInt (Extern.BytealgCompare.cmp (← Extern.Bytes.bytesOf (.slice a l.length c)) (← Extern.Bytes.bytesOf (.slice a2 m.length c2)))) : Sem Value)).run Tryz.prog w).andThen _ = _
  simp only [Sem.run_bind, Sem.run_pure, run_bytesOf hI, run_bytesOf hJ, Result.andThen]
  rw [Lib.cmp_eq]
  rfl
set_option maxHeartbeats 1000000 in
theorem bytes_Compare {w : World} {a a2 : Option Addr} {c c2 : Nat} {l m : Bts} (hI : Ints w .u8 a c l) (hJ : Ints w .u8 a2 c2 m) :
    Calls Tryz.prog 73 #[.slice a l.length c, .slice a2 m.length c2] w fun e w' => e = .returned (.int .i64 (Lib.compareBytes (toU l) (toU m))) ∧ w' = w := by
  have h117 := bytealg117 hI hJ
  clear hI hJ
  generalize Lib.compareBytes (toU l) (toU m) = r at *
  go_enter Tryz.func73, Tryz.ntmps73
  go_wp2
  go_ret
  exact ⟨rfl, rfl⟩
end Go.Proofs.YtiglinnjnobodaaGreat
namespace Go.Proofs.YtiglinnjnobodaaGreat
open Go.RowKit Go.Mun Go.Sort
theorem slice23 (b : Nat) (w : World) : (Instr.sliceAt 23 (.pointer (some ⟨b, 0, none⟩)) none none none).run Tryz.prog w = .ok (.slice (some ⟨b, 0, none⟩) 20 20) w := by
  kernel_rfl
theorem ints_beC {w : World} {b c k : Nat} {a : Nat} (h : w.row? b 0 k = some (beC k a)) (hk : k ≤ c) (hm : c ≤ maxLen) : Ints w .u8 (some ⟨b, 0, none⟩) c (be k a) := by
  refine ⟨fun _ => ⟨b, 0, rfl, fun i hi => ?_⟩, fun h => (by cases h), by simpa using hk, hm⟩
  have hi' : i < k := by simpa using hi
  have := World.row?_cell h (i := i) hi'
  rw [this]
  unfold beC
  rw [List.getElem?_map]
  cases hx : (be k a)[i]? with
  | none => rw [List.getElem?_eq_none_iff] at hx; simp at hx; omega
  | some y => simp
set_option maxRecDepth 100000 in
set_option maxHeartbeats 1000000 in
theorem closure72 (x y : Nat) (hx : x < wA) (hy : y < wA) (W : World) : Calls Tryz.prog 72 #[.agg (beC 20 x).toArray, .agg (beC 20 y).toArray] W fun e w' => e = .returned (.int .i64 (cmpZ x y)) ∧ ∃ q os', w' = grow (W.drewN q) os' := by
  obtain ⟨W2, e2⟩ : ∃ W2, W2 = (W.alloc (.cells (beC 20 x).toArray 23)).alloc (.cells (beC 20 y).toArray 23) := ⟨_, rfl⟩
  have h1 : W2.drew.row? W.heap.size 0 20 = some (beC 20 x) := by
    rw [World.row?_drew, e2, World.row?_alloc_lt _ (by simp)]; exact World.row?_alloc_at _ _ _ rfl (beC_len _ _)
  have h2 : W2.drew.row? (W.heap.size + 1) 0 20 = some (beC 20 y) := by
    rw [World.row?_drew, e2]; exact World.row?_alloc_at _ _ _ (by simp) (beC_len _ _)
  have hc := bytes_Compare (ints_beC h1 (Nat.le_refl 20) (by decide)) (ints_beC h2 (Nat.le_refl 20) (by decide))
  rw [be_len, be_len, cmp_be 20 x y hx hy] at hc
  have HC := Lib.hid hc
  have s1 := slice23 W.heap.size
  have s2 := slice23 (W.heap.size + 1)
  have HE := Lib.hid e2
  obtain ⟨T, hT⟩ : ∃ T : World → Prop, T = fun W' => W' = W2.drew := ⟨_, rfl⟩
  have HT := Lib.hid hT
  have t0 : T W2.drew := by rw [hT]
  clear hc hT h1 h2 e2 hx hy
  generalize cmpZ x y = r at *
  have hlx := beC_len 20 x
  have hly := beC_len 20 y
  go_enter Tryz.func72, Tryz.ntmps72
  go_wp2_with fail
  rw [← HE.out]
  refine wp_region_tree T [] (.pure 0 (.pure 1 (.alt 2 (.pure 3 .fin) .stop))) (by kernel_rfl) (by kernel_rfl) ?_
  refine tree_pure ?_ rfl (by rfl) (fun w' hs => ?_) (fun _ _ _ h => h) ?_
  rotate_left
  · clear hs
    go_simp
    try rfl
  simp only [Act.put, tsa, tsb, tsc]
  refine tree_pure ?_ rfl (by rfl) (fun w' hs => ?_) (fun _ _ _ h => h) ?_
  rotate_left
  · clear hs
    go_simp
    try rfl
  simp only [Act.put, tsa, tsb, tsc]
  refine tree_run rfl (fun K hK => ?_)
  go_simp
  refine HC.out.mono ?_
  rintro e w' ⟨rfl, rfl⟩
  refine hK.out _ _ t0 ?_
  clear hK K
  refine tree_pure ?_ rfl (by rfl) (fun w' hs => ?_) (fun _ _ _ h => h) ?_
  rotate_left
  · clear hs
    go_simp
    try rfl
  simp only [Act.put, tsa, tsb, tsc]
  refine tree_fin ?_
  go_wp2
  go_ret
  refine ⟨rfl, 1, #[.cells (beC 20 x).toArray 23, .cells (beC 20 y).toArray 23], ?_⟩
  rw [HE.out, alloc_eq_grow, alloc_eq_grow, grow_grow]
  rfl
end Go.Proofs.YtiglinnjnobodaaGreat
