/-
  The machine's memory: how many bits a number has (after the shelf's text of the library's function).
  The machine's memory: a word as an int, if it is one.
  The machine's memory: word.Int.
  The machine's memory: append of made noughts to a row of the call's own.
  The machine's memory: Grow.
  Reading items, in plain Lean: what bytes are as an item, so far as a transaction asks.
  Reading items: a head's length.
  Reading items: how what is read lies in memory.
  Reading items: contract of the program's reader.
  Reading items: bytes.
  Reading items: lists that are too deep; errors; rules for rows of items.
  Reading items: lists; the program's reader.
  Reading items: the program's Read.
  Items as numbers: what the program reads of one.
  Items as numbers: the program's Int.
  Items as words: the program's Word.
  Items as addresses: the program's Address.
  Items as numbers in a row: the program's Numbers.
  The rules for this program's structs, as segments (written by a program of this seat).
  Words: contract of Of.
-/
import Derived.Test.YtikiciojfhfagaaGreatQMm1
import Derived.Lib.Strings
import Derived.Lib.Slices
import Derived.Lib.Small
import Derived.Lib.Walk
import Derived.Lib.BitFns
import Derived.Deep.Light
import Derived.Lib.AppendZerosOnto
import Derived.Test.YtikiciojfhfagaaGreatQEv16
import Derived.OwnWalk
import Derived.Test.YtikiciojfhfagaaGreatQRlp2
import Derived.Test.YtikiciojfhfagaaGreatQEv1
import Derived.Test.YtikiciojfhfagaaGreatQOps3
import Derived.Test.YtikiciojfhfagaaGreatProg
import Derived.Test.YtikiciojfhfagaaGreatQTy4
import Derived.Test.YtikiciojfhfagaaGreatQWrd4
set_option linter.unusedVariables false
set_option linter.unusedSimpArgs false
namespace Go.Proofs.YtikiciojfhfagaaGreat
open Go.RowKit Go.Mun

set_option maxRecDepth 100000 in
theorem len8tab_size : (Lib.len8tab.size : Int) = 256 := by
  have : Lib.len8tab.size = 256 := by decide
  omega
/-- THE LAST STEP OF EACH OF THE EIGHT WAYS, PROVED ONCE, OUTSIDE: 'omega' on it INSIDE the way's context (a chain of divisions by great numbers) took 25 s a way and gigabytes. -/
theorem wrap_add (k a b : Nat) (hk : k ≤ 56) (ha : a ≤ 8) (hb : b = k + a) : RowKit.wrap64 ((k : Int) + RowKit.wrap64 (a : Int)) = (b : Int) := by
  unfold RowKit.wrap64
  omega
theorem wrap_wrap (a : Nat) (ha : a ≤ 8) : RowKit.wrap64 (RowKit.wrap64 (a : Int)) = (a : Int) := by
  unfold RowKit.wrap64
  omega
theorem wrap_one (a : Nat) (ha : a ≤ 8) : RowKit.wrap64 (a : Int) = (a : Int) := by
  unfold RowKit.wrap64
  omega
/-- The table's byte, as an index's plain meaning reads it, IS the shelf's 'Lib.len8'. -/
theorem len8_get (y : Int) (h : y.toNat < Lib.len8tab.size) : ((Lib.len8tab[y.toNat]'h).toNat : Int) = Lib.len8 y := by
  unfold Lib.len8
  rw [getElem?_pos Lib.len8tab y.toNat h]
  rfl

set_option maxHeartbeats 32000000 in
set_option maxRecDepth 1000000 in
theorem bits_Len64 (x : Int) (w : World) (h0 : 0 ≤ x) (h1 : x ≤ 18446744073709551615) :
    Calls Tryz.prog 246 #[.int .u64 x] w fun e w' => e = .returned (.int .i64 (Lib.bitLen x.toNat)) ∧ w' = w := by
  go_enter Tryz.func246, Tryz.ntmps246
  go_wp2
  all_goals first
    | (go_ret; refine ⟨congrArg Ending.returned (congrArg (Value.int IntKind.i64) ?_), rfl⟩; go_light)
    | (exfalso
       go_light
       have hs := len8tab_size
       omega)
  all_goals first
    | (rw [len8_get (x / 4294967296 / 65536 / 256) _, Lib.len8_of (x / 4294967296 / 65536 / 256) (by omega) (by omega)]
       have e : (x / 4294967296 / 65536 / 256).toNat = x.toNat / 72057594037927936 := by omega
       have l := Lib.bitLen_le8' (x / 4294967296 / 65536 / 256) (by omega) (by omega)
       have s := Lib.bitLen_shift56 x.toNat (by omega) (by omega)
       rw [e] at l ⊢
       exact wrap_add 56 _ _ (by decide) l s)
    | (rw [len8_get (x / 4294967296 / 65536) _, Lib.len8_of (x / 4294967296 / 65536) (by omega) (by omega)]
       have e : (x / 4294967296 / 65536).toNat = x.toNat / 281474976710656 := by omega
       have l := Lib.bitLen_le8' (x / 4294967296 / 65536) (by omega) (by omega)
       have s := Lib.bitLen_shift48 x.toNat (by omega) (by omega)
       rw [e] at l ⊢
       exact wrap_add 48 _ _ (by decide) l s)
    | (rw [len8_get (x / 4294967296 / 256) _, Lib.len8_of (x / 4294967296 / 256) (by omega) (by omega)]
       have e : (x / 4294967296 / 256).toNat = x.toNat / 1099511627776 := by omega
       have l := Lib.bitLen_le8' (x / 4294967296 / 256) (by omega) (by omega)
       have s := Lib.bitLen_shift40 x.toNat (by omega) (by omega)
       rw [e] at l ⊢
       exact wrap_add 40 _ _ (by decide) l s)
    | (rw [len8_get (x / 4294967296) _, Lib.len8_of (x / 4294967296) (by omega) (by omega)]
       have e : (x / 4294967296).toNat = x.toNat / 4294967296 := by omega
       have l := Lib.bitLen_le8' (x / 4294967296) (by omega) (by omega)
       have s := Lib.bitLen_shift32 x.toNat (by omega) (by omega)
       rw [e] at l ⊢
       exact wrap_add 32 _ _ (by decide) l s)
    | (rw [len8_get (x / 65536 / 256) _, Lib.len8_of (x / 65536 / 256) (by omega) (by omega)]
       have e : (x / 65536 / 256).toNat = x.toNat / 16777216 := by omega
       have l := Lib.bitLen_le8' (x / 65536 / 256) (by omega) (by omega)
       have s := Lib.bitLen_shift24 x.toNat (by omega) (by omega)
       rw [e] at l ⊢
       exact wrap_add 24 _ _ (by decide) l s)
    | (rw [len8_get (x / 65536) _, Lib.len8_of (x / 65536) (by omega) (by omega)]
       have e : (x / 65536).toNat = x.toNat / 65536 := by omega
       have l := Lib.bitLen_le8' (x / 65536) (by omega) (by omega)
       have s := Lib.bitLen_shift16 x.toNat (by omega) (by omega)
       rw [e] at l ⊢
       exact wrap_add 16 _ _ (by decide) l s)
    | (rw [len8_get (x / 256) _, Lib.len8_of (x / 256) (by omega) (by omega)]
       have e : (x / 256).toNat = x.toNat / 256 := by omega
       have l := Lib.bitLen_le8' (x / 256) (by omega) (by omega)
       have s := Lib.bitLen_shift8 x.toNat (by omega) (by omega)
       rw [e] at l ⊢
       exact wrap_add 8 _ _ (by decide) l s)
    | (rw [len8_get (x) _, Lib.len8_of (x) (by omega) (by omega)]
       have e : (x).toNat = x.toNat := by omega
       have l := Lib.bitLen_le8' (x) (by omega) (by omega)
       rw [e] at l ⊢
       first | exact wrap_wrap _ l | exact wrap_add 0 _ _ (by decide) l (by omega) | exact wrap_one _ l)

end Go.Proofs.YtikiciojfhfagaaGreat
namespace Go.Proofs.YtikiciojfhfagaaGreat
open Go.RowKit Go.Mun

theorem bitAux_le : ∀ (f x k : Nat), x < 2 ^ k → Lib.bitLenAux f x ≤ k
  | 0, _, _, _ => Nat.zero_le _
  | f + 1, x, k, h => by
    unfold Lib.bitLenAux
    split
    · exact Nat.zero_le _
    · rename_i hx
      match k, h with
      | 0, h => simp at h; omega
      | k + 1, h =>
        have := bitAux_le f (x / 2) k (by rw [Nat.pow_succ] at h; omega)
        omega
theorem bitLen_le (x k : Nat) (h : x < 2 ^ k) : Lib.bitLen x ≤ k := bitAux_le 64 x k h
theorem bitLen_64 (x : Nat) : Lib.bitLen x ≤ 64 := by
  have key : ∀ f x, Lib.bitLenAux f x ≤ f := by
    intro f
    induction f with
    | zero => intro x; exact Nat.zero_le _
    | succ f ih =>
      intro x
      unfold Lib.bitLenAux
      split
      · exact Nat.zero_le _
      · have := ih (x / 2); omega
  exact key 64 x
/-- The limbs from the q-th on are nought. -/
def highZ (n q : Nat) : Prop := ∀ j, q ≤ j → j < 4 → lim n j = 0
theorem num_bits (n : Nat) (hn : n < wW) (w : World) : Calls Tryz.prog 229 #[.agg (nmC n).toArray] w fun e w' => (∃ r : Nat, e = .returned (.int .i64 r) ∧ r ≤ 256 ∧ (18446744073709551616 ≤ n → 64 ≤ r) ∧ (n < 9223372036854775808 → r < 64)) ∧ Below w.heap.size w w' := by
  have hl : (nmC n).length = 4 := by simp
  obtain ⟨w0, e0⟩ : ∃ w0, w0 = w.alloc (.cells (nmC n).toArray 151) := ⟨_, rfl⟩
  have hb0 : Below w.heap.size w w0 := by rw [e0]; exact (Below.refl _ _).alloc (Nat.le_refl _) _
  have hr : w0.row? w.heap.size 0 4 = some (nmC n) := by rw [e0]; exact World.row?_alloc_at _ _ _ rfl hl
  have HC : Hid (∀ q, q < 4 → w0.cell? ⟨w.heap.size, q, none⟩ = some (.int .u64 ((lim n q : Nat) : Int))) := fun q hq => by
    have := World.row?_cell hr hq
    rw [Nat.zero_add, nmC_at n q hq] at this
    exact this
  have HE := Lib.hid e0
  have HB := Lib.hid hb0
  have HL : Hid (∀ q, lim n q < 18446744073709551616) := fun q => by unfold lim; omega
  have hw : wW = 115792089237316195423570985008687907853269984665640564039457584007913129639936 := by unfold wW; decide
  have HZ : Hid (highZ n 0 → n = 0) := fun h => by
    have h0 := h 0 (by omega) (by omega); have h1 := h 1 (by omega) (by omega); have h2 := h 2 (by omega) (by omega); have h3 := h 3 (by omega) (by omega)
    unfold lim at h0 h1 h2 h3
    omega
  have H1 : Hid (highZ n 1 → n = lim n 0) := fun h => by
    have h1 := h 1 (by omega) (by omega); have h2 := h 2 (by omega) (by omega); have h3 := h 3 (by omega) (by omega)
    unfold lim at h1 h2 h3 ⊢
    omega
  have HG : Hid (∀ q, 1 ≤ q → q < 4 → lim n q ≠ 0 → 18446744073709551616 ≤ n) := fun q h1 h4 hne => by
    have : q = 1 ∨ q = 2 ∨ q = 3 := by omega
    rcases this with rfl | rfl | rfl
    all_goals (unfold lim at hne; omega)
  clear e0 hb0 hr hn hw hl
  go_enter Tryz.func229, Tryz.ntmps229
  go_wp2_with fail
  rw [← HE.out]
  go_loop [3] (fun i => ∃ q : Nat, q ≤ 4 ∧ i = .int .i64 ((q : Int) - 1) ∧ highZ n q) (fun i => (intOf i + 1).toNat)
  case atStart => exact ⟨4, by omega, rfl, fun j h1 h2 => by omega⟩
  case round =>
    obtain ⟨q, hq, rfl, hz⟩ := hrel
    have HZQ := Lib.hid hz
    clear hz
    match q, hq with
    | 0, _ =>
      have d0 : decide ((0 : Int) ≤ ((0 : Nat) : Int) - 1) = false := by decide
      go_wp2_with fail
      go_ret
      exact ⟨⟨0, rfl, by omega, fun h => by have := HZ.out HZQ.out; omega, fun _ => by omega⟩, HB.out⟩
    | k + 1, hq =>
      have ek : ((k + 1 : Nat) : Int) - 1 = (k : Int) := by omega
      rw [ek]
      have hk4 : k < 4 := by omega
      have hk4z : (k : Int) < 4 := by omega
      have hk0z : (0 : Int) ≤ (k : Int) := by omega
      have d0 : decide ((0 : Int) ≤ (k : Int)) = true := decide_eq_true (by omega)
      have c0 := HC.out k hk4
      have HLK := Lib.hid (HL.out k)
      obtain ⟨x, hx⟩ : ∃ x, x = lim n k := ⟨_, rfl⟩
      rw [← hx] at c0 HLK
      have HX := Lib.hid hx
      clear hx ek
      by_cases h0 : x = 0
      · have dx : ((x : Int) != 0) = false := by simp [h0]
        have HN : Hid (highZ n k) := fun j h1 h2 => by
          by_cases hj : j = k
          · rw [hj, ← HX.out, h0]
          · exact HZQ.out j (by omega) h2
        clear h0
        go_wp2_with fail
        go_round
        case rel => exact ⟨k, by omega, by go_num, HN.out⟩
        case measure => first | (simp [intOf]; done) | (simp [intOf]; omega)
      · have dx : ((x : Int) != 0) = true := by simpa using h0
        have HCL := Lib.hid (bits_Len64 (x : Int) w0 (by omega) (by have := HLK.out; omega))
        have hb64 := bitLen_64 x
        have hm : IntKind.i64.wrap ((k : Int) * 64) = (k : Int) * 64 := wrI _ (by omega) (by omega)
        have HR : Hid ((18446744073709551616 ≤ n → 64 ≤ k * 64 + Lib.bitLen x) ∧ (n < 9223372036854775808 → k * 64 + Lib.bitLen x < 64)) := by
          refine ⟨fun h => ?_, fun h => ?_⟩
          · by_cases h1 : k = 0
            · have e := H1.out (by rw [h1] at HZQ; exact HZQ.out)
              rw [h1] at HX
              have := HX.out; have := HLK.out; omega
            · omega
          · by_cases h1 : k = 0
            · have e := H1.out (by rw [h1] at HZQ; exact HZQ.out)
              rw [h1] at HX
              have hxn : x = n := HX.out.trans e.symm
              have := bitLen_le x 63 (by rw [hxn]; omega)
              omega
            · have := HG.out k (by omega) hk4 (by rw [← HX.out]; exact h0)
              omega
        clear h0
        go_wp2_with fail
        refine HCL.out.mono ?_
        rintro e w1 ⟨rfl, rfl⟩
        rw [Int.toNat_natCast]
        obtain ⟨b, hb⟩ : ∃ b, b = Lib.bitLen x := ⟨_, rfl⟩
        rw [← hb] at HR hb64 ⊢
        have hbz : (b : Int) ≤ 64 := by omega
        have hb0 : (0 : Int) ≤ (b : Int) := by omega
        have hadd : IntKind.i64.wrap ((k : Int) * 64 + (b : Int)) = ((k * 64 + b : Nat) : Int) := by rw [wrI _ (by omega) (by omega)]; omega
        clear hb
        go_wp2
        go_ret
        exact ⟨⟨k * 64 + b, by simp, by omega, HR.out.1, HR.out.2⟩, HB.out⟩
end Go.Proofs.YtikiciojfhfagaaGreat
namespace Go.Mun
/-- A word as an int, if it fits. -/
def intW (n : Nat) : Option Nat := if n < 9223372036854775808 then some n else none
end Go.Mun
namespace Go.Proofs.YtikiciojfhfagaaGreat
open Go.RowKit Go.Mun

set_option maxRecDepth 100000 in
set_option maxHeartbeats 1000000 in
theorem word_Int (n : Nat) (hn : n < wW) (w : World) : Calls Tryz.prog 185 #[.agg (beC 32 n).toArray] w fun e w' => e = .returned (.tuple #[.int .i64 (((intW n).getD 0 : Nat) : Int), .bool (intW n).isSome]) ∧ Below w.heap.size w w' := by
  obtain ⟨w0, e0⟩ : ∃ w0, w0 = w.alloc (.cells (beC 32 n).toArray 25) := ⟨_, rfl⟩
  have hb0 : Below w.heap.size w w0 := by rw [e0]; exact (Below.refl _ _).alloc (Nat.le_refl _) _
  have hr : w0.row? w.heap.size 0 32 = some (beC 32 n) := by rw [e0]; exact World.row?_alloc_at _ _ _ rfl (by simp)
  have HC := Lib.hid (word_from n hn w0)
  have HB := Lib.hid hb0
  have HE := Lib.hid e0
  have HNB := Lib.hid (fun w => num_bits n hn w)
  have okN := nmC_ok n
  have HL : Hid (lim n 0 < 18446744073709551616 ∧ (n < 18446744073709551616 → lim n 0 = n)) := ⟨lim_lt n 0, fun h => by unfold lim; omega⟩
  rw [e0] at hr
  clear hb0 e0 hn
  go_enter Tryz.func185, Tryz.ntmps185
  go_wp2_with fail
  rw [← HE.out]
  refine HC.out.mono ?_
  rintro e w1 ⟨rfl, hb1⟩
  have hB1 := HB.out.trans (hb1.mono HB.out.size)
  obtain ⟨W1, eW1⟩ : ∃ W1, W1 = (w1.alloc (.cells (zU64 4).toArray 151)).setCells w1.heap.size 0 (nmC n) := ⟨_, rfl⟩
  have hb2 : Below w1.heap.size w1 W1 := by rw [eW1]; exact ((Below.refl _ _).alloc (Nat.le_refl _) _).setCells (Nat.le_refl _) _ _
  have hA : Arr W1 w1.heap.size 4 (nmC n) := by rw [eW1]; exact (Arr.new w1 4 (zU64 4) 151 rfl).setCells _ okN
  have f4 : (w1.alloc (.cells (zU64 4).toArray 151)).free? w1.heap.size 0 4 = true := World.free?_alloc_at _ _ rfl (Nat.le_refl _)
  have ra := hA.row
  have HA := Lib.hid hA
  have HW := Lib.hid eW1
  have HB2 := Lib.hid (hB1.trans (hb2.mono hB1.size))
  rw [eW1] at ra
  clear hb1 hB1 hb2 hA eW1 hr
  go_wp2_with fail
  rw [← HW.out]
  refine (HNB.out W1).mono ?_
  rintro e w2 ⟨⟨r, rfl, hr256, hbig, hsm⟩, hb3⟩
  have HB3 := Lib.hid (HB2.out.trans (hb3.mono HB2.out.size))
  have hA2 := HA.out.only (S := fun _ => False) (Only.of_below_size hb3) (fun h => h)
  have c0 := hA2.cell (i := 0) (by omega) (nmC_at n 0 (by omega))
  have HR := Lib.hid (And.intro hr256 (And.intro hbig hsm))
  have hl0 := HL.out
  clear hb3 hA2 ra f4 hr256 hbig hsm HC HNB
  by_cases h64 : 64 ≤ r
  · have d1 : decide ((64 : Int) ≤ (r : Int)) = true := decide_eq_true (by omega)
    have d2 : (64 ≤ r) = True := eq_true h64
    have hI : intW n = none := by
      unfold intW
      rw [if_neg (fun h => by have := HR.out.2.2 h; omega)]
    have HI := Lib.hid hI
    clear h64 hI hl0 c0
    go_wp2
    go_ret2
    rw [HI.out]
    exact ⟨rfl, HB3.out⟩
  · have d1 : decide ((64 : Int) ≤ (r : Int)) = false := decide_eq_false (by omega)
    have d2 : (64 ≤ r) = False := eq_false h64
    have hn64 : n < 18446744073709551616 := by
      rcases Nat.lt_or_ge n 18446744073709551616 with h | h
      · exact h
      · have := HR.out.2.1 h; omega
    rw [hl0.2 hn64] at c0
    by_cases hg : n < 9223372036854775808
    · have d3 : decide ((9223372036854775807 : Int) < (n : Int)) = false := decide_eq_false (by omega)
      have hI : intW n = some n := if_pos hg
      have hwn : IntKind.i64.wrap (n : Int) = n := wrI _ (by omega) (by omega)
      have HI := Lib.hid hI
      clear h64 hI hl0 hn64
      go_wp2
      go_ret2
      rw [HI.out]
      exact ⟨rfl, HB3.out⟩
    · have d3 : decide ((9223372036854775807 : Int) < (n : Int)) = true := decide_eq_true (by omega)
      have hI : intW n = none := if_neg hg
      have HI := Lib.hid hI
      clear h64 hI hl0 hn64 hg
      go_wp2
      go_ret2
      rw [HI.out]
      exact ⟨rfl, HB3.out⟩
end Go.Proofs.YtikiciojfhfagaaGreat
namespace Go.Mun
open Go.RowKit
theorem zeroCells_one {z : Value} (h : z.cells = #[z]) (k : Nat) : Builtin.zeroCells z.cells k = (List.replicate k z).toArray := by
  rw [h]
  apply Array.ext'
  simp only [Builtin.zeroCells, Array.toList_map, Array.toList_range]
  apply List.ext_getElem
  · simp
  · intro i h1 h2
    simp [Nat.mod_one]
/-- append of k made noughts to a row of the call's own. -/
theorem run_append_zeros_own {P : Program} {t tn e : TypeId} {z : Value} {bytes : Nat} {kn : IntKind} (E : ElemOf P t e z 1 bytes) (hzc : z.cells = #[z]) (hz1 : z.oneCell' = true) (htn : P.underlying tn = some (.int kn)) (ty : TypeId) (w : World)
    {base : Nat} {v : Value} {n : Nat} {xs : List Value} (hown : w.ownsRow base e 1 v n xs) (k : Nat) (h0 : 0 < k) (h63 : n + k ≤ maxLen) (hbytes : (n + k) * bytes ≤ 140737488355328) (hbase : base ≤ w.heap.size) :
    ∃ v' w', (Builtin.append_ #[t, tn] ty #[v, .int .i64 k]).run P w = .ok v' w' ∧ w'.ownsRow base e 1 v' (n + k) (xs ++ List.replicate k z) ∧ w.grownBy w' v.ownBlock ∧ (∀ g', v'.ownBlock = some g' → v.ownBlock = some g' ∨ w.heap.size ≤ g') := by
  obtain ⟨i, hi, hz, hsz, hb⟩ := E.info
  have ht := E.slice
  have h63' : n + k ≤ 9223372036854775807 := by unfold maxLen at h63; omega
  have hkb : k * i.bytes ≤ 281474976710656 := by
    rw [hb]
    have : k * bytes ≤ (n + k) * bytes := Nat.mul_le_mul_right _ (by omega)
    omega
  have hlen : (xs ++ List.replicate k z).length = (n + k) * 1 := by rw [List.length_append, hown.1, List.length_replicate]; omega
  have grown : ∀ (old : Nat) (row : Option Nat), old < n + k →
      (w.drew.alloc (.cells (xs.toArray ++ Builtin.zeroCells z.cells k ++ Builtin.zeroCells z.cells (grownCap w (n + k) old e - (n + k))) e)).ownsRow base e 1
        (.slice (some ⟨w.heap.size, 0, none⟩) (n + k) (grownCap w (n + k) old e)) (n + k) (xs ++ List.replicate k z) ∧
      w.grownBy (w.drew.alloc (.cells (xs.toArray ++ Builtin.zeroCells z.cells k ++ Builtin.zeroCells z.cells (grownCap w (n + k) old e - (n + k))) e)) row := by
    intro old row ho
    have hge := grownCap_ge w (n + k) old e
    have hcm : grownCap w (n + k) old e ≤ maxLen := grownCap_le_maxLen w (n + k) old e h63
    refine ⟨⟨hlen, .inr ⟨w.heap.size, _, _, rfl, hbase, heap_alloc_new w.drew _, hge, hcm, ?_, ?_⟩⟩, ⟨rfl, rfl, rfl, by simp, fun k hk _ => Lib.alloc_old w.drew _ k hk⟩⟩
    · rw [zeroCells_one hzc, zeroCells_one hzc]
      simp only [Array.size_append, List.size_toArray, List.length_replicate, hown.1]
      omega
    · rw [zeroCells_one hzc, zeroCells_one hzc]
      simp only [Array.toList_append, List.append_assoc]
      rw [← List.append_assoc, ← hlen]
      exact List.take_left
  rcases hown.2 with ⟨rfl, rfl⟩ | ⟨g, cap, cur, rfl, hbg, hg, hnc, hcm, hcs, htake⟩
  · have hxs : xs = [] := List.eq_nil_of_length_eq_zero (by simpa using hown.1)
    have hr := Lib.run_append_grow_zeros (P := P) w t tn ty e i z .i64 kn ht htn hi hz none 0 0 xs (by rw [hxs]; simp [Builtin.firstCells]) k h0 (by omega) (by omega) (by omega) hkb (growslice_fits (by omega) (by rw [hb]; exact hbytes))
    have hgr := grown 0 (Value.ownBlock (.slice none 0 0)) (by omega)
    exact ⟨_, _, hr, hgr.1, hgr.2, fun g' hg' => .inr (by simp [Value.ownBlock] at hg'; omega)⟩
  · by_cases hroom : n + k ≤ cap
    · have hfit : n * 1 + (List.replicate k z).length ≤ cur.size := by rw [List.length_replicate, hcs]; omega
      have hst := run_storeCells_at P g (n * 1) e (List.replicate k z) 0 cur w hg (by simpa using hfit) (fun u hu => by rw [(List.mem_replicate.1 hu).2]; exact hz1)
      simp only [Nat.add_zero] at hst
      have hk : k ≠ 0 := by omega
      have hw : IntKind.i64.wrap (k : Int) = k := by rw [IntKind.wrap_i64]; omega
      have hneg : ¬ ((k : Int) < 0) := by omega
      have h48i : ¬ (281474976710656 < (k : Int) * (i.bytes : Int)) := by
        rw [← Int.natCast_mul]; omega
      have hr : (Builtin.append_ #[t, tn] ty #[.slice (some ⟨g, 0, none⟩) n cap, .int .i64 k]).run P w = .ok (.slice (some ⟨g, 0, none⟩) (n + k) cap) (w.setRow g (cur.toList.take (n * 1) ++ List.replicate k z ++ cur.toList.drop (n * 1 + (List.replicate k z).length)).toArray) := by
        have hzz := zeroCells_one hzc k
        simp only [Nat.mul_one] at hst ⊢
        simp [Builtin.append_, run_underlying ht, run_underlying htn, sizeOf, typeInfo, zeroValue, hi, hz, hsz, asInt, asIntOf, hw, hneg, hk, h48i, hroom, Addr.add_lit, hzz] at hst ⊢
        rw [hst]
        rfl
      refine ⟨_, _, hr, ⟨hlen, .inr ⟨g, cap, _, rfl, hbg, setRow_heap w g cur _ e _ hg, hroom, hcm, ?_, ?_⟩⟩, ⟨rfl, rfl, rfl, by simp, fun k _ hk => setRow_other w g k _ (fun e => hk (by simp [Value.ownBlock, e]))⟩, fun g' hg' => .inl hg'⟩
      · simp only [List.size_toArray, List.length_append, List.length_take, List.length_drop, Array.length_toList, List.length_replicate] at hfit ⊢
        omega
      · rw [htake, ← hlen]
        exact List.take_left
    · have holds : ∀ j u, xs[j]? = some u → w.cell? ((⟨g, 0, none⟩ : Addr).add j) = some u := hown.cells (g := g) rfl
      have hf := run_firstCells_some (P := P) w.drew i.size n ⟨g, 0, none⟩ n cap xs (by rw [hsz]; exact hown.1) holds
      have hr := Lib.run_append_grow_zeros (P := P) w t tn ty e i z .i64 kn ht htn hi hz (some ⟨g, 0, none⟩) n cap xs (by rw [hf]) k h0 (by omega) (by omega) (by omega) hkb (growslice_fits (by omega) (by rw [hb]; exact hbytes))
      have hgr := grown cap (Value.ownBlock (.slice (some ⟨g, 0, none⟩) n cap)) (by omega)
      exact ⟨_, _, hr, hgr.1, hgr.2, fun g' hg' => .inr (by simp [Value.ownBlock] at hg'; omega)⟩
theorem wpList_append_zeros {P : Program} {ops : Array Oper} {rest : List Oper} {o : Oper} {a : Act} {Q : Exit → Act → World → Prop} {w : World}
    {t tn e : TypeId} {z : Value} {bytes : Nat} {kn : IntKind} (E : ElemOf P t e z 1 bytes) (hzc : z.cells = #[z]) (hz1 : z.oneCell' = true) (htn : P.underlying tn = some (.int kn)) (hgd : o.guard = none) (s x : Operand)
    (ho : o.op = .call { callee := .builtin .append, args := #[s, x], argTypes := #[t, tn] })
    {base : Nat} {v : Value} {n k : Nat} {xs : List Value} (hown : w.ownsRow base e 1 v n xs) (hs : a.eval s = v) (hx : a.eval x = .int .i64 (k : Int)) (h0 : 0 < k)
    (h63 : n + k ≤ maxLen) (hbytes : (n + k) * bytes ≤ 140737488355328) (hbase : base ≤ w.heap.size)
    (h : ∀ v' w', w'.ownsRow base e 1 v' (n + k) (xs ++ List.replicate k z) → w.grownBy w' v.ownBlock → (∀ g', v'.ownBlock = some g' → v.ownBlock = some g' ∨ w.heap.size ≤ g') → wpList P ops Q rest (a.put o.dst v') w') :
    wpList P ops Q (o :: rest) a w := by
  refine wpList_plain hgd fun K hK => ?_
  obtain ⟨v', w', hr, h2, h3, h4⟩ := run_append_zeros_own E hzc hz1 htn o.type w hown k h0 h63 hbytes hbase
  unfold Oper.wp execOp
  simp only [ho, resolve, invoke, builtin, Sem.run_bind, Sem.run_pure, Result.andThen_ok, List.map_toArray, List.map_cons, List.map_nil, hs, hx, hr]
  exact hK _ _ (h v' w' h2 h3 h4)
/-- append of nothing made. -/
theorem run_append_zeros_nil {P : Program} {t tn e : TypeId} {z : Value} {bytes : Nat} {kn : IntKind} (E : ElemOf P t e z 1 bytes) (htn : P.underlying tn = some (.int kn)) (ty : TypeId) (w : World)
    {base : Nat} {v : Value} {n : Nat} {xs : List Value} (hown : w.ownsRow base e 1 v n xs) :
    (Builtin.append_ #[t, tn] ty #[v, .int .i64 (0 : Int)]).run P w = .ok v w := by
  obtain ⟨i, hi, hz, hsz, hb⟩ := E.info
  have ht := E.slice
  have hw : IntKind.i64.wrap (0 : Int) = 0 := by decide
  rcases hown.2 with ⟨rfl, rfl⟩ | ⟨g, cap, cur, rfl, hbg, hg, hnc, hcm, hcs, htake⟩
  · simp [Builtin.append_, run_underlying ht, run_underlying htn, sizeOf, typeInfo, zeroValue, hi, hz, hsz, asInt, asIntOf, hw]
  · have hnc' : n ≤ cap := hnc
    simp [Builtin.append_, run_underlying ht, run_underlying htn, sizeOf, typeInfo, zeroValue, hi, hz, hsz, asInt, asIntOf, hw, hnc', storeCells]
/-- append of made noughts, none or more. -/
theorem wpList_append_made {P : Program} {ops : Array Oper} {rest : List Oper} {o : Oper} {a : Act} {Q : Exit → Act → World → Prop} {w : World}
    {t tn e : TypeId} {z : Value} {bytes : Nat} {kn : IntKind} (E : ElemOf P t e z 1 bytes) (hzc : z.cells = #[z]) (hz1 : z.oneCell' = true) (htn : P.underlying tn = some (.int kn)) (hgd : o.guard = none) (s x : Operand)
    (ho : o.op = .call { callee := .builtin .append, args := #[s, x], argTypes := #[t, tn] })
    {base : Nat} {v : Value} {n k : Nat} {xs : List Value} (hown : w.ownsRow base e 1 v n xs) (hs : a.eval s = v) (hx : a.eval x = .int .i64 (k : Int))
    (h63 : n + k ≤ maxLen) (hbytes : (n + k) * bytes ≤ 140737488355328) (hbase : base ≤ w.heap.size)
    (h : ∀ v' w', w'.ownsRow base e 1 v' (n + k) (xs ++ List.replicate k z) → w.grownBy w' v.ownBlock → (∀ g', v'.ownBlock = some g' → v.ownBlock = some g' ∨ w.heap.size ≤ g') → wpList P ops Q rest (a.put o.dst v') w') :
    wpList P ops Q (o :: rest) a w := by
  by_cases h0 : 0 < k
  · exact wpList_append_zeros E hzc hz1 htn hgd s x ho hown hs hx h0 h63 hbytes hbase h
  · obtain rfl : k = 0 := by omega
    refine wpList_plain hgd fun K hK => ?_
    have hr := run_append_zeros_nil E htn o.type w hown
    unfold Oper.wp execOp
    have hx' : a.eval x = .int .i64 0 := hx
    simp only [ho, resolve, invoke, builtin, Sem.run_bind, Sem.run_pure, Result.andThen_ok, List.map_toArray, List.map_cons, List.map_nil, hs, hx', hr]
    exact hK _ _ (h v w (by simpa using hown) ⟨rfl, rfl, rfl, Nat.le_refl _, fun _ _ _ => rfl⟩ (fun _ h => .inl h))
end Go.Mun
namespace Go.Mun
/-- What memory of so many bytes grows by: what it costs, how many bytes more. -/
def growK (L a n : Nat) : Option (Nat × Nat) :=
  if n = 0 then some (0, 0) else if a + n ≤ 1048576 then some (memCost (max (L / 32) ((a + n + 31) / 32)) - memCost (L / 32), (max (L / 32) ((a + n + 31) / 32) - L / 32) * 32) else none
end Go.Mun
namespace Go.Proofs.YtikiciojfhfagaaGreat
open Go.RowKit Go.Mun

/-- What Grow leaves. -/
def GrowIs (w w' : World) (b o base : Nat) (mv : Value) (l : Bts) (r : Option (Nat × Nat)) (e : Ending) : Prop := match r with
  | none => e = .returned (.tuple #[.int .i64 0, .bool false]) ∧ Below w.heap.size w w'
  | some (cost, k) => e = .returned (.tuple #[.int .i64 cost, .bool true]) ∧ (Below w.heap.size w w' ∧ k = 0 ∨ ∃ w1 mv', Only (fun g => mv.ownBlock = some g) w w1 ∧ w' = w1.setCell ⟨b, o, none⟩ mv' ∧ w1.ownsRow base 5 1 mv' (l.length + k) (u8L (l ++ List.replicate k 0)) ∧ ∀ g, mv'.ownBlock = some g → mv.ownBlock = some g ∨ w.heap.size ≤ g)
set_option maxRecDepth 100000 in
set_option maxHeartbeats 2000000 in
theorem mem_grow {w : World} {b o base : Nat} {mv : Value} {l : Bts} (a n : Nat) (ha : a < wW) (hn : n < wW) (h : w.cell? ⟨b, o, none⟩ = some mv) (hf : w.free? b o 1 = true) (hr : w.ownsRow base 5 1 mv l.length (u8L l))
    (hb : ∀ g, mv.ownBlock = some g → ¬ g = b) (hl : l.length ≤ 1048576) (hbase : base ≤ w.heap.size) :
    Calls Tryz.prog 231 #[.pointer (some ⟨b, o, none⟩), .agg (beC 32 a).toArray, .agg (beC 32 n).toArray] w fun e w' => GrowIs w w' b o base mv l (growK l.length a n) e := by
  obtain ⟨sa, sc, rfl⟩ := own_sl hr
  have hbl : b < w.heap.size := free?_lt hf
  obtain ⟨w0, e0⟩ : ∃ w0, w0 = (w.alloc (.cells (beC 32 a).toArray 25)).alloc (.cells (beC 32 n).toArray 25) := ⟨_, rfl⟩
  have hb0 : Below w.heap.size w w0 := by rw [e0]; exact ((Below.refl _ _).alloc (Nat.le_refl _) _).alloc (by simp) _
  have ra : w0.row? w.heap.size 0 32 = some (beC 32 a) := by rw [e0, World.row?_alloc_lt _ (by simp)]; exact World.row?_alloc_at _ _ _ rfl (by simp)
  have rn : w0.row? (w.heap.size + 1) 0 32 = some (beC 32 n) := by rw [e0]; exact World.row?_alloc_at _ _ _ (by simp) (by simp)
  have hq := fun w => eqW (a := n) (b := 0) hn (by unfold wW; decide) w
  have HB0 := Lib.hid hb0
  have HE := Lib.hid e0
  have HRA := Lib.hid ra
  have HRN := Lib.hid rn
  have HIA := Lib.hid (fun w => word_Int a ha w)
  have HIN := Lib.hid (fun w => word_Int n hn w)
  have HH := Lib.hid h
  have HF := Lib.hid hf
  have HR := Lib.hid hr
  have HBL := Lib.hid hbl
  have HBG := Lib.hid hb
  have HLL := Lib.hid hl
  have HBS := Lib.hid hbase
  rw [e0] at ra rn
  clear e0 hb0 h hf hr hb hl hbase hbl ha hn
  by_cases hn0 : n = 0
  · have hd : decide (n = 0) = true := decide_eq_true hn0
    have hG : growK l.length a n = some (0, 0) := if_pos hn0
    have HG := Lib.hid hG
    rw [hd] at hq
    clear hd hn0 hG
    go_enter Tryz.func231, Tryz.ntmps231
    go_wp2
    rw [← HE.out]
    go_ret2
    rw [HG.out]
    exact ⟨rfl, .inl ⟨HB0.out, rfl⟩⟩
  have hd : decide (n = 0) = false := decide_eq_false hn0
  have HN0 := Lib.hid hn0
  rw [hd] at hq
  clear hd hn0
  go_enter Tryz.func231, Tryz.ntmps231
  go_wp2_with fail
  rw [← HE.out]
  refine (HIA.out w0).mono ?_
  rintro e w1 ⟨rfl, hb1⟩
  have hB1 := HB0.out.trans (hb1.mono HB0.out.size)
  have rn1 : w1.row? (w.heap.size + 1) 0 32 = some (beC 32 n) := ((brow hb1).1 _ _ _ (World.row?_lt HRN.out)).trans HRN.out
  have HB1 := Lib.hid hB1
  clear hb1 hB1 ra rn hq
  go_wp2_with fail
  refine (HIN.out w1).mono ?_
  rintro e w2 ⟨rfl, hb2⟩
  have HB2 := Lib.hid (HB1.out.trans (hb2.mono HB1.out.size))
  have c2 : w2.cell? ⟨b, o, none⟩ = some (.slice sa l.length sc) := (HB2.out.cell (p := ⟨b, o, none⟩) HBL.out).trans HH.out
  have hNone : Hid (¬ a + n ≤ 1048576 → growK l.length a n = none) := fun hx => by
    show (if n = 0 then _ else if _ then _ else _) = _
    rw [if_neg HN0.out, if_neg hx]
  clear hb2 rn1
  by_cases ha : a < 9223372036854775808
  · have ea : intW a = some a := if_pos ha
    rw [ea]
    by_cases hn : n < 9223372036854775808
    · have en : intW n = some n := if_pos hn
      rw [en]
      have sa : (some a).getD 0 = a := rfl
      have sn : (some n).getD 0 = n := rfl
      rw [sa, sn]
      clear sa sn ea en
      by_cases hA : a ≤ 1048576
      · have d1 : decide ((1048576 : Int) < (a : Int)) = false := decide_eq_false (by omega)
        have hsub : IntKind.i64.wrap (1048576 - (a : Int)) = 1048576 - (a : Int) := wrI _ (by omega) (by omega)
        by_cases hK : a + n ≤ 1048576
        · have d2 : decide (1048576 - (a : Int) < (n : Int)) = false := decide_eq_false (by omega)
          obtain ⟨was, hwas⟩ : ∃ was, was = l.length / 32 := ⟨_, rfl⟩
          obtain ⟨wd, hwd⟩ : ∃ wd, wd = (a + n + 31) / 32 := ⟨_, rfl⟩
          have t1 : Int.tdiv ((l.length : Nat) : Int) 32 = (was : Int) := by rw [Int.tdiv_eq_ediv_of_nonneg (by omega), hwas]; rfl
          have t2 : Int.tdiv ((a : Int) + n + 32 - 1) 32 = (wd : Int) := by rw [Int.tdiv_eq_ediv_of_nonneg (by omega)]; omega
          have HG : Hid (growK l.length a n = some (memCost (max was wd) - memCost was, (max was wd - was) * 32)) := by
            show (if n = 0 then _ else if _ then _ else _) = _
            rw [if_neg HN0.out, if_pos hK, ← hwas, ← hwd]
          have hl1 := HLL.out
          have hwl : was ≤ 32768 ∧ was * 32 ≤ l.length := by omega
          have hdl : wd ≤ 32768 := by omega
          have HW := Lib.hid (And.intro hwl hdl)
          have hnz : (0 : Int) ≤ (n : Int) ∧ (n : Int) ≤ 1048576 := by omega
          have haz : (0 : Int) ≤ (a : Int) ∧ (a : Int) ≤ 1048576 := by omega
          obtain ⟨hnz0, hnz1⟩ := hnz
          obtain ⟨haz0, haz1⟩ := haz
          have hlz : ((l.length : Nat) : Int) ≤ 1048576 := by omega
          have hwz : (was : Int) ≤ 32768 := by omega
          have hdz : (wd : Int) ≤ 32768 := by omega
          have hwz0 : (0 : Int) ≤ (was : Int) := by omega
          have hdz0 : (0 : Int) ≤ (wd : Int) := by omega
          have HR2 := Lib.hid (Only.own HR.out (Only.of_below_size HB2.out) (fun _ _ h => h) : w2.ownsRow base 5 1 (.slice sa l.length sc) l.length (u8L l))
          have hf2 : w2.free? b o 1 = true := by rw [(brow HB2.out).2 _ _ _ HBL.out]; exact HF.out
          have HF2 := Lib.hid hf2
          obtain ⟨wm, hwm⟩ : ∃ wm, wm = max was wd := ⟨_, rfl⟩
          have hmxz : max (was : Int) (wd : Int) = (wm : Int) := by rw [hwm]; omega
          rw [← hwm] at HG
          have hwm1 : was ≤ wm ∧ wm ≤ 32768 := by omega
          have hmz : (wm : Int) ≤ 32768 := by omega
          have hmz0 : (was : Int) ≤ (wm : Int) := by omega
          obtain ⟨k, hk⟩ : ∃ k, k = (wm - was) * 32 := ⟨_, rfl⟩
          have hkz : ((wm : Int) - (was : Int)) * 32 = (k : Int) := by omega
          rw [← hk] at HG
          have HK := Lib.hid (show k ≤ 1048576 by omega)
          have hmc := memCost_mono (show was ≤ wm from hwm1.1)
          have hm1 := memCost_le wm (by omega)
          have HSC : Hid (IntKind.i64.wrap (((memCost wm : Nat) : Int) - ((memCost was : Nat) : Int)) = ((memCost wm - memCost was : Nat) : Int)) := by show _ = _; rw [wrI _ (by omega) (by omega)]; omega
          have HC1 := Lib.hid (fun w => mem_cost wm (by omega) w)
          have HC2 := Lib.hid (fun w => mem_cost was (by omega) w)
          clear hwas hwd hwl hdl hl1 hwm hk hmc hm1 hwm1 hK hA ha hn
          go_wp2_with (at_builtin; go_must (refine wpList_append_made (base := base) (n := l.length) (k := k) (xs := u8L l) elem26 rfl rfl Tryz.underlying3 rfl _ _ rfl HR2.out rfl rfl (by have := HK.out; have := HLL.out; unfold maxLen; omega) (by have := HK.out; have := HLL.out; omega) (by have := HBS.out; have := HB2.out.size; omega) ?_))
          intro v3 w3 ho3 hg3 hn3
          have hO3 : Only (fun g => (Value.slice sa l.length sc).ownBlock = some g) w2 w3 := Only.of_grown hg3
          have hO : Hid (Only (fun g => (Value.slice sa l.length sc).ownBlock = some g) w w3) := (Only.mono (S := fun _ => False) (Only.of_below_size HB2.out) (fun _ (h : False) => h.elim)).trans hO3 (fun _ h _ => h)
          have hf3 : w3.free? b o 1 = true := by rw [hO3.free? (free?_lt HF2.out) (fun hh => HBG.out b hh rfl)]; exact HF2.out
          have HOW : Hid (w3.ownsRow base 5 1 v3 (l.length + k) (u8L (l ++ List.replicate k 0))) := by
            have e : u8L (l ++ List.replicate k 0) = u8L l ++ List.replicate k (Value.int .u8 0) := by simp [u8L]
            show w3.ownsRow _ _ _ _ _ _
            rw [e]
            simpa using ho3
          have hone := own_sl HOW.out
          obtain ⟨va, vc, rfl⟩ := hone
          have HGR : Hid (∀ g, (Value.slice va (l.length + k) vc).ownBlock = some g → (Value.slice sa l.length sc).ownBlock = some g ∨ w.heap.size ≤ g) := by
            intro g hg
            rcases hn3 g hg with h1 | h1
            · exact .inl h1
            · exact .inr (by have := HB2.out.size; omega)
          clear ho3 hg3 hO3 c2 hf2 hn3
          go_wp2_with fail
          refine (HC1.out _).mono ?_
          rintro e w4 ⟨rfl, rfl⟩
          go_wp2_with fail
          refine (HC2.out _).mono ?_
          rintro e w5 ⟨rfl, rfl⟩
          have hsc := HSC.out
          generalize memCost wm = m1 at *
          generalize memCost was = m2 at *
          go_wp2
          go_ret2
          rw [HG.out]
          exact ⟨rfl, .inr ⟨w3, _, hO.out, rfl, HOW.out, HGR.out⟩⟩
        · have d2 : decide (1048576 - (a : Int) < (n : Int)) = true := decide_eq_true (by omega)
          have HG := Lib.hid (hNone.out hK)
          clear hK hA ha hn c2
          go_wp2
          go_ret2
          rw [HG.out]
          exact ⟨rfl, HB2.out⟩
      · have d1 : decide ((1048576 : Int) < (a : Int)) = true := decide_eq_true (by omega)
        have HG := Lib.hid (hNone.out (by omega))
        clear hA ha hn c2
        go_wp2
        go_ret2
        rw [HG.out]
        exact ⟨rfl, HB2.out⟩
    · have en : intW n = none := if_neg hn
      have HG := Lib.hid (hNone.out (by omega))
      rw [en]
      clear en ea ha hn c2
      go_wp2
      go_ret2
      rw [HG.out]
      exact ⟨rfl, HB2.out⟩
  · have ea : intW a = none := if_neg ha
    have HG := Lib.hid (hNone.out (by omega))
    rw [ea]
    clear ea ha c2
    go_wp2
    go_ret2
    rw [HG.out]
    exact ⟨rfl, HB2.out⟩
end Go.Proofs.YtikiciojfhfagaaGreat
namespace Go.Mun
open Go.RowKit

/-- What is read: bytes, or a list; of a list's items the bytes of those that are bytes. -/
inductive Top where
  | bytes (l : Bts)
  | list (ks : List (Option Bts))
def Top.kid : Top → Option Bts
  | .bytes l => some l
  | .list _ => none
inductive RdR where
  | err (e : Nat)
  | ok (t : Top) (n : Nat)
/-- An item's head: how many bytes it has, how many are behind it. -/
def hdR (b : Bts) : Option (Nat × Nat) :=
  if (b[0]?.getD 0 % 64).toNat ≤ 55 then (if (b[0]?.getD 0 % 64).toNat + 1 ≤ b.length then some (1, (b[0]?.getD 0 % 64).toNat) else none)
  else if b.length < 1 + ((b[0]?.getD 0 % 64).toNat - 55) ∨ b[1]?.getD 0 = 0 then none
  else if beN ((b.drop 1).take ((b[0]?.getD 0 % 64).toNat - 55)) ≤ 55 ∨ b.length < 1 + ((b[0]?.getD 0 % 64).toNat - 55) + beN ((b.drop 1).take ((b[0]?.getD 0 % 64).toNat - 55)) then none
  else some (1 + ((b[0]?.getD 0 % 64).toNat - 55), beN ((b.drop 1).take ((b[0]?.getD 0 % 64).toNat - 55)))
/-- The items of a list's bytes, one by one. -/
def rdsF (g : Bts → RdR) : Nat → Bts → Nat ⊕ List (Option Bts)
  | 0, _ => .inl 0
  | m + 1, x => if x = [] then .inr [] else match g x with
    | .err e => .inl e
    | .ok t k => match rdsF g m (x.drop k) with
      | .inl e => .inl e
      | .inr l => .inr (t.kid :: l)
def rdB (b : Bts) : RdR := match hdR b with
  | none => .err 4
  | some (h, n) => if n = 1 ∧ b[h]?.getD 0 < 128 then .err 4 else .ok (.bytes ((b.drop h).take n)) (h + n)
def rdL (g : Bts → RdR) (b : Bts) : RdR := match hdR b with
  | none => .err 4
  | some (h, n) => match rdsF g (n + 1) ((b.drop h).take n) with
    | .inl e => .err e
    | .inr ks => .ok (.list ks) (h + n)
def rd1 (lst : Bts → RdR) (b : Bts) : RdR :=
  if b = [] then .err 4
  else if b[0]?.getD 0 < 128 then .ok (.bytes [b[0]?.getD 0]) 1
  else if b[0]?.getD 0 < 192 then rdB b
  else lst b
/-- The item that bytes begin with, lists so deep at most. -/
def rdT : Nat → Bts → RdR
  | 0, b => rd1 (fun _ => .err 3) b
  | d + 1, b => rd1 (rdL (rdT d)) b
/-- A reader takes a byte at least, and none beyond the end. -/
def Reads (g : Bts → RdR) : Prop := ∀ x t k, g x = .ok t k → 1 ≤ k ∧ k ≤ x.length
/-- The items of a list's bytes. -/
def rds (g : Bts → RdR) (x : Bts) : Nat ⊕ List (Option Bts) := rdsF g (x.length + 1) x
end Go.Mun
namespace Go.Proofs.YtikiciojfhfagaaGreat
open Go.RowKit Go.Mun

theorem beN_snoc : ∀ (l : Bts) (x : Int), beN (l ++ [x]) = beN l * 256 + x.toNat
  | [], x => by simp [beN]
  | y :: l, x => by
    show y.toNat * 256 ^ (l ++ [x]).length + beN (l ++ [x]) = (y.toNat * 256 ^ l.length + beN l) * 256 + x.toNat
    rw [beN_snoc l x, List.length_append, show l.length + [x].length = l.length + 1 from rfl, Nat.pow_succ, Nat.add_mul, Nat.mul_assoc]
    omega
theorem beN_take (l : Bts) (i : Nat) (h : i < l.length) : beN (l.take (i + 1)) = beN (l.take i) * 256 + (l[i]?.getD 0).toNat := by
  rw [List.take_succ_eq_append_getElem h, beN_snoc, List.getElem?_eq_getElem h]; rfl
theorem beN_take_le (l : Bts) (hb : Byt l) : ∀ i j, i ≤ j → beN (l.take i) ≤ beN (l.take j)
  | i, j, h => by
    induction j with
    | zero => have : i = 0 := by omega
              subst this; exact Nat.le_refl _
    | succ j ih =>
      by_cases e : i = j + 1
      · subst e; exact Nat.le_refl _
      · refine Nat.le_trans (ih (by omega)) ?_
        by_cases hj : j < l.length
        · rw [beN_take l j hj]; omega
        · rw [List.take_of_length_le (by omega), List.take_of_length_le (by omega)]; exact Nat.le_refl _
/-- What a head's length is answered with. -/
def LenIs (L : Bts) (e : Ending) : Prop := match hdR L with
  | none => ∃ x y : Int, e = .returned (.tuple #[.int .i64 x, .int .i64 y, .bool false])
  | some (h, m) => e = .returned (.tuple #[.int .i64 h, .int .i64 m, .bool true])
end Go.Proofs.YtikiciojfhfagaaGreat
namespace Go.Proofs.YtikiciojfhfagaaGreat
open Go.RowKit Go.Mun

/-- An item as it lies in memory, so far as its own bytes. -/
def KidAt (w : World) (R : Nat → Prop) (cs : List Value) : Option Bts → Prop
  | some l => ∃ a c, cs = [.bool false, .slice a l.length c, .slice none 0 0] ∧ Ints w .u8 a c l ∧ (l ≠ [] → ∀ p, a = some p → R p.block) ∧ Byt l
  | none => ∃ a n c, cs = [.bool true, .slice none 0 0, .slice a n c]
theorem KidAt.len {w : World} {R : Nat → Prop} {cs : List Value} {k : Option Bts} (h : KidAt w R cs k) : cs.length = 3 := by
  cases k with
  | none => obtain ⟨a, n, c, rfl⟩ := h; rfl
  | some l => obtain ⟨a, c, rfl, _⟩ := h; rfl
theorem KidAt.ok {w : World} {R : Nat → Prop} {cs : List Value} {k : Option Bts} (h : KidAt w R cs k) : okL 3 cs = true := by
  cases k with
  | none => obtain ⟨a, n, c, rfl⟩ := h; rfl
  | some l => obtain ⟨a, c, rfl, _⟩ := h; rfl
theorem KidAt.only {w w' : World} {R R' X : Nat → Prop} {cs : List Value} {k : Option Bts} (h : KidAt w R cs k) (ho : Only X w w') (hX : ∀ b, b < w.heap.size → R b → ¬ X b) (hR : ∀ b, b < w.heap.size → R b → R' b) : KidAt w' R' cs k := by
  cases k with
  | none => exact h
  | some l =>
    obtain ⟨a, c, rfl, hi, hr, hb⟩ := h
    refine ⟨a, c, rfl, ⟨fun hn => ?_, hi.nil, hi.len, hi.cap⟩, fun hn p hp => ?_, hb⟩
    · obtain ⟨b, off, ha, hlt, hc⟩ := hi.at (i := 0) (List.length_pos_iff.2 hn)
      exact ⟨b, off, ha, fun i hi => by rw [ho.cell? hlt (hX b hlt (hr hn _ ha))]; exact hc i hi⟩
    · obtain ⟨b, off, ha, hlt, hc⟩ := hi.at (i := 0) (List.length_pos_iff.2 hn)
      rw [ha] at hp; cases hp
      exact hR _ hlt (hr hn _ ha)
/-- Items in a row. -/
def KidsAt (w : World) (R : Nat → Prop) : List (List Value) → List (Option Bts) → Prop
  | [], [] => True
  | cs :: css, k :: ks => KidAt w R cs k ∧ KidsAt w R css ks
  | _, _ => False
theorem KidsAt.only {w w' : World} {R R' X : Nat → Prop} : ∀ {css : List (List Value)} {ks : List (Option Bts)}, KidsAt w R css ks → Only X w w' → (∀ b, b < w.heap.size → R b → ¬ X b) → (∀ b, b < w.heap.size → R b → R' b) → KidsAt w' R' css ks
  | [], [], _, _, _, _ => trivial
  | _ :: _, _ :: _, h, ho, hX, hR => ⟨h.1.only ho hX hR, KidsAt.only h.2 ho hX hR⟩
  | [], _ :: _, h, _, _, _ => h.elim
  | _ :: _, [], h, _, _, _ => h.elim
theorem KidsAt.lens {w : World} {R : Nat → Prop} : ∀ {css : List (List Value)} {ks : List (Option Bts)}, KidsAt w R css ks → css.length = ks.length ∧ css.flatten.length = ks.length * 3
  | [], [], _ => ⟨rfl, rfl⟩
  | cs :: css, k :: ks, h => by
    have h1 := KidsAt.lens h.2
    have h2 := h.1.len
    constructor
    · simp [h1.1]
    · simp only [List.flatten_cons, List.length_append, List.length_cons]; omega
  | [], _ :: _, h => h.elim
  | _ :: _, [], h => h.elim
theorem KidsAt.at {w : World} {R : Nat → Prop} {b off : Nat} : ∀ {css : List (List Value)} {ks : List (Option Bts)} {i : Nat} {k : Option Bts}, KidsAt w R css ks → w.row? b off (ks.length * 3) = some css.flatten → ks[i]? = some k → ∃ cs, w.row? b (off + i * 3) 3 = some cs ∧ KidAt w R cs k := by
  intro css ks i k h hr hi
  have key : ∀ (css : List (List Value)) (ks : List (Option Bts)) (i : Nat) (k : Option Bts), KidsAt w R css ks → ks[i]? = some k → ∃ cs, css[i]? = some cs ∧ KidAt w R cs k ∧ offOf css i = i * 3 := by
    intro css
    induction css with
    | nil => intro ks i k h hi; cases ks with
      | nil => simp at hi
      | cons _ _ => exact h.elim
    | cons cs css ih => intro ks i k h hi; cases ks with
      | nil => exact h.elim
      | cons k0 ks =>
        cases i with
        | zero => simp at hi; subst hi; exact ⟨cs, rfl, h.1, by simp [offOf_zero]⟩
        | succ i =>
          obtain ⟨c, h1, h2, h3⟩ := ih ks i k h.2 (by simpa using hi)
          exact ⟨c, by simpa using h1, h2, by rw [offOf_succ, h3, h.1.len]; omega⟩
  obtain ⟨cs, h1, h2, h3⟩ := key css ks i k h hi
  exact ⟨cs, row_cat (l := css) hr h1 (by rw [h3]) h2.len.symm, h2⟩
/-- What was read as it lies in memory. -/
def TopAt (w : World) (R : Nat → Prop) (cs : List Value) : Top → Prop
  | .bytes l => KidAt w R cs (some l)
  | .list ks => ∃ a c, cs = [.bool true, .slice none 0 0, .slice a ks.length c] ∧ (ks ≠ [] → ∃ b off css, a = some ⟨b, off, none⟩ ∧ ks.length ≤ c ∧ c ≤ maxLen ∧ R b ∧ w.row? b off (ks.length * 3) = some css.flatten ∧ KidsAt w R css ks)
theorem TopAt.kid {w : World} {R : Nat → Prop} {cs : List Value} {t : Top} (h : TopAt w R cs t) : KidAt w R cs t.kid := by
  cases t with
  | bytes l => exact h
  | list ks => obtain ⟨a, c, rfl, _⟩ := h; exact ⟨a, ks.length, c, rfl⟩
theorem TopAt.only {w w' : World} {R R' X : Nat → Prop} {cs : List Value} {t : Top} (h : TopAt w R cs t) (ho : Only X w w') (hX : ∀ b, b < w.heap.size → R b → ¬ X b) (hR : ∀ b, b < w.heap.size → R b → R' b) : TopAt w' R' cs t := by
  cases t with
  | bytes l => exact KidAt.only (k := some l) h ho hX hR
  | list ks =>
    obtain ⟨a, c, rfl, h3⟩ := h
    refine ⟨a, c, rfl, fun hn => ?_⟩
    obtain ⟨b, off, css, ha, h1, h2, hb, hr, hk⟩ := h3 hn
    have hlt := World.row?_lt hr
    exact ⟨b, off, css, ha, h1, h2, hR _ hlt hb, by rw [ho.row? hlt (hX _ hlt hb)]; exact hr, hk.only ho hX hR⟩
/-- A part of bytes. -/
theorem ints_part {w : World} {b off c : Nat} {L : Bts} (h : Ints w .u8 (some ⟨b, off, none⟩) c L) (p q : Nat) (hpq : p + q ≤ L.length) (hp : p < c) : Ints w .u8 (some ⟨b, off + p, none⟩) (c - p) ((L.drop p).take q) := by
  have hl := h.len
  have hll : ((L.drop p).take q).length = q := by rw [List.length_take, List.length_drop]; omega
  refine ⟨fun hn => ?_, fun e => (by cases e), (by rw [hll]; omega), Nat.le_trans (Nat.sub_le _ _) h.cap⟩
  have hq : 0 < q := by rw [← hll]; exact List.length_pos_iff.2 hn
  obtain ⟨b', o', ha, _, hc⟩ := h.at (i := 0) (by omega)
  cases ha
  refine ⟨b, off + p, rfl, fun i hi => ?_⟩
  rw [hll] at hi
  have := hc (p + i) (by omega)
  rw [Nat.add_assoc, this, List.getElem?_take, if_pos hi, List.getElem?_drop]
end Go.Proofs.YtikiciojfhfagaaGreat
namespace Go.Proofs.YtikiciojfhfagaaGreat
open Go.RowKit Go.Mun

theorem slice_rest {w : World} {b off c : Nat} {L : Bts} (h : Ints w .u8 (some ⟨b, off, none⟩) c L) (p : Nat) (hp0 : p ≤ L.length) :
    ∃ o' c', (∀ w', (Instr.slice 26 (.slice (some ⟨b, off, none⟩) L.length c) (some (.int .i64 (p : Int))) none none).run Tryz.prog w' = .ok (.slice (some ⟨b, o', none⟩) (L.length - p) c') w') ∧ Ints w .u8 (some ⟨b, o', none⟩) c' (L.drop p) := by
  have hl := h.len
  have he : Tryz.prog.elem 26 = 5 := by kernel_rfl
  have hs : ∀ w', (sizeOf 5).run Tryz.prog w' = .ok 1 w' := fun w' => by kernel_rfl
  by_cases hp : p < c
  · refine ⟨off + p, c - p, fun w' => ?_, ?_⟩
    · rw [run_slice_l w' 26 (some ⟨b, off, none⟩) L.length c (by rw [he]; exact Tryz.underlying26) .i64 (p : Int) (by omega) (by omega), he, hs]
      simp only [Result.andThen, sliced, Int.toNat_natCast, Nat.mul_one]
      rw [if_neg (by omega), Option.map_some, add_off rfl]
    · have := ints_part h p (L.length - p) (by omega) hp
      rw [List.take_of_length_le (by rw [List.length_drop]; omega)] at this
      exact this
  · have hpc : c = p := by omega
    have hlp : L.length = p := by omega
    refine ⟨off, 0, fun w' => ?_, ⟨fun hn => absurd (List.drop_of_length_le (by omega)) hn, fun e => (by cases e), by simp [hlp], Nat.zero_le _⟩⟩
    rw [run_slice_l w' 26 (some ⟨b, off, none⟩) L.length c (by rw [he]; exact Tryz.underlying26) .i64 (p : Int) (by omega) (by omega), he, hs]
    simp only [Result.andThen, sliced, Int.toNat_natCast, Nat.mul_one]
    rw [if_pos hpc, hpc, Nat.sub_self]
/-- What a reader comes to. -/
def ReadIs (w w' : World) (r : RdR) (e : Ending) : Prop := Below w.heap.size w w' ∧ match r with
  | .err x => e = .returned (.tuple #[.agg itemZ.toArray, .int .i64 0, .int .i64 x])
  | .ok t n => ∃ cs, e = .returned (.tuple #[.agg cs.toArray, .int .i64 n, .int .i64 0]) ∧ TopAt w' (fun b => w.heap.size ≤ b) cs t
def ReadOk (d : Nat) : Prop := ∀ (a : Option Addr) (c : Nat) (L : Bts) (w : World), Ints w .u8 a c L → Byt L → L.length ≤ 16777216 → d ≤ 32 →
  Calls Tryz.prog 82 #[.slice a L.length c, .int .i64 (32 - (d : Int))] w fun e w' => ReadIs w w' (rdT d L) e
end Go.Proofs.YtikiciojfhfagaaGreat
namespace Go.Proofs.YtikiciojfhfagaaGreat
open Go.RowKit Go.Mun

end Go.Proofs.YtikiciojfhfagaaGreat
namespace Go.Mun
open Go.RowKit
def Errs (g : Bts → RdR) : Prop := ∀ x e, g x = .err e → e ≠ 0
end Go.Mun
namespace Go.Proofs.YtikiciojfhfagaaGreat
open Go.RowKit Go.Mun

set_option maxRecDepth 1000000 in
theorem slI1 : SliceLit Tryz.prog 63 65 3 1 itemZ := ⟨Tryz.underlying63, ⟨_, .agg itemZ.toArray, rfl, by kernel_rfl, by kernel_rfl, by kernel_rfl⟩, by decide, by kernel_rfl, by decide⟩
def fillI (p : List (Nat × Value)) : Option (List Value) := fillL (1 * 3) ((List.range 1).map fun i => (i * 3, 3)) itemZ p
theorem bsI1 (ρ : Operand → Value) (dst : Option Tmp) (x : Operand) (t : TypeId) (pos : String) (after : Array Edge) (gd : Option (Nat × Bool)) (w : World) :
    (execOp ρ ⟨dst, .buildSlice 63 1 #[(0, x)], t, pos, after, gd⟩).run Tryz.prog w = asNext (bsRow Tryz.prog 63 65 1 [(0, ρ x)] w (fillI [(0, ρ x)])) :=
  ex_bslice ρ dst t pos after gd w slI1 [(0, x)]
@[go_sem] theorem fillI_one (c : List Value) (h : c.length = 3) : fillI [(0, .agg c.toArray)] = some c := by
  unfold fillI
  match c, h with
  | [x, y, z], _ => rfl
theorem s1I (ρ : Operand → Value) (dst : Option Tmp) (x y : Operand) (t : TypeId) (pos : String) (after : Array Edge) (gd : Option (Nat × Bool)) (w : World) : (execOp ρ ⟨dst, .store 63 x y, t, pos, after, gd⟩).run Tryz.prog w = asSkip (stOne Tryz.prog 63 (ρ x) (ρ y) w) := ex_store1 ρ dst x y t pos after gd w (by kernel_rfl)
attribute [go_sem ↓] bsI1 s1I
def slLen : Value → Nat
  | .slice _ n _ => n
  | _ => 0
/-- A list's items on their way. -/
structure RdLp (w : World) (q : Nat) (g : Bts → RdR) (x : Bts) (v : Value) (wr : World) (done : List (Option Bts)) (rest : Bts) : Prop where
  below : Below w.heap.size w wr
  res : wr.free? w.heap.size 0 3 = true
  val : ∃ a c, v = .slice a rest.length c ∧ Ints w .u8 a c rest ∧ ∃ p, a = some p
  byt : Byt rest
  eq : rds g x = match rds g rest with | .inl e => .inl e | .inr l => .inr (done ++ l)
  item : ∃ sv css, Arr wr q 3 [.bool true, .slice none 0 0, sv] ∧ wr.ownsRow 0 65 3 sv done.length css.flatten ∧ (∀ g, sv.ownBlock = some g → q < g) ∧ KidsAt wr (fun b => q < b ∧ sv.ownBlock ≠ some b) css done
  cnt : done.length + rest.length ≤ 16777216
end Go.Proofs.YtikiciojfhfagaaGreat
namespace Go.Proofs.YtikiciojfhfagaaGreat
open Go.RowKit Go.Mun

end Go.Proofs.YtikiciojfhfagaaGreat
namespace Go.Mun
/-- All of the bytes are one item. -/
def rdAll (L : Bts) : RdR := match rdT 32 L with
  | .err e => .err e
  | .ok t n => if n = L.length then .ok t n else .err 4
end Go.Mun
namespace Go.Proofs.YtikiciojfhfagaaGreat
open Go.RowKit Go.Mun

/-- What a reader of all the bytes comes to. -/
def TopIs (w w' : World) (r : RdR) (e : Ending) : Prop := Below w.heap.size w w' ∧ match r with
  | .err x => e = .returned (.tuple #[.agg itemZ.toArray, .int .i64 x])
  | .ok t _ => ∃ cs, e = .returned (.tuple #[.agg cs.toArray, .int .i64 0]) ∧ TopAt w' (fun b => w.heap.size ≤ b) cs t
end Go.Proofs.YtikiciojfhfagaaGreat
namespace Go.Mun
/-- Are an item's bytes a number's, without noughts ahead? -/
def numB : Option Bts → Bool
  | some l => l.isEmpty || !(l[0]?.getD 0 == 0)
  | none => false
end Go.Mun
namespace Go.Proofs.YtikiciojfhfagaaGreat
open Go.RowKit Go.Mun

attribute [local go_sem] ta26 ta59 ta59'
end Go.Proofs.YtikiciojfhfagaaGreat
namespace Go.Mun
/-- An item's number. -/
def intK : Option Bts → Option Nat
  | some l => if numB (some l) = true ∧ l.length ≤ 8 ∧ beN l ≤ 9223372036854775807 then some (beN l) else none
  | none => none
end Go.Mun
namespace Go.Proofs.YtikiciojfhfagaaGreat
open Go.RowKit Go.Mun

end Go.Proofs.YtikiciojfhfagaaGreat
namespace Go.Mun
/-- An item's word. -/
def wordK : Option Bts → Option Nat
  | some l => if numB (some l) = true ∧ l.length ≤ 32 then some (beN l) else none
  | none => none
end Go.Mun
namespace Go.Proofs.YtikiciojfhfagaaGreat
open Go.RowKit Go.Mun

end Go.Proofs.YtikiciojfhfagaaGreat
namespace Go.Mun
/-- An item's address. -/
def addrK : Option Bts → Option Bts
  | some l => if l.length = 20 then some l else none
  | none => none
end Go.Mun
namespace Go.Proofs.YtikiciojfhfagaaGreat
open Go.RowKit Go.Mun

end Go.Proofs.YtikiciojfhfagaaGreat
namespace Go.Mun
/-- The numbers of items. -/
def numsK : List (Option Bts) → Option (List Nat)
  | [] => some []
  | k :: ks => match intK k with | none => none | some x => (numsK ks).map (x :: ·)
def natsV (l : List Nat) : List Value := l.map fun n => .int .i64 (n : Nat)
end Go.Mun
namespace Go.Proofs.YtikiciojfhfagaaGreat
open Go.RowKit Go.Mun

/-- What the numbers of items come to. -/
def NumsIs (w w' : World) (r : Option (List Nat)) (e : Ending) : Prop := Below w.heap.size w w' ∧ match r with
  | none => e = .returned (.tuple #[.slice none 0 0, .bool false])
  | some l => ∃ v, e = .returned (.tuple #[v, .bool true]) ∧ w'.ownsRow w.heap.size 3 1 v l.length (natsV l)
/-- The numbers on their way. -/
structure NumLp (w : World) (ks : List (Option Bts)) (v : Value) (wr : World) (done : List Nat) (q : Nat) : Prop where
  below : Below w.heap.size w wr
  own : wr.ownsRow w.heap.size 3 1 v done.length (natsV done)
  len : done.length = q
  eq : numsK ks = (numsK (ks.drop q)).map (done ++ ·)

end Go.Proofs.YtikiciojfhfagaaGreat
namespace Go.Proofs.YtikiciojfhfagaaGreat
open Go.RowKit Go.Mun

def zsN44 : List (List Value) := [[.int .i64 0], [.int .i64 0], [.int .i64 0], beC 20 0, beC 20 0, [.bool false], beC 32 0, [.slice none 0 0]]
theorem zsN44_len : (cat zsN44).length = 77 := by kernel_rfl
set_option maxRecDepth 1000000 in
theorem styN44 : StructTy Tryz.prog 44 77 (cat zsN44) (plOf zsN44) := ⟨⟨_, _, rfl, Tryz.underlying44, by kernel_rfl, by kernel_rfl⟩, zsN44_len⟩
theorem blN44 (ρ : Operand → Value) (dst : Option Tmp) (parts : List (Nat × Operand)) (t : TypeId) (pos : String) (after : Array Edge) (gd : Option (Nat × Bool)) (w : World) : (execOp ρ ⟨dst, .build 44 parts.toArray, t, pos, after, gd⟩).run Tryz.prog w = asNext (blRow Tryz.prog 44 (parts.map fun p => (p.1, ρ p.2)) w (fillL 77 (plOf zsN44) (cat zsN44) (parts.map fun p => (p.1, ρ p.2)))) := ex_build ρ dst t pos after gd w styN44 parts
theorem tyN44 : RowTy Tryz.prog 44 77 := ⟨⟨_, Tryz.underlying44, rfl⟩, by kernel_rfl⟩
theorem ldN44 (ρ : Operand → Value) (dst : Option Tmp) (x : Operand) (t : TypeId) (pos : String) (after : Array Edge) (gd : Option (Nat × Bool)) (w : World) : (execOp ρ ⟨dst, .load 44 x, t, pos, after, gd⟩).run Tryz.prog w = asNext (ldRow Tryz.prog 44 77 (ρ x) w) := ex_load ρ dst x t pos after gd w tyN44
theorem stN44 (ρ : Operand → Value) (dst : Option Tmp) (x y : Operand) (t : TypeId) (pos : String) (after : Array Edge) (gd : Option (Nat × Bool)) (w : World) : (execOp ρ ⟨dst, .store 44 x y, t, pos, after, gd⟩).run Tryz.prog w = asSkip (stRow Tryz.prog 44 77 (ρ x) (ρ y) w) := ex_store ρ dst x y t pos after gd w tyN44
set_option maxRecDepth 1000000 in
theorem alN44 (ρ : Operand → Value) (dst : Option Tmp) (t : TypeId) (pos : String) (after : Array Edge) (gd : Option (Nat × Bool)) (w : World) : (execOp ρ ⟨dst, .alloc 44, t, pos, after, gd⟩).run Tryz.prog w = .ok (.value (.pointer (some ⟨w.heap.size, 0, none⟩))) (w.alloc (.cells (cat zsN44).toArray 44)) := ex_alloc ρ dst t pos after gd w (fun _ => by kernel_rfl)
def zsN39 : List (List Value) := [[.int .i64 0], [.int .i64 0], [.slice none 0 0], [.slice none 0 0], beC 20 0]
theorem zsN39_len : (cat zsN39).length = 24 := by kernel_rfl
set_option maxRecDepth 1000000 in
theorem styN39 : StructTy Tryz.prog 39 24 (cat zsN39) (plOf zsN39) := ⟨⟨_, _, rfl, Tryz.underlying39, by kernel_rfl, by kernel_rfl⟩, zsN39_len⟩
theorem blN39 (ρ : Operand → Value) (dst : Option Tmp) (parts : List (Nat × Operand)) (t : TypeId) (pos : String) (after : Array Edge) (gd : Option (Nat × Bool)) (w : World) : (execOp ρ ⟨dst, .build 39 parts.toArray, t, pos, after, gd⟩).run Tryz.prog w = asNext (blRow Tryz.prog 39 (parts.map fun p => (p.1, ρ p.2)) w (fillL 24 (plOf zsN39) (cat zsN39) (parts.map fun p => (p.1, ρ p.2)))) := ex_build ρ dst t pos after gd w styN39 parts
theorem tyN39 : RowTy Tryz.prog 39 24 := ⟨⟨_, Tryz.underlying39, rfl⟩, by kernel_rfl⟩
theorem ldN39 (ρ : Operand → Value) (dst : Option Tmp) (x : Operand) (t : TypeId) (pos : String) (after : Array Edge) (gd : Option (Nat × Bool)) (w : World) : (execOp ρ ⟨dst, .load 39 x, t, pos, after, gd⟩).run Tryz.prog w = asNext (ldRow Tryz.prog 39 24 (ρ x) w) := ex_load ρ dst x t pos after gd w tyN39
theorem stN39 (ρ : Operand → Value) (dst : Option Tmp) (x y : Operand) (t : TypeId) (pos : String) (after : Array Edge) (gd : Option (Nat × Bool)) (w : World) : (execOp ρ ⟨dst, .store 39 x y, t, pos, after, gd⟩).run Tryz.prog w = asSkip (stRow Tryz.prog 39 24 (ρ x) (ρ y) w) := ex_store ρ dst x y t pos after gd w tyN39
set_option maxRecDepth 1000000 in
theorem alN39 (ρ : Operand → Value) (dst : Option Tmp) (t : TypeId) (pos : String) (after : Array Edge) (gd : Option (Nat × Bool)) (w : World) : (execOp ρ ⟨dst, .alloc 39, t, pos, after, gd⟩).run Tryz.prog w = .ok (.value (.pointer (some ⟨w.heap.size, 0, none⟩))) (w.alloc (.cells (cat zsN39).toArray 39)) := ex_alloc ρ dst t pos after gd w (fun _ => by kernel_rfl)
attribute [go_sem ↓] blN44 ldN44 stN44 alN44 blN39 ldN39 stN39 alN39
end Go.Proofs.YtikiciojfhfagaaGreat
namespace Go.Proofs.YtikiciojfhfagaaGreat
open Go.RowKit Go.Mun

theorem nmC_lit (n a b c d : Nat) (h0 : lim n 0 = a) (h1 : lim n 1 = b) (h2 : lim n 2 = c) (h3 : lim n 3 = d) : nmC n = [.int .u64 (a : Int), .int .u64 (b : Int), .int .u64 (c : Int), .int .u64 (d : Int)] := by
  subst h0 h1 h2 h3; rfl
theorem nmC_small (m : Nat) (h : m < 18446744073709551616) : nmC m = [.int .u64 (m : Int), .int .u64 0, .int .u64 0, .int .u64 0] := by
  refine nmC_lit m m 0 0 0 ?_ ?_ ?_ ?_ <;> unfold lim <;> omega
theorem nmC_neg (m n : Nat) (h : n = m + 115792089237316195423570985008687907853269984665640564039439137263839420088320) (hm : m < 18446744073709551616) :
    nmC n = [.int .u64 (m : Int), .int .u64 18446744073709551615, .int .u64 18446744073709551615, .int .u64 18446744073709551615] := by
  refine nmC_lit n m 18446744073709551615 18446744073709551615 18446744073709551615 ?_ ?_ ?_ ?_ <;> unfold lim <;> omega
theorem ex_stuck {P : Program} {ty : TypeId} (ρ : Operand → Value) (dst : Option Tmp) (parts : List (Nat × Operand)) (t : TypeId) (pos : String) (after : Array Edge) (gd : Option (Nat × Bool)) (w : World) : (execOp ρ ⟨dst, .build ty parts.toArray, t, pos, after, gd⟩).run P w = asNext (stuckBuild P ty (parts.map fun p => (p.1, ρ p.2)) w) := by
  unfold execOp stuckBuild
  simp only [Sem.run_bind, List.map_toArray]
  cases (Instr.build ty (parts.map fun p => (p.1, ρ p.2)).toArray).run P w <;> rfl
theorem bn1_ex (ρ : Operand → Value) (dst : Option Tmp) (x : Operand) (t : TypeId) (pos : String) (after : Array Edge) (gd : Option (Nat × Bool)) (w : World) : (execOp ρ ⟨dst, .build 151 #[(0, x)], t, pos, after, gd⟩).run Tryz.prog w = asNext (stuckBuild Tryz.prog 151 [(0, ρ x)] w) := ex_stuck ρ dst [(0, x)] t pos after gd w
theorem bn4_ex (ρ : Operand → Value) (dst : Option Tmp) (x x1 x2 x3 : Operand) (t : TypeId) (pos : String) (after : Array Edge) (gd : Option (Nat × Bool)) (w : World) : (execOp ρ ⟨dst, .build 151 #[(0, x), (1, x1), (2, x2), (3, x3)], t, pos, after, gd⟩).run Tryz.prog w = asNext (stuckBuild Tryz.prog 151 [(0, ρ x), (1, ρ x1), (2, ρ x2), (3, ρ x3)] w) := ex_stuck ρ dst [(0, x), (1, x1), (2, x2), (3, x3)] t pos after gd w
attribute [local go_sem ↓] bn1_ex bn4_ex
set_option maxRecDepth 100000 in
theorem build151a (m : Nat) (h : m < 18446744073709551616) (w : World) : stuckBuild Tryz.prog 151 [(0, .int .u64 (m : Int))] w = .ok (.agg (nmC m).toArray) w := by
  rw [nmC_small m h]; kernel_rfl
set_option maxRecDepth 100000 in
theorem build151b (m n : Nat) (h : n = m + 115792089237316195423570985008687907853269984665640564039439137263839420088320) (hm : m < 18446744073709551616) (w : World) :
    stuckBuild Tryz.prog 151 [(0, .int .u64 (m : Int)), (1, .int .u64 18446744073709551615), (2, .int .u64 18446744073709551615), (3, .int .u64 18446744073709551615)] w = .ok (.agg (nmC n).toArray) w := by
  rw [nmC_neg m n h hm]; kernel_rfl
set_option maxRecDepth 100000 in
theorem word_of (n : Int) (hn : -9223372036854775808 ≤ n) (hn' : n ≤ 9223372036854775807) (w : World) :
    Calls Tryz.prog 51 #[.int .i64 n] w fun e w' => e = .returned (.agg (beC 32 (ofW n)).toArray) ∧ Below w.heap.size w w' := by
  obtain ⟨w0, e0⟩ : ∃ w0, w0 = (w.alloc (.cells (zU8 32).toArray 25)).alloc (.cells (zU64 4).toArray 151) := ⟨_, rfl⟩
  have hb0 : Below w.heap.size w w0 := by rw [e0]; exact ((Below.refl _ _).alloc (Nat.le_refl _) _).alloc (by simp) _
  have f0 : w0.free? w.heap.size 0 32 = true := by rw [e0]; simp [go_sem]
  have hz : Arr w0 (w.heap.size + 1) 4 (zU64 4) := by
    rw [e0]; have := Arr.new (w.alloc (.cells (zU8 32).toArray 25)) 4 (zU64 4) 151 rfl
    simpa using this
  have HE := Lib.hid e0
  have HB := Lib.hid hb0
  have HF := Lib.hid f0
  obtain ⟨m, hm⟩ : ∃ m : Nat, IntKind.u64.wrap n = (m : Int) := ⟨(IntKind.u64.wrap n).toNat, by rw [IntKind.wrap_u64]; omega⟩
  have hml : m < 18446744073709551616 := by rw [IntKind.wrap_u64] at hm; omega
  have kb := build151a m hml
  by_cases h : n < 0
  · obtain ⟨M, hM⟩ : ∃ M : Nat, M = ofW n := ⟨_, rfl⟩
    have hMm : M = m + 115792089237316195423570985008687907853269984665640564039439137263839420088320 := by
      rw [IntKind.wrap_u64] at hm; rw [hM]; unfold ofW; omega
    have kb2 := build151b m M hMm hml
    have hok := nmC_ok m
    have hz2 : Arr (w0.setCells (w.heap.size + 1) 0 (nmC m)) (w.heap.size + 1) 4 (nmC m) := hz.setCells _ (nmC_ok m)
    have f1 := hz.free
    have f2 := hz2.free
    have hz3 : Arr ((w0.setCells (w.heap.size + 1) 0 (nmC m)).setCells (w.heap.size + 1) 0 (nmC M)) (w.heap.size + 1) 4 (nmC M) := hz2.setCells _ (nmC_ok M)
    have r3 := hz3.row
    have hok2 := nmC_ok M
    rw [← hM]
    have HN := Lib.hid hMm
    clear hMm hM hb0 f0 hz hz2 hz3
    rw [e0] at f1 f2 r3
    clear e0
    go_enter Tryz.func51, Tryz.ntmps51
    go_wp2_with fail
    refine (num_word M _).mono ?_
    rintro e w1 ⟨rfl, hb⟩
    rw [← HE.out] at hb
    have hw : Below w.heap.size w ((w0.setCells (w.heap.size + 1) 0 (nmC m)).setCells (w.heap.size + 1) 0 (nmC M)) := (HB.out.setCells (by omega) _ _).setCells (by omega) _ _
    have f5 : ((w0.setCells (w.heap.size + 1) 0 (nmC m)).setCells (w.heap.size + 1) 0 (nmC M)).free? w.heap.size 0 32 = true := by
      have ho : Only (· = w.heap.size + 1) w0 ((w0.setCells (w.heap.size + 1) 0 (nmC m)).setCells (w.heap.size + 1) 0 (nmC M)) := ((Only.refl (· = w.heap.size + 1) _).setCells (fun _ => rfl) _ _).setCells (fun _ => rfl) _ _
      rw [ho.free? (free?_lt HF.out) (by omega)]; exact HF.out
    have f6 : w1.free? w.heap.size 0 32 = true := by rw [(brow hb).2 _ _ _ (free?_lt f5)]; exact f5
    have hbe := beC_ok 32 M
    have HBX := Lib.hid (hw.trans (hb.mono hw.size))
    clear hb hw f5 r3 f1 f2
    go_wp2
    exact ret_row ty25 rfl _ rfl rfl f6 hbe ⟨rfl, HBX.out.setCells (by omega) _ _⟩
  · have hMm : ofW n = m := by
      rw [IntKind.wrap_u64] at hm; unfold ofW; omega
    have hok := nmC_ok m
    have hz2 : Arr (w0.setCells (w.heap.size + 1) 0 (nmC m)) (w.heap.size + 1) 4 (nmC m) := hz.setCells _ (nmC_ok m)
    have f1 := hz.free
    have r3 := hz2.row
    rw [hMm]
    clear hMm hb0 f0 hz hz2
    rw [e0] at f1 r3
    clear e0
    go_enter Tryz.func51, Tryz.ntmps51
    go_wp2_with fail
    refine (num_word m _).mono ?_
    rintro e w1 ⟨rfl, hb⟩
    rw [← HE.out] at hb
    have hw : Below w.heap.size w (w0.setCells (w.heap.size + 1) 0 (nmC m)) := HB.out.setCells (by omega) _ _
    have f5 : (w0.setCells (w.heap.size + 1) 0 (nmC m)).free? w.heap.size 0 32 = true := by
      have ho : Only (· = w.heap.size + 1) w0 (w0.setCells (w.heap.size + 1) 0 (nmC m)) := (Only.refl (· = w.heap.size + 1) _).setCells (fun _ => rfl) _ _
      rw [ho.free? (free?_lt HF.out) (by omega)]; exact HF.out
    have f6 : w1.free? w.heap.size 0 32 = true := by rw [(brow hb).2 _ _ _ (free?_lt f5)]; exact f5
    have hbe := beC_ok 32 m
    have HBX := Lib.hid (hw.trans (hb.mono hw.size))
    clear hb hw f5 r3 f1
    go_wp2
    exact ret_row ty25 rfl _ rfl rfl f6 hbe ⟨rfl, HBX.out.setCells (by omega) _ _⟩
end Go.Proofs.YtikiciojfhfagaaGreat
