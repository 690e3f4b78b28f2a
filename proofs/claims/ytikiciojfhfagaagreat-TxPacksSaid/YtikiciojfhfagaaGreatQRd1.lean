/-
  Reading items, in plain Lean: what bytes are as an item, so far as a transaction asks.
  Reading items: a head's length.
  Reading items: how what is read lies in memory.
  Reading items: contract of the program's reader.
  Reading items: bytes.
  Reading items: lists that are too deep; errors; rules for rows of items.
  Reading items: lists; the program's reader.
-/
import Derived.Test.YtikiciojfhfagaaGreatQEv16
import Derived.OwnWalk
import Derived.Test.YtikiciojfhfagaaGreatQRlp2
import Derived.Test.YtikiciojfhfagaaGreatQEv1
set_option linter.unusedVariables false
set_option linter.unusedSimpArgs false
namespace Go.Mun
open Go.RowKit

/-- What is read: bytes, or a list; of a list's items the bytes of those that are bytes. -/
inductive Top where
  | bytes (l : Bts)
  | list (ks : List (Option Bts))
def Top.kid : Top → Option Bts
  | .bytes l => some l
  | .list _ => none
inductive RdR where
  | err (e : Nat)
  | ok (t : Top) (n : Nat)
/-- An item's head: how many bytes it has, how many are behind it. -/
def hdR (b : Bts) : Option (Nat × Nat) :=
  if (b[0]?.getD 0 % 64).toNat ≤ 55 then (if (b[0]?.getD 0 % 64).toNat + 1 ≤ b.length then some (1, (b[0]?.getD 0 % 64).toNat) else none)
  else if b.length < 1 + ((b[0]?.getD 0 % 64).toNat - 55) ∨ b[1]?.getD 0 = 0 then none
  else if beN ((b.drop 1).take ((b[0]?.getD 0 % 64).toNat - 55)) ≤ 55 ∨ b.length < 1 + ((b[0]?.getD 0 % 64).toNat - 55) + beN ((b.drop 1).take ((b[0]?.getD 0 % 64).toNat - 55)) then none
  else some (1 + ((b[0]?.getD 0 % 64).toNat - 55), beN ((b.drop 1).take ((b[0]?.getD 0 % 64).toNat - 55)))
theorem hdR_le {b : Bts} {h n : Nat} (e : hdR b = some (h, n)) : 1 ≤ h ∧ h + n ≤ b.length := by
  unfold hdR at e
  split at e
  · split at e
    · cases e; omega
    · cases e
  · split at e
    · cases e
    · split at e
      · cases e
      · cases e; omega
/-- The items of a list's bytes, one by one. -/
def rdsF (g : Bts → RdR) : Nat → Bts → Nat ⊕ List (Option Bts)
  | 0, _ => .inl 0
  | m + 1, x => if x = [] then .inr [] else match g x with
    | .err e => .inl e
    | .ok t k => match rdsF g m (x.drop k) with
      | .inl e => .inl e
      | .inr l => .inr (t.kid :: l)
def rdB (b : Bts) : RdR := match hdR b with
  | none => .err 4
  | some (h, n) => if n = 1 ∧ b[h]?.getD 0 < 128 then .err 4 else .ok (.bytes ((b.drop h).take n)) (h + n)
def rdL (g : Bts → RdR) (b : Bts) : RdR := match hdR b with
  | none => .err 4
  | some (h, n) => match rdsF g (n + 1) ((b.drop h).take n) with
    | .inl e => .err e
    | .inr ks => .ok (.list ks) (h + n)
def rd1 (lst : Bts → RdR) (b : Bts) : RdR :=
  if b = [] then .err 4
  else if b[0]?.getD 0 < 128 then .ok (.bytes [b[0]?.getD 0]) 1
  else if b[0]?.getD 0 < 192 then rdB b
  else lst b
/-- The item that bytes begin with, lists so deep at most. -/
def rdT : Nat → Bts → RdR
  | 0, b => rd1 (fun _ => .err 3) b
  | d + 1, b => rd1 (rdL (rdT d)) b
/-- A reader takes a byte at least, and none beyond the end. -/
def Reads (g : Bts → RdR) : Prop := ∀ x t k, g x = .ok t k → 1 ≤ k ∧ k ≤ x.length
theorem rd1_reads {lst : Bts → RdR} (h : Reads lst) : Reads (rd1 lst) := by
  intro x t k e
  unfold rd1 at e
  split at e
  · cases e
  · rename_i hne
    have hl : 0 < x.length := List.length_pos_iff.2 hne
    split at e
    · cases e; omega
    · split at e
      · unfold rdB at e
        split at e
        · cases e
        · rename_i hh nn eh
          have := hdR_le eh
          split at e
          · cases e
          · cases e; omega
      · exact h x t k e
theorem rdL_reads (g : Bts → RdR) : Reads (rdL g) := by
  intro x t k e
  unfold rdL at e
  split at e
  · cases e
  · rename_i hh nn eh
    have := hdR_le eh
    split at e
    · cases e
    · cases e; omega
theorem rdT_reads : ∀ d, Reads (rdT d)
  | 0 => rd1_reads (fun x t k e => by cases e)
  | d + 1 => rd1_reads (rdL_reads _)
/-- Enough steps are enough. -/
theorem rdsF_more {g : Bts → RdR} (hg : Reads g) : ∀ (n : Nat) (x : Bts) (m k : Nat), x.length ≤ n → x.length + 1 ≤ m → x.length + 1 ≤ k → rdsF g m x = rdsF g k x
  | n, x, m + 1, k + 1, hn, hm, hk => by
    unfold rdsF
    split
    · rfl
    · rename_i hne
      have hl : 0 < x.length := List.length_pos_iff.2 hne
      cases e : g x with
      | err y => rfl
      | ok t j =>
        have := hg x t j e
        cases n with
        | zero => omega
        | succ n =>
          simp only
          rw [rdsF_more hg n (x.drop j) m k (by rw [List.length_drop]; omega) (by rw [List.length_drop]; omega) (by rw [List.length_drop]; omega)]
  | _, _, 0, _, _, hm, _ => by omega
  | _, _, _ + 1, 0, _, _, hk => by omega
/-- The items of a list's bytes. -/
def rds (g : Bts → RdR) (x : Bts) : Nat ⊕ List (Option Bts) := rdsF g (x.length + 1) x
theorem rds_nil (g : Bts → RdR) : rds g [] = .inr [] := rfl
theorem rds_err {g : Bts → RdR} {x : Bts} {e : Nat} (hx : x ≠ []) (h : g x = .err e) : rds g x = .inl e := by
  unfold rds rdsF
  rw [if_neg hx, h]
theorem rds_ok {g : Bts → RdR} (hg : Reads g) {x : Bts} {t : Top} {k : Nat} (hx : x ≠ []) (h : g x = .ok t k) :
    rds g x = match rds g (x.drop k) with | .inl e => .inl e | .inr l => .inr (t.kid :: l) := by
  have hk := hg x t k h
  have e : rdsF g x.length (x.drop k) = rds g (x.drop k) := by
    unfold rds
    exact rdsF_more hg x.length _ _ _ (by rw [List.length_drop]; omega) (by rw [List.length_drop]; omega) (Nat.le_refl _)
  rw [← e]
  conv => lhs; unfold rds rdsF
  rw [if_neg hx, h]
theorem rdL_eq (g : Bts → RdR) (b : Bts) : rdL g b = match hdR b with
    | none => .err 4
    | some (h, n) => match rds g ((b.drop h).take n) with
      | .inl e => .err e
      | .inr ks => .ok (.list ks) (h + n) := by
  unfold rdL
  cases e : hdR b with
  | none => rfl
  | some p =>
    obtain ⟨h, n⟩ := p
    have := hdR_le e
    have hl : ((b.drop h).take n).length = n := by rw [List.length_take, List.length_drop]; omega
    simp only
    unfold rds
    rw [hl]
end Go.Mun
namespace Go.Proofs.YtikiciojfhfagaaGreat
open Go.RowKit Go.Mun

theorem i64_or_nat (a b : Nat) (ha : a < 9223372036854775808) (hb : b < 9223372036854775808) : bits .or .i64 (a : Int) (b : Int) = ((a ||| b : Nat) : Int) := by
  have h1 : ((BitVec.ofInt 64 (a : Int)) ||| (BitVec.ofInt 64 (b : Int))).toNat = a ||| b := by
    rw [BitVec.toNat_or, BitVec.toNat_ofInt, BitVec.toNat_ofInt]
    congr 1 <;> omega
  have h2 : a ||| b < 2 ^ 63 := Nat.or_lt_two_pow (by omega) (by omega)
  show IntKind.i64.wrap (((BitVec.ofInt 64 (a : Int)) ||| (BitVec.ofInt 64 (b : Int))).toNat : Int) = _
  rw [h1, wrI _ (by omega) (by omega)]
theorem or_byte (n x : Nat) (hx : x < 256) : n * 256 ||| x = n * 256 + x := by
  have := Nat.two_pow_add_eq_or_of_lt (i := 8) (b := x) (by simpa using hx) n
  rw [Nat.mul_comm]
  simpa using this.symm
theorem i64_or_byte (n x : Nat) (hn : n < 1099511627776) (hx : x < 256) : bits .or .i64 ((n : Int) * 256) (x : Int) = ((n * 256 + x : Nat) : Int) := by
  have := i64_or_nat (n * 256) x (by omega) (by omega)
  rw [or_byte n x hx] at this
  rw [← this]
  congr 1
theorem beN_snoc : ∀ (l : Bts) (x : Int), beN (l ++ [x]) = beN l * 256 + x.toNat
  | [], x => by simp [beN]
  | y :: l, x => by
    show y.toNat * 256 ^ (l ++ [x]).length + beN (l ++ [x]) = (y.toNat * 256 ^ l.length + beN l) * 256 + x.toNat
    rw [beN_snoc l x, List.length_append, show l.length + [x].length = l.length + 1 from rfl, Nat.pow_succ, Nat.add_mul, Nat.mul_assoc]
    omega
theorem beN_take (l : Bts) (i : Nat) (h : i < l.length) : beN (l.take (i + 1)) = beN (l.take i) * 256 + (l[i]?.getD 0).toNat := by
  rw [List.take_succ_eq_append_getElem h, beN_snoc, List.getElem?_eq_getElem h]; rfl
theorem beN_take_le (l : Bts) (hb : Byt l) : ∀ i j, i ≤ j → beN (l.take i) ≤ beN (l.take j)
  | i, j, h => by
    induction j with
    | zero => have : i = 0 := by omega
              subst this; exact Nat.le_refl _
    | succ j ih =>
      by_cases e : i = j + 1
      · subst e; exact Nat.le_refl _
      · refine Nat.le_trans (ih (by omega)) ?_
        by_cases hj : j < l.length
        · rw [beN_take l j hj]; omega
        · rw [List.take_of_length_le (by omega), List.take_of_length_le (by omega)]; exact Nat.le_refl _
/-- What a head's length is answered with. -/
def LenIs (L : Bts) (e : Ending) : Prop := match hdR L with
  | none => ∃ x y : Int, e = .returned (.tuple #[.int .i64 x, .int .i64 y, .bool false])
  | some (h, m) => e = .returned (.tuple #[.int .i64 h, .int .i64 m, .bool true])
theorem lenIs_none {L : Bts} (h : hdR L = none) (x y : Int) : LenIs L (.returned (.tuple #[.int .i64 x, .int .i64 y, .bool false])) := by
  unfold LenIs; rw [h]; exact ⟨x, y, rfl⟩
theorem lenIs_some {L : Bts} {p m : Nat} (h : hdR L = some (p, m)) : LenIs L (.returned (.tuple #[.int .i64 p, .int .i64 m, .bool true])) := by
  unfold LenIs; rw [h]
set_option maxRecDepth 100000 in
set_option maxHeartbeats 1000000 in
theorem rlp_length (base : Nat) (hb : base = 128 ∨ base = 192) (a : Option Addr) (c : Nat) (L : Bts) (w : World) (hI : Ints w .u8 a c L) (hby : Byt L) (hne : 0 < L.length) (hlen : L.length ≤ 16777216) (h0 : (base : Int) ≤ L[0]?.getD 0 ∧ L[0]?.getD 0 < (base : Int) + 64) :
    Calls Tryz.prog 173 #[.slice a L.length c, .int .i64 base] w fun e w' => LenIs L e ∧ w' = w := by
  obtain ⟨k, hk⟩ : ∃ k : Nat, L[0]?.getD 0 = (base : Int) + k := ⟨(L[0]?.getD 0 - (base : Int)).toNat, by omega⟩
  have hk64 : k < 64 := by omega
  have hmod : (L[0]?.getD 0 % 64).toNat = k := by rw [hk]; omega
  have hH : hdR L = if k ≤ 55 then (if k + 1 ≤ L.length then some (1, k) else none) else if L.length < 1 + (k - 55) ∨ L[1]?.getD 0 = 0 then none
      else if beN ((L.drop 1).take (k - 55)) ≤ 55 ∨ L.length < 1 + (k - 55) + beN ((L.drop 1).take (k - 55)) then none else some (1 + (k - 55), beN ((L.drop 1).take (k - 55))) := by
    unfold hdR; rw [hmod]
  have HH := Lib.hid hH
  obtain ⟨b, off, rfl, hbl, hc⟩ := hI.at hne
  have hcc := hI.len
  have HC := Lib.hid hc
  have HBY := Lib.hid hby
  have c0 := hc 0 hne
  rw [hk, Nat.add_zero] at c0
  have w0 : IntKind.i64.wrap ((base : Int) + k - base) = (k : Int) := by rw [wrI _ (by omega) (by omega)]; omega
  have w0' : IntKind.i64.wrap ((base : Int) + (k : Int)) = (base : Int) + k := wrI _ (by omega) (by omega)
  have w1 : IntKind.i64.wrap ((L.length : Int) - 1) = (L.length : Int) - 1 := wrI _ (by omega) (by omega)
  have HL : Hid (0 < L.length ∧ L.length ≤ 16777216 ∧ L.length ≤ c ∧ k < 64) := ⟨hne, hlen, hcc, hk64⟩
  clear hI hby hc hH hmod h0 hb
  by_cases h55 : k ≤ 55
  · have d1 : decide ((k : Int) ≤ 55) = true := decide_eq_true (by omega)
    by_cases hf : k + 1 ≤ L.length
    · have d2 : decide ((k : Int) ≤ (L.length : Int) - 1) = true := decide_eq_true (by omega)
      have hr := lenIs_some (L := L) (p := 1) (m := k) (by rw [HH.out, if_pos h55, if_pos hf])
      have HR := Lib.hid hr
      have HF := Lib.hid hf
      clear hr hk hf hlen hcc hk64 h55
      go_enter Tryz.func173, Tryz.ntmps173
      go_wp2
      go_ret3
      exact ⟨HR.out, rfl⟩
    · have d2 : decide ((k : Int) ≤ (L.length : Int) - 1) = false := decide_eq_false (by omega)
      have hr := lenIs_none (L := L) (by rw [HH.out, if_pos h55, if_neg hf]) 1 k
      have HR := Lib.hid hr
      clear hr hk hf hlen hcc hk64 h55
      go_enter Tryz.func173, Tryz.ntmps173
      go_wp2
      go_ret3
      exact ⟨HR.out, rfl⟩
  · obtain ⟨j, hj⟩ : ∃ j, j = k - 55 := ⟨_, rfl⟩
    have HH2 : Hid (hdR L = if L.length < 1 + j ∨ L[1]?.getD 0 = 0 then none else if beN ((L.drop 1).take j) ≤ 55 ∨ L.length < 1 + j + beN ((L.drop 1).take j) then none else some (1 + j, beN ((L.drop 1).take j))) := by
      show hdR L = _
      rw [HH.out, if_neg h55, ← hj]
    have d1 : decide ((k : Int) ≤ 55) = false := decide_eq_false (by omega)
    have w2 : IntKind.i64.wrap ((k : Int) - 55) = (j : Int) := by rw [wrI _ (by omega) (by omega)]; omega
    have w3 : IntKind.i64.wrap (1 + (j : Int)) = 1 + (j : Int) := wrI _ (by omega) (by omega)
    have hj1 : 1 ≤ j ∧ j ≤ 8 := by omega
    have HJ := Lib.hid hj1
    clear hk hj h55 hk64 hj1 hlen hcc
    by_cases hs : L.length < 1 + j
    · have d2 : decide ((L.length : Int) < 1 + (j : Int)) = true := decide_eq_true (by omega)
      have hr := lenIs_none (L := L) (by rw [HH2.out, if_pos (Or.inl hs)]) 0 0
      have HR := Lib.hid hr
      clear hr hs
      go_enter Tryz.func173, Tryz.ntmps173
      go_wp2
      go_ret3
      exact ⟨HR.out, rfl⟩
    have d2 : decide ((L.length : Int) < 1 + (j : Int)) = false := decide_eq_false (by omega)
    have hl1 : 1 < L.length := by have := HJ.out; omega
    have c1 := HC.out 1 hl1
    have HS := Lib.hid hs
    clear hs
    obtain ⟨z1, hz1⟩ : ∃ z1, L[1]?.getD 0 = z1 := ⟨_, rfl⟩
    rw [hz1] at c1
    have HZ1 := Lib.hid hz1
    clear hz1
    by_cases hz : z1 = 0
    · have hr := lenIs_none (L := L) (by rw [HH2.out, if_pos (Or.inr (HZ1.out.trans hz))]) 0 0
      have HR := Lib.hid hr
      rw [hz] at c1
      clear hr hz
      go_enter Tryz.func173, Tryz.ntmps173
      go_wp2
      go_ret3
      exact ⟨HR.out, rfl⟩
    have hzb : (z1 == 0) = false := by simpa using hz
    have HH3 : Hid (hdR L = if beN ((L.drop 1).take j) ≤ 55 ∨ L.length < 1 + j + beN ((L.drop 1).take j) then none else some (1 + j, beN ((L.drop 1).take j))) := by
      show hdR L = _
      rw [HH2.out, if_neg (fun h => h.elim HS.out (fun h => hz (HZ1.out.symm.trans h)))]
    have sl := slice26 b off 1 (1 + j) L.length c (by omega) (by have := HS.out; have := HL.out; omega) (by have := HS.out; have := HL.out; have := HJ.out; omega)
    have e1 : 1 + j - 1 = j := by omega
    rw [e1, show ((1 + j : Nat) : Int) = 1 + (j : Int) by omega, show ((1 : Nat) : Int) = 1 from rfl] at sl
    have hcb : ∀ q : Nat, q < j → w.cell? ⟨b, off + 1 + q, none⟩ = some (.int .u8 ((L.drop 1)[q]?.getD 0)) := by
      intro q hq
      have := HC.out (1 + q) (by have := HS.out; omega)
      rw [List.getElem?_drop]
      rw [show off + 1 + q = off + (1 + q) by omega]; exact this
    have HCB := Lib.hid hcb
    have hbt : ∀ q : Nat, 0 ≤ (L.drop 1)[q]?.getD 0 ∧ (L.drop 1)[q]?.getD 0 < 256 := by
      intro q
      rw [List.getElem?_drop]
      rcases Nat.lt_or_ge (1 + q) L.length with h | h
      · rw [List.getElem?_eq_getElem h]; exact HBY.out _ (List.getElem_mem _)
      · rw [List.getElem?_eq_none h]; exact ⟨by decide, by decide⟩
    have HBT := Lib.hid hbt
    have hmono : ∀ q : Nat, q ≤ j → beN ((L.drop 1).take q) ≤ beN ((L.drop 1).take j) := fun q hq => beN_take_le _ (fun x hx => HBY.out x (List.mem_of_mem_drop hx)) q j hq
    have HMO := Lib.hid hmono
    have hstep : ∀ q : Nat, q < j → beN ((L.drop 1).take (q + 1)) = beN ((L.drop 1).take q) * 256 + ((L.drop 1)[q]?.getD 0).toNat := fun q hq => beN_take (L.drop 1) q (by rw [List.length_drop]; have := HS.out; omega)
    have HST := Lib.hid hstep
    generalize hB : (fun q => beN ((L.drop 1).take q)) = B at *
    have hBq : ∀ q, beN ((L.drop 1).take q) = B q := fun q => by rw [← hB]
    have HBQ := Lib.hid hBq
    have hB0 : B 0 = 0 := by rw [← hB]; rfl
    have HB0 := Lib.hid hB0
    clear hcb hbt hmono hstep hB hBq hB0 hz e1
    go_enter Tryz.func173, Tryz.ntmps173
    go_wp2
    go_loopw [5, 42] (fun v i wr => ∃ q : Nat, q ≤ j ∧ i = .int .i64 q ∧ v = .int .i64 (B q : Nat) ∧ B q ≤ 16777216 ∧ wr = w) (fun _ i _ => j - (intOf i).toNat)
    case atStart => exact ⟨0, by omega, rfl, by rw [HB0.out]; rfl, by rw [HB0.out]; omega, rfl⟩
    case round =>
      obtain ⟨q, hq, rfl, rfl, hle, rfl⟩ := hrel
      by_cases hlt : q < j
      · have hq8 : q < 8 := by have := HJ.out; omega
        have ck := HCB.out q hlt
        have hst := HST.out q hlt
        rw [HBQ.out, HBQ.out] at hst
        obtain ⟨x, hx⟩ : ∃ x : Nat, (L.drop 1)[q]?.getD 0 = x := ⟨((L.drop 1)[q]?.getD 0).toNat, by have := HBT.out q; omega⟩
        have hx256 : x < 256 := by have := HBT.out q; omega
        rw [hx] at ck hst
        have hor := i64_or_byte (B q) x (by omega) hx256
        have hw : IntKind.i64.wrap ((B q : Int) * 256) = (B q : Int) * 256 := wrI _ (by omega) (by omega)
        have hxw : IntKind.i64.wrap (x : Int) = x := wrI _ (by omega) (by omega)
        rw [Int.toNat_natCast] at hst
        rw [← hst] at hor
        have HST2 := Lib.hid hst
        clear hst hx
        by_cases hbig : 16777216 < B (q + 1)
        · have d3 : decide ((16777216 : Int) < ((B (q + 1) : Nat) : Int)) = true := decide_eq_true (by omega)
          have hr := lenIs_none (L := L) (by
            have h1 := HMO.out (q + 1) (by omega)
            rw [HBQ.out, HBQ.out] at h1
            rw [HH3.out, HBQ.out, if_pos (Or.inr (by have := HL.out; omega))]) 0 0
          have HR := Lib.hid hr
          clear hr hbig
          go_wp2
          go_ret3
          exact ⟨HR.out, rfl⟩
        · have d3 : decide ((16777216 : Int) < ((B (q + 1) : Nat) : Int)) = false := decide_eq_false (by omega)
          have HBG := Lib.hid hbig
          clear hbig
          go_wp2
          go_roundw
          case rel => exact ⟨q + 1, by omega, by go_num, rfl, by have := HBG.out; omega, trivial⟩
          case measure => simp [intOf]; omega
      · have hqj : q = j := by omega
        subst hqj
        have w5 : IntKind.i64.wrap ((L.length : Int) - 1 - (q : Int)) = (L.length : Int) - 1 - q := wrI _ (by have := HL.out; have := HJ.out; omega) (by have := HL.out; have := HJ.out; omega)
        by_cases hn : B q ≤ 55
        · have d3 : decide ((55 : Int) < ((B q : Nat) : Int)) = false := decide_eq_false (by omega)
          have hr := lenIs_none (L := L) (by rw [HH3.out, HBQ.out, if_pos (Or.inl hn)]) (1 + q : Nat) (B q : Nat)
          have HR := Lib.hid hr
          clear hr hn hle
          go_wp2
          go_ret3
          exact ⟨HR.out, rfl⟩
        · have d3 : decide ((55 : Int) < ((B q : Nat) : Int)) = true := decide_eq_true (by omega)
          by_cases hf : L.length < 1 + q + B q
          · have d4 : decide ((B q : Int) ≤ (L.length : Int) - 1 - q) = false := decide_eq_false (by omega)
            have hr := lenIs_none (L := L) (by rw [HH3.out, HBQ.out, if_pos (Or.inr hf)]) (1 + q : Nat) (B q : Nat)
            have HR := Lib.hid hr
            clear hr hn hle hf
            go_wp2
            go_ret3
            exact ⟨HR.out, rfl⟩
          · have d4 : decide ((B q : Int) ≤ (L.length : Int) - 1 - q) = true := decide_eq_true (by omega)
            have hr := lenIs_some (L := L) (p := 1 + q) (m := B q) (by rw [HH3.out, HBQ.out, if_neg (by omega)])
            have HR := Lib.hid hr
            clear hr hn hle hf
            go_wp2
            go_ret3
            exact ⟨HR.out, rfl⟩
end Go.Proofs.YtikiciojfhfagaaGreat
namespace Go.Proofs.YtikiciojfhfagaaGreat
open Go.RowKit Go.Mun

set_option maxRecDepth 100000 in
theorem slices_clone (a : Option Addr) (n c : Nat) (l : List Int) (hn : n = l.length) (hn2 : n ≤ 70000000000000) (w : World) (hI : Ints w .u8 a c l) :
    Calls Tryz.prog 59 #[.slice a n c] w fun e w' => ∃ v, e = .returned v ∧ NewB w w' v l := by
  cases a with
  | none =>
    have hc := hI.nil rfl
    have hl := hI.len
    subst hc
    have : l = [] := List.eq_nil_of_length_eq_zero (by omega)
    subst this
    subst hn
    have hq := slice_nil' w
    go_enter Tryz.func59, Tryz.ntmps59
    go_wp2
    go_ret
    exact ⟨_, rfl, ⟨none, 0, rfl, ⟨fun h => absurd rfl h, fun _ => rfl, Nat.le_refl _, Nat.zero_le _⟩, fun p hp => by cases hp⟩, Below.refl _ _⟩
  | some p =>
    have HI := Lib.hid hI
    have HN := Lib.hid hn
    have hq := slice_nil n c p w
    have hm : n ≤ maxLen := by unfold maxLen; omega
    have hs := HI.out.below ((Below.refl _ _).alloc (Nat.le_refl _) (.cells #[] 5))
    have HS := Lib.hid (SrcAt.ints hs)
    have HO : Hid ((w.alloc (.cells #[] 5)).ownsRow w.heap.size 5 1 (.slice (some ⟨w.heap.size, 0, none⟩) 0 0) 0 []) := World.ownsRow_lit (e := 5) (size := 1) w #[] 0 (Nat.le_refl _) (by decide) rfl
    clear hI hn hs
    go_enter Tryz.func59, Tryz.ntmps59
    go_wp2_with (at_builtin; go_must (refine wpList_append_intsN (base := w.heap.size) (n := 0) (xs := []) elem26 rfl _ _ rfl HO.out rfl rfl HN.out (HI.out.below ((Below.refl _ _).alloc (Nat.le_refl _) (.cells #[] 5))) ?c3 ?c4 ?c5 ?_))
    case c3 => omega
    case c4 => omega
    case c5 => simp
    intro v3 w3 ho3 hg3
    have H3 : Hid (OwnB w w3 v3 l) := by
      refine ⟨?_, ((Below.refl _ _).alloc (Nat.le_refl _) _).grown hg3 (by simp) (fun k hk => by simp [Value.ownBlock] at hk; omega)⟩
      rw [← HN.out]; exact ho3
    clear ho3 hg3
    go_wp2
    go_ret
    exact ⟨_, rfl, H3.out.new⟩

/-- A function that hands back an array or struct, which lies in a block of its own, and two values beside it. -/
theorem ret_row3 {P : Program} {fn : Func} {R : Ending → World → Prop} {a : Act} {w : World} {p q q2 ty n b : Nat} (hT : RowTy P ty n) (hres : fn.results = #[.cell p ty, .tmp q, .tmp q2]) (L : List Value) (x y : Value)
    (hp : a.tmps.getD p undef = .pointer (some ⟨b, 0, none⟩)) (hq : a.tmps.getD q undef = x) (hq2 : a.tmps.getD q2 undef = y) (hd : a.defers = []) (hr : w.row? b 0 n = some L) (hR : R (.returned (.tuple #[.agg L.toArray, x, y])) w) :
    bodyPost P fn R .ret a w := by
  refine ⟨hd, _, ?_, hR⟩
  obtain ⟨d, hu, hd⟩ := hT.desc
  have hp' : a.tmps[p]?.getD undef = .pointer (some ⟨b, 0, none⟩) := by simpa using hp
  have hq' : a.tmps[q]?.getD undef = x := by simpa using hq
  have hq2' : a.tmps[q2]?.getD undef = y := by simpa using hq2
  simp [results, hres, hp', hq', hq2', asAddr, run_loadVar_mid w b 0 ty L d (World.row?_rangeAt hr) hu hd (by rw [World.row?_len hr]; exact hT.size)]
/-- An item as it lies in memory, so far as its own bytes. -/
def KidAt (w : World) (R : Nat → Prop) (cs : List Value) : Option Bts → Prop
  | some l => ∃ a c, cs = [.bool false, .slice a l.length c, .slice none 0 0] ∧ Ints w .u8 a c l ∧ (l ≠ [] → ∀ p, a = some p → R p.block) ∧ Byt l
  | none => ∃ a n c, cs = [.bool true, .slice none 0 0, .slice a n c]
theorem KidAt.len {w : World} {R : Nat → Prop} {cs : List Value} {k : Option Bts} (h : KidAt w R cs k) : cs.length = 3 := by
  cases k with
  | none => obtain ⟨a, n, c, rfl⟩ := h; rfl
  | some l => obtain ⟨a, c, rfl, _⟩ := h; rfl
theorem KidAt.ok {w : World} {R : Nat → Prop} {cs : List Value} {k : Option Bts} (h : KidAt w R cs k) : okL 3 cs = true := by
  cases k with
  | none => obtain ⟨a, n, c, rfl⟩ := h; rfl
  | some l => obtain ⟨a, c, rfl, _⟩ := h; rfl
theorem KidAt.only {w w' : World} {R R' X : Nat → Prop} {cs : List Value} {k : Option Bts} (h : KidAt w R cs k) (ho : Only X w w') (hX : ∀ b, b < w.heap.size → R b → ¬ X b) (hR : ∀ b, b < w.heap.size → R b → R' b) : KidAt w' R' cs k := by
  cases k with
  | none => exact h
  | some l =>
    obtain ⟨a, c, rfl, hi, hr, hb⟩ := h
    refine ⟨a, c, rfl, ⟨fun hn => ?_, hi.nil, hi.len, hi.cap⟩, fun hn p hp => ?_, hb⟩
    · obtain ⟨b, off, ha, hlt, hc⟩ := hi.at (i := 0) (List.length_pos_iff.2 hn)
      exact ⟨b, off, ha, fun i hi => by rw [ho.cell? hlt (hX b hlt (hr hn _ ha))]; exact hc i hi⟩
    · obtain ⟨b, off, ha, hlt, hc⟩ := hi.at (i := 0) (List.length_pos_iff.2 hn)
      rw [ha] at hp; cases hp
      exact hR _ hlt (hr hn _ ha)
/-- Items in a row. -/
def KidsAt (w : World) (R : Nat → Prop) : List (List Value) → List (Option Bts) → Prop
  | [], [] => True
  | cs :: css, k :: ks => KidAt w R cs k ∧ KidsAt w R css ks
  | _, _ => False
theorem KidsAt.only {w w' : World} {R R' X : Nat → Prop} : ∀ {css : List (List Value)} {ks : List (Option Bts)}, KidsAt w R css ks → Only X w w' → (∀ b, b < w.heap.size → R b → ¬ X b) → (∀ b, b < w.heap.size → R b → R' b) → KidsAt w' R' css ks
  | [], [], _, _, _, _ => trivial
  | _ :: _, _ :: _, h, ho, hX, hR => ⟨h.1.only ho hX hR, KidsAt.only h.2 ho hX hR⟩
  | [], _ :: _, h, _, _, _ => h.elim
  | _ :: _, [], h, _, _, _ => h.elim
theorem KidsAt.snoc {w : World} {R : Nat → Prop} {cs : List Value} {k : Option Bts} : ∀ {css : List (List Value)} {ks : List (Option Bts)}, KidsAt w R css ks → KidAt w R cs k → KidsAt w R (css ++ [cs]) (ks ++ [k])
  | [], [], _, h => ⟨h, trivial⟩
  | _ :: _, _ :: _, h, h1 => ⟨h.1, KidsAt.snoc h.2 h1⟩
  | [], _ :: _, h, _ => h.elim
  | _ :: _, [], h, _ => h.elim
theorem KidsAt.lens {w : World} {R : Nat → Prop} : ∀ {css : List (List Value)} {ks : List (Option Bts)}, KidsAt w R css ks → css.length = ks.length ∧ css.flatten.length = ks.length * 3
  | [], [], _ => ⟨rfl, rfl⟩
  | cs :: css, k :: ks, h => by
    have h1 := KidsAt.lens h.2
    have h2 := h.1.len
    constructor
    · simp [h1.1]
    · simp only [List.flatten_cons, List.length_append, List.length_cons]; omega
  | [], _ :: _, h => h.elim
  | _ :: _, [], h => h.elim
theorem KidsAt.at {w : World} {R : Nat → Prop} {b off : Nat} : ∀ {css : List (List Value)} {ks : List (Option Bts)} {i : Nat} {k : Option Bts}, KidsAt w R css ks → w.row? b off (ks.length * 3) = some css.flatten → ks[i]? = some k → ∃ cs, w.row? b (off + i * 3) 3 = some cs ∧ KidAt w R cs k := by
  intro css ks i k h hr hi
  have key : ∀ (css : List (List Value)) (ks : List (Option Bts)) (i : Nat) (k : Option Bts), KidsAt w R css ks → ks[i]? = some k → ∃ cs, css[i]? = some cs ∧ KidAt w R cs k ∧ offOf css i = i * 3 := by
    intro css
    induction css with
    | nil => intro ks i k h hi; cases ks with
      | nil => simp at hi
      | cons _ _ => exact h.elim
    | cons cs css ih => intro ks i k h hi; cases ks with
      | nil => exact h.elim
      | cons k0 ks =>
        cases i with
        | zero => simp at hi; subst hi; exact ⟨cs, rfl, h.1, by simp [offOf_zero]⟩
        | succ i =>
          obtain ⟨c, h1, h2, h3⟩ := ih ks i k h.2 (by simpa using hi)
          exact ⟨c, by simpa using h1, h2, by rw [offOf_succ, h3, h.1.len]; omega⟩
  obtain ⟨cs, h1, h2, h3⟩ := key css ks i k h hi
  exact ⟨cs, row_cat (l := css) hr h1 (by rw [h3]) h2.len.symm, h2⟩
/-- What was read as it lies in memory. -/
def TopAt (w : World) (R : Nat → Prop) (cs : List Value) : Top → Prop
  | .bytes l => KidAt w R cs (some l)
  | .list ks => ∃ a c, cs = [.bool true, .slice none 0 0, .slice a ks.length c] ∧ (ks ≠ [] → ∃ b off css, a = some ⟨b, off, none⟩ ∧ ks.length ≤ c ∧ c ≤ maxLen ∧ R b ∧ w.row? b off (ks.length * 3) = some css.flatten ∧ KidsAt w R css ks)
theorem TopAt.kid {w : World} {R : Nat → Prop} {cs : List Value} {t : Top} (h : TopAt w R cs t) : KidAt w R cs t.kid := by
  cases t with
  | bytes l => exact h
  | list ks => obtain ⟨a, c, rfl, _⟩ := h; exact ⟨a, ks.length, c, rfl⟩
theorem TopAt.only {w w' : World} {R R' X : Nat → Prop} {cs : List Value} {t : Top} (h : TopAt w R cs t) (ho : Only X w w') (hX : ∀ b, b < w.heap.size → R b → ¬ X b) (hR : ∀ b, b < w.heap.size → R b → R' b) : TopAt w' R' cs t := by
  cases t with
  | bytes l => exact KidAt.only (k := some l) h ho hX hR
  | list ks =>
    obtain ⟨a, c, rfl, h3⟩ := h
    refine ⟨a, c, rfl, fun hn => ?_⟩
    obtain ⟨b, off, css, ha, h1, h2, hb, hr, hk⟩ := h3 hn
    have hlt := World.row?_lt hr
    exact ⟨b, off, css, ha, h1, h2, hR _ hlt hb, by rw [ho.row? hlt (hX _ hlt hb)]; exact hr, hk.only ho hX hR⟩
/-- A part of bytes. -/
theorem ints_part {w : World} {b off c : Nat} {L : Bts} (h : Ints w .u8 (some ⟨b, off, none⟩) c L) (p q : Nat) (hpq : p + q ≤ L.length) (hp : p < c) : Ints w .u8 (some ⟨b, off + p, none⟩) (c - p) ((L.drop p).take q) := by
  have hl := h.len
  have hll : ((L.drop p).take q).length = q := by rw [List.length_take, List.length_drop]; omega
  refine ⟨fun hn => ?_, fun e => (by cases e), (by rw [hll]; omega), Nat.le_trans (Nat.sub_le _ _) h.cap⟩
  have hq : 0 < q := by rw [← hll]; exact List.length_pos_iff.2 hn
  obtain ⟨b', o', ha, _, hc⟩ := h.at (i := 0) (by omega)
  cases ha
  refine ⟨b, off + p, rfl, fun i hi => ?_⟩
  rw [hll] at hi
  have := hc (p + i) (by omega)
  rw [Nat.add_assoc, this, List.getElem?_take, if_pos hi, List.getElem?_drop]
end Go.Proofs.YtikiciojfhfagaaGreat
namespace Go.Proofs.YtikiciojfhfagaaGreat
open Go.RowKit Go.Mun

/-- A part of bytes, as the program slices it. -/
theorem slice_part {w : World} {b off c : Nat} {L : Bts} (h : Ints w .u8 (some ⟨b, off, none⟩) c L) (p q : Nat) (hpq : p + q ≤ L.length) :
    ∃ o' c', (∀ w', (Instr.slice 26 (.slice (some ⟨b, off, none⟩) L.length c) (some (.int .i64 (p : Int))) (some (.int .i64 ((p + q : Nat) : Int))) none).run Tryz.prog w' = .ok (.slice (some ⟨b, o', none⟩) q c') w') ∧ Ints w .u8 (some ⟨b, o', none⟩) c' ((L.drop p).take q) := by
  have hl := h.len
  have he : Tryz.prog.elem 26 = 5 := by kernel_rfl
  have hs : ∀ w', (sizeOf 5).run Tryz.prog w' = .ok 1 w' := fun w' => by kernel_rfl
  have e1 : p + q - p = q := by omega
  by_cases hp : p < c
  · refine ⟨off + p, c - p, fun w' => ?_, ints_part h p q hpq hp⟩
    have := slice26 b off p (p + q) L.length c (by omega) (by omega) hp w'
    rw [e1] at this
    exact this
  · have hpc : c = p := by omega
    have hq : q = 0 := by omega
    subst hq
    refine ⟨off, 0, fun w' => ?_, ⟨fun hn => absurd (by simp) hn, fun e => (by cases e), by simp, Nat.zero_le _⟩⟩
    rw [run_slice_lh w' 26 (some ⟨b, off, none⟩) L.length c (by rw [he]; exact Tryz.underlying26) .i64 .i64 (p : Int) ((p + 0 : Nat) : Int) (by omega) (by omega) (by omega), he, hs]
    simp only [Result.andThen, sliced, Int.toNat_natCast, Nat.mul_one]
    rw [if_pos hpc, e1, hpc, Nat.sub_self]
theorem slice_rest {w : World} {b off c : Nat} {L : Bts} (h : Ints w .u8 (some ⟨b, off, none⟩) c L) (p : Nat) (hp0 : p ≤ L.length) :
    ∃ o' c', (∀ w', (Instr.slice 26 (.slice (some ⟨b, off, none⟩) L.length c) (some (.int .i64 (p : Int))) none none).run Tryz.prog w' = .ok (.slice (some ⟨b, o', none⟩) (L.length - p) c') w') ∧ Ints w .u8 (some ⟨b, o', none⟩) c' (L.drop p) := by
  have hl := h.len
  have he : Tryz.prog.elem 26 = 5 := by kernel_rfl
  have hs : ∀ w', (sizeOf 5).run Tryz.prog w' = .ok 1 w' := fun w' => by kernel_rfl
  by_cases hp : p < c
  · refine ⟨off + p, c - p, fun w' => ?_, ?_⟩
    · rw [run_slice_l w' 26 (some ⟨b, off, none⟩) L.length c (by rw [he]; exact Tryz.underlying26) .i64 (p : Int) (by omega) (by omega), he, hs]
      simp only [Result.andThen, sliced, Int.toNat_natCast, Nat.mul_one]
      rw [if_neg (by omega), Option.map_some, add_off rfl]
    · have := ints_part h p (L.length - p) (by omega) hp
      rw [List.take_of_length_le (by rw [List.length_drop]; omega)] at this
      exact this
  · have hpc : c = p := by omega
    have hlp : L.length = p := by omega
    refine ⟨off, 0, fun w' => ?_, ⟨fun hn => absurd (List.drop_of_length_le (by omega)) hn, fun e => (by cases e), by simp [hlp], Nat.zero_le _⟩⟩
    rw [run_slice_l w' 26 (some ⟨b, off, none⟩) L.length c (by rw [he]; exact Tryz.underlying26) .i64 (p : Int) (by omega) (by omega), he, hs]
    simp only [Result.andThen, sliced, Int.toNat_natCast, Nat.mul_one]
    rw [if_pos hpc, hpc, Nat.sub_self]
/-- What a reader comes to. -/
def ReadIs (w w' : World) (r : RdR) (e : Ending) : Prop := Below w.heap.size w w' ∧ match r with
  | .err x => e = .returned (.tuple #[.agg itemZ.toArray, .int .i64 0, .int .i64 x])
  | .ok t n => ∃ cs, e = .returned (.tuple #[.agg cs.toArray, .int .i64 n, .int .i64 0]) ∧ TopAt w' (fun b => w.heap.size ≤ b) cs t
theorem readIs_err {w w' : World} {r : RdR} {x : Nat} (h : r = .err x) (hb : Below w.heap.size w w') : ReadIs w w' r (.returned (.tuple #[.agg itemZ.toArray, .int .i64 0, .int .i64 x])) := by
  subst h; exact ⟨hb, rfl⟩
theorem readIs_ok {w w' : World} {r : RdR} {t : Top} {n : Nat} {cs : List Value} (h : r = .ok t n) (hb : Below w.heap.size w w') (ht : TopAt w' (fun b => w.heap.size ≤ b) cs t) : ReadIs w w' r (.returned (.tuple #[.agg cs.toArray, .int .i64 n, .int .i64 0])) := by
  subst h; exact ⟨hb, cs, rfl, ht⟩
def ReadOk (d : Nat) : Prop := ∀ (a : Option Addr) (c : Nat) (L : Bts) (w : World), Ints w .u8 a c L → Byt L → L.length ≤ 16777216 → d ≤ 32 →
  Calls Tryz.prog 82 #[.slice a L.length c, .int .i64 (32 - (d : Int))] w fun e w' => ReadIs w w' (rdT d L) e
theorem rdT_nil (d : Nat) : rdT d [] = .err 4 := by cases d <;> rfl
theorem rdT_one {d : Nat} {L : Bts} (h : L ≠ []) (h1 : L[0]?.getD 0 < 128) : rdT d L = .ok (.bytes [L[0]?.getD 0]) 1 := by
  cases d <;> (unfold rdT rd1; rw [if_neg h, if_pos h1])
theorem rdT_bytes {d : Nat} {L : Bts} (h : L ≠ []) (h1 : ¬ L[0]?.getD 0 < 128) (h2 : L[0]?.getD 0 < 192) : rdT d L = rdB L := by
  cases d <;> (unfold rdT rd1; rw [if_neg h, if_neg h1, if_pos h2])
theorem rdT_deep {L : Bts} (h : L ≠ []) (h2 : ¬ L[0]?.getD 0 < 192) : rdT 0 L = .err 3 := by
  unfold rdT rd1; rw [if_neg h, if_neg (by omega), if_neg h2]
theorem rdT_list {d : Nat} {L : Bts} (h : L ≠ []) (h2 : ¬ L[0]?.getD 0 < 192) : rdT (d + 1) L = rdL (rdT d) L := by
  show rd1 _ L = _
  unfold rd1; rw [if_neg h, if_neg (by omega), if_neg h2]
theorem itemZ_row (w : World) : (w.alloc (.cells itemZ.toArray 65)).free? w.heap.size 0 3 = true := World.free?_alloc_at _ _ rfl (Nat.le_refl _)
set_option maxRecDepth 100000 in
set_option maxHeartbeats 1000000 in
/-- Nothing to read; a byte that stands for itself. -/
theorem read_small (d : Nat) (a : Option Addr) (c : Nat) (L : Bts) (w : World) (hI : Ints w .u8 a c L) (hby : Byt L) (hs : L = [] ∨ L[0]?.getD 0 < 128) :
    Calls Tryz.prog 82 #[.slice a L.length c, .int .i64 (32 - (d : Int))] w fun e w' => ReadIs w w' (rdT d L) e := by
  have hok : okL 3 itemZ = true := itemZ_ok
  by_cases hne : L = []
  · have h0 : L.length = 0 := by rw [hne]; rfl
    have hr : rdT d L = .err 4 := by rw [hne]; exact rdT_nil d
    have HR := Lib.hid hr
    have hf := itemZ_row w
    rw [h0]
    clear hI hby hs hr hne h0
    go_enter Tryz.func82, Tryz.ntmps82
    go_wp2
    refine ret_row3 ty61 rfl _ _ _ rfl rfl rfl rfl (row?_setCells_whole _ hf hok) (readIs_err (x := 4) HR.out (((Below.refl _ _).alloc (Nat.le_refl _) _).setCells (Nat.le_refl _) _ _))
  · have h1 : L[0]?.getD 0 < 128 := hs.resolve_left hne
    have hl : 0 < L.length := List.length_pos_iff.2 hne
    have hr : rdT d L = .ok (.bytes [L[0]?.getD 0]) 1 := rdT_one hne h1
    obtain ⟨b, off, rfl, hbl, hc⟩ := hI.at hl
    have hx0 : (0 : Int) ≤ L[0]?.getD 0 ∧ L[0]?.getD 0 < 256 := by rw [List.getElem?_eq_getElem hl]; exact hby _ (List.getElem_mem _)
    have c0 : (w.alloc (.cells itemZ.toArray 65)).cell? ⟨b, off, none⟩ = some (.int .u8 (L[0]?.getD 0)) := by
      have h0 := hc 0 hl
      rw [Nat.add_zero] at h0
      rw [((Below.refl w.heap.size w).alloc (Nat.le_refl _) (.cells itemZ.toArray 65)).cell hbl]; exact h0
    generalize L[0]?.getD 0 = x at *
    have hll : (L.length == 0) = false := by simp; omega
    have HR := Lib.hid hr
    have HX := Lib.hid hx0
    clear hI hby hs hr hne hc hx0
    go_enter Tryz.func82, Tryz.ntmps82
    go_wp2
    have e : lay itemZ 1 [Value.slice (some ⟨w.heap.size + 1, 0, none⟩) 1 1] = [.bool false, .slice (some ⟨w.heap.size + 1, 0, none⟩) 1 1, .slice none 0 0] := rfl
    rw [e]
    have hf : ((w.alloc (.cells itemZ.toArray 65)).alloc (.cells #[.int .u8 x] 5)).free? w.heap.size 0 3 = true := by rw [World.free?_alloc_lt _ (by simp)]; exact itemZ_row w
    have hI := Ints.new (w.alloc (.cells itemZ.toArray 65)) .u8 [x] 5 (by simp [maxLen])
    have hO : Only (· = w.heap.size) ((w.alloc (.cells itemZ.toArray 65)).alloc (.cells #[.int .u8 x] 5)) (((w.alloc (.cells itemZ.toArray 65)).alloc (.cells #[.int .u8 x] 5)).setCells w.heap.size 0 [.bool false, .slice (some ⟨w.heap.size + 1, 0, none⟩) 1 1, .slice none 0 0]) := (Only.refl (· = w.heap.size) _).setCells (fun _ => rfl) _ _
    have hI2 : Ints ((w.alloc (.cells itemZ.toArray 65)).alloc (.cells #[.int .u8 x] 5)) .u8 (some ⟨w.heap.size + 1, 0, none⟩) 1 [x] := by simpa using hI
    refine ret_row3 ty61 rfl _ _ _ rfl rfl rfl rfl (row?_setCells_whole _ hf (by simp [okL, Value.oneCell'])) (readIs_ok HR.out ((((Below.refl _ _).alloc (Nat.le_refl _) _).alloc (by simp) _).setCells (Nat.le_refl _) _ _) ⟨_, _, rfl, Ints.only (S := (· = w.heap.size)) hI2 hO (fun p hp => by cases hp; simp), fun _ p hp => by cases hp; simp, fun y hy => by
      have : y = x := by simpa using hy
      rw [this]; exact HX.out⟩)
end Go.Proofs.YtikiciojfhfagaaGreat
namespace Go.Proofs.YtikiciojfhfagaaGreat
open Go.RowKit Go.Mun

set_option maxRecDepth 100000 in
set_option maxHeartbeats 2000000 in
theorem read_bytes (d : Nat) (a : Option Addr) (c : Nat) (L : Bts) (w : World) (hI : Ints w .u8 a c L) (hby : Byt L) (hlen : L.length ≤ 16777216) (hne : L ≠ []) (h1 : ¬ L[0]?.getD 0 < 128) (h2 : L[0]?.getD 0 < 192) :
    Calls Tryz.prog 82 #[.slice a L.length c, .int .i64 (32 - (d : Int))] w fun e w' => ReadIs w w' (rdT d L) e := by
  have hok : okL 3 itemZ = true := itemZ_ok
  have hl : 0 < L.length := List.length_pos_iff.2 hne
  have HRD := Lib.hid (rdT_bytes (d := d) hne h1 h2)
  obtain ⟨w0, e0⟩ : ∃ w0, w0 = w.alloc (.cells itemZ.toArray 65) := ⟨_, rfl⟩
  have hb0 : Below w.heap.size w w0 := by rw [e0]; exact (Below.refl _ _).alloc (Nat.le_refl _) _
  have hf0 : w0.free? w.heap.size 0 3 = true := by rw [e0]; exact itemZ_row w
  have hI0 := hI.below hb0
  obtain ⟨b, off, rfl, hbl, hc⟩ := hI0.at hl
  have HLEN := Lib.hid (rlp_length 128 (Or.inl rfl) _ c L w0 hI0 hby hl hlen ⟨by show (128 : Int) ≤ _; omega, by show _ < (128 : Int) + 64; omega⟩)
  have c0 := hc 0 hl
  rw [Nat.add_zero] at c0
  have HE := Lib.hid e0
  have HB := Lib.hid hb0
  have HI := Lib.hid hI0
  have HC := Lib.hid hc
  have HF := Lib.hid hf0
  have HBY := Lib.hid hby
  have HLN := Lib.hid hlen
  generalize hx : L[0]?.getD 0 = x at *
  have hll : (L.length == 0) = false := by simp; omega
  have d1 : decide (x < 128) = false := decide_eq_false h1
  rw [e0] at c0 hf0
  have H1 := Lib.hid h1
  clear hI hby hne hc hx hb0 hI0 e0 hlen h1
  go_enter Tryz.func82, Tryz.ntmps82
  go_wp2_with fail
  rw [← HE.out]
  refine HLEN.out.mono ?_
  rintro e w1 ⟨hL, rfl⟩
  rw [HE.out]
  unfold LenIs at hL
  have hRD := HRD.out
  unfold rdB at hRD
  cases eH : hdR L with
  | none =>
    rw [eH] at hL hRD
    obtain ⟨y1, y2, rfl⟩ := hL
    have HR := Lib.hid hRD
    clear hRD c0
    go_wp2
    refine ret_row3 ty61 rfl _ _ _ rfl rfl rfl rfl (row?_setCells_whole _ hf0 hok) (readIs_err (x := 4) HR.out (((Below.refl _ _).alloc (Nat.le_refl _) _).setCells (Nat.le_refl _) _ _))
  | some p =>
    obtain ⟨h, n⟩ := p
    have hle := hdR_le eH
    rw [eH] at hL hRD
    simp only at hL hRD
    subst hL
    have hw : IntKind.i64.wrap ((h : Int) + n) = (h : Int) + n := wrI _ (by have := HLN.out; omega) (by have := HLN.out; omega)
    by_cases hn1 : n = 1
    · subst hn1
      have hhl : h < L.length := by omega
      have hw1 : IntKind.i64.wrap ((h : Int) + 1) = (h : Int) + 1 := wrI _ (by have := HLN.out; omega) (by have := HLN.out; omega)
      have ck := HC.out h hhl
      rw [HE.out] at ck
      have hy0 : (0 : Int) ≤ L[h]?.getD 0 := by rw [List.getElem?_eq_getElem hhl]; exact (HBY.out _ (List.getElem_mem _)).1
      by_cases hy : L[h]?.getD 0 < 128
      · rw [if_pos ⟨rfl, hy⟩] at hRD
        have HR := Lib.hid hRD
        generalize L[h]?.getD 0 = y at *
        clear hRD c0
        go_wp2
        refine ret_row3 ty61 rfl _ _ _ rfl rfl rfl rfl (row?_setCells_whole _ hf0 hok) (readIs_err (x := 4) HR.out (((Below.refl _ _).alloc (Nat.le_refl _) _).setCells (Nat.le_refl _) _ _))
      · rw [if_neg (fun hh => hy hh.2)] at hRD
        have HR := Lib.hid hRD
        have dy : decide (L[h]?.getD 0 < 128) = false := decide_eq_false hy
        obtain ⟨o', c', hsl, hI2⟩ := slice_part HI.out h 1 hle.2
        rw [show ((h + 1 : Nat) : Int) = (h : Int) + 1 by omega] at hsl
        have hpl : ((L.drop h).take 1).length = 1 := by rw [List.length_take, List.length_drop]; omega
        have HBL : Hid (Byt ((L.drop h).take 1)) := fun z hz => HBY.out z (List.mem_of_mem_drop (List.mem_of_mem_take hz))
        have HI2 := Lib.hid hI2
        have HLE := Lib.hid hle
        generalize L[h]?.getD 0 = y at *
        generalize hl2 : (L.drop h).take 1 = l2 at *
        have HPL := Lib.hid hpl
        clear hRD c0 hy hI2 hl2 hpl hle hy0 eH
        go_wp2_with fail
        rw [← HE.out]
        refine (slices_clone _ 1 c' l2 HPL.out.symm (by decide) _ HI2.out).mono ?_
        rintro e w2 ⟨v, rfl, hnb⟩
        obtain ⟨a2, c2, rfl, hi2, hfr⟩ := hnb.read
        rw [HPL.out]
        have hf2 : w2.free? w.heap.size 0 3 = true := by rw [(brow hnb.below).2 _ _ _ (free?_lt HF.out)]; exact HF.out
        have HB2 := Lib.hid (HB.out.trans (hnb.below.mono HB.out.size))
        have HN2 := Lib.hid hi2
        have HFR := Lib.hid (fun p hp => Nat.lt_of_lt_of_le (free?_lt HF.out) (hfr p hp))
        clear hnb hi2 hfr
        go_wp2
        have e : lay itemZ 1 [Value.slice a2 1 c2] = [.bool false, .slice a2 1 c2, .slice none 0 0] := rfl
        rw [e]
        have hO : Only (· = w.heap.size) w2 (w2.setCells w.heap.size 0 [.bool false, .slice a2 1 c2, .slice none 0 0]) := (Only.refl (· = w.heap.size) _).setCells (fun _ => rfl) _ _
        refine ret_row3 ty61 rfl _ _ _ rfl rfl rfl rfl (row?_setCells_whole _ hf2 (by simp [okL, Value.oneCell'])) (readIs_ok HR.out (HB2.out.setCells (Nat.le_refl _) _ _) ⟨a2, c2, by rw [HPL.out], Ints.only (S := (· = w.heap.size)) HN2.out hO (fun p hp => by have := HFR.out p hp; omega), fun _ p hp => Nat.le_of_lt (HFR.out p hp), HBL.out⟩)
    · have dn : ((n : Int) == 1) = false := by simp; omega
      rw [if_neg (fun hh => hn1 hh.1)] at hRD
      have HR := Lib.hid hRD
      obtain ⟨o', c', hsl, hI2⟩ := slice_part HI.out h n hle.2
      rw [show ((h + n : Nat) : Int) = (h : Int) + n by omega] at hsl
      have hpl : ((L.drop h).take n).length = n := by rw [List.length_take, List.length_drop]; omega
      have HBL : Hid (Byt ((L.drop h).take n)) := fun z hz => HBY.out z (List.mem_of_mem_drop (List.mem_of_mem_take hz))
      have HI2 := Lib.hid hI2
      have HNL : Hid (n ≤ 70000000000000) := by show n ≤ _; have := HLN.out; omega
      generalize hl2 : (L.drop h).take n = l2 at *
      have HPL := Lib.hid hpl
      clear hRD c0 hI2 hl2 hpl hle eH hn1
      go_wp2_with fail
      rw [← HE.out]
      refine (slices_clone _ n c' l2 HPL.out.symm HNL.out _ HI2.out).mono ?_
      rintro e w2 ⟨v, rfl, hnb⟩
      obtain ⟨a2, c2, rfl, hi2, hfr⟩ := hnb.read
      rw [HPL.out]
      have hf2 : w2.free? w.heap.size 0 3 = true := by rw [(brow hnb.below).2 _ _ _ (free?_lt HF.out)]; exact HF.out
      have HB2 := Lib.hid (HB.out.trans (hnb.below.mono HB.out.size))
      have HN2 := Lib.hid hi2
      have HFR := Lib.hid (fun p hp => Nat.lt_of_lt_of_le (free?_lt HF.out) (hfr p hp))
      clear hnb hi2 hfr
      go_wp2
      have e : lay itemZ 1 [Value.slice a2 n c2] = [.bool false, .slice a2 n c2, .slice none 0 0] := rfl
      rw [e]
      have hO : Only (· = w.heap.size) w2 (w2.setCells w.heap.size 0 [.bool false, .slice a2 n c2, .slice none 0 0]) := (Only.refl (· = w.heap.size) _).setCells (fun _ => rfl) _ _
      refine ret_row3 ty61 rfl _ _ _ rfl rfl rfl rfl (row?_setCells_whole _ hf2 (by simp [okL, Value.oneCell'])) (readIs_ok HR.out (HB2.out.setCells (Nat.le_refl _) _ _) ⟨a2, c2, by rw [HPL.out], Ints.only (S := (· = w.heap.size)) HN2.out hO (fun p hp => by have := HFR.out p hp; omega), fun _ p hp => Nat.le_of_lt (HFR.out p hp), HBL.out⟩)
end Go.Proofs.YtikiciojfhfagaaGreat
namespace Go.Mun
open Go.RowKit
def Errs (g : Bts → RdR) : Prop := ∀ x e, g x = .err e → e ≠ 0
theorem rds_errs {g : Bts → RdR} (hg : Reads g) (he : Errs g) : ∀ (n : Nat) (x : Bts), x.length ≤ n → ∀ e, rds g x = .inl e → e ≠ 0
  | n, x, hn, e, h => by
    by_cases hx : x = []
    · subst hx; rw [rds_nil] at h; cases h
    · cases eg : g x with
      | err y => rw [rds_err hx eg] at h; cases h; exact he _ _ eg
      | ok t k =>
        rw [rds_ok hg hx eg] at h
        have hk := hg x t k eg
        cases n with
        | zero => have := List.length_pos_iff.2 hx; omega
        | succ n =>
          cases er : rds g (x.drop k) with
          | inl e' => rw [er] at h; cases h; exact rds_errs hg he n _ (by rw [List.length_drop]; omega) _ er
          | inr l => rw [er] at h; cases h
theorem rd1_errs {lst : Bts → RdR} (h : Errs lst) : Errs (rd1 lst) := by
  intro x e hx
  unfold rd1 at hx
  split at hx
  · cases hx; decide
  · split at hx
    · cases hx
    · split at hx
      · unfold rdB at hx
        split at hx
        · cases hx; decide
        · split at hx
          · cases hx; decide
          · cases hx
      · exact h x e hx
theorem rdL_errs {g : Bts → RdR} (hg : Reads g) (he : Errs g) : Errs (rdL g) := by
  intro x e hx
  rw [rdL_eq] at hx
  split at hx
  · cases hx; decide
  · split at hx
    · rename_i er
      cases hx
      exact rds_errs hg he _ _ (Nat.le_refl _) _ er
    · cases hx
theorem rdT_errs : ∀ d, Errs (rdT d)
  | 0 => rd1_errs (fun x e h => by cases h; decide)
  | d + 1 => rd1_errs (rdL_errs (rdT_reads d) (rdT_errs d))
end Go.Mun
namespace Go.Proofs.YtikiciojfhfagaaGreat
open Go.RowKit Go.Mun

set_option maxRecDepth 100000 in
theorem read_deep (a : Option Addr) (c : Nat) (L : Bts) (w : World) (hI : Ints w .u8 a c L) (hne : L ≠ []) (h2 : ¬ L[0]?.getD 0 < 192) :
    Calls Tryz.prog 82 #[.slice a L.length c, .int .i64 32] w fun e w' => ReadIs w w' (rdT 0 L) e := by
  have hok : okL 3 itemZ = true := itemZ_ok
  have hl : 0 < L.length := List.length_pos_iff.2 hne
  have HRD := Lib.hid (rdT_deep hne h2)
  obtain ⟨b, off, rfl, hbl, hc⟩ := hI.at hl
  have c0 : (w.alloc (.cells itemZ.toArray 65)).cell? ⟨b, off, none⟩ = some (.int .u8 (L[0]?.getD 0)) := by
    have h0 := hc 0 hl
    rw [Nat.add_zero] at h0
    rw [((Below.refl w.heap.size w).alloc (Nat.le_refl _) (.cells itemZ.toArray 65)).cell hbl]; exact h0
  have hf := itemZ_row w
  generalize L[0]?.getD 0 = x at *
  have hll : (L.length == 0) = false := by simp; omega
  have d1 : decide (x < 128) = false := decide_eq_false (by omega)
  have d2 : decide (x < 192) = false := decide_eq_false h2
  clear hI hne hc h2
  go_enter Tryz.func82, Tryz.ntmps82
  go_wp2
  refine ret_row3 ty61 rfl _ _ _ rfl rfl rfl rfl (row?_setCells_whole _ hf hok) (readIs_err (x := 3) HRD.out (((Below.refl _ _).alloc (Nat.le_refl _) _).setCells (Nat.le_refl _) _ _))
set_option maxRecDepth 1000000 in
theorem slI1 : SliceLit Tryz.prog 63 65 3 1 itemZ := ⟨Tryz.underlying63, ⟨_, .agg itemZ.toArray, rfl, by kernel_rfl, by kernel_rfl, by kernel_rfl⟩, by decide, by kernel_rfl, by decide⟩
def fillI (p : List (Nat × Value)) : Option (List Value) := fillL (1 * 3) ((List.range 1).map fun i => (i * 3, 3)) itemZ p
theorem bsI1 (ρ : Operand → Value) (dst : Option Tmp) (x : Operand) (t : TypeId) (pos : String) (after : Array Edge) (gd : Option (Nat × Bool)) (w : World) :
    (execOp ρ ⟨dst, .buildSlice 63 1 #[(0, x)], t, pos, after, gd⟩).run Tryz.prog w = asNext (bsRow Tryz.prog 63 65 1 [(0, ρ x)] w (fillI [(0, ρ x)])) :=
  ex_bslice ρ dst t pos after gd w slI1 [(0, x)]
@[go_sem] theorem fillI_one (c : List Value) (h : c.length = 3) : fillI [(0, .agg c.toArray)] = some c := by
  unfold fillI
  match c, h with
  | [x, y, z], _ => rfl
theorem s1I (ρ : Operand → Value) (dst : Option Tmp) (x y : Operand) (t : TypeId) (pos : String) (after : Array Edge) (gd : Option (Nat × Bool)) (w : World) : (execOp ρ ⟨dst, .store 63 x y, t, pos, after, gd⟩).run Tryz.prog w = asSkip (stOne Tryz.prog 63 (ρ x) (ρ y) w) := ex_store1 ρ dst x y t pos after gd w (by kernel_rfl)
attribute [go_sem ↓] bsI1 s1I
def slLen : Value → Nat
  | .slice _ n _ => n
  | _ => 0
/-- A list's items on their way. -/
structure RdLp (w : World) (q : Nat) (g : Bts → RdR) (x : Bts) (v : Value) (wr : World) (done : List (Option Bts)) (rest : Bts) : Prop where
  below : Below w.heap.size w wr
  res : wr.free? w.heap.size 0 3 = true
  val : ∃ a c, v = .slice a rest.length c ∧ Ints w .u8 a c rest ∧ ∃ p, a = some p
  byt : Byt rest
  eq : rds g x = match rds g rest with | .inl e => .inl e | .inr l => .inr (done ++ l)
  item : ∃ sv css, Arr wr q 3 [.bool true, .slice none 0 0, sv] ∧ wr.ownsRow 0 65 3 sv done.length css.flatten ∧ (∀ g, sv.ownBlock = some g → q < g) ∧ KidsAt wr (fun b => q < b ∧ sv.ownBlock ≠ some b) css done
  cnt : done.length + rest.length ≤ 16777216
end Go.Proofs.YtikiciojfhfagaaGreat
namespace Go.Proofs.YtikiciojfhfagaaGreat
open Go.RowKit Go.Mun

set_option maxRecDepth 100000 in
set_option maxHeartbeats 4000000 in
theorem read_list (d : Nat) (ih : ReadOk d) (hd : d + 1 ≤ 32) (a : Option Addr) (c : Nat) (L : Bts) (w : World) (hI : Ints w .u8 a c L) (hby : Byt L) (hlen : L.length ≤ 16777216) (hne : L ≠ []) (h2 : ¬ L[0]?.getD 0 < 192) :
    Calls Tryz.prog 82 #[.slice a L.length c, .int .i64 (32 - ((d + 1 : Nat) : Int))] w fun e w' => ReadIs w w' (rdT (d + 1) L) e := by
  obtain ⟨z, hz⟩ : ∃ z : Int, z = 32 - ((d + 1 : Nat) : Int) := ⟨_, rfl⟩
  rw [← hz]
  have dz : (z == 32) = false := by simp; omega
  obtain ⟨y, hy⟩ : ∃ y : Int, y = 32 - (d : Int) := ⟨_, rfl⟩
  have hw : IntKind.i64.wrap (z + 1) = y := by rw [wrI _ (by omega) (by omega)]; omega
  have IH := Lib.hid (fun a c L w h1 h2 h3 => ih a c L w h1 h2 h3 (by omega))
  rw [← hy] at IH
  have hok : okL 3 itemZ = true := itemZ_ok
  have hl : 0 < L.length := List.length_pos_iff.2 hne
  have HRD := Lib.hid (rdT_list (d := d) hne h2)
  obtain ⟨w0, e0⟩ : ∃ w0, w0 = w.alloc (.cells itemZ.toArray 65) := ⟨_, rfl⟩
  have hb0 : Below w.heap.size w w0 := by rw [e0]; exact (Below.refl _ _).alloc (Nat.le_refl _) _
  have hf0 : w0.free? w.heap.size 0 3 = true := by rw [e0]; exact itemZ_row w
  have hI0 := hI.below hb0
  obtain ⟨b, off, rfl, hbl, hc⟩ := hI0.at hl
  have hx256 : L[0]?.getD 0 < 256 := by rw [List.getElem?_eq_getElem hl]; exact (hby _ (List.getElem_mem _)).2
  have HLEN := Lib.hid (rlp_length 192 (Or.inr rfl) _ c L w0 hI0 hby hl hlen ⟨by show (192 : Int) ≤ _; omega, by show _ < (192 : Int) + 64; omega⟩)
  have c0 := hc 0 hl
  rw [Nat.add_zero] at c0
  have HE := Lib.hid e0
  have HB := Lib.hid hb0
  have HI := Lib.hid hI
  have HF := Lib.hid hf0
  have HBY := Lib.hid hby
  have HLN := Lib.hid hlen
  generalize hx : L[0]?.getD 0 = x at *
  have hll : (L.length == 0) = false := by simp; omega
  have d1 : decide (x < 128) = false := decide_eq_false (by omega)
  have d2 : decide (x < 192) = false := decide_eq_false h2
  rw [e0] at c0 hf0
  clear hI hby hne hc hx hb0 hI0 e0 hlen h2 hz hy ih hx256 hd
  go_enter Tryz.func82, Tryz.ntmps82
  go_wp2_with fail
  rw [← HE.out]
  refine HLEN.out.mono ?_
  rintro e w1 ⟨hL, rfl⟩
  rw [HE.out]
  unfold LenIs at hL
  have hRD := HRD.out
  rw [rdL_eq] at hRD
  cases eH : hdR L with
  | none =>
    rw [eH] at hL hRD
    obtain ⟨y1, y2, rfl⟩ := hL
    have HR := Lib.hid hRD
    clear hRD c0
    go_wp2
    refine ret_row3 ty61 rfl _ _ _ rfl rfl rfl rfl (row?_setCells_whole _ hf0 hok) (readIs_err (x := 4) HR.out (((Below.refl _ _).alloc (Nat.le_refl _) _).setCells (Nat.le_refl _) _ _))
  | some p =>
    obtain ⟨h, n⟩ := p
    have hle := hdR_le eH
    rw [eH] at hL hRD
    simp only at hL hRD
    subst hL
    have hwn : IntKind.i64.wrap ((h : Int) + n) = (h : Int) + n := wrI _ (by have := HLN.out; omega) (by have := HLN.out; omega)
    obtain ⟨o', c', hsl, hI2⟩ := slice_part HI.out h n hle.2
    rw [show ((h + n : Nat) : Int) = (h : Int) + n by omega] at hsl
    have hpl : ((L.drop h).take n).length = n := by rw [List.length_take, List.length_drop]; omega
    have hbx : Byt ((L.drop h).take n) := fun z hz => HBY.out z (List.mem_of_mem_drop (List.mem_of_mem_take hz))
    generalize hX : (L.drop h).take n = X at *
    have HR := Lib.hid hRD
    have HPL := Lib.hid hpl
    have HI2 := Lib.hid hI2
    have HNL : Hid (n ≤ 16777216) := by show n ≤ _; have := HLN.out; omega
    have HBX := Lib.hid hbx
    have e13 : lay itemZ 0 [Value.bool true] = [.bool true, .slice none 0 0, .slice none 0 0] := rfl
    have f13 : ((w.alloc (.cells itemZ.toArray 65)).alloc (.cells itemZ.toArray 65)).free? (w.heap.size + 1) 0 3 = true := World.free?_alloc_at _ _ (by simp) (Nat.le_refl _)
    have hok13 : okL 3 [.bool true, .slice none 0 0, .slice none 0 0] = true := rfl
    obtain ⟨w2, e2⟩ : ∃ w2, w2 = ((w.alloc (.cells itemZ.toArray 65)).alloc (.cells itemZ.toArray 65)).setCells (w.heap.size + 1) 0 [.bool true, .slice none 0 0, .slice none 0 0] := ⟨_, rfl⟩
    have hb2 : Below w.heap.size w w2 := by rw [e2]; exact (((Below.refl _ _).alloc (Nat.le_refl _) _).alloc (by simp) _).setCells (by omega) _ _
    have hA2 : Arr w2 (w.heap.size + 1) 3 [.bool true, .slice none 0 0, .slice none 0 0] := by
      rw [e2]
      have := (Arr.new (w.alloc (.cells itemZ.toArray 65)) 3 itemZ 65 rfl).setCells [.bool true, .slice none 0 0, .slice none 0 0] hok13
      simpa using this
    have hr2 : w2.free? w.heap.size 0 3 = true := by
      rw [e2, World.free?_setCells', World.free?_alloc_lt _ (by simp)]; exact itemZ_row w
    have H0 : Hid (RdLp w (w.heap.size + 1) (rdT d) X (.slice (some ⟨b, o', none⟩) n c') w2 [] X) := ⟨hb2, hr2, ⟨_, c', by rw [HPL.out], hI2, _, rfl⟩, hbx, by cases rds (rdT d) X <;> rfl, ⟨_, [], hA2, World.ownsRow_nil _ _ _ _, fun g hg => (by cases hg), trivial⟩, by rw [HPL.out]; simpa using HNL.out⟩
    have HE2 := Lib.hid e2
    clear hRD hI2 hle hX hpl hbx hb2 hA2 hr2 e2 eH c0
    go_wp2
    go_loopw [14] (fun v wr => ∃ done rest, RdLp w (w.heap.size + 1) (rdT d) X v wr done rest) (fun v _ => slLen v)
    case atStart => exact ⟨[], X, by have := H0.out; rw [HE2.out] at this; exact this⟩
    case round =>
      obtain ⟨done, rest, hr⟩ := hrel
      obtain ⟨ar, cr, rfl, hIr, pr, rfl⟩ := hr.val
      obtain ⟨sv, css, hA, hown, hge, hk⟩ := hr.item
      have HBW := Lib.hid hr.below
      have HRS := Lib.hid hr.res
      have HEQ := Lib.hid hr.eq
      have HBT := Lib.hid hr.byt
      have HCN := Lib.hid hr.cnt
      have HIR := Lib.hid hIr
      have HA := Lib.hid hA
      have HOW := Lib.hid hown
      have HGE := Lib.hid hge
      have HK := Lib.hid hk
      clear hr hIr hown hge hk
      have hA0 := hA.row
      have hresf := HRS.out
      by_cases hrest : rest = []
      · subst hrest
        have HEQ2 : Hid (rds (rdT d) X = .inr done) := by show _ = _; rw [HEQ.out, rds_nil]; simp
        obtain ⟨sa, sc, rfl⟩ := own_sl HOW.out
        have hoks : okL 3 [.bool true, .slice none 0 0, .slice sa done.length sc] = true := rfl
        have HRR : Hid (rdT (d + 1) L = .ok (.list done) (h + n)) := by
          show _ = _
          rw [HR.out, HEQ2.out]
        clear hA
        go_wp2
        have hO : Only (· = w.heap.size) wr (wr.setCells w.heap.size 0 [.bool true, .slice none 0 0, .slice sa done.length sc]) := (Only.refl (· = w.heap.size) _).setCells (fun _ => rfl) _ _
        refine ret_row3 ty61 rfl _ _ _ rfl rfl rfl rfl (row?_setCells_whole _ hresf hoks) (readIs_ok HRR.out (HBW.out.setCells (Nat.le_refl _) _ _) ⟨sa, sc, rfl, fun hn => ?_⟩)
        obtain ⟨g, gc, hv, _, hnc, hcm, hrow, _⟩ := own_words HOW.out (List.length_pos_iff.2 hn)
        cases hv
        have hgq := HGE.out g rfl
        refine ⟨g, 0, css, rfl, hnc, hcm, by omega, ?_, HK.out.only hO (fun b _ hb => by omega) (fun b _ hb => by omega)⟩
        rw [hO.row? (World.row?_lt hrow) (by omega)]; exact hrow
      · have hlt : 0 < rest.length := List.length_pos_iff.2 hrest
        obtain ⟨rb, ro, hpr, _, _⟩ := HIR.out.at hlt
        cases hpr
        clear hA
        go_wp2_with fail
        refine (IH.out _ _ rest wr (HIR.out.below HBW.out) HBT.out (by have := HCN.out; omega)).mono ?_
        rintro e wc ⟨hbc, hrc⟩
        have fres : wc.free? w.heap.size 0 3 = true := by rw [(brow hbc).2 _ _ _ (free?_lt HRS.out)]; exact HRS.out
        have hszr := HBW.out.size
        have hszc := hbc.size
        have hresl := free?_lt HRS.out
        cases er : rdT d rest with
        | err x =>
          rw [er] at hrc
          simp only at hrc
          subst hrc
          have hx0 := rdT_errs d rest x er
          have dx : ((x : Int) == 0) = false := by simpa using hx0
          have HRR : Hid (rdT (d + 1) L = .err x) := by
            show _ = _
            rw [HR.out, HEQ.out, rds_err hrest er]
          have f15 : (wc.alloc (.cells itemZ.toArray 65)).free? wc.heap.size 0 3 = true := itemZ_row wc
          have fr2 : ((wc.alloc (.cells itemZ.toArray 65)).setCells wc.heap.size 0 itemZ).free? w.heap.size 0 3 = true := by
            rw [World.free?_setCells', World.free?_alloc_lt _ (free?_lt fres)]; exact fres
          have HBC := Lib.hid (HBW.out.trans (hbc.mono hszr))
          clear er hx0 hbc
          go_wp2
          refine ret_row3 ty61 rfl _ _ _ rfl rfl rfl rfl (row?_setCells_whole _ fr2 hok) (readIs_err HRR.out (((HBC.out.alloc HBC.out.size _).setCells HBC.out.size _ _).setCells (Nat.le_refl _) _ _))
        | ok t k =>
          rw [er] at hrc
          obtain ⟨cs, rfl, htop⟩ := hrc
          have hkb := rdT_reads d rest t k er
          have hkid := htop.kid
          have hcl := hkid.len
          have hcok := hkid.ok
          have hql : w.heap.size + 1 < wr.heap.size := HA.out.lt
          obtain ⟨W1, eW1⟩ : ∃ W1, W1 = (wc.alloc (.cells itemZ.toArray 65)).setCells wc.heap.size 0 cs := ⟨_, rfl⟩
          have o1 : Only (fun _ => False) wc W1 := by rw [eW1]; exact ((Only.refl (fun _ => False) wc).alloc _).setCells (fun hh => absurd hh (Nat.lt_irrefl _)) _ _
          have hA15 : Arr W1 wc.heap.size 3 cs := by rw [eW1]; exact (Arr.new wc 3 itemZ 65 rfl).setCells cs hcok
          have hsz1 : W1.heap.size = wc.heap.size + 1 := by rw [eW1]; simp
          obtain ⟨W2, eW2⟩ : ∃ W2, W2 = W1.alloc (.cells cs.toArray 65) := ⟨_, rfl⟩
          have o2 : Only (fun _ => False) wc W2 := by rw [eW2]; exact o1.alloc _
          have hsz2 : W2.heap.size = wc.heap.size + 1 + 1 := by rw [eW2]; simp [hsz1]
          have hsrc : SrcAt W2 (some ⟨wc.heap.size + 1, 0, none⟩) 1 1 3 cs := by
            rw [eW2, ← hsz1]; exact SrcAt.new W1 (m := 1) (size := 3) (cs := cs) 65 (0, 0) hcok 1
          have hown2 : W2.ownsRow 0 65 3 sv done.length css.flatten := Only.own (Only.own HOW.out (Only.of_below_size hbc) (fun _ _ h => h)) o2 (fun _ _ h => h)
          have hA1 : Arr W1 (w.heap.size + 1) 3 [.bool true, .slice none 0 0, sv] := (HA.out.only (S := fun _ => False) (Only.of_below_size hbc) (fun h => h)).only o1 (fun h => h)
          have hA2 : Arr W2 (w.heap.size + 1) 3 [.bool true, .slice none 0 0, sv] := by rw [eW2]; exact hA1.alloc _
          have c13 := hA1.cell (i := 2) (by omega) (v := sv) rfl
          have r15 := hA15.row
          have f15 : (wc.alloc (.cells itemZ.toArray 65)).free? wc.heap.size 0 3 = true := itemZ_row wc
          obtain ⟨ra2, rc2, hsl2, hI3⟩ := slice_rest HIR.out k hkb.2
          have hlen2 : (rest.drop k).length = rest.length - k := List.length_drop
          have HSRC := Lib.hid hsrc
          have HOWN2 := Lib.hid hown2
          have HA2 := Lib.hid hA2
          have HKID := Lib.hid hkid
          have HKB := Lib.hid hkb
          have HI3 := Lib.hid hI3
          have HBC := Lib.hid hbc
          have HO2 := Lib.hid o2
          have HS2 := Lib.hid hsz2
          have HFR := Lib.hid fres
          have HQL := Lib.hid hql
          have HEQ2 : Hid (rds (rdT d) rest = match rds (rdT d) (rest.drop k) with | .inl e => .inl e | .inr l => .inr (t.kid :: l)) := rds_ok (rdT_reads d) hrest er
          have HL2 := Lib.hid hlen2
          rw [eW1] at c13 r15
          rw [eW2, eW1] at hown2 hsrc
          have HSRC1 := Lib.hid hsrc
          have HOWN1 := Lib.hid hown2
          have HW2 : Hid (W2 = ((wc.alloc (.cells itemZ.toArray 65)).setCells wc.heap.size 0 cs).alloc (.cells cs.toArray 65)) := by show _ = _; rw [eW2, eW1]
          clear er htop hkb hkid hbc hA15 hsz1 hsz2 hsrc hown2 hA1 hA2 o1 o2 eW1 eW2 hI3 hszr hszc hresl hql hlen2
          go_wp2_with (at_builtin; go_must (refine wpList_app elem59 rfl _ _ rfl HOWN1.out rfl HSRC1.out rfl ?c1 ?c2 ?c3))
          case c1 => have := HCN.out; unfold maxLen; omega
          case c2 => have := HCN.out; omega
          case c3 =>
            intro v' w' ho hO' hg'
            rw [← HW2.out] at hO'
            obtain ⟨va, vc, rfl⟩ := own_sl ho
            have hAw := HA2.out.only hO' (fun hh => by have := HGE.out _ hh; omega)
            have fq := hAw.free1 (i := 2) (by omega)
            obtain ⟨w9, e9⟩ : ∃ w9, w9 = w'.setCell ⟨w.heap.size + 1, 2, none⟩ (.slice va (done.length + 1) vc) := ⟨_, rfl⟩
            have HE9 := Lib.hid e9
            have hq9 : Only (· = w.heap.size + 1) w' w9 := by rw [e9]; exact only_cell w' (w.heap.size + 1) 2 _
            -- what turns from the call on
            have hT : Only (fun b => sv.ownBlock = some b ∨ b = w.heap.size + 1) wc w9 := ((HO2.out.mono (fun _ hh => hh.elim)).trans hO' (fun i hh _ => .inl hh)).trans hq9 (fun i hh _ => .inr hh)
            have hTr : Only (fun b => sv.ownBlock = some b ∨ b = w.heap.size + 1) wr w9 := (Only.of_below_size HBC.out).trans hT (fun i hh _ => hh)
            have hszc := HBC.out.size
            have hszr := HBW.out.size
            have hql := HQL.out
            have hgl : ∀ g, sv.ownBlock = some g → g < wr.heap.size := ownsRow_lt HOW.out
            have hgv : ∀ g, (Value.slice va (done.length + 1) vc).ownBlock = some g → sv.ownBlock = some g ∨ wc.heap.size + 1 + 1 ≤ g := hg'
            have hge9 : ∀ g, (Value.slice va (done.length + 1) vc).ownBlock = some g → w.heap.size + 1 < g := fun g hg => by
              rcases hgv g hg with h1 | h1
              · exact HGE.out g h1
              · omega
            have HNEW : Hid (RdLp w (w.heap.size + 1) (rdT d) X (.slice (some ⟨rb, ra2, none⟩) (rest.length - k) rc2) w9 (done ++ [t.kid]) (rest.drop k)) := by
              refine ⟨HBW.out.trans (hTr.below hszr (fun i hi => hi.elim (fun h1 => by have := HGE.out i h1; omega) (fun h1 => by omega))), ?_, ⟨_, rc2, by rw [HL2.out], HI3.out, _, rfl⟩, fun x hx => HBT.out x (List.mem_of_mem_drop hx), ?_, ⟨.slice va (done.length + 1) vc, css ++ [cs], ?_, ?_, hge9, ?_⟩, ?_⟩
              · rw [hT.free? (free?_lt HFR.out) (fun hh => hh.elim (fun h1 => by have := HGE.out _ h1; omega) (fun h1 => by omega))]; exact HFR.out
              · rw [HEQ.out, HEQ2.out]
                cases rds (rdT d) (rest.drop k) with
                | inl e => rfl
                | inr l => simp
              · rw [e9]; exact hAw.set (i := 2) (by omega) _
              · have h1 := Only.own ho hq9 (fun g hg hh => by have := hge9 g hg; have : g = w.heap.size + 1 := hh; omega)
                rw [List.flatten_append, List.length_append]
                simpa using h1
              · refine KidsAt.snoc (HK.out.only hTr (fun b hb hh hx => ?_) (fun b hb hh => ⟨hh.1, fun hx => ?_⟩)) (HKID.out.only hT (fun b hb hh hx => ?_) (fun b hb hh => ⟨by omega, fun hx => ?_⟩))
                · rcases hx with h1 | h1
                  · exact hh.2 h1
                  · omega
                · rcases hgv b hx with h1 | h1
                  · exact hh.2 h1
                  · omega
                · rcases hx with h1 | h1
                  · have := hgl b h1; omega
                  · omega
                · rcases hgv b hx with h1 | h1
                  · have := hgl b h1; omega
                  · omega
              · rw [HL2.out, List.length_append, List.length_singleton]
                have := HCN.out
                have := HKB.out
                omega
            clear ho hO' hg' hAw e9 hq9 hT hTr hszc hszr hql hgl hgv hge9
            go_wp2
            go_roundw
            case rel => exact ⟨done ++ [t.kid], rest.drop k, by have := HNEW.out; rw [HE9.out] at this; exact this⟩
            case measure => show rest.length - k < rest.length; have := HKB.out; omega
end Go.Proofs.YtikiciojfhfagaaGreat
