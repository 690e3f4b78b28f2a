/-
  The walk of the law GenAccounts: it returns true and leaves old memory alone, for every number.
-/
import Derived.Test.YtaoacfkifcglfaaSame
namespace Go.Proofs.Ytaoacfkifcglfaa
open Go.RowKit Go.Mun
attribute [local irreducible] be beC zU8 ofW acctC

theorem AcctAt.below {w w' : World} {A : Acct} {cs : List Value} (h : AcctAt w A cs) (hb : Below w.heap.size w w') : AcctAt w' A cs := by
  obtain ⟨ca, cc, sa, sc, h1, h2, h3⟩ := h
  exact ⟨ca, cc, sa, sc, h1, h2.below hb, h3.below hb⟩

/-- A slice of accounts as it is read. -/
structure AcctsAt (w : World) (a : Option Addr) (c : Nat) (l : List Acct) : Prop where
  cell : l ≠ [] → ∃ b off, a = some ⟨b, off, none⟩ ∧ ∀ i A, l[i]? = some A → ∃ cs, w.row? b (off + i * 55) 55 = some cs ∧ AcctAt w A cs
  len : l.length ≤ c
  cap : c ≤ maxLen

theorem AcctsAt.below {w w' : World} {a : Option Addr} {c : Nat} {l : List Acct} (h : AcctsAt w a c l) (hb : Below w.heap.size w w') : AcctsAt w' a c l := by
  refine ⟨fun hn => ?_, h.len, h.cap⟩
  obtain ⟨b, off, ha, hc⟩ := h.cell hn
  refine ⟨b, off, ha, fun i A hi => ?_⟩
  obtain ⟨cs, h1, h2⟩ := hc i A hi
  exact ⟨cs, by rw [(brow hb).1 _ _ _ (World.row?_lt h1)]; exact h1, h2.below hb⟩

set_option maxHeartbeats 400000 in
theorem same_accounts (l : List Acct) (a b : Option Addr) (ca cb : Nat) (w : World) (ha : AcctsAt w a ca l) (hb : AcctsAt w b cb l) :
    Calls Try.prog 17 #[.slice a l.length ca, .slice b l.length cb] w fun e w' => e = .returned (.bool true) ∧ Below w.heap.size w w' := by
  have hl := Nat.le_trans ha.len ha.cap
  unfold maxLen at hl
  have HA := Lib.hid ha
  have HB := Lib.hid hb
  clear ha hb
  go_enter Try.func17, Try.ntmps17
  go_wp2
  go_loopw [5] (fun i wr => ∃ k : Nat, k ≤ l.length ∧ i = .int .i64 k ∧ Below w.heap.size w wr) (fun i _ => l.length - (intOf i).toNat)
  case atStart => exact ⟨0, by omega, rfl, Below.refl _ _⟩
  case round =>
    obtain ⟨k, hk, rfl, hb⟩ := hrel
    by_cases hlt : k < l.length
    · have hne : l ≠ [] := by intro h; rw [h] at hlt; simp at hlt
      obtain ⟨b1, o1, rfl, r1⟩ := (HA.out.below hb).cell hne
      obtain ⟨b2, o2, rfl, r2⟩ := (HB.out.below hb).cell hne
      obtain ⟨A, hkv⟩ : ∃ p, l[k]? = some p := ⟨_, List.getElem?_eq_getElem hlt⟩
      obtain ⟨cs, q1, t1⟩ := r1 k A hkv
      obtain ⟨ds, q2, t2⟩ := r2 k A hkv
      have l1 := World.row?_lt q1
      have l2 := World.row?_lt q2
      clear r1 r2 hkv hne
      have T1 := Lib.hid t1
      have T2 := Lib.hid t2
      clear t1 t2
      go_wp2
      go_region_held3 (fun w' => w'.row? b1 (o1 + k * 55) 55 = some cs ∧ w'.row? b2 (o2 + k * 55) 55 = some ds) (first | exact ⟨q1, q2⟩ | exact ⟨(hk1 _ _ _ l1).trans q1, (hk1 _ _ _ l2).trans q2⟩)
        (first | (go_at_call 24; refine (same_account A cs ds _ (T1.out.below (Below.refl _ _).drew) (T2.out.below (Below.refl _ _).drew)).mono ?_; rintro e w1 ⟨rfl, hb1⟩; have hk1 := (brow hb1).1))
      have hb2 : Below w.heap.size w w1 := (hb.drew).trans (hb1.mono hb.size)
      clear hb1 hk1 q1 q2
      go_wp2
      go_roundw
      case rel => exact ⟨k + 1, by omega, by go_num, by first | exact hb2 | exact hb2.drew⟩
      case measure => simp [intOf]; omega
    · go_wp2
      go_ret
      exact ⟨rfl, hb⟩

theorem same_accounts_len (l : List Acct) (la lb : Nat) (hla : la = l.length) (hlb : lb = l.length) (a b : Option Addr) (ca cb : Nat) (w : World) (ha : AcctsAt w a ca l) (hb : AcctsAt w b cb l) :
    Calls Try.prog 17 #[.slice a la ca, .slice b lb cb] w fun e w' => e = .returned (.bool true) ∧ Below w.heap.size w w' := by
  subst hla hlb; exact same_accounts l a b ca cb w ha hb

def gAcct (i : Nat) : Acct := { addr := i + 1, nonce := 0, bal := K18, code := if (i + 1) % 3 = 0 then codeV else [], slots := [] }

theorem GA.acct {w : World} {i : Nat} {cs : List Value} (h : GA w i cs) : AcctAt w (gAcct i) cs := by
  obtain ⟨cv, rfl, h2⟩ := h
  rcases h2 with ⟨h3, g, rfl, h5⟩ | ⟨h3, rfl⟩
  · refine ⟨some ⟨g, 0, none⟩, 7, none, 0, ?_, ?_, ⟨fun h => absurd rfl h, Nat.le_refl _, by simp⟩⟩
    · simp [gAcct, h3, codeV]
    · have e : (gAcct i).code = codeV := by simp [gAcct, h3]
      rw [e]
      refine ⟨fun _ => ⟨g, 0, rfl, fun j hj => ?_⟩, fun h => by simp at h, by simp [codeV], by unfold maxLen; omega⟩
      rw [cell_of_row w g (0 + j) _ 5 (0, 0) h5]
      simp [hj]
  · refine ⟨none, 0, none, 0, ?_, ?_, ⟨fun h => absurd rfl h, Nat.le_refl _, by simp⟩⟩
    · simp [gAcct, h3]
    · have e : (gAcct i).code = [] := by simp [gAcct, h3]
      rw [e]
      exact ⟨fun h => absurd rfl h, fun _ => rfl, Nat.le_refl _, by simp⟩

theorem GA.len {w : World} {i : Nat} {cs : List Value} (h : GA w i cs) : cs.length = 55 := by
  obtain ⟨cv, rfl, h2⟩ := h
  simp [acctC]

theorem AccRel.accts {B k : Nat} {w wr : World} {v : Value} (h : AccRel B k w wr v) : ∃ a c, v = .slice a k c ∧ AcctsAt wr a c ((List.range k).map gAcct) := by
  obtain ⟨_, css, h1, h2, h3⟩ := h
  have hlen : ∀ c ∈ css, c.length = 55 := fun c hc => by
    obtain ⟨i, hi, rfl⟩ := List.getElem_of_mem hc
    exact (h3 i _ (List.getElem?_eq_getElem hi)).len
  obtain ⟨a, c, h4, h5, h6, h7⟩ := own_rows h2 h1 hlen
  refine ⟨a, c, h4, fun hn => ?_, by simpa using h5, h6⟩
  obtain ⟨g, h8, h9⟩ := h7 (by rintro rfl; simp at hn)
  refine ⟨g, 0, h8, fun i A hi => ?_⟩
  simp only [List.getElem?_map, Option.map_eq_some_iff] at hi
  obtain ⟨j, hj, rfl⟩ := hi
  obtain ⟨hjk, hji⟩ := List.getElem?_eq_some_iff.1 hj
  simp at hji hjk
  subst hji
  have hic : css[i]? = some css[i] := List.getElem?_eq_getElem (by omega)
  exact ⟨css[i], h9 i _ hic, (h3 i _ hic).acct⟩

theorem genaccounts_any (n : Int) (w : World) : Calls Try.prog 6 #[.int .i64 n] w fun e w' => e = .returned (.bool true) ∧ Below w.heap.size w w' := by
  obtain ⟨m, hm⟩ : ∃ m : Nat, min (max 0 n) 100 = (m : Int) := ⟨(min (max 0 n) 100).toNat, by omega⟩
  have HM := Lib.hid hm
  clear hm
  go_enter Try.func6, Try.ntmps6
  go_wp2_with fail
  refine (alive_any _).mono ?_
  rintro e w1 ⟨rfl, hb1⟩
  go_wp2_with fail
  refine (gen_accounts n m _ HM.out).mono ?_
  rintro e w2 ⟨v, rfl, hr⟩
  have hb2 := hr.below
  obtain ⟨a, c, rfl, hA⟩ := hr.accts
  have HA := Lib.hid hA
  clear hA hr
  go_wp2_with fail
  refine (ref_accounts_n n m _ HM.out).mono ?_
  rintro e w3 ⟨v, rfl, hr⟩
  have hb3 := hr.below
  obtain ⟨b, d, rfl, hB⟩ := hr.accts
  have HB := Lib.hid hB
  clear hB hr
  go_wp2_with fail
  refine (same_accounts_len ((List.range m).map gAcct) m m (by simp) (by simp) a b c d _ (HA.out.below hb3) HB.out).mono ?_
  rintro e w4 ⟨rfl, hb4⟩
  go_wp2_with fail
  go_ret
  have s1 := hb1.size
  have s2 := hb2.size
  have s3 := hb3.size
  exact ⟨rfl, ((hb1.trans (hb2.mono s1)).trans (hb3.mono (by omega))).trans (hb4.mono (by omega))⟩
end Go.Proofs.Ytaoacfkifcglfaa
