/-
  A range over a map whose keys are numbers: what has come and what is to come.
-/
import Derived.Test.YtiglinnjnobodaaGreatQMap
import Derived.Sort.MapsRangeIn
import Derived.RangeFuncSeq
set_option linter.unusedVariables false
set_option linter.unusedSimpArgs false
namespace Go.Mun
open Go.RowKit Go.Maps Go.ChangeMaps Go.MapKept Go.WideShapes
open Go.WideElems (Fit rg pl rd_key rd_val rg_of other_key)

/-- A map's values are not looked at. -/
def R0 (_ : Value) : Option (DataW Unit × List MemPlace) := some (.lit (.bool true), [])
section
variable {β : Type} {ke : Nat → Value} {N : Nat} {ve : β → Value} {w : World} {b : Nat} {L : List (Nat × β)} {P : Program} {k : TypeId}
theorem MapAt.owns (h : MapAt ke N ve w b L) (K : KeyEnc P k ke N) (hn : L.length ≤ maxLen) :
    ∃ D : DataW Unit, w.ownsMap P k R0 b L.length D ∧ Maps.size D = L.length ∧ (∀ kl, Maps.has D kl = true → ∃ a ∈ L.map Prod.fst, keyOf P k (ke a) = some kl) ∧ ∀ a ∈ L.map Prod.fst, ∀ kl, keyOf P k (ke a) = some kl → Maps.has D kl = true := by
  obtain ⟨es, clock, hb, he, hN, hs⟩ := h
  have hlen : es.size = L.length := by
    have := congrArg List.length he
    simpa using this
  have hkey : ∀ x ∈ es.toList, ∃ p ∈ L, x.key = ke p.1 := fun x hx => by
    have : (x.key, x.val) ∈ L.map (fun p => (ke p.1, ve p.2)) := he ▸ List.mem_map.2 ⟨x, hx, rfl⟩
    obtain ⟨p, hp, e⟩ := List.mem_map.1 this
    exact ⟨p, hp, (congrArg Prod.fst e).symm⟩
  have hkey2 : ∀ p ∈ L, ∃ x ∈ es.toList, x.key = ke p.1 := fun p hp => by
    have : (ke p.1, ve p.2) ∈ es.toList.map (fun e => (e.key, e.val)) := he ▸ List.mem_map.2 ⟨p, hp, rfl⟩
    obtain ⟨x, hx, e⟩ := List.mem_map.1 this
    exact ⟨x, hx, congrArg Prod.fst e⟩
  have hrd : ∀ x ∈ es.toList, ∀ p ∈ L, x.key = ke p.1 → ∀ kl, keyOf P k (ke p.1) = some kl → WideElems.rd P k R0 x = some (kl, .lit (.bool true)) := fun x hx p hp e kl hk => by
    unfold WideElems.rd
    rw [e, hk]
    rfl
  have F : Fit P k R0 es clock := ⟨by rw [hlen]; exact hn, hs, fun x hx => by
    obtain ⟨p, hp, e⟩ := hkey x hx
    obtain ⟨kl, hk⟩ := K.key p.1 (hN p hp)
    exact ⟨_, hrd x hx p hp e kl hk⟩⟩
  refine ⟨_, ⟨es, clock, hb, F, by rw [hlen]; exact Nat.le_refl _, rfl⟩, ?_, ?_, ?_⟩
  · simp [Maps.size, length_sorted, hlen]
  · intro kl hkl
    obtain ⟨q, hq, hqk⟩ := List.any_eq_true.1 hkl
    obtain ⟨x, hx, rfl⟩ := List.mem_map.1 (mem_sorted.1 hq)
    obtain ⟨p, hp, e⟩ := hkey x hx
    obtain ⟨kl', hk⟩ := K.key p.1 (hN p hp)
    have hr := hrd x hx p hp e kl' hk
    rw [rg_of hr] at hqk
    have := WideAt.sameKey_eq hqk
    refine ⟨p.1, List.mem_map.2 ⟨p, hp, rfl⟩, ?_⟩
    rw [hk]; exact congrArg some this
  · intro a ha kl hk
    obtain ⟨p, hp, rfl⟩ := List.mem_map.1 ha
    obtain ⟨x, hx, e⟩ := hkey2 p hp
    have hr := hrd x hx p hp e kl hk
    exact List.any_eq_true.2 ⟨rg P k R0 x, mem_sorted.2 (List.mem_map.2 ⟨x, hx, rfl⟩), by rw [rg_of hr]; exact WideAt.sameKey_self (K.keyed.key hk)⟩
/-- What has come of a map's keys; what is to come. -/
structure Came (P : Program) (k : TypeId) (ke : Nat → Value) (N : Nat) (ks : List Nat) (left : Lit → Bool) (ss : List Nat) : Prop where
  iff : ∀ a ∈ ks, ∀ kl, keyOf P k (ke a) = some kl → (left kl = true ↔ a ∉ ss)
  sub : ∀ a ∈ ss, a ∈ ks
  nod : ss.Nodup
  key : ∀ kl, left kl = true → ∃ a ∈ ks, keyOf P k (ke a) = some kl
theorem Came.start {ks : List Nat} {left : Lit → Bool} (h1 : ∀ kl, left kl = true → ∃ a ∈ ks, keyOf P k (ke a) = some kl) (h2 : ∀ a ∈ ks, ∀ kl, keyOf P k (ke a) = some kl → left kl = true) : Came P k ke N ks left [] :=
  ⟨fun a ha kl hk => ⟨fun _ => (by simp), fun _ => h2 a ha kl hk⟩, fun a ha => (by cases ha), List.nodup_nil, h1⟩
theorem Came.step {ks : List Nat} {left : Lit → Bool} {ss : List Nat} (h : Came P k ke N ks left ss) (K : KeyEnc P k ke N) (hN : ∀ a ∈ ks, a < N) {x : Value} {kl : Lit} (hx : keyOf P k x = some kl) (hl : left kl = true) :
    ∃ a ∈ ks, x = ke a ∧ a ∉ ss ∧ Came P k ke N ks (fun z => left z && !z.sameKey kl) (ss ++ [a]) := by
  obtain ⟨a, ha, hk⟩ := h.key kl hl
  have hns : a ∉ ss := (h.iff a ha kl hk).1 hl
  refine ⟨a, ha, K.keyed.inj hx hk, hns, ⟨?_, ?_, ?_, ?_⟩⟩
  · intro a' ha' kl' hk'
    have hiff : kl'.sameKey kl = true ↔ a' = a := by
      constructor
      · intro e
        have e2 := WideAt.sameKey_eq e
        rw [e2] at hk'
        exact K.inj a' a (hN a' ha') (hN a ha) (K.keyed.inj hk' hk)
      · rintro rfl
        rw [hk] at hk'
        cases hk'
        exact WideAt.sameKey_self (K.keyed.key hk)
    have h1 := h.iff a' ha' kl' hk'
    rw [Bool.and_eq_true, h1, List.mem_append, List.mem_singleton]
    constructor
    · rintro ⟨h2, h3⟩ h4
      rcases h4 with h4 | h4
      · exact h2 h4
      · have := hiff.2 h4
        rw [this] at h3
        cases h3
    · intro h2
      refine ⟨fun h3 => h2 (.inl h3), ?_⟩
      cases hs : kl'.sameKey kl with
      | false => rfl
      | true => exact absurd (.inr (hiff.1 hs)) h2
  · intro c hc
    rcases List.mem_append.1 hc with h1 | h1
    · exact h.sub c h1
    · rw [List.mem_singleton] at h1; rw [h1]; exact ha
  · rw [List.nodup_append]
    refine ⟨h.nod, by simp, ?_⟩
    intro x hx y hy
    rw [List.mem_singleton] at hy
    subst hy
    rintro rfl
    exact hns hx
  · intro kl' hl'
    rw [Bool.and_eq_true] at hl'
    exact h.key kl' hl'.1
theorem Came.perm {ks : List Nat} {left : Lit → Bool} {ss : List Nat} (h : Came P k ke N ks left ss) (K : KeyEnc P k ke N) (hN : ∀ a ∈ ks, a < N) (hd : ks.Nodup) (hl : ∀ kl, left kl = false) : ss.Perm ks := by
  refine (List.perm_ext_iff_of_nodup h.nod hd).2 fun a => ⟨h.sub a, fun ha => ?_⟩
  obtain ⟨kl, hk⟩ := K.key a (hN a ha)
  have := h.iff a ha kl hk
  rw [hl kl] at this
  by_cases hm : a ∈ ss
  · exact hm
  · exact absurd (this.2 hm) (by simp)
end
end Go.Mun
