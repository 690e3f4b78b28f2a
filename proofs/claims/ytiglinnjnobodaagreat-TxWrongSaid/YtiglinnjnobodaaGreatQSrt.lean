/-
  DERIVED: THE SHELF's CONTRACTS AT THIS DUMP, IN PLAIN WORDS (tools/lay-plain.mjs out of 'YtiglinnjnobodaaGreatSrt0.lean', which tools/lay-shelf.mjs wrote): THE SAME DECLARATIONS UNDER THE SAME NAMES: 'import', 'namespace', 'open', 'def', 'theorem' AND NOTHING ELSE: no command of the shelf's: FOR A HAND-IN. Each laying: the table of numbers ('.._ren') and one theorem, a field a fact of the dump's own or the kernel's comparison; each contract: ONE APPLICATION.
  slices.SortFunc over addresses: the slice holds them in their order.
  The keys of a map of accounts, in their order.
-/
import Derived.Shelf.SlGeneric
import Derived.Shelf.SlSortCmp.NoneTotal
import Derived.Ground.SlsfProg
import Derived.Test.YtiglinnjnobodaaGreatProg
import Derived.Test.YtiglinnjnobodaaGreatQCmb
import Derived.Lib.Hide
import Derived.Test.YtiglinnjnobodaaGreatQItr1
set_option linter.unusedVariables false
set_option linter.unusedSimpArgs false
namespace Go.Proofs
open Go.Shelf
def Tryz.sortA_ren : Go.Shelf.Ren := ⟨fun | 6 => 115 | 15 => 214 | 14 => 213 | 28 => 298 | 29 => 299 | 20 => 290 | 21 => 291 | 22 => 292 | 23 => 293 | 24 => 294 | 25 => 295 | 26 => 296 | 27 => 297 | 46 => 358 | 47 => 359 | 48 => 360 | 49 => 361 | 50 => 362 | 57 => 379 | n => n, fun | 22 => 122 | 24 => 23 | 25 => 128 | 3 => 3 | 39 => 110 | 0 => 0 | 53 => 306 | 55 => 148 | 4 => 4 | 46 => 300 | 45 => 299 | 50 => 143 | 5 => 5 | 9 => 9 | 66 => 337 | 70 => 341 | 76 => 353 | 77 => 354 | n => n, fun | n => n⟩
theorem Tryz.sortA : Go.Proofs.SlLaysF0.n6 Tryz.prog Tryz.sortA_ren := {
  mixed := by kernel_rfl
  f6 := ⟨Tryz.f115.name, by decide, Tryz.func115.trans (congrArg some (by kernel_rfl))⟩
  f14 := ⟨Tryz.f213.name, by decide, Tryz.func213.trans (congrArg some (by kernel_rfl))⟩
  f15 := Tryz.func214.trans (congrArg some (by kernel_rfl))
  f20 := ⟨Tryz.f290.name, by decide, Tryz.func290.trans (congrArg some (by kernel_rfl))⟩
  f21 := ⟨Tryz.f291.name, by decide, Tryz.func291.trans (congrArg some (by kernel_rfl))⟩
  f22 := ⟨Tryz.f292.name, by decide, Tryz.func292.trans (congrArg some (by kernel_rfl))⟩
  f23 := ⟨Tryz.f293.name, by decide, Tryz.func293.trans (congrArg some (by kernel_rfl))⟩
  f24 := ⟨Tryz.f294.name, by decide, Tryz.func294.trans (congrArg some (by kernel_rfl))⟩
  f25 := ⟨Tryz.f295.name, by decide, Tryz.func295.trans (congrArg some (by kernel_rfl))⟩
  f26 := ⟨Tryz.f296.name, by decide, Tryz.func296.trans (congrArg some (by kernel_rfl))⟩
  f27 := ⟨Tryz.f297.name, by decide, Tryz.func297.trans (congrArg some (by kernel_rfl))⟩
  f28 := Tryz.func298.trans (congrArg some (by kernel_rfl))
  f29 := Tryz.func299.trans (congrArg some (by kernel_rfl))
  f46 := ⟨Tryz.f358.name, by decide, Tryz.func358.trans (congrArg some (by kernel_rfl))⟩
  f47 := Tryz.func359.trans (congrArg some (by kernel_rfl))
  f48 := Tryz.func360.trans (congrArg some (by kernel_rfl))
  f49 := ⟨Tryz.f361.name, by decide, Tryz.func361.trans (congrArg some (by kernel_rfl))⟩
  f50 := ⟨Tryz.f362.name, by decide, Tryz.func362.trans (congrArg some (by kernel_rfl))⟩
  f57 := ⟨Tryz.f379.name, by decide, Tryz.func379.trans (congrArg some (by kernel_rfl))⟩
  t0 := Tryz.underlying0
  a0 := Tryz.isAgg0
  z0 := Tryz.sizeOf0
  v0 := Tryz.zeroValue0
  t3 := Tryz.underlying3
  a3 := Tryz.isAgg3
  z3 := Tryz.sizeOf3
  v3 := Tryz.zeroValue3
  t4 := Tryz.underlying4
  a4 := Tryz.isAgg4
  z4 := Tryz.sizeOf4
  v4 := Tryz.zeroValue4
  t5 := Tryz.underlying5
  a5 := Tryz.isAgg5
  z5 := Tryz.sizeOf5
  v5 := Tryz.zeroValue5
  t9 := Tryz.underlying9
  a9 := Tryz.isAgg9
  z9 := Tryz.sizeOf9
  v9 := Tryz.zeroValue9
  t22 := Tryz.underlying122
  a22 := Tryz.isAgg122
  z22 := Tryz.sizeOf122
  v22 := Tryz.zeroValue122
  t25 := Tryz.underlying128
  a25 := Tryz.isAgg128
  z25 := Tryz.sizeOf128
  v25 := Tryz.zeroValue128
  t39 := Tryz.underlying110
  a39 := Tryz.isAgg110
  z39 := Tryz.sizeOf110
  v39 := Tryz.zeroValue110
  t45 := Tryz.underlying299
  a45 := Tryz.isAgg299
  z45 := Tryz.sizeOf299
  v45 := Tryz.zeroValue299
  t46 := Tryz.underlying300
  a46 := Tryz.isAgg300
  z46 := Tryz.sizeOf300
  v46 := Tryz.zeroValue300
  t50 := Tryz.underlying143
  a50 := Tryz.isAgg143
  z50 := Tryz.sizeOf143
  v50 := Tryz.zeroValue143
  t53 := Tryz.underlying306
  a53 := Tryz.isAgg306
  z53 := Tryz.sizeOf306
  v53 := Tryz.zeroValue306
  t55 := Tryz.underlying148
  a55 := Tryz.isAgg148
  z55 := Tryz.sizeOf148
  v55 := Tryz.zeroValue148
  t66 := Tryz.underlying337
  a66 := Tryz.isAgg337
  z66 := Tryz.sizeOf337
  v66 := Tryz.zeroValue337
  t70 := Tryz.underlying341
  a70 := Tryz.isAgg341
  z70 := Tryz.sizeOf341
  v70 := Tryz.zeroValue341
  t76 := Tryz.underlying353
  a76 := Tryz.isAgg353
  z76 := Tryz.sizeOf353
  v76 := Tryz.zeroValue353
  t77 := Tryz.underlying354
  a77 := Tryz.isAgg354
  z77 := Tryz.sizeOf354
  v77 := Tryz.zeroValue354 }
end Go.Proofs
namespace Go.Mun
open Go.RowKit Go.Sort
open Go.Proofs (ltOf)
/-- An address. -/
abbrev AdrT := { x : Nat // x < wA }
instance : Inhabited AdrT := ⟨⟨0, by unfold wA; decide⟩⟩
def adE (x : AdrT) : List Value := beC 20 x.1
theorem adE_len (x : AdrT) : (adE x).length = 20 := beC_len _ _
def adC (x y : AdrT) : Int := cmpZ x.1 y.1
theorem adC_lt (x y : AdrT) : ltOf adC x y = decide (x.1 < y.1) := by
  unfold ltOf adC cmpZ
  by_cases h : x.1 < y.1
  · simp [h]
  · simp only [h, if_false]
    by_cases h2 : y.1 < x.1 <;> simp [h2]
theorem adC_swo : SWO (ltOf adC) := by
  refine ⟨fun x => ?_, fun x y z h1 h2 => ?_, fun x y z h1 h2 => ?_⟩ <;> simp only [adC_lt, decide_eq_true_eq, decide_eq_false_iff_not] at * <;> omega
theorem adC_tot (x y : AdrT) (h1 : ltOf adC x y = false) (h2 : ltOf adC y x = false) : x = y := by
  simp only [adC_lt, decide_eq_false_iff_not] at h1 h2
  exact Subtype.ext (by omega)
theorem adrC_at : ∀ (l : List AdrT) (t : Nat), t < l.length * 20 → (adrC (l.map Subtype.val))[t]? = some ((adE l[t / 20]!)[t % 20]!)
  | [], t, h => by simp at h
  | a :: l, t, h => by
    have h2 : adrC ((a :: l).map Subtype.val) = adE a ++ adrC (l.map Subtype.val) := by simp [adrC, adE]
    rw [h2]
    by_cases ht : t < 20
    · rw [List.getElem?_append_left (by rw [adE_len]; exact ht), Nat.div_eq_of_lt ht, Nat.mod_eq_of_lt ht]
      have hl : t < (adE a).length := by rw [adE_len]; exact ht
      simp [List.getElem!_eq_getElem?_getD, hl]
    · obtain ⟨u, rfl⟩ : ∃ u, t = u + 20 := ⟨t - 20, by omega⟩
      rw [List.getElem?_append_right (by rw [adE_len]; omega), adE_len, Nat.add_sub_cancel, adrC_at l u (by simp at h; omega)]
      rw [Nat.add_div_right u (by decide), Nat.add_mod_right]
      simp
theorem flat_adrC (l : List AdrT) : (flatK adE 20 l.toArray).toList = adrC (l.map Subtype.val) := by
  apply List.ext_getElem?
  intro t
  by_cases ht : t < l.length * 20
  · rw [adrC_at l t ht]
    have hs : t < (flatK adE 20 l.toArray).size := by simpa using ht
    have := get_flatK adE 20 l.toArray t (by simpa using ht)
    rw [getElem!_pos _ t hs] at this
    rw [Array.getElem?_toList, Array.getElem?_eq_getElem hs, this]
    simp
  · rw [List.getElem?_eq_none (by simp; omega), List.getElem?_eq_none (by simp; omega)]
/-- A row is laid anew. -/
theorem own_put {w : World} {n₀ g n cap size : Nat} {e : TypeId} {xs : List Value} (h : w.ownsRow n₀ e size (.slice (some ⟨g, 0, none⟩) n cap) n xs) (F : Array Value) (hF : F.size = n * size) (m : Nat) (os : Array Obj) :
    (grow (putRow id (Go.Sort.ahead w m) g 0 F) os).ownsRow n₀ e size (.slice (some ⟨g, 0, none⟩) n cap) n F.toList := by
  rcases h.2 with ⟨h1, _⟩ | ⟨g', cap', cur, h1, hb, hh, hn, hm, hs, ht⟩
  · cases h1
  cases h1
  refine ⟨by simpa using hF, .inr ⟨g, cap, putCells id 0 F cur, rfl, hb, ?_, hn, hm, by simpa [putCells] using hs, ?_⟩⟩
  · have hlt := (Array.getElem?_eq_some_iff.1 hh).1
    have hh2 : (Go.Sort.ahead w m).heap[g]? = some (.cells cur e (0, 0)) := hh
    show ((putRow id (Go.Sort.ahead w m) g 0 F).heap ++ os)[g]? = _
    rw [Array.getElem?_append_left (by rw [size_putRow]; exact hlt)]
    show ((Go.Sort.ahead w m).heap.modify g (onCells (putCells id 0 F)))[g]? = _
    rw [Array.getElem?_modify, hh2]
    simp [onCells]
  · apply List.ext_getElem?
    intro i
    have hle : n * size ≤ cap * size := Nat.mul_le_mul_right _ hn
    rw [List.getElem?_take]
    by_cases hi : i < n * size
    · rw [if_pos hi]
      have hic : i < cur.size := by omega
      have hiF : i < F.size := by omega
      simp [putCells, hic, hiF, getElem!_pos]
    · rw [if_neg hi]
      have hiF : ¬ i < F.size := by omega
      simp [hiF]
end Go.Mun
namespace Go.Proofs.YtiglinnjnobodaaGreat
open Go.RowKit Go.Mun Go.Sort
theorem isAgg23 (w : World) : (isAgg 23).run Tryz.prog w = .ok true w := by kernel_rfl
theorem sizeOf23 (w : World) : (Go.sizeOf 23).run Tryz.prog w = .ok 20 w := by kernel_rfl
theorem slices_SortFunc {w : World} {v : Value} {n₀ : Nat} {ss : List Nat} (hs : ∀ a ∈ ss, a < wA) (hown : w.ownsRow n₀ 23 20 v ss.length (adrC ss)) (hsz : ss.length ≤ 4000000) :
    Calls Tryz.prog 115 #[v, .func (.func 72) #[] #[]] w fun e w' => e = .returned (.tuple #[]) ∧ ∃ rs : List Nat, rs.Perm ss ∧ rs.Pairwise (· ≤ ·) ∧ w'.ownsRow n₀ 23 20 v ss.length (adrC rs) ∧ Below n₀ w w' := by
  have hcase := hown.2
  rcases hcase with ⟨rfl, h0⟩ | ⟨g, cap, cur, rfl, hb, hh, hn, hm, hcs, ht⟩
  · have he : ss = [] := List.eq_nil_of_length_eq_zero h0
    subst he
    have hc := AnyF.slices_SortFunc_none Tryz.sortA none 0 (.func (.func 72) #[] #[]) w
    refine Calls.mono hc ?_
    rintro e w' ⟨rfl, rfl⟩
    exact ⟨rfl, [], List.Perm.refl _, List.Pairwise.nil, hown, Below.refl _ _⟩
  · obtain ⟨l, hl⟩ : ∃ l : List AdrT, l.map Subtype.val = ss := ⟨ss.attach.map fun a => ⟨a.1, hs a.1 a.2⟩, by simp⟩
    have hll : l.length = ss.length := by rw [← hl]; simp
    have hlt : g < w.heap.size := (Array.getElem?_eq_some_iff.1 hh).1
    have hfl := flat_adrC l
    rw [hl] at hfl
    have hH : HoldsK adE 20 w g 0 l.toArray := by
      intro j hj
      have hj' : j < (adrC ss).length := by simpa [hll] using hj
      have hgj : (adrC ss)[j]? = some ((flatK adE 20 l.toArray)[j]!) := by
        rw [← hfl, Array.getElem?_toList, getElem!_pos _ j hj, Array.getElem?_eq_getElem hj]
      constructor
      · rw [Nat.zero_add]
        show _ = some ((flatK adE 20 l.toArray)[j]!)
        rw [← hgj, ← ht, List.getElem?_take, if_pos (by simpa using hj'), Array.getElem?_toList]
        unfold World.cell?
        simp only [hh]
        rfl
      · unfold World.frozen?
        simp only [hh]
        simp
    have eg : ∀ args w, (callFunc 72 args).run Tryz.prog w = .ok (.enter 72 args) w := enters_of Tryz.func72 (by kernel_rfl) rfl
    have hcmp : CmpLays Tryz.prog 72 #[] adE 20 adC g 0 l.toArray.size w := fun _ _ _ _ x y => closure72 x.1 y.1 x.2 y.2 _
    have hc := AnyQ.slices_SortFunc_total Tryz.sortA 20 isAgg23 sizeOf23 adE adE_len (fun x => okL_mem (beC_ok 20 x.1)) adC adC_swo 72 #[] g 0 cap l.toArray w eg hcmp hH hlt (by simp; omega) adC_tot
    have hcs2 : l.toArray.size = ss.length := by simp [hll]
    rw [hcs2] at hc
    refine Calls.mono hc ?_
    rintro e w' ⟨rfl, m, os, rfl⟩
    refine ⟨rfl, (l.mergeSort fun x y => !(ltOf adC) y x).map Subtype.val, ?_, ?_, ?_, ?_⟩
    · rw [← hl]; exact (List.mergeSort_perm l _).map _
    · rw [List.pairwise_map]
      refine (List.pairwise_mergeSort (le := fun x y : AdrT => !(ltOf adC) y x) ?_ ?_ l).imp ?_
      · intro a b c; simp only [adC_lt, Bool.not_eq_true', decide_eq_false_iff_not]; omega
      · intro a b; simp only [adC_lt, Bool.or_eq_true, Bool.not_eq_true', decide_eq_false_iff_not]; omega
      · intro a b; simp only [adC_lt, Bool.not_eq_true', decide_eq_false_iff_not]; omega
    · rw [← flat_adrC]
      exact own_put hown _ (by rw [size_flatK]; simp [hll]) m os
    · refine ⟨rfl, rfl, rfl, ?_, fun k hk => ?_⟩
      · show w.heap.size ≤ ((putRowK adE 20 (Go.Sort.ahead w m) g 0 _).heap ++ os).size
        rw [Array.size_append]
        unfold putRowK
        rw [size_putRow]
        show w.heap.size ≤ w.heap.size + _
        omega
      · show ((w.heap.modify g (onCells _)) ++ os)[k]? = _
        rw [Array.getElem?_append_left (by rw [Array.size_modify]; omega), Array.getElem?_modify, if_neg (by omega)]
end Go.Proofs.YtiglinnjnobodaaGreat
namespace Go.Proofs.YtiglinnjnobodaaGreat
open Go.RowKit Go.Mun Go.Maps Go.Shelf
set_option maxRecDepth 100000 in
set_option maxHeartbeats 1000000 in
theorem collect114 (F : Fence) (n : Nat) (hF0 : F.fn 114) (hF : F.fn 212) (hG : F.fn 116) (hro : F.round = none) (hn : 4 ≤ n) (Bm : Nat) (ks : List Nat) (w : World) (hN : ks.length ≤ 4000000)
    (hseq : ∀ w' : World, Below w.heap.size w w' → SeqStopsK F (n - 1 - 1) Tryz.prog 116 #[.pointer (some ⟨Bm, 0, none⟩)] (fun a : Nat => #[adV a]) KeepsWalks (fun ss => ss.Perm ks) (fun _ => True) ks.length w') :
    CallsIn F n Tryz.prog 114 #[.func (.func 116) #[] #[.pointer (some ⟨Bm, 0, none⟩)]] w fun e W' => ∃ v ss, e = .returned v ∧ ss.Perm ks ∧ W'.ownsRow w.heap.size 23 20 v ss.length (adrC ss) ∧ (v = .slice none 0 0 ↔ ss = []) ∧ Below w.heap.size w W' := by
  refine callsIn_of_wp Tryz.func114 rfl hF0 ?_ hro
  have hap := appendSeq212 F (n - 1) hF hG hro (by omega) Bm ks w hN hseq
  clear hseq
  have h1 : 1 ≤ n := by omega
  simp only [Tryz.ntmps114, List.size_toArray, List.length_cons, List.length_nil, Nat.reduceAdd, Nat.reduceSub, Array.replicate_succ, Array.replicate_zero, List.push_toArray, List.append_toArray, List.nil_append, List.cons_append]
  gi_wp2_with (gi_at_call 212; refine hap.mono ?_; rintro e w' ⟨v, ss, rfl, hp, hrow, hnil, hB⟩)
  go_ret
  exact ⟨v, ss, rfl, hp, hrow, hnil, hB⟩
theorem collect_plain (Bm b nn : Nat) (D : DataW Unit) (ks : List Nat) (w : World) (hks : ∀ a ∈ ks, a < wA) (hd : ks.Nodup) (hN : ks.length ≤ 4000000) (hsz : Maps.size D = ks.length)
    (h1 : ∀ kl, Maps.has D kl = true → ∃ a ∈ ks, keyOf Tryz.prog 23 (adV a) = some kl) (h2 : ∀ a ∈ ks, ∀ kl, keyOf Tryz.prog 23 (adV a) = some kl → Maps.has D kl = true)
    (hBm : Bm < w.heap.size) (hm : w.cell? ⟨Bm, 0, none⟩ = some (.map (some b))) (hown : w.ownsMap Tryz.prog 23 R0 b nn D) :
    Calls Tryz.prog 114 #[.func (.func 116) #[] #[.pointer (some ⟨Bm, 0, none⟩)]] w fun e W' => ∃ v ss, e = .returned v ∧ ss.Perm ks ∧ W'.ownsRow w.heap.size 23 20 v ss.length (adrC ss) ∧ (v = .slice none 0 0 ↔ ss = []) ∧ Below w.heap.size w W' := by
  refine (callsIn_wide (n := 4)).1 (collect114 Fence.wide 4 trivial trivial trivial rfl (by omega) Bm ks w hN fun w' hb => ?_)
  refine keys116 Fence.wide 2 trivial rfl (by omega) Bm b nn D ks w' hks hd hsz h1 h2 (Nat.lt_of_lt_of_le hBm hb.size) ((hb.cell (p := ⟨Bm, 0, none⟩) hBm).trans hm) ?_
  have hbl := hown.lt
  obtain ⟨es, clock, hbk, Ft, hs, hD⟩ := hown
  exact ⟨es, clock, (hb.block b hbl).trans hbk, Ft, hs, hD⟩
set_option maxHeartbeats 1000000 in
/-- maps.Keys: the map is boxed. -/
theorem maps_Keys (m : Value) (w : World) (hm : m.oneCell' = true) : Calls Tryz.prog 71 #[m] w fun e w' => e = .returned (.func (.func 116) #[] #[.pointer (some ⟨w.heap.size, 0, none⟩)]) ∧ w' = w.alloc (.cells #[m] 89) := by
  go_enter Tryz.func71, Tryz.ntmps71
  go_wp2
  go_ret
  exact ⟨rfl, rfl⟩
set_option maxHeartbeats 1000000 in
/-- slices.SortedFunc over what Collect brings. -/
theorem sortedFunc70 (sv : Value) (ks : List Nat) (w : World) (hks : ∀ a ∈ ks, a < wA) (hN : ks.length ≤ 4000000)
    (hcol : Calls Tryz.prog 114 #[sv] w fun e W' => ∃ v ss, e = .returned v ∧ ss.Perm ks ∧ W'.ownsRow w.heap.size 23 20 v ss.length (adrC ss) ∧ (v = .slice none 0 0 ↔ ss = []) ∧ Below w.heap.size w W') :
    Calls Tryz.prog 70 #[sv, .func (.func 72) #[] #[]] w fun e W' => ∃ v ss, e = .returned v ∧ ss.Perm ks ∧ ss.Pairwise (· ≤ ·) ∧ W'.ownsRow w.heap.size 23 20 v ss.length (adrC ss) ∧ Below w.heap.size w W' := by
  have HS := Lib.hid (fun (W : World) (v : Value) (ss : List Nat) (hp : ss.Perm ks) (hr : W.ownsRow w.heap.size 23 20 v ss.length (adrC ss)) => slices_SortFunc (w := W) (fun a ha => hks a (hp.mem_iff.1 ha)) hr (by rw [hp.length_eq]; exact hN))
  clear hks hN
  go_enter Tryz.func70, Tryz.ntmps70
  go_wp2_with (first
    | (go_at_call 114; refine hcol.mono ?_; rintro e w1 ⟨v, ss, rfl, hp, hrow, hnil, hB⟩; clear hnil)
    | (go_at_call 115; refine (HS.out _ v ss hp hrow).mono ?_; rintro e w2 ⟨rfl, rs, hp2, hpw, hrow2, hB2⟩))
  go_ret
  exact ⟨v, rs, rfl, hp2.trans hp, hpw, by rw [hp2.length_eq]; exact hrow2, hB.trans hB2⟩
end Go.Proofs.YtiglinnjnobodaaGreat
