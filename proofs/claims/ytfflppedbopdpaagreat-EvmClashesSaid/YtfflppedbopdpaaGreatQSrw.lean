/-
  DERIVED: THE SHELF's CONTRACTS AT THIS DUMP, IN PLAIN WORDS (tools/lay-plain.mjs out of 'YtfflppedbopdpaaGreatSrw0.lean', which tools/lay-shelf.mjs wrote): THE SAME DECLARATIONS UNDER THE SAME NAMES: 'import', 'namespace', 'open', 'def', 'theorem' AND NOTHING ELSE: no command of the shelf's: FOR A HAND-IN. Each laying: the table of numbers ('.._ren') and one theorem, a field a fact of the dump's own or the kernel's comparison; each contract: ONE APPLICATION.
  The keys of a slots map that holds nothing, in their order: none.
  The zero account, built; slices of accounts.
  What State.Accounts hands back: the accounts that are something, in their order (where none has slots).
  State.Accounts, where no account has slots.
  The reference's state in plain words: accounts by rising address.
  How the reference's state lies in memory.
-/
import Derived.Shelf.SlGeneric
import Derived.Shelf.SlSortCmp.NoneTotal
import Derived.Ground.SlsfProg
import Derived.Test.YtfflppedbopdpaaGreatProg
import Derived.Test.YtfflppedbopdpaaGreatQCx0
import Derived.Test.YtfflppedbopdpaaGreatQRef1
import Derived.Test.YtfflppedbopdpaaGreatQEv1
import Derived.Test.YtfflppedbopdpaaGreatQSt2
import Derived.Test.YtfflppedbopdpaaGreatQNw1
set_option linter.unusedVariables false
set_option maxRecDepth 1000000
set_option maxHeartbeats 8000000
set_option linter.unusedSimpArgs false
namespace Go.Proofs
open Go.Shelf
def Tryz.sortW_ren : Go.Shelf.Ren := ⟨fun | 6 => 187 | 15 => 272 | 14 => 274 | 28 => 338 | 29 => 339 | 20 => 340 | 21 => 341 | 22 => 342 | 23 => 343 | 24 => 344 | 25 => 345 | 26 => 346 | 27 => 347 | 46 => 366 | 47 => 362 | 48 => 363 | 49 => 367 | 50 => 368 | 57 => 376 | n => n, fun | 22 => 56 | 24 => 25 | 25 => 132 | 3 => 3 | 39 => 89 | 0 => 0 | 53 => 315 | 55 => 112 | 4 => 4 | 46 => 309 | 45 => 308 | 50 => 107 | 5 => 5 | 9 => 9 | 66 => 332 | 70 => 336 | 76 => 347 | 77 => 348 | n => n, fun | n => n⟩
theorem Tryz.sortW : Go.Proofs.SlLaysF0.n6 Tryz.prog Tryz.sortW_ren := {
 mixed := by kernel_rfl
 f6 := ⟨Tryz.f187.name, by decide, Tryz.func187.trans (congrArg some (by kernel_rfl))⟩
 f14 := ⟨Tryz.f274.name, by decide, Tryz.func274.trans (congrArg some (by kernel_rfl))⟩
 f15 := Tryz.func272.trans (congrArg some (by kernel_rfl))
 f20 := ⟨Tryz.f340.name, by decide, Tryz.func340.trans (congrArg some (by kernel_rfl))⟩
 f21 := ⟨Tryz.f341.name, by decide, Tryz.func341.trans (congrArg some (by kernel_rfl))⟩
 f22 := ⟨Tryz.f342.name, by decide, Tryz.func342.trans (congrArg some (by kernel_rfl))⟩
 f23 := ⟨Tryz.f343.name, by decide, Tryz.func343.trans (congrArg some (by kernel_rfl))⟩
 f24 := ⟨Tryz.f344.name, by decide, Tryz.func344.trans (congrArg some (by kernel_rfl))⟩
 f25 := ⟨Tryz.f345.name, by decide, Tryz.func345.trans (congrArg some (by kernel_rfl))⟩
 f26 := ⟨Tryz.f346.name, by decide, Tryz.func346.trans (congrArg some (by kernel_rfl))⟩
 f27 := ⟨Tryz.f347.name, by decide, Tryz.func347.trans (congrArg some (by kernel_rfl))⟩
 f28 := Tryz.func338.trans (congrArg some (by kernel_rfl))
 f29 := Tryz.func339.trans (congrArg some (by kernel_rfl))
 f46 := ⟨Tryz.f366.name, by decide, Tryz.func366.trans (congrArg some (by kernel_rfl))⟩
 f47 := Tryz.func362.trans (congrArg some (by kernel_rfl))
 f48 := Tryz.func363.trans (congrArg some (by kernel_rfl))
 f49 := ⟨Tryz.f367.name, by decide, Tryz.func367.trans (congrArg some (by kernel_rfl))⟩
 f50 := ⟨Tryz.f368.name, by decide, Tryz.func368.trans (congrArg some (by kernel_rfl))⟩
 f57 := ⟨Tryz.f376.name, by decide, Tryz.func376.trans (congrArg some (by kernel_rfl))⟩
 t0 := Tryz.underlying0
 a0 := Tryz.isAgg0
 z0 := Tryz.sizeOf0
 v0 := Tryz.zeroValue0
 t3 := Tryz.underlying3
 a3 := Tryz.isAgg3
 z3 := Tryz.sizeOf3
 v3 := Tryz.zeroValue3
 t4 := Tryz.underlying4
 a4 := Tryz.isAgg4
 z4 := Tryz.sizeOf4
 v4 := Tryz.zeroValue4
 t5 := Tryz.underlying5
 a5 := Tryz.isAgg5
 z5 := Tryz.sizeOf5
 v5 := Tryz.zeroValue5
 t9 := Tryz.underlying9
 a9 := Tryz.isAgg9
 z9 := Tryz.sizeOf9
 v9 := Tryz.zeroValue9
 t22 := Tryz.underlying56
 a22 := Tryz.isAgg56
 z22 := Tryz.sizeOf56
 v22 := Tryz.zeroValue56
 t25 := Tryz.underlying132
 a25 := Tryz.isAgg132
 z25 := Tryz.sizeOf132
 v25 := Tryz.zeroValue132
 t39 := Tryz.underlying89
 a39 := Tryz.isAgg89
 z39 := Tryz.sizeOf89
 v39 := Tryz.zeroValue89
 t45 := Tryz.underlying308
 a45 := Tryz.isAgg308
 z45 := Tryz.sizeOf308
 v45 := Tryz.zeroValue308
 t46 := Tryz.underlying309
 a46 := Tryz.isAgg309
 z46 := Tryz.sizeOf309
 v46 := Tryz.zeroValue309
 t50 := Tryz.underlying107
 a50 := Tryz.isAgg107
 z50 := Tryz.sizeOf107
 v50 := Tryz.zeroValue107
 t53 := Tryz.underlying315
 a53 := Tryz.isAgg315
 z53 := Tryz.sizeOf315
 v53 := Tryz.zeroValue315
 t55 := Tryz.underlying112
 a55 := Tryz.isAgg112
 z55 := Tryz.sizeOf112
 v55 := Tryz.zeroValue112
 t66 := Tryz.underlying332
 a66 := Tryz.isAgg332
 z66 := Tryz.sizeOf332
 v66 := Tryz.zeroValue332
 t70 := Tryz.underlying336
 a70 := Tryz.isAgg336
 z70 := Tryz.sizeOf336
 v70 := Tryz.zeroValue336
 t76 := Tryz.underlying347
 a76 := Tryz.isAgg347
 z76 := Tryz.sizeOf347
 v76 := Tryz.zeroValue347
 t77 := Tryz.underlying348
 a77 := Tryz.isAgg348
 z77 := Tryz.sizeOf348
 v77 := Tryz.zeroValue348 }
end Go.Proofs
namespace Go.Proofs.YtfflppedbopdpaaGreat
open Go.RowKit Go.Mun Go.Maps Go.Shelf
theorem words_sort_none (w : World) : Calls Tryz.prog 187 #[.slice none 0 0, .func (.func 81) #[] #[]] w fun e w' => e = .returned (.tuple #[]) ∧ w' = w :=
 AnyF.slices_SortFunc_none Tryz.sortW none 0 (.func (.func 81) #[] #[]) w
theorem words_none {w : World} {Bm q : Nat} (hBm : Bm < w.heap.size) (hm : w.cell? ⟨Bm, 0, none⟩ = some (.map (some q))) (hq : MapAt wdV wW wdV w q []) :
  Calls Tryz.prog 79 #[.func (.func 188) #[] #[.pointer (some ⟨Bm, 0, none⟩)], .func (.func 81) #[] #[]] w fun e w' => e = .returned (.slice none 0 0) ∧ Below w.heap.size w w' := by
 obtain ⟨D, hD, hsz, h1, h2⟩ := hq.owns keyW (by decide)
 have hcol := collect_plainW Bm q 0 D [] w (by simp) List.nodup_nil (by decide) hsz h1 h2 hBm hm hD
 have hcol2 : Calls Tryz.prog 186 #[.func (.func 188) #[] #[.pointer (some ⟨Bm, 0, none⟩)]] w fun e w' => e = .returned (.slice none 0 0) ∧ Below w.heap.size w w' := by
  refine Calls.mono hcol ?_
  rintro e w' ⟨v, ss, rfl, hp, _, hn, hB⟩
  exact ⟨by rw [hn.2 hp.eq_nil], hB⟩
 clear hcol hD h1 h2 hsz hm hq
 have hs := words_sort_none
 go_enter Tryz.func79, Tryz.ntmps79
 go_wp2_with (first
  | (go_at_call 186; refine hcol2.mono ?_; rintro e w1 ⟨rfl, hB⟩)
  | (go_at_call 187; refine (hs _).mono ?_; rintro e w2 ⟨rfl, rfl⟩))
 go_ret
 exact ⟨rfl, hB⟩
theorem slots_zero {sl : List (Nat × Nat)} {f : Nat → Nat} (h : SlotsOk sl f) (hz : ∀ k, f k = 0) : sl = [] := by
 cases sl with
 | nil => rfl
 | cons p r =>
  have h1 := h.get p.1
  have h2 := (h.val p (by simp)).1
  rw [hz p.1] at h1
  have : getA p.1 (p :: r) = some p.2 := by simp [getA]
  rw [this] at h1
  simp at h1
  omega
theorem lensG : lens zs81 = [20, 1, 32, 1, 1] := by kernel_rfl
theorem slG1 : SliceLit Tryz.prog 45 35 55 1 (cat [cat zs81]) := ⟨Tryz.underlying45, ⟨_, .agg (cat zs81).toArray, rfl, by kernel_rfl, by kernel_rfl, by kernel_rfl⟩, by decide, by kernel_rfl, by decide⟩
def fillG (p : List (Nat × Value)) : Option (List Value) := fillL (1 * 55) ((List.range 1).map fun i => (i * 55, 55)) (cat [cat zs81]) p
theorem bsG1 (ρ : Operand → Value) (dst : Option Tmp) (x : Operand) (t : TypeId) (pos : String) (after : Array Edge) (gd : Option (Nat × Bool)) (w : World) :
  (execOp ρ ⟨dst, .buildSlice 45 1 #[(0, x)], t, pos, after, gd⟩).run Tryz.prog w = asNext (bsRow Tryz.prog 45 35 1 [(0, ρ x)] w (fillG [(0, ρ x)])) :=
 ex_bslice ρ dst t pos after gd w slG1 [(0, x)]
@[go_sem] theorem fillG_one (c : List Value) (h : c.length = 55) : fillG [(0, .agg c.toArray)] = some c := by
 unfold fillG
 have h1 : lens [cat zs81] = [55] := by kernel_rfl
 have h3 : plOf [cat zs81] = (List.range 1).map fun i => (i * 55, 55) := by kernel_rfl
 rw [← h3, fillL_cats _ _ _ (by kernel_rfl)]
 ·show some (cat [c]) = some c
  simp [cat]
 ·rw [h1]
  refine fits_cons ?_ (fits_nil _)
  show some 55 = some c.length; rw [h]
attribute [go_sem ↓] bsG1
theorem elemG : ElemOf Tryz.prog 45 35 (.agg (cat zs81).toArray) 55 112 := .mk' Tryz.underlying45 (by kernel_rfl) (by kernel_rfl) (by decide)
theorem acS0_ok (x : Ac) : okL 55 (cat (acS x (.slice none 0 0) (.slice none 0 0))) = true := by
 refine okL_cat (acS_len _ _ _) fun s hs => ?_
 simp only [acS, List.mem_cons, List.not_mem_nil, or_false] at hs
 rcases hs with rfl | rfl | rfl | rfl | rfl
 ·rw [beC_len]; exact beC_ok _ _
 ·rfl
 ·rw [beC_len]; exact beC_ok _ _
 ·rfl
 ·rfl
theorem bytes_cloneO (a : Option Addr) (n c : Nat) (l : List Int) (hn : n = l.length) (hn2 : n ≤ 70000000000000) (w : World) (hI : Ints w .u8 a c l) :
  Calls Tryz.prog 45 #[.slice a n c] w fun e w' => ∃ v, e = .returned v ∧ OwnB w w' v l := by
 cases a with
 | none =>
  have hc := hI.nil rfl
  have hl := hI.len
  subst hc
  have : l = [] := List.eq_nil_of_length_eq_zero (by omega)
  subst this
  subst hn
  have hq := slice_nil' w
  go_enter Tryz.func45, Tryz.ntmps45
  go_wp2
  go_ret
  exact ⟨_, rfl, ⟨rfl, .inl ⟨rfl, rfl⟩⟩, Below.refl _ _⟩
 | some p =>
  have HI := Lib.hid hI
  have HN := Lib.hid hn
  have hq := slice_nil n c p w
  have hm : n ≤ maxLen := by unfold maxLen; omega
  have hs := HI.out.below ((Below.refl _ _).alloc (Nat.le_refl _) (.cells #[] 5))
  have HS := Lib.hid (SrcAt.ints hs)
  have HO : Hid ((w.alloc (.cells #[] 5)).ownsRow w.heap.size 5 1 (.slice (some ⟨w.heap.size, 0, none⟩) 0 0) 0 []) := World.ownsRow_lit (e := 5) (size := 1) w #[] 0 (Nat.le_refl _) (by decide) rfl
  clear hI hn hs
  go_enter Tryz.func45, Tryz.ntmps45
  go_wp2_with (at_builtin; go_must (refine wpList_append_intsN (base := w.heap.size) (n := 0) (xs := []) elem26 rfl _ _ rfl HO.out rfl rfl HN.out (HI.out.below ((Below.refl _ _).alloc (Nat.le_refl _) (.cells #[] 5))) ?c3 ?c4 ?c5 ?_))
  case c3 => omega
  case c4 => omega
  case c5 => simp
  intro v3 w3 ho3 hg3
  have H3 : Hid (OwnB w w3 v3 l) := by
   refine ⟨?_, ((Below.refl _ _).alloc (Nat.le_refl _) _).grown hg3 (by simp) (fun k hk => by simp [Value.ownBlock] at hk; omega)⟩
   rw [← HN.out]; exact ho3
  clear ho3 hg3
  go_wp2
  go_ret
  exact ⟨_, rfl, H3.out⟩

def acOf (a : Nat) (x : Acc) : Ac := ⟨a, (x.nonce : Int), x.bal, x.code⟩
def acCells (S : St) (p : Nat × Value) : List Value := cat (acS (acOf p.1 (S p.1)) p.2 (.slice none 0 0))
def acsC (S : St) (cs : List (Nat × Value)) : List Value := cs.flatMap (acCells S)
theorem acsC_snoc (S : St) (cs : List (Nat × Value)) (p : Nat × Value) : acsC S (cs ++ [p]) = acsC S cs ++ acCells S p := by simp [acsC]
structure AccsR (w0 w : World) (S : St) (v : Value) (cs : List (Nat × Value)) : Prop where
 below : Below w0.heap.size w0 w
 own : w.ownsRow w0.heap.size 35 55 v cs.length (acsC S cs)
 code : ∀ p ∈ cs, w.ownsRow w0.heap.size 5 1 p.2 (S p.1).code.length ((S p.1).code.map (Value.int .u8))
theorem own_apart {w : World} {b b' e e' s s' n n' : Nat} {v v' : Value} {xs xs' : List Value} (h : w.ownsRow b e s v n xs) (h' : w.ownsRow b' e' s' v' n' xs') (he : e ≠ e') : v.ownBlock = none ∨ v.ownBlock ≠ v'.ownBlock := by
 rcases h.2 with ⟨rfl, _⟩ | ⟨g, cap, cur, rfl, _, hg, _⟩
 ·exact .inl rfl
 ·rcases h'.2 with ⟨rfl, _⟩ | ⟨g', cap', cur', rfl, _, hg', _⟩
  ·exact .inr (by simp [Value.ownBlock])
  ·refine .inr fun e2 => ?_
   have : g = g' := by simpa [Value.ownBlock] using e2
   subst this
   rw [hg] at hg'
   cases hg'
   exact he rfl
theorem AccsR.start (w : World) (S : St) : AccsR w w S (.slice none 0 0) [] := ⟨Below.refl _ _, World.ownsRow_nil _ _ _ _, fun p hp => (by cases hp)⟩
theorem AccsR.next {w0 w w' : World} {S : St} {v : Value} {cs : List (Nat × Value)} (h : AccsR w0 w S v cs) (hb : Below w.heap.size w w') : AccsR w0 w' S v cs :=
 ⟨h.below.trans (hb.mono h.below.size), ownsRow_below h.own hb, fun p hp => ownsRow_below (h.code p hp) hb⟩
theorem AccsR.app {w0 w w' : World} {S : St} {v v' cv : Value} {cs : List (Nat × Value)} {a : Nat} (h : AccsR w0 w S v cs) (ho : w'.ownsRow w0.heap.size 35 55 v' (cs.length + 1) (acsC S cs ++ cat (acS (acOf a (S a)) cv (.slice none 0 0))))
  (hg : w.grownBy w' v.ownBlock) (hc : w.ownsRow w0.heap.size 5 1 cv (S a).code.length ((S a).code.map (Value.int .u8))) : AccsR w0 w' S v' (cs ++ [(a, cv)]) := by
 refine ⟨h.below.grown hg h.below.size (fun j hj => (h.own.lt j hj).1), ?_, fun p hp => ?_⟩
 ·rw [acsC_snoc, List.length_append]; exact ho
 ·rcases List.mem_append.1 hp with h1 | h1
  ·exact (h.code p h1).kept hg (own_apart (h.code p h1) h.own (by decide))
  ·rw [List.mem_singleton] at h1
   subst h1
   exact hc.kept hg (own_apart hc h.own (by decide))
theorem adrC_take : ∀ (l : List Nat) (i : Nat) (hi : i < l.length), ((adrC l).drop (i * 20)).take 20 = beC 20 l[i]
 | [], i, hi => by simp at hi
 | a :: l, 0, _ => by
  have : adrC (a :: l) = beC 20 a ++ adrC l := by simp [adrC]
  rw [this, Nat.zero_mul, List.drop_zero, List.take_append_of_le_length (by simp), List.take_of_length_le (by simp)]
  rfl
 | a :: l, i + 1, hi => by
  have : adrC (a :: l) = beC 20 a ++ adrC l := by simp [adrC]
  have hlen : (beC 20 a).length = 20 := by simp
  rw [this, show (i + 1) * 20 = (beC 20 a).length + i * 20 by rw [hlen]; omega, ← List.drop_drop, List.drop_left]
  simpa using adrC_take l i (by simpa using hi)
theorem row_adr {w : World} {g : Nat} {l : List Nat} {i : Nat} (hr : w.row? g 0 (l.length * 20) = some (adrC l)) (hi : i < l.length) : w.row? g (i * 20) 20 = some (beC 20 l[i]) := by
 have h1 := World.row?_sub hr (o' := i * 20) (n' := 20) (by omega) (by omega)
 rw [h1, Nat.sub_zero, adrC_take l i hi]
theorem build35 (a : Nat) (n : Int) (b : Nat) (x : Option Addr) (k c : Nat) (code : Bts) : fillL 55 (plOf zs81) (cat zs81) [(0, .agg (beC 20 a).toArray), (1, .int .i64 n), (2, .agg (beC 32 b).toArray), (3, .slice x k c)] = some (cat (acS ⟨a, n, b, code⟩ (.slice x k c) (.slice none 0 0))) := by
 rw [fillL_cats _ _ _ zs81_len]
 ·rfl
 ·rw [lensG]
  refine fits_cons ?_ (fits_cons ?_ (fits_cons ?_ (fits_cons ?_ (fits_nil _))))
  ·show some 20 = some (beC 20 a).length; rw [beC_len]
  ·rfl
  ·show some 32 = some (beC 32 b).length; rw [beC_len]
  ·rfl
def AccsL (S : St) (l : List Nat) : Prop := l.Pairwise (· < ·) ∧ ∀ a, a ∈ l ↔ a < wA ∧ ¬ (S a).empty
theorem emptyB_iff (x : Acc) : x.emptyB = true ↔ x.empty := by unfold Acc.emptyB; simp
theorem live_mem {S : St} {ks ss : List Nat} (hp : ss.Perm ks) (hd : ks.Nodup) (hlt : ∀ a ∈ ks, a < wA) (hout : ∀ a, a ∉ ks → S a = Acc.none) (hs : ss.Pairwise (· ≤ ·)) : AccsL S (ss.filter fun a => !(S a).emptyB) := by
 refine ⟨?_, fun a => ?_⟩
 ·have h1 : ss.Nodup := hp.nodup_iff.2 hd
  have h2 : ss.Pairwise (· < ·) := by
   have := hs.and h1
   exact this.imp fun {a b} h => by have := h.1; have := h.2; omega
  exact h2.filter _
 ·rw [List.mem_filter, hp.mem_iff]
  constructor
  ·rintro ⟨h1, h2⟩
   refine ⟨hlt a h1, fun h3 => ?_⟩
   rw [(emptyB_iff _).2 h3] at h2
   cases h2
  ·rintro ⟨h1, h2⟩
   refine ⟨?_, ?_⟩
   ·by_cases hm : a ∈ ks
    ·exact hm
    ·exact absurd (by rw [hout a hm]; exact ⟨rfl, rfl, rfl, fun _ => rfl⟩) h2
   ·cases he : (S a).emptyB with
    | false => rfl
    | true => exact absurd ((emptyB_iff _).1 he) h2
theorem own_form {w : World} {b e s n : Nat} {v : Value} {xs : List Value} (h : w.ownsRow b e s v n xs) : ∃ ad c, v = .slice ad n c := by
 rcases h.2 with ⟨rfl, rfl⟩ | ⟨g, cap, cur, rfl, _⟩
 ·exact ⟨none, 0, rfl⟩
 ·exact ⟨_, _, rfl⟩
structure AccsI (w wr : World) (S : St) (ss : List Nat) (kv v : Value) (i : Nat) : Prop where
 r : ∃ cs, AccsR w wr S v cs ∧ cs.map Prod.fst = (ss.take i).filter fun a => !(S a).emptyB
 k : wr.ownsRow w.heap.size 23 20 kv ss.length (adrC ss)
theorem AccsI.next {w wr w' : World} {S : St} {ss : List Nat} {kv v : Value} {i : Nat} (h : AccsI w wr S ss kv v i) (hb : Below wr.heap.size wr w') : AccsI w w' S ss kv v i := by
 obtain ⟨⟨cs, h1, h2⟩, h3⟩ := h
 exact ⟨⟨cs, h1.next hb, h2⟩, ownsRow_below h3 hb⟩
theorem AccsI.below {w wr : World} {S : St} {ss : List Nat} {kv v : Value} {i : Nat} (h : AccsI w wr S ss kv v i) : Below w.heap.size w wr := by
 obtain ⟨⟨cs, h1, _⟩, _⟩ := h
 exact h1.below
theorem AccsI.skip {w wr : World} {S : St} {ss : List Nat} {kv v : Value} {i : Nat} (h : AccsI w wr S ss kv v i) (hi : i < ss.length) (he : (S ss[i]).emptyB = true) : AccsI w wr S ss kv v (i + 1) := by
 obtain ⟨⟨cs, h1, h2⟩, h3⟩ := h
 refine ⟨⟨cs, h1, ?_⟩, h3⟩
 rw [List.take_succ_eq_append_getElem hi, List.filter_append, ← h2]
 simp [he]
theorem AccsI.more {w w7 w8 : World} {S : St} {ss : List Nat} {kv v v' cv : Value} {i a : Nat} {cs : List (Nat × Value)} {x : Acc} {C : List Value} (h : AccsR w w7 S v cs) (hk : w7.ownsRow w.heap.size 23 20 kv ss.length (adrC ss)) (hm : cs.map Prod.fst = (ss.take i).filter fun a => !(S a).emptyB)
  (ht : ss.take (i + 1) = ss.take i ++ [a]) (hx : S a = x) (he : x.emptyB = false) (hC : C = cat (acS (acOf a x) cv (.slice none 0 0))) (ho : w8.ownsRow w.heap.size 35 55 v' (cs.length + 1) (acsC S cs ++ C))
  (hg : w7.grownBy w8 v.ownBlock) (hc : w7.ownsRow w.heap.size 5 1 cv x.code.length (x.code.map (Value.int .u8))) : AccsI w w8 S ss kv v' (i + 1) := by
 subst hx
 refine ⟨⟨cs ++ [(a, cv)], h.app (by rw [← hC]; exact ho) hg hc, ?_⟩, hk.kept hg (own_apart hk h.own (by decide))⟩
 rw [ht, List.filter_append, ← hm, List.map_append]
 simp [he]
theorem AccsI.len {ss : List Nat} {cs : List (Nat × Value)} {i : Nat} {f : Nat → Bool} (h : cs.map Prod.fst = (ss.take i).filter f) : cs.length ≤ ss.length := by
 have h1 := congrArg List.length h
 rw [List.length_map] at h1
 have h2 := List.length_filter_le f (ss.take i)
 rw [List.length_take] at h2
 omega
theorem acs_ok (x : Ac) (p : Option Addr) (n c : Nat) : okL 55 (cat (acS x (.slice p n c) (.slice none 0 0))) = true := by
 refine okL_cat (acS_len _ _ _) fun s hs => ?_
 simp only [acS, List.mem_cons, List.not_mem_nil, or_false] at hs
 rcases hs with rfl | rfl | rfl | rfl | rfl
 all_goals first | rfl | (rw [beC_len]; exact beC_ok _ _)
theorem st_accounts {w : World} {own : Go.Mun.Own} {sb : Nat} {S : St} {M : List (Nat × St)} {n : Nat} (h : StateAt TU w own sb S M n) (hn : n ≤ 3000000) (hz : ∀ a k, (S a).slots k = 0) :
  Calls Tryz.prog 41 #[.pointer (some ⟨sb, 0, none⟩)] w fun e w' => ∃ v cs, e = .returned v ∧ AccsR w w' S v cs ∧ AccsL S (cs.map Prod.fst) ∧ cs.length ≤ 4000000 := by
 obtain ⟨mb, uv, mv, last, E, U, mk, hs, -, -, -, -, hE⟩ := h
 obtain ⟨c0, _⟩ := hs.cells
 have hElt : ∀ a ∈ E.map Prod.fst, a < wA := by
  intro a ha
  obtain ⟨es, clock, _, _, hN, _⟩ := hs.map
  obtain ⟨p, hp, rfl⟩ := List.mem_map.1 ha
  exact hN p hp
 have hEn := hs.map.nodup
 have hEl : (E.map Prod.fst).length ≤ 4000000 := by rw [List.length_map]; omega
 have hout : ∀ a, a ∉ E.map Prod.fst → S a = Acc.none := fun a ha => by
  rcases sta_get hs a with ⟨p, hp, _⟩ | ⟨_, h2⟩
  ·exact absurd (List.mem_map.2 ⟨_, getA_mem hp, rfl⟩) ha
  ·exact h2
 have hin : ∀ a, a ∈ E.map Prod.fst → ∃ p, getA a E = some p ∧ AccAt w own p (S a) := fun a ha => by
  rcases sta_get hs a with h1 | ⟨h2, _⟩
  ·exact h1
  ·obtain ⟨q, hq, rfl⟩ := List.mem_map.1 ha; exact absurd rfl (getA_none_iff h2 q hq)
 have hSF : Calls Tryz.prog 75 #[.func (.func 184) #[] #[.pointer (some ⟨w.heap.size, 0, none⟩)], .func (.func 77) #[] #[]] (w.alloc (.cells #[.map (some mb)] 90)) fun e W' => ∃ v ss, e = .returned v ∧ ss.Perm (E.map Prod.fst) ∧ ss.Pairwise (· ≤ ·) ∧ W'.ownsRow (w.alloc (.cells #[.map (some mb)] 90)).heap.size 23 20 v ss.length (adrC ss) ∧ Below (w.alloc (.cells #[.map (some mb)] 90)).heap.size (w.alloc (.cells #[.map (some mb)] 90)) W' := by
  have hm1 : MapAt adV wA ptV (w.alloc (.cells #[.map (some mb)] 90)) mb E := hs.map.below ((Below.refl _ _).alloc (Nat.le_refl _) _)
  obtain ⟨D, hD, hsz, h1, h2⟩ := hm1.owns keyA (by unfold maxLen; rw [List.length_map] at hEl; omega)
  have hcell : (w.alloc (.cells #[.map (some mb)] 90)).cell? ⟨w.heap.size, 0, none⟩ = some (.map (some mb)) := by
   have := World.alloc_heap_new w (.cells #[.map (some mb)] 90)
   unfold World.cell?
   simp only [this]
   rfl
  exact sortedFunc70 _ _ _ hElt hEl (collect_plain w.heap.size mb E.length D (E.map Prod.fst) _ hElt hEn hEl (by rw [List.length_map]; exact hsz) h1 h2 (by simp) hcell hD)
 have HSF := Lib.hid hSF
 have HS := Lib.hid hs
 have HIN := Lib.hid hin
 have HOUT := Lib.hid hout
 have HEL := Lib.hid hElt
 have HEN := Lib.hid hEn
 have HEB := Lib.hid hEl
 have HZ := Lib.hid hz
 clear hSF hs hin hout hElt hEn hEl hz hE
 go_enter Tryz.func41, Tryz.ntmps41
 go_wp2_with (first
  | (go_at_call 76; refine (maps_Keys _ _ rfl).mono ?_; rintro e w1 ⟨rfl, rfl⟩)
  | (go_at_call 75; refine HSF.out.mono ?_; rintro e w2 ⟨kv, ss, rfl, hp, hpw, hrow, hB⟩; obtain ⟨ad, cap, rfl⟩ := own_form hrow))
 have hB2 : Below w.heap.size w w2 := ((Below.refl _ w).alloc (Nat.le_refl _) _).trans (hB.mono (by simp))
 have hrow2 : w2.ownsRow w.heap.size 23 20 (.slice ad ss.length cap) ss.length (adrC ss) := by
  refine ⟨hrow.1, hrow.2.imp id ?_⟩
  rintro ⟨g, cap', cur, h1, h2, h3⟩
  exact ⟨g, cap', cur, h1, by simp at h2; omega, h3⟩
 have HI0 : Hid (AccsI w w2 S ss (.slice ad ss.length cap) (.slice none 0 0) 0) := ⟨⟨[], (AccsR.start w S).next hB2, rfl⟩, hrow2⟩
 have HP := Lib.hid hp
 have HPW := Lib.hid hpw
 have hssl : ss.length ≤ 4000000 := by rw [hp.length_eq]; exact HEB.out
 clear hB hB2 hrow hrow2 hp hpw c0
 go_wp2_with fail
 go_loopw [3, 17] (fun v idx wr => ∃ i : Nat, i ≤ ss.length ∧ idx = .int .i64 (i : Int) ∧ AccsI w wr S ss (.slice ad ss.length cap) v i) (fun _ i _ => ss.length - (intOf i).toNat)
 case atStart => exact ⟨0, by omega, rfl, HI0.out⟩
 case round =>
  rename World => wo
  clear HI0 HSF
  obtain ⟨i, hi, rfl, hr⟩ := hrel
  have HR := Lib.hid hr
  clear hr
  by_cases hlt : i < ss.length
  ·have hmem : ss[i] ∈ E.map Prod.fst := HP.out.mem_iff.1 (List.getElem_mem hlt)
   have hlA := HEL.out _ hmem
   obtain ⟨p, hp, hacc⟩ := HIN.out _ hmem
   obtain ⟨g, c2, hkv, _, _, hc2, hkr, _⟩ := own_words HR.out.k (by omega)
   cases hkv
   have hkr2 := row_adr hkr hlt
   have hiI : (i : Int) < ss.length := by omega
   have hok := beC_ok 20 ss[i]
   have hbx := box_new (w := wo) (t := 23) (n := 20) (zU8_len 20) hok
   have hf1 : (wo.alloc (.cells (zU8 20).toArray 23)).free? wo.heap.size 0 20 = true := World.free?_alloc_at _ _ rfl (by rw [zU8_len]; omega)
   obtain ⟨w1, e1⟩ : ∃ w1, w1 = (wo.alloc (.cells (zU8 20).toArray 23)).setCells wo.heap.size 0 (beC 20 ss[i]) := ⟨_, rfl⟩
   rw [← e1] at hbx
   have HE1 := Lib.hid e1
   have HSK := Lib.hid (fun he => HR.out.skip hlt he)
   have HTK := Lib.hid (List.take_succ_eq_append_getElem hlt)
   have hbS : Below w.heap.size w w1 := HR.out.below.trans (hbx.1.mono HR.out.below.size)
   have hbD : Below w.heap.size w w1.drew := hbS.trans ((Below.refl _ _).drew.mono hbS.size)
   have hacc1 := hacc.only_out (R := fun _ => False) (Only.of_below_size hbD) (fun _ h => h.elim)
   have l1 := (HS.out.map.below hbD).look keyA Tryz.underlying90 (zero82 _) hlA
   rw [hp] at l1
   have l2 : (Instr.lookup 90 (.map (some mb)) (.agg (beC 20 ss[i]).toArray) false).run Tryz.prog w1.drew = .ok (.pointer (some ⟨p, 0, none⟩)) w1.drew := l1
   obtain ⟨c1, _⟩ := (HS.out.only (R := fun _ => False) (Only.of_below_size hbD) (fun _ h => h.elim)).cells
   have r1 : w1.drew.row? wo.heap.size 0 20 = some (beC 20 ss[i]) := hbx.2
   have HBX := Lib.hid hbx.1
   have HACC := Lib.hid hacc1
   have HN1 := Lib.hid (HR.out.next hbx.1)
   clear hmem hp hacc hkr hbx e1 hbS hbD hacc1 l1
   generalize ss[i] = a at *
   have hlen := okL_len hok
   go_wp2_with fail
   rw [← HE1.out]
   refine wp_region_still_lit (by kernel_rfl) (by kernel_rfl) ?_
   change wpStill _ _ (World.drew _) _ _ _
   repeat still_step
   refine wpStill_nil ?_
   have HEM := Lib.hid (empty_calls HACC.out.r)
   cases hemp : (S a).emptyB with
   | true =>
    rw [hemp] at HEM
    go_wp2_with (go_at_call 44; refine HEM.out.mono ?_; rintro e w2 ⟨rfl, rfl⟩)
    have hk1 : IntKind.i64.wrap ((i : Int) + 1) = ((i + 1 : Nat) : Int) := by rw [wrI _ (by omega) (by omega)]; omega
    go_roundw
    case rel => exact ⟨i + 1, by omega, by go_num, (HSK.out hemp).next (HBX.out.trans ((Below.refl _ _).drew.mono HBX.out.size))⟩
    case measure => simp [intOf]; omega
   | false =>
    rw [hemp] at HEM
    obtain ⟨cv, q, sl, hrow, hcode, _, hmq, hsl⟩ := HACC.out.cells
    obtain ⟨⟨ca, cc, rfl, hints, _⟩, _, hcl⟩ := hcode
    obtain rfl : sl = [] := slots_zero hsl (HZ.out a)
    have hxn := HACC.out.nonce
    have hxb := HACC.out.bal
    have HCI := Lib.hid hints
    have HCL := Lib.hid hcl
    have HMQ := Lib.hid hmq
    have HND : Hid (AccsI w w1.drew S ss (.slice (some ⟨g, 0, none⟩) ss.length cap) u3 i) := HN1.out.next (Below.refl _ _).drew
    clear hints hcl hmq hsl HSK l2 c1 hkr2
    generalize hX : S a = x at *
    have HX := Lib.hid hX
    clear hX
    obtain ⟨nn, bal, code, slots⟩ := x
    simp only at *
    go_wp2_with (go_at_call 44; refine HEM.out.mono ?_; rintro e w2 ⟨rfl, rfl⟩)
    have HB1 : Hid (Below wo.heap.size wo w1.drew) := HBX.out.trans ((Below.refl _ _).drew.mono HBX.out.size)
    have HR1 : Hid (w1.drew.row? p 0 35 = some (accC nn bal (.slice ca code.length cc) (.map (some q)))) := hrow
    have HR2 : Hid (w1.drew.row? wo.heap.size 0 20 = some (beC 20 a)) := r1
    have hwo : wo.heap.size < w1.drew.heap.size := World.row?_lt r1
    have hpl : p < w1.drew.heap.size := World.row?_lt hrow
    clear HBX HE1 HACC HEM hrow r1 hf1 HN1
    generalize w1.drew = v0 at *
    obtain ⟨T, hT⟩ : ∃ T : World → Prop, T = fun w' => w'.row? wo.heap.size 0 20 = some (beC 20 a) ∧ w'.row? p 0 35 = some (accC nn bal (.slice ca code.length cc) (.map (some q))) := ⟨_, rfl⟩
    have HT := Lib.hid hT
    have tb : ∀ w2 w3, T w2 → Below w2.heap.size w2 w3 → T w3 := by
     rw [hT]; intro w2 w3 h hb
     exact ⟨((brow hb).1 _ _ _ (World.row?_lt h.1)).trans h.1, ((brow hb).1 _ _ _ (World.row?_lt h.2)).trans h.2⟩
    have HTB := Lib.hid tb
    have t0 : T v0.drew := by rw [hT]; exact ⟨HR2.out, HR1.out⟩
    have HI0 : Hid (Ints v0.drew .u8 ca cc code) := HCI.out.below (Below.refl _ _).drew
    have hcl2 : code.length ≤ 70000000000000 := by have := HCL.out; omega
    have hokb := beC_ok 32 bal
    have hz55 := zs81_len
    have HND2 : Hid (AccsI w v0.drew S ss (.slice (some ⟨g, 0, none⟩) ss.length cap) u3 i) := HND.out.next (Below.refl _ _).drew
    have HMQ2 : Hid (MapAt wdV wW wdV v0.drew q []) := HMQ.out.below (Below.refl _ _).drew
    clear hT tb HND HMQ HB1 HR1 HR2 HCI
    refine wp_region_tree T [16] (.take 0 (.pure 1 (.pure 2 (.pure 3 (.take 4 (.pure 5 (.pure 6 (.pure 7 (.take 8 (.pure 9 (.pure 10 (.pure 11 (.take 12 (.alt 13 (.pure 14 (.alt 15 (.alt 16 .fin .stop) .stop)) (.alt 15 (.alt 13 (.pure 14 (.alt 16 .fin .stop)) .stop) .stop))))))))))))))) (by kernel_rfl) (by kernel_rfl) ?_
    generalize v0.drew = v1 at *
    iterate 13
     first
     |refine tree_take ?_ t0 rfl (by rfl) (fun w' hs => ?_) (fun _ _ _ h => h) ?_
      rotate_left
      ·rw [HT.out] at hs
       obtain ⟨q1, q2⟩ := hs; obtain ⟨z0, z1, z33, z34⟩ := accC_parts q2
       go_simp
       try rfl
      simp only [Act.put, tsa, tsb, tsc]
     |refine tree_pure ?_ rfl (by rfl) (fun w' hs => ?_) (fun _ _ _ h => h) ?_
      rotate_left
      ·clear hs
       go_simp
       try rfl
      simp only [Act.put, tsa, tsb, tsc]
    refine tree_alt rfl (fun K hK => ?_) ?_
    ·go_simp
     refine (bytes_cloneO ca code.length cc code rfl hcl2 _ HI0.out).mono ?_
     rintro e w3 ⟨cw, rfl, hnb⟩
     have t3 : T w3 := HTB.out _ _ t0 hnb.below
     have HNB := Lib.hid hnb
     obtain ⟨cwa, cwc, hcw⟩ := own_form hnb.own
     clear hnb
     subst hcw
     have hbuild := build35 a nn bal cwa code.length cwc code
     refine hK.out _ _ t3 ?_
     clear hK K
     refine tree_pure ?_ rfl (by rfl) (fun w' hs => ?_) (fun _ _ _ h => h) ?_
     rotate_left
     ·clear hs
      refine (bl81 _ _ _ _ _ _ _ _).trans ?_
      refine (congrArg (fun r => asNext (blRow Tryz.prog 35 _ _ r)) hbuild).trans ?_
      rfl
     simp only [Act.put, tsa, tsb, tsc]
     refine tree_run rfl (fun K hK => ?_)
     go_simp
     have hbm : Below w3.heap.size w3 (World.alloc w3 (.cells (cat zs81).toArray 35)) := (Below.refl _ _).alloc (Nat.le_refl _) _
     have tA : T (World.alloc w3 (.cells (cat zs81).toArray 35)) := HTB.out _ _ t3 hbm
     clear hbm
     refine hK.out _ _ tA ?_
     clear hK K
     refine tree_z rfl (by simp) (fun K hK => ?_)
     have hfs : (World.alloc w3 (.cells (cat zs81).toArray 35)).free? w3.heap.size 0 55 = true := World.free?_alloc_at _ _ rfl (by rw [hz55]; omega)
     have hok5 := acs_ok ⟨a, (nn : Int), bal, code⟩ cwa code.length cwc
     go_simp
     refine hK.out _ _ ?_
     clear hK K
     refine tree_fin ?_
     obtain ⟨w5, e5⟩ : ∃ w5, w5 = World.setCells (World.alloc w3 (.cells (cat zs81).toArray 35)) w3.heap.size 0 (cat (acS ⟨a, (nn : Int), bal, code⟩ (.slice cwa code.length cwc) (.slice none 0 0))) := ⟨_, rfl⟩
     have hb3 : Below v1.heap.size v1 w3 := HNB.out.below
     have hs3 := hb3.size
     have hb5 : Below v1.heap.size v1 w5 := by rw [e5]; exact (hb3.trans ((Below.refl _ _).alloc hs3 _)).setCells (by omega) _ _
     have r5 : w5.row? w3.heap.size 0 55 = some (cat (acS ⟨a, (nn : Int), bal, code⟩ (.slice cwa code.length cwc) (.slice none 0 0))) := by
      rw [e5, World.row?_setCells_lay 0 _ (Nat.le_refl _) (by rw [acS_len]; omega)]
      rw [World.row?_alloc_at _ _ _ rfl hz55]
      show some (lay (cat zs81) 0 _) = _
      rw [lay_all _ _ (by rw [acS_len, hz55])]
     have ho5 : w5.ownsRow v1.heap.size 5 1 (.slice cwa code.length cwc) code.length (code.map (Value.int .u8)) := by
      rw [e5]
      exact ownsRow_below HNB.out.own (((Below.refl _ _).alloc (Nat.le_refl _) _).setCells (Nat.le_refl _) _ _)
     have hcodeO : Hid (w5.ownsRow w.heap.size 5 1 (.slice cwa code.length cwc) code.length (code.map (Value.int .u8))) := ownsRow_mono ho5 (by have := HND2.out.below.size; omega)
     have HN5 := Lib.hid (HND2.out.next hb5)
     have HMQ5 := Lib.hid (HMQ2.out.below hb5)
     have q5 : w5.row? p 0 35 = some (accC nn bal (.slice ca code.length cc) (.map (some q))) := by rw [HT.out] at t0; exact ((brow hb5).1 _ _ _ (World.row?_lt t0.2)).trans t0.2
     obtain ⟨z0, z1, z33, z34⟩ := accC_parts q5
     have hlt5 : w3.heap.size < w5.heap.size := World.row?_lt r5
     have HR5 := Lib.hid r5
     have HE5 := Lib.hid e5
     rw [← e5]
     clear e5 hb3 hs3 hb5 ho5 r5 q5 z0 z1 z33 hbuild hfs hok5 t0 t3 tA HND2 HMQ2 HNB
     have hq6 : MapAt wdV wW wdV (w5.alloc (.cells #[.map (some q)] 84)) q [] := HMQ5.out.below ((Below.refl _ _).alloc (Nat.le_refl _) _)
     have hc6 : (w5.alloc (.cells #[.map (some q)] 84)).cell? ⟨w5.heap.size, 0, none⟩ = some (.map (some q)) := by
      have := World.alloc_heap_new w5 (.cells #[.map (some q)] 84)
      unfold World.cell?
      simp only [this]
      rfl
     have HWN := Lib.hid (words_none (by simp) hc6 hq6)
     clear hq6 hc6
     go_wp2_with (first
      | (go_at_call 80; refine (maps_KeysW _ _ rfl).mono ?_; rintro e w6 ⟨rfl, rfl⟩)
      | (go_at_call 79; refine HWN.out.mono ?_; rintro e w7 ⟨rfl, hB7⟩))
     have hb7 : Below w5.heap.size w5 w7 := ((Below.refl _ _).alloc (Nat.le_refl _) _).trans (hB7.mono (by simp))
     have HN7 := Lib.hid (HN5.out.next hb7)
     have HC7 := Lib.hid (ownsRow_below hcodeO.out hb7)
     have HR7 : Hid (w7.row? w3.heap.size 0 55 = some (cat (acS ⟨a, (nn : Int), bal, code⟩ (.slice cwa code.length cwc) (.slice none 0 0)))) := by rw [← HR5.out]; exact (brow hb7).1 _ _ _ hlt5
     clear HWN hB7 hb7 HN5 hcodeO HR5 HE5 z34 hlt5
     go_loopw [51] (fun ix wz => ix = .int .i64 0 ∧ wz = w7) (fun _ _ => 0)
     case atStart => exact ⟨rfl, rfl⟩
     case round =>
      obtain ⟨rfl, rfl⟩ := hrel
      rename World => w7
      obtain ⟨⟨cs, hA, hcm⟩, hkk⟩ := HN7.out
      have hcsl := AccsI.len hcm
      have hr7 := HR7.out
      obtain ⟨C, hC⟩ : ∃ C, C = cat (acS ⟨a, (nn : Int), bal, code⟩ (.slice cwa code.length cwc) (.slice none 0 0)) := ⟨_, rfl⟩
      rw [← hC] at hr7
      have hokC : okL 55 C = true := by rw [hC]; exact acs_ok _ _ _ _
      have hlC := okL_len hokC
      have HC := Lib.hid hC
      have HA := Lib.hid hA
      have HKK := Lib.hid hkk
      have HCM := Lib.hid hcm
      clear hC hA hkk hcm HN7 HR7
      go_wp2_with (at_builtin; go_must (refine wpList_append_at (base := w.heap.size) (n := cs.length) (xs := acsC S cs) elemG rfl _ _ rfl rfl rfl ?own ?c0 ?c1 ?c3 ?c4 ?c5 ?_))
      case own => exact HA.out.own
      case c0 => simp
      case c1 => exact hokC
      case c3 => unfold maxLen; omega
      case c4 => omega
      case c5 => have := HA.out.below.size; simp; omega
      intro v' w8 ho hg _
      have HNX := Lib.hid (AccsI.more HA.out HKK.out HCM.out HTK.out HX.out hemp HC.out ho hg HC7.out)
      clear ho hg
      have hk1 : IntKind.i64.wrap ((i : Int) + 1) = ((i + 1 : Nat) : Int) := by rw [wrI _ (by omega) (by omega)]; omega
      go_wp2
      go_roundw
      case rel => exact ⟨i + 1, by omega, by go_num, HNX.out⟩
      case measure => simp [intOf]; omega
    refine tree_run rfl (fun K hK => ?_)
    go_simp
    have hbm : Below v1.heap.size v1 (World.alloc v1 (.cells (cat zs81).toArray 35)) := (Below.refl _ _).alloc (Nat.le_refl _) _
    have tA : T (World.alloc v1 (.cells (cat zs81).toArray 35)) := HTB.out _ _ t0 hbm
    have HIA := Lib.hid (HI0.out.below hbm)
    clear hbm
    refine hK.out _ _ tA ?_
    clear hK K
    refine tree_run rfl (fun K hK => ?_)
    go_simp
    refine (bytes_cloneO ca code.length cc code rfl hcl2 _ HIA.out).mono ?_
    rintro e w3 ⟨cw, rfl, hnb⟩
    have t3 : T w3 := HTB.out _ _ tA hnb.below
    have HNB := Lib.hid hnb
    obtain ⟨cwa, cwc, hcw⟩ := own_form hnb.own
    clear hnb
    subst hcw
    have hbuild := build35 a nn bal cwa code.length cwc code
    refine hK.out _ _ t3 ?_
    clear hK K
    refine tree_pure ?_ rfl (by rfl) (fun w' hs => ?_) (fun _ _ _ h => h) ?_
    rotate_left
    ·clear hs
     refine (bl81 _ _ _ _ _ _ _ _).trans ?_
     refine (congrArg (fun r => asNext (blRow Tryz.prog 35 _ _ r)) hbuild).trans ?_
     rfl
    simp only [Act.put, tsa, tsb, tsc]
    refine tree_z rfl (by simp) (fun K hK => ?_)
    have hfs : w3.free? v1.heap.size 0 55 = true := by rw [(brow HNB.out.below).2 _ _ _ (by simp)]; exact World.free?_alloc_at _ _ rfl (by rw [hz55]; omega)
    have hok5 := acs_ok ⟨a, (nn : Int), bal, code⟩ cwa code.length cwc
    go_simp
    refine hK.out _ _ ?_
    clear hK K
    refine tree_fin ?_
    obtain ⟨w5, e5⟩ : ∃ w5, w5 = World.setCells w3 v1.heap.size 0 (cat (acS ⟨a, (nn : Int), bal, code⟩ (.slice cwa code.length cwc) (.slice none 0 0))) := ⟨_, rfl⟩
    have hb3 : Below v1.heap.size v1 w3 := ((Below.refl _ _).alloc (Nat.le_refl _) _).trans (HNB.out.below.mono (by simp))
    have hs3 := hb3.size
    have hb5 : Below v1.heap.size v1 w5 := by rw [e5]; exact hb3.setCells (Nat.le_refl _) _ _
    have r5 : w5.row? v1.heap.size 0 55 = some (cat (acS ⟨a, (nn : Int), bal, code⟩ (.slice cwa code.length cwc) (.slice none 0 0))) := by
     rw [e5, World.row?_setCells_lay 0 _ (Nat.le_refl _) (by rw [acS_len]; omega)]
     rw [(brow HNB.out.below).1 _ _ _ (by simp), World.row?_alloc_at _ _ _ rfl hz55]
     show some (lay (cat zs81) 0 _) = _
     rw [lay_all _ _ (by rw [acS_len, hz55])]
    have ho5 : w5.ownsRow (World.alloc v1 (.cells (cat zs81).toArray 35)).heap.size 5 1 (.slice cwa code.length cwc) code.length (code.map (Value.int .u8)) := by
     rw [e5]
     exact Only.own HNB.out.own ((Only.refl (· = v1.heap.size) _).setCells (fun _ => rfl) _ _) (fun gg hg hx => by have h1 := (HNB.out.own.lt gg hg).1; have h2 : gg = v1.heap.size := hx; simp at h1; omega)
    have hcodeO : Hid (w5.ownsRow w.heap.size 5 1 (.slice cwa code.length cwc) code.length (code.map (Value.int .u8))) := ownsRow_mono ho5 (by have := HND2.out.below.size; simp; omega)
    have HN5 := Lib.hid (HND2.out.next hb5)
    have HMQ5 := Lib.hid (HMQ2.out.below hb5)
    have q5 : w5.row? p 0 35 = some (accC nn bal (.slice ca code.length cc) (.map (some q))) := by rw [HT.out] at t0; exact ((brow hb5).1 _ _ _ (World.row?_lt t0.2)).trans t0.2
    obtain ⟨z0, z1, z33, z34⟩ := accC_parts q5
    have hlt5 : v1.heap.size < w5.heap.size := World.row?_lt r5
    have HR5 := Lib.hid r5
    have HE5 := Lib.hid e5
    rw [← e5]
    clear e5 hb3 hs3 hb5 ho5 r5 q5 z0 z1 z33 hbuild hfs hok5 t0 t3 tA HND2 HMQ2 HNB
    have hq6 : MapAt wdV wW wdV (w5.alloc (.cells #[.map (some q)] 84)) q [] := HMQ5.out.below ((Below.refl _ _).alloc (Nat.le_refl _) _)
    have hc6 : (w5.alloc (.cells #[.map (some q)] 84)).cell? ⟨w5.heap.size, 0, none⟩ = some (.map (some q)) := by
     have := World.alloc_heap_new w5 (.cells #[.map (some q)] 84)
     unfold World.cell?
     simp only [this]
     rfl
    have HWN := Lib.hid (words_none (by simp) hc6 hq6)
    clear hq6 hc6
    go_wp2_with (first
     | (go_at_call 80; refine (maps_KeysW _ _ rfl).mono ?_; rintro e w6 ⟨rfl, rfl⟩)
     | (go_at_call 79; refine HWN.out.mono ?_; rintro e w7 ⟨rfl, hB7⟩))
    have hb7 : Below w5.heap.size w5 w7 := ((Below.refl _ _).alloc (Nat.le_refl _) _).trans (hB7.mono (by simp))
    have HN7 := Lib.hid (HN5.out.next hb7)
    have HC7 := Lib.hid (ownsRow_below hcodeO.out hb7)
    have HR7 : Hid (w7.row? v1.heap.size 0 55 = some (cat (acS ⟨a, (nn : Int), bal, code⟩ (.slice cwa code.length cwc) (.slice none 0 0)))) := by rw [← HR5.out]; exact (brow hb7).1 _ _ _ hlt5
    clear HWN hB7 hb7 HN5 hcodeO HR5 HE5 z34 hlt5
    go_loopw [51] (fun ix wz => ix = .int .i64 0 ∧ wz = w7) (fun _ _ => 0)
    case atStart => exact ⟨rfl, rfl⟩
    case round =>
     obtain ⟨rfl, rfl⟩ := hrel
     rename World => w7
     obtain ⟨⟨cs, hA, hcm⟩, hkk⟩ := HN7.out
     have hcsl := AccsI.len hcm
     have hr7 := HR7.out
     obtain ⟨C, hC⟩ : ∃ C, C = cat (acS ⟨a, (nn : Int), bal, code⟩ (.slice cwa code.length cwc) (.slice none 0 0)) := ⟨_, rfl⟩
     rw [← hC] at hr7
     have hokC : okL 55 C = true := by rw [hC]; exact acs_ok _ _ _ _
     have hlC := okL_len hokC
     have HC := Lib.hid hC
     have HA := Lib.hid hA
     have HKK := Lib.hid hkk
     have HCM := Lib.hid hcm
     clear hC hA hkk hcm HN7 HR7
     go_wp2_with (at_builtin; go_must (refine wpList_append_at (base := w.heap.size) (n := cs.length) (xs := acsC S cs) elemG rfl _ _ rfl rfl rfl ?own ?c0 ?c1 ?c3 ?c4 ?c5 ?_))
     case own => exact HA.out.own
     case c0 => simp
     case c1 => exact hokC
     case c3 => unfold maxLen; omega
     case c4 => omega
     case c5 => have := HA.out.below.size; simp; omega
     intro v' w8 ho hg _
     have HNX := Lib.hid (AccsI.more HA.out HKK.out HCM.out HTK.out HX.out hemp HC.out ho hg HC7.out)
     clear ho hg
     have hk1 : IntKind.i64.wrap ((i : Int) + 1) = ((i + 1 : Nat) : Int) := by rw [wrI _ (by omega) (by omega)]; omega
     go_wp2
     go_roundw
     case rel => exact ⟨i + 1, by omega, by go_num, HNX.out⟩
     case measure => simp [intOf]; omega
  ·have hin : i = ss.length := by omega
   have hiI : ¬ (i : Int) < ss.length := by omega
   have HRR := Lib.hid HR.out
   obtain ⟨⟨cs, hA, hcm⟩, _⟩ := HR.out
   have hcl := AccsI.len hcm
   rw [hin, List.take_length] at hcm
   have hL := live_mem HP.out HEN.out HEL.out HOUT.out HPW.out
   rw [← hcm] at hL
   have HF : Hid (AccsR w wo S u3 cs ∧ AccsL S (cs.map Prod.fst) ∧ cs.length ≤ 4000000) := ⟨hA, hL, by omega⟩
   clear hA hcm hL hin hcl
   go_wp2
   go_ret
   exact ⟨_, rfl, cs, HF.out.1, HF.out.2⟩
end Go.Proofs.YtfflppedbopdpaaGreat
namespace Go.Mun
open Go.Proofs.YtfflppedbopdpaaGreat (Ac)

structure RAc where
 ac : Ac
 slots : List (Nat × Nat)
def RAc.new (a : Nat) : RAc := ⟨⟨a, 0, 0, []⟩, []⟩
def RAc.acc (x : RAc) : Acc := ⟨x.ac.nonce.toNat, x.ac.bal, x.ac.code, fun k => (getA k x.slots).getD 0⟩
def posR : List RAc → Nat → Nat
 | [], _ => 0
 | x :: R, a => if x.ac.addr < a then posR R a + 1 else 0
def hasR (R : List RAc) (a : Nat) : Prop := ∃ x, R[posR R a]? = some x ∧ x.ac.addr = a
def atR (R : List RAc) (a : Nat) : List RAc := R.take (posR R a) ++ RAc.new a :: R.drop (posR R a)
def Rising (R : List RAc) : Prop := (R.map fun x => x.ac.addr).Pairwise (· < ·)
def rst : List RAc → St
 | [], _ => Acc.none
 | x :: R, a => if x.ac.addr = a then x.acc else rst R a
theorem posR_le (R : List RAc) (a : Nat) : posR R a ≤ R.length := by
 induction R with
 | nil => exact Nat.le_refl _
 | cons x R ih => simp only [posR]; split <;> simp <;> omega
theorem posR_lt (R : List RAc) (a : Nat) : ∀ i, i < posR R a → ∃ x, R[i]? = some x ∧ x.ac.addr < a := by
 induction R with
 | nil => intro i hi; simp [posR] at hi
 | cons x R ih =>
  intro i hi
  simp only [posR] at hi
  split at hi
  ·cases i with
   | zero => exact ⟨x, rfl, by assumption⟩
   | succ i => exact ih i (by omega)
  ·omega
theorem posR_at (R : List RAc) (a : Nat) : ∀ x, R[posR R a]? = some x → a ≤ x.ac.addr := by
 induction R with
 | nil => intro x hx; simp at hx
 | cons y R ih =>
  intro x hx
  simp only [posR] at hx
  split at hx
  ·exact ih x (by simpa using hx)
  ·simp at hx; subst hx; omega
theorem rst_none {R : List RAc} {a : Nat} (h : ∀ x ∈ R, x.ac.addr ≠ a) : rst R a = Acc.none := by
 induction R with
 | nil => rfl
 | cons x R ih =>
  simp only [rst]
  rw [if_neg (h x (by simp))]
  exact ih fun y hy => h y (by simp [hy])
theorem rst_some {R : List RAc} (hr : Rising R) {i : Nat} {x : RAc} (h : R[i]? = some x) : rst R x.ac.addr = x.acc := by
 induction R generalizing i with
 | nil => simp at h
 | cons y R ih =>
  unfold Rising at hr
  rw [List.map_cons, List.pairwise_cons] at hr
  cases i with
  | zero => simp at h; subst h; simp [rst]
  | succ i =>
   have hx : x ∈ R := List.mem_of_getElem? (by simpa using h)
   have := hr.1 x.ac.addr (List.mem_map.2 ⟨x, hx, rfl⟩)
   simp only [rst]
   rw [if_neg (by omega)]
   exact ih hr.2 (by simpa using h)
theorem rst_append (R T : List RAc) (a : Nat) : rst (R ++ T) a = if ∃ x ∈ R, x.ac.addr = a then rst R a else rst T a := by
 induction R with
 | nil => simp
 | cons x R ih =>
  simp only [List.cons_append, rst]
  by_cases hx : x.ac.addr = a
  ·rw [if_pos hx, if_pos ⟨x, by simp, hx⟩, if_pos hx]
  ·rw [if_neg hx, ih]
   by_cases h2 : ∃ y ∈ R, y.ac.addr = a
   ·obtain ⟨y, hy, hya⟩ := h2
    rw [if_pos ⟨y, hy, hya⟩, if_pos ⟨y, by simp [hy], hya⟩, if_neg hx]
   ·rw [if_neg h2, if_neg]
    rintro ⟨y, hy, hya⟩
    rcases List.mem_cons.1 hy with rfl | h3
    ·exact hx hya
    ·exact h2 ⟨y, h3, hya⟩
theorem hasR_iff {R : List RAc} {a : Nat} (hr : Rising R) : hasR R a ↔ ∃ x ∈ R, x.ac.addr = a := by
 constructor
 ·rintro ⟨x, h1, h2⟩; exact ⟨x, List.mem_of_getElem? h1, h2⟩
 ·rintro ⟨x, hx, rfl⟩
  obtain ⟨i, hi⟩ := List.mem_iff_getElem?.1 hx
  have hlt : ∀ j, j < i → ∃ y, R[j]? = some y ∧ y.ac.addr < x.ac.addr := by
   intro j hj
   obtain ⟨hil, hi'⟩ := List.getElem?_eq_some_iff.1 hi
   refine ⟨R[j]'(by omega), List.getElem?_eq_getElem _, ?_⟩
   have := List.pairwise_iff_getElem.1 hr j i (by simpa using (show j < R.length by omega)) (by simpa using hil) hj
   simp only [List.getElem_map] at this
   rw [hi'] at this
   exact this
  have hp : posR R x.ac.addr = i := by
   rcases Nat.lt_trichotomy (posR R x.ac.addr) i with h | h | h
   ·obtain ⟨y, h1, h2⟩ := hlt _ h
    have := posR_at R x.ac.addr y h1
    omega
   ·exact h
   ·obtain ⟨y, h1, h2⟩ := posR_lt R x.ac.addr i h
    rw [hi] at h1; cases h1; omega
  exact ⟨x, by rw [hp]; exact hi, rfl⟩
theorem rst_atR {R : List RAc} {a : Nat} (hr : Rising R) (hn : ¬ hasR R a) : rst (atR R a) = rst R := by
 have hna : ∀ x ∈ R, x.ac.addr ≠ a := fun x hx e => hn ((hasR_iff hr).2 ⟨x, hx, e⟩)
 funext b
 unfold atR
 rw [rst_append]
 have e : rst R b = rst (R.take (posR R a) ++ R.drop (posR R a)) b := by rw [List.take_append_drop]
 rw [e, rst_append]
 split
 ·rfl
 ·simp only [rst]
  split
  ·rename_i h1 h2
   have h2' : a = b := h2
   subst h2'
   rw [rst_none]
   ·rfl
   ·intro x hx
    exact hna x (List.mem_of_mem_drop hx)
  ·rfl
theorem rising_atR {R : List RAc} {a : Nat} (hr : Rising R) (hn : ¬ hasR R a) : Rising (atR R a) := by
 have h1 : ∀ x ∈ R.take (posR R a), x.ac.addr < a := by
  intro x hx
  obtain ⟨i, hi⟩ := List.mem_iff_getElem?.1 hx
  rw [List.getElem?_take] at hi
  split at hi
  ·rename_i h
   obtain ⟨y, h2, h3⟩ := posR_lt R a i h
   rw [hi] at h2; cases h2; exact h3
  ·cases hi
 have h2 : ∀ x ∈ R.drop (posR R a), a < x.ac.addr := by
  intro x hx
  have hx2 := hx
  obtain ⟨i, hi⟩ := List.mem_iff_getElem?.1 hx
  rw [List.getElem?_drop] at hi
  have hne : x.ac.addr ≠ a := fun e => hn ((hasR_iff hr).2 ⟨x, List.mem_of_getElem? hi, e⟩)
  have h0 : posR R a < R.length := by
   have := (List.getElem?_eq_some_iff.1 hi).1
   omega
  have h3 := posR_at R a _ (List.getElem?_eq_getElem h0)
  cases i with
  | zero =>
   rw [Nat.add_zero, List.getElem?_eq_getElem h0] at hi
   cases hi
   omega
  | succ i =>
   have hlt := (List.getElem?_eq_some_iff.1 hi).1
   have := List.pairwise_iff_getElem.1 hr (posR R a) (posR R a + (i + 1)) (by simpa using h0) (by simpa using hlt) (by omega)
   simp only [List.getElem_map] at this
   rw [(List.getElem?_eq_some_iff.1 hi).2] at this
   omega
 unfold Rising atR
 rw [List.map_append, List.map_cons, List.pairwise_append, List.pairwise_cons]
 have hr1 : ((R.take (posR R a)).map fun x => x.ac.addr).Pairwise (· < ·) := by
  have := hr.sublist (List.Sublist.map (fun x : RAc => x.ac.addr) (List.take_sublist (posR R a) R))
  exact this
 have hr2 : ((R.drop (posR R a)).map fun x => x.ac.addr).Pairwise (· < ·) := by
  have := hr.sublist (List.Sublist.map (fun x : RAc => x.ac.addr) (List.drop_sublist (posR R a) R))
  exact this
 refine ⟨hr1, ⟨?_, hr2⟩, ?_⟩
 ·intro b hb
  obtain ⟨x, hx, rfl⟩ := List.mem_map.1 hb
  exact h2 x hx
 ·intro b hb c hc
  obtain ⟨x, hx, rfl⟩ := List.mem_map.1 hb
  have hxa := h1 x hx
  rcases List.mem_cons.1 hc with rfl | hc
  ·exact hxa
  ·obtain ⟨y, hy, rfl⟩ := List.mem_map.1 hc
   have := h2 y hy
   exact Nat.lt_trans hxa this
theorem hasR_atR (R : List RAc) (a : Nat) : (atR R a)[posR R a]? = some (RAc.new a) := by
 unfold atR
 rw [List.getElem?_append_right (by rw [List.length_take]; omega), List.length_take]
 have := posR_le R a
 rw [Nat.min_eq_left this, Nat.sub_self]
 rfl
theorem rst_set {R : List RAc} {i : Nat} {x y : RAc} (hr : Rising R) (h : R[i]? = some x) (he : y.ac.addr = x.ac.addr) : rst (R.set i y) = upd (rst R) x.ac.addr y.acc := by
 funext b
 induction R generalizing i with
 | nil => simp at h
 | cons z R ih =>
  unfold Rising at hr
  rw [List.map_cons, List.pairwise_cons] at hr
  cases i with
  | zero =>
   simp at h; subst h
   simp only [List.set_cons_zero, rst, upd]
   rw [he]
   by_cases hb : b = z.ac.addr
   ·subst hb; simp
   ·rw [if_neg (fun e => hb e.symm), if_neg hb, if_neg (fun e => hb e.symm)]
  | succ i =>
   have hx : x ∈ R := List.mem_of_getElem? (by simpa using h)
   have hlt := hr.1 x.ac.addr (List.mem_map.2 ⟨x, hx, rfl⟩)
   simp only [List.set_cons_succ, rst, upd]
   rw [ih hr.2 (by simpa using h)]
   unfold upd
   by_cases hb : b = x.ac.addr
   ·subst hb; rw [if_neg (by omega), if_pos rfl, if_pos rfl]
   ·rw [if_neg hb, if_neg hb]
theorem rising_set {R : List RAc} {i : Nat} {x y : RAc} (hr : Rising R) (h : R[i]? = some x) (he : y.ac.addr = x.ac.addr) : Rising (R.set i y) := by
 have : (R.set i y).map (fun x : RAc => x.ac.addr) = R.map fun x => x.ac.addr := by
  rw [List.map_set, he]
  apply List.ext_getElem?
  intro j
  rw [List.getElem?_set]
  split
  ·rename_i e
   subst e
   split
   ·rw [List.getElem?_map, h]; rfl
   ·rename_i hl
    rw [List.getElem?_eq_none (by omega)]
  ·rfl
 unfold Rising
 rw [this]
 exact hr
end Go.Mun
namespace Go.Mun
open Go.RowKit
open Go.Proofs.YtfflppedbopdpaaGreat (Ac acS acS_len)

theorem lessU : ∀ (A B : List UInt8), A.length = B.length → Op.bytesLess A B = decide (numU A < numU B)
 | [], [], _ => by simp [Op.bytesLess, numU]
 | [], _ :: _, h => by simp at h
 | _ :: _, [], h => by simp at h
 | x :: A, y :: B, h => by
  have hl : A.length = B.length := by simpa using h
  have ha := numU_lt A
  have hb := numU_lt B
  rw [hl] at ha
  simp only [Op.bytesLess, numU, hl, lessU A B hl]
  have hxy : x < y ↔ x.toNat < y.toNat := UInt8.lt_iff_toNat_lt
  rcases Nat.lt_trichotomy x.toNat y.toNat with h1 | h1 | h1
  ·have h2 : (x.toNat + 1) * 256 ^ B.length ≤ y.toNat * 256 ^ B.length := Nat.mul_le_mul_right _ h1
   rw [Nat.add_mul, Nat.one_mul] at h2
   have d1 : decide (x < y) = true := decide_eq_true (hxy.2 h1)
   rw [d1, Bool.true_or]
   exact (decide_eq_true (by omega)).symm
  ·have e : x = y := UInt8.toNat_inj.1 h1
   subst e
   have d1 : decide (x < x) = false := decide_eq_false (by rw [hxy]; omega)
   rw [d1]
   simp
  ·have h2 : (y.toNat + 1) * 256 ^ B.length ≤ x.toNat * 256 ^ B.length := Nat.mul_le_mul_right _ h1
   rw [Nat.add_mul, Nat.one_mul] at h2
   have d1 : decide (x < y) = false := decide_eq_false (by rw [hxy]; omega)
   have d2 : (x == y) = false := by
    rw [beq_eq_false_iff_ne]; rintro rfl; omega
   rw [d1, d2]
   simp only [Bool.false_and, Bool.or_false]
   exact (decide_eq_false (by omega)).symm
theorem strOf_toList (l : Bts) : (strOf l).toList = toU l := by
 unfold strOf toU
 rw [ByteArray.toList_mk]
theorem less_be (k a b : Nat) (ha : a < 256 ^ k) (hb : b < 256 ^ k) : Op.bytesLess (strOf (be k a)).toList (strOf (be k b)).toList = decide (a < b) := by
 rw [strOf_toList, strOf_toList, lessU _ _ (by simp [toU]), numU_toU _ (be_byt k a), numU_toU _ (be_byt k b), beN_be k a ha, beN_be k b hb]

def slotC (sl : List (Nat × Nat)) : List Value := sl.flatMap fun p => beC 32 p.1 ++ beC 32 p.2
theorem slotC_len (sl : List (Nat × Nat)) : (slotC sl).length = sl.length * 64 := by
 induction sl with
 | nil => rfl
 | cons p sl ih => simp [slotC] at ih ⊢; omega
structure SlotsAt (w : World) (own : Own) (sv : Value) (sl : List (Nat × Nat)) : Prop where
 read : w.ownsRow 0 97 64 sv sl.length (slotC sl)
 lab : ∀ g, sv.ownBlock = some g → own g = some (.smap 0)
 val : ∀ p ∈ sl, p.1 < wW ∧ p.2 < wW
 len : sl.length ≤ 1000000
structure RAcOk (w : World) (own : Own) (p : RAc × Value × Value) : Prop where
 code : CodeAt w own p.2.1 p.1.ac.code
 slots : SlotsAt w own p.2.2 p.1.slots
 addr : p.1.ac.addr < wA
 bal : p.1.ac.bal < wW
 nonce : 0 ≤ p.1.ac.nonce ∧ p.1.ac.nonce ≤ 9223372036854775807
def racC (p : RAc × Value × Value) : List Value := cat (acS p.1.ac p.2.1 p.2.2)
theorem racC_len (p : RAc × Value × Value) : (racC p).length = 55 := acS_len _ _ _
def rowsR (ps : List (RAc × Value × Value)) : List Value := ps.flatMap racC
theorem rowsR_cons (p : RAc × Value × Value) (ps : List (RAc × Value × Value)) : rowsR (p :: ps) = racC p ++ rowsR ps := by simp [rowsR]
theorem rowsR_append (ps qs : List (RAc × Value × Value)) : rowsR (ps ++ qs) = rowsR ps ++ rowsR qs := by simp [rowsR]
theorem rowsR_len (ps : List (RAc × Value × Value)) : (rowsR ps).length = ps.length * 55 := by
 induction ps with
 | nil => rfl
 | cons p ps ih => rw [rowsR_cons, List.length_append, racC_len, ih, List.length_cons]; omega
theorem rowsR_take (ps : List (RAc × Value × Value)) (k : Nat) : (rowsR ps).take (k * 55) = rowsR (ps.take k) := by
 induction ps generalizing k with
 | nil => simp [rowsR]
 | cons p ps ih =>
  cases k with
  | zero => simp [rowsR]
  | succ k =>
   rw [rowsR_cons, List.take_succ_cons, rowsR_cons, show (k + 1) * 55 = (racC p).length + k * 55 by rw [racC_len]; omega, List.take_length_add_append, ih]
theorem rowsR_drop (ps : List (RAc × Value × Value)) (k : Nat) : (rowsR ps).drop (k * 55) = rowsR (ps.drop k) := by
 induction ps generalizing k with
 | nil => simp [rowsR]
 | cons p ps ih =>
  cases k with
  | zero => simp [rowsR]
  | succ k =>
   rw [rowsR_cons, List.drop_succ_cons, show (k + 1) * 55 = (racC p).length + k * 55 by rw [racC_len]; omega, ← List.drop_drop, List.drop_left, ih]
structure RArr (w : World) (own : Own) (v : Value) (ps : List (RAc × Value × Value)) : Prop where
 cells : w.ownsRow 0 35 55 v ps.length (rowsR ps)
 lab : ∀ g, v.ownBlock = some g → own g = some .acc
 ok : ∀ p ∈ ps, RAcOk w own p
structure RStC (w : World) (own : Own) (sb : Nat) (lv mv : Value) (ps : List (RAc × Value × Value)) (ms : List (Nat × Value × List (RAc × Value × Value))) (n : Nat) : Prop where
 lab : own sb = some .st
 row : w.row? sb 0 3 = some [lv, mv, .int .i64 n]
 free : w.free? sb 0 3 = true
 arr : RArr w own lv ps
 up : Rising (ps.map fun p => p.1)
 marks : w.ownsRow 0 195 2 mv ms.length (ms.flatMap fun m => [.int .i64 m.1, m.2.1])
 mlab : ∀ g, mv.ownBlock = some g → own g = some .marks
 each : ∀ m ∈ ms, RArr w own m.2.1 m.2.2 ∧ Rising (m.2.2.map fun p => p.1)
 apart : (lv :: ms.map fun m => m.2.1).Pairwise fun a b => a.ownBlock = none ∨ a.ownBlock ≠ b.ownBlock
 low : ∀ b, own b ≠ none → b < w.heap.size
 count : ms.length ≤ n ∧ ∀ m ∈ ms, m.1 ≤ n
def RSt (w : World) (own : Own) (sb : Nat) (R : List RAc) (M : List (Nat × List RAc)) (n : Nat) : Prop :=
 ∃ lv mv ps ms, RStC w own sb lv mv ps ms n ∧ R = ps.map (fun p => p.1) ∧ M = ms.map fun m => (m.1, m.2.2.map fun p => p.1)
section
variable {w w' : World} {own : Own} {S : Nat → Prop}
theorem SlotsAt.only {sv : Value} {sl : List (Nat × Nat)} (h : SlotsAt w own sv sl) (ho : Only S w w') (hS : ∀ b, S b → own b ≠ some (.smap 0)) : SlotsAt w' own sv sl :=
 ⟨Only.own h.read ho fun g hg hs => hS g hs (h.lab g hg), h.lab, h.val, h.len⟩
theorem RAcOk.only {p : RAc × Value × Value} (h : RAcOk w own p) (ho : Only S w w') (hS : ∀ b, S b → own b ≠ some .code ∧ own b ≠ some (.smap 0)) : RAcOk w' own p :=
 ⟨h.code.only ho fun b hb => (hS b hb).1, h.slots.only ho fun b hb => (hS b hb).2, h.addr, h.bal, h.nonce⟩
theorem RArr.only {v : Value} {ps : List (RAc × Value × Value)} (h : RArr w own v ps) (ho : Only S w w') (hS : ∀ b, S b → own b ≠ some .code ∧ own b ≠ some (.smap 0)) (hv : ∀ g, v.ownBlock = some g → ¬ S g) : RArr w' own v ps :=
 ⟨Only.own h.cells ho hv, h.lab, fun p hp => (h.ok p hp).only ho hS⟩
theorem RArr.only_out {v : Value} {ps : List (RAc × Value × Value)} (h : RArr w own v ps) (ho : Only S w w') (hS : ∀ b, S b → own b = none) : RArr w' own v ps :=
 h.only ho (fun b hb => by rw [hS b hb]; simp) fun g hg hs => by have := h.lab g hg; rw [hS g hs] at this; cases this
theorem RStC.only {sb : Nat} {lv mv : Value} {ps : List (RAc × Value × Value)} {ms : List (Nat × Value × List (RAc × Value × Value))} {n : Nat} (h : RStC w own sb lv mv ps ms n) (ho : Only S w w') (hS : ∀ b, S b → own b = none) : RStC w' own sb lv mv ps ms n := by
 have hn : ∀ {b l}, own b = some l → ¬ S b := fun hb hr => by rw [hS _ hr] at hb; cases hb
 have hlt := World.row?_lt h.row
 exact { h with
  row := by rw [ho.row? hlt (hn h.lab)]; exact h.row
  free := by rw [ho.free? hlt (hn h.lab)]; exact h.free
  arr := h.arr.only_out ho hS
  marks := Only.own h.marks ho fun g hg => hn (h.mlab g hg)
  each := fun m hm => ⟨(h.each m hm).1.only_out ho hS, (h.each m hm).2⟩
  low := fun b hb => Nat.lt_of_lt_of_le (h.low b hb) ho.size }
theorem RSt.only {sb : Nat} {R : List RAc} {M : List (Nat × List RAc)} {n : Nat} (h : RSt w own sb R M n) (ho : Only S w w') (hS : ∀ b, S b → own b = none) : RSt w' own sb R M n := by
 obtain ⟨lv, mv, ps, ms, h1, h2⟩ := h
 exact ⟨lv, mv, ps, ms, h1.only ho hS, h2⟩
theorem RSt.below {sb : Nat} {R : List RAc} {M : List (Nat × List RAc)} {n : Nat} (h : RSt w own sb R M n) (hb : Below w.heap.size w w') : RSt w' own sb R M n :=
 h.only (S := fun _ => False) (Only.of_below_size hb) (fun _ h => h.elim)
theorem RSt.lows {sb : Nat} {R : List RAc} {M : List (Nat × List RAc)} {n : Nat} (h : RSt w own sb R M n) : ∀ b, own b ≠ none → b < w.heap.size := by
 obtain ⟨lv, mv, ps, ms, h1, _⟩ := h
 exact h1.low
theorem SlotsAt.le {own' : Own} {sv : Value} {sl : List (Nat × Nat)} (h : SlotsAt w own sv sl) (hl : own.le own') : SlotsAt w own' sv sl := ⟨h.read, fun g hg => hl _ _ (h.lab g hg), h.val, h.len⟩
theorem RAcOk.le {own' : Own} {p : RAc × Value × Value} (h : RAcOk w own p) (hl : own.le own') : RAcOk w own' p := ⟨h.code.le hl, h.slots.le hl, h.addr, h.bal, h.nonce⟩
theorem RArr.le {own' : Own} {v : Value} {ps : List (RAc × Value × Value)} (h : RArr w own v ps) (hl : own.le own') : RArr w own' v ps := ⟨h.cells, fun g hg => hl _ _ (h.lab g hg), fun p hp => (h.ok p hp).le hl⟩
end
end Go.Mun
