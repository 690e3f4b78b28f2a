/-
  What State.Accounts hands back: the accounts that are something, in their order (where none has slots).
  State.Accounts, where no account has slots.
  The reference's copies of accounts.
  The reference's copied.
  The reference's marks: copies get labels; a mark more.
  The reference's Mark.
  The reference's IsEmpty.
  The reference's SameAccount, SameAccounts: of accounts that are the same.
  The reference's SameAccounts: of what Accounts has told twice.
  The reference's SameAccounts, of accounts without slots, by whomever told.
  The reference's Accounts.
-/
import Derived.Test.YtfflppedbopdpaaGreatXRw0
import Derived.Test.YtfflppedbopdpaaGreatXSt2
import Derived.Test.YtfflppedbopdpaaGreatXCx0
import Derived.Test.YtfflppedbopdpaaGreatXRs4
set_option linter.unusedVariables false
set_option maxRecDepth 1000000
set_option maxHeartbeats 8000000
set_option linter.unusedSimpArgs false
namespace Go.Proofs.YtfflppedbopdpaaGreat
open Go.RowKit Go.Mun

theorem bytes_cloneO (a : Option Addr) (n c : Nat) (l : List Int) (hn : n = l.length) (hn2 : n ≤ 70000000000000) (w : World) (hI : Ints w .u8 a c l) :
  Calls Tryz.prog 45 #[.slice a n c] w fun e w' => ∃ v, e = .returned v ∧ OwnB w w' v l := by
 cases a with
 | none =>
  have hc := hI.nil rfl
  have hl := hI.len
  subst hc
  have : l = [] := List.eq_nil_of_length_eq_zero (by omega)
  subst this
  subst hn
  have hq := slice_nil' w
  go_enter Tryz.func45, Tryz.ntmps45
  go_wp2
  go_ret
  exact ⟨_, rfl, ⟨rfl, .inl ⟨rfl, rfl⟩⟩, Below.refl _ _⟩
 | some p =>
  have HI := hid hI
  have HN := hid hn
  have hq := slice_nil n c p w
  have hm : n ≤ maxLen := by unfold maxLen; omega
  have hs := HI.out.below ((Below.refl _ _).alloc (Nat.le_refl _) (.cells #[] 5))
  have HS := hid (SrcAt.ints hs)
  have HO : Hid ((w.alloc (.cells #[] 5)).ownsRow w.heap.size 5 1 (.slice (some ⟨w.heap.size, 0, none⟩) 0 0) 0 []) := World.ownsRow_lit (e := 5) (size := 1) w #[] 0 (Nat.le_refl _) (by decide) rfl
  clear hI hn hs
  go_enter Tryz.func45, Tryz.ntmps45
  go_wp2_with (at_builtin; go_must (refine wpList_append_intsN (base := w.heap.size) (n := 0) (xs := []) elem26 rfl _ _ rfl HO.out rfl rfl HN.out (HI.out.below ((Below.refl _ _).alloc (Nat.le_refl _) (.cells #[] 5))) ?c3 ?c4 ?c5 ?_))
  case c3 => omega
  case c4 => omega
  case c5 => simp
  intro v3 w3 ho3 hg3
  have H3 : Hid (OwnB w w3 v3 l) := by
   refine ⟨?_, ((Below.refl _ _).alloc (Nat.le_refl _) _).grown hg3 (by simp) (fun k hk => by simp [Value.ownBlock] at hk; omega)⟩
   rw [← HN.out]; exact ho3
  clear ho3 hg3
  go_wp2
  go_ret
  exact ⟨_, rfl, H3.out⟩

def acOf (a : Nat) (x : Acc) : Ac := ⟨a, (x.nonce : Int), x.bal, x.code⟩
def acCells (S : St) (p : Nat × Value) : List Value := cat (acS (acOf p.1 (S p.1)) p.2 (.slice none 0 0))
def acsC (S : St) (cs : List (Nat × Value)) : List Value := cs.flatMap (acCells S)
theorem acsC_snoc (S : St) (cs : List (Nat × Value)) (p : Nat × Value) : acsC S (cs ++ [p]) = acsC S cs ++ acCells S p := by simp [acsC]
structure AccsR (w0 w : World) (S : St) (v : Value) (cs : List (Nat × Value)) : Prop where
 below : Below w0.heap.size w0 w
 own : w.ownsRow w0.heap.size 35 55 v cs.length (acsC S cs)
 code : ∀ p ∈ cs, w.ownsRow w0.heap.size 5 1 p.2 (S p.1).code.length ((S p.1).code.map (Value.int .u8))
theorem own_apart {w : World} {b b' e e' s s' n n' : Nat} {v v' : Value} {xs xs' : List Value} (h : w.ownsRow b e s v n xs) (h' : w.ownsRow b' e' s' v' n' xs') (he : e ≠ e') : v.ownBlock = none ∨ v.ownBlock ≠ v'.ownBlock := by
 rcases h.2 with ⟨rfl, _⟩ | ⟨g, cap, cur, rfl, _, hg, _⟩
 ·exact .inl rfl
 ·rcases h'.2 with ⟨rfl, _⟩ | ⟨g', cap', cur', rfl, _, hg', _⟩
  ·exact .inr (by simp [Value.ownBlock])
  ·refine .inr fun e2 => ?_
   have : g = g' := by simpa [Value.ownBlock] using e2
   subst this
   rw [hg] at hg'
   cases hg'
   exact he rfl
theorem AccsR.start (w : World) (S : St) : AccsR w w S (.slice none 0 0) [] := ⟨Below.refl _ _, World.ownsRow_nil _ _ _ _, fun p hp => (by cases hp)⟩
theorem AccsR.next {w0 w w' : World} {S : St} {v : Value} {cs : List (Nat × Value)} (h : AccsR w0 w S v cs) (hb : Below w.heap.size w w') : AccsR w0 w' S v cs :=
 ⟨h.below.trans (hb.mono h.below.size), ownsRow_below h.own hb, fun p hp => ownsRow_below (h.code p hp) hb⟩
theorem AccsR.app {w0 w w' : World} {S : St} {v v' cv : Value} {cs : List (Nat × Value)} {a : Nat} (h : AccsR w0 w S v cs) (ho : w'.ownsRow w0.heap.size 35 55 v' (cs.length + 1) (acsC S cs ++ cat (acS (acOf a (S a)) cv (.slice none 0 0))))
  (hg : w.grownBy w' v.ownBlock) (hc : w.ownsRow w0.heap.size 5 1 cv (S a).code.length ((S a).code.map (Value.int .u8))) : AccsR w0 w' S v' (cs ++ [(a, cv)]) := by
 refine ⟨h.below.grown hg h.below.size (fun j hj => (h.own.lt j hj).1), ?_, fun p hp => ?_⟩
 ·rw [acsC_snoc, List.length_append]; exact ho
 ·rcases List.mem_append.1 hp with h1 | h1
  ·exact (h.code p h1).kept hg (own_apart (h.code p h1) h.own (by decide))
  ·rw [List.mem_singleton] at h1
   subst h1
   exact hc.kept hg (own_apart hc h.own (by decide))
theorem adrC_take : ∀ (l : List Nat) (i : Nat) (hi : i < l.length), ((adrC l).drop (i * 20)).take 20 = beC 20 l[i]
 | [], i, hi => by simp at hi
 | a :: l, 0, _ => by
  have : adrC (a :: l) = beC 20 a ++ adrC l := by simp [adrC]
  rw [this, Nat.zero_mul, List.drop_zero, List.take_append_of_le_length (by simp), List.take_of_length_le (by simp)]
  rfl
 | a :: l, i + 1, hi => by
  have : adrC (a :: l) = beC 20 a ++ adrC l := by simp [adrC]
  have hlen : (beC 20 a).length = 20 := by simp
  rw [this, show (i + 1) * 20 = (beC 20 a).length + i * 20 by rw [hlen]; omega, ← List.drop_drop, List.drop_left]
  simpa using adrC_take l i (by simpa using hi)
theorem row_adr {w : World} {g : Nat} {l : List Nat} {i : Nat} (hr : w.row? g 0 (l.length * 20) = some (adrC l)) (hi : i < l.length) : w.row? g (i * 20) 20 = some (beC 20 l[i]) := by
 have h1 := World.row?_sub hr (o' := i * 20) (n' := 20) (by omega) (by omega)
 rw [h1, Nat.sub_zero, adrC_take l i hi]
theorem build35 (a : Nat) (n : Int) (b : Nat) (x : Option Addr) (k c : Nat) (code : Bts) : fillL 55 (plOf zs81) (cat zs81) [(0, .agg (beC 20 a).toArray), (1, .int .i64 n), (2, .agg (beC 32 b).toArray), (3, .slice x k c)] = some (cat (acS ⟨a, n, b, code⟩ (.slice x k c) (.slice none 0 0))) := by
 rw [fillL_cats _ _ _ zs81_len]
 ·rfl
 ·rw [lensG]
  refine fits_cons ?_ (fits_cons ?_ (fits_cons ?_ (fits_cons ?_ (fits_nil _))))
  ·show some 20 = some (beC 20 a).length; rw [beC_len]
  ·rfl
  ·show some 32 = some (beC 32 b).length; rw [beC_len]
  ·rfl
def AccsL (S : St) (l : List Nat) : Prop := l.Pairwise (· < ·) ∧ ∀ a, a ∈ l ↔ a < wA ∧ ¬ (S a).empty
theorem emptyB_iff (x : Acc) : x.emptyB = true ↔ x.empty := by unfold Acc.emptyB; simp
theorem live_mem {S : St} {ks ss : List Nat} (hp : ss.Perm ks) (hd : ks.Nodup) (hlt : ∀ a ∈ ks, a < wA) (hout : ∀ a, a ∉ ks → S a = Acc.none) (hs : ss.Pairwise (· ≤ ·)) : AccsL S (ss.filter fun a => !(S a).emptyB) := by
 refine ⟨?_, fun a => ?_⟩
 ·have h1 : ss.Nodup := hp.nodup_iff.2 hd
  have h2 : ss.Pairwise (· < ·) := by
   have := hs.and h1
   exact this.imp fun {a b} h => by have := h.1; have := h.2; omega
  exact h2.filter _
 ·rw [List.mem_filter, hp.mem_iff]
  constructor
  ·rintro ⟨h1, h2⟩
   refine ⟨hlt a h1, fun h3 => ?_⟩
   rw [(emptyB_iff _).2 h3] at h2
   cases h2
  ·rintro ⟨h1, h2⟩
   refine ⟨?_, ?_⟩
   ·by_cases hm : a ∈ ks
    ·exact hm
    ·exact absurd (by rw [hout a hm]; exact ⟨rfl, rfl, rfl, fun _ => rfl⟩) h2
   ·cases he : (S a).emptyB with
    | false => rfl
    | true => exact absurd ((emptyB_iff _).1 he) h2
theorem own_form {w : World} {b e s n : Nat} {v : Value} {xs : List Value} (h : w.ownsRow b e s v n xs) : ∃ ad c, v = .slice ad n c := by
 rcases h.2 with ⟨rfl, rfl⟩ | ⟨g, cap, cur, rfl, _⟩
 ·exact ⟨none, 0, rfl⟩
 ·exact ⟨_, _, rfl⟩
structure AccsI (w wr : World) (S : St) (ss : List Nat) (kv v : Value) (i : Nat) : Prop where
 r : ∃ cs, AccsR w wr S v cs ∧ cs.map Prod.fst = (ss.take i).filter fun a => !(S a).emptyB
 k : wr.ownsRow w.heap.size 23 20 kv ss.length (adrC ss)
theorem AccsI.next {w wr w' : World} {S : St} {ss : List Nat} {kv v : Value} {i : Nat} (h : AccsI w wr S ss kv v i) (hb : Below wr.heap.size wr w') : AccsI w w' S ss kv v i := by
 obtain ⟨⟨cs, h1, h2⟩, h3⟩ := h
 exact ⟨⟨cs, h1.next hb, h2⟩, ownsRow_below h3 hb⟩
theorem AccsI.below {w wr : World} {S : St} {ss : List Nat} {kv v : Value} {i : Nat} (h : AccsI w wr S ss kv v i) : Below w.heap.size w wr := by
 obtain ⟨⟨cs, h1, _⟩, _⟩ := h
 exact h1.below
theorem AccsI.skip {w wr : World} {S : St} {ss : List Nat} {kv v : Value} {i : Nat} (h : AccsI w wr S ss kv v i) (hi : i < ss.length) (he : (S ss[i]).emptyB = true) : AccsI w wr S ss kv v (i + 1) := by
 obtain ⟨⟨cs, h1, h2⟩, h3⟩ := h
 refine ⟨⟨cs, h1, ?_⟩, h3⟩
 rw [List.take_succ_eq_append_getElem hi, List.filter_append, ← h2]
 simp [he]
theorem AccsI.more {w w7 w8 : World} {S : St} {ss : List Nat} {kv v v' cv : Value} {i a : Nat} {cs : List (Nat × Value)} {x : Acc} {C : List Value} (h : AccsR w w7 S v cs) (hk : w7.ownsRow w.heap.size 23 20 kv ss.length (adrC ss)) (hm : cs.map Prod.fst = (ss.take i).filter fun a => !(S a).emptyB)
  (ht : ss.take (i + 1) = ss.take i ++ [a]) (hx : S a = x) (he : x.emptyB = false) (hC : C = cat (acS (acOf a x) cv (.slice none 0 0))) (ho : w8.ownsRow w.heap.size 35 55 v' (cs.length + 1) (acsC S cs ++ C))
  (hg : w7.grownBy w8 v.ownBlock) (hc : w7.ownsRow w.heap.size 5 1 cv x.code.length (x.code.map (Value.int .u8))) : AccsI w w8 S ss kv v' (i + 1) := by
 subst hx
 refine ⟨⟨cs ++ [(a, cv)], h.app (by rw [← hC]; exact ho) hg hc, ?_⟩, hk.kept hg (own_apart hk h.own (by decide))⟩
 rw [ht, List.filter_append, ← hm, List.map_append]
 simp [he]
theorem AccsI.len {ss : List Nat} {cs : List (Nat × Value)} {i : Nat} {f : Nat → Bool} (h : cs.map Prod.fst = (ss.take i).filter f) : cs.length ≤ ss.length := by
 have h1 := congrArg List.length h
 rw [List.length_map] at h1
 have h2 := List.length_filter_le f (ss.take i)
 rw [List.length_take] at h2
 omega
theorem acs_ok (x : Ac) (p : Option Addr) (n c : Nat) : okL 55 (cat (acS x (.slice p n c) (.slice none 0 0))) = true := by
 refine okL_cat (acS_len _ _ _) fun s hs => ?_
 simp only [acS, List.mem_cons, List.not_mem_nil, or_false] at hs
 rcases hs with rfl | rfl | rfl | rfl | rfl
 all_goals first | rfl | (rw [beC_len]; exact beC_ok _ _)
theorem st_accounts {w : World} {own : Go.Mun.Own} {sb : Nat} {S : St} {M : List (Nat × St)} {n : Nat} (h : StateAt TU w own sb S M n) (hn : n ≤ 3000000) (hz : ∀ a k, (S a).slots k = 0) :
  Calls Tryz.prog 41 #[.pointer (some ⟨sb, 0, none⟩)] w fun e w' => ∃ v cs, e = .returned v ∧ AccsR w w' S v cs ∧ AccsL S (cs.map Prod.fst) ∧ cs.length ≤ 4000000 := by
 obtain ⟨mb, uv, mv, last, E, U, mk, hs, -, -, -, -, hE⟩ := h
 obtain ⟨c0, _⟩ := hs.cells
 have hElt : ∀ a ∈ E.map Prod.fst, a < wA := by
  intro a ha
  obtain ⟨es, clock, _, _, hN, _⟩ := hs.map
  obtain ⟨p, hp, rfl⟩ := List.mem_map.1 ha
  exact hN p hp
 have hEn := hs.map.nodup
 have hEl : (E.map Prod.fst).length ≤ 4000000 := by rw [List.length_map]; omega
 have hout : ∀ a, a ∉ E.map Prod.fst → S a = Acc.none := fun a ha => by
  rcases sta_get hs a with ⟨p, hp, _⟩ | ⟨_, h2⟩
  ·exact absurd (List.mem_map.2 ⟨_, getA_mem hp, rfl⟩) ha
  ·exact h2
 have hin : ∀ a, a ∈ E.map Prod.fst → ∃ p, getA a E = some p ∧ AccAt w own p (S a) := fun a ha => by
  rcases sta_get hs a with h1 | ⟨h2, _⟩
  ·exact h1
  ·obtain ⟨q, hq, rfl⟩ := List.mem_map.1 ha; exact absurd rfl (getA_none_iff h2 q hq)
 have hSF : Calls Tryz.prog 75 #[.func (.func 184) #[] #[.pointer (some ⟨w.heap.size, 0, none⟩)], .func (.func 77) #[] #[]] (w.alloc (.cells #[.map (some mb)] 90)) fun e W' => ∃ v ss, e = .returned v ∧ ss.Perm (E.map Prod.fst) ∧ ss.Pairwise (· ≤ ·) ∧ W'.ownsRow (w.alloc (.cells #[.map (some mb)] 90)).heap.size 23 20 v ss.length (adrC ss) ∧ Below (w.alloc (.cells #[.map (some mb)] 90)).heap.size (w.alloc (.cells #[.map (some mb)] 90)) W' := by
  have hm1 : MapAt adV wA ptV (w.alloc (.cells #[.map (some mb)] 90)) mb E := hs.map.below ((Below.refl _ _).alloc (Nat.le_refl _) _)
  obtain ⟨D, hD, hsz, h1, h2⟩ := hm1.owns keyA (by unfold maxLen; rw [List.length_map] at hEl; omega)
  have hcell : (w.alloc (.cells #[.map (some mb)] 90)).cell? ⟨w.heap.size, 0, none⟩ = some (.map (some mb)) := by
   have := World.alloc_heap_new w (.cells #[.map (some mb)] 90)
   unfold World.cell?
   simp only [this]
   rfl
  exact sortedFunc70 _ _ _ hElt hEl (collect_plain w.heap.size mb E.length D (E.map Prod.fst) _ hElt hEn hEl (by rw [List.length_map]; exact hsz) h1 h2 (by simp) hcell hD)
 have HSF := hid hSF
 have HS := hid hs
 have HIN := hid hin
 have HOUT := hid hout
 have HEL := hid hElt
 have HEN := hid hEn
 have HEB := hid hEl
 have HZ := hid hz
 clear hSF hs hin hout hElt hEn hEl hz hE
 go_enter Tryz.func41, Tryz.ntmps41
 go_wp2_with (first
  | (go_at_call 76; refine (maps_Keys _ _ rfl).mono ?_; rintro e w1 ⟨rfl, rfl⟩)
  | (go_at_call 75; refine HSF.out.mono ?_; rintro e w2 ⟨kv, ss, rfl, hp, hpw, hrow, hB⟩; obtain ⟨ad, cap, rfl⟩ := own_form hrow))
 have hB2 : Below w.heap.size w w2 := ((Below.refl _ w).alloc (Nat.le_refl _) _).trans (hB.mono (by simp))
 have hrow2 : w2.ownsRow w.heap.size 23 20 (.slice ad ss.length cap) ss.length (adrC ss) := by
  refine ⟨hrow.1, hrow.2.imp id ?_⟩
  rintro ⟨g, cap', cur, h1, h2, h3⟩
  exact ⟨g, cap', cur, h1, by simp at h2; omega, h3⟩
 have HI0 : Hid (AccsI w w2 S ss (.slice ad ss.length cap) (.slice none 0 0) 0) := ⟨⟨[], (AccsR.start w S).next hB2, rfl⟩, hrow2⟩
 have HP := hid hp
 have HPW := hid hpw
 have hssl : ss.length ≤ 4000000 := by rw [hp.length_eq]; exact HEB.out
 clear hB hB2 hrow hrow2 hp hpw c0
 go_wp2_with fail
 go_loopw [3, 17] (fun v idx wr => ∃ i : Nat, i ≤ ss.length ∧ idx = .int .i64 (i : Int) ∧ AccsI w wr S ss (.slice ad ss.length cap) v i) (fun _ i _ => ss.length - (intOf i).toNat)
 case atStart => exact ⟨0, by omega, rfl, HI0.out⟩
 case round =>
  rename World => wo
  clear HI0 HSF
  obtain ⟨i, hi, rfl, hr⟩ := hrel
  have HR := hid hr
  clear hr
  by_cases hlt : i < ss.length
  ·have hmem : ss[i] ∈ E.map Prod.fst := HP.out.mem_iff.1 (List.getElem_mem hlt)
   have hlA := HEL.out _ hmem
   obtain ⟨p, hp, hacc⟩ := HIN.out _ hmem
   obtain ⟨g, c2, hkv, _, _, hc2, hkr, _⟩ := own_words HR.out.k (by omega)
   cases hkv
   have hkr2 := row_adr hkr hlt
   have hiI : (i : Int) < ss.length := by omega
   have hok := beC_ok 20 ss[i]
   have hbx := box_new (w := wo) (t := 23) (n := 20) (zU8_len 20) hok
   have hf1 : (wo.alloc (.cells (zU8 20).toArray 23)).free? wo.heap.size 0 20 = true := World.free?_alloc_at _ _ rfl (by rw [zU8_len]; omega)
   obtain ⟨w1, e1⟩ : ∃ w1, w1 = (wo.alloc (.cells (zU8 20).toArray 23)).setCells wo.heap.size 0 (beC 20 ss[i]) := ⟨_, rfl⟩
   rw [← e1] at hbx
   have HE1 := hid e1
   have HSK := hid (fun he => HR.out.skip hlt he)
   have HTK := hid (List.take_succ_eq_append_getElem hlt)
   have hbS : Below w.heap.size w w1 := HR.out.below.trans (hbx.1.mono HR.out.below.size)
   have hbD : Below w.heap.size w w1.drew := hbS.trans ((Below.refl _ _).drew.mono hbS.size)
   have hacc1 := hacc.only_out (R := fun _ => False) (Only.of_below_size hbD) (fun _ h => h.elim)
   have l1 := (HS.out.map.below hbD).look keyA Tryz.underlying90 (zero82 _) hlA
   rw [hp] at l1
   have l2 : (Instr.lookup 90 (.map (some mb)) (.agg (beC 20 ss[i]).toArray) false).run Tryz.prog w1.drew = .ok (.pointer (some ⟨p, 0, none⟩)) w1.drew := l1
   obtain ⟨c1, _⟩ := (HS.out.only (R := fun _ => False) (Only.of_below_size hbD) (fun _ h => h.elim)).cells
   have r1 : w1.drew.row? wo.heap.size 0 20 = some (beC 20 ss[i]) := hbx.2
   have HBX := hid hbx.1
   have HACC := hid hacc1
   have HN1 := hid (HR.out.next hbx.1)
   clear hmem hp hacc hkr hbx e1 hbS hbD hacc1 l1
   generalize ss[i] = a at *
   have hlen := okL_len hok
   go_wp2_with fail
   rw [← HE1.out]
   refine wp_region_still_lit (by kernel_rfl) (by kernel_rfl) ?_
   change wpStill _ _ (World.drew _) _ _ _
   repeat still_step
   refine wpStill_nil ?_
   have HEM := hid (empty_calls HACC.out.r)
   cases hemp : (S a).emptyB with
   | true =>
    rw [hemp] at HEM
    go_wp2_with (go_at_call 44; refine HEM.out.mono ?_; rintro e w2 ⟨rfl, rfl⟩)
    have hk1 : IntKind.i64.wrap ((i : Int) + 1) = ((i + 1 : Nat) : Int) := by rw [wrI _ (by omega) (by omega)]; omega
    go_roundw
    case rel => exact ⟨i + 1, by omega, by go_num, (HSK.out hemp).next (HBX.out.trans ((Below.refl _ _).drew.mono HBX.out.size))⟩
    case measure => simp [intOf]; omega
   | false =>
    rw [hemp] at HEM
    obtain ⟨cv, q, sl, hrow, hcode, _, hmq, hsl⟩ := HACC.out.cells
    obtain ⟨⟨ca, cc, rfl, hints, _⟩, _, hcl⟩ := hcode
    obtain rfl : sl = [] := slots_zero hsl (HZ.out a)
    have hxn := HACC.out.nonce
    have hxb := HACC.out.bal
    have HCI := hid hints
    have HCL := hid hcl
    have HMQ := hid hmq
    have HND : Hid (AccsI w w1.drew S ss (.slice (some ⟨g, 0, none⟩) ss.length cap) u3 i) := HN1.out.next (Below.refl _ _).drew
    clear hints hcl hmq hsl HSK l2 c1 hkr2
    generalize hX : S a = x at *
    have HX := hid hX
    clear hX
    obtain ⟨nn, bal, code, slots⟩ := x
    simp only at *
    go_wp2_with (go_at_call 44; refine HEM.out.mono ?_; rintro e w2 ⟨rfl, rfl⟩)
    have HB1 : Hid (Below wo.heap.size wo w1.drew) := HBX.out.trans ((Below.refl _ _).drew.mono HBX.out.size)
    have HR1 : Hid (w1.drew.row? p 0 35 = some (accC nn bal (.slice ca code.length cc) (.map (some q)))) := hrow
    have HR2 : Hid (w1.drew.row? wo.heap.size 0 20 = some (beC 20 a)) := r1
    have hwo : wo.heap.size < w1.drew.heap.size := World.row?_lt r1
    have hpl : p < w1.drew.heap.size := World.row?_lt hrow
    clear HBX HE1 HACC HEM hrow r1 hf1 HN1
    generalize w1.drew = v0 at *
    obtain ⟨T, hT⟩ : ∃ T : World → Prop, T = fun w' => w'.row? wo.heap.size 0 20 = some (beC 20 a) ∧ w'.row? p 0 35 = some (accC nn bal (.slice ca code.length cc) (.map (some q))) := ⟨_, rfl⟩
    have HT := hid hT
    have tb : ∀ w2 w3, T w2 → Below w2.heap.size w2 w3 → T w3 := by
     rw [hT]; intro w2 w3 h hb
     exact ⟨((brow hb).1 _ _ _ (World.row?_lt h.1)).trans h.1, ((brow hb).1 _ _ _ (World.row?_lt h.2)).trans h.2⟩
    have HTB := hid tb
    have t0 : T v0.drew := by rw [hT]; exact ⟨HR2.out, HR1.out⟩
    have HI0 : Hid (Ints v0.drew .u8 ca cc code) := HCI.out.below (Below.refl _ _).drew
    have hcl2 : code.length ≤ 70000000000000 := by have := HCL.out; omega
    have hokb := beC_ok 32 bal
    have hz55 := zs81_len
    have HND2 : Hid (AccsI w v0.drew S ss (.slice (some ⟨g, 0, none⟩) ss.length cap) u3 i) := HND.out.next (Below.refl _ _).drew
    have HMQ2 : Hid (MapAt wdV wW wdV v0.drew q []) := HMQ.out.below (Below.refl _ _).drew
    clear hT tb HND HMQ HB1 HR1 HR2 HCI
    refine wp_region_tree T [16] (.take 0 (.pure 1 (.pure 2 (.pure 3 (.take 4 (.pure 5 (.pure 6 (.pure 7 (.take 8 (.pure 9 (.pure 10 (.pure 11 (.take 12 (.alt 13 (.pure 14 (.alt 15 (.alt 16 .fin .stop) .stop)) (.alt 15 (.alt 13 (.pure 14 (.alt 16 .fin .stop)) .stop) .stop))))))))))))))) (by kernel_rfl) (by kernel_rfl) ?_
    generalize v0.drew = v1 at *
    iterate 13
     first
     |refine tree_take ?_ t0 rfl (by rfl) (fun w' hs => ?_) (fun _ _ _ h => h) ?_
      rotate_left
      ·rw [HT.out] at hs
       obtain ⟨q1, q2⟩ := hs; obtain ⟨z0, z1, z33, z34⟩ := accC_parts q2
       go_simp
       try rfl
      simp only [Act.put, tsa, tsb, tsc]
     |refine tree_pure ?_ rfl (by rfl) (fun w' hs => ?_) (fun _ _ _ h => h) ?_
      rotate_left
      ·clear hs
       go_simp
       try rfl
      simp only [Act.put, tsa, tsb, tsc]
    refine tree_alt rfl (fun K hK => ?_) ?_
    ·go_simp
     refine (bytes_cloneO ca code.length cc code rfl hcl2 _ HI0.out).mono ?_
     rintro e w3 ⟨cw, rfl, hnb⟩
     have t3 : T w3 := HTB.out _ _ t0 hnb.below
     have HNB := hid hnb
     obtain ⟨cwa, cwc, hcw⟩ := own_form hnb.own
     clear hnb
     subst hcw
     have hbuild := build35 a nn bal cwa code.length cwc code
     refine hK.out _ _ t3 ?_
     clear hK K
     refine tree_pure ?_ rfl (by rfl) (fun w' hs => ?_) (fun _ _ _ h => h) ?_
     rotate_left
     ·clear hs
      refine (bl81 _ _ _ _ _ _ _ _).trans ?_
      refine (congrArg (fun r => asNext (blRow Tryz.prog 35 _ _ r)) hbuild).trans ?_
      rfl
     simp only [Act.put, tsa, tsb, tsc]
     refine tree_run rfl (fun K hK => ?_)
     go_simp
     have hbm : Below w3.heap.size w3 (World.alloc w3 (.cells (cat zs81).toArray 35)) := (Below.refl _ _).alloc (Nat.le_refl _) _
     have tA : T (World.alloc w3 (.cells (cat zs81).toArray 35)) := HTB.out _ _ t3 hbm
     clear hbm
     refine hK.out _ _ tA ?_
     clear hK K
     refine tree_z rfl (by simp) (fun K hK => ?_)
     have hfs : (World.alloc w3 (.cells (cat zs81).toArray 35)).free? w3.heap.size 0 55 = true := World.free?_alloc_at _ _ rfl (by rw [hz55]; omega)
     have hok5 := acs_ok ⟨a, (nn : Int), bal, code⟩ cwa code.length cwc
     go_simp
     refine hK.out _ _ ?_
     clear hK K
     refine tree_fin ?_
     obtain ⟨w5, e5⟩ : ∃ w5, w5 = World.setCells (World.alloc w3 (.cells (cat zs81).toArray 35)) w3.heap.size 0 (cat (acS ⟨a, (nn : Int), bal, code⟩ (.slice cwa code.length cwc) (.slice none 0 0))) := ⟨_, rfl⟩
     have hb3 : Below v1.heap.size v1 w3 := HNB.out.below
     have hs3 := hb3.size
     have hb5 : Below v1.heap.size v1 w5 := by rw [e5]; exact (hb3.trans ((Below.refl _ _).alloc hs3 _)).setCells (by omega) _ _
     have r5 : w5.row? w3.heap.size 0 55 = some (cat (acS ⟨a, (nn : Int), bal, code⟩ (.slice cwa code.length cwc) (.slice none 0 0))) := by
      rw [e5, World.row?_setCells_lay 0 _ (Nat.le_refl _) (by rw [acS_len]; omega)]
      rw [World.row?_alloc_at _ _ _ rfl hz55]
      show some (lay (cat zs81) 0 _) = _
      rw [lay_all _ _ (by rw [acS_len, hz55])]
     have ho5 : w5.ownsRow v1.heap.size 5 1 (.slice cwa code.length cwc) code.length (code.map (Value.int .u8)) := by
      rw [e5]
      exact ownsRow_below HNB.out.own (((Below.refl _ _).alloc (Nat.le_refl _) _).setCells (Nat.le_refl _) _ _)
     have hcodeO : Hid (w5.ownsRow w.heap.size 5 1 (.slice cwa code.length cwc) code.length (code.map (Value.int .u8))) := ownsRow_mono ho5 (by have := HND2.out.below.size; omega)
     have HN5 := hid (HND2.out.next hb5)
     have HMQ5 := hid (HMQ2.out.below hb5)
     have q5 : w5.row? p 0 35 = some (accC nn bal (.slice ca code.length cc) (.map (some q))) := by rw [HT.out] at t0; exact ((brow hb5).1 _ _ _ (World.row?_lt t0.2)).trans t0.2
     obtain ⟨z0, z1, z33, z34⟩ := accC_parts q5
     have hlt5 : w3.heap.size < w5.heap.size := World.row?_lt r5
     have HR5 := hid r5
     have HE5 := hid e5
     rw [← e5]
     clear e5 hb3 hs3 hb5 ho5 r5 q5 z0 z1 z33 hbuild hfs hok5 t0 t3 tA HND2 HMQ2 HNB
     have hq6 : MapAt wdV wW wdV (w5.alloc (.cells #[.map (some q)] 84)) q [] := HMQ5.out.below ((Below.refl _ _).alloc (Nat.le_refl _) _)
     have hc6 : (w5.alloc (.cells #[.map (some q)] 84)).cell? ⟨w5.heap.size, 0, none⟩ = some (.map (some q)) := by
      have := World.alloc_heap_new w5 (.cells #[.map (some q)] 84)
      unfold World.cell?
      simp only [this]
      rfl
     have HWN := hid (words_none (by simp) hc6 hq6)
     clear hq6 hc6
     go_wp2_with (first
      | (go_at_call 80; refine (maps_KeysW _ _ rfl).mono ?_; rintro e w6 ⟨rfl, rfl⟩)
      | (go_at_call 79; refine HWN.out.mono ?_; rintro e w7 ⟨rfl, hB7⟩))
     have hb7 : Below w5.heap.size w5 w7 := ((Below.refl _ _).alloc (Nat.le_refl _) _).trans (hB7.mono (by simp))
     have HN7 := hid (HN5.out.next hb7)
     have HC7 := hid (ownsRow_below hcodeO.out hb7)
     have HR7 : Hid (w7.row? w3.heap.size 0 55 = some (cat (acS ⟨a, (nn : Int), bal, code⟩ (.slice cwa code.length cwc) (.slice none 0 0)))) := by rw [← HR5.out]; exact (brow hb7).1 _ _ _ hlt5
     clear HWN hB7 hb7 HN5 hcodeO HR5 HE5 z34 hlt5
     go_loopw [51] (fun ix wz => ix = .int .i64 0 ∧ wz = w7) (fun _ _ => 0)
     case atStart => exact ⟨rfl, rfl⟩
     case round =>
      obtain ⟨rfl, rfl⟩ := hrel
      rename World => w7
      obtain ⟨⟨cs, hA, hcm⟩, hkk⟩ := HN7.out
      have hcsl := AccsI.len hcm
      have hr7 := HR7.out
      obtain ⟨C, hC⟩ : ∃ C, C = cat (acS ⟨a, (nn : Int), bal, code⟩ (.slice cwa code.length cwc) (.slice none 0 0)) := ⟨_, rfl⟩
      rw [← hC] at hr7
      have hokC : okL 55 C = true := by rw [hC]; exact acs_ok _ _ _ _
      have hlC := okL_len hokC
      have HC := hid hC
      have HA := hid hA
      have HKK := hid hkk
      have HCM := hid hcm
      clear hC hA hkk hcm HN7 HR7
      go_wp2_with (at_builtin; go_must (refine wpList_append_at (base := w.heap.size) (n := cs.length) (xs := acsC S cs) elemG rfl _ _ rfl rfl rfl ?own ?c0 ?c1 ?c3 ?c4 ?c5 ?_))
      case own => exact HA.out.own
      case c0 => simp
      case c1 => exact hokC
      case c3 => unfold maxLen; omega
      case c4 => omega
      case c5 => have := HA.out.below.size; simp; omega
      intro v' w8 ho hg _
      have HNX := hid (AccsI.more HA.out HKK.out HCM.out HTK.out HX.out hemp HC.out ho hg HC7.out)
      clear ho hg
      have hk1 : IntKind.i64.wrap ((i : Int) + 1) = ((i + 1 : Nat) : Int) := by rw [wrI _ (by omega) (by omega)]; omega
      go_wp2
      go_roundw
      case rel => exact ⟨i + 1, by omega, by go_num, HNX.out⟩
      case measure => simp [intOf]; omega
    refine tree_run rfl (fun K hK => ?_)
    go_simp
    have hbm : Below v1.heap.size v1 (World.alloc v1 (.cells (cat zs81).toArray 35)) := (Below.refl _ _).alloc (Nat.le_refl _) _
    have tA : T (World.alloc v1 (.cells (cat zs81).toArray 35)) := HTB.out _ _ t0 hbm
    have HIA := hid (HI0.out.below hbm)
    clear hbm
    refine hK.out _ _ tA ?_
    clear hK K
    refine tree_run rfl (fun K hK => ?_)
    go_simp
    refine (bytes_cloneO ca code.length cc code rfl hcl2 _ HIA.out).mono ?_
    rintro e w3 ⟨cw, rfl, hnb⟩
    have t3 : T w3 := HTB.out _ _ tA hnb.below
    have HNB := hid hnb
    obtain ⟨cwa, cwc, hcw⟩ := own_form hnb.own
    clear hnb
    subst hcw
    have hbuild := build35 a nn bal cwa code.length cwc code
    refine hK.out _ _ t3 ?_
    clear hK K
    refine tree_pure ?_ rfl (by rfl) (fun w' hs => ?_) (fun _ _ _ h => h) ?_
    rotate_left
    ·clear hs
     refine (bl81 _ _ _ _ _ _ _ _).trans ?_
     refine (congrArg (fun r => asNext (blRow Tryz.prog 35 _ _ r)) hbuild).trans ?_
     rfl
    simp only [Act.put, tsa, tsb, tsc]
    refine tree_z rfl (by simp) (fun K hK => ?_)
    have hfs : w3.free? v1.heap.size 0 55 = true := by rw [(brow HNB.out.below).2 _ _ _ (by simp)]; exact World.free?_alloc_at _ _ rfl (by rw [hz55]; omega)
    have hok5 := acs_ok ⟨a, (nn : Int), bal, code⟩ cwa code.length cwc
    go_simp
    refine hK.out _ _ ?_
    clear hK K
    refine tree_fin ?_
    obtain ⟨w5, e5⟩ : ∃ w5, w5 = World.setCells w3 v1.heap.size 0 (cat (acS ⟨a, (nn : Int), bal, code⟩ (.slice cwa code.length cwc) (.slice none 0 0))) := ⟨_, rfl⟩
    have hb3 : Below v1.heap.size v1 w3 := ((Below.refl _ _).alloc (Nat.le_refl _) _).trans (HNB.out.below.mono (by simp))
    have hs3 := hb3.size
    have hb5 : Below v1.heap.size v1 w5 := by rw [e5]; exact hb3.setCells (Nat.le_refl _) _ _
    have r5 : w5.row? v1.heap.size 0 55 = some (cat (acS ⟨a, (nn : Int), bal, code⟩ (.slice cwa code.length cwc) (.slice none 0 0))) := by
     rw [e5, World.row?_setCells_lay 0 _ (Nat.le_refl _) (by rw [acS_len]; omega)]
     rw [(brow HNB.out.below).1 _ _ _ (by simp), World.row?_alloc_at _ _ _ rfl hz55]
     show some (lay (cat zs81) 0 _) = _
     rw [lay_all _ _ (by rw [acS_len, hz55])]
    have ho5 : w5.ownsRow (World.alloc v1 (.cells (cat zs81).toArray 35)).heap.size 5 1 (.slice cwa code.length cwc) code.length (code.map (Value.int .u8)) := by
     rw [e5]
     exact Only.own HNB.out.own ((Only.refl (· = v1.heap.size) _).setCells (fun _ => rfl) _ _) (fun gg hg hx => by have h1 := (HNB.out.own.lt gg hg).1; have h2 : gg = v1.heap.size := hx; simp at h1; omega)
    have hcodeO : Hid (w5.ownsRow w.heap.size 5 1 (.slice cwa code.length cwc) code.length (code.map (Value.int .u8))) := ownsRow_mono ho5 (by have := HND2.out.below.size; simp; omega)
    have HN5 := hid (HND2.out.next hb5)
    have HMQ5 := hid (HMQ2.out.below hb5)
    have q5 : w5.row? p 0 35 = some (accC nn bal (.slice ca code.length cc) (.map (some q))) := by rw [HT.out] at t0; exact ((brow hb5).1 _ _ _ (World.row?_lt t0.2)).trans t0.2
    obtain ⟨z0, z1, z33, z34⟩ := accC_parts q5
    have hlt5 : v1.heap.size < w5.heap.size := World.row?_lt r5
    have HR5 := hid r5
    have HE5 := hid e5
    rw [← e5]
    clear e5 hb3 hs3 hb5 ho5 r5 q5 z0 z1 z33 hbuild hfs hok5 t0 t3 tA HND2 HMQ2 HNB
    have hq6 : MapAt wdV wW wdV (w5.alloc (.cells #[.map (some q)] 84)) q [] := HMQ5.out.below ((Below.refl _ _).alloc (Nat.le_refl _) _)
    have hc6 : (w5.alloc (.cells #[.map (some q)] 84)).cell? ⟨w5.heap.size, 0, none⟩ = some (.map (some q)) := by
     have := World.alloc_heap_new w5 (.cells #[.map (some q)] 84)
     unfold World.cell?
     simp only [this]
     rfl
    have HWN := hid (words_none (by simp) hc6 hq6)
    clear hq6 hc6
    go_wp2_with (first
     | (go_at_call 80; refine (maps_KeysW _ _ rfl).mono ?_; rintro e w6 ⟨rfl, rfl⟩)
     | (go_at_call 79; refine HWN.out.mono ?_; rintro e w7 ⟨rfl, hB7⟩))
    have hb7 : Below w5.heap.size w5 w7 := ((Below.refl _ _).alloc (Nat.le_refl _) _).trans (hB7.mono (by simp))
    have HN7 := hid (HN5.out.next hb7)
    have HC7 := hid (ownsRow_below hcodeO.out hb7)
    have HR7 : Hid (w7.row? v1.heap.size 0 55 = some (cat (acS ⟨a, (nn : Int), bal, code⟩ (.slice cwa code.length cwc) (.slice none 0 0)))) := by rw [← HR5.out]; exact (brow hb7).1 _ _ _ hlt5
    clear HWN hB7 hb7 HN5 hcodeO HR5 HE5 z34 hlt5
    go_loopw [51] (fun ix wz => ix = .int .i64 0 ∧ wz = w7) (fun _ _ => 0)
    case atStart => exact ⟨rfl, rfl⟩
    case round =>
     obtain ⟨rfl, rfl⟩ := hrel
     rename World => w7
     obtain ⟨⟨cs, hA, hcm⟩, hkk⟩ := HN7.out
     have hcsl := AccsI.len hcm
     have hr7 := HR7.out
     obtain ⟨C, hC⟩ : ∃ C, C = cat (acS ⟨a, (nn : Int), bal, code⟩ (.slice cwa code.length cwc) (.slice none 0 0)) := ⟨_, rfl⟩
     rw [← hC] at hr7
     have hokC : okL 55 C = true := by rw [hC]; exact acs_ok _ _ _ _
     have hlC := okL_len hokC
     have HC := hid hC
     have HA := hid hA
     have HKK := hid hkk
     have HCM := hid hcm
     clear hC hA hkk hcm HN7 HR7
     go_wp2_with (at_builtin; go_must (refine wpList_append_at (base := w.heap.size) (n := cs.length) (xs := acsC S cs) elemG rfl _ _ rfl rfl rfl ?own ?c0 ?c1 ?c3 ?c4 ?c5 ?_))
     case own => exact HA.out.own
     case c0 => simp
     case c1 => exact hokC
     case c3 => unfold maxLen; omega
     case c4 => omega
     case c5 => have := HA.out.below.size; simp; omega
     intro v' w8 ho hg _
     have HNX := hid (AccsI.more HA.out HKK.out HCM.out HTK.out HX.out hemp HC.out ho hg HC7.out)
     clear ho hg
     have hk1 : IntKind.i64.wrap ((i : Int) + 1) = ((i + 1 : Nat) : Int) := by rw [wrI _ (by omega) (by omega)]; omega
     go_wp2
     go_roundw
     case rel => exact ⟨i + 1, by omega, by go_num, HNX.out⟩
     case measure => simp [intOf]; omega
  ·have hin : i = ss.length := by omega
   have hiI : ¬ (i : Int) < ss.length := by omega
   have HRR := hid HR.out
   obtain ⟨⟨cs, hA, hcm⟩, _⟩ := HR.out
   have hcl := AccsI.len hcm
   rw [hin, List.take_length] at hcm
   have hL := live_mem HP.out HEN.out HEL.out HOUT.out HPW.out
   rw [← hcm] at hL
   have HF : Hid (AccsR w wo S u3 cs ∧ AccsL S (cs.map Prod.fst) ∧ cs.length ≤ 4000000) := ⟨hA, hL, by omega⟩
   clear hA hcm hL hin hcl
   go_wp2
   go_ret
   exact ⟨_, rfl, cs, HF.out.1, HF.out.2⟩
theorem elemS : ElemOf Tryz.prog 33 97 (.agg (zU8 64).toArray) 64 64 := .mk' Tryz.underlying33 (by kernel_rfl) (by kernel_rfl) (by decide)
theorem s1_sl (ρ : Operand → Value) (dst : Option Tmp) (x y : Operand) (t : TypeId) (pos : String) (after : Array Edge) (gd : Option (Nat × Bool)) (w : World) : (execOp ρ ⟨dst, .store 33 x y, t, pos, after, gd⟩).run Tryz.prog w = asSkip (stOne Tryz.prog 33 (ρ x) (ρ y) w) := ex_store1 ρ dst x y t pos after gd w (by kernel_rfl)
attribute [go_sem ↓] s1_sl
theorem slotC_ok (sl : List (Nat × Nat)) : okL (sl.length * 64) (slotC sl) = true := by
 refine okL_mk (slotC_len sl) fun v hv => ?_
 obtain ⟨p, _, hp⟩ := List.mem_flatMap.1 hv
 rcases List.mem_append.1 hp with h | h
 ·exact okL_mem (beC_ok 32 p.1) v h
 ·exact okL_mem (beC_ok 32 p.2) v h
structure CopR (w0 w : World) (v : Value) (ds : List (RAc × Value × Value)) : Prop where
 below : Below w0.heap.size w0 w
 own : w.ownsRow w0.heap.size 35 55 v ds.length (rowsR ds)
 code : ∀ p ∈ ds, w.ownsRow w0.heap.size 5 1 p.2.1 p.1.ac.code.length (p.1.ac.code.map (Value.int .u8))
 slots : ∀ p ∈ ds, w.ownsRow w0.heap.size 97 64 p.2.2 p.1.slots.length (slotC p.1.slots)
theorem CopR.start (w : World) : CopR w w (.slice none 0 0) [] := ⟨Below.refl _ _, World.ownsRow_nil _ _ _ _, fun p hp => (by cases hp), fun p hp => (by cases hp)⟩
theorem CopR.next {w0 w w' : World} {v : Value} {ds : List (RAc × Value × Value)} (h : CopR w0 w v ds) (hb : Below w.heap.size w w') : CopR w0 w' v ds :=
 ⟨h.below.trans (hb.mono h.below.size), ownsRow_below h.own hb, fun p hp => ownsRow_below (h.code p hp) hb, fun p hp => ownsRow_below (h.slots p hp) hb⟩
theorem grown_only {w w' : World} {row : Option Nat} (hg : w.grownBy w' row) : Only (fun g => row = some g) w w' := Only.of_grown hg
theorem CopR.app {w0 w w' : World} {v v' : Value} {ds : List (RAc × Value × Value)} {p : RAc × Value × Value} (h : CopR w0 w v ds) (ho : w'.ownsRow w0.heap.size 35 55 v' (ds.length + 1) (rowsR ds ++ racC p))
  (hg : w.grownBy w' v.ownBlock) (hc : w.ownsRow w0.heap.size 5 1 p.2.1 p.1.ac.code.length (p.1.ac.code.map (Value.int .u8))) (hs : w.ownsRow w0.heap.size 97 64 p.2.2 p.1.slots.length (slotC p.1.slots)) : CopR w0 w' v' (ds ++ [p]) := by
 have hO := grown_only hg
 have hk : ∀ {e s n : Nat} {u : Value} {xs : List Value}, w.ownsRow w0.heap.size e s u n xs → e ≠ 35 → w'.ownsRow w0.heap.size e s u n xs := fun hu he => Only.own hu hO fun g hg2 e2 => by
  rcases own_apart h.own hu (fun e3 => he e3.symm) with e4 | e4
  ·rw [e4] at e2; cases e2
  ·exact e4 (by rw [e2, hg2])
 refine ⟨h.below.grown hg h.below.size (fun k hk => (h.own.lt k hk).1), ?_, fun q hq => ?_, fun q hq => ?_⟩
 ·rw [List.length_append, rowsR_append]
  have : rowsR [p] = racC p := by simp [rowsR]
  rw [this]; exact ho
 ·rcases List.mem_append.1 hq with hq | hq
  ·exact hk (h.code q hq) (by decide)
  ·rw [List.mem_singleton.1 hq]; exact hk hc (by decide)
 ·rcases List.mem_append.1 hq with hq | hq
  ·exact hk (h.slots q hq) (by decide)
  ·rw [List.mem_singleton.1 hq]; exact hk hs (by decide)
structure SrcR (w : World) (v : Value) (ps : List (RAc × Value × Value)) : Prop where
 form : ∃ ad c, v = .slice ad ps.length c ∧ ∀ i (hi : i < ps.length), ∃ g off, ad = some ⟨g, off, none⟩ ∧ w.row? g (off + i * 55) 55 = some (racC ps[i])
 code : ∀ p ∈ ps, (∃ a c, p.2.1 = .slice a p.1.ac.code.length c ∧ Ints w .u8 a c p.1.ac.code) ∧ p.1.ac.code.length ≤ 1099511627776
 slots : ∀ p ∈ ps, (∃ a c, p.2.2 = .slice a p.1.slots.length c ∧ SrcAt w a c p.1.slots.length 64 (slotC p.1.slots)) ∧ p.1.slots.length ≤ 1000000
 len : ps.length ≤ 1000001
theorem SrcR.next {w w' : World} {v : Value} {ps : List (RAc × Value × Value)} (h : SrcR w v ps) (hb : Below w.heap.size w w') : SrcR w' v ps := by
 obtain ⟨⟨ad, c, h1, h2⟩, h3, h4, h5⟩ := h
 refine ⟨⟨ad, c, h1, fun i hi => ?_⟩, fun p hp => ?_, fun p hp => ?_, h5⟩
 ·obtain ⟨g, off, e1, e2⟩ := h2 i hi
  exact ⟨g, off, e1, ((brow hb).1 _ _ _ (World.row?_lt e2)).trans e2⟩
 ·obtain ⟨⟨a, c, e1, e2⟩, e3⟩ := h3 p hp
  exact ⟨⟨a, c, e1, e2.below hb⟩, e3⟩
 ·obtain ⟨⟨a, c, e1, e2⟩, e3⟩ := h4 p hp
  exact ⟨⟨a, c, e1, e2.below hb⟩, e3⟩
theorem rac_src {w : World} {own : Go.Mun.Own} {p : RAc × Value × Value} (h : RAcOk w own p) : ((∃ a c, p.2.1 = .slice a p.1.ac.code.length c ∧ Ints w .u8 a c p.1.ac.code) ∧ p.1.ac.code.length ≤ 1099511627776) ∧ ((∃ a c, p.2.2 = .slice a p.1.slots.length c ∧ SrcAt w a c p.1.slots.length 64 (slotC p.1.slots)) ∧ p.1.slots.length ≤ 1000000) := by
 obtain ⟨a, c, e1, e2, _⟩ := h.code.read
 obtain ⟨a2, c2, e3⟩ := own_shape h.slots.read
 refine ⟨⟨⟨a, c, e1, e2⟩, h.code.len⟩, ⟨⟨a2, c2, e3, ?_⟩, h.slots.len⟩⟩
 have := h.slots.read
 rw [e3] at this
 exact src_own this (slotC_ok _)
theorem src_of_own {w : World} {own : Go.Mun.Own} {base : Nat} {v : Value} {ps : List (RAc × Value × Value)} (h : w.ownsRow base 35 55 v ps.length (rowsR ps)) (hok : ∀ p ∈ ps, RAcOk w own p) (hl : ps.length ≤ 1000001) : SrcR w v ps := by
 refine ⟨?_, fun p hp => (rac_src (hok p hp)).1, fun p hp => (rac_src (hok p hp)).2, hl⟩
 obtain ⟨ad, c, e⟩ := own_shape h
 refine ⟨ad, c, e, fun i hi => ?_⟩
 obtain ⟨g, c', e2, _, _, _, hr, _⟩ := own_words h (by omega)
 rw [e] at e2
 cases e2
 refine ⟨g, 0, rfl, ?_⟩
 have h1 := World.row?_sub hr (o' := 0 + i * 55) (n' := 55) (by omega) (by omega)
 rw [h1, Nat.zero_add, Nat.sub_zero, rowsR_at ps i hi]
theorem rac_split (p : RAc × Value × Value) (u v : Value) : racC (p.1, u, v) = splice (splice (racC p) 53 [u]) 54 [v] := by
 unfold racC
 rw [splice_catR (i := 3) (s := [p.2.1]) rfl (by simp) (by simp [acS, offOf_succ, offOf_zero])]
 rw [splice_catR (i := 4) (s := [p.2.2]) rfl (by simp) (by simp [acS, offOf_succ, offOf_zero])]
 rfl
theorem cell_53 {w : World} {g o : Nat} {p : RAc × Value × Value} (h : w.row? g o 55 = some (racC p)) : w.cell? ⟨g, o + 53, none⟩ = some p.2.1 := cell_cat h (i := 3) rfl (by simp [acS, offOf_succ, offOf_zero])
theorem cell_54 {w : World} {g o : Nat} {p : RAc × Value × Value} (h : w.row? g o 55 = some (racC p)) : w.cell? ⟨g, o + 54, none⟩ = some p.2.2 := cell_cat h (i := 4) rfl (by simp [acS, offOf_succ, offOf_zero])
def CopP (w : World) (ps : List (RAc × Value × Value)) (e : Ending) (w' : World) : Prop :=
 ∃ v ds, e = .returned v ∧ CopR w w' v ds ∧ fsts ds = fsts ps
theorem r_copied {w : World} {v : Value} {ps : List (RAc × Value × Value)} (h : SrcR w v ps) : Calls Tryz.prog 83 #[v] w (CopP w ps) := by
 obtain ⟨ad, cp, rfl, hrow⟩ := h.form
 obtain ⟨m, hm⟩ : ∃ m, m = ps.length := ⟨_, rfl⟩
 have hml : m ≤ 1000001 := by rw [hm]; exact h.len
 have HM := hid hm
 have HS := hid h
 have HROW := hid hrow
 rw [← hm]
 clear h hm hrow
 go_enter Tryz.func83, Tryz.ntmps83
 go_wp2_with fail
 go_loopw [3, 4] (fun u ix wr => ∃ (k : Nat) (ds : List (RAc × Value × Value)), k ≤ m ∧ ix = .int .i64 (k : Int) ∧ Hid (CopR w wr u ds ∧ fsts ds = (fsts ps).take k)) (fun _ ix _ => m - (intOf ix).toNat)
 case atStart => exact ⟨0, [], by omega, rfl, CopR.start w, by simp [fsts]⟩
 case round =>
  obtain ⟨k, ds, hk, rfl, HR⟩ := hrel
  by_cases hlt : k < m
  ·have hI : (k : Int) < m := by omega
   have hkp : k < ps.length := by have := HM.out; omega
   have hdl : ds.length = k := by
    have := congrArg List.length HR.out.2
    simpa [fsts, List.length_take, Nat.min_eq_left (Nat.le_of_lt hkp)] using this
   obtain ⟨g, off, rfl, hr0⟩ := HROW.out k hkp
   have hglt := World.row?_lt hr0
   obtain ⟨P, hP⟩ : ∃ P, P = ps[k]'hkp := ⟨_, rfl⟩
   have hPm : P ∈ ps := by rw [hP]; exact List.getElem_mem hkp
   obtain ⟨⟨ca, cc, ecv, _⟩, hcl⟩ := HS.out.code P hPm
   obtain ⟨⟨sa, sc, esv, _⟩, hsl⟩ := HS.out.slots P hPm
   have HTK : Hid ((fsts ps).take (k + 1) = (fsts ps).take k ++ [P.1]) := by
    have : (fsts ps)[k]? = some P.1 := by unfold fsts; rw [List.getElem?_map, List.getElem?_eq_getElem hkp, hP]; rfl
    show (fsts ps).take (k + 1) = _
    rw [List.take_add_one, this]; rfl
   have hr1 : wr.row? g (off + k * 55) 55 = some (racC P) := by rw [hP]; exact ((brow HR.out.1.below).1 _ _ _ hglt).trans hr0
   obtain ⟨C, hC⟩ : ∃ C, C = racC P := ⟨_, rfl⟩
   have hok : okL 55 C = true := by
    rw [hC]; unfold racC; rw [ecv, esv]
    exact okL_cat (acS_len _ _ _) fun s hs => by
     simp only [acS, List.mem_cons, List.not_mem_nil, or_false] at hs
     rcases hs with rfl | rfl | rfl | rfl | rfl
     all_goals first | rfl | (rw [beC_len]; exact beC_ok _ _)
   obtain ⟨n1, hn1⟩ : ∃ n1, n1 = P.1.ac.code.length := ⟨_, rfl⟩
   obtain ⟨n2, hn2⟩ : ∃ n2, n2 = P.1.slots.length := ⟨_, rfl⟩
   have c53 := cell_53 hr1
   have c54 := cell_54 hr1
   rw [ecv, ← hn1] at c53
   rw [esv, ← hn2] at c54
   rw [← hC] at hr1
   -- the box
   obtain ⟨b, hb⟩ : ∃ b, b = wr.heap.size := ⟨_, rfl⟩
   have hgb : g < b := by rw [hb]; exact Nat.lt_of_lt_of_le hglt HR.out.1.below.size
   have hz := zs81_len
   obtain ⟨w5, e5⟩ : ∃ w5, w5 = (wr.alloc (.cells (cat zs81).toArray 35)).setCells wr.heap.size 0 C := ⟨_, rfl⟩
   have hfz : (wr.alloc (.cells (cat zs81).toArray 35)).free? wr.heap.size 0 55 = true := World.free?_alloc_at _ _ rfl (by rw [hz]; omega)
   have hb5 : Below wr.heap.size wr w5 := by rw [e5]; exact ((Below.refl _ _).alloc (Nat.le_refl _) _).setCells (Nat.le_refl _) _ _
   have a5 : Arr w5 b 55 C := by
    rw [e5, hb]
    exact ⟨row?_setCells_whole C hfz hok, by rw [World.free?_setCells']; exact hfz⟩
   have q53 : w5.cell? ⟨g, off + k * 55 + 53, none⟩ = some (.slice ca n1 cc) := by rw [hb5.cell (p := ⟨g, off + k * 55 + 53, none⟩) (by rw [← hb]; exact hgb)]; exact c53
   have q54 : w5.cell? ⟨g, off + k * 55 + 54, none⟩ = some (.slice sa n2 sc) := by rw [hb5.cell (p := ⟨g, off + k * 55 + 54, none⟩) (by rw [← hb]; exact hgb)]; exact c54
   have HI5 : Hid (Ints w5 .u8 ca cc P.1.ac.code ∧ SrcAt w5 sa sc n2 64 (slotC P.1.slots)) := by
    have hx := HS.out.next (HR.out.1.below.trans (hb5.mono HR.out.1.below.size))
    obtain ⟨⟨ca', cc', e1, i1⟩, _⟩ := hx.code P hPm
    obtain ⟨⟨sa', sc', e2, i2⟩, _⟩ := hx.slots P hPm
    rw [ecv] at e1; rw [esv] at e2
    cases e1; cases e2
    rw [hn2]; exact ⟨i1, i2⟩
   have HR5 := hid (HR.out.1.next hb5)
   have HB5 := hid hb5
   have HA5 := hid a5
   have HE5 := hid e5
   have HC := hid hC
   have HN1 := hid hn1
   have HN2 := hid hn2
   have HBS := hid hb
   have HQ54 := hid q54
   have HESV := hid esv
   have HECV := hid ecv
   have hn1l : n1 ≤ 1099511627776 := by omega
   have hn2l : n2 ≤ 1000000 := by omega
   rw [e5] at q53
   clear hb5 a5 e5 c53 c54 hC hn1 hn2 hr0 hP q54 hb esv ecv
   go_wp2_with (rw [← HE5.out]; rw [← HBS.out]; at_builtin; go_must (refine wpList_app elem26 rfl _ _ rfl (World.ownsRow_nil _ _ _ _) rfl (by rw [HN1.out]; exact SrcAt.ints HI5.out.1) rfl ?c1 ?c2 ?_))
   case c1 => unfold maxLen; omega
   case c2 => omega
   intro v6 w6 hv6 ho6 hn6
   obtain ⟨a6, c6, ev6⟩ := own_shape hv6
   have hb6 : Below w5.heap.size w5 w6 := ho6.below (Nat.le_refl _) (fun i hi => by simp [Value.ownBlock] at hi)
   have hsz5 := HB5.out.size
   have hv6' : w6.ownsRow w.heap.size 5 1 v6 P.1.ac.code.length (P.1.ac.code.map (Value.int .u8)) := by
    have := ownsRow_base (base := w.heap.size) hv6 (fun g hg => by
     have h1 := (hn6 g hg).resolve_left (by simp [Value.ownBlock])
     have h2 := HR.out.1.below.size
     omega)
    rw [HN1.out] at this
    simpa using this
   have hA6 : Arr w6 b 55 C := HA5.out.below hb6
   have hf53 := World.free?_sub hA6.free (o' := 53) (n' := 1) (by omega)
   have hone6 : v6.oneCell' = true := by rw [ev6]; rfl
   have hA6s := hA6.set (i := 53) (by omega) v6
   have hbl5 : b < w5.heap.size := HA5.out.lt
   have hb6w : Below wr.heap.size wr (w6.setCell ⟨b, 53, none⟩ v6) := (HB5.out.trans (hb6.mono hsz5)).setCell (p := ⟨b, 53, none⟩) (by rw [← HBS.out]; exact Nat.le_refl _) _
   have q54 : (w6.setCell ⟨b, 53, none⟩ v6).cell? ⟨g, off + k * 55 + 54, none⟩ = some (.slice sa n2 sc) := by
    have h1 : w6.cell? ⟨g, off + k * 55 + 54, none⟩ = some (.slice sa n2 sc) := (hb6.cell (p := ⟨g, off + k * 55 + 54, none⟩) (by show g < w5.heap.size; omega)).trans HQ54.out
    exact (World.cell?_setCells_block (w := w6) b 53 ⟨g, off + k * 55 + 54, none⟩ [v6] (by show g ≠ b; omega)).trans h1
   have HV6 := hid hv6'
   have HW6 := hid hb6w
   have HA6 := hid hA6s
   have HEV6 := hid ev6
   have HNW6 : Hid (∀ g, v6.ownBlock = some g → w5.heap.size ≤ g) := fun g hg => (hn6 g hg).resolve_left (by simp [Value.ownBlock])
   obtain ⟨W7, hW7⟩ : ∃ W7, W7 = w6.setCell ⟨b, 53, none⟩ v6 := ⟨_, rfl⟩
   have HW7 := hid hW7
   have HSA : Hid (SrcAt W7 sa sc n2 64 (slotC P.1.slots)) := by
    rw [hW7]
    have hx := HS.out.next (HR.out.1.below.trans (hb6w.mono HR.out.1.below.size))
    obtain ⟨⟨sa', sc', e2, i2⟩, _⟩ := hx.slots P hPm
    have e3 := HESV.out
    rw [e3] at e2
    cases e2
    rw [HN2.out]; exact i2
   clear hv6 ho6 hn6 hb6 hv6' hA6 hA6s hb6w ev6 hW7
   go_wp2_with (rw [← HW7.out]; at_builtin; go_must (refine wpList_app elemS rfl _ _ rfl (World.ownsRow_nil _ _ _ _) rfl HSA.out rfl ?e1 ?e2 ?_))
   case e1 => unfold maxLen; omega
   case e2 => omega
   intro v7 w7 hv7 ho7 hn7
   obtain ⟨a7, c7, ev7⟩ := own_shape hv7
   have hb7 : Below W7.heap.size W7 w7 := ho7.below (Nat.le_refl _) (fun i hi => by simp [Value.ownBlock] at hi)
   have hW7w : Below wr.heap.size wr W7 := by rw [HW7.out]; exact HW6.out
   have hv7' : w7.ownsRow w.heap.size 97 64 v7 P.1.slots.length (slotC P.1.slots) := by
    have := ownsRow_base (base := w.heap.size) hv7 (fun g hg => by
     have h1 := (hn7 g hg).resolve_left (by simp [Value.ownBlock])
     have h2 := HR.out.1.below.size
     have h3 := hW7w.size
     omega)
    rw [HN2.out] at this
    simpa using this
   have hA7 : Arr w7 b 55 (C.set 53 v6) := Arr.below (by rw [HW7.out]; exact HA6.out) hb7
   have hf54 := World.free?_sub hA7.free (o' := 54) (n' := 1) (by omega)
   have hone7 : v7.oneCell' = true := by rw [ev7]; rfl
   have hA8 := hA7.set (i := 54) (by omega) v7
   obtain ⟨D, hD⟩ : ∃ D, D = racC (P.1, v6, v7) := ⟨_, rfl⟩
   have eD : (C.set 53 v6).set 54 v7 = D := by
    have hl := okL_len hok
    rw [hD, rac_split, ← HC.out, splice_one C 53 v6 (by omega), splice_one (C.set 53 v6) 54 v7 (by simp; omega)]
   rw [eD] at hA8
   have r8 := hA8.row
   have hDl : D.length = 55 := by rw [hD]; exact racC_len _
   have HDK : Hid (okL (1 * 55) D = true) := by
    show _ = _
    rw [hD]; unfold racC
    rw [show (P.1, v6, v7).2.1 = v6 from rfl, show (P.1, v6, v7).2.2 = v7 from rfl, HEV6.out, ev7]
    exact okL_cat (acS_len _ _ _) fun s hs => by
     simp only [acS, List.mem_cons, List.not_mem_nil, or_false] at hs
     rcases hs with rfl | rfl | rfl | rfl | rfl
     all_goals first | rfl | (rw [beC_len]; exact beC_ok _ _)
   obtain ⟨W8, hW8⟩ : ∃ W8, W8 = w7.setCell ⟨b, 54, none⟩ v7 := ⟨_, rfl⟩
   have hb8 : Below wr.heap.size wr W8 := by
    rw [hW8]; exact (hW7w.trans (hb7.mono hW7w.size)).setCell (p := ⟨b, 54, none⟩) (by rw [← HBS.out]; exact Nat.le_refl _) _
   have HR8 := hid (HR.out.1.next hb8)
   -- the two new rows there
   have hbb6 : ∀ g, v6.ownBlock = some g → g ≠ b := fun g hg e => by
    have := HNW6.out g hg
    have := HA5.out.lt
    omega
   have hbb7 : ∀ g, v7.ownBlock = some g → g ≠ b := fun g hg e => by
    have h1 := (hn7 g hg).resolve_left (by simp [Value.ownBlock])
    have h2 : b < W7.heap.size := by rw [HW7.out]; exact HA6.out.lt
    omega
   have HV6' : Hid (W8.ownsRow w.heap.size 5 1 v6 P.1.ac.code.length (P.1.ac.code.map (Value.int .u8))) := by
    have h1 : W7.ownsRow w.heap.size 5 1 v6 P.1.ac.code.length (P.1.ac.code.map (Value.int .u8)) := by
     rw [HW7.out]; exact Only.own HV6.out (only_cell w6 b 53 v6) (fun g hg e => hbb6 g hg e)
    rw [hW8]
    exact Only.own (ownsRow_below h1 hb7) (only_cell w7 b 54 v7) (fun g hg e => hbb6 g hg e)
   have HV7' : Hid (W8.ownsRow w.heap.size 97 64 v7 P.1.slots.length (slotC P.1.slots)) := by
    rw [hW8]
    exact Only.own hv7' (only_cell w7 b 54 v7) (fun g hg e => hbb7 g hg e)
   have HSZ : Hid (w7.heap.size = W8.heap.size) := by
    show _ = _
    rw [hW8]; simp
   have HW8 := hid hW8
   have HD := hid hD
   have hsz8 := hb8.size
   have hszw := HR.out.1.below.size
   clear hv7 ho7 hn7 ev7 hb7 hW7w hv7' hA7 hA8 hD hW8 hb8 hbb6 hbb7 eD q54
   go_wp2_with (rw [← HW8.out]; at_builtin; go_must (refine wpList_append_at (base := w.heap.size) (n := ds.length) (xs := rowsR ds) elemG rfl _ _ rfl rfl rfl HR8.out.own HSZ.out HDK.out ?f1 ?f2 ?f3 ?_))
   case f1 => unfold maxLen; omega
   case f2 => omega
   case f3 => have := hsz8; omega
   intro v9 w9 hv9 hg9 _
   have HN9 : Hid (CopR w w9 v9 (ds ++ [(P.1, v6, v7)]) ∧ fsts (ds ++ [(P.1, v6, v7)]) = (fsts ps).take (k + 1)) := by
    refine ⟨HR8.out.app (p := (P.1, v6, v7)) (by rw [← HD.out]; simpa [hdl] using hv9) hg9 HV6'.out HV7'.out, ?_⟩
    rw [HTK.out, ← HR.out.2]
    simp [fsts]
   clear hv9 hg9
   go_wp2
   go_roundw
   case rel => exact ⟨k + 1, _, by omega, by go_num, HN9⟩
   case measure => simp [intOf]; omega
  ·obtain rfl : k = m := by omega
   have hI : ¬ (k : Int) < k := by omega
   clear hlt
   go_wp2
   go_ret
   obtain ⟨h1, h2⟩ := HR.out
   exact ⟨_, ds, rfl, h1, by rw [h2]; exact List.take_of_length_le (by simp [fsts]; have := HM.out; omega)⟩
structure RacB (x : RAc) : Prop where
 addr : x.ac.addr < wA
 bal : x.ac.bal < wW
 nonce : 0 ≤ x.ac.nonce ∧ x.ac.nonce ≤ 9223372036854775807
 byte : Byt x.ac.code
 clen : x.ac.code.length ≤ 1099511627776
 val : ∀ p ∈ x.slots, p.1 < wW ∧ p.2 < wW
 slen : x.slots.length ≤ 1000000
theorem rac_b {w : World} {own : Go.Mun.Own} {p : RAc × Value × Value} (h : RAcOk w own p) : RacB p.1 := ⟨h.addr, h.bal, h.nonce, h.code.byte, h.code.len, h.slots.val, h.slots.len⟩
theorem rac_bs {w : World} {own : Go.Mun.Own} {ps ds : List (RAc × Value × Value)} (h : ∀ p ∈ ps, RAcOk w own p) (he : fsts ds = fsts ps) : ∀ p ∈ ds, RacB p.1 := by
 intro p hp
 have : p.1 ∈ fsts ds := List.mem_map.2 ⟨p, hp, rfl⟩
 rw [he] at this
 obtain ⟨q, hq, e⟩ := List.mem_map.1 this
 rw [← e]; exact rac_b (h q hq)
open Classical in
theorem cop_label {v0 w : World} {own : Go.Mun.Own} {v : Value} {ds : List (RAc × Value × Value)} (hlow : ∀ b, own b ≠ none → b < v0.heap.size) (hc : CopR v0 w v ds) (hb : ∀ p ∈ ds, RacB p.1) :
  ∃ own' : Go.Mun.Own, (∀ b, b < v0.heap.size → own' b = own b) ∧ (∀ b, own' b ≠ none → b < w.heap.size) ∧ RArr w own' v ds ∧ own.le own' := by
 let own' : Go.Mun.Own := fun b => if v.ownBlock = some b then some .acc else if (∃ p ∈ ds, p.2.1.ownBlock = some b) then some .code else if (∃ p ∈ ds, p.2.2.ownBlock = some b) then some (.smap 0) else own b
 have hx : ∀ b, b < v0.heap.size → own' b = own b := by
  intro b hlt
  show (if v.ownBlock = some b then some Lab.acc else if (∃ p ∈ ds, p.2.1.ownBlock = some b) then some Lab.code else if (∃ p ∈ ds, p.2.2.ownBlock = some b) then some (Lab.smap 0) else own b) = own b
  rw [if_neg (fun e => by have := ownsRow_ge hc.own b e; omega), if_neg (by rintro ⟨p, hp, e⟩; have := ownsRow_ge (hc.code p hp) b e; omega), if_neg (by rintro ⟨p, hp, e⟩; have := ownsRow_ge (hc.slots p hp) b e; omega)]
 have hle : own.le own' := fun b l h => by
  have hlt := hlow b (by rw [h]; simp)
  rw [hx b hlt]; exact h
 have hs := hc.below.size
 refine ⟨own', hx, ?_, ⟨ownsRow_mono hc.own (Nat.zero_le _), ?_, ?_⟩, hle⟩
 ·intro b hne
  by_cases h1 : v.ownBlock = some b
  ·exact ownsRow_lt hc.own b h1
  by_cases h2 : ∃ p ∈ ds, p.2.1.ownBlock = some b
  ·obtain ⟨p, hp, e⟩ := h2; exact ownsRow_lt (hc.code p hp) b e
  by_cases h3 : ∃ p ∈ ds, p.2.2.ownBlock = some b
  ·obtain ⟨p, hp, e⟩ := h3; exact ownsRow_lt (hc.slots p hp) b e
  have hne2 : (if v.ownBlock = some b then some Lab.acc else if (∃ p ∈ ds, p.2.1.ownBlock = some b) then some Lab.code else if (∃ p ∈ ds, p.2.2.ownBlock = some b) then some (Lab.smap 0) else own b) ≠ none := hne
  rw [if_neg h1, if_neg h2, if_neg h3] at hne2
  exact Nat.lt_of_lt_of_le (hlow b hne2) hs
 ·intro g hg
  show (if v.ownBlock = some g then some Lab.acc else _) = some Lab.acc
  rw [if_pos hg]
 ·intro p hp
  have B := hb p hp
  have hv5 := hc.code p hp
  have hv6 := hc.slots p hp
  obtain ⟨a, c, e1, _, i1⟩ := Ints.of_own' hv5
  refine ⟨⟨⟨a, c, e1, i1, fun _ q hq => ?_⟩, B.byte, B.clen⟩, ⟨ownsRow_mono hv6 (Nat.zero_le _), fun g hg => ?_, B.val, B.slen⟩, B.addr, B.bal, B.nonce⟩
  ·have hob : p.2.1.ownBlock = some q.block := by rw [e1, hq]; rfl
   show (if v.ownBlock = some q.block then some Lab.acc else if (∃ p ∈ ds, p.2.1.ownBlock = some q.block) then some Lab.code else _) = some Lab.code
   rw [if_neg (fun e => by
    rcases own_apart hc.own hv5 (by decide) with h | h
    ·rw [h] at e; cases e
    ·exact h (by rw [e, hob])), if_pos ⟨p, hp, hob⟩]
  ·show (if v.ownBlock = some g then some Lab.acc else if (∃ p ∈ ds, p.2.1.ownBlock = some g) then some Lab.code else if (∃ p ∈ ds, p.2.2.ownBlock = some g) then some (Lab.smap 0) else own g) = some (Lab.smap 0)
   rw [if_neg (fun e => by
    rcases own_apart hc.own hv6 (by decide) with h | h
    ·rw [h] at e; cases e
    ·exact h (by rw [e, hg])), if_neg (by
    rintro ⟨q, hq, e⟩
    rcases own_apart (hc.code q hq) hv6 (by decide) with h | h
    ·rw [h] at e; cases e
    ·exact h (by rw [e, hg])), if_pos ⟨p, hp, hg⟩]
section
variable {w w' : World} {own own' : Go.Mun.Own} {sb n : Nat} {lv mv : Value} {ps : List (RAc × Value × Value)} {ms : List (Nat × Value × List (RAc × Value × Value))}
theorem _root_.Go.Mun.RStC.le (h : RStC w own sb lv mv ps ms n) (hle : own.le own') (hlow : ∀ b, own' b ≠ none → b < w.heap.size) : RStC w own' sb lv mv ps ms n :=
 { h with
  lab := hle _ _ h.lab
  arr := h.arr.le hle
  mlab := fun g hg => hle _ _ (h.mlab g hg)
  each := fun m hm => ⟨(h.each m hm).1.le hle, (h.each m hm).2⟩
  low := hlow }
theorem _root_.Go.Mun.RStC.tick (h : RStC w own sb lv mv ps ms n) : RStC (w.setCell ⟨sb, 2, none⟩ (.int .i64 ((n + 1 : Nat) : Int))) own sb lv mv ps ms (n + 1) ∧ ChgR w (w.setCell ⟨sb, 2, none⟩ (.int .i64 ((n + 1 : Nat) : Int))) own own := by
 have hO : Only (· = sb) w (w.setCell ⟨sb, 2, none⟩ (.int .i64 ((n + 1 : Nat) : Int))) := only_cell _ _ _ _
 have hS : ∀ b, b = sb → own b ≠ some .code ∧ own b ≠ some (.smap 0) := fun b hb => by rw [hb, h.lab]; simp
 have hno : ∀ {u : Value} {l : Lab}, l ≠ .st → (∀ g, u.ownBlock = some g → own g = some l) → ∀ g, u.ownBlock = some g → ¬ g = sb := fun hl hv g hg e => by
  have := hv g hg
  rw [e, h.lab] at this
  cases this; exact hl rfl
 refine ⟨{
  lab := h.lab
  row := by rw [row?_setCell_in _ h.row (Nat.zero_le _) (by omega)]; rfl
  free := by rw [free?_setCell']; exact h.free
  arr := h.arr.only hO hS (hno (by simp) h.arr.lab)
  up := h.up
  marks := Only.own h.marks hO (hno (by simp) h.mlab)
  mlab := h.mlab
  each := fun m hm => ⟨(h.each m hm).1.only hO hS (hno (by simp) (h.each m hm).1.lab), (h.each m hm).2⟩
  apart := h.apart
  low := fun b hb => Nat.lt_of_lt_of_le (h.low b hb) hO.size
  count := ⟨Nat.le_succ_of_le h.count.1, fun m hm => Nat.le_succ_of_le (h.count.2 m hm)⟩ }, ⟨fun _ _ => rfl, hO.mono fun b hb => by
   have hb' : b = sb := hb
   exact hot_lab (l := .st) (by rw [hb']; exact h.lab) (by simp) (by simp)⟩⟩
def mrkC (ms : List (Nat × Value × List (RAc × Value × Value))) : List Value := ms.flatMap fun m => [.int .i64 m.1, m.2.1]
theorem _root_.Go.Mun.RStC.addMark {w3 : World} {v mv' : Value} {ds : List (RAc × Value × Value)} (h : RStC w own sb lv mv ps ms n) (hm : ms.length + 1 ≤ n) (harr : RArr w own v ds) (hup : Rising (fsts ds))
  (hap : ∀ u ∈ lv :: ms.map (fun m => m.2.1), u.ownBlock = none ∨ u.ownBlock ≠ v.ownBlock) (ho : Only (fun g => mv.ownBlock = some g) w w3) (hr : w3.ownsRow 0 195 2 mv' (ms.length + 1) (mrkC ms ++ [.int .i64 (n : Int), v]))
  (hl : ∀ g, mv'.ownBlock = some g → mv.ownBlock = some g ∨ w.heap.size ≤ g) :
  ∃ own', RStC (w3.setCell ⟨sb, 1, none⟩ mv') own' sb lv mv' ps (ms ++ [(n, v, ds)]) n ∧ ChgR w (w3.setCell ⟨sb, 1, none⟩ mv') own own' := by
 obtain ⟨hext, hle⟩ := Own.mark_le (l := .marks) hl h.mlab h.low
 have hmv : ∀ {u : Value} {l : Lab}, l ≠ .marks → (∀ g, u.ownBlock = some g → own g = some l) → ∀ g, u.ownBlock = some g → ¬ mv.ownBlock = some g := fun hl hv g hg e => by
  have h1 := hv g hg
  rw [h.mlab g e] at h1
  cases h1; exact hl rfl
 have hsbn : ¬ mv.ownBlock = some sb := fun e => by have := h.mlab sb e; rw [h.lab] at this; cases this
 have hlt := World.row?_lt h.row
 have hO : Only (fun g => mv.ownBlock = some g ∨ g = sb) w (w3.setCell ⟨sb, 1, none⟩ mv') := (ho.mono fun _ h => .inl h).setCell (p := ⟨sb, 1, none⟩) (fun _ => .inr rfl) _
 have hS : ∀ b, (mv.ownBlock = some b ∨ b = sb) → own b ≠ some .code ∧ own b ≠ some (.smap 0) := fun b hb => by
  rcases hb with hb | hb
  ·rw [h.mlab b hb]; simp
  ·rw [hb, h.lab]; simp
 have hno : ∀ {u : Value} {l : Lab}, l ≠ .st → l ≠ .marks → (∀ g, u.ownBlock = some g → own g = some l) → ∀ g, u.ownBlock = some g → ¬ (mv.ownBlock = some g ∨ g = sb) := fun h1 h2 hv g hg e => by
  rcases e with e | e
  ·exact hmv h2 hv g hg e
  ·have := hv g hg; rw [e, h.lab] at this; cases this; exact h1 rfl
 have hrow3 : w3.row? sb 0 3 = some [lv, mv, .int .i64 n] := by rw [ho.row? hlt hsbn]; exact h.row
 have hfree3 : w3.free? sb 0 3 = true := by rw [ho.free? hlt hsbn]; exact h.free
 have hmvs : ∀ g, mv'.ownBlock = some g → ¬ g = sb := fun g hg e => by
  rcases hl g hg with h1 | h1
  ·exact hsbn (by rw [← e]; exact h1)
  ·omega
 refine ⟨_, {
  lab := hle _ _ h.lab
  row := by rw [row?_setCell_in _ hrow3 (Nat.zero_le _) (by omega)]; rfl
  free := by rw [free?_setCell']; exact hfree3
  arr := (h.arr.only hO hS (hno (by simp) (by simp) h.arr.lab)).le hle
  up := h.up
  marks := ?_
  mlab := fun g hg => by show (if _ then _ else _) = _; rw [if_pos hg]
  each := fun m hm2 => ?_
  apart := ?_
  low := ?_
  count := ⟨by rw [List.length_append]; exact hm, fun m hm2 => ?_⟩ }, ⟨hext, hO.mono fun b hb => ?_⟩⟩
 ·have := Only.own hr (only_cell w3 sb 1 mv') hmvs
  rw [List.length_append]
  have e : (ms ++ [(n, v, ds)]).flatMap (fun m => [Value.int .i64 m.1, m.2.1]) = mrkC ms ++ [.int .i64 (n : Int), v] := by
   rw [List.flatMap_append]; rfl
  rw [e]; exact this
 ·rcases List.mem_append.1 hm2 with h2 | h2
  ·exact ⟨((h.each m h2).1.only hO hS (hno (by simp) (by simp) (h.each m h2).1.lab)).le hle, (h.each m h2).2⟩
  ·rw [List.mem_singleton.1 h2]
   exact ⟨(harr.only hO hS (hno (by simp) (by simp) harr.lab)).le hle, hup⟩
 ·have e : lv :: (ms ++ [(n, v, ds)]).map (fun m => m.2.1) = (lv :: ms.map fun m => m.2.1) ++ [v] := by simp
  rw [e, List.pairwise_append]
  exact ⟨h.apart, List.pairwise_singleton _ _, fun a ha b hb => by rw [List.mem_singleton.1 hb]; exact hap a ha⟩
 ·intro b hb
  by_cases e : mv'.ownBlock = some b
  ·rw [World.size_setCell]; exact ownsRow_lt hr b e
  ·have hb2 : (if mv'.ownBlock = some b then some Lab.marks else own b) ≠ none := hb
   rw [if_neg e] at hb2
   exact Nat.lt_of_lt_of_le (h.low b hb2) hO.size
 ·rcases List.mem_append.1 hm2 with h2 | h2
  ·exact h.count.2 m h2
  ·rw [List.mem_singleton.1 h2]; exact Nat.le_refl _
 ·rcases hb with hb | hb
  ·exact hot_lab (l := .marks) (h.mlab b hb) (by simp) (by simp)
  ·exact hot_lab (l := .st) (by rw [hb]; exact h.lab) (by simp) (by simp)
end
end Go.Proofs.YtfflppedbopdpaaGreat
namespace Go.Proofs.YtfflppedbopdpaaGreat
open Go.RowKit Go.Mun
theorem elemM : ElemOf Tryz.prog 123 195 (.agg #[.int .i64 0, .slice none 0 0]) 2 32 := .mk' Tryz.underlying123 (by kernel_rfl) (by rfl) (by decide)
theorem s1_102 (ρ : Operand → Value) (dst : Option Tmp) (x y : Operand) (t : TypeId) (pos : String) (after : Array Edge) (gd : Option (Nat × Bool)) (w : World) : (execOp ρ ⟨dst, .store 123 x y, t, pos, after, gd⟩).run Tryz.prog w = asSkip (stOne Tryz.prog 123 (ρ x) (ρ y) w) := ex_store1 ρ dst x y t pos after gd w (by kernel_rfl)
attribute [go_sem ↓] s1_102
theorem r_mark {w : World} {own : Go.Mun.Own} {sb n : Nat} {S : St} {M : List (Nat × St)} (h : RState w own sb S M n) (hn : n ≤ 1000000) :
  Calls Tryz.prog 68 #[.pointer (some ⟨sb, 0, none⟩)] w fun e w' => ∃ x : Nat, e = .returned (.int .i64 (x : Int)) ∧ (∀ m ∈ M, m.1 < x) ∧ ∃ own', RState w' own' sb S (M ++ [(x, S)]) (n + 1) ∧ ChgR w w' own own' := by
 obtain ⟨lv, mv, ps, ms, k, h1, hS, hM, hw, hwm, hkn⟩ := h
 obtain ⟨t1, g1⟩ := h1.tick
 have hf2 := World.free?_sub h1.free (o' := 2) (n' := 1) (by omega)
 have c2 := World.row?_cell h1.row (i := 2) (by omega)
 simp only [Nat.zero_add, List.getElem?_cons_succ, List.getElem?_cons_zero] at c2
 obtain ⟨w1, e1⟩ : ∃ w1, w1 = w.setCell ⟨sb, 2, none⟩ (.int .i64 ((k + 1 : Nat) : Int)) := ⟨_, rfl⟩
 rw [← e1] at t1 g1
 have t1d : RStC w1.drew own sb lv mv ps ms (k + 1) := t1.only (S := fun _ => False) (Only.of_below_size (Below.refl _ _).drew) (fun _ h => h.elim)
 have hsrc := src_of_own t1d.arr.cells t1d.arr.ok (Nat.le_succ_of_le (Nat.le_trans hw.len hn))
 obtain ⟨ma, mc, emv⟩ := own_shape h1.marks
 obtain ⟨la, lc, elv⟩ := own_shape h1.arr.cells
 have hck : IntKind.i64.wrap ((k : Int) + 1) = ((k + 1 : Nat) : Int) := by rw [wrI _ (by omega) (by omega)]; omega
 have hcnt := h1.count
 obtain ⟨y, hy⟩ : ∃ y, y = k + 1 := ⟨_, rfl⟩
 obtain ⟨q, hq⟩ : ∃ q, q = ms.length := ⟨_, rfl⟩
 have hq1 : q ≤ 1000000 := by have := hcnt.1; omega
 rw [← hy] at e1 t1 t1d hck
 have HE := hid e1
 have H1 := hid t1d
 have HSRC := hid hsrc
 have HG : Hid (ChgR w w1.drew own own) := g1.trans (ChgR.below own (Below.refl _ _).drew)
 have HY := hid hy
 have HQ := hid hq
 have HC := hid hcnt
 obtain ⟨T, hT⟩ : ∃ T : World → Prop, T = fun W => W.row? sb 0 3 = some [lv, mv, .int .i64 (y : Int)] ∧ W.free? sb 0 3 = true := ⟨_, rfl⟩
 have HT := hid hT
 have t0 : T w1.drew := by rw [hT]; exact ⟨t1d.row, t1d.free⟩
 have HWELL : Hid (S = rst (fsts ps) ∧ M = ms.map (fun m => (m.1, rst (fsts m.2.2))) ∧ RWell ps n ∧ (∀ m ∈ ms, RWell m.2.2 n) ∧ k ≤ n) := ⟨hS, hM, hw, hwm, hkn⟩
 have hrow1 := t1d.row
 have r0 := World.row?_cell hrow1 (i := 2) (by omega)
 simp only [Nat.zero_add, List.getElem?_cons_succ, List.getElem?_cons_zero] at r0
 have HMV := hid emv
 clear h1 t1 t1d g1 hS hM hw hwm hkn hsrc hcnt hT hrow1 e1 hy hq r0 emv elv
 go_enter Tryz.func68, Tryz.ntmps68
 go_wp2_with fail
 rw [← HE.out]
 refine wp_region_tree T [19] (.pure 0 (.pure 1 (.pure 2 (.pure 3 (.take 4 (.pure 5 (.pure 6 (.pure 7 (.take 8 (.pure 9 (.pure 10 (.pure 11 (.take 12 (.alt 13 (.pure 14 (.alt 15 (.alt 16 (.pure 17 (.pure 18 (.alt 19 .fin .stop))) .stop) .stop)) .stop)))))))))))))) (by kernel_rfl) (by kernel_rfl) ?_
 iterate 4
  refine tree_pure ?_ rfl (by rfl) (fun w' hs => ?_) (fun _ _ _ h => h) ?_
  rotate_left
  ·clear hs
   go_simp
   try rfl
  simp only [Act.put, tsa, tsb, tsc]
 refine tree_take (mv) t0 rfl (by rfl) (fun w' hs => ?_) (fun _ _ _ h => h) ?_
 ·rw [HT.out] at hs
  obtain ⟨s1, s2⟩ := hs; have q0 := World.row?_cell s1 (i := 0) (by omega); have q1 := World.row?_cell s1 (i := 1) (by omega); have q2 := World.row?_cell s1 (i := 2) (by omega); simp only [Nat.zero_add, List.getElem?_cons_succ, List.getElem?_cons_zero] at q0 q1 q2
  go_simp
 simp only [Act.put, tsa, tsb, tsc]
 iterate 7
  first
  |refine tree_pure ?_ rfl (by rfl) (fun w' hs => ?_) (fun _ _ _ h => h) ?_
   rotate_left
   ·clear hs
    go_simp
    try rfl
   simp only [Act.put, tsa, tsb, tsc]
  |refine tree_take ?_ t0 rfl (by rfl) (fun w' hs => ?_) (fun _ _ _ h => h) ?_
   rotate_left
   ·rw [HT.out] at hs
    obtain ⟨s1, s2⟩ := hs; have q0 := World.row?_cell s1 (i := 0) (by omega); have q1 := World.row?_cell s1 (i := 1) (by omega); have q2 := World.row?_cell s1 (i := 2) (by omega); simp only [Nat.zero_add, List.getElem?_cons_succ, List.getElem?_cons_zero] at q0 q1 q2
    go_simp
    try rfl
   simp only [Act.put, tsa, tsb, tsc]
 refine tree_take (lv) t0 rfl (by rfl) (fun w' hs => ?_) (fun _ _ _ h => h) ?_
 ·rw [HT.out] at hs
  obtain ⟨s1, s2⟩ := hs; have q0 := World.row?_cell s1 (i := 0) (by omega); have q1 := World.row?_cell s1 (i := 1) (by omega); have q2 := World.row?_cell s1 (i := 2) (by omega); simp only [Nat.zero_add, List.getElem?_cons_succ, List.getElem?_cons_zero] at q0 q1 q2
  go_simp
 simp only [Act.put, tsa, tsb, tsc]
 refine tree_run rfl (fun K hK => ?_)
 go_simp
 refine (r_copied HSRC.out).mono ?_
 rintro e w2 ⟨v, ds, rfl, hc, hf⟩
 obtain ⟨va, vc, ev⟩ := own_shape hc.own
 obtain ⟨vn, hvn⟩ : ∃ vn, vn = ds.length := ⟨_, rfl⟩
 rw [← hvn] at ev
 subst ev
 have t2 : T w2 := by rw [HT.out] at t0 ⊢; exact ⟨((brow hc.below).1 _ _ _ (World.row?_lt t0.1)).trans t0.1, ((brow hc.below).2 _ _ _ (World.row?_lt t0.1)).trans t0.2⟩
 obtain ⟨own2, x1, x2, x3, x4⟩ := cop_label H1.out.low hc (rac_bs H1.out.arr.ok hf)
 have h2 := (H1.out.only (S := fun _ => False) (Only.of_below_size hc.below) (fun _ h => h.elim)).le x4 x2
 have HG2 : Hid (ChgR w w2 own own2) := HG.out.trans ⟨x1, Only.of_below_size hc.below⟩
 have HAP : Hid (∀ u ∈ lv :: ms.map (fun m => m.2.1), u.ownBlock = none ∨ u.ownBlock ≠ (Value.slice va vn vc).ownBlock) := by
  intro u hu
  cases hub : u.ownBlock with
  | none => exact .inl rfl
  | some g =>
   refine .inr fun e => ?_
   have h3 := ownsRow_ge hc.own g e.symm
   have h4 : own g = some .acc := by
    rcases List.mem_cons.1 hu with rfl | hu
    ·exact H1.out.arr.lab g hub
    ·obtain ⟨m, hm, rfl⟩ := List.mem_map.1 hu
     exact (H1.out.each m hm).1.lab g hub
   have h5 := H1.out.low g (by rw [h4]; simp)
   omega
 have H2 := hid h2
 have HAR := hid x3
 have HF := hid hf
 clear hc hf x1 x2 x3 x4 h2 hvn
 refine hK.out _ _ t2 ?_
 clear hK K
 refine tree_pure ?_ rfl (by rfl) (fun w' hs => ?_) (fun _ _ _ h => h) ?_
 rotate_left
 ·clear hs
  go_simp
  try rfl
 simp only [Act.put, tsa, tsb, tsc]
 refine tree_run rfl (fun K hK => ?_)
 go_simp
 have t3 : T (w2.alloc (.cells #[.int .i64 (y : Int), .slice va vn vc] 195)) := by rw [HT.out] at t2 ⊢; exact ⟨(World.row?_alloc_lt _ (World.row?_lt t2.1)).trans t2.1, (World.free?_alloc_lt _ (World.row?_lt t2.1)).trans t2.2⟩
 have HMR : Hid ((w2.alloc (.cells #[.int .i64 (y : Int), .slice va vn vc] 195)).ownsRow 0 195 2 mv q (mrkC ms)) := by have h3 := H2.out.marks; rw [← HQ.out] at h3; exact ownsRow_below h3 ((Below.refl _ _).alloc (Nat.le_refl _) _)
 refine hK.out _ _ t3 ?_
 clear hK K
 refine tree_run rfl (fun K hK => ?_)
 refine step_app elemM rfl _ _ rfl HMR.out rfl (SrcAt.new w2 (m := 1) (size := 2) (cs := [.int .i64 (y : Int), .slice va vn vc]) 195 (0, 0) rfl 1) rfl (by unfold maxLen; omega) (by omega) ?_
 intro mv' w4 hr4 ho4 hl4
 have ho24 : Only (fun g => mv.ownBlock = some g) w2 w4 := ((Only.refl _ _).alloc _).trans ho4 (fun i hi _ => hi)
 have hsbn : ¬ mv.ownBlock = some sb := fun e => by have := H2.out.mlab sb e; rw [H2.out.lab] at this; cases this
 have t4 : T w4 := by rw [HT.out] at t2 ⊢; exact ⟨(ho24.row? (World.row?_lt t2.1) hsbn).trans t2.1, (ho24.free? (World.row?_lt t2.1) hsbn).trans t2.2⟩
 have hl4' : ∀ g, mv'.ownBlock = some g → mv.ownBlock = some g ∨ w2.heap.size ≤ g := fun g hg => by
  rcases hl4 g hg with h | h
  ·exact .inl h
  ·have h' : w2.heap.size + 1 ≤ g := by first | exact h | simpa using h
   exact .inr (by omega)
 have HADD := hid (H2.out.addMark (v := .slice va vn vc) (ds := ds) (by have := HC.out.1; have := HY.out; omega) HAR.out (by have := H2.out.up; unfold Rising at this ⊢; rw [HF.out]; exact this) HAP.out ho24 (by rw [← HQ.out]; exact hr4) hl4')
 have hmo : mv'.oneCell' = true := by obtain ⟨_, _, rfl⟩ := own_shape hr4; rfl
 have hf1 : w4.free? sb 1 1 = true := by have h3 := t4; rw [HT.out] at h3; exact World.free?_sub h3.2 (by omega)
 clear hr4 ho4 hl4 hl4' ho24
 refine hK.out _ _ t4 ?_
 clear hK K
 iterate 2
  refine tree_pure ?_ rfl (by rfl) (fun w' hs => ?_) (fun _ _ _ h => h) ?_
  rotate_left
  ·clear hs
   go_simp
   try rfl
  simp only [Act.put, tsa, tsb, tsc]
 refine tree_z rfl (by simp) (fun K hK => ?_)
 go_simp
 refine hK.out _ _ ?_
 clear hK K
 refine tree_fin ?_
 obtain ⟨own5, k5, g5⟩ := HADD.out
 have r5 := World.row?_cell k5.row (i := 2) (by omega)
 simp only [Nat.zero_add, List.getElem?_cons_succ, List.getElem?_cons_zero] at r5
 have H5 := hid k5
 have HG5 := hid g5
 clear k5 g5 t0 t2 t3 t4 hf1
 go_wp2
 go_ret
 obtain ⟨z1, z2, z3, z4, z5⟩ := HWELL.out
 refine ⟨y, rfl, ?_, own5, ⟨lv, mv', ps, _, y, H5.out, z1, ?_, z3.mono (Nat.le_succ n), ?_, by have := HY.out; omega⟩, HG2.out.trans HG5.out⟩
 ·intro m hm
  rw [z2] at hm
  obtain ⟨m', hm', rfl⟩ := List.mem_map.1 hm
  have h1 : m'.1 ≤ k := HC.out.2 m' hm'
  have h2 := HY.out
  show m'.1 < y
  omega
 ·rw [z2, List.map_append, z1, ← HF.out]; rfl
 ·intro m hm
  rcases List.mem_append.1 hm with h | h
  ·exact (z4 m h).mono (Nat.le_succ n)
  ·rw [List.mem_singleton.1 h]
   have e : ds.length = ps.length := by have := congrArg List.length HF.out; simpa [fsts] using this
   refine ⟨by rw [e]; exact Nat.le_succ_of_le z3.len, fun p hp => ?_⟩
   have : p.1 ∈ fsts ds := List.mem_map.2 ⟨p, hp, rfl⟩
   rw [HF.out] at this
   obtain ⟨p', hp', e'⟩ := List.mem_map.1 this
   rw [← e']
   have := z3.slots p' hp'
   exact ⟨Nat.le_succ_of_le this.1, this.2⟩
end Go.Proofs.YtfflppedbopdpaaGreat
namespace Go.Proofs.YtfflppedbopdpaaGreat
open Go.RowKit Go.Mun
def emptyX (x : RAc) : Bool := decide (x.ac.nonce = 0) && decide (x.ac.bal = 0) && decide (x.ac.code = []) && decide (x.slots = [])
theorem racC_ok' {p : RAc × Value × Value} {ca sa : Option Addr} {n1 n2 cc sc : Nat} (e1 : p.2.1 = .slice ca n1 cc) (e2 : p.2.2 = .slice sa n2 sc) : okL 55 (racC p) = true := by
 unfold racC; rw [e1, e2]
 exact okL_cat (acS_len _ _ _) fun s hs => by
  simp only [acS, List.mem_cons, List.not_mem_nil, or_false] at hs
  rcases hs with rfl | rfl | rfl | rfl | rfl
  all_goals first | rfl | (rw [beC_len]; exact beC_ok _ _)
theorem ref_empty {p : RAc × Value × Value} {ca sa : Option Addr} {cc sc : Nat} (ec : p.2.1 = .slice ca p.1.ac.code.length cc) (es : p.2.2 = .slice sa p.1.slots.length sc) (hb : p.1.ac.bal < wW) (w : World) :
  Calls Tryz.prog 82 #[.agg (racC p).toArray] w fun e w' => e = .returned (.bool (emptyX p.1)) ∧ Below w.heap.size w w' := by
 have hok := racC_ok' ec es
 obtain ⟨w0, e0⟩ : ∃ w0, w0 = w.alloc (.cells (racC p).toArray 35) := ⟨_, rfl⟩
 have hr : w0.row? w.heap.size 0 55 = some (racC p) := by rw [e0]; exact World.row?_alloc_at _ _ _ rfl (racC_len p)
 have hB : Below w.heap.size w w0 := by rw [e0]; exact (Below.refl _ _).alloc (Nat.le_refl _) _
 have c20 : w0.cell? ⟨w.heap.size, 20, none⟩ = some (.int .i64 p.1.ac.nonce) := cell_cat hr (i := 1) rfl (by simp [acS, offOf_succ, offOf_zero])
 have r21 : w0.row? w.heap.size 21 32 = some (beC 32 p.1.ac.bal) := row_cat hr (i := 2) rfl (by simp [acS, offOf_succ, offOf_zero]) (by simp)
 have c53 := cell_53 hr
 have c54 := cell_54 hr
 rw [Nat.zero_add, ec] at c53
 rw [Nat.zero_add, es] at c54
 have HX : Hid (emptyX p.1 = (decide (p.1.ac.nonce = 0) && decide (p.1.ac.bal = 0) && decide (p.1.ac.code.length = 0) && decide (p.1.slots.length = 0))) := by
  show _ = _
  unfold emptyX
  simp [List.length_eq_zero_iff]
 have HB := hid hB
 have HE := hid e0
 generalize emptyX p.1 = E at *
 generalize p.1.ac.nonce = nn at *
 generalize p.1.ac.bal = bl at *
 generalize p.1.ac.code.length = n1 at *
 generalize p.1.slots.length = n2 at *
 have hl2 : (beC 32 bl).length = 32 := by simp
 obtain ⟨C, hC⟩ : ∃ C, C = racC p := ⟨_, rfl⟩
 have hcl : C.length = 55 := by rw [hC]; exact racC_len p
 have gc : ∀ i (hi : i < C.length) u, w0.cell? ⟨w.heap.size, i, none⟩ = some u → C[i] = u := by
  intro i hi u h
  have h2 := World.row?_cell hr (i := i) (by omega)
  rw [Nat.zero_add, h, ← hC, List.getElem?_eq_getElem hi] at h2
  exact (Option.some.inj h2).symm
 have g20 : C[20]'(by omega) = .int .i64 nn := gc _ _ _ c20
 have g53 : C[53]'(by omega) = .slice ca n1 cc := gc _ _ _ c53
 have g54 : C[54]'(by omega) = .slice sa n2 sc := gc _ _ _ c54
 rw [← hC] at HE hok ⊢
 rw [e0, ← hC] at r21
 have z25 := b0_25
 have heq := eqW (a := bl) (b := 0) hb (show (0 : Nat) < wW by decide)
 clear e0 hr hB ec es hC gc c20 c53 c54
 by_cases h1 : nn = 0
 ·subst h1
  by_cases h2 : bl = 0
  ·have hd2 : decide (bl = 0) = true := by simp [h2]
   rw [hd2] at heq
   by_cases h3 : n1 = 0
   ·subst h3
    have HR : Hid (E = decide (n2 = 0)) := by show _ = _; rw [HX.out]; simp [h2]
    clear HX h2 hd2
    go_enter Tryz.func82, Tryz.ntmps82
    go_wp2_with fail
    by_cases h4 : n2 = 0
    ·subst h4
     go_wp2
     go_ret
     exact ⟨by rw [HR.out]; rfl, HE.out ▸ HB.out⟩
    ·have h4I : ((n2 : Int) == 0) = false := by simp [h4]
     have HN := hid h4
     clear h4
     go_wp2
     go_ret
     exact ⟨by rw [HR.out]; simp [HN.out], HE.out ▸ HB.out⟩
   ·have h3I : ((n1 : Int) == 0) = false := by simp [h3]
    have HR : Hid (E = false) := by show _ = _; rw [HX.out]; simp [h3]
    clear HX h2 hd2 h3
    go_enter Tryz.func82, Tryz.ntmps82
    go_wp2
    go_ret
    exact ⟨by rw [HR.out]; rfl, HE.out ▸ HB.out⟩
  ·have hd2 : decide (bl = 0) = false := by simp [h2]
   rw [hd2] at heq
   have HR : Hid (E = false) := by show _ = _; rw [HX.out]; simp [h2]
   clear HX h2 hd2
   go_enter Tryz.func82, Tryz.ntmps82
   go_wp2
   go_ret
   exact ⟨by rw [HR.out]; rfl, HE.out ▸ HB.out⟩
 ·have h1I : (nn == 0) = false := by simp [h1]
  have HR : Hid (E = false) := by show _ = _; rw [HX.out]; simp [h1]
  clear HX h1
  go_enter Tryz.func82, Tryz.ntmps82
  go_wp2
  go_ret
  exact ⟨by rw [HR.out]; rfl, HE.out ▸ HB.out⟩
end Go.Proofs.YtfflppedbopdpaaGreat
namespace Go.Proofs.YtfflppedbopdpaaGreat
open Go.RowKit Go.Mun
theorem eqA_refl (x : Nat) (w : World) : (Op.equalIn 10000 23 (.agg (beC 20 x).toArray) (.agg (beC 20 x).toArray)).run Tryz.prog w = .ok true w := by
 have h : ∀ d, (Op.equalIn (d + 3) 23 (.agg (beC 20 x).toArray) (.agg (beC 20 x).toArray)).run Tryz.prog w = .ok true w := fun d => by
  have := run_eq_beD (n := 20) Tryz.underlying23 Tryz.underlying5 (by kernel_rfl) (d + 1) x x w
  simpa [beEq] using this
 exact at10000 h
theorem eqW_refl (x : Nat) (w : World) : (Op.equalIn 10000 25 (.agg (beC 32 x).toArray) (.agg (beC 32 x).toArray)).run Tryz.prog w = .ok true w := by
 have h : ∀ d, (Op.equalIn (d + 3) 25 (.agg (beC 32 x).toArray) (.agg (beC 32 x).toArray)).run Tryz.prog w = .ok true w := fun d => by
  have := run_eq_beD (n := 32) Tryz.underlying25 Tryz.underlying5 (by kernel_rfl) (d + 1) x x w
  simpa [beEq] using this
 exact at10000 h
end Go.Proofs.YtfflppedbopdpaaGreat
namespace Go.Proofs.YtfflppedbopdpaaGreat
open Go.RowKit Go.Mun
end Go.Proofs.YtfflppedbopdpaaGreat
namespace Go.Proofs.YtfflppedbopdpaaGreat
open Go.RowKit Go.Mun
def EasyR (w : World) (p : RAc × Value × Value) : Prop := ∃ a k s j, p.2.1 = .slice a p.1.ac.code.length k ∧ Ints w .u8 a k p.1.ac.code ∧ p.2.2 = .slice s 0 j
theorem same_acc0 (a : Nat) (n : Int) (b : Nat) (d : Bts) (a1 a2 s1 s2 : Option Addr) (c1 c2 j1 j2 : Nat) (w : World) (h1 : Ints w .u8 a1 c1 d) (h2 : Ints w .u8 a2 c2 d) :
  Calls Tryz.prog 74 #[.agg (cat (acS ⟨a, n, b, d⟩ (.slice a1 d.length c1) (.slice s1 0 j1))).toArray, .agg (cat (acS ⟨a, n, b, d⟩ (.slice a2 d.length c2) (.slice s2 0 j2))).toArray] w fun e w' => e = .returned (.bool true) ∧ Below w.heap.size w w' := by
 have ha := eqA_refl a
 have hw := eqW_refl b
 obtain ⟨X, hX⟩ : ∃ X, X = cat (acS ⟨a, n, b, d⟩ (.slice a1 d.length c1) (.slice s1 0 j1)) := ⟨_, rfl⟩
 obtain ⟨Y, hY⟩ : ∃ Y, Y = cat (acS ⟨a, n, b, d⟩ (.slice a2 d.length c2) (.slice s2 0 j2)) := ⟨_, rfl⟩
 have lX : X.length = 55 := by rw [hX]; exact acS_len _ _ _
 have lY : Y.length = 55 := by rw [hY]; exact acS_len _ _ _
 rw [← hX, ← hY]
 obtain ⟨w0, e0⟩ : ∃ w0, w0 = (w.alloc (.cells X.toArray 35)).alloc (.cells Y.toArray 35) := ⟨_, rfl⟩
 have hb0 : Below w.heap.size w w0 := by rw [e0]; exact ((Below.refl _ _).alloc (Nat.le_refl _) _).alloc (by simp) _
 have hr : w0.row? w.heap.size 0 55 = some X := by rw [e0, World.row?_alloc_lt _ (by simp)]; exact World.row?_alloc_at X 35 _ rfl lX
 have hs : w0.row? (w.heap.size + 1) 0 55 = some Y := by rw [e0]; exact World.row?_alloc_at Y 35 _ (by simp) lY
 rw [hX] at hr
 rw [hY] at hs
 have x0 : w0.row? w.heap.size 0 20 = some (beC 20 a) := row_cat hr (i := 0) rfl (by simp [acS, offOf_succ, offOf_zero]) (by simp)
 have x1 : w0.cell? ⟨w.heap.size, 20, none⟩ = some (.int .i64 n) := cell_cat hr (i := 1) rfl (by simp [acS, offOf_succ, offOf_zero])
 have x2 : w0.row? w.heap.size 21 32 = some (beC 32 b) := row_cat hr (i := 2) rfl (by simp [acS, offOf_succ, offOf_zero]) (by simp)
 have x3 : w0.cell? ⟨w.heap.size, 53, none⟩ = some (.slice a1 d.length c1) := cell_cat hr (i := 3) rfl (by simp [acS, offOf_succ, offOf_zero])
 have x4 : w0.cell? ⟨w.heap.size, 54, none⟩ = some (.slice s1 0 j1) := cell_cat hr (i := 4) rfl (by simp [acS, offOf_succ, offOf_zero])
 have y0 : w0.row? (w.heap.size + 1) 0 20 = some (beC 20 a) := row_cat hs (i := 0) rfl (by simp [acS, offOf_succ, offOf_zero]) (by simp)
 have y1 : w0.cell? ⟨(w.heap.size + 1), 20, none⟩ = some (.int .i64 n) := cell_cat hs (i := 1) rfl (by simp [acS, offOf_succ, offOf_zero])
 have y2 : w0.row? (w.heap.size + 1) 21 32 = some (beC 32 b) := row_cat hs (i := 2) rfl (by simp [acS, offOf_succ, offOf_zero]) (by simp)
 have y3 : w0.cell? ⟨(w.heap.size + 1), 53, none⟩ = some (.slice a2 d.length c2) := cell_cat hs (i := 3) rfl (by simp [acS, offOf_succ, offOf_zero])
 have y4 : w0.cell? ⟨(w.heap.size + 1), 54, none⟩ = some (.slice s2 0 j2) := cell_cat hs (i := 4) rfl (by simp [acS, offOf_succ, offOf_zero])
 have q1 := run_bytes_string' (P := Tryz.prog) Tryz.underlying26 Tryz.underlying5 Tryz.underlying9 rfl (h1.below hb0)
 have q2 := run_bytes_string' (P := Tryz.prog) Tryz.underlying26 Tryz.underlying5 Tryz.underlying9 rfl (h2.below hb0)
 have HB := hid hb0
 have HE := hid e0
 generalize strOf d = S at *
 generalize d.length = m at *
 rw [e0] at x0 x1 x2 x3 x4 y0 y1 y2 y3 y4 q1 q2
 clear hX hY hr hs e0 hb0 h1 h2 lX lY
 go_enter Tryz.func74, Tryz.ntmps74
 go_wp2_with fail
 rw [← HE.out]
 rw [← HE.out] at x0 x1 x2 x3 x4 y0 y1 y2 y3 y4 q1 q2
 go_loopw [5] (fun ix wz => ix = .int .i64 0 ∧ wz = w0) (fun _ _ => 0)
 case atStart => exact ⟨rfl, rfl⟩
 case round =>
  obtain ⟨rfl, rfl⟩ := hrel
  go_wp2
  go_ret
  exact ⟨rfl, HB.out⟩
theorem same_accs0 {w : World} {v1 v2 : Value} {B1 B2 : Nat} {ds1 ds2 : List (RAc × Value × Value)} (ho1 : w.ownsRow B1 35 55 v1 ds1.length (rowsR ds1)) (ho2 : w.ownsRow B2 35 55 v2 ds2.length (rowsR ds2)) (h1 : ∀ p ∈ ds1, EasyR w p) (h2 : ∀ p ∈ ds2, EasyR w p) (hL : fsts ds1 = fsts ds2) (hm9 : ds1.length ≤ 4000000) :
  Calls Tryz.prog 40 #[v1, v2] w fun e w' => e = .returned (.bool true) ∧ Below w.heap.size w w' := by
 have hlen : ds2.length = ds1.length := by have := congrArg List.length hL; simpa [fsts] using this.symm
 rw [hlen] at ho2
 obtain ⟨m, hm⟩ : ∃ m, m = ds1.length := ⟨_, rfl⟩
 rw [← hm] at ho1 ho2 hlen hm9
 have hbn : ((m : Int) != (m : Int)) = false := by simp
 by_cases hz : m = 0
 ·obtain ⟨ad1, c1, rfl⟩ := own_form ho1
  obtain ⟨ad2, c2, rfl⟩ := own_form ho2
  subst hz
  clear h1 h2 hL hlen ho1 ho2 hm
  go_enter Tryz.func40, Tryz.ntmps40
  go_wp2_with fail
  go_loopw [5] (fun ix wz => ix = .int .i64 0 ∧ wz = w) (fun _ _ => 0)
  case atStart => exact ⟨rfl, rfl⟩
  case round =>
   obtain ⟨rfl, rfl⟩ := hrel
   go_wp2
   go_ret
   exact ⟨rfl, Below.refl _ _⟩
 ·obtain ⟨b, c, rfl, _, hc, hcm, hrow, _⟩ := own_words ho1 (by omega)
  obtain ⟨b', c', rfl, _, hc', hcm', hrow', _⟩ := own_words ho2 (by omega)
  have HAT : Hid (∀ q, q < m → ∃ a n bl d a1 a2 k1 k2 s1 s2 j1 j2, w.row? b (q * 55) 55 = some (cat (acS ⟨a, n, bl, d⟩ (.slice a1 d.length k1) (.slice s1 0 j1))) ∧ w.row? b' (q * 55) 55 = some (cat (acS ⟨a, n, bl, d⟩ (.slice a2 d.length k2) (.slice s2 0 j2))) ∧ Ints w .u8 a1 k1 d ∧ Ints w .u8 a2 k2 d) := by
   intro q hq
   have hq1 : q < ds1.length := by omega
   have hq2 : q < ds2.length := by omega
   have e : (ds1[q]'hq1).1 = (ds2[q]'hq2).1 := by
    have := congrArg (fun l => l[q]?) hL
    simpa [fsts, hq1, hq2] using this
   have r1 := World.row?_sub hrow (o' := 0 + q * 55) (n' := 55) (by omega) (by omega)
   have r2 := World.row?_sub hrow' (o' := 0 + q * 55) (n' := 55) (by omega) (by omega)
   rw [Nat.zero_add, Nat.sub_zero, rowsR_at ds1 q hq1] at r1
   rw [Nat.zero_add, Nat.sub_zero, rowsR_at ds2 q hq2] at r2
   obtain ⟨a1, k1, s1, j1, e1, i1, f1⟩ := h1 _ (List.getElem_mem hq1)
   obtain ⟨a2, k2, s2, j2, e2, i2, f2⟩ := h2 _ (List.getElem_mem hq2)
   unfold racC at r1 r2
   rw [e1, f1] at r1
   rw [e2, f2, ← e] at r2
   rw [← e] at i2
   exact ⟨_, _, _, _, a1, a2, k1, k2, s1, s2, j1, j2, r1, r2, i1, i2⟩
  have HLT := hid (World.row?_lt hrow)
  have HLT' := hid (World.row?_lt hrow')
  clear h1 h2 hL hrow hrow' hm ho1 ho2 hlen
  go_enter Tryz.func40, Tryz.ntmps40
  go_wp2_with fail
  go_loopw [5] (fun i wr => ∃ q : Nat, q ≤ m ∧ i = .int .i64 q ∧ Below w.heap.size w wr) (fun i _ => m - (intOf i).toNat)
  case atStart => exact ⟨0, by omega, rfl, Below.refl _ _⟩
  case round =>
   obtain ⟨q, hq, rfl, hbw⟩ := hrel
   have HBW := hid hbw
   clear hbw
   by_cases hlt : q < m
   ·obtain ⟨a, n, bl, d, a1, a2, k1, k2, s1, s2, j1, j2, r1, r2, i1, i2⟩ := HAT.out q hlt
    obtain ⟨X, hX⟩ : ∃ X, X = cat (acS ⟨a, n, bl, d⟩ (.slice a1 d.length k1) (.slice s1 0 j1)) := ⟨_, rfl⟩
    obtain ⟨Y, hY⟩ : ∃ Y, Y = cat (acS ⟨a, n, bl, d⟩ (.slice a2 d.length k2) (.slice s2 0 j2)) := ⟨_, rfl⟩
    have HC := hid (fun (W : World) (hW : Below w.heap.size w W) => same_acc0 a n bl d a1 a2 s1 s2 k1 k2 j1 j2 W (i1.below hW) (i2.below hW))
    rw [← hX, ← hY] at HC
    rw [← hX] at r1
    rw [← hY] at r2
    have hx : X.length = 55 := by rw [hX]; exact acS_len _ _ _
    have hy : Y.length = 55 := by rw [hY]; exact acS_len _ _ _
    obtain ⟨T, hT⟩ : ∃ T : World → Prop, T = fun W => W.row? b (q * 55) 55 = some X ∧ W.row? b' (q * 55) 55 = some Y := ⟨_, rfl⟩
    have HT := hid hT
    have HTB : Hid (∀ W, Below w.heap.size w W → T W) := by
     intro W hW
     rw [hT]
     exact ⟨((brow hW).1 _ _ _ HLT.out).trans r1, ((brow hW).1 _ _ _ HLT'.out).trans r2⟩
    have hql : (q : Int) < (m : Int) := by omega
    have dql : decide ((q : Int) < (m : Int)) = true := decide_eq_true hql
    have dqn : (q < m) = True := eq_true hlt
    have t0 : T wr.drew := HTB.out _ HBW.out.drew
    clear hT r1 r2 i1 i2 HAT hX hY
    go_wp2_with fail
    refine wp_region_tree T [] (.pure 0 (.pure 1 (.pure 2 (.take 3 (.pure 4 (.pure 5 (.pure 6 (.take 7 (.alt 8 (.pure 9 .fin) .stop))))))))) (by kernel_rfl) (by kernel_rfl) ?_
    iterate 8
     first
     |refine tree_pure ?_ rfl (by rfl) (fun w' hs => ?_) (fun _ _ _ h => h) ?_
      rotate_left
      ·clear hs
       go_simp
       try rfl
      simp only [Act.put, tsa, tsb, tsc]
     |refine tree_take ?_ t0 rfl (by rfl) (fun w' hs => ?_) (fun _ _ _ h => h) ?_
      rotate_left
      ·rw [HT.out] at hs
       obtain ⟨g1, g2⟩ := hs
       go_simp
       try rfl
      simp only [Act.put, tsa, tsb, tsc]
    refine tree_run rfl (fun K hK => ?_)
    go_simp
    refine (HC.out _ HBW.out.drew).mono ?_
    rintro e w9 ⟨rfl, hb9⟩
    have HB9 : Hid (Below w.heap.size w w9) := HBW.out.drew.trans (hb9.mono HBW.out.drew.size)
    have t9 : T w9 := HTB.out _ HB9.out
    clear hb9
    refine hK.out _ _ t9 ?_
    clear hK K
    refine tree_pure ?_ rfl (by rfl) (fun w' hs => ?_) (fun _ _ _ h => h) ?_
    rotate_left
    ·clear hs
     go_simp
     try rfl
    simp only [Act.put, tsa, tsb, tsc]
    refine tree_fin ?_
    go_wp2_with fail
    have hk1 : IntKind.i64.wrap ((q : Int) + 1) = ((q + 1 : Nat) : Int) := by rw [wrI _ (by omega) (by omega)]; omega
    go_roundw
    case rel => exact ⟨q + 1, by omega, by go_num, HB9.out⟩
    case measure => simp [intOf]; omega
   ·obtain rfl : q = m := by omega
    go_wp2_with fail
    go_ret
    exact ⟨rfl, HBW.out⟩
theorem EasyR.below {w w' : World} {p : RAc × Value × Value} (h : EasyR w p) (hb : Below w.heap.size w w') : EasyR w' p := by
 obtain ⟨a, k, s, j, e1, i1, f1⟩ := h
 exact ⟨a, k, s, j, e1, i1.below hb, f1⟩
theorem cop_easy {w0 w : World} {v : Value} {ds : List (RAc × Value × Value)} (h : CopR w0 w v ds) (hs : ∀ p ∈ ds, p.1.slots = []) : ∀ p ∈ ds, EasyR w p := by
 intro p hp
 obtain ⟨a, k, e1, _, i1⟩ := Ints.of_own' (h.code p hp)
 obtain ⟨s, j, f1⟩ := own_shape (h.slots p hp)
 rw [hs p hp] at f1
 exact ⟨a, k, s, j, e1, i1, f1⟩
def accP (S : St) (p : Nat × Value) : RAc × Value × Value := (⟨acOf p.1 (S p.1), []⟩, p.2, .slice none 0 0)
theorem accs_rows {w0 w : World} {S : St} {v : Value} {cs : List (Nat × Value)} (h : AccsR w0 w S v cs) : w.ownsRow w0.heap.size 35 55 v (cs.map (accP S)).length (rowsR (cs.map (accP S))) ∧ ∀ p ∈ cs.map (accP S), EasyR w p := by
 refine ⟨?_, fun p hp => ?_⟩
 ·rw [List.length_map]
  have : rowsR (cs.map (accP S)) = acsC S cs := by
   unfold rowsR acsC
   rw [List.flatMap_map]; rfl
  rw [this]; exact h.own
 ·obtain ⟨q, hq, rfl⟩ := List.mem_map.1 hp
  obtain ⟨a, k, e1, _, i1⟩ := Ints.of_own' (h.code q hq)
  exact ⟨a, k, none, 0, e1, i1, rfl⟩
end Go.Proofs.YtfflppedbopdpaaGreat
namespace Go.Proofs.YtfflppedbopdpaaGreat
open Go.RowKit Go.Mun
structure AccsX (S : St) (n : Nat) (L : List RAc) : Prop where
 up : Rising L
 acc : ∀ x ∈ L, x.acc = S x.ac.addr ∧ ¬ (S x.ac.addr).empty
 all : ∀ a, ¬ (S a).empty → ∃ x ∈ L, x.ac.addr = a
 well : ∀ x ∈ L, RacB x ∧ x.slots.length ≤ n ∧ (x.slots.map Prod.fst).Pairwise (· < ·) ∧ ∀ q ∈ x.slots, q.2 ≠ 0
 len : L.length ≤ n
theorem emptyX_iff {x : RAc} (h0 : 0 ≤ x.ac.nonce) (hp : (x.slots.map Prod.fst).Pairwise (· < ·)) (hz : ∀ q ∈ x.slots, q.2 ≠ 0) : emptyX x = true ↔ x.acc.empty := by
 unfold emptyX Acc.empty RAc.acc
 simp only [Bool.and_eq_true, decide_eq_true_eq]
 constructor
 ·rintro ⟨⟨⟨h1, h2⟩, h3⟩, h4⟩
  exact ⟨by rw [h1]; rfl, h2, h3, fun k => by rw [h4]; rfl⟩
 ·rintro ⟨h1, h2, h3, h4⟩
  refine ⟨⟨⟨by omega, h2⟩, h3⟩, ?_⟩
  match hs : x.slots with
  | [] => rfl
  | q :: r =>
   have h5 := h4 q.1
   rw [hs] at h5
   have h6 := hz q (by rw [hs]; simp)
   simp [getA] at h5
   exact absurd h5 h6
def liveR (ps : List (RAc × Value × Value)) : List (RAc × Value × Value) := ps.filter fun p => !emptyX p.1
theorem live_accs {w : World} {own : Go.Mun.Own} {ps : List (RAc × Value × Value)} {n : Nat} (hu : Rising (fsts ps)) (hok : ∀ p ∈ ps, RAcOk w own p) (hw : RWell ps n) {L : List RAc} (hL : L = fsts (liveR ps)) : AccsX (rst (fsts ps)) n L := by
 subst hL
 have hmem : ∀ x ∈ fsts (liveR ps), ∃ p ∈ ps, p.1 = x ∧ emptyX x = false := by
  intro x hx
  obtain ⟨p, hp, rfl⟩ := List.mem_map.1 hx
  obtain ⟨h1, h2⟩ := List.mem_filter.1 hp
  exact ⟨p, h1, rfl, by simpa using h2⟩
 have hacc : ∀ p ∈ ps, p.1.acc = rst (fsts ps) p.1.ac.addr := by
  intro p hp
  obtain ⟨i, hi⟩ := List.mem_iff_getElem?.1 hp
  exact (rst_some hu (i := i) (x := p.1) (by unfold fsts; rw [List.getElem?_map, hi]; rfl)).symm
 refine ⟨?_, fun x hx => ?_, fun a ha => ?_, fun x hx => ?_, ?_⟩
 ·unfold Rising fsts liveR at *
  exact hu.sublist (List.Sublist.map _ (List.Sublist.map _ List.filter_sublist))
 ·obtain ⟨p, hp, rfl, he⟩ := hmem x hx
  have h1 := hacc p hp
  refine ⟨h1, fun h => ?_⟩
  rw [← h1] at h
  have := (emptyX_iff (hok p hp).nonce.1 (hw.slots p hp).2.1 (hw.slots p hp).2.2).2 h
  rw [he] at this; cases this
 ·by_cases hx : ∃ p ∈ ps, p.1.ac.addr = a
  ·obtain ⟨p, hp, rfl⟩ := hx
   refine ⟨p.1, List.mem_map.2 ⟨p, List.mem_filter.2 ⟨hp, ?_⟩, rfl⟩, rfl⟩
   cases he : emptyX p.1 with
   | false => rfl
   | true =>
    have := (emptyX_iff (hok p hp).nonce.1 (hw.slots p hp).2.1 (hw.slots p hp).2.2).1 he
    rw [hacc p hp] at this
    exact absurd this ha
  ·exfalso
   apply ha
   rw [rst_none (fun x hx2 e => by obtain ⟨p, hp, rfl⟩ := List.mem_map.1 hx2; exact hx ⟨p, hp, e⟩)]
   exact ⟨rfl, rfl, rfl, fun _ => rfl⟩
 ·obtain ⟨p, hp, rfl, _⟩ := hmem x hx
  exact ⟨rac_b (hok p hp), hw.slots p hp⟩
 ·have h1 : (fsts (liveR ps)).length ≤ ps.length := by unfold fsts liveR; rw [List.length_map]; exact List.length_filter_le _ _
  exact Nat.le_trans h1 hw.len
theorem r_accounts {w : World} {own : Go.Mun.Own} {sb n : Nat} {S : St} {M : List (Nat × St)} (h : RState w own sb S M n) (hn : n ≤ 1000000) :
  Calls Tryz.prog 42 #[.pointer (some ⟨sb, 0, none⟩)] w fun e w' => ∃ v ds, e = .returned v ∧ CopR w w' v ds ∧ AccsX S n (fsts ds) := by
 obtain ⟨lv, mv, ps, ms, x0, h1, rfl, _, hw, _, _⟩ := h
 have hpl : ps.length ≤ 1000000 := Nat.le_trans hw.len hn
 obtain ⟨la, lc, rfl⟩ := h1.arr.form
 have HLIVE : Hid (∀ {L : List RAc}, L = fsts (liveR ps) → AccsX (rst (fsts ps)) n L) := fun hL => live_accs h1.up h1.arr.ok hw hL
 obtain ⟨m, hm⟩ : ∃ m, m = ps.length := ⟨_, rfl⟩
 have H1 := hid h1
 have HM := hid hm
 rw [← hm] at hpl
 clear h1 hm hw
 go_enter Tryz.func42, Tryz.ntmps42
 go_wp2_with fail
 go_loopw [3, 4] (fun u ix wr => ∃ (k : Nat) (os : List (RAc × Value × Value)), k ≤ m ∧ ix = .int .i64 (k : Int) ∧ Hid (Below w.heap.size w wr ∧ os = liveR (ps.take k) ∧ wr.ownsRow w.heap.size 35 55 u os.length (rowsR os))) (fun _ ix _ => m - (intOf ix).toNat)
 case atStart => exact ⟨0, [], by omega, rfl, Below.refl _ _, by simp [liveR], World.ownsRow_nil _ _ _ _⟩
 case round =>
  obtain ⟨k, os, hk, rfl, HR⟩ := hrel
  have hw2 : RStC wr own sb (.slice la ps.length lc) mv ps ms x0 := H1.out.only (S := fun _ => False) (Only.of_below_size HR.out.1) (fun _ h => h.elim)
  have c0 := World.row?_cell hw2.row (i := 0) (by omega)
  simp only [Nat.zero_add, List.getElem?_cons_zero] at c0
  rw [← HM.out] at c0
  have HW2 := hid hw2
  clear hw2
  by_cases hkm : k < m
  ·have hkp : k < ps.length := by have := HM.out; omega
   have hI : (k : Int) < m := by omega
   have hdk : decide ((k : Int) < (m : Int)) = true := decide_eq_true hI
   have hdn : (k < m) = True := eq_true hkm
   obtain ⟨g, c', hlv, hgo, hrow, hfr⟩ := HW2.out.arr.row hkp
   cases hlv
   obtain ⟨P, hP⟩ : ∃ P, P = ps[k]'hkp := ⟨_, rfl⟩
   have hPm : P ∈ ps := by rw [hP]; exact List.getElem_mem hkp
   have hPo := HW2.out.arr.ok P hPm
   obtain ⟨⟨⟨ca, cc, ecv, _⟩, _⟩, ⟨⟨sa, sc, esv, _⟩, _⟩⟩ := rac_src hPo
   have HEM := hid (fun W => ref_empty ecv esv hPo.bal W)
   have hol : os.length ≤ 1000000 := by
    rw [HR.out.2.1]
    have h1 : (liveR (ps.take k)).length ≤ (ps.take k).length := List.length_filter_le _ _
    rw [List.length_take] at h1
    omega
   have HTK : Hid (ps.take (k + 1) = ps.take k ++ [P]) := by
    show _ = _
    rw [List.take_add_one, List.getElem?_eq_getElem hkp, hP]; rfl
   have hr1 : wr.row? g (k * 55) 55 = some (racC P) := by rw [hP]; exact hrow
   have hokc := racC_ok' ecv esv
   obtain ⟨C, hC⟩ : ∃ C, C = racC P := ⟨_, rfl⟩
   rw [← hC] at hr1 hokc HEM
   have hcl := okL_len hokc
   have HC := hid hC
   have hglt := World.row?_lt hr1
   have hsbl := World.block_lt_of_cell? _ _ c0
   clear hrow hfr hC hP hPo ecv esv hgo
   cases hem : emptyX P.1 with
   | true =>
    rw [hem] at HEM
    have HN : Hid (os = liveR (ps.take (k + 1))) := by
     show _ = _
     rw [HTK.out]; unfold liveR; rw [List.filter_append]
     have : [P].filter (fun p => !emptyX p.1) = [] := by simp [hem]
     rw [this, List.append_nil]; exact HR.out.2.1
    go_wp2_with fail
    refine (HEM.out _).mono ?_
    rintro e w3 ⟨rfl, hb3⟩
    have HB3 : Hid (Below w.heap.size w w3 ∧ w3.ownsRow w.heap.size 35 55 _ os.length (rowsR os)) := ⟨HR.out.1.trans (hb3.mono HR.out.1.size), ownsRow_below HR.out.2.2 hb3⟩
    clear hb3 hr1
    go_wp2
    go_roundw
    case rel => exact ⟨k + 1, os, by omega, by go_num, HB3.out.1, HN.out, HB3.out.2⟩
    case measure => simp [intOf]; omega
   | false =>
    rw [hem] at HEM
    go_wp2_with fail
    refine (HEM.out _).mono ?_
    rintro e w3 ⟨rfl, hb3⟩
    have HB3 : Hid (Below w.heap.size w w3 ∧ w3.ownsRow w.heap.size 35 55 _ os.length (rowsR os)) := ⟨HR.out.1.trans (hb3.mono HR.out.1.size), ownsRow_below HR.out.2.2 hb3⟩
    have hr3 : w3.row? g (k * 55) 55 = some C := ((brow hb3).1 _ _ _ hglt).trans hr1
    have c3 := (hb3.cell (p := ⟨sb, 0, none⟩) hsbl).trans c0
    have hszw := HB3.out.1.size
    clear hb3 hr1
    go_wp2_with (at_builtin; go_must (refine wpList_append_at (base := w.heap.size) (n := os.length) (xs := rowsR os) elemG rfl _ _ rfl rfl rfl HB3.out.2 rfl (by simpa using hokc) ?f1 ?f2 ?f3 ?_))
    case f1 => unfold maxLen; omega
    case f2 => omega
    case f3 => exact hszw
    intro v9 w9 hv9 hg9 _
    have HN9 : Hid (Below w.heap.size w w9 ∧ os ++ [P] = liveR (ps.take (k + 1)) ∧ w9.ownsRow w.heap.size 35 55 v9 (os ++ [P]).length (rowsR (os ++ [P]))) := by
     refine ⟨HB3.out.1.grown hg9 hszw (fun k hk => (HB3.out.2.lt k hk).1), ?_, ?_⟩
     ·rw [HTK.out, HR.out.2.1]; unfold liveR; rw [List.filter_append]
      have : [P].filter (fun p => !emptyX p.1) = [P] := by simp [hem]
      rw [this]
     ·rw [List.length_append, rowsR_append]
      have : rowsR [P] = C := by rw [HC.out]; simp [rowsR]
      rw [this]; exact hv9
    clear hv9 hg9
    go_wp2
    go_roundw
    case rel => exact ⟨k + 1, _, by omega, by go_num, HN9⟩
    case measure => simp [intOf]; omega
  ·obtain rfl : k = m := by omega
   have hI : ¬ (k : Int) < k := by omega
   have hos : os = liveR ps := by rw [HR.out.2.1, List.take_of_length_le (by have := HM.out; omega)]
   have hol : os.length ≤ 1000001 := by
    rw [hos]
    have h1 : (liveR ps).length ≤ ps.length := List.length_filter_le _ _
    have := HM.out
    omega
   have HSR := hid (src_of_own HR.out.2.2 (fun p hp => HW2.out.arr.ok p (List.mem_filter.1 (by rw [hos] at hp; exact hp)).1) hol)
   have HOS := hid hos
   have hdk : decide ((k : Int) < (k : Int)) = false := decide_eq_false hI
   have hdn : (k < k) = False := eq_false hkm
   clear hkm hos
   go_wp2_with fail
   refine (r_copied HSR.out).mono ?_
   rintro e w3 ⟨v, ds, rfl, hc, hf⟩
   have HCP : Hid (CopR w w3 v ds) := ⟨HR.out.1.trans (hc.below.mono HR.out.1.size), ownsRow_mono hc.own HR.out.1.size, fun p hp => ownsRow_mono (hc.code p hp) HR.out.1.size, fun p hp => ownsRow_mono (hc.slots p hp) HR.out.1.size⟩
   have HF := hid hf
   clear hc hf
   go_wp2
   go_ret
   exact ⟨v, ds, rfl, HCP.out, HLIVE.out (by rw [HF.out, HOS.out])⟩
end Go.Proofs.YtfflppedbopdpaaGreat
