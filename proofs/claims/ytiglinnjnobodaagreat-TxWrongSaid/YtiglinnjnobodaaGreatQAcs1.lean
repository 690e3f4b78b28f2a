/-
  What State.Accounts hands back: the accounts that are something, in their order (where none has slots).
  State.Accounts, where no account has slots.
  The reference's SameAccount, SameAccounts: of accounts that are the same.
  The reference's SameAccounts: of what Accounts has told twice.
-/
import Derived.Test.YtiglinnjnobodaaGreatQSrt
import Derived.Test.YtiglinnjnobodaaGreatQItw1
import Derived.Test.YtiglinnjnobodaaGreatQSt2
import Derived.Test.YtiglinnjnobodaaGreatQTx4
set_option linter.unusedVariables false
set_option linter.unusedSimpArgs false
namespace Go.Proofs.YtiglinnjnobodaaGreat
open Go.RowKit Go.Mun

theorem bytes_cloneO (a : Option Addr) (n c : Nat) (l : List Int) (hn : n = l.length) (hn2 : n ≤ 70000000000000) (w : World) (hI : Ints w .u8 a c l) :
    Calls Tryz.prog 45 #[.slice a n c] w fun e w' => ∃ v, e = .returned v ∧ OwnB w w' v l := by
  cases a with
  | none =>
    have hc := hI.nil rfl
    have hl := hI.len
    subst hc
    have : l = [] := List.eq_nil_of_length_eq_zero (by omega)
    subst this
    subst hn
    have hq := slice_nil' w
    go_enter Tryz.func45, Tryz.ntmps45
    go_wp2
    go_ret
    exact ⟨_, rfl, ⟨rfl, .inl ⟨rfl, rfl⟩⟩, Below.refl _ _⟩
  | some p =>
    have HI := Lib.hid hI
    have HN := Lib.hid hn
    have hq := slice_nil n c p w
    have hm : n ≤ maxLen := by unfold maxLen; omega
    have hs := HI.out.below ((Below.refl _ _).alloc (Nat.le_refl _) (.cells #[] 5))
    have HS := Lib.hid (SrcAt.ints hs)
    have HO : Hid ((w.alloc (.cells #[] 5)).ownsRow w.heap.size 5 1 (.slice (some ⟨w.heap.size, 0, none⟩) 0 0) 0 []) := World.ownsRow_lit (e := 5) (size := 1) w #[] 0 (Nat.le_refl _) (by decide) rfl
    clear hI hn hs
    go_enter Tryz.func45, Tryz.ntmps45
    go_wp2_with (at_builtin; go_must (refine wpList_append_intsN (base := w.heap.size) (n := 0) (xs := []) elem26 rfl _ _ rfl HO.out rfl rfl HN.out (HI.out.below ((Below.refl _ _).alloc (Nat.le_refl _) (.cells #[] 5))) ?c3 ?c4 ?c5 ?_))
    case c3 => omega
    case c4 => omega
    case c5 => simp
    intro v3 w3 ho3 hg3
    have H3 : Hid (OwnB w w3 v3 l) := by
      refine ⟨?_, ((Below.refl _ _).alloc (Nat.le_refl _) _).grown hg3 (by simp) (fun k hk => by simp [Value.ownBlock] at hk; omega)⟩
      rw [← HN.out]; exact ho3
    clear ho3 hg3
    go_wp2
    go_ret
    exact ⟨_, rfl, H3.out⟩

/-- An account of the state, as Accounts tells it. -/
def acOf (a : Nat) (x : Acc) : Ac := ⟨a, (x.nonce : Int), x.bal, x.code⟩
def acCells (S : St) (p : Nat × Value) : List Value := cat (acS (acOf p.1 (S p.1)) p.2 (.slice none 0 0))
theorem acCells_len (S : St) (p : Nat × Value) : (acCells S p).length = 55 := acS_len _ _ _
def acsC (S : St) (cs : List (Nat × Value)) : List Value := cs.flatMap (acCells S)
theorem acsC_snoc (S : St) (cs : List (Nat × Value)) (p : Nat × Value) : acsC S (cs ++ [p]) = acsC S cs ++ acCells S p := by simp [acsC]
/-- What Accounts has told so far. -/
structure AccsR (w0 w : World) (S : St) (v : Value) (cs : List (Nat × Value)) : Prop where
  below : Below w0.heap.size w0 w
  own : w.ownsRow w0.heap.size 35 55 v cs.length (acsC S cs)
  code : ∀ p ∈ cs, w.ownsRow w0.heap.size 5 1 p.2 (S p.1).code.length ((S p.1).code.map (Value.int .u8))
theorem own_apart {w : World} {b b' e e' s s' n n' : Nat} {v v' : Value} {xs xs' : List Value} (h : w.ownsRow b e s v n xs) (h' : w.ownsRow b' e' s' v' n' xs') (he : e ≠ e') : v.ownBlock = none ∨ v.ownBlock ≠ v'.ownBlock := by
  rcases h.2 with ⟨rfl, _⟩ | ⟨g, cap, cur, rfl, _, hg, _⟩
  · exact .inl rfl
  · rcases h'.2 with ⟨rfl, _⟩ | ⟨g', cap', cur', rfl, _, hg', _⟩
    · exact .inr (by simp [Value.ownBlock])
    · refine .inr fun e2 => ?_
      have : g = g' := by simpa [Value.ownBlock] using e2
      subst this
      rw [hg] at hg'
      cases hg'
      exact he rfl
theorem AccsR.start (w : World) (S : St) : AccsR w w S (.slice none 0 0) [] := ⟨Below.refl _ _, World.ownsRow_nil _ _ _ _, fun p hp => (by cases hp)⟩
theorem AccsR.next {w0 w w' : World} {S : St} {v : Value} {cs : List (Nat × Value)} (h : AccsR w0 w S v cs) (hb : Below w.heap.size w w') : AccsR w0 w' S v cs :=
  ⟨h.below.trans (hb.mono h.below.size), ownsRow_below h.own hb, fun p hp => ownsRow_below (h.code p hp) hb⟩
/-- An account more. -/
theorem AccsR.app {w0 w w' : World} {S : St} {v v' cv : Value} {cs : List (Nat × Value)} {a : Nat} (h : AccsR w0 w S v cs) (ho : w'.ownsRow w0.heap.size 35 55 v' (cs.length + 1) (acsC S cs ++ cat (acS (acOf a (S a)) cv (.slice none 0 0))))
    (hg : w.grownBy w' v.ownBlock) (hc : w.ownsRow w0.heap.size 5 1 cv (S a).code.length ((S a).code.map (Value.int .u8))) : AccsR w0 w' S v' (cs ++ [(a, cv)]) := by
  refine ⟨h.below.grown hg h.below.size (fun j hj => (h.own.lt j hj).1), ?_, fun p hp => ?_⟩
  · rw [acsC_snoc, List.length_append]; exact ho
  · rcases List.mem_append.1 hp with h1 | h1
    · exact (h.code p h1).kept hg (own_apart (h.code p h1) h.own (by decide))
    · rw [List.mem_singleton] at h1
      subst h1
      exact hc.kept hg (own_apart hc h.own (by decide))
theorem adrC_take : ∀ (l : List Nat) (i : Nat) (hi : i < l.length), ((adrC l).drop (i * 20)).take 20 = beC 20 l[i]
  | [], i, hi => by simp at hi
  | a :: l, 0, _ => by
    have : adrC (a :: l) = beC 20 a ++ adrC l := by simp [adrC]
    rw [this, Nat.zero_mul, List.drop_zero, List.take_append_of_le_length (by simp), List.take_of_length_le (by simp)]
    rfl
  | a :: l, i + 1, hi => by
    have : adrC (a :: l) = beC 20 a ++ adrC l := by simp [adrC]
    have hlen : (beC 20 a).length = 20 := by simp
    rw [this, show (i + 1) * 20 = (beC 20 a).length + i * 20 by rw [hlen]; omega, ← List.drop_drop, List.drop_left]
    simpa using adrC_take l i (by simpa using hi)
theorem row_adr {w : World} {g : Nat} {l : List Nat} {i : Nat} (hr : w.row? g 0 (l.length * 20) = some (adrC l)) (hi : i < l.length) : w.row? g (i * 20) 20 = some (beC 20 l[i]) := by
  have h1 := World.row?_sub hr (o' := i * 20) (n' := 20) (by omega) (by omega)
  rw [h1, Nat.sub_zero, adrC_take l i hi]
theorem build35 (a : Nat) (n : Int) (b : Nat) (x : Option Addr) (k c : Nat) (code : Bts) : fillL 55 (plOf zs81) (cat zs81) [(0, .agg (beC 20 a).toArray), (1, .int .i64 n), (2, .agg (beC 32 b).toArray), (3, .slice x k c)] = some (cat (acS ⟨a, n, b, code⟩ (.slice x k c) (.slice none 0 0))) := by
  rw [fillL_cats _ _ _ zs81_len]
  · rfl
  · rw [lensG]
    refine fits_cons ?_ (fits_cons ?_ (fits_cons ?_ (fits_cons ?_ (fits_nil _))))
    · show some 20 = some (beC 20 a).length; rw [beC_len]
    · rfl
    · show some 32 = some (beC 32 b).length; rw [beC_len]
    · rfl
end Go.Proofs.YtiglinnjnobodaaGreat
namespace Go.Proofs.YtiglinnjnobodaaGreat
open Go.RowKit Go.Mun
/-- Which accounts are told, and in which order. -/
def AccsL (S : St) (l : List Nat) : Prop := l.Pairwise (· < ·) ∧ ∀ a, a ∈ l ↔ a < wA ∧ ¬ (S a).empty
theorem emptyB_iff (x : Acc) : x.emptyB = true ↔ x.empty := by unfold Acc.emptyB; simp
theorem live_mem {S : St} {ks ss : List Nat} (hp : ss.Perm ks) (hd : ks.Nodup) (hlt : ∀ a ∈ ks, a < wA) (hout : ∀ a, a ∉ ks → S a = Acc.none) (hs : ss.Pairwise (· ≤ ·)) : AccsL S (ss.filter fun a => !(S a).emptyB) := by
  refine ⟨?_, fun a => ?_⟩
  · have h1 : ss.Nodup := hp.nodup_iff.2 hd
    have h2 : ss.Pairwise (· < ·) := by
      have := hs.and h1
      exact this.imp fun {a b} h => by have := h.1; have := h.2; omega
    exact h2.filter _
  · rw [List.mem_filter, hp.mem_iff]
    constructor
    · rintro ⟨h1, h2⟩
      refine ⟨hlt a h1, fun h3 => ?_⟩
      rw [(emptyB_iff _).2 h3] at h2
      cases h2
    · rintro ⟨h1, h2⟩
      refine ⟨?_, ?_⟩
      · by_cases hm : a ∈ ks
        · exact hm
        · exact absurd (by rw [hout a hm]; exact ⟨rfl, rfl, rfl, fun _ => rfl⟩) h2
      · cases he : (S a).emptyB with
        | false => rfl
        | true => exact absurd ((emptyB_iff _).1 he) h2
theorem own_form {w : World} {b e s n : Nat} {v : Value} {xs : List Value} (h : w.ownsRow b e s v n xs) : ∃ ad c, v = .slice ad n c := by
  rcases h.2 with ⟨rfl, rfl⟩ | ⟨g, cap, cur, rfl, _⟩
  · exact ⟨none, 0, rfl⟩
  · exact ⟨_, _, rfl⟩
/-- Between two rounds. -/
structure AccsI (w wr : World) (S : St) (ss : List Nat) (kv v : Value) (i : Nat) : Prop where
  r : ∃ cs, AccsR w wr S v cs ∧ cs.map Prod.fst = (ss.take i).filter fun a => !(S a).emptyB
  k : wr.ownsRow w.heap.size 23 20 kv ss.length (adrC ss)
theorem AccsI.next {w wr w' : World} {S : St} {ss : List Nat} {kv v : Value} {i : Nat} (h : AccsI w wr S ss kv v i) (hb : Below wr.heap.size wr w') : AccsI w w' S ss kv v i := by
  obtain ⟨⟨cs, h1, h2⟩, h3⟩ := h
  exact ⟨⟨cs, h1.next hb, h2⟩, ownsRow_below h3 hb⟩
theorem AccsI.below {w wr : World} {S : St} {ss : List Nat} {kv v : Value} {i : Nat} (h : AccsI w wr S ss kv v i) : Below w.heap.size w wr := by
  obtain ⟨⟨cs, h1, _⟩, _⟩ := h
  exact h1.below
theorem AccsI.skip {w wr : World} {S : St} {ss : List Nat} {kv v : Value} {i : Nat} (h : AccsI w wr S ss kv v i) (hi : i < ss.length) (he : (S ss[i]).emptyB = true) : AccsI w wr S ss kv v (i + 1) := by
  obtain ⟨⟨cs, h1, h2⟩, h3⟩ := h
  refine ⟨⟨cs, h1, ?_⟩, h3⟩
  rw [List.take_succ_eq_append_getElem hi, List.filter_append, ← h2]
  simp [he]
/-- An account more. -/
theorem AccsI.more {w w7 w8 : World} {S : St} {ss : List Nat} {kv v v' cv : Value} {i a : Nat} {cs : List (Nat × Value)} {x : Acc} {C : List Value} (h : AccsR w w7 S v cs) (hk : w7.ownsRow w.heap.size 23 20 kv ss.length (adrC ss)) (hm : cs.map Prod.fst = (ss.take i).filter fun a => !(S a).emptyB)
    (ht : ss.take (i + 1) = ss.take i ++ [a]) (hx : S a = x) (he : x.emptyB = false) (hC : C = cat (acS (acOf a x) cv (.slice none 0 0))) (ho : w8.ownsRow w.heap.size 35 55 v' (cs.length + 1) (acsC S cs ++ C))
    (hg : w7.grownBy w8 v.ownBlock) (hc : w7.ownsRow w.heap.size 5 1 cv x.code.length (x.code.map (Value.int .u8))) : AccsI w w8 S ss kv v' (i + 1) := by
  subst hx
  refine ⟨⟨cs ++ [(a, cv)], h.app (by rw [← hC]; exact ho) hg hc, ?_⟩, hk.kept hg (own_apart hk h.own (by decide))⟩
  rw [ht, List.filter_append, ← hm, List.map_append]
  simp [he]
theorem AccsI.len {ss : List Nat} {cs : List (Nat × Value)} {i : Nat} {f : Nat → Bool} (h : cs.map Prod.fst = (ss.take i).filter f) : cs.length ≤ ss.length := by
  have h1 := congrArg List.length h
  rw [List.length_map] at h1
  have h2 := List.length_filter_le f (ss.take i)
  rw [List.length_take] at h2
  omega
theorem acs_ok (x : Ac) (p : Option Addr) (n c : Nat) : okL 55 (cat (acS x (.slice p n c) (.slice none 0 0))) = true := by
  refine okL_cat (acS_len _ _ _) fun s hs => ?_
  simp only [acS, List.mem_cons, List.not_mem_nil, or_false] at hs
  rcases hs with rfl | rfl | rfl | rfl | rfl
  all_goals first | rfl | (rw [beC_len]; exact beC_ok _ _)
set_option maxRecDepth 100000 in
set_option maxHeartbeats 4000000 in
theorem st_accounts {w : World} {own : Go.Mun.Own} {sb : Nat} {S : St} {M : List (Nat × St)} {n : Nat} (h : StateAt TU w own sb S M n) (hn : n ≤ 3000000) (hz : ∀ a k, (S a).slots k = 0) :
    Calls Tryz.prog 31 #[.pointer (some ⟨sb, 0, none⟩)] w fun e w' => ∃ v cs, e = .returned v ∧ AccsR w w' S v cs ∧ AccsL S (cs.map Prod.fst) ∧ cs.length ≤ 4000000 := by
  obtain ⟨mb, uv, mv, last, E, U, mk, hs, -, -, -, -, hE⟩ := h
  obtain ⟨c0, _⟩ := hs.cells
  have hElt : ∀ a ∈ E.map Prod.fst, a < wA := by
    intro a ha
    obtain ⟨es, clock, _, _, hN, _⟩ := hs.map
    obtain ⟨p, hp, rfl⟩ := List.mem_map.1 ha
    exact hN p hp
  have hEn := hs.map.nodup
  have hEl : (E.map Prod.fst).length ≤ 4000000 := by rw [List.length_map]; omega
  have hout : ∀ a, a ∉ E.map Prod.fst → S a = Acc.none := fun a ha => by
    rcases sta_get hs a with ⟨p, hp, _⟩ | ⟨_, h2⟩
    · exact absurd (List.mem_map.2 ⟨_, getA_mem hp, rfl⟩) ha
    · exact h2
  have hin : ∀ a, a ∈ E.map Prod.fst → ∃ p, getA a E = some p ∧ AccAt w own p (S a) := fun a ha => by
    rcases sta_get hs a with h1 | ⟨h2, _⟩
    · exact h1
    · obtain ⟨q, hq, rfl⟩ := List.mem_map.1 ha; exact absurd rfl (getA_none_iff h2 q hq)
  have hSF : Calls Tryz.prog 70 #[.func (.func 116) #[] #[.pointer (some ⟨w.heap.size, 0, none⟩)], .func (.func 72) #[] #[]] (w.alloc (.cells #[.map (some mb)] 89)) fun e W' => ∃ v ss, e = .returned v ∧ ss.Perm (E.map Prod.fst) ∧ ss.Pairwise (· ≤ ·) ∧ W'.ownsRow (w.alloc (.cells #[.map (some mb)] 89)).heap.size 23 20 v ss.length (adrC ss) ∧ Below (w.alloc (.cells #[.map (some mb)] 89)).heap.size (w.alloc (.cells #[.map (some mb)] 89)) W' := by
    have hm1 : MapAt adV wA ptV (w.alloc (.cells #[.map (some mb)] 89)) mb E := hs.map.below ((Below.refl _ _).alloc (Nat.le_refl _) _)
    obtain ⟨D, hD, hsz, h1, h2⟩ := hm1.owns keyA (by unfold maxLen; rw [List.length_map] at hEl; omega)
    have hcell : (w.alloc (.cells #[.map (some mb)] 89)).cell? ⟨w.heap.size, 0, none⟩ = some (.map (some mb)) := by
      have := World.alloc_heap_new w (.cells #[.map (some mb)] 89)
      unfold World.cell?
      simp only [this]
      rfl
    exact sortedFunc70 _ _ _ hElt hEl (collect_plain w.heap.size mb E.length D (E.map Prod.fst) _ hElt hEn hEl (by rw [List.length_map]; exact hsz) h1 h2 (by simp) hcell hD)
  have HSF := Lib.hid hSF
  have HS := Lib.hid hs
  have HIN := Lib.hid hin
  have HOUT := Lib.hid hout
  have HEL := Lib.hid hElt
  have HEN := Lib.hid hEn
  have HEB := Lib.hid hEl
  have HZ := Lib.hid hz
  clear hSF hs hin hout hElt hEn hEl hz hE
  go_enter Tryz.func31, Tryz.ntmps31
  go_wp2_with (first
    | (go_at_call 71; refine (maps_Keys _ _ rfl).mono ?_; rintro e w1 ⟨rfl, rfl⟩)
    | (go_at_call 70; refine HSF.out.mono ?_; rintro e w2 ⟨kv, ss, rfl, hp, hpw, hrow, hB⟩; obtain ⟨ad, cap, rfl⟩ := own_form hrow))
  have hB2 : Below w.heap.size w w2 := ((Below.refl _ w).alloc (Nat.le_refl _) _).trans (hB.mono (by simp))
  have hrow2 : w2.ownsRow w.heap.size 23 20 (.slice ad ss.length cap) ss.length (adrC ss) := by
    refine ⟨hrow.1, hrow.2.imp id ?_⟩
    rintro ⟨g, cap', cur, h1, h2, h3⟩
    exact ⟨g, cap', cur, h1, by simp at h2; omega, h3⟩
  have HI0 : Hid (AccsI w w2 S ss (.slice ad ss.length cap) (.slice none 0 0) 0) := ⟨⟨[], (AccsR.start w S).next hB2, rfl⟩, hrow2⟩
  have HP := Lib.hid hp
  have HPW := Lib.hid hpw
  have hssl : ss.length ≤ 4000000 := by rw [hp.length_eq]; exact HEB.out
  clear hB hB2 hrow hrow2 hp hpw c0
  go_wp2_with fail
  go_loopw [3, 17] (fun v idx wr => ∃ i : Nat, i ≤ ss.length ∧ idx = .int .i64 (i : Int) ∧ AccsI w wr S ss (.slice ad ss.length cap) v i) (fun _ i _ => ss.length - (intOf i).toNat)
  case atStart => exact ⟨0, by omega, rfl, HI0.out⟩
  case round =>
    rename World => wo
    clear HI0 HSF
    obtain ⟨i, hi, rfl, hr⟩ := hrel
    have HR := Lib.hid hr
    clear hr
    by_cases hlt : i < ss.length
    · have hmem : ss[i] ∈ E.map Prod.fst := HP.out.mem_iff.1 (List.getElem_mem hlt)
      have hlA := HEL.out _ hmem
      obtain ⟨p, hp, hacc⟩ := HIN.out _ hmem
      obtain ⟨g, c2, hkv, _, _, hc2, hkr, _⟩ := own_words HR.out.k (by omega)
      cases hkv
      have hkr2 := row_adr hkr hlt
      have hiI : (i : Int) < ss.length := by omega
      have hok := beC_ok 20 ss[i]
      have hbx := box_new (w := wo) (t := 23) (n := 20) (zU8_len 20) hok
      have hf1 : (wo.alloc (.cells (zU8 20).toArray 23)).free? wo.heap.size 0 20 = true := World.free?_alloc_at _ _ rfl (by rw [zU8_len]; omega)
      obtain ⟨w1, e1⟩ : ∃ w1, w1 = (wo.alloc (.cells (zU8 20).toArray 23)).setCells wo.heap.size 0 (beC 20 ss[i]) := ⟨_, rfl⟩
      rw [← e1] at hbx
      have HE1 := Lib.hid e1
      have HSK := Lib.hid (fun he => HR.out.skip hlt he)
      have HTK := Lib.hid (List.take_succ_eq_append_getElem hlt)
      have hbS : Below w.heap.size w w1 := HR.out.below.trans (hbx.1.mono HR.out.below.size)
      have hbD : Below w.heap.size w w1.drew := hbS.trans ((Below.refl _ _).drew.mono hbS.size)
      have hacc1 := hacc.only_out (R := fun _ => False) (Only.of_below_size hbD) (fun _ h => h.elim)
      have l1 := (HS.out.map.below hbD).look keyA Tryz.underlying89 (zero82 _) hlA
      rw [hp] at l1
      have l2 : (Instr.lookup 89 (.map (some mb)) (.agg (beC 20 ss[i]).toArray) false).run Tryz.prog w1.drew = .ok (.pointer (some ⟨p, 0, none⟩)) w1.drew := l1
      obtain ⟨c1, _⟩ := (HS.out.only (R := fun _ => False) (Only.of_below_size hbD) (fun _ h => h.elim)).cells
      have r1 : w1.drew.row? wo.heap.size 0 20 = some (beC 20 ss[i]) := hbx.2
      have HBX := Lib.hid hbx.1
      have HACC := Lib.hid hacc1
      have HN1 := Lib.hid (HR.out.next hbx.1)
      clear hmem hp hacc hkr hbx e1 hbS hbD hacc1 l1
      generalize ss[i] = a at *
      have hlen := okL_len hok
      go_wp2_with fail
      rw [← HE1.out]
      refine wp_region_still_lit (by kernel_rfl) (by kernel_rfl) ?_
      change wpStill _ _ (World.drew _) _ _ _
      repeat still_step
      refine wpStill_nil ?_
      have HEM := Lib.hid (empty_calls HACC.out.r)
      cases hemp : (S a).emptyB with
      | true =>
        rw [hemp] at HEM
        go_wp2_with (go_at_call 74; refine HEM.out.mono ?_; rintro e w2 ⟨rfl, rfl⟩)
        have hk1 : IntKind.i64.wrap ((i : Int) + 1) = ((i + 1 : Nat) : Int) := by rw [wrI _ (by omega) (by omega)]; omega
        go_roundw
        case rel => exact ⟨i + 1, by omega, by go_num, (HSK.out hemp).next (HBX.out.trans ((Below.refl _ _).drew.mono HBX.out.size))⟩
        case measure => simp [intOf]; omega
      | false =>
        rw [hemp] at HEM
        obtain ⟨cv, q, sl, hrow, hcode, _, hmq, hsl⟩ := HACC.out.cells
        obtain ⟨⟨ca, cc, rfl, hints, _⟩, _, hcl⟩ := hcode
        obtain rfl : sl = [] := slots_zero hsl (HZ.out a)
        have hxn := HACC.out.nonce
        have hxb := HACC.out.bal
        have HCI := Lib.hid hints
        have HCL := Lib.hid hcl
        have HMQ := Lib.hid hmq
        have HND : Hid (AccsI w w1.drew S ss (.slice (some ⟨g, 0, none⟩) ss.length cap) u3 i) := HN1.out.next (Below.refl _ _).drew
        clear hints hcl hmq hsl HSK l2 c1 hkr2
        generalize hX : S a = x at *
        have HX := Lib.hid hX
        clear hX
        obtain ⟨nn, bal, code, slots⟩ := x
        simp only at *
        go_wp2_with (go_at_call 74; refine HEM.out.mono ?_; rintro e w2 ⟨rfl, rfl⟩)
        have HB1 : Hid (Below wo.heap.size wo w1.drew) := HBX.out.trans ((Below.refl _ _).drew.mono HBX.out.size)
        have HR1 : Hid (w1.drew.row? p 0 35 = some (accC nn bal (.slice ca code.length cc) (.map (some q)))) := hrow
        have HR2 : Hid (w1.drew.row? wo.heap.size 0 20 = some (beC 20 a)) := r1
        have hwo : wo.heap.size < w1.drew.heap.size := World.row?_lt r1
        have hpl : p < w1.drew.heap.size := World.row?_lt hrow
        clear HBX HE1 HACC HEM hrow r1 hf1 HN1
        generalize w1.drew = v0 at *
        obtain ⟨T, hT⟩ : ∃ T : World → Prop, T = fun w' => w'.row? wo.heap.size 0 20 = some (beC 20 a) ∧ w'.row? p 0 35 = some (accC nn bal (.slice ca code.length cc) (.map (some q))) := ⟨_, rfl⟩
        have HT := Lib.hid hT
        have tb : ∀ w2 w3, T w2 → Below w2.heap.size w2 w3 → T w3 := by
          rw [hT]; intro w2 w3 h hb
          exact ⟨((brow hb).1 _ _ _ (World.row?_lt h.1)).trans h.1, ((brow hb).1 _ _ _ (World.row?_lt h.2)).trans h.2⟩
        have HTB := Lib.hid tb
        have t0 : T v0.drew := by rw [hT]; exact ⟨HR2.out, HR1.out⟩
        have HI0 : Hid (Ints v0.drew .u8 ca cc code) := HCI.out.below (Below.refl _ _).drew
        have hcl2 : code.length ≤ 70000000000000 := by have := HCL.out; omega
        have hokb := beC_ok 32 bal
        have hz55 := zs81_len
        have HND2 : Hid (AccsI w v0.drew S ss (.slice (some ⟨g, 0, none⟩) ss.length cap) u3 i) := HND.out.next (Below.refl _ _).drew
        have HMQ2 : Hid (MapAt wdV wW wdV v0.drew q []) := HMQ.out.below (Below.refl _ _).drew
        clear hT tb HND HMQ HB1 HR1 HR2 HCI
        refine wp_region_tree T [16] (.take 0 (.pure 1 (.pure 2 (.pure 3 (.take 4 (.pure 5 (.pure 6 (.pure 7 (.take 8 (.pure 9 (.pure 10 (.pure 11 (.take 12 (.alt 13 (.pure 14 (.alt 15 (.alt 16 .fin .stop) .stop)) (.alt 15 (.alt 13 (.pure 14 (.alt 16 .fin .stop)) .stop) .stop))))))))))))))) (by kernel_rfl) (by kernel_rfl) ?_
        generalize v0.drew = v1 at *
        refine tree_take ?_ t0 rfl (by rfl) (fun w' hs => ?_) (fun _ _ _ h => h) ?_
        rotate_left
        · rw [HT.out] at hs
          obtain ⟨q1, q2⟩ := hs; obtain ⟨z0, z1, z33, z34⟩ := accC_parts q2
          go_simp
          try rfl
        simp only [Act.put, tsa, tsb, tsc]
        refine tree_pure ?_ rfl (by rfl) (fun w' hs => ?_) (fun _ _ _ h => h) ?_
        rotate_left
        · clear hs
          go_simp
          try rfl
        simp only [Act.put, tsa, tsb, tsc]
        refine tree_pure ?_ rfl (by rfl) (fun w' hs => ?_) (fun _ _ _ h => h) ?_
        rotate_left
        · clear hs
          go_simp
          try rfl
        simp only [Act.put, tsa, tsb, tsc]
        refine tree_pure ?_ rfl (by rfl) (fun w' hs => ?_) (fun _ _ _ h => h) ?_
        rotate_left
        · clear hs
          go_simp
          try rfl
        simp only [Act.put, tsa, tsb, tsc]
        refine tree_take ?_ t0 rfl (by rfl) (fun w' hs => ?_) (fun _ _ _ h => h) ?_
        rotate_left
        · rw [HT.out] at hs
          obtain ⟨q1, q2⟩ := hs; obtain ⟨z0, z1, z33, z34⟩ := accC_parts q2
          go_simp
          try rfl
        simp only [Act.put, tsa, tsb, tsc]
        refine tree_pure ?_ rfl (by rfl) (fun w' hs => ?_) (fun _ _ _ h => h) ?_
        rotate_left
        · clear hs
          go_simp
          try rfl
        simp only [Act.put, tsa, tsb, tsc]
        refine tree_pure ?_ rfl (by rfl) (fun w' hs => ?_) (fun _ _ _ h => h) ?_
        rotate_left
        · clear hs
          go_simp
          try rfl
        simp only [Act.put, tsa, tsb, tsc]
        refine tree_pure ?_ rfl (by rfl) (fun w' hs => ?_) (fun _ _ _ h => h) ?_
        rotate_left
        · clear hs
          go_simp
          try rfl
        simp only [Act.put, tsa, tsb, tsc]
        refine tree_take ?_ t0 rfl (by rfl) (fun w' hs => ?_) (fun _ _ _ h => h) ?_
        rotate_left
        · rw [HT.out] at hs
          obtain ⟨q1, q2⟩ := hs; obtain ⟨z0, z1, z33, z34⟩ := accC_parts q2
          go_simp
          try rfl
        simp only [Act.put, tsa, tsb, tsc]
        refine tree_pure ?_ rfl (by rfl) (fun w' hs => ?_) (fun _ _ _ h => h) ?_
        rotate_left
        · clear hs
          go_simp
          try rfl
        simp only [Act.put, tsa, tsb, tsc]
        refine tree_pure ?_ rfl (by rfl) (fun w' hs => ?_) (fun _ _ _ h => h) ?_
        rotate_left
        · clear hs
          go_simp
          try rfl
        simp only [Act.put, tsa, tsb, tsc]
        refine tree_pure ?_ rfl (by rfl) (fun w' hs => ?_) (fun _ _ _ h => h) ?_
        rotate_left
        · clear hs
          go_simp
          try rfl
        simp only [Act.put, tsa, tsb, tsc]
        refine tree_take ?_ t0 rfl (by rfl) (fun w' hs => ?_) (fun _ _ _ h => h) ?_
        rotate_left
        · rw [HT.out] at hs
          obtain ⟨q1, q2⟩ := hs; obtain ⟨z0, z1, z33, z34⟩ := accC_parts q2
          go_simp
          try rfl
        simp only [Act.put, tsa, tsb, tsc]
        refine tree_alt rfl (fun K hK => ?_) ?_
        · go_simp
          refine (bytes_cloneO ca code.length cc code rfl hcl2 _ HI0.out).mono ?_
          rintro e w3 ⟨cw, rfl, hnb⟩
          have t3 : T w3 := HTB.out _ _ t0 hnb.below
          have HNB := Lib.hid hnb
          obtain ⟨cwa, cwc, hcw⟩ := own_form hnb.own
          clear hnb
          subst hcw
          have hbuild := build35 a nn bal cwa code.length cwc code
          refine hK.out _ _ t3 ?_
          clear hK K
          refine tree_pure ?_ rfl (by rfl) (fun w' hs => ?_) (fun _ _ _ h => h) ?_
          rotate_left
          · clear hs
            refine (bl81 _ _ _ _ _ _ _ _).trans ?_
            refine (congrArg (fun r => asNext (blRow Tryz.prog 35 _ _ r)) hbuild).trans ?_
            rfl
          simp only [Act.put, tsa, tsb, tsc]
          refine tree_run rfl (fun K hK => ?_)
          go_simp
          have hbm : Below w3.heap.size w3 (World.alloc w3 (.cells (cat zs81).toArray 35)) := (Below.refl _ _).alloc (Nat.le_refl _) _
          have tA : T (World.alloc w3 (.cells (cat zs81).toArray 35)) := HTB.out _ _ t3 hbm
          clear hbm
          refine hK.out _ _ tA ?_
          clear hK K
          refine tree_z rfl (by simp) (fun K hK => ?_)
          have hfs : (World.alloc w3 (.cells (cat zs81).toArray 35)).free? w3.heap.size 0 55 = true := World.free?_alloc_at _ _ rfl (by rw [hz55]; omega)
          have hok5 := acs_ok ⟨a, (nn : Int), bal, code⟩ cwa code.length cwc
          go_simp
          refine hK.out _ _ ?_
          clear hK K
          refine tree_fin ?_
          obtain ⟨w5, e5⟩ : ∃ w5, w5 = World.setCells (World.alloc w3 (.cells (cat zs81).toArray 35)) w3.heap.size 0 (cat (acS ⟨a, (nn : Int), bal, code⟩ (.slice cwa code.length cwc) (.slice none 0 0))) := ⟨_, rfl⟩
          have hb3 : Below v1.heap.size v1 w3 := HNB.out.below
          have hs3 := hb3.size
          have hb5 : Below v1.heap.size v1 w5 := by rw [e5]; exact (hb3.trans ((Below.refl _ _).alloc hs3 _)).setCells (by omega) _ _
          have r5 : w5.row? w3.heap.size 0 55 = some (cat (acS ⟨a, (nn : Int), bal, code⟩ (.slice cwa code.length cwc) (.slice none 0 0))) := by
            rw [e5, World.row?_setCells_lay 0 _ (Nat.le_refl _) (by rw [acS_len]; omega)]
            rw [World.row?_alloc_at _ _ _ rfl hz55]
            show some (lay (cat zs81) 0 _) = _
            rw [lay_all _ _ (by rw [acS_len, hz55])]
          have ho5 : w5.ownsRow v1.heap.size 5 1 (.slice cwa code.length cwc) code.length (code.map (Value.int .u8)) := by
            rw [e5]
            exact ownsRow_below HNB.out.own (((Below.refl _ _).alloc (Nat.le_refl _) _).setCells (Nat.le_refl _) _ _)
          have hcodeO : Hid (w5.ownsRow w.heap.size 5 1 (.slice cwa code.length cwc) code.length (code.map (Value.int .u8))) := ownsRow_mono ho5 (by have := HND2.out.below.size; omega)
          have HN5 := Lib.hid (HND2.out.next hb5)
          have HMQ5 := Lib.hid (HMQ2.out.below hb5)
          have q5 : w5.row? p 0 35 = some (accC nn bal (.slice ca code.length cc) (.map (some q))) := by rw [HT.out] at t0; exact ((brow hb5).1 _ _ _ (World.row?_lt t0.2)).trans t0.2
          obtain ⟨z0, z1, z33, z34⟩ := accC_parts q5
          have hlt5 : w3.heap.size < w5.heap.size := World.row?_lt r5
          have HR5 := Lib.hid r5
          have HE5 := Lib.hid e5
          rw [← e5]
          clear e5 hb3 hs3 hb5 ho5 r5 q5 z0 z1 z33 hbuild hfs hok5 t0 t3 tA HND2 HMQ2 HNB
          have hq6 : MapAt wdV wW wdV (w5.alloc (.cells #[.map (some q)] 96)) q [] := HMQ5.out.below ((Below.refl _ _).alloc (Nat.le_refl _) _)
          have hc6 : (w5.alloc (.cells #[.map (some q)] 96)).cell? ⟨w5.heap.size, 0, none⟩ = some (.map (some q)) := by
            have := World.alloc_heap_new w5 (.cells #[.map (some q)] 96)
            unfold World.cell?
            simp only [this]
            rfl
          have HWN := Lib.hid (words_none (by simp) hc6 hq6)
          clear hq6 hc6
          go_wp2_with (first
            | (go_at_call 76; refine (maps_KeysW _ _ rfl).mono ?_; rintro e w6 ⟨rfl, rfl⟩)
            | (go_at_call 75; refine HWN.out.mono ?_; rintro e w7 ⟨rfl, hB7⟩))
          have hb7 : Below w5.heap.size w5 w7 := ((Below.refl _ _).alloc (Nat.le_refl _) _).trans (hB7.mono (by simp))
          have HN7 := Lib.hid (HN5.out.next hb7)
          have HC7 := Lib.hid (ownsRow_below hcodeO.out hb7)
          have HR7 : Hid (w7.row? w3.heap.size 0 55 = some (cat (acS ⟨a, (nn : Int), bal, code⟩ (.slice cwa code.length cwc) (.slice none 0 0)))) := by rw [← HR5.out]; exact (brow hb7).1 _ _ _ hlt5
          clear HWN hB7 hb7 HN5 hcodeO HR5 HE5 z34 hlt5
          go_loopw [51] (fun ix wz => ix = .int .i64 0 ∧ wz = w7) (fun _ _ => 0)
          case atStart => exact ⟨rfl, rfl⟩
          case round =>
            obtain ⟨rfl, rfl⟩ := hrel
            rename World => w7
            obtain ⟨⟨cs, hA, hcm⟩, hkk⟩ := HN7.out
            have hcsl := AccsI.len hcm
            have hr7 := HR7.out
            obtain ⟨C, hC⟩ : ∃ C, C = cat (acS ⟨a, (nn : Int), bal, code⟩ (.slice cwa code.length cwc) (.slice none 0 0)) := ⟨_, rfl⟩
            rw [← hC] at hr7
            have hokC : okL 55 C = true := by rw [hC]; exact acs_ok _ _ _ _
            have hlC := okL_len hokC
            have HC := Lib.hid hC
            have HA := Lib.hid hA
            have HKK := Lib.hid hkk
            have HCM := Lib.hid hcm
            clear hC hA hkk hcm HN7 HR7
            go_wp2_with (at_builtin; go_must (refine wpList_append_at (base := w.heap.size) (n := cs.length) (xs := acsC S cs) elemG rfl _ _ rfl rfl rfl ?own ?c0 ?c1 ?c3 ?c4 ?c5 ?_))
            case own => exact HA.out.own
            case c0 => simp
            case c1 => exact hokC
            case c3 => unfold maxLen; omega
            case c4 => omega
            case c5 => have := HA.out.below.size; simp; omega
            intro v' w8 ho hg _
            have HNX := Lib.hid (AccsI.more HA.out HKK.out HCM.out HTK.out HX.out hemp HC.out ho hg HC7.out)
            clear ho hg
            have hk1 : IntKind.i64.wrap ((i : Int) + 1) = ((i + 1 : Nat) : Int) := by rw [wrI _ (by omega) (by omega)]; omega
            go_wp2
            go_roundw
            case rel => exact ⟨i + 1, by omega, by go_num, HNX.out⟩
            case measure => simp [intOf]; omega
        refine tree_run rfl (fun K hK => ?_)
        go_simp
        have hbm : Below v1.heap.size v1 (World.alloc v1 (.cells (cat zs81).toArray 35)) := (Below.refl _ _).alloc (Nat.le_refl _) _
        have tA : T (World.alloc v1 (.cells (cat zs81).toArray 35)) := HTB.out _ _ t0 hbm
        have HIA := Lib.hid (HI0.out.below hbm)
        clear hbm
        refine hK.out _ _ tA ?_
        clear hK K
        refine tree_run rfl (fun K hK => ?_)
        go_simp
        refine (bytes_cloneO ca code.length cc code rfl hcl2 _ HIA.out).mono ?_
        rintro e w3 ⟨cw, rfl, hnb⟩
        have t3 : T w3 := HTB.out _ _ tA hnb.below
        have HNB := Lib.hid hnb
        obtain ⟨cwa, cwc, hcw⟩ := own_form hnb.own
        clear hnb
        subst hcw
        have hbuild := build35 a nn bal cwa code.length cwc code
        refine hK.out _ _ t3 ?_
        clear hK K
        refine tree_pure ?_ rfl (by rfl) (fun w' hs => ?_) (fun _ _ _ h => h) ?_
        rotate_left
        · clear hs
          refine (bl81 _ _ _ _ _ _ _ _).trans ?_
          refine (congrArg (fun r => asNext (blRow Tryz.prog 35 _ _ r)) hbuild).trans ?_
          rfl
        simp only [Act.put, tsa, tsb, tsc]
        refine tree_z rfl (by simp) (fun K hK => ?_)
        have hfs : w3.free? v1.heap.size 0 55 = true := by rw [(brow HNB.out.below).2 _ _ _ (by simp)]; exact World.free?_alloc_at _ _ rfl (by rw [hz55]; omega)
        have hok5 := acs_ok ⟨a, (nn : Int), bal, code⟩ cwa code.length cwc
        go_simp
        refine hK.out _ _ ?_
        clear hK K
        refine tree_fin ?_
        obtain ⟨w5, e5⟩ : ∃ w5, w5 = World.setCells w3 v1.heap.size 0 (cat (acS ⟨a, (nn : Int), bal, code⟩ (.slice cwa code.length cwc) (.slice none 0 0))) := ⟨_, rfl⟩
        have hb3 : Below v1.heap.size v1 w3 := ((Below.refl _ _).alloc (Nat.le_refl _) _).trans (HNB.out.below.mono (by simp))
        have hs3 := hb3.size
        have hb5 : Below v1.heap.size v1 w5 := by rw [e5]; exact hb3.setCells (Nat.le_refl _) _ _
        have r5 : w5.row? v1.heap.size 0 55 = some (cat (acS ⟨a, (nn : Int), bal, code⟩ (.slice cwa code.length cwc) (.slice none 0 0))) := by
          rw [e5, World.row?_setCells_lay 0 _ (Nat.le_refl _) (by rw [acS_len]; omega)]
          rw [(brow HNB.out.below).1 _ _ _ (by simp), World.row?_alloc_at _ _ _ rfl hz55]
          show some (lay (cat zs81) 0 _) = _
          rw [lay_all _ _ (by rw [acS_len, hz55])]
        have ho5 : w5.ownsRow (World.alloc v1 (.cells (cat zs81).toArray 35)).heap.size 5 1 (.slice cwa code.length cwc) code.length (code.map (Value.int .u8)) := by
          rw [e5]
          exact Only.own HNB.out.own ((Only.refl (· = v1.heap.size) _).setCells (fun _ => rfl) _ _) (fun gg hg hx => by have h1 := (HNB.out.own.lt gg hg).1; have h2 : gg = v1.heap.size := hx; simp at h1; omega)
        have hcodeO : Hid (w5.ownsRow w.heap.size 5 1 (.slice cwa code.length cwc) code.length (code.map (Value.int .u8))) := ownsRow_mono ho5 (by have := HND2.out.below.size; simp; omega)
        have HN5 := Lib.hid (HND2.out.next hb5)
        have HMQ5 := Lib.hid (HMQ2.out.below hb5)
        have q5 : w5.row? p 0 35 = some (accC nn bal (.slice ca code.length cc) (.map (some q))) := by rw [HT.out] at t0; exact ((brow hb5).1 _ _ _ (World.row?_lt t0.2)).trans t0.2
        obtain ⟨z0, z1, z33, z34⟩ := accC_parts q5
        have hlt5 : v1.heap.size < w5.heap.size := World.row?_lt r5
        have HR5 := Lib.hid r5
        have HE5 := Lib.hid e5
        rw [← e5]
        clear e5 hb3 hs3 hb5 ho5 r5 q5 z0 z1 z33 hbuild hfs hok5 t0 t3 tA HND2 HMQ2 HNB
        have hq6 : MapAt wdV wW wdV (w5.alloc (.cells #[.map (some q)] 96)) q [] := HMQ5.out.below ((Below.refl _ _).alloc (Nat.le_refl _) _)
        have hc6 : (w5.alloc (.cells #[.map (some q)] 96)).cell? ⟨w5.heap.size, 0, none⟩ = some (.map (some q)) := by
          have := World.alloc_heap_new w5 (.cells #[.map (some q)] 96)
          unfold World.cell?
          simp only [this]
          rfl
        have HWN := Lib.hid (words_none (by simp) hc6 hq6)
        clear hq6 hc6
        go_wp2_with (first
          | (go_at_call 76; refine (maps_KeysW _ _ rfl).mono ?_; rintro e w6 ⟨rfl, rfl⟩)
          | (go_at_call 75; refine HWN.out.mono ?_; rintro e w7 ⟨rfl, hB7⟩))
        have hb7 : Below w5.heap.size w5 w7 := ((Below.refl _ _).alloc (Nat.le_refl _) _).trans (hB7.mono (by simp))
        have HN7 := Lib.hid (HN5.out.next hb7)
        have HC7 := Lib.hid (ownsRow_below hcodeO.out hb7)
        have HR7 : Hid (w7.row? v1.heap.size 0 55 = some (cat (acS ⟨a, (nn : Int), bal, code⟩ (.slice cwa code.length cwc) (.slice none 0 0)))) := by rw [← HR5.out]; exact (brow hb7).1 _ _ _ hlt5
        clear HWN hB7 hb7 HN5 hcodeO HR5 HE5 z34 hlt5
        go_loopw [51] (fun ix wz => ix = .int .i64 0 ∧ wz = w7) (fun _ _ => 0)
        case atStart => exact ⟨rfl, rfl⟩
        case round =>
          obtain ⟨rfl, rfl⟩ := hrel
          rename World => w7
          obtain ⟨⟨cs, hA, hcm⟩, hkk⟩ := HN7.out
          have hcsl := AccsI.len hcm
          have hr7 := HR7.out
          obtain ⟨C, hC⟩ : ∃ C, C = cat (acS ⟨a, (nn : Int), bal, code⟩ (.slice cwa code.length cwc) (.slice none 0 0)) := ⟨_, rfl⟩
          rw [← hC] at hr7
          have hokC : okL 55 C = true := by rw [hC]; exact acs_ok _ _ _ _
          have hlC := okL_len hokC
          have HC := Lib.hid hC
          have HA := Lib.hid hA
          have HKK := Lib.hid hkk
          have HCM := Lib.hid hcm
          clear hC hA hkk hcm HN7 HR7
          go_wp2_with (at_builtin; go_must (refine wpList_append_at (base := w.heap.size) (n := cs.length) (xs := acsC S cs) elemG rfl _ _ rfl rfl rfl ?own ?c0 ?c1 ?c3 ?c4 ?c5 ?_))
          case own => exact HA.out.own
          case c0 => simp
          case c1 => exact hokC
          case c3 => unfold maxLen; omega
          case c4 => omega
          case c5 => have := HA.out.below.size; simp; omega
          intro v' w8 ho hg _
          have HNX := Lib.hid (AccsI.more HA.out HKK.out HCM.out HTK.out HX.out hemp HC.out ho hg HC7.out)
          clear ho hg
          have hk1 : IntKind.i64.wrap ((i : Int) + 1) = ((i + 1 : Nat) : Int) := by rw [wrI _ (by omega) (by omega)]; omega
          go_wp2
          go_roundw
          case rel => exact ⟨i + 1, by omega, by go_num, HNX.out⟩
          case measure => simp [intOf]; omega
    · have hin : i = ss.length := by omega
      have hiI : ¬ (i : Int) < ss.length := by omega
      have HRR := Lib.hid HR.out
      obtain ⟨⟨cs, hA, hcm⟩, _⟩ := HR.out
      have hcl := AccsI.len hcm
      rw [hin, List.take_length] at hcm
      have hL := live_mem HP.out HEN.out HEL.out HOUT.out HPW.out
      rw [← hcm] at hL
      have HF : Hid (AccsR w wo S u3 cs ∧ AccsL S (cs.map Prod.fst) ∧ cs.length ≤ 4000000) := ⟨hA, hL, by omega⟩
      clear hA hcm hL hin hcl
      go_wp2
      go_ret
      exact ⟨_, rfl, cs, HF.out.1, HF.out.2⟩
end Go.Proofs.YtiglinnjnobodaaGreat
namespace Go.Proofs.YtiglinnjnobodaaGreat
open Go.RowKit Go.Mun

theorem eqA_refl (x : Nat) (w : World) : (Op.equalIn 10000 23 (.agg (beC 20 x).toArray) (.agg (beC 20 x).toArray)).run Tryz.prog w = .ok true w := by
  have h : ∀ d, (Op.equalIn (d + 3) 23 (.agg (beC 20 x).toArray) (.agg (beC 20 x).toArray)).run Tryz.prog w = .ok true w := fun d => by
    have := run_eq_beD (n := 20) Tryz.underlying23 Tryz.underlying5 (by kernel_rfl) (d + 1) x x w
    simpa [beEq] using this
  exact at10000 h
theorem eqW_refl (x : Nat) (w : World) : (Op.equalIn 10000 25 (.agg (beC 32 x).toArray) (.agg (beC 32 x).toArray)).run Tryz.prog w = .ok true w := by
  have h : ∀ d, (Op.equalIn (d + 3) 25 (.agg (beC 32 x).toArray) (.agg (beC 32 x).toArray)).run Tryz.prog w = .ok true w := fun d => by
    have := run_eq_beD (n := 32) Tryz.underlying25 Tryz.underlying5 (by kernel_rfl) (d + 1) x x w
    simpa [beEq] using this
  exact at10000 h
set_option maxRecDepth 100000 in
set_option maxHeartbeats 1000000 in
theorem same_acc (a : Nat) (n : Int) (b : Nat) (d : Bts) (a1 a2 : Option Addr) (c1 c2 : Nat) (w : World) (h1 : Ints w .u8 a1 c1 d) (h2 : Ints w .u8 a2 c2 d) :
    Calls Tryz.prog 78 #[.agg (cat (acS ⟨a, n, b, d⟩ (.slice a1 d.length c1) (.slice none 0 0))).toArray, .agg (cat (acS ⟨a, n, b, d⟩ (.slice a2 d.length c2) (.slice none 0 0))).toArray] w fun e w' => e = .returned (.bool true) ∧ Below w.heap.size w w' := by
  have ha := eqA_refl a
  have hw := eqW_refl b
  obtain ⟨X, hX⟩ : ∃ X, X = cat (acS ⟨a, n, b, d⟩ (.slice a1 d.length c1) (.slice none 0 0)) := ⟨_, rfl⟩
  obtain ⟨Y, hY⟩ : ∃ Y, Y = cat (acS ⟨a, n, b, d⟩ (.slice a2 d.length c2) (.slice none 0 0)) := ⟨_, rfl⟩
  have lX : X.length = 55 := by rw [hX]; exact acS_len _ _ _
  have lY : Y.length = 55 := by rw [hY]; exact acS_len _ _ _
  rw [← hX, ← hY]
  obtain ⟨w0, e0⟩ : ∃ w0, w0 = (w.alloc (.cells X.toArray 35)).alloc (.cells Y.toArray 35) := ⟨_, rfl⟩
  have hb0 : Below w.heap.size w w0 := by rw [e0]; exact ((Below.refl _ _).alloc (Nat.le_refl _) _).alloc (by simp) _
  have hr : w0.row? w.heap.size 0 55 = some X := by rw [e0, World.row?_alloc_lt _ (by simp)]; exact World.row?_alloc_at X 35 _ rfl lX
  have hs : w0.row? (w.heap.size + 1) 0 55 = some Y := by rw [e0]; exact World.row?_alloc_at Y 35 _ (by simp) lY
  rw [hX] at hr
  rw [hY] at hs
  have x0 : w0.row? w.heap.size 0 20 = some (beC 20 a) := row_cat hr (i := 0) rfl (by simp [acS, offOf_succ, offOf_zero]) (by simp)
  have x1 : w0.cell? ⟨w.heap.size, 20, none⟩ = some (.int .i64 n) := cell_cat hr (i := 1) rfl (by simp [acS, offOf_succ, offOf_zero])
  have x2 : w0.row? w.heap.size 21 32 = some (beC 32 b) := row_cat hr (i := 2) rfl (by simp [acS, offOf_succ, offOf_zero]) (by simp)
  have x3 : w0.cell? ⟨w.heap.size, 53, none⟩ = some (.slice a1 d.length c1) := cell_cat hr (i := 3) rfl (by simp [acS, offOf_succ, offOf_zero])
  have x4 : w0.cell? ⟨w.heap.size, 54, none⟩ = some (.slice none 0 0) := cell_cat hr (i := 4) rfl (by simp [acS, offOf_succ, offOf_zero])
  have y0 : w0.row? (w.heap.size + 1) 0 20 = some (beC 20 a) := row_cat hs (i := 0) rfl (by simp [acS, offOf_succ, offOf_zero]) (by simp)
  have y1 : w0.cell? ⟨(w.heap.size + 1), 20, none⟩ = some (.int .i64 n) := cell_cat hs (i := 1) rfl (by simp [acS, offOf_succ, offOf_zero])
  have y2 : w0.row? (w.heap.size + 1) 21 32 = some (beC 32 b) := row_cat hs (i := 2) rfl (by simp [acS, offOf_succ, offOf_zero]) (by simp)
  have y3 : w0.cell? ⟨(w.heap.size + 1), 53, none⟩ = some (.slice a2 d.length c2) := cell_cat hs (i := 3) rfl (by simp [acS, offOf_succ, offOf_zero])
  have y4 : w0.cell? ⟨(w.heap.size + 1), 54, none⟩ = some (.slice none 0 0) := cell_cat hs (i := 4) rfl (by simp [acS, offOf_succ, offOf_zero])
  have q1 := run_bytes_string' (P := Tryz.prog) Tryz.underlying26 Tryz.underlying5 Tryz.underlying9 rfl (h1.below hb0)
  have q2 := run_bytes_string' (P := Tryz.prog) Tryz.underlying26 Tryz.underlying5 Tryz.underlying9 rfl (h2.below hb0)
  have HB := Lib.hid hb0
  have HE := Lib.hid e0
  generalize strOf d = S at *
  generalize d.length = m at *
  rw [e0] at x0 x1 x2 x3 x4 y0 y1 y2 y3 y4 q1 q2
  clear hX hY hr hs e0 hb0 h1 h2 lX lY
  go_enter Tryz.func78, Tryz.ntmps78
  go_wp2_with fail
  rw [← HE.out]
  rw [← HE.out] at x0 x1 x2 x3 x4 y0 y1 y2 y3 y4 q1 q2
  go_loopw [5] (fun ix wz => ix = .int .i64 0 ∧ wz = w0) (fun _ _ => 0)
  case atStart => exact ⟨rfl, rfl⟩
  case round =>
    obtain ⟨rfl, rfl⟩ := hrel
    go_wp2
    go_ret
    exact ⟨rfl, HB.out⟩
end Go.Proofs.YtiglinnjnobodaaGreat
namespace Go.Proofs.YtiglinnjnobodaaGreat
open Go.RowKit Go.Mun

theorem acsC_take (S : St) : ∀ (l : List (Nat × Value)) (i : Nat) (hi : i < l.length), ((acsC S l).drop (i * 55)).take 55 = acCells S l[i]
  | [], i, hi => by simp at hi
  | a :: l, 0, _ => by
    have : acsC S (a :: l) = acCells S a ++ acsC S l := by simp [acsC]
    have hlen := acCells_len S a
    rw [this, Nat.zero_mul, List.drop_zero, List.take_append_of_le_length (by rw [hlen]; exact Nat.le_refl _), List.take_of_length_le (by rw [hlen]; exact Nat.le_refl _)]
    rfl
  | a :: l, i + 1, hi => by
    have : acsC S (a :: l) = acCells S a ++ acsC S l := by simp [acsC]
    have hlen := acCells_len S a
    rw [this, show (i + 1) * 55 = (acCells S a).length + i * 55 by rw [hlen]; omega, ← List.drop_drop, List.drop_left]
    simpa using acsC_take S l i (by simpa using hi)
theorem row_ac {w : World} {g : Nat} {S : St} {l : List (Nat × Value)} {i : Nat} (hr : w.row? g 0 (l.length * 55) = some (acsC S l)) (hi : i < l.length) : w.row? g (i * 55) 55 = some (acCells S l[i]) := by
  have h1 := World.row?_sub hr (o' := i * 55) (n' := 55) (by omega) (by omega)
  rw [h1, Nat.sub_zero, acsC_take S l i hi]
set_option maxRecDepth 100000 in
set_option maxHeartbeats 2000000 in
theorem same_accs {w0 w1 w : World} {S : St} {v1 v2 : Value} {cs1 cs2 : List (Nat × Value)} (h1 : AccsR w0 w S v1 cs1) (h2 : AccsR w1 w S v2 cs2) (hL : cs1.map Prod.fst = cs2.map Prod.fst) (hm9 : cs1.length ≤ 4000000) :
    Calls Tryz.prog 32 #[v1, v2] w fun e w' => e = .returned (.bool true) ∧ Below w.heap.size w w' := by
  have hlen : cs2.length = cs1.length := by have := congrArg List.length hL; simpa using this.symm
  have ho1 := h1.own
  have ho2 := h2.own
  rw [hlen] at ho2
  obtain ⟨m, hm⟩ : ∃ m, m = cs1.length := ⟨_, rfl⟩
  rw [← hm] at ho1 ho2 hlen hm9
  have hbn : ((m : Int) != (m : Int)) = false := by simp
  by_cases hz : m = 0
  · obtain ⟨ad1, c1, rfl⟩ := own_form ho1
    obtain ⟨ad2, c2, rfl⟩ := own_form ho2
    subst hz
    clear h1 h2 hL hlen ho1 ho2 hm
    go_enter Tryz.func32, Tryz.ntmps32
    go_wp2_with fail
    go_loopw [5] (fun ix wz => ix = .int .i64 0 ∧ wz = w) (fun _ _ => 0)
    case atStart => exact ⟨rfl, rfl⟩
    case round =>
      obtain ⟨rfl, rfl⟩ := hrel
      go_wp2
      go_ret
      exact ⟨rfl, Below.refl _ _⟩
  · obtain ⟨b, c, rfl, _, hc, hcm, hrow, _⟩ := own_words ho1 (by omega)
    obtain ⟨b', c', rfl, _, hc', hcm', hrow', _⟩ := own_words ho2 (by omega)
    have HAT : Hid (∀ q, q < m → ∃ a n bl d a1 a2 k1 k2, w.row? b (q * 55) 55 = some (cat (acS ⟨a, n, bl, d⟩ (.slice a1 d.length k1) (.slice none 0 0))) ∧ w.row? b' (q * 55) 55 = some (cat (acS ⟨a, n, bl, d⟩ (.slice a2 d.length k2) (.slice none 0 0))) ∧ Ints w .u8 a1 k1 d ∧ Ints w .u8 a2 k2 d) := by
      intro q hq
      have hq1 : q < cs1.length := by omega
      have hq2 : q < cs2.length := by omega
      have e : (cs1[q]).1 = (cs2[q]).1 := by
        have := congrArg (fun l => l[q]?) hL
        simpa [hq1, hq2] using this
      have r1 := row_ac (by rw [← hm]; exact hrow) hq1
      have r2 := row_ac (by rw [hlen]; exact hrow') hq2
      obtain ⟨a1, k1, e1, _, i1⟩ := Ints.of_own' (h1.code _ (List.getElem_mem hq1))
      obtain ⟨a2, k2, e2, _, i2⟩ := Ints.of_own' (h2.code _ (List.getElem_mem hq2))
      unfold acCells at r1 r2
      rw [e1] at r1
      rw [e2, ← e] at r2
      rw [← e] at i2
      exact ⟨_, _, _, _, a1, a2, k1, k2, r1, r2, i1, i2⟩
    have HLT := Lib.hid (World.row?_lt hrow)
    have HLT' := Lib.hid (World.row?_lt hrow')
    clear h1 h2 hL hrow hrow' hm ho1 ho2 hlen
    go_enter Tryz.func32, Tryz.ntmps32
    go_wp2_with fail
    go_loopw [5] (fun i wr => ∃ q : Nat, q ≤ m ∧ i = .int .i64 q ∧ Below w.heap.size w wr) (fun i _ => m - (intOf i).toNat)
    case atStart => exact ⟨0, by omega, rfl, Below.refl _ _⟩
    case round =>
      obtain ⟨q, hq, rfl, hbw⟩ := hrel
      have HBW := Lib.hid hbw
      clear hbw
      by_cases hlt : q < m
      · obtain ⟨a, n, bl, d, a1, a2, k1, k2, r1, r2, i1, i2⟩ := HAT.out q hlt
        obtain ⟨X, hX⟩ : ∃ X, X = cat (acS ⟨a, n, bl, d⟩ (.slice a1 d.length k1) (.slice none 0 0)) := ⟨_, rfl⟩
        obtain ⟨Y, hY⟩ : ∃ Y, Y = cat (acS ⟨a, n, bl, d⟩ (.slice a2 d.length k2) (.slice none 0 0)) := ⟨_, rfl⟩
        have HC := Lib.hid (fun (W : World) (hW : Below w.heap.size w W) => same_acc a n bl d a1 a2 k1 k2 W (i1.below hW) (i2.below hW))
        rw [← hX, ← hY] at HC
        rw [← hX] at r1
        rw [← hY] at r2
        have hx : X.length = 55 := by rw [hX]; exact acS_len _ _ _
        have hy : Y.length = 55 := by rw [hY]; exact acS_len _ _ _
        obtain ⟨T, hT⟩ : ∃ T : World → Prop, T = fun W => W.row? b (q * 55) 55 = some X ∧ W.row? b' (q * 55) 55 = some Y := ⟨_, rfl⟩
        have HT := Lib.hid hT
        have HTB : Hid (∀ W, Below w.heap.size w W → T W) := by
          intro W hW
          rw [hT]
          exact ⟨((brow hW).1 _ _ _ HLT.out).trans r1, ((brow hW).1 _ _ _ HLT'.out).trans r2⟩
        have hql : (q : Int) < (m : Int) := by omega
        have dql : decide ((q : Int) < (m : Int)) = true := decide_eq_true hql
        have dqn : (q < m) = True := eq_true hlt
        have t0 : T wr.drew := HTB.out _ HBW.out.drew
        clear hT r1 r2 i1 i2 HAT hX hY
        go_wp2_with fail
        refine wp_region_tree T [] (.pure 0 (.pure 1 (.pure 2 (.take 3 (.pure 4 (.pure 5 (.pure 6 (.take 7 (.alt 8 (.pure 9 .fin) .stop))))))))) (by kernel_rfl) (by kernel_rfl) ?_
        refine tree_pure ?_ rfl (by rfl) (fun w' hs => ?_) (fun _ _ _ h => h) ?_
        rotate_left
        · clear hs
          go_simp
          try rfl
        simp only [Act.put, tsa, tsb, tsc]
        refine tree_pure ?_ rfl (by rfl) (fun w' hs => ?_) (fun _ _ _ h => h) ?_
        rotate_left
        · clear hs
          go_simp
          try rfl
        simp only [Act.put, tsa, tsb, tsc]
        refine tree_pure ?_ rfl (by rfl) (fun w' hs => ?_) (fun _ _ _ h => h) ?_
        rotate_left
        · clear hs
          go_simp
          try rfl
        simp only [Act.put, tsa, tsb, tsc]
        refine tree_take ?_ t0 rfl (by rfl) (fun w' hs => ?_) (fun _ _ _ h => h) ?_
        rotate_left
        · rw [HT.out] at hs
          obtain ⟨g1, g2⟩ := hs
          go_simp
          try rfl
        simp only [Act.put, tsa, tsb, tsc]
        refine tree_pure ?_ rfl (by rfl) (fun w' hs => ?_) (fun _ _ _ h => h) ?_
        rotate_left
        · clear hs
          go_simp
          try rfl
        simp only [Act.put, tsa, tsb, tsc]
        refine tree_pure ?_ rfl (by rfl) (fun w' hs => ?_) (fun _ _ _ h => h) ?_
        rotate_left
        · clear hs
          go_simp
          try rfl
        simp only [Act.put, tsa, tsb, tsc]
        refine tree_pure ?_ rfl (by rfl) (fun w' hs => ?_) (fun _ _ _ h => h) ?_
        rotate_left
        · clear hs
          go_simp
          try rfl
        simp only [Act.put, tsa, tsb, tsc]
        refine tree_take ?_ t0 rfl (by rfl) (fun w' hs => ?_) (fun _ _ _ h => h) ?_
        rotate_left
        · rw [HT.out] at hs
          obtain ⟨g1, g2⟩ := hs
          go_simp
          try rfl
        simp only [Act.put, tsa, tsb, tsc]
        refine tree_run rfl (fun K hK => ?_)
        go_simp
        refine (HC.out _ HBW.out.drew).mono ?_
        rintro e w9 ⟨rfl, hb9⟩
        have HB9 : Hid (Below w.heap.size w w9) := HBW.out.drew.trans (hb9.mono HBW.out.drew.size)
        have t9 : T w9 := HTB.out _ HB9.out
        clear hb9
        refine hK.out _ _ t9 ?_
        clear hK K
        refine tree_pure ?_ rfl (by rfl) (fun w' hs => ?_) (fun _ _ _ h => h) ?_
        rotate_left
        · clear hs
          go_simp
          try rfl
        simp only [Act.put, tsa, tsb, tsc]
        refine tree_fin ?_
        go_wp2_with fail
        have hk1 : IntKind.i64.wrap ((q : Int) + 1) = ((q + 1 : Nat) : Int) := by rw [wrI _ (by omega) (by omega)]; omega
        go_roundw
        case rel => exact ⟨q + 1, by omega, by go_num, HB9.out⟩
        case measure => simp [intOf]; omega
      · obtain rfl : q = m := by omega
        go_wp2_with fail
        go_ret
        exact ⟨rfl, HBW.out⟩
end Go.Proofs.YtiglinnjnobodaaGreat
