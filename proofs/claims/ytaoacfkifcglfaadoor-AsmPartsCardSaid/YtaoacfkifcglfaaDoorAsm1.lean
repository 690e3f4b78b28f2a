/-
  Plain words on asm's lines, and the contract of asm.line.
  The contract of asm.Print.
  The contract of the reference's Print.
-/
import Derived.Test.YtaoacfkifcglfaaDoorLawB
import Derived.Test.YtaoacfkifcglfaaDoorWS
import Derived.WalkSmall
namespace Go.Mun
open Go.RowKit
/-- A part of a slice of numbers. -/
theorem Ints.sliced {w : World} {k : IntKind} {a : Option Addr} {c : Nat} {l : List Int} (h : Ints w k a c l) (lo hi : Nat) (h1 : lo ≤ hi) (h2 : hi ≤ l.length) :
    Ints w k (if c = lo then a else a.map (·.add (lo * 1))) (c - lo) ((l.drop lo).take (hi - lo)) := by
  have hlc := h.len
  have hcm := h.cap
  refine ⟨fun hn => ?_, fun hn => ?_, by simp; omega, by omega⟩
  · have hlt : lo < hi := by
      rcases Nat.lt_or_ge lo hi with h | h
      · exact h
      · rw [Nat.sub_eq_zero_of_le h] at hn; simp at hn
    obtain ⟨b, off, rfl, _, hc⟩ := h.at (i := lo) (by omega)
    rw [if_neg (by omega)]
    refine ⟨b, off + lo * 1, by rw [Option.map_some, add_off rfl], fun i hi2 => ?_⟩
    have hi3 : i < hi - lo ∧ lo + i < l.length := by simp at hi2; omega
    have := hc (lo + i) hi3.2
    rw [show off + lo * 1 + i = off + (lo + i) by omega, this, List.getElem?_take_of_lt hi3.1, List.getElem?_drop]
  · split at hn
    · omega
    · cases a with
      | none => have := h.nil rfl; omega
      | some x => simp at hn
theorem run_slice_ints {P : Program} {t e : TypeId} (hu : P.underlying t = some (.slice e)) (hz : ∀ wx, (sizeOf (P.elem t)).run P wx = .ok 1 wx) {w : World} {k : IntKind} {a : Option Addr} {n c : Nat} {l : List Int} (h : Ints w k a c l)
    (x y : Int) (lo hi : Nat) (hx : x = lo) (hy : y = hi) (h1 : lo ≤ hi) (h2 : hi ≤ l.length) :
    ∃ a', Ints w k a' (c - lo) ((l.drop lo).take (hi - lo)) ∧ ∀ wx, (Instr.slice t (.slice a n c) (some (.int .i64 x)) (some (.int .i64 y)) none).run P wx = .ok (.slice a' (hi - lo) (c - lo)) wx := by
  subst hx hy
  refine ⟨_, h.sliced lo hi h1 h2, fun wx => ?_⟩
  have hlc := h.len
  have he : P.elem t = e := by simp [Program.elem, hu]
  rw [run_slice_lh (ht := by rw [he]; exact hu) (h0 := by omega) (h1 := by omega) (h2 := by omega), hz]
  simp [Result.andThen, sliced]
theorem run_slice_ints0 {P : Program} {t e : TypeId} (hu : P.underlying t = some (.slice e)) (hz : ∀ wx, (sizeOf (P.elem t)).run P wx = .ok 1 wx) {w : World} {k : IntKind} {a : Option Addr} {n c : Nat} {l : List Int} (h : Ints w k a c l)
    (y : Int) (hi : Nat) (hy : y = hi) (h2 : hi ≤ l.length) :
    ∃ a', Ints w k a' c (l.take hi) ∧ ∀ wx, (Instr.slice t (.slice a n c) none (some (.int .i64 y)) none).run P wx = .ok (.slice a' hi c) wx := by
  subst hy
  have h' := h.sliced 0 hi (Nat.zero_le _) h2
  refine ⟨_, by simpa using h', fun wx => ?_⟩
  have hlc := h.len
  have he : P.elem t = e := by simp [Program.elem, hu]
  rw [run_slice_h (ht := by rw [he]; exact hu) (h0 := by omega) (h2 := by omega), hz]
  simp [Result.andThen, sliced]
theorem run_slice_intsN {P : Program} {t e : TypeId} (hu : P.underlying t = some (.slice e)) (hz : ∀ wx, (sizeOf (P.elem t)).run P wx = .ok 1 wx) {w : World} {k : IntKind} {a : Option Addr} {n c : Nat} {l : List Int} (h : Ints w k a c l) (hn : n = l.length)
    (x : Int) (lo : Nat) (hx : x = lo) (h2 : lo ≤ l.length) :
    ∃ a', Ints w k a' (c - lo) (l.drop lo) ∧ ∀ wx, (Instr.slice t (.slice a n c) (some (.int .i64 x)) none none).run P wx = .ok (.slice a' (n - lo) (c - lo)) wx := by
  subst hx hn
  have h' := h.sliced lo l.length h2 (Nat.le_refl _)
  rw [List.take_of_length_le (by simp)] at h'
  refine ⟨_, h', fun wx => ?_⟩
  have he : P.elem t = e := by simp [Program.elem, hu]
  rw [run_slice_l (ht := by rw [he]; exact hu) (h0 := by omega) (h1 := by omega), hz]
  simp [Result.andThen, sliced]
end Go.Mun
namespace Go.Proofs.YtaoacfkifcglfaaDoor
open Go.RowKit Go.Mun

/-- The text of some bytes. -/
def textU (l : List Int) : List UInt8 := (textL l).map fun n => UInt8.ofNat n.toNat
theorem strOf_textL (l : List Int) : strOf (textL l) = str (textU l) := rfl
theorem textU_len (l : List Int) : (textU l).length = 2 + 2 * l.length := by simp [textU, textL, digT_len]; omega
def hdL (l : List Int) : Int := l[0]?.getD 0
def rawL (l : List Int) : Bool := (nameL (hdL l).toNat).isEmpty || decide ((l.length : Int) ≤ ownOf (hdL l))
def lnT (l : List Int) : List UInt8 :=
  if rawL l = true then [66, 89, 84, 69, 32] ++ textU (l.take 1)
  else nameL (hdL l).toNat ++ if 0 < ownOf (hdL l) then [32] ++ textU ((l.drop 1).take (ownOf (hdL l)).toNat) else []
def lnN (l : List Int) : Nat := if rawL l = true then 1 else 1 + (ownOf (hdL l)).toNat

theorem size33 (wx : World) : (sizeOf (Tryd.prog.elem 33)).run Tryd.prog wx = .ok 1 wx := by kernel_rfl
theorem ret_si {a b : ByteArray} {c d : Int} (h1 : a = b) (h2 : c = d) : Ending.returned (.tuple #[.string a, .int .i64 c]) = .returned (.tuple #[.string b, .int .i64 d]) := by rw [h1, h2]
theorem Tab.drew {w : World} (h : Tab w) : Tab w.drew := h.below (Below.refl _ _).drew
theorem own_range (x : Int) : 0 ≤ ownOf x ∧ ownOf x ≤ 32 := by unfold ownOf; split <;> omega
theorem name_short : ∀ m : Fin 256, (nameL m.1).length ≤ 20 := by decide +kernel

set_option maxRecDepth 100000 in
set_option maxHeartbeats 1000000 in
theorem asm_line (a : Option Addr) (n cap : Nat) (l : List Int) (hn : n = l.length) (hp : 0 < l.length) (w : World) (hi : Ints w .u8 a cap l) (hb : ∀ x ∈ l, 0 ≤ x ∧ x ≤ 255) (hlen : l.length ≤ 1099511627776) (hT : Tab w) :
    Calls Tryd.prog 52 #[.slice a n cap] w fun e w' => e = .returned (.tuple #[.string (str (lnT l)), .int .i64 (lnN l : Nat)]) ∧ Below w.heap.size w w' := by
  obtain ⟨b, off, ha, hbl, hcell⟩ := hi.at hp
  have hc0 := hcell 0 hp
  have hd : l[0]?.getD 0 = hdL l := rfl
  rw [hd, Nat.add_zero] at hc0
  have hx : 0 ≤ hdL l ∧ hdL l ≤ 255 := by
    unfold hdL; rw [List.getElem?_eq_getElem hp]; exact hb _ (List.getElem_mem _)
  obtain ⟨m, hm⟩ := Int.eq_ofNat_of_zero_le hx.1
  have hm2 : m < 256 := by omega
  have hmn : (hdL l).toNat = m := by omega
  obtain ⟨o0, o1⟩ := own_range (hdL l)
  have HN : Hid (∀ w', Tab w' → Calls Tryd.prog 27 #[.int .u8 (hdL l)] w' fun e w2 => e = .returned (.string (str (nameL m))) ∧ Below w'.heap.size w' w2) := Lib.hid fun w' h => by rw [hm]; exact ops_name m hm2 w' h
  have HO : Hid (∀ w', Calls Tryd.prog 63 #[.int .u8 (hdL l)] w' fun e w2 => e = .returned (.int .i64 (ownOf (hdL l))) ∧ w' = w2) := Lib.hid fun w' => ops_own _ hx.1 hx.2 w'
  have HT := Lib.hid hT
  have HI := Lib.hid hi
  have HPl := Lib.hid (Nat.le_refl w.heap.size)
  have ns := name_short ⟨m, hm2⟩
  simp only at ns
  have hqs : (str (nameL m)).size ≤ 20 := by rw [str_size]; exact ns
  have hqe : (str (nameL m)).toList.isEmpty = (nameL m).isEmpty := by rw [str_toList]
  have HR : Hid (rawL l = ((nameL m).isEmpty || decide ((n : Int) ≤ ownOf (hdL l)))) := Lib.hid (by unfold rawL; rw [hmn, hn])
  have HLT : Hid (lnT l = if rawL l = true then [66, 89, 84, 69, 32] ++ textU (l.take 1)
      else nameL m ++ if 0 < ownOf (hdL l) then [32] ++ textU ((l.drop 1).take (ownOf (hdL l)).toNat) else []) := Lib.hid (by unfold lnT; rw [hmn])
  have HLN : Hid (lnN l = if rawL l = true then 1 else 1 + (ownOf (hdL l)).toNat) := Lib.hid rfl
  obtain ⟨r, hr⟩ : ∃ r, r = rawL l := ⟨_, rfl⟩
  obtain ⟨q, hq⟩ : ∃ q, q = str (nameL m) := ⟨_, rfl⟩
  have HQ := Lib.hid hq
  rw [← hq] at HN hqs hqe
  rw [← hr] at HR HLT HLN
  obtain ⟨em, he⟩ : ∃ em, em = (nameL m).isEmpty := ⟨_, rfl⟩
  rw [← he] at HR hqe
  obtain ⟨x, hxd⟩ : ∃ x, x = hdL l := ⟨_, rfl⟩
  rw [← hxd] at HN HO HR HLT HLN hc0 o0 o1
  obtain ⟨o, ho⟩ : ∃ o, o = ownOf x := ⟨_, rfl⟩
  rw [← ho] at HO HR HLT HLN o0 o1
  have HL := Lib.hid hlen
  have HBB := Lib.hid hb
  have hn1 : 0 < n := by omega
  have hn2 : n ≤ 1099511627776 := by omega
  have HNL := Lib.hid hn
  have hu33 := Tryd.underlying33
  clear hT hcell hmn hm hx ns hd hq hr he hxd ho hlen hb hn hp hm2
  cases hrr : r with
  | true =>
    have HRW := Lib.hid (show (em || decide ((n : Int) ≤ o)) = true by rw [← HR.out, hrr])
    obtain ⟨a1, I1, hs1⟩ := run_slice_ints0 (P := Tryd.prog) Tryd.underlying33 size33 (n := n) hi 1 1 rfl (by have := HNL.out; omega)
    have I1' := Lib.hid I1
    clear I1 hi
    have HX : Hid (∀ wx, Below w.heap.size w wx → Calls Tryd.prog 23 #[.slice a1 1 cap] wx fun e w' => e = .returned (.string (str (textU (l.take 1)))) ∧ Below wx.heap.size wx w') := Lib.hid fun wx hw =>
      hex_text' a1 1 cap (l.take 1) (by have := HNL.out; simp; omega) wx (I1'.out.below hw) (fun x hx => HBB.out x (List.mem_of_mem_take hx)) (by have := HL.out; simp; omega)
    have ht1 : (str (textU (l.take 1))).size ≤ 4 := by rw [str_size, textU_len]; simp; omega
    obtain ⟨t1, hT1⟩ : ∃ t1, t1 = str (textU (l.take 1)) := ⟨_, rfl⟩
    rw [← hT1] at HX ht1
    have HT1 := Lib.hid hT1
    clear hT1
    subst ha
    go_enter Tryd.func52, Tryd.ntmps52
    go_wp2
    go_region_held3 (fun w' => w'.cell? ⟨b, off, none⟩ = some (.int .u8 x) ∧ Tab w') (first | exact ⟨hc0, HT.out⟩ | exact ⟨((bcell hb6).1 _ _ hbl).trans hc0, HT.out.below hb6⟩ | exact ⟨((bcell hb6).1 _ _ hbl).trans hc0, HT.out.drew.below hb6⟩)
      (first | (go_at_call 63; refine (HO.out _).mono ?_; rintro e w6 ⟨rfl, rfl⟩) | (go_at_call 27; refine (HN.out _ (by first | exact HT.out | exact HT.out.drew)).mono ?_; rintro e w6 ⟨rfl, hb6⟩))
    all_goals
      have B1 : Hid (Below w.heap.size w w6) := Lib.hid (by first | exact hb6 | exact (Below.refl _ _).drew.trans hb6)
      have hraw := HRW.out
      have q5 : (⟨#[66, 89, 84, 69, 32]⟩ : ByteArray).size = 5 := rfl
      clear hb6 hc0 HRW HO HN
      cases em with
      | true =>
        go_wp2_with fail
        refine (HX.out _ B1.out).mono ?_
        rintro e w7 ⟨rfl, hb7⟩
        have B2 := Lib.hid (below_next HPl.out B1.out hb7)
        clear hb7
        go_wp2
        go_ret2
        exact ⟨by rw [HLT.out, HLN.out, hrr, if_pos rfl, if_pos rfl, ← str_append, HT1.out]; rfl, B2.out⟩
      | false =>
        have hno : (n : Int) ≤ o := by simpa using hraw
        go_wp2_with fail
        refine (HX.out _ B1.out).mono ?_
        rintro e w7 ⟨rfl, hb7⟩
        have B2 := Lib.hid (below_next HPl.out B1.out hb7)
        clear hb7
        go_wp2
        go_ret2
        exact ⟨by rw [HLT.out, HLN.out, hrr, if_pos rfl, if_pos rfl, ← str_append, HT1.out]; rfl, B2.out⟩
  | false =>
    have HRW := Lib.hid (show em = false ∧ o < (n : Int) by have := HR.out; rw [hrr] at this; simpa using this.symm)
    by_cases hop : 0 < o
    · obtain ⟨k, hk⟩ := Int.eq_ofNat_of_zero_le o0
      have how : IntKind.i64.wrap (1 + o) = 1 + (k : Int) := by rw [IntKind.wrap_i64]; omega
      have I0 := hi.sliced 1 (1 + k) (by omega) (by have := HNL.out; have := HRW.out; omega)
      have hcap : 1 + (k : Int) ≤ (cap : Int) := by have := hi.len; have := HNL.out; have := HRW.out; omega
      rw [if_neg (by omega), ha, Option.map_some, add_off rfl, show 1 + k - 1 = k by omega] at I0
      have k0 : 0 < k := by omega
      have I1' := Lib.hid I0
      clear I0 hi
      have HX : Hid (∀ wx, Below w.heap.size w wx → Calls Tryd.prog 23 #[.slice (some ⟨b, off + 1, none⟩) k (cap - 1)] wx fun e w' => e = .returned (.string (str (textU ((l.drop 1).take k)))) ∧ Below wx.heap.size wx w') := Lib.hid fun wx hw =>
        hex_text' _ k (cap - 1) ((l.drop 1).take k) (by have := HNL.out; have := HRW.out; simp; omega) wx (I1'.out.below hw) (fun x hx => HBB.out x (List.mem_of_mem_drop (List.mem_of_mem_take hx))) (by have := HL.out; simp; omega)
      have ht1 : (str (textU ((l.drop 1).take k))).size ≤ 66 := by rw [str_size, textU_len]; simp; omega
      obtain ⟨t1, hT1⟩ : ∃ t1, t1 = str (textU ((l.drop 1).take k)) := ⟨_, rfl⟩
      rw [← hT1] at HX ht1
      have HT1 := Lib.hid hT1
      have HK := Lib.hid hk
      clear hT1 hk
      subst ha
      go_enter Tryd.func52, Tryd.ntmps52
      go_wp2
      go_region_held3 (fun w' => w'.cell? ⟨b, off, none⟩ = some (.int .u8 x) ∧ Tab w') (first | exact ⟨hc0, HT.out⟩ | exact ⟨((bcell hb6).1 _ _ hbl).trans hc0, HT.out.below hb6⟩ | exact ⟨((bcell hb6).1 _ _ hbl).trans hc0, HT.out.drew.below hb6⟩)
        (first | (go_at_call 63; refine (HO.out _).mono ?_; rintro e w6 ⟨rfl, rfl⟩) | (go_at_call 27; refine (HN.out _ (by first | exact HT.out | exact HT.out.drew)).mono ?_; rintro e w6 ⟨rfl, hb6⟩))
      all_goals
        have B1 : Hid (Below w.heap.size w w6) := Lib.hid (by first | exact hb6 | exact (Below.refl _ _).drew.trans hb6)
        obtain ⟨hem, hno⟩ := HRW.out
        have q1 : (⟨#[32]⟩ : ByteArray).size = 1 := rfl
        clear hb6 hc0 HRW HO HN
        subst hem
        go_wp2_with fail
        refine (HX.out _ B1.out).mono ?_
        rintro e w7 ⟨rfl, hb7⟩
        have B2 := Lib.hid (below_next HPl.out B1.out hb7)
        clear hb7
        go_wp2
        go_ret2
        exact ⟨ret_si (by rw [HLT.out, if_neg (by rw [hrr]; decide), if_pos hop, ← str_append, ← str_append, HT1.out, HQ.out, HK.out, ByteArray.append_assoc]; rfl) (by rw [HLN.out, if_neg (by rw [hrr]; decide), HK.out]; omega), B2.out⟩
    · have ho3 : o = 0 := by omega
      subst ho3
      subst ha
      go_enter Tryd.func52, Tryd.ntmps52
      go_wp2
      go_region_held3 (fun w' => w'.cell? ⟨b, off, none⟩ = some (.int .u8 x) ∧ Tab w') (first | exact ⟨hc0, HT.out⟩ | exact ⟨((bcell hb6).1 _ _ hbl).trans hc0, HT.out.below hb6⟩ | exact ⟨((bcell hb6).1 _ _ hbl).trans hc0, HT.out.drew.below hb6⟩)
        (first | (go_at_call 63; refine (HO.out _).mono ?_; rintro e w6 ⟨rfl, rfl⟩) | (go_at_call 27; refine (HN.out _ (by first | exact HT.out | exact HT.out.drew)).mono ?_; rintro e w6 ⟨rfl, hb6⟩))
      all_goals
        have B1 : Hid (Below w.heap.size w w6) := Lib.hid (by first | exact hb6 | exact (Below.refl _ _).drew.trans hb6)
        obtain ⟨hem, hno⟩ := HRW.out
        clear hb6 hc0 HRW HO HN
        subst hem
        go_wp2
        go_ret2
        exact ⟨ret_si (by rw [HLT.out, if_neg (by rw [hrr]; decide), if_neg (by omega), List.append_nil, HQ.out]) (by rw [HLN.out, if_neg (by rw [hrr]; decide)]; rfl), B1.out⟩
end Go.Proofs.YtaoacfkifcglfaaDoor
namespace Go.Mun
open Go.RowKit
theorem builder_below {T e : TypeId} {B b : Nat} {bs : List Value} {w w' : World} (h : Lib.IsBuilder T e B b bs w) (hb : Below w.heap.size w w') : Lib.IsBuilder T e B b bs w' := by
  have key : ∀ p, Lib.BuilderAt T e B b p bs w → Lib.BuilderAt T e B b p bs w' := by
    rintro p ⟨hB, v, hh, ho, hn⟩
    have hlt : b < w.heap.size := Lib.BuilderAt.lt ⟨hB, v, hh, ho, hn⟩
    exact ⟨hB, v, by rw [hb.block b hlt]; exact hh, ownsRow_below ho hb, hn⟩
  rcases h with h | h
  · exact .inl (key _ h)
  · exact .inr (key _ h)
end Go.Mun
namespace Go.Proofs.YtaoacfkifcglfaaDoor
open Go.RowKit Go.Mun

theorem nameT_len : nameT.length = 256 := by decide +kernel
theorem lnN_pos (l : List Int) : 0 < lnN l := by unfold lnN; split <;> omega
theorem lnN_le (l : List Int) (h : 0 < l.length) : lnN l ≤ l.length := by
  unfold lnN
  split
  · omega
  · rename_i hr
    have : ¬ ((l.length : Int) ≤ ownOf (hdL l)) := by
      intro h
      apply hr
      unfold rawL
      simp [h]
    omega
theorem lnT_len (l : List Int) : (lnT l).length ≤ 100 := by
  have h0 := own_range (hdL l)
  unfold lnT
  split
  · simp [textU_len]; omega
  · have hn : (nameL (hdL l).toNat).length ≤ 20 := by
      rcases Nat.lt_or_ge (hdL l).toNat 256 with h | h
      · exact name_short ⟨_, h⟩
      · unfold nameL; rw [List.getElem?_eq_none (by rw [nameT_len]; exact h)]; simp
    split
    · simp [textU_len]; omega
    · simp; omega
def asmP (l : List Int) : List UInt8 := if _h : l = [] then [] else lnT l ++ 10 :: asmP (l.drop (lnN l))
termination_by l.length
decreasing_by
  have := lnN_pos l
  have : 0 < l.length := List.length_pos_iff.2 _h
  simp; omega

set_option maxRecDepth 100000 in
set_option maxHeartbeats 1000000 in
theorem asm_print (a : Option Addr) (n cap : Nat) (l : List Int) (hn : n = l.length) (w : World) (hi : Ints w .u8 a cap l) (hb : ∀ x ∈ l, 0 ≤ x ∧ x ≤ 255) (hlen : l.length ≤ 1099511627776) (hT : Tab w) :
    Calls Tryd.prog 35 #[.slice a n cap] w fun e w' => e = .returned (.string (str (asmP l))) ∧ Below w.heap.size w w' := by
  have HI := Lib.hid hi
  have HT := Lib.hid hT
  have HB := Lib.hid hb
  have HL := Lib.hid hlen
  have HN := Lib.hid hn
  have HPl := Lib.hid (Nat.le_refl w.heap.size)
  have hn2 : n ≤ 1099511627776 := by omega
  have hncap : n ≤ cap := by have := hi.len; omega
  clear hT hb hlen hn hi
  go_enter Tryd.func35, Tryd.ntmps35
  go_wp2
  have F := Lib.hid (Lib.fresh_isBuilder 86 5 w)
  have B0 := Lib.hid (show Below w.heap.size w (w.alloc (.cells #[.pointer none, .slice none 0 0] 86)) from (Below.refl _ _).alloc (Nat.le_refl _) _)
  obtain ⟨p, hp⟩ : ∃ p, p = w.heap.size := ⟨_, rfl⟩
  have HP1 := Lib.hid hp
  obtain ⟨W, hW⟩ : ∃ W, W = w.alloc (.cells #[.pointer none, .slice none 0 0] 86) := ⟨_, rfl⟩
  rw [← hW] at F B0 ⊢
  rw [← hp] at F B0 HPl ⊢
  clear hW hp
  go_loopw [0] (fun s wr => ∃ (k : Nat) (a' : Option Addr), k ≤ n ∧ s = .slice a' (n - k) (cap - k) ∧ Hid (Ints w .u8 a' (cap - k) (l.drop k)) ∧ ∃ pre : List UInt8, Hid (pre.length ≤ 101 * k ∧ pre ++ asmP (l.drop k) = asmP l ∧ Lib.IsBuilder 86 5 p p (Lib.byteCells pre) wr) ∧ Hid (Below p w wr)) (fun s _ => match s with | .slice _ n _ => n | _ => 0)
  case atStart => exact ⟨0, a, by omega, rfl, HI, [], Lib.hid ⟨by simp, rfl, F.out⟩, B0⟩
  case round =>
    obtain ⟨k, a', hk, rfl, HIk, pre, HF, HBw⟩ := hrel
    by_cases hlt : k < n
    · have hpos : 0 < (l.drop k).length := by have := HN.out; simp; omega
      have hlk : n - k = (l.drop k).length := by have := HN.out; simp; omega
      have hN1 := lnN_pos (l.drop k)
      have hN2 := lnN_le _ hpos
      obtain ⟨a2, I2, hs2⟩ := run_slice_intsN (P := Tryd.prog) Tryd.underlying33 size33 (n := n - k) HIk.out hlk (lnN (l.drop k) : Nat) (lnN (l.drop k)) rfl hN2
      have hT2 := lnT_len (l.drop k)
      have HLn : Hid (∀ wx, Below p w wx → Calls Tryd.prog 52 #[.slice a' (n - k) (cap - k)] wx fun e w' => e = .returned (.tuple #[.string (str (lnT (l.drop k))), .int .i64 (lnN (l.drop k) : Nat)]) ∧ Below wx.heap.size wx w') := Lib.hid fun wx hw =>
        asm_line a' (n - k) (cap - k) (l.drop k) hlk hpos wx (HIk.out.below (by rw [← HP1.out]; exact hw)) (fun x hx => HB.out x (List.mem_of_mem_drop hx)) (by have := HL.out; simp; omega) (HT.out.below (by rw [← HP1.out]; exact hw))
      have HX : Hid (asmP (l.drop k) = lnT (l.drop k) ++ 10 :: asmP (l.drop (k + lnN (l.drop k)))) := Lib.hid (by
        rw [asmP, dif_neg (by intro h; rw [h] at hpos; simp at hpos), List.drop_drop])
      rw [List.drop_drop] at I2
      have I2' := Lib.hid I2
      clear I2
      have hts : (str (lnT (l.drop k))).size ≤ 100 := by rw [str_size]; exact hT2
      obtain ⟨t, ht⟩ : ∃ t, t = lnT (l.drop k) := ⟨_, rfl⟩
      obtain ⟨N, hN⟩ : ∃ N, N = lnN (l.drop k) := ⟨_, rfl⟩
      rw [← ht] at HLn HX hts
      rw [← hN] at HLn HX I2' hs2 hN1 hN2
      have hN3 : N ≤ n - k := by omega
      clear hpos hlk hN2 hT2 ht hN
      obtain ⟨q, hq⟩ : ∃ q, q = str t := ⟨_, rfl⟩
      have HQ := Lib.hid hq
      rw [← hq] at HLn hts
      clear hq
      go_wp2_with fail
      refine (HLn.out _ HBw.out).mono ?_
      rintro e w2 ⟨rfl, hb⟩
      have F2 := Lib.hid (builder_below HF.out.2.2 hb)
      have B2 := Lib.hid (below_next (Nat.le_of_eq HP1.out) HBw.out hb)
      clear hb
      go_wp2_with fail
      refine (Tryd.Builder_WriteString p p (Lib.byteCells pre) _ _ F2.out (by have := HF.out.1; have q1 : (⟨#[10]⟩ : ByteArray).size = 1 := rfl; simp only [Lib.byteCells, List.length_map, ByteArray.size_append]; omega) (by have := B2.out.size; have := HP1.out; omega)).mono ?_
      rintro e w3 ⟨rfl, h3, hb⟩
      have F3 := Lib.hid h3
      have B3 := Lib.hid (B2.out.trans hb)
      clear h3 hb
      go_wp2
      go_roundw
      case rel =>
        refine ⟨k + N, a2, by omega, by rw [Nat.sub_sub, Nat.sub_sub], by rw [← Nat.sub_sub]; exact I2', pre ++ (t ++ [10]), Lib.hid ⟨?_, ?_, .inr ?_⟩, B3⟩
        · have h1 := HF.out.1
          have h2 := HQ.out ▸ hts
          rw [str_size] at h2
          simp; omega
        · rw [← HF.out.2.1, HX.out]; simp
        · have := F3.out
          rw [HQ.out] at this
          have e : Lib.byteCells (pre ++ (t ++ [10])) = Lib.byteCells pre ++ Lib.strCells (str t ++ ⟨#[10]⟩) := by
            rw [show (⟨#[10]⟩ : ByteArray) = str [10] from rfl, str_append]
            simp [Lib.byteCells, Lib.strCells, str]
          rw [e]; exact this
      case measure => show n - k - N < n - k; omega
    · have hge : n - k = 0 := by omega
      have hkk : k = n := by omega
      rw [hge]
      have HE : Hid (pre = asmP l ∧ Lib.IsBuilder 86 5 p p (Lib.byteCells pre) wr) := Lib.hid ⟨by
        rw [← HF.out.2.1, hkk, HN.out, List.drop_length, asmP, dif_pos rfl, List.append_nil], HF.out.2.2⟩
      clear hge hkk hlt
      go_wp2_with fail
      refine (Tryd.Builder_String_any p p pre _ HE.out.2 (by have := HBw.out.size; have := HP1.out; omega)).mono ?_
      rintro e w3 ⟨rfl, hb⟩
      have B3 := Lib.hid (HBw.out.trans hb)
      clear hb
      go_wp2
      go_ret
      exact ⟨by rw [← HE.out.1]; rfl, by rw [← HP1.out]; exact B3.out⟩
end Go.Proofs.YtaoacfkifcglfaaDoor
namespace Go.Proofs.YtaoacfkifcglfaaDoor
open Go.RowKit Go.Mun
attribute [local irreducible] Inf.c infZC infsC infs0

theorem asmP_step (l : List Int) (k : Nat) (h : k < l.length) : asmP (l.drop k) = lnT (l.drop k) ++ 10 :: asmP (l.drop (k + lnN (l.drop k))) := by
  rw [asmP, dif_neg (by intro h0; have := congrArg List.length h0; simp at this; omega), List.drop_drop]
theorem hdL_drop (l : List Int) (k : Nat) : hdL (l.drop k) = l[k]?.getD 0 := by simp [hdL]

set_option maxRecDepth 100000 in
set_option maxHeartbeats 2000000 in
theorem ref_print (a : Option Addr) (n cap : Nat) (l : List Int) (hn : n = l.length) (w : World) (hi : Ints w .u8 a cap l) (hb : ∀ x ∈ l, 0 ≤ x ∧ x ≤ 255) (hlen : l.length ≤ 1099511627776) :
    Calls Tryd.prog 37 #[.slice a n cap] w fun e w' => e = .returned (.string (str (asmP l))) ∧ Below w.heap.size w w' := by
  have HI := Lib.hid hi
  have HB := Lib.hid hb
  have HL := Lib.hid hlen
  have HN := Lib.hid hn
  have hn2 : n ≤ 1099511627776 := by omega
  have hncap : n ≤ cap := by have := hi.len; omega
  have HPl := Lib.hid (Nat.le_refl w.heap.size)
  have ok := infT_ok1280
  have h0 := infs0_len
  clear hb hlen hn hi
  go_enter Tryd.func37, Tryd.ntmps37
  go_wp2_with fail
  refine (ref_all _).mono ?_
  rintro e w1 ⟨rfl, hb⟩
  have B1 := Lib.hid hb
  clear hb
  go_wp2
  obtain ⟨W, hW⟩ : ∃ W, W = (w1.alloc (.cells infs0.toArray 82)).setCells w1.heap.size 0 (infsC infT) := ⟨_, rfl⟩
  rw [← hW]
  obtain ⟨b2, d2, r2⟩ := laid_rowG hW h0 (Nat.le_refl _) B1.out ok
  have B2 := Lib.hid b2
  have R2 := Lib.hid r2
  clear hW b2 d2 r2 h0 ok
  generalize w1.heap.size = p1 at *
  go_loopw [3, 5] (fun s i wr => ∃ (k : Nat) (pre : List UInt8), k ≤ n ∧ i = .int .i64 (k : Int) ∧ s = .string (str pre) ∧ Hid (pre.length ≤ 101 * k) ∧ Hid (pre ++ asmP (l.drop k) = asmP l) ∧ Hid (wr.row? p1 0 1280 = some (infsC infT)) ∧ Hid (Below w.heap.size w wr)) (fun _ i _ => n - (intOf i).toNat)
  case atStart => exact ⟨0, [], by omega, rfl, rfl, Lib.hid (by simp), Lib.hid rfl, R2, B2⟩
  case round =>
    obtain ⟨k, pre, hk, rfl, rfl, HPL, HPE, HR, HBw⟩ := hrel
    have hps : (str pre).size ≤ 101 * k := by rw [str_size]; exact HPL.out
    obtain ⟨s, hs⟩ : ∃ s, s = str pre := ⟨_, rfl⟩
    have HS := Lib.hid hs
    rw [← hs] at hps ⊢
    clear hs
    by_cases hlt : k < n
    · have hkl : k < l.length := by have := HN.out; omega
      obtain ⟨b, off, ha, hbl, hcell⟩ := HI.out.at hkl
      have hx : 0 ≤ l[k]?.getD 0 ∧ l[k]?.getD 0 ≤ 255 := by
        rw [List.getElem?_eq_getElem hkl]; exact HB.out _ (List.getElem_mem _)
      have hc0 : wr.cell? ⟨b, off + k, none⟩ = some (.int .u8 (l[k]?.getD 0)) := by rw [(bcell HBw.out).1 _ _ hbl]; exact hcell k hkl
      have hhd := hdL_drop l k
      have HST := Lib.hid (asmP_step l k hkl)
      rw [← hhd] at hx hc0
      obtain ⟨m, hm⟩ := Int.eq_ofNat_of_zero_le hx.1
      have hm2 : m < 256 := by omega
      have hmn : (hdL (l.drop k)).toNat = m := by omega
      obtain ⟨o0, o1⟩ := own_range (hdL (l.drop k))
      have HO : Hid (∀ w', Calls Tryd.prog 56 #[.int .u8 (m : Int)] w' fun e w2 => e = .returned (.int .i64 (ownOf (hdL (l.drop k)))) ∧ w' = w2) := Lib.hid fun w' => by rw [← hm]; exact ref_own _ hx.1 hx.2 w'
      have hrow := inf_row HR.out m hm2
      have e1 := (infAt_ok m hm2).1
      have hok := Inf.ok (infAt m)
      have hqs : (str (nameL m)).size ≤ 20 := by rw [str_size]; exact name_short ⟨m, hm2⟩
      have hqe : (str (nameL m)).toList.isEmpty = (nameL m).isEmpty := by rw [str_toList]
      have hld : (l.drop k).length = n - k := by have := HN.out; simp; omega
      have HRW : Hid (rawL (l.drop k) = ((nameL m).isEmpty || decide (((n - k : Nat) : Int) ≤ ownOf (hdL (l.drop k))))) := Lib.hid (by unfold rawL; rw [hmn, hld])
      have HLT : Hid (lnT (l.drop k) = if rawL (l.drop k) = true then [66, 89, 84, 69, 32] ++ textU ((l.drop k).take 1)
        else nameL m ++ if 0 < ownOf (hdL (l.drop k)) then [32] ++ textU (((l.drop k).drop 1).take (ownOf (hdL (l.drop k))).toNat) else []) := Lib.hid (by unfold lnT; rw [hmn])
      have HLN : Hid (lnN (l.drop k) = if rawL (l.drop k) = true then 1 else 1 + (ownOf (hdL (l.drop k))).toNat) := Lib.hid rfl
      rw [hm] at hc0
      obtain ⟨x, hxi⟩ : ∃ x, x = infAt m := ⟨_, rfl⟩
      rw [← hxi] at hrow e1 hok
      have E1 := Lib.hid e1
      obtain ⟨q, hq⟩ : ∃ q, q = str (nameL m) := ⟨_, rfl⟩
      rw [← hq] at hqs hqe
      have HQ := Lib.hid hq
      obtain ⟨em, he⟩ : ∃ em, em = (nameL m).isEmpty := ⟨_, rfl⟩
      rw [← he] at HRW hqe
      obtain ⟨o, ho⟩ : ∃ o, o = ownOf (hdL (l.drop k)) := ⟨_, rfl⟩
      rw [← ho] at HO HRW HLT HLN o0 o1
      have HXI := Lib.hid hxi
      have z5 := okL_len infZC_ok
      have i0 : (0 : Int) ≤ (m : Int) := by omega
      have i1 : (m : Int) < 256 := by omega
      obtain ⟨W, hW⟩ : ∃ W, W = (wr.alloc (.cells infZC.toArray 79)).setCells wr.heap.size 0 x.c := ⟨_, rfl⟩
      obtain ⟨b3, d3, r3⟩ := laid_rowG hW z5 (Nat.le_refl _) HBw.out hok
      have hc1 : W.cell? ⟨b, off + k, none⟩ = some (.int .u8 (m : Int)) := by rw [(bcell d3).1 _ _ (World.block_lt_of_cell? wr _ hc0)]; exact hc0
      have hcn : W.cell? ⟨wr.heap.size, 1, none⟩ = some (.string q) := by
        have := inf_cell1 r3
        rw [Nat.zero_add, e1, ← hq] at this; exact this
      have BW := Lib.hid b3
      have RW := Lib.hid (rangeAt_below d3 HR.out)
      rw [hW] at hc1 hcn
      clear hxi e1 hq he ho hm hm2 hmn hx hcell hhd hld hkl b3 d3 r3
      have ha' := ha
      subst ha
      have HNK : Hid (((n - k : Nat) : Int) = n - k) := Lib.hid (by omega)
      have hsz : s.size ≤ 111050674405376 := by omega
      cases hrr : rawL (l.drop k) with
      | true =>
        have HRW2 := Lib.hid (show (em || decide (((n - k : Nat) : Int) ≤ o)) = true by rw [← HRW.out, hrr])
        obtain ⟨a1, I1, hs1⟩ := run_slice_ints (P := Tryd.prog) Tryd.underlying33 size33 (n := n) HI.out (k : Int) ((k : Int) + 1) k (k + 1) rfl rfl (by omega) (by have := HN.out; omega)
        rw [show k + 1 - k = 1 by omega] at I1 hs1
        have I1' := Lib.hid I1
        have HX : Hid (∀ wx, Below w.heap.size w wx → Calls Tryd.prog 24 #[.slice a1 1 (cap - k)] wx fun e w' => e = .returned (.string (str (textU ((l.drop k).take 1)))) ∧ Below wx.heap.size wx w') := Lib.hid fun wx hw =>
          ref_text' a1 1 (cap - k) ((l.drop k).take 1) (by have := HN.out; simp; omega) wx (I1'.out.below hw) (fun x hx => HB.out x (List.mem_of_mem_drop (List.mem_of_mem_take hx))) (by simp; omega)
        have ht1 : (str (textU ((l.drop k).take 1))).size ≤ 4 := by rw [str_size, textU_len]; simp; omega
        obtain ⟨t1, hT1⟩ : ∃ t1, t1 = str (textU ((l.drop k).take 1)) := ⟨_, rfl⟩
        rw [← hT1] at HX ht1
        have HT1 := Lib.hid hT1
        clear hT1 I1
        go_wp2_with fail
        refine (HO.out _).mono ?_
        rintro e w3 ⟨rfl, rfl⟩
        rw [← hW] at hc1 hcn ⊢
        clear hW hc0
        have q5 : (⟨#[66, 89, 84, 69, 32]⟩ : ByteArray).size = 5 := rfl
        have q1 : (⟨#[10]⟩ : ByteArray).size = 1 := rfl
        have HF : Hid (str (pre ++ lnT (l.drop k) ++ [10]) = s ++ ⟨#[66, 89, 84, 69, 32]⟩ ++ t1 ++ ⟨#[10]⟩ ∧ lnN (l.drop k) = 1) := Lib.hid ⟨by
          rw [HLT.out, hrr, if_pos rfl, HS.out, HT1.out, ← str_append, ← str_append, ← str_append]
          simp only [ByteArray.append_assoc]; rfl, by rw [HLN.out, hrr, if_pos rfl]⟩
        have HLL := Lib.hid (lnT_len (l.drop k))
        cases em with
        | true =>
          go_wp2_with fail
          refine (HX.out _ BW.out).mono ?_
          rintro e w7 ⟨rfl, hb7⟩
          have B7 := Lib.hid (below_next HPl.out BW.out hb7)
          have R7 := Lib.hid (rangeAt_below hb7 RW.out)
          clear hb7
          go_wp2
          go_roundw
          case rel =>
            refine ⟨k + 1, pre ++ lnT (l.drop k) ++ [10], by omega, by go_num, by rw [HF.out.1], Lib.hid ?_, Lib.hid ?_, R7, B7⟩
            · have := HPL.out; have := HLL.out; simp; omega
            · rw [← HPE.out, HST.out, HF.out.2]; simp
          case measure => simp [intOf]; omega
        | false =>
          have hno : (n : Int) - k ≤ o := by have := HRW2.out; rw [HNK.out] at this; simpa using this
          go_wp2_with fail
          refine (HX.out _ BW.out).mono ?_
          rintro e w7 ⟨rfl, hb7⟩
          have B7 := Lib.hid (below_next HPl.out BW.out hb7)
          have R7 := Lib.hid (rangeAt_below hb7 RW.out)
          clear hb7
          go_wp2
          go_roundw
          case rel =>
            refine ⟨k + 1, pre ++ lnT (l.drop k) ++ [10], by omega, by go_num, by rw [HF.out.1], Lib.hid ?_, Lib.hid ?_, R7, B7⟩
            · have := HPL.out; have := HLL.out; simp; omega
            · rw [← HPE.out, HST.out, HF.out.2]; simp
          case measure => simp [intOf]; omega
      | false =>
        have HRW2 := Lib.hid (show em = false ∧ o < (n : Int) - k by have := HRW.out; rw [hrr, HNK.out] at this; simpa using this.symm)
        have hem := HRW2.out.1
        have hno := HRW2.out.2
        subst hem
        have HLL := Lib.hid (lnT_len (l.drop k))
        have q1 : (⟨#[10]⟩ : ByteArray).size = 1 := rfl
        have q2 : (⟨#[32]⟩ : ByteArray).size = 1 := rfl
        by_cases hop : 0 < o
        · obtain ⟨j, hj⟩ := Int.eq_ofNat_of_zero_le o0
          obtain ⟨a1, I1, hs1⟩ := run_slice_ints (P := Tryd.prog) Tryd.underlying33 size33 (n := n) HI.out ((k : Int) + 1) ((k : Int) + 1 + (j : Int)) (k + 1) (k + 1 + j) (by omega) (by omega) (by omega) (by have := HN.out; omega)
          rw [show k + 1 + j - (k + 1) = j by omega] at I1 hs1
          have I1' := Lib.hid I1
          have HX : Hid (∀ wx, Below w.heap.size w wx → Calls Tryd.prog 24 #[.slice a1 j (cap - (k + 1))] wx fun e w' => e = .returned (.string (str (textU ((l.drop (k + 1)).take j)))) ∧ Below wx.heap.size wx w') := Lib.hid fun wx hw =>
            ref_text' a1 j (cap - (k + 1)) ((l.drop (k + 1)).take j) (by have := HN.out; simp; omega) wx (I1'.out.below hw) (fun x hx => HB.out x (List.mem_of_mem_drop (List.mem_of_mem_take hx))) (by simp; omega)
          have ht1 : (str (textU ((l.drop (k + 1)).take j))).size ≤ 66 := by rw [str_size, textU_len]; simp; omega
          obtain ⟨t1, hT1⟩ : ∃ t1, t1 = str (textU ((l.drop (k + 1)).take j)) := ⟨_, rfl⟩
          rw [← hT1] at HX ht1
          have HT1 := Lib.hid hT1
          clear hT1 I1
          rw [hj] at HO HLT HLN hno hop o1
          have HJ := Lib.hid hj
          clear hj o0 HRW HRW2
          go_wp2_with fail
          refine (HO.out _).mono ?_
          rintro e w3 ⟨rfl, rfl⟩
          rw [← hW] at hc1 hcn ⊢
          clear hW hc0
          have HF : Hid (str (pre ++ lnT (l.drop k) ++ [10]) = s ++ q ++ ⟨#[32]⟩ ++ t1 ++ ⟨#[10]⟩ ∧ lnN (l.drop k) = 1 + j) := Lib.hid ⟨by
            rw [HLT.out, if_neg (by rw [hrr]; decide), if_pos hop, HS.out, HQ.out, HT1.out, ← str_append, ← str_append, ← str_append, ← str_append, List.drop_drop, Int.toNat_natCast]
            simp only [ByteArray.append_assoc]; rfl, by rw [HLN.out, if_neg (by rw [hrr]; decide), Int.toNat_natCast]⟩
          go_wp2_with fail
          refine (HX.out _ BW.out).mono ?_
          rintro e w7 ⟨rfl, hb7⟩
          have B7 := Lib.hid (below_next HPl.out BW.out hb7)
          have R7 := Lib.hid (rangeAt_below hb7 RW.out)
          clear hb7
          go_wp2
          go_roundw
          case rel =>
            refine ⟨k + 1 + j, pre ++ lnT (l.drop k) ++ [10], by omega, by go_num, by rw [HF.out.1], Lib.hid ?_, Lib.hid ?_, R7, B7⟩
            · have := HPL.out; have := HLL.out; simp; omega
            · rw [← HPE.out, HST.out, HF.out.2, Nat.add_assoc]; simp
          case measure => simp [intOf]; omega
        · have ho3 : o = 0 := by omega
          subst ho3
          have HF : Hid (str (pre ++ lnT (l.drop k) ++ [10]) = s ++ q ++ ⟨#[10]⟩ ∧ lnN (l.drop k) = 1) := Lib.hid ⟨by
            rw [HLT.out, if_neg (by rw [hrr]; decide), if_neg (by omega), List.append_nil, HS.out, HQ.out, ← str_append, ← str_append]; rfl, by rw [HLN.out, if_neg (by rw [hrr]; decide)]; rfl⟩
          clear HRW HRW2 HLT HLN o0 o1 hop
          go_wp2_with fail
          refine (HO.out _).mono ?_
          rintro e w3 ⟨rfl, rfl⟩
          rw [← hW] at hc1 hcn ⊢
          clear hW hc0
          go_wp2
          go_roundw
          case rel =>
            refine ⟨k + 1, pre ++ lnT (l.drop k) ++ [10], by omega, by go_num, by rw [HF.out.1], Lib.hid ?_, Lib.hid ?_, RW, BW⟩
            · have := HPL.out; have := HLL.out; simp; omega
            · rw [← HPE.out, HST.out, HF.out.2]; simp
          case measure => simp [intOf]; omega
    · have hkk : k = n := by omega
      have HE : Hid (s = str (asmP l)) := Lib.hid (by
        rw [HS.out, ← HPE.out, hkk, HN.out, List.drop_length, asmP, dif_pos rfl, List.append_nil])
      subst hkk
      go_wp2
      go_ret
      exact ⟨by rw [← HE.out]; rfl, HBw.out⟩
end Go.Proofs.YtaoacfkifcglfaaDoor
