/-
  Plain laws: what is printed is read as it was; texts put together; lines that are none.
  The walks of AsmPrints and AsmReads.
  AsmPrints and AsmReads, as the rows hand their inputs over.
-/
import Derived.Test.YtaoacfkifcglfaaDoorAsm3
import Derived.ProofKit
import Derived.Handed
import Derived.Test.YtaoacfkifcglfaaDoorRows
namespace Go.Proofs.YtaoacfkifcglfaaDoor
open Go.RowKit Go.Mun

theorem lnS_cons {ln t : List UInt8} (h : ∀ x ∈ ln, x ≠ 10) : lnS (ln ++ 10 :: t) = ln := by
  unfold lnS
  induction ln with
  | nil => simp
  | cons x ln ih =>
    rw [List.cons_append, List.takeWhile_cons, if_pos (by simpa using h x (by simp)), ih (fun y hy => h y (by simp [hy]))]
theorem rd_cons {ln t : List UInt8} {no : Nat} {out : List Int} (h : ∀ x ∈ ln, x ≠ 10) :
    rd (ln ++ 10 :: t) no out = match lineCode ln with
      | none => (2, no, [])
      | some L => rd t (no + 1) (out ++ L) := by
  have hl := lnS_cons (t := t) h
  rw [rd, dif_pos (by rw [hl]; simp), hl]
  have : (ln ++ 10 :: t).drop (ln.length + 1) = t := by simp
  rw [this]
  rfl
theorem rd_nil (no : Nat) (out : List Int) : rd [] no out = (0, 0, out) := by
  rw [rd]; simp
theorem textU_range (l : List Int) (h : ∀ x ∈ l, 0 ≤ x ∧ x ≤ 255) : ∀ y ∈ textU l, y ≠ 10 ∧ y ≠ 32 := by
  intro y hy
  unfold textU textL at hy
  rw [List.mem_map] at hy
  obtain ⟨n, hn, rfl⟩ := hy
  rw [List.mem_append] at hn
  have hr : 48 ≤ n ∧ n ≤ 120 := by
    rcases hn with hn | hn
    · simp at hn; omega
    · have := digT_range l h n hn; omega
  obtain ⟨k, rfl⟩ := Int.eq_ofNat_of_zero_le (show 0 ≤ n by omega)
  constructor
  · intro h
    have := congrArg UInt8.toNat h
    rw [Int.toNat_natCast, UInt8.toNat_ofNat_of_lt' (by show _ < 256; omega)] at this
    have h10 : (10 : UInt8).toNat = 10 := rfl
    omega
  · intro h
    have := congrArg UInt8.toNat h
    rw [Int.toNat_natCast, UInt8.toNat_ofNat_of_lt' (by show _ < 256; omega)] at this
    have h10 : (32 : UInt8).toNat = 32 := rfl
    omega
theorem name_plain : ∀ m : Fin 256, (nameL m.1).all (fun x => x != 10 && x != 32) = true := by decide +kernel
theorem name_byte : ∀ m : Fin 256, 0 < ownOf (m.1 : Int) → nameL m.1 ≠ byteN := by decide +kernel
theorem nmS_none {s : List UInt8} (h : ∀ x ∈ s, x ≠ 32) : nmS s = s := by
  unfold nmS
  induction s with
  | nil => rfl
  | cons x s ih => rw [List.takeWhile_cons, if_pos (by simpa using h x (by simp)), ih (fun y hy => h y (by simp [hy]))]
theorem nmS_sp {s t : List UInt8} (h : ∀ x ∈ s, x ≠ 32) : nmS (s ++ 32 :: t) = s := by
  unfold nmS
  induction s with
  | nil => simp
  | cons x s ih =>
    rw [List.cons_append, List.takeWhile_cons, if_pos (by simpa using h x (by simp)), ih (fun y hy => h y (by simp [hy]))]
theorem line_sp {s t : List UInt8} (h : ∀ x ∈ s, x ≠ 32) : moreS (s ++ 32 :: t) = true ∧ restS (s ++ 32 :: t) = t := by
  unfold moreS restS
  rw [nmS_sp h]
  simp
theorem lineCode_byte (t : List UInt8) (L : List Int) (h : hexRead t = some L) (hl : L.length = 1) : lineCode (byteN ++ 32 :: t) = some L := by
  have hb : ∀ x ∈ byteN, x ≠ 32 := by decide
  obtain ⟨h1, h2⟩ := line_sp (t := t) hb
  have h3 := nmS_sp (t := t) hb
  have ho : ownL (byteN ++ 32 :: t) = L := by unfold ownL; rw [h1, if_pos rfl, h2]; unfold rdL; rw [h]; rfl
  unfold lineCode
  rw [h1, h2, h3, ho, if_neg (by unfold rdO; rw [h]; simp), if_pos ⟨rfl, rfl⟩, if_pos hl]
theorem lineCode_own (m : Nat) (hm : m < 256) (t : List UInt8) (L : List Int) (h : hexRead t = some L) (hn : nameL m ≠ []) (ho : 0 < ownOf (m : Int)) (hl : (L.length : Int) = ownOf (m : Int)) :
    lineCode (nameL m ++ 32 :: t) = some ((m : Int) :: L) := by
  have hb : ∀ x ∈ nameL m, x ≠ 32 := fun x hx => by
    have := List.all_eq_true.1 (name_plain ⟨m, hm⟩) x hx
    simp at this; exact this.2
  obtain ⟨h1, h2⟩ := line_sp (t := t) hb
  have h3 := nmS_sp (t := t) hb
  have hoL : ownL (nameL m ++ 32 :: t) = L := by unfold ownL; rw [h1, if_pos rfl, h2]; unfold rdL; rw [h]; rfl
  unfold lineCode
  rw [h1, h2, h3, hoL, if_neg (by unfold rdO; rw [h]; simp), if_neg (fun hh => name_byte ⟨m, hm⟩ ho hh.1), opOf_name m hm, if_neg hn]
  unfold opLine
  simp only
  rw [if_pos ⟨by simpa using ho, hl⟩]
theorem lineCode_name (m : Nat) (hm : m < 256) (hn : nameL m ≠ []) (ho : ownOf (m : Int) = 0) : lineCode (nameL m) = some [(m : Int)] := by
  have hb : ∀ x ∈ nameL m, x ≠ 32 := fun x hx => by
    have := List.all_eq_true.1 (name_plain ⟨m, hm⟩) x hx
    simp at this; exact this.2
  have h3 := nmS_none hb
  have h1 : moreS (nameL m) = false := by unfold moreS; rw [h3]; simp
  have hoL : ownL (nameL m) = [] := by unfold ownL; rw [h1]; rfl
  unfold lineCode
  rw [h1, h3, hoL, if_neg (by simp), if_neg (by simp), opOf_name m hm, if_neg hn]
  unfold opLine
  simp only
  rw [if_pos ⟨by rw [ho]; rfl, by rw [ho]; rfl⟩]

def Byt (l : List Int) : Prop := ∀ x ∈ l, 0 ≤ x ∧ x ≤ 255
theorem Byt.drop {l : List Int} (h : Byt l) (k : Nat) : Byt (l.drop k) := fun x hx => h x (List.mem_of_mem_drop hx)
theorem Byt.take {l : List Int} (h : Byt l) (k : Nat) : Byt (l.take k) := fun x hx => h x (List.mem_of_mem_take hx)
/-- A line, as its parts. -/
theorem line_code {l : List Int} (hl : l ≠ []) (hb : Byt l) : (∀ x ∈ lnT l, x ≠ 10) ∧ lineCode (lnT l) = some (l.take (lnN l)) := by
  obtain ⟨c, r, rfl⟩ : ∃ c r, l = c :: r := by
    cases l with
    | nil => exact absurd rfl hl
    | cons c r => exact ⟨c, r, rfl⟩
  have hc := hb c (by simp)
  obtain ⟨m, rfl⟩ := Int.eq_ofNat_of_zero_le hc.1
  have hm : m < 256 := by omega
  have hd : hdL ((m : Int) :: r) = m := rfl
  have hn10 : ∀ x ∈ nameL m, x ≠ 10 := fun x hx => by
    have := List.all_eq_true.1 (name_plain ⟨m, hm⟩) x hx
    simp at this; exact this.1
  obtain ⟨o0, o1⟩ := own_range (m : Int)
  unfold lnT lnN
  rw [hd, Int.toNat_natCast]
  by_cases hr : rawL ((m : Int) :: r) = true
  · rw [if_pos hr, if_pos hr]
    have ht := textU_range [(m : Int)] (fun x hx => by simp at hx; omega)
    refine ⟨fun x hx => ?_, ?_⟩
    · rw [List.mem_append] at hx
      rcases hx with hx | hx
      · revert x; decide
      · exact (ht x hx).1
    · have := lineCode_byte (textU [(m : Int)]) [(m : Int)] (hexRead_text _ (fun x hx => by simp at hx; omega)) rfl
      exact this
  · rw [if_neg hr, if_neg hr]
    have hr2 : nameL m ≠ [] ∧ ownOf (m : Int) < (((m : Int) :: r).length : Nat) := by
      unfold rawL at hr
      rw [hd, Int.toNat_natCast] at hr
      simp at hr
      refine ⟨hr.1, ?_⟩
      have := hr.2
      simp
      omega
    by_cases ho : 0 < ownOf (m : Int)
    · rw [if_pos ho]
      have hbt : Byt ((((m : Int) :: r).drop 1).take (ownOf (m : Int)).toNat) := (hb.drop 1).take _
      have ht := textU_range _ hbt
      refine ⟨fun x hx => ?_, ?_⟩
      · rw [List.mem_append] at hx
        rcases hx with hx | hx
        · exact hn10 x hx
        · simp only [List.cons_append, List.nil_append, List.mem_cons] at hx
          rcases hx with rfl | hx
          · decide
          · exact (ht x hx).1
      · have h2 := hr2.2
        have := lineCode_own m hm (textU ((((m : Int) :: r).drop 1).take (ownOf (m : Int)).toNat)) _ (hexRead_text _ hbt) hr2.1 ho (by simp at h2 ⊢; omega)
        rw [show 1 + (ownOf (m : Int)).toNat = (ownOf (m : Int)).toNat + 1 by omega, List.take_succ_cons]
        exact this
    · have hoz : ownOf (m : Int) = 0 := by omega
      rw [if_neg ho, List.append_nil, hoz]
      exact ⟨hn10, lineCode_name m hm hr2.1 hoz⟩
/-- What is printed is read as it was. -/
theorem rd_asmP : ∀ (k : Nat) (l : List Int), l.length ≤ k → Byt l → ∀ (no : Nat) (out : List Int) (t : List UInt8), ∃ no', rd (asmP l ++ t) no out = rd t no' (out ++ l)
  | k, l, hk, hb, no, out, t => by
    by_cases hl : l = []
    · subst hl
      exact ⟨no, by rw [asmP, dif_pos rfl]; simp⟩
    · have hp : 0 < l.length := List.length_pos_iff.2 hl
      obtain ⟨h10, hc⟩ := line_code hl hb
      have h1 := lnN_pos l
      match k with
      | 0 => omega
      | k + 1 =>
        obtain ⟨no', h⟩ := rd_asmP k (l.drop (lnN l)) (by simp; omega) (hb.drop _) (no + 1) (out ++ l.take (lnN l)) t
        refine ⟨no', ?_⟩
        rw [asmP, dif_neg hl, List.append_assoc, List.cons_append, rd_cons h10, hc]
        simp only
        rw [h, List.append_assoc, List.take_append_drop]
theorem asmP_len : ∀ (k : Nat) (l : List Int), l.length ≤ k → (asmP l).length ≤ 101 * l.length
  | k, l, hk => by
    by_cases hl : l = []
    · subst hl; rw [asmP, dif_pos rfl]; simp
    · have hp : 0 < l.length := List.length_pos_iff.2 hl
      have h1 := lnN_pos l
      have h2 := lnN_le l hp
      have h3 := lnT_len l
      match k with
      | 0 => omega
      | k + 1 =>
        have h := asmP_len k (l.drop (lnN l)) (by simp; omega)
        rw [asmP, dif_neg hl]
        simp at h ⊢
        omega
theorem readA_asmP (l : List Int) (hb : Byt l) (hl : l.length ≤ 2000) : readA (asmP l) = (0, 0, l) := by
  have h := asmP_len l.length l (Nat.le_refl _)
  unfold readA
  rw [if_neg (by omega)]
  obtain ⟨no', hr⟩ := rd_asmP l.length l (Nat.le_refl _) hb 1 [] []
  rw [List.append_nil] at hr
  rw [hr, rd_nil, List.nil_append]

/-- A code that ends with an instruction. -/
inductive Ends : List Int → Prop
  | nil : Ends []
  | cons (l : List Int) (hl : l ≠ []) (ho : ownOf (hdL l) < (l.length : Int)) (h : Ends (l.drop (lnN l))) : Ends l
theorem line_app {l : List Int} (b : List Int) (hl : l ≠ []) (ho : ownOf (hdL l) < (l.length : Int)) : lnT (l ++ b) = lnT l ∧ lnN (l ++ b) = lnN l := by
  obtain ⟨c, r, rfl⟩ : ∃ c r, l = c :: r := by
    cases l with
    | nil => exact absurd rfl hl
    | cons c r => exact ⟨c, r, rfl⟩
  have hd : hdL (c :: r ++ b) = hdL (c :: r) := rfl
  have hr : rawL (c :: r ++ b) = rawL (c :: r) := by
    unfold rawL
    rw [hd]
    congr 1
    rw [Bool.eq_iff_iff]
    simp at ho ⊢
    omega
  have h0 := own_range (hdL (c :: r))
  unfold lnT lnN
  rw [hr, hd]
  refine ⟨?_, rfl⟩
  split
  · rfl
  · split
    · congr 3
      rw [List.cons_append, List.drop_succ_cons, List.drop_succ_cons, List.drop_zero, List.drop_zero, List.take_append_of_le_length (by simp at ho; omega)]
    · rfl
theorem asmP_app {l : List Int} (h : Ends l) (b : List Int) : asmP (l ++ b) = asmP l ++ asmP b := by
  induction h with
  | nil => conv => rhs; rw [asmP, dif_pos rfl]
           rfl
  | cons l hl ho h ih =>
    obtain ⟨h1, h2⟩ := line_app b hl ho
    have h3 := lnN_le l (List.length_pos_iff.2 hl)
    rw [asmP, dif_neg (by simp [hl]), h1, h2, List.drop_append_of_le_length h3, ih]
    conv => rhs; rw [asmP, dif_neg hl]
    simp
theorem ends_stops : ∀ k : Nat, Ends (List.replicate k 0)
  | 0 => .nil
  | k + 1 => by
    have hd : hdL (List.replicate (k + 1) 0) = 0 := by simp [hdL]
    have hN : lnN (List.replicate (k + 1) 0) = 1 := by
      unfold lnN
      rw [hd]
      split <;> rfl
    refine .cons _ (by simp) ?_ ?_
    · rw [hd]; simp [ownOf]
    · rw [hN]; simpa using ends_stops k
theorem ends_app : ∀ (k : Nat) (a : List Int), a.length ≤ k → Ends (a ++ List.replicate 33 0)
  | k, a, hk => by
    by_cases ha : a = []
    · subst ha; exact ends_stops 33
    · have hp : 0 < a.length := List.length_pos_iff.2 ha
      have h1 := lnN_pos (a ++ List.replicate 33 0)
      have h0 := own_range (hdL (a ++ List.replicate 33 0))
      have hN : lnN (a ++ List.replicate 33 0) ≤ 33 := by unfold lnN; split <;> omega
      refine .cons _ (by simp [ha]) (by rw [List.length_append, List.length_replicate]; omega) ?_
      rcases Nat.lt_or_ge (lnN (a ++ List.replicate 33 0)) a.length with h | h
      · match k with
        | 0 => omega
        | k + 1 =>
          rw [List.drop_append_of_le_length (by omega)]
          exact ends_app k _ (by rw [List.length_drop]; omega)
      · rw [List.drop_append, List.drop_eq_nil_of_le h, List.nil_append, List.drop_replicate]
        exact ends_stops _
theorem readA_parts (a b : List Int) (ha : Byt a) (hb : Byt b) (hla : a.length ≤ 500) (hlb : b.length ≤ 500) :
    asmP (a ++ List.replicate 33 0 ++ b) = asmP (a ++ List.replicate 33 0) ++ asmP b ∧ readA (asmP (a ++ List.replicate 33 0) ++ asmP b) = (0, 0, a ++ List.replicate 33 0 ++ b) := by
  have h := asmP_app (ends_app a.length a (Nat.le_refl _)) b
  refine ⟨h, ?_⟩
  rw [← h]
  refine readA_asmP _ (fun x hx => ?_) (by simp; omega)
  simp only [List.mem_append, List.mem_replicate] at hx
  rcases hx with (hx | hx) | hx
  · exact ha x hx
  · omega
  · exact hb x hx
end Go.Proofs.YtaoacfkifcglfaaDoor
namespace Go
/-- The wrap for a row with listed variables, which hands on the world's shape too. -/
theorem handed_shaped {H : Type} {enc : TypeId × Value → H} {a : Assume} {C : Checked} {os : Os} {f : FuncId} {fn : Func} {s : ChangeSpec} {conds : List PathCond} {apart fresh handsOn again : Bool} {X : World → Array Value → Prop}
    (hX : ∀ (w w' : World) (args : Array Value), w.heap = w'.heap → X w args → X w' args)
    (own : ownKnob C.prog.godebug = none) (started : os.Started) (noInit : C.prog.inits.idxOf? f = none) (hfn : C.prog.funcs[f]? = some fn)
    (witness : ∃ (w : World) (tape : Tape) (i : Input), w.os = os ∧ (w.forCall tape i).Shaped C.prog ∧ i.vars = [] ∧ Input.okWide C.prog (w.forCall tape i) .any w.heap.size f i ∧
      ((s.pre enc C.prog fn conds apart (w.forCall tape i).memory i.args ∧ X (w.forCall tape i).memory i.args) ∧ sizedMet enc C.prog fn (OpenSpec.ofChange s) apart (w.forCall tape i).memory i.args) ∧ a.holds C.prog (lone (Frame.enter C.prog f i.args .normal) [] (w.forCall tape i)))
    (contract : ∀ (W : World) (base : Nat) (args : Array Value) (ds gs : List (DataW H)) (before : List MemPlace),
      (∀ (j : Nat) t v, fn.params[j]? = some t → args[j]? = some v → Value.okWide C.prog W .any base t v) →
      DataW.Whole enc C.prog fn.params.toList s.vars apart W args.toList ds gs before →
      X W args → W.ShapedOpen C.prog →
      Calls C.prog f args W fun e W' => ∃ v, e = .returned v ∧ s.post enc C.prog fn apart fresh handsOn again W args v W') :
    ReturnsInHanded a C os f .any (fun w args => (s.pre enc C.prog fn conds apart w args ∧ X w args) ∧ sizedMet enc C.prog fn (OpenSpec.ofChange s) apart w args) (s.post enc C.prog fn apart fresh handsOn again) := by
  refine returnsInHanded_of_calls own started noInit witness ?_
  intro w tape i _ hsh _ hok hpre hholds
  obtain ⟨_, _, _, fn', hfn', _, _, _, _, hval⟩ := hok
  have e : fn' = fn := Option.some.inj (hfn'.symm.trans hfn)
  subst e
  obtain ⟨⟨⟨ds, gs, before, hw, hc⟩, hx⟩, hz⟩ := hpre
  refine (contract (w.forCall tape i) w.heap.size i.args ds gs before hval (DataW.Whole.of_heap (w' := w.forCall tape i) (by rfl) hw) (hX _ _ _ (by rfl) hx) hsh).mono fun e W' ⟨v, he, hp⟩ => ?_
  subst he
  exact ChangeSpec.post_blind hp
end Go
namespace Go.Proofs.YtaoacfkifcglfaaDoor
open Go.RowKit Go.Mun

theorem maxL_of_shape {W : World} (h : W.ShapedOpen Tryd.prog) : MaxL W := Tryd.laysM145.s1_3 W h
theorem num12 (x : Int) (w : World) : Calls Tryd.prog 38 #[.int .i64 x] w fun e w' => e = .returned (.int .i64 x) ∧ w = w' := by
  go_enter Tryd.func38, Tryd.ntmps38
  go_wp2
  go_ret
  exact ⟨rfl, rfl⟩
theorem alive_text : str (asmP [96, 5, 0]) = ⟨#[80, 85, 83, 72, 49, 32, 48, 120, 48, 53, 10, 83, 84, 79, 80, 10]⟩ := by
  have h1 : lnT [96, 5, 0] = [80, 85, 83, 72, 49, 32, 48, 120, 48, 53] := by decide +kernel
  have h2 : lnN [96, 5, 0] = 2 := by decide +kernel
  have h3 : lnT [0] = [83, 84, 79, 80] := by decide +kernel
  have h4 : lnN [0] = 1 := by decide +kernel
  have h5 : asmP [0] = [83, 84, 79, 80, 10] := by
    rw [asmP, dif_neg (by simp), h3, h4, show ([0] : List Int).drop 1 = [] from rfl, asmP, dif_pos rfl]; rfl
  rw [asmP, dif_neg (by simp), h1, h2, show ([96, 5, 0] : List Int).drop 2 = [0] from rfl, h5]
  rfl
set_option maxRecDepth 100000 in
set_option maxHeartbeats 1000000 in
theorem alive12 (w : World) (hT : Tab w) : Calls Tryd.prog 34 #[] w fun e w' => e = .returned (.bool true) ∧ Below w.heap.size w w' := by
  have HP : Hid (∀ wx a, Tab wx → Ints wx .u8 a 3 [96, 5, 0] → Calls Tryd.prog 35 #[.slice a 3 3] wx fun e w' => e = .returned (.string ⟨#[80, 85, 83, 72, 49, 32, 48, 120, 48, 53, 10, 83, 84, 79, 80, 10]⟩) ∧ Below wx.heap.size wx w') := Lib.hid fun wx a h1 h2 => by
    have := asm_print a 3 3 [96, 5, 0] rfl wx h2 (by decide) (by decide) h1
    rw [alive_text] at this; exact this
  have HI := Lib.hid (Ints.new w .u8 [96, 5, 0] 5 (by decide))
  have B1 := Lib.hid (show Below w.heap.size w (w.alloc (.cells #[.int .u8 96, .int .u8 5, .int .u8 0] 5)) from (Below.refl _ _).alloc (Nat.le_refl _) _)
  have HT := Lib.hid hT
  clear hT
  go_enter Tryd.func34, Tryd.ntmps34
  go_wp2_with fail
  refine (HP.out _ _ (HT.out.below B1.out) HI.out).mono ?_
  rintro e w2 ⟨rfl, hb⟩
  have B2 := Lib.hid (below_next (Nat.le_refl _) B1.out hb)
  clear hb
  go_wp2
  go_ret
  exact ⟨rfl, B2.out⟩

set_option maxRecDepth 100000 in
set_option maxHeartbeats 1000000 in
theorem asmPrints_walk (a : Option Addr) (n cap : Nat) (l : List Int) (hn : n = l.length) (w : World) (hi : Ints w .u8 a cap l) (hb : Byt l) (hn63 : n ≤ 9223372036854775807) (hT : Tab w) (hM : MaxL w) :
    Calls Tryd.prog 9 #[.slice a n cap] w fun e w' => e = .returned (.bool true) ∧ Below w.heap.size w w' := by
  by_cases hbig : 2000 < n
  · go_enter Tryd.func9, Tryd.ntmps9
    go_wp2_with fail
    refine (alive12 _ hT).mono ?_
    rintro e w1 ⟨rfl, hb1⟩
    go_wp2
    go_ret
    exact ⟨rfl, hb1⟩
  have hl : l.length ≤ 2000 := by omega
  have HA := Lib.hid (alive12 w hT)
  have HT := Lib.hid hT
  have HM := Lib.hid hM
  have HI := Lib.hid hi
  have HN := Lib.hid hn
  have HPl := Lib.hid (Nat.le_refl w.heap.size)
  have hps : (str (asmP l)).size ≤ 202000 := by rw [str_size]; have := asmP_len l.length l (Nat.le_refl _); omega
  have HP : Hid (∀ wx, Below w.heap.size w wx → Calls Tryd.prog 35 #[.slice a n cap] wx fun e w' => e = .returned (.string (str (asmP l))) ∧ Below wx.heap.size wx w') := Lib.hid fun wx h =>
    asm_print a n cap l hn wx (hi.below h) hb (by omega) (hT.below h)
  have HQ : Hid (∀ wx, Below w.heap.size w wx → Calls Tryd.prog 37 #[.slice a n cap] wx fun e w' => e = .returned (.string (str (asmP l))) ∧ Below wx.heap.size wx w') := Lib.hid fun wx h =>
    ref_print a n cap l hn wx (hi.below h) hb (by omega)
  have HR : Hid (∀ wx, Below w.heap.size w wx → Calls Tryd.prog 36 #[.string (str (asmP l))] wx fun e w' => (∃ a n c, e = .returned (.tuple #[.slice a n c, .int .i64 0, .int .i64 0]) ∧ n = l.length ∧ Ints w' .u8 a c l) ∧ Below wx.heap.size wx w') := Lib.hid fun wx h => by
    refine (asm_readAll (str (asmP l)) (by omega) wx (hT.below h) (hM.below h)).mono ?_
    rintro e w' ⟨h1, h2⟩
    rw [str_data, readA_asmP l hb hl] at h1
    exact ⟨h1, h2⟩
  generalize str (asmP l) = q at *
  clear hT hM hi hn hb hl
  go_enter Tryd.func9, Tryd.ntmps9
  go_wp2_with fail
  refine HA.out.mono ?_
  rintro e w1 ⟨rfl, hb⟩
  have B1 := Lib.hid hb
  clear hb
  go_wp2_with fail
  refine (HP.out _ B1.out).mono ?_
  rintro e w2 ⟨rfl, hb⟩
  have B2 := Lib.hid (below_next HPl.out B1.out hb)
  clear hb
  go_wp2_with fail
  refine (HR.out _ B2.out).mono ?_
  rintro e w3 ⟨⟨a2, n2, c2, rfl, hn2, hI2⟩, hb⟩
  have B3 := Lib.hid (below_next HPl.out B2.out hb)
  have HN2 := Lib.hid hn2
  have HI2 := Lib.hid hI2
  clear hb hn2 hI2
  go_wp2_with fail
  refine (HQ.out _ B3.out).mono ?_
  rintro e w4 ⟨rfl, hb⟩
  have B4 := Lib.hid (below_next HPl.out B3.out hb)
  have c1 := run_bytes_string' (P := Tryd.prog) Tryd.underlying33 Tryd.underlying5 Tryd.underlying9 HN2.out (HI2.out.below hb)
  have c2 := run_bytes_string' (P := Tryd.prog) Tryd.underlying33 Tryd.underlying5 Tryd.underlying9 HN.out (HI.out.below B4.out)
  clear hb
  go_wp2_with (go_at_call 38; refine (num12 _ _).mono ?_; rintro e w6 ⟨rfl, rfl⟩)
  go_ret
  exact ⟨rfl, B4.out⟩

set_option maxRecDepth 100000 in
set_option maxHeartbeats 1000000 in
theorem asmReads_walk (s : ByteArray) (hs0 : s.size ≤ 9223372036854775807) (w : World) (hT : Tab w) (hM : MaxL w) :
    Calls Tryd.prog 10 #[.string s] w fun e w' => e = .returned (.bool true) ∧ Below w.heap.size w w' := by
  by_cases hbig : 10000 < s.size
  · go_enter Tryd.func10, Tryd.ntmps10
    go_wp2_with fail
    refine (alive12 _ hT).mono ?_
    rintro e w1 ⟨rfl, hb1⟩
    go_wp2
    go_ret
    exact ⟨rfl, hb1⟩
  have HA := Lib.hid (alive12 w hT)
  have HPl := Lib.hid (Nat.le_refl w.heap.size)
  have HR : Hid (∀ wx, Below w.heap.size w wx → Calls Tryd.prog 36 #[.string s] wx fun e w' => ReadP e w' (readA s.data.toList) ∧ Below wx.heap.size wx w') := Lib.hid fun wx h =>
    asm_readAll s hs0 wx (hT.below h) (hM.below h)
  have HQ : Hid (∀ wx, Calls Tryd.prog 39 #[.string s] wx fun e w' => ReadP e w' (readA s.data.toList) ∧ Below wx.heap.size wx w') := Lib.hid fun wx =>
    ref_readAsm s hs0 wx
  generalize readA s.data.toList = R at *
  obtain ⟨er, no, out⟩ := R
  clear hT hM
  go_enter Tryd.func10, Tryd.ntmps10
  go_wp2_with fail
  refine HA.out.mono ?_
  rintro e w1 ⟨rfl, hb⟩
  have B1 := Lib.hid hb
  clear hb
  go_wp2_with fail
  refine (HR.out _ B1.out).mono ?_
  rintro e w3 ⟨⟨a2, n2, c2, rfl, hn2, hI2⟩, hb⟩
  have B3 := Lib.hid (below_next HPl.out B1.out hb)
  have HN2 := Lib.hid hn2
  have HI2 := Lib.hid hI2
  clear hb hn2 hI2
  go_wp2_with fail
  refine (HQ.out _).mono ?_
  rintro e w4 ⟨⟨a3, n3, c3, rfl, hn3, hI3⟩, hb⟩
  have B4 := Lib.hid (below_next HPl.out B3.out hb)
  have c1 := run_bytes_string' (P := Tryd.prog) Tryd.underlying33 Tryd.underlying5 Tryd.underlying9 HN2.out (HI2.out.below hb)
  have c2 := run_bytes_string' (P := Tryd.prog) Tryd.underlying33 Tryd.underlying5 Tryd.underlying9 hn3 hI3
  clear hb hn3 hI3
  go_wp2_with (go_at_call 38; refine (num12 _ _).mono ?_; rintro e w6 ⟨rfl, rfl⟩)
  go_ret
  exact ⟨rfl, B4.out⟩
end Go.Proofs.YtaoacfkifcglfaaDoor
namespace Go.Proofs.YtaoacfkifcglfaaDoor
open Go.RowKit Go.Mun
theorem byt_of_wf {l : List Int} (h : ∀ i, i < l.length → (Lit.int .u8 (l[i]?.getD 0)).wf = true) : Byt l := by
  intro x hx
  obtain ⟨i, hi, rfl⟩ := List.getElem_of_mem hx
  have := h i hi
  rw [List.getElem?_eq_getElem hi] at this
  exact wf_u8 this
theorem asmPrints_law (a : Option Addr) (n cap : Nat) (l : List Int) (hn : n = l.length) {W : World} (hi : Ints W .u8 a cap l) (hw : ∀ i, i < l.length → (Lit.int .u8 (l[i]?.getD 0)).wf = true) (_W : World) (hL : laidMet Tryd.prog Rows.asmPrintsRow.laid W) (hsh : W.ShapedOpen Tryd.prog) :
    Calls Tryd.prog 9 #[.slice a n cap] W fun e w' => e = .returned (.bool true) ∧ Below W.heap.size W w' :=
  asmPrints_walk a n cap l hn W hi (byt_of_wf hw) (by have h1 := hi.len; have h2 := hi.cap; unfold maxLen at h2; omega) (tab_of_laid hL) (maxL_of_shape hsh)
theorem asmReads_law (s : ByteArray) (hs : s.size ≤ maxLen) (W : World) (hL : laidMet Tryd.prog Rows.asmReadsRow.laid W) (hsh : W.ShapedOpen Tryd.prog) :
    Calls Tryd.prog 10 #[.string s] W fun e w' => e = .returned (.bool true) ∧ Below W.heap.size W w' :=
  asmReads_walk s (by unfold maxLen at hs; exact hs) W (tab_of_laid hL) (maxL_of_shape hsh)
end Go.Proofs.YtaoacfkifcglfaaDoor
