/-
  Plain words on a line that is read, and the contract of asm.read.
  The contract of the reference's line.
-/
import Derived.Test.YtaoacfkifcglfaaDoorAsm1
namespace Go.Proofs.YtaoacfkifcglfaaDoor
open Go.RowKit Go.Mun

def nmS (s : List UInt8) : List UInt8 := s.takeWhile (· != 32)
def moreS (s : List UInt8) : Bool := decide ((nmS s).length < s.length)
def restS (s : List UInt8) : List UInt8 := s.drop ((nmS s).length + 1)
theorem index_sp (s : List UInt8) : Lib.index s [32] = if moreS s = true then ((nmS s).length : Int) else -1 := by
  induction s with
  | nil => rfl
  | cons b l ih =>
    unfold Lib.index
    rw [ih]
    by_cases hb : b = 32
    · subst hb
      simp [moreS, nmS]
    · have h1 : nmS (b :: l) = b :: nmS l := by unfold nmS; rw [List.takeWhile_cons, if_pos (by simpa using hb)]
      have h2 : moreS (b :: l) = moreS l := by unfold moreS; rw [h1]; simp
      rw [h1, h2]
      have h3 : List.isPrefixOf [32] (b :: l) = false := by simp [List.isPrefixOf]; exact fun h => hb h.symm
      rw [h3]
      cases moreS l <;> simp
theorem nmS_all {s : List UInt8} (h : moreS s = false) : nmS s = s := by
  unfold moreS at h
  have hp : nmS s <+: s := List.takeWhile_prefix _
  exact hp.eq_of_length (by have := hp.length_le; simp at h; omega)
theorem cut_sp (s : List UInt8) : Lib.cut s [32] = (nmS s, restS s, moreS s) := by
  unfold Lib.cut
  rw [index_sp]
  cases h : moreS s with
  | false =>
    rw [if_neg (by simp), nmS_all h]
    unfold restS
    rw [nmS_all h, List.drop_eq_nil_of_le (by omega)]
  | true =>
    rw [if_pos rfl, if_pos (by omega), Int.toNat_natCast]
    have hp : nmS s <+: s := List.takeWhile_prefix _
    rw [← List.prefix_iff_eq_take.1 hp]
    rfl
def ownL (s : List UInt8) : List Int := if moreS s = true then rdL (restS s) else []
def byteN : List UInt8 := [66, 89, 84, 69]
def opLine (mo : Bool) (own : List Int) (op : Option Nat) : Option (List Int) := match op with
  | none => none
  | some m => if mo = decide (0 < ownOf (m : Int)) ∧ ((own.length : Nat) : Int) = ownOf (m : Int) then some ((m : Int) :: own) else none
/-- The bytes of a line. -/
def lineCode (s : List UInt8) : Option (List Int) :=
  if moreS s = true ∧ rdO (restS s) = false then none
  else if nmS s = byteN ∧ moreS s = true then (if (ownL s).length = 1 then some (ownL s) else none)
  else opLine (moreS s) (ownL s) (opOf (nmS s))
structure LineR (e : Ending) (w' : World) (o : Option (List Int)) : Prop where
  bad : o = none → ∃ a n c, e = .returned (.tuple #[.slice a n c, .bool false])
  good : ∀ L, o = some L → ∃ a n c, e = .returned (.tuple #[.slice a n c, .bool true]) ∧ n = L.length ∧ Ints w' .u8 a c L
theorem LineR.of_bad {e : Ending} {w' : World} {o : Option (List Int)} {a : Option Addr} {n c : Nat} (ho : o = none) (he : e = .returned (.tuple #[.slice a n c, .bool false])) : LineR e w' o := by
  subst ho; exact ⟨fun _ => ⟨a, n, c, he⟩, fun L h => (by cases h)⟩
theorem LineR.of_good {e : Ending} {w' : World} {o : Option (List Int)} {L : List Int} {a : Option Addr} {n c : Nat} (ho : o = some L) (he : e = .returned (.tuple #[.slice a n c, .bool true])) (hn : n = L.length) (hI : Ints w' .u8 a c L) : LineR e w' o := by
  subst ho; exact ⟨fun h => (by cases h), fun L' h => (by cases h; exact ⟨a, n, c, he, hn, hI⟩)⟩

theorem own_one (w : World) (B : Nat) (x : Int) (hB : B ≤ w.heap.size) : (w.alloc (.cells #[.int .u8 x] 5)).ownsRow B 5 1 (.slice (some ⟨w.heap.size, 0, none⟩) 1 1) 1 ([x].map (Value.int .u8)) :=
  ⟨rfl, .inr ⟨w.heap.size, 1, _, rfl, hB, heap_alloc_new w _, Nat.le_refl _, by unfold maxLen; omega, rfl, rfl⟩⟩
/-- The cell of the library's own package variable that strings.Cut reads. -/
def MaxL (w : World) : Prop := ∃ m, w.cell? ⟨4, 0, none⟩ = some (.int .i64 m)
theorem MaxL.below {w w' : World} (h : MaxL w) (hb : Below w.heap.size w w') : MaxL w' := by
  obtain ⟨m, h⟩ := h
  exact ⟨m, by rw [(bcell hb).1 _ _ (World.block_lt_of_cell? w _ h)]; exact h⟩
theorem below_drewN0 (w : World) (n : Nat) : Below w.heap.size w (w.drewN n) := Go.below_drewN (Below.refl _ _) n
theorem cut_calls (s : ByteArray) (hs : s.size ≤ 262144) (w : World) (hM : MaxL w) : Calls Tryd.prog 70 #[.string s, .string ⟨#[32]⟩] w fun e w' =>
    e = .returned (.tuple #[.string (str (nmS s.data.toList)), .string (str (restS s.data.toList)), .bool (moreS s.data.toList)]) ∧ Below w.heap.size w w' := by
  obtain ⟨m, hm⟩ := hM
  refine (Tryd.strings_Cut s ⟨#[32]⟩ m w (by omega) hm).mono ?_
  rintro e w' ⟨rfl, n, rfl⟩
  rw [show (⟨#[32]⟩ : ByteArray).data.toList = [32] from rfl, cut_sp]
  exact ⟨rfl, below_drewN0 _ _⟩
theorem restS_len (s : List UInt8) : (restS s).length ≤ s.length := by simp [restS]
theorem rdL_len (s : List UInt8) : 2 * (rdL s).length ≤ s.length := by
  unfold rdL
  cases h : hexRead s with
  | none => simp
  | some b => have := (hexRead_len h).1; simp; omega

set_option maxRecDepth 100000 in
set_option maxHeartbeats 2000000 in
theorem asm_read (s : ByteArray) (hs : s.size ≤ 262144) (w : World) (hT : Tab w) (hM : MaxL w) :
    Calls Tryd.prog 55 #[.string s] w fun e w' => LineR e w' (lineCode s.data.toList) ∧ Below w.heap.size w w' := by
  have HT := Lib.hid hT
  have HPl := Lib.hid (Nat.le_refl w.heap.size)
  have HC := Lib.hid (cut_calls s hs w hM)
  have HRD : Hid (∀ wx, Calls Tryd.prog 18 #[.string (str (restS s.data.toList))] wx fun e w' => (∃ a n c, e = .returned (.tuple #[.slice a n c, .int .i64 (errK (rdO (restS s.data.toList)))]) ∧ n = (rdL (restS s.data.toList)).length ∧ Ints w' .u8 a c (rdL (restS s.data.toList))) ∧ Below wx.heap.size wx w') := Lib.hid fun wx => by
    have := hex_read2 (str (restS s.data.toList)) (by rw [str_size]; have := restS_len s.data.toList; simp at this; omega) wx
    rw [str_data] at this; exact this
  have HOP : Hid (∀ wx, Tab wx → Calls Tryd.prog 32 #[.string (str (nmS s.data.toList))] wx fun e w' => e = .returned (opV (opOf (nmS s.data.toList))) ∧ Below wx.heap.size wx w') := Lib.hid fun wx h => by
    have := ops_op (str (nmS s.data.toList)) wx h
    rw [str_data] at this; exact this
  have hrl : 2 * (rdL (restS s.data.toList)).length ≤ 262144 := by
    have h1 := rdL_len (restS s.data.toList)
    have h2 := restS_len s.data.toList
    simp at h2; omega
  have HLC : Hid (lineCode s.data.toList = if moreS s.data.toList = true ∧ rdO (restS s.data.toList) = false then none
    else if nmS s.data.toList = byteN ∧ moreS s.data.toList = true then (if (ownL s.data.toList).length = 1 then some (ownL s.data.toList) else none)
    else opLine (moreS s.data.toList) (ownL s.data.toList) (opOf (nmS s.data.toList))) := Lib.hid rfl
  have HOL : Hid (ownL s.data.toList = if moreS s.data.toList = true then rdL (restS s.data.toList) else []) := Lib.hid rfl
  have hopr : ∀ m, opOf (nmS s.data.toList) = some m → m < 256 := by
    intro m hm
    unfold opOf at hm
    split at hm
    · cases hm
    · exact List.mem_range.1 (List.mem_of_find?_eq_some hm)
  obtain ⟨res, hres⟩ : ∃ res, res = lineCode s.data.toList := ⟨_, rfl⟩
  rw [← hres] at HLC ⊢
  obtain ⟨own, hown⟩ : ∃ own, own = ownL s.data.toList := ⟨_, rfl⟩
  rw [← hown] at HLC HOL
  generalize nmS s.data.toList = nm at *
  generalize restS s.data.toList = rs at *
  generalize moreS s.data.toList = mo at *
  generalize hop : opOf nm = op at *
  generalize rdO rs = ro at *
  generalize rdL rs = rl at *
  have hq : ((str nm).toList == [66, 89, 84, 69]) = decide (nm = byteN) := by rw [str_toList]; unfold byteN; rw [Bool.eq_iff_iff]; simp
  generalize hbt : decide (nm = byteN) = bt at *
  have HBT := Lib.hid hbt
  generalize str nm = q at *
  generalize str rs = qr at *
  clear hbt hres hown hT hM hs hop
  cases mo with
  | true =>
    cases ro with
    | false =>
      have HE : Hid (res = none) := Lib.hid (by rw [HLC.out, if_pos ⟨rfl, rfl⟩])
      clear HLC HOL hopr
      go_enter Tryd.func55, Tryd.ntmps55
      go_wp2_with fail
      refine HC.out.mono ?_
      rintro e w1 ⟨rfl, hb⟩
      have B1 := Lib.hid hb
      clear hb
      go_wp2_with fail
      refine (HRD.out _).mono ?_
      rintro e w2 ⟨⟨a, n, c, rfl, hn, hI⟩, hb⟩
      have B2 := Lib.hid (below_next HPl.out B1.out hb)
      clear hb hn hI
      rw [show errK false = 2 from rfl]
      go_wp2
      go_ret2
      exact ⟨.of_bad HE.out rfl, B2.out⟩
    | true =>
      have HE0 : Hid (own = rl) := Lib.hid (by rw [HOL.out, if_pos rfl])
      cases bt with
      | true =>
        have HE : Hid (res = if own.length = 1 then some own else none) := Lib.hid (by rw [HLC.out, if_neg (by simp), if_pos ⟨by simpa using HBT.out, rfl⟩])
        clear HLC HOL hopr
        go_enter Tryd.func55, Tryd.ntmps55
        go_wp2_with fail
        refine HC.out.mono ?_
        rintro e w1 ⟨rfl, hb⟩
        have B1 := Lib.hid hb
        clear hb
        go_wp2_with fail
        refine (HRD.out _).mono ?_
        rintro e w2 ⟨⟨a, n, c, rfl, hn, hI⟩, hb⟩
        have B2 := Lib.hid (below_next HPl.out B1.out hb)
        have HN2 := Lib.hid hn
        have HI2 := Lib.hid hI
        have hn3 : n ≤ 262144 := by omega
        clear hb hn hI
        rw [show errK true = 0 from rfl]
        by_cases h1 : n = 1
        · have hd : ((n : Int) == 1) = true := by rw [h1]; rfl
          have HL1 := Lib.hid (show own.length = 1 by rw [HE0.out, ← HN2.out, h1])
          go_wp2
          go_ret2
          exact ⟨.of_good (by rw [HE.out, if_pos HL1.out]) rfl HL1.out.symm (by rw [HE0.out]; exact HI2.out), B2.out⟩
        · have hd : ((n : Int) == 1) = false := by simp; omega
          have HL1 := Lib.hid (show ¬ own.length = 1 by rw [HE0.out, ← HN2.out]; exact h1)
          go_wp2
          go_ret2
          exact ⟨.of_bad (by rw [HE.out, if_neg HL1.out]) rfl, B2.out⟩
      | false =>
        have HE : Hid (res = opLine true own op) := Lib.hid (by
            rw [HLC.out, if_neg (by simp), if_neg (by intro h; have := HBT.out; simp [h.1] at this)])
        clear HLC HOL
        cases op with
        | none =>
          have HE2 : Hid (res = none) := Lib.hid (by rw [HE.out]; rfl)
          clear HE hopr
          go_enter Tryd.func55, Tryd.ntmps55
          go_wp2_with fail
          refine HC.out.mono ?_
          rintro e w1 ⟨rfl, hb⟩
          have B1 := Lib.hid hb
          clear hb
          go_wp2_with fail
          refine (HRD.out _).mono ?_
          rintro e w2 ⟨⟨a, n, c, rfl, hn, hI⟩, hb⟩
          have B2 := Lib.hid (below_next HPl.out B1.out hb)
          have HN2 := Lib.hid hn
          have HI2 := Lib.hid hI
          have hn3 : n ≤ 262144 := by omega
          clear hb hn hI
          rw [show errK true = 0 from rfl]
          go_wp2_with fail
          refine (HOP.out _ (HT.out.below B2.out)).mono ?_
          rintro e w3 ⟨rfl, hb⟩
          have B3 := Lib.hid (below_next HPl.out B2.out hb)
          clear hb
          unfold opV
          go_wp2
          go_ret2
          exact ⟨.of_bad HE2.out rfl, B3.out⟩
        | some m =>
          have hm2 : m < 256 := hopr m rfl
          obtain ⟨o0, o1⟩ := own_range (m : Int)
          have HO : Hid (∀ wx, Calls Tryd.prog 63 #[.int .u8 (m : Int)] wx fun e w' => e = .returned (.int .i64 (ownOf (m : Int))) ∧ wx = w') := Lib.hid fun wx => ops_own (m : Int) (by omega) (by omega) wx
          have HE2 : Hid (res = if true = decide (0 < ownOf (m : Int)) ∧ ((own.length : Nat) : Int) = ownOf (m : Int) then some ((m : Int) :: own) else none) := Lib.hid (by rw [HE.out]; rfl)
          clear HE hopr
          generalize ownOf (m : Int) = o at *
          by_cases hop : 0 < o
          · by_cases hno : (rl.length : Int) = o
            · have HE3 : Hid (res = some ((m : Int) :: own)) := Lib.hid (by rw [HE2.out, if_pos ⟨by simpa using hop, by rw [HE0.out]; exact hno⟩])
              have hne : ∀ n : Nat, n = rl.length → ((n : Int) != o) = false := fun n h => by rw [h, hno]; simp
              have HNE := Lib.hid hne
              clear HE2 hne hno
              go_enter Tryd.func55, Tryd.ntmps55
              go_wp2_with fail
              refine HC.out.mono ?_
              rintro e w1 ⟨rfl, hb⟩
              have B1 := Lib.hid hb
              clear hb
              go_wp2_with fail
              refine (HRD.out _).mono ?_
              rintro e w2 ⟨⟨a, n, c, rfl, hn, hI⟩, hb⟩
              have B2 := Lib.hid (below_next HPl.out B1.out hb)
              have HN2 := Lib.hid hn
              have HI2 := Lib.hid hI
              have hn3 : n ≤ 262144 := by omega
              clear hb hn hI
              rw [show errK true = 0 from rfl]
              have hne := HNE.out _ HN2.out
              go_wp2_with fail
              refine (HOP.out _ (HT.out.below B2.out)).mono ?_
              rintro e w3 ⟨rfl, hb⟩
              have B3 := Lib.hid (below_next HPl.out B2.out hb)
              have HI3 := Lib.hid (HI2.out.below hb)
              clear hb
              unfold opV
              go_wp2_with fail
              refine (HO.out _).mono ?_
              rintro e wo0 ⟨rfl, rfl⟩
              go_wp2_with fail
              refine (HO.out _).mono ?_
              rintro e wo1 ⟨rfl, rfl⟩
              have HOwn := Lib.hid (own_one w3 w.heap.size (m : Int) B3.out.size)
              have HI4 := Lib.hid (HI3.out.below ((Below.refl _ _).alloc (Nat.le_refl _) (.cells #[.int .u8 (m : Int)] 5)))
              go_wp2_with (at_builtin; go_must (refine wpList_append_intsN (base := w.heap.size) (n := 1) (xs := [(m : Int)].map (Value.int .u8)) elem33 rfl _ _ rfl HOwn.out rfl rfl HN2.out HI4.out ?c3a ?c4a ?c5a ?_))
              case c3a => unfold maxLen; omega
              case c4a => omega
              case c5a => have := B3.out.size; simp; omega
              intro v' w4 ho hg
              have B4 := Lib.hid (show Below w.heap.size w w4 from (B3.out.alloc B3.out.size _).grown hg (by have := B3.out.size; simp; omega) (fun k hk => (HOwn.out.lt k hk).1))
              have ho' : w4.ownsRow w.heap.size 5 1 v' (1 + n) (((m : Int) :: own).map (Value.int .u8)) := by rw [HE0.out]; exact ho
              clear ho hg
              obtain ⟨a4, c4, rfl, hn4, hI4⟩ := Ints.of_own' ho'
              have HN4 := Lib.hid hn4
              have HI5 := Lib.hid hI4
              clear ho' hn4 hI4
              go_wp2
              go_ret2
              exact ⟨.of_good HE3.out rfl HN4.out HI5.out, B4.out⟩
            · have HE3 : Hid (res = none) := Lib.hid (by rw [HE2.out, if_neg (by rw [HE0.out]; exact fun h => hno h.2)])
              have hne : ∀ n : Nat, n = rl.length → ((n : Int) != o) = true := fun n h => by rw [h]; simpa using hno
              have HNE := Lib.hid hne
              clear HE2 hne hno
              go_enter Tryd.func55, Tryd.ntmps55
              go_wp2_with fail
              refine HC.out.mono ?_
              rintro e w1 ⟨rfl, hb⟩
              have B1 := Lib.hid hb
              clear hb
              go_wp2_with fail
              refine (HRD.out _).mono ?_
              rintro e w2 ⟨⟨a, n, c, rfl, hn, hI⟩, hb⟩
              have B2 := Lib.hid (below_next HPl.out B1.out hb)
              have HN2 := Lib.hid hn
              have HI2 := Lib.hid hI
              have hn3 : n ≤ 262144 := by omega
              clear hb hn hI
              rw [show errK true = 0 from rfl]
              have hne := HNE.out _ HN2.out
              go_wp2_with fail
              refine (HOP.out _ (HT.out.below B2.out)).mono ?_
              rintro e w3 ⟨rfl, hb⟩
              have B3 := Lib.hid (below_next HPl.out B2.out hb)
              have HI3 := Lib.hid (HI2.out.below hb)
              clear hb
              unfold opV
              go_wp2_with fail
              refine (HO.out _).mono ?_
              rintro e wo0 ⟨rfl, rfl⟩
              go_wp2_with fail
              refine (HO.out _).mono ?_
              rintro e wo1 ⟨rfl, rfl⟩
              go_wp2
              go_ret2
              exact ⟨.of_bad HE3.out rfl, B3.out⟩
          · have HE3 : Hid (res = none) := Lib.hid (by rw [HE2.out, if_neg (fun h => hop (by simpa using h.1))])
            clear HE2
            go_enter Tryd.func55, Tryd.ntmps55
            go_wp2_with fail
            refine HC.out.mono ?_
            rintro e w1 ⟨rfl, hb⟩
            have B1 := Lib.hid hb
            clear hb
            go_wp2_with fail
            refine (HRD.out _).mono ?_
            rintro e w2 ⟨⟨a, n, c, rfl, hn, hI⟩, hb⟩
            have B2 := Lib.hid (below_next HPl.out B1.out hb)
            have HN2 := Lib.hid hn
            have HI2 := Lib.hid hI
            have hn3 : n ≤ 262144 := by omega
            clear hb hn hI
            rw [show errK true = 0 from rfl]
            go_wp2_with fail
            refine (HOP.out _ (HT.out.below B2.out)).mono ?_
            rintro e w3 ⟨rfl, hb⟩
            have B3 := Lib.hid (below_next HPl.out B2.out hb)
            have HI3 := Lib.hid (HI2.out.below hb)
            clear hb
            unfold opV
            go_wp2_with fail
            refine (HO.out _).mono ?_
            rintro e wo0 ⟨rfl, rfl⟩
            go_wp2
            go_ret2
            exact ⟨.of_bad HE3.out rfl, B3.out⟩
  | false =>
    have HE0 : Hid (own = []) := Lib.hid (by rw [HOL.out, if_neg (by simp)])
    have HE : Hid (res = opLine false own op) := Lib.hid (by
        rw [HLC.out, if_neg (by simp), if_neg (by simp)])
    clear HLC HOL HRD hrl
    cases bt
    all_goals
      cases op with
      | none =>
        have HE2 : Hid (res = none) := Lib.hid (by rw [HE.out]; rfl)
        clear HE hopr
        go_enter Tryd.func55, Tryd.ntmps55
        go_wp2_with fail
        refine HC.out.mono ?_
        rintro e w1 ⟨rfl, hb⟩
        have B1 := Lib.hid hb
        clear hb
        go_wp2_with fail
        refine (HOP.out _ (HT.out.below B1.out)).mono ?_
        rintro e w3 ⟨rfl, hb⟩
        have B3 := Lib.hid (below_next HPl.out B1.out hb)
        clear hb
        unfold opV
        go_wp2
        go_ret2
        exact ⟨.of_bad HE2.out rfl, B3.out⟩
      | some m =>
        have hm2 : m < 256 := hopr m rfl
        obtain ⟨o0, o1⟩ := own_range (m : Int)
        have HO : Hid (∀ wx, Calls Tryd.prog 63 #[.int .u8 (m : Int)] wx fun e w' => e = .returned (.int .i64 (ownOf (m : Int))) ∧ wx = w') := Lib.hid fun wx => ops_own (m : Int) (by omega) (by omega) wx
        have HE2 : Hid (res = if false = decide (0 < ownOf (m : Int)) ∧ ((own.length : Nat) : Int) = ownOf (m : Int) then some ((m : Int) :: own) else none) := Lib.hid (by rw [HE.out]; rfl)
        clear HE hopr
        generalize ownOf (m : Int) = o at *
        by_cases hop : 0 < o
        · have HE3 : Hid (res = none) := Lib.hid (by rw [HE2.out, if_neg (fun h => by have := h.1; simp at this; omega)])
          have hz : (0 : Int) ≠ o := by omega
          clear HE2
          go_enter Tryd.func55, Tryd.ntmps55
          go_wp2_with fail
          refine HC.out.mono ?_
          rintro e w1 ⟨rfl, hb⟩
          have B1 := Lib.hid hb
          clear hb
          go_wp2_with fail
          refine (HOP.out _ (HT.out.below B1.out)).mono ?_
          rintro e w3 ⟨rfl, hb⟩
          have B3 := Lib.hid (below_next HPl.out B1.out hb)
          clear hb
          unfold opV
          go_wp2_with fail
          refine (HO.out _).mono ?_
          rintro e wo0 ⟨rfl, rfl⟩
          go_wp2
          go_ret2
          exact ⟨.of_bad HE3.out rfl, B3.out⟩
        · have hoz : o = 0 := by omega
          subst hoz
          have HE3 : Hid (res = some ((m : Int) :: own)) := Lib.hid (by rw [HE2.out, if_pos ⟨by simp, by rw [HE0.out]; rfl⟩])
          clear HE2 hop o0 o1
          go_enter Tryd.func55, Tryd.ntmps55
          go_wp2_with fail
          refine HC.out.mono ?_
          rintro e w1 ⟨rfl, hb⟩
          have B1 := Lib.hid hb
          clear hb
          go_wp2_with fail
          refine (HOP.out _ (HT.out.below B1.out)).mono ?_
          rintro e w3 ⟨rfl, hb⟩
          have B3 := Lib.hid (below_next HPl.out B1.out hb)
          clear hb
          unfold opV
          go_wp2_with fail
          refine (HO.out _).mono ?_
          rintro e wo0 ⟨rfl, rfl⟩
          go_wp2_with fail
          refine (HO.out _).mono ?_
          rintro e wo1 ⟨rfl, rfl⟩
          have HOwn := Lib.hid (own_one w3 w.heap.size (m : Int) B3.out.size)
          have HI0 := Lib.hid (ints_nil (w3.alloc (.cells #[.int .u8 (m : Int)] 5)) .u8)
          have HN0 : Hid (0 = ([] : List Int).length) := Lib.hid rfl
          go_wp2_with (at_builtin; go_must (refine wpList_append_intsN (base := w.heap.size) (n := 1) (xs := [(m : Int)].map (Value.int .u8)) elem33 rfl _ _ rfl HOwn.out rfl rfl HN0.out HI0.out ?c3b ?c4b ?c5b ?_))
          case c3b => unfold maxLen; omega
          case c4b => omega
          case c5b => have := B3.out.size; simp; omega
          intro v' w4 ho hg
          have B4 := Lib.hid (show Below w.heap.size w w4 from (B3.out.alloc B3.out.size _).grown hg (by have := B3.out.size; simp; omega) (fun k hk => (HOwn.out.lt k hk).1))
          have ho' : w4.ownsRow w.heap.size 5 1 v' (1 + 0) (((m : Int) :: own).map (Value.int .u8)) := by rw [HE0.out]; exact ho
          clear ho hg
          obtain ⟨a4, c4, rfl, hn4, hI4⟩ := Ints.of_own' ho'
          have HN4 := Lib.hid hn4
          have HI5 := Lib.hid hI4
          clear ho' hn4 hI4
          go_wp2
          go_ret2
          exact ⟨.of_good HE3.out rfl HN4.out HI5.out, B4.out⟩
end Go.Proofs.YtaoacfkifcglfaaDoor
namespace Go.Proofs.YtaoacfkifcglfaaDoor
open Go.RowKit Go.Mun

theorem nmS_get {s : List UInt8} {k : Nat} (h : k < (nmS s).length) : ∃ x, s[k]? = some x ∧ x ≠ 32 := by
  have hp : nmS s <+: s := List.takeWhile_prefix _
  have hl := hp.length_le
  refine ⟨(nmS s)[k], ?_, ?_⟩
  · have := List.getElem?_eq_getElem (l := nmS s) h
    rw [← this]
    obtain ⟨r, hr⟩ := hp
    conv => lhs; rw [← hr]
    exact List.getElem?_append_left h
  · have := List.all_eq_true.1 (List.all_takeWhile (p := (· != 32)) (l := s)) _ (List.getElem_mem h)
    simpa using this
theorem nmS_end {s : List UInt8} (h : moreS s = true) : s[(nmS s).length]? = some 32 := by
  unfold moreS at h
  induction s with
  | nil => simp at h
  | cons b l ih =>
    by_cases hb : b = 32
    · subst hb; simp [nmS]
    · have h1 : nmS (b :: l) = b :: nmS l := by unfold nmS; rw [List.takeWhile_cons, if_pos (by simpa using hb)]
      rw [h1] at h ⊢
      simp at h
      simpa using ih (by simpa using h)
theorem nmS_take (s : List UInt8) : s.take (nmS s).length = nmS s := (List.prefix_iff_eq_take.1 (List.takeWhile_prefix _)).symm

set_option maxRecDepth 100000 in
set_option maxHeartbeats 2000000 in
theorem ref_lineC (s : ByteArray) (hs : s.size ≤ 262144) (w : World) :
    Calls Tryd.prog 57 #[.string s] w fun e w' => LineR e w' (lineCode s.data.toList) ∧ Below w.heap.size w w' := by
  have HPl := Lib.hid (Nat.le_refl w.heap.size)
  have hsz : s.data.toList.length = s.size := by simp
  have HRD : Hid (∀ wx, Calls Tryd.prog 19 #[.string (str (restS s.data.toList))] wx fun e w' => (∃ a n c, e = .returned (.tuple #[.slice a n c, .bool (rdO (restS s.data.toList))]) ∧ n = (rdL (restS s.data.toList)).length ∧ Ints w' .u8 a c (rdL (restS s.data.toList))) ∧ Below wx.heap.size wx w') := Lib.hid fun wx => by
    have := ref_read2 (str (restS s.data.toList)) (by rw [str_size]; have := restS_len s.data.toList; omega) wx
    rw [str_data] at this; exact this
  have HOP : Hid (∀ wx, Calls Tryd.prog 33 #[.string (str (nmS s.data.toList))] wx fun e w' => e = .returned (opV (opOf (nmS s.data.toList))) ∧ Below wx.heap.size wx w') := Lib.hid fun wx => by
    have := ref_op (str (nmS s.data.toList)) wx
    rw [str_data] at this; exact this
  have hnl : (nmS s.data.toList).length ≤ s.size := by rw [← hsz]; exact (List.takeWhile_prefix _).length_le
  have hst : ∀ wx, (Instr.slice 9 (.string s) none (some (.int .i64 ((nmS s.data.toList).length : Int))) none).run Tryd.prog wx = .ok (.string (str (nmS s.data.toList))) wx := fun wx => by
    have := run_slice_take (P := Tryd.prog) Tryd.underlying9 s .i64 (nmS s.data.toList).length hnl wx
    rw [nmS_take] at this; exact this
  have HLT : Hid (∀ k, k < (nmS s.data.toList).length → (k : Int) < s.size ∧ ∃ x : UInt8, (∀ wx, (Instr.index 9 (.string s) (.int .i64 (k : Int))).run Tryd.prog wx = .ok (.int .u8 (x.toNat : Int)) wx) ∧ ((x.toNat : Int) != 32) = true) := Lib.hid fun k hk => by
    obtain ⟨x, hx, h32⟩ := nmS_get hk
    have h2 := (List.getElem?_eq_some_iff.1 hx).1
    refine ⟨by omega, x, fun wx => run_index_bytes (P := Tryd.prog) Tryd.underlying9 s .i64 (k : Int) k rfl x hx wx, ?_⟩
    simp
    intro h
    apply h32
    rw [← UInt8.toNat_inj]
    exact_mod_cast h
  have hme : moreS s.data.toList = true → ((nmS s.data.toList).length : Int) < s.size ∧ (∀ wx, (Instr.index 9 (.string s) (.int .i64 ((nmS s.data.toList).length : Int))).run Tryd.prog wx = .ok (.int .u8 32) wx) ∧
      (∀ wx, (Instr.slice 9 (.string s) (some (.int .i64 (((nmS s.data.toList).length : Int) + 1))) none none).run Tryd.prog wx = .ok (.string (str (restS s.data.toList))) wx) := fun h => by
    have hx := nmS_end h
    have h2 := (List.getElem?_eq_some_iff.1 hx).1
    refine ⟨by omega, fun wx => run_index_bytes (P := Tryd.prog) Tryd.underlying9 s .i64 _ (nmS s.data.toList).length rfl 32 hx wx, fun wx => ?_⟩
    exact run_slice_drop (P := Tryd.prog) Tryd.underlying9 s .i64 ((nmS s.data.toList).length + 1) (by omega) wx
  have hmf : moreS s.data.toList = false → ¬ ((nmS s.data.toList).length : Int) < s.size := fun h => by
    unfold moreS at h; simp at h; omega
  have hrl : 2 * (rdL (restS s.data.toList)).length ≤ 262144 := by
    have h1 := rdL_len (restS s.data.toList)
    have h2 := restS_len s.data.toList
    omega
  have HLC : Hid (lineCode s.data.toList = if moreS s.data.toList = true ∧ rdO (restS s.data.toList) = false then none
    else if nmS s.data.toList = byteN ∧ moreS s.data.toList = true then (if (ownL s.data.toList).length = 1 then some (ownL s.data.toList) else none)
    else opLine (moreS s.data.toList) (ownL s.data.toList) (opOf (nmS s.data.toList))) := Lib.hid rfl
  have HOL : Hid (ownL s.data.toList = if moreS s.data.toList = true then rdL (restS s.data.toList) else []) := Lib.hid rfl
  have hopr : ∀ m, opOf (nmS s.data.toList) = some m → m < 256 := by
    intro m hm
    unfold opOf at hm
    split at hm
    · cases hm
    · exact List.mem_range.1 (List.mem_of_find?_eq_some hm)
  obtain ⟨res, hres⟩ : ∃ res, res = lineCode s.data.toList := ⟨_, rfl⟩
  rw [← hres] at HLC ⊢
  obtain ⟨own, hown⟩ : ∃ own, own = ownL s.data.toList := ⟨_, rfl⟩
  rw [← hown] at HLC HOL
  generalize (nmS s.data.toList).length = nl at *
  generalize nmS s.data.toList = nm at *
  generalize restS s.data.toList = rs at *
  generalize moreS s.data.toList = mo at *
  generalize hop : opOf nm = op at *
  generalize rdO rs = ro at *
  generalize rdL rs = rl at *
  have hq : ((str nm).toList == [66, 89, 84, 69]) = decide (nm = byteN) := by rw [str_toList]; unfold byteN; rw [Bool.eq_iff_iff]; simp
  generalize hbt : decide (nm = byteN) = bt at *
  have HBT := Lib.hid hbt
  generalize str nm = q at *
  generalize str rs = qr at *
  clear hbt hres hown hop hsz
  cases mo with
  | true =>
    obtain ⟨hm1, hm2', hm3⟩ := hme rfl
    clear hme hmf
    cases ro with
    | false =>
      have HE : Hid (res = none) := Lib.hid (by rw [HLC.out, if_pos ⟨rfl, rfl⟩])
      clear HLC HOL hopr
      go_enter Tryd.func57, Tryd.ntmps57
      go_wp2
      go_loop [4] (fun i => ∃ k : Nat, k ≤ nl ∧ i = .int .i64 (k : Int)) (fun i => nl - (intOf i).toNat)
      case atStart => exact ⟨0, by omega, rfl⟩
      obtain ⟨k, hk, rfl⟩ := hrel
      rcases Nat.lt_or_ge k nl with hlt | hge
      · obtain ⟨hk1, x, hix, hx⟩ := HLT.out k hlt
        go_wp2
        go_round
        case rel => exact ⟨k + 1, by omega, by go_num⟩
        case measure => simp [intOf]; omega
      obtain rfl : k = nl := by omega
      clear hge hk
      go_wp2_with fail
      refine (HRD.out _).mono ?_
      rintro e w2 ⟨⟨a, n, c, rfl, hn, hI⟩, hb⟩
      have B2 := Lib.hid hb
      have HN2 := Lib.hid hn
      have HI2 := Lib.hid hI
      have hn3 : n ≤ 262144 := by omega
      clear hb hn hI
      go_wp2
      go_ret2
      exact ⟨.of_bad HE.out rfl, B2.out⟩
    | true =>
      have HE0 : Hid (own = rl) := Lib.hid (by rw [HOL.out, if_pos rfl])
      cases bt with
      | true =>
        have HE : Hid (res = if own.length = 1 then some own else none) := Lib.hid (by rw [HLC.out, if_neg (by simp), if_pos ⟨by simpa using HBT.out, rfl⟩])
        clear HLC HOL hopr
        go_enter Tryd.func57, Tryd.ntmps57
        go_wp2
        go_loop [4] (fun i => ∃ k : Nat, k ≤ nl ∧ i = .int .i64 (k : Int)) (fun i => nl - (intOf i).toNat)
        case atStart => exact ⟨0, by omega, rfl⟩
        obtain ⟨k, hk, rfl⟩ := hrel
        rcases Nat.lt_or_ge k nl with hlt | hge
        · obtain ⟨hk1, x, hix, hx⟩ := HLT.out k hlt
          go_wp2
          go_round
          case rel => exact ⟨k + 1, by omega, by go_num⟩
          case measure => simp [intOf]; omega
        obtain rfl : k = nl := by omega
        clear hge hk
        go_wp2_with fail
        refine (HRD.out _).mono ?_
        rintro e w2 ⟨⟨a, n, c, rfl, hn, hI⟩, hb⟩
        have B2 := Lib.hid hb
        have HN2 := Lib.hid hn
        have HI2 := Lib.hid hI
        have hn3 : n ≤ 262144 := by omega
        clear hb hn hI
        by_cases h1 : n = 1
        · have hd : ((n : Int) == 1) = true := by rw [h1]; rfl
          have HL1 := Lib.hid (show own.length = 1 by rw [HE0.out, ← HN2.out, h1])
          go_wp2
          go_ret2
          exact ⟨.of_good (by rw [HE.out, if_pos HL1.out]) rfl HL1.out.symm (by rw [HE0.out]; exact HI2.out), B2.out⟩
        · have hd : ((n : Int) == 1) = false := by simp; omega
          have HL1 := Lib.hid (show ¬ own.length = 1 by rw [HE0.out, ← HN2.out]; exact h1)
          go_wp2
          go_ret2
          exact ⟨.of_bad (by rw [HE.out, if_neg HL1.out]) rfl, B2.out⟩
      | false =>
        have HE : Hid (res = opLine true own op) := Lib.hid (by
            rw [HLC.out, if_neg (by simp), if_neg (by intro h; have := HBT.out; simp [h.1] at this)])
        clear HLC HOL
        cases op with
        | none =>
          have HE2 : Hid (res = none) := Lib.hid (by rw [HE.out]; rfl)
          clear HE hopr
          go_enter Tryd.func57, Tryd.ntmps57
          go_wp2
          go_loop [4] (fun i => ∃ k : Nat, k ≤ nl ∧ i = .int .i64 (k : Int)) (fun i => nl - (intOf i).toNat)
          case atStart => exact ⟨0, by omega, rfl⟩
          obtain ⟨k, hk, rfl⟩ := hrel
          rcases Nat.lt_or_ge k nl with hlt | hge
          · obtain ⟨hk1, x, hix, hx⟩ := HLT.out k hlt
            go_wp2
            go_round
            case rel => exact ⟨k + 1, by omega, by go_num⟩
            case measure => simp [intOf]; omega
          obtain rfl : k = nl := by omega
          clear hge hk
          go_wp2_with fail
          refine (HRD.out _).mono ?_
          rintro e w2 ⟨⟨a, n, c, rfl, hn, hI⟩, hb⟩
          have B2 := Lib.hid hb
          have HN2 := Lib.hid hn
          have HI2 := Lib.hid hI
          have hn3 : n ≤ 262144 := by omega
          clear hb hn hI
          go_wp2_with fail
          refine (HOP.out _).mono ?_
          rintro e w3 ⟨rfl, hb⟩
          have B3 := Lib.hid (below_next HPl.out B2.out hb)
          clear hb
          unfold opV
          go_wp2
          go_ret2
          exact ⟨.of_bad HE2.out rfl, B3.out⟩
        | some m =>
          have hm2 : m < 256 := hopr m rfl
          obtain ⟨o0, o1⟩ := own_range (m : Int)
          have HO : Hid (∀ wx, Calls Tryd.prog 56 #[.int .u8 (m : Int)] wx fun e w' => e = .returned (.int .i64 (ownOf (m : Int))) ∧ wx = w') := Lib.hid fun wx => ref_own (m : Int) (by omega) (by omega) wx
          have HE2 : Hid (res = if true = decide (0 < ownOf (m : Int)) ∧ ((own.length : Nat) : Int) = ownOf (m : Int) then some ((m : Int) :: own) else none) := Lib.hid (by rw [HE.out]; rfl)
          clear HE hopr
          generalize ownOf (m : Int) = o at *
          by_cases hop : 0 < o
          · by_cases hno : (rl.length : Int) = o
            · have HE3 : Hid (res = some ((m : Int) :: own)) := Lib.hid (by rw [HE2.out, if_pos ⟨by simpa using hop, by rw [HE0.out]; exact hno⟩])
              have hne : ∀ n : Nat, n = rl.length → ((n : Int) != o) = false := fun n h => by rw [h, hno]; simp
              have HNE := Lib.hid hne
              clear HE2 hne hno
              go_enter Tryd.func57, Tryd.ntmps57
              go_wp2
              go_loop [4] (fun i => ∃ k : Nat, k ≤ nl ∧ i = .int .i64 (k : Int)) (fun i => nl - (intOf i).toNat)
              case atStart => exact ⟨0, by omega, rfl⟩
              obtain ⟨k, hk, rfl⟩ := hrel
              rcases Nat.lt_or_ge k nl with hlt | hge
              · obtain ⟨hk1, x, hix, hx⟩ := HLT.out k hlt
                go_wp2
                go_round
                case rel => exact ⟨k + 1, by omega, by go_num⟩
                case measure => simp [intOf]; omega
              obtain rfl : k = nl := by omega
              clear hge hk
              go_wp2_with fail
              refine (HRD.out _).mono ?_
              rintro e w2 ⟨⟨a, n, c, rfl, hn, hI⟩, hb⟩
              have B2 := Lib.hid hb
              have HN2 := Lib.hid hn
              have HI2 := Lib.hid hI
              have hn3 : n ≤ 262144 := by omega
              clear hb hn hI
              have hne := HNE.out _ HN2.out
              go_wp2_with fail
              refine (HOP.out _).mono ?_
              rintro e w3 ⟨rfl, hb⟩
              have B3 := Lib.hid (below_next HPl.out B2.out hb)
              have HI3 := Lib.hid (HI2.out.below hb)
              clear hb
              unfold opV
              go_wp2_with fail
              refine (HO.out _).mono ?_
              rintro e wo0 ⟨rfl, rfl⟩
              go_wp2_with fail
              refine (HO.out _).mono ?_
              rintro e wo1 ⟨rfl, rfl⟩
              have HOwn := Lib.hid (own_one w3 w.heap.size (m : Int) B3.out.size)
              have HI4 := Lib.hid (HI3.out.below ((Below.refl _ _).alloc (Nat.le_refl _) (.cells #[.int .u8 (m : Int)] 5)))
              go_wp2_with (at_builtin; go_must (refine wpList_append_intsN (base := w.heap.size) (n := 1) (xs := [(m : Int)].map (Value.int .u8)) elem33 rfl _ _ rfl HOwn.out rfl rfl HN2.out HI4.out ?c3a ?c4a ?c5a ?_))
              case c3a => unfold maxLen; omega
              case c4a => omega
              case c5a => have := B3.out.size; simp; omega
              intro v' w4 ho hg
              have B4 := Lib.hid (show Below w.heap.size w w4 from (B3.out.alloc B3.out.size _).grown hg (by have := B3.out.size; simp; omega) (fun k hk => (HOwn.out.lt k hk).1))
              have ho' : w4.ownsRow w.heap.size 5 1 v' (1 + n) (((m : Int) :: own).map (Value.int .u8)) := by rw [HE0.out]; exact ho
              clear ho hg
              obtain ⟨a4, c4, rfl, hn4, hI4⟩ := Ints.of_own' ho'
              have HN4 := Lib.hid hn4
              have HI5 := Lib.hid hI4
              clear ho' hn4 hI4
              go_wp2
              go_ret2
              exact ⟨.of_good HE3.out rfl HN4.out HI5.out, B4.out⟩
            · have HE3 : Hid (res = none) := Lib.hid (by rw [HE2.out, if_neg (by rw [HE0.out]; exact fun h => hno h.2)])
              have hne : ∀ n : Nat, n = rl.length → ¬ ((n : Int) = o) := fun n h => by rw [h]; exact hno
              have HNE := Lib.hid hne
              clear HE2 hne hno
              go_enter Tryd.func57, Tryd.ntmps57
              go_wp2
              go_loop [4] (fun i => ∃ k : Nat, k ≤ nl ∧ i = .int .i64 (k : Int)) (fun i => nl - (intOf i).toNat)
              case atStart => exact ⟨0, by omega, rfl⟩
              obtain ⟨k, hk, rfl⟩ := hrel
              rcases Nat.lt_or_ge k nl with hlt | hge
              · obtain ⟨hk1, x, hix, hx⟩ := HLT.out k hlt
                go_wp2
                go_round
                case rel => exact ⟨k + 1, by omega, by go_num⟩
                case measure => simp [intOf]; omega
              obtain rfl : k = nl := by omega
              clear hge hk
              go_wp2_with fail
              refine (HRD.out _).mono ?_
              rintro e w2 ⟨⟨a, n, c, rfl, hn, hI⟩, hb⟩
              have B2 := Lib.hid hb
              have HN2 := Lib.hid hn
              have HI2 := Lib.hid hI
              have hn3 : n ≤ 262144 := by omega
              clear hb hn hI
              have hne := HNE.out _ HN2.out
              go_wp2_with fail
              refine (HOP.out _).mono ?_
              rintro e w3 ⟨rfl, hb⟩
              have B3 := Lib.hid (below_next HPl.out B2.out hb)
              have HI3 := Lib.hid (HI2.out.below hb)
              clear hb
              unfold opV
              go_wp2_with fail
              refine (HO.out _).mono ?_
              rintro e wo0 ⟨rfl, rfl⟩
              go_wp2
              go_ret2
              exact ⟨.of_bad HE3.out rfl, B3.out⟩
          · have HE3 : Hid (res = none) := Lib.hid (by rw [HE2.out, if_neg (fun h => hop (by simpa using h.1))])
            clear HE2
            by_cases hno : (rl.length : Int) = o
            · have hoz : o = 0 := by omega
              have hne : ∀ n : Nat, n = rl.length → n = 0 := fun n h => by omega
              have HNE := Lib.hid hne
              clear hne hno
              subst hoz
              go_enter Tryd.func57, Tryd.ntmps57
              go_wp2
              go_loop [4] (fun i => ∃ k : Nat, k ≤ nl ∧ i = .int .i64 (k : Int)) (fun i => nl - (intOf i).toNat)
              case atStart => exact ⟨0, by omega, rfl⟩
              obtain ⟨k, hk, rfl⟩ := hrel
              rcases Nat.lt_or_ge k nl with hlt | hge
              · obtain ⟨hk1, x, hix, hx⟩ := HLT.out k hlt
                go_wp2
                go_round
                case rel => exact ⟨k + 1, by omega, by go_num⟩
                case measure => simp [intOf]; omega
              obtain rfl : k = nl := by omega
              clear hge hk
              go_wp2_with fail
              refine (HRD.out _).mono ?_
              rintro e w2 ⟨⟨a, n, c, rfl, hn, hI⟩, hb⟩
              have B2 := Lib.hid hb
              have HN2 := Lib.hid hn
              have HI2 := Lib.hid hI
              have hn3 : n ≤ 262144 := by omega
              clear hb hn hI
              have hne := HNE.out _ HN2.out
              go_wp2_with fail
              refine (HOP.out _).mono ?_
              rintro e w3 ⟨rfl, hb⟩
              have B3 := Lib.hid (below_next HPl.out B2.out hb)
              have HI3 := Lib.hid (HI2.out.below hb)
              clear hb
              unfold opV
              go_wp2_with fail
              refine (HO.out _).mono ?_
              rintro e wo0 ⟨rfl, rfl⟩
              go_wp2_with fail
              refine (HO.out _).mono ?_
              rintro e wo1 ⟨rfl, rfl⟩
              go_wp2
              go_ret2
              exact ⟨.of_bad HE3.out rfl, B3.out⟩
            · have hne : ∀ n : Nat, n = rl.length → ¬ ((n : Int) = o) := fun n h => by rw [h]; exact hno
              have HNE := Lib.hid hne
              clear hne hno
              go_enter Tryd.func57, Tryd.ntmps57
              go_wp2
              go_loop [4] (fun i => ∃ k : Nat, k ≤ nl ∧ i = .int .i64 (k : Int)) (fun i => nl - (intOf i).toNat)
              case atStart => exact ⟨0, by omega, rfl⟩
              obtain ⟨k, hk, rfl⟩ := hrel
              rcases Nat.lt_or_ge k nl with hlt | hge
              · obtain ⟨hk1, x, hix, hx⟩ := HLT.out k hlt
                go_wp2
                go_round
                case rel => exact ⟨k + 1, by omega, by go_num⟩
                case measure => simp [intOf]; omega
              obtain rfl : k = nl := by omega
              clear hge hk
              go_wp2_with fail
              refine (HRD.out _).mono ?_
              rintro e w2 ⟨⟨a, n, c, rfl, hn, hI⟩, hb⟩
              have B2 := Lib.hid hb
              have HN2 := Lib.hid hn
              have HI2 := Lib.hid hI
              have hn3 : n ≤ 262144 := by omega
              clear hb hn hI
              have hne := HNE.out _ HN2.out
              go_wp2_with fail
              refine (HOP.out _).mono ?_
              rintro e w3 ⟨rfl, hb⟩
              have B3 := Lib.hid (below_next HPl.out B2.out hb)
              have HI3 := Lib.hid (HI2.out.below hb)
              clear hb
              unfold opV
              go_wp2_with fail
              refine (HO.out _).mono ?_
              rintro e wo0 ⟨rfl, rfl⟩
              go_wp2
              go_ret2
              exact ⟨.of_bad HE3.out rfl, B3.out⟩
  | false =>
    have HE0 : Hid (own = []) := Lib.hid (by rw [HOL.out, if_neg (by simp)])
    have HE : Hid (res = opLine false own op) := Lib.hid (by
        rw [HLC.out, if_neg (by simp), if_neg (by simp)])
    have hmF := hmf rfl
    clear HLC HOL HRD hrl hme hmf
    cases bt
    all_goals
      cases op with
      | none =>
        have HE2 : Hid (res = none) := Lib.hid (by rw [HE.out]; rfl)
        clear HE hopr
        go_enter Tryd.func57, Tryd.ntmps57
        go_wp2
        go_loop [4] (fun i => ∃ k : Nat, k ≤ nl ∧ i = .int .i64 (k : Int)) (fun i => nl - (intOf i).toNat)
        case atStart => exact ⟨0, by omega, rfl⟩
        obtain ⟨k, hk, rfl⟩ := hrel
        rcases Nat.lt_or_ge k nl with hlt | hge
        · obtain ⟨hk1, x, hix, hx⟩ := HLT.out k hlt
          go_wp2
          go_round
          case rel => exact ⟨k + 1, by omega, by go_num⟩
          case measure => simp [intOf]; omega
        obtain rfl : k = nl := by omega
        clear hge hk
        have B1 := Lib.hid (Below.refl w.heap.size w)
        go_wp2_with fail
        refine (HOP.out _).mono ?_
        rintro e w3 ⟨rfl, hb⟩
        have B3 := Lib.hid (below_next HPl.out B1.out hb)
        clear hb
        unfold opV
        go_wp2
        go_ret2
        exact ⟨.of_bad HE2.out rfl, B3.out⟩
      | some m =>
        have hm2 : m < 256 := hopr m rfl
        obtain ⟨o0, o1⟩ := own_range (m : Int)
        have HO : Hid (∀ wx, Calls Tryd.prog 56 #[.int .u8 (m : Int)] wx fun e w' => e = .returned (.int .i64 (ownOf (m : Int))) ∧ wx = w') := Lib.hid fun wx => ref_own (m : Int) (by omega) (by omega) wx
        have HE2 : Hid (res = if false = decide (0 < ownOf (m : Int)) ∧ ((own.length : Nat) : Int) = ownOf (m : Int) then some ((m : Int) :: own) else none) := Lib.hid (by rw [HE.out]; rfl)
        clear HE hopr
        generalize ownOf (m : Int) = o at *
        by_cases hop : 0 < o
        · have HE3 : Hid (res = none) := Lib.hid (by rw [HE2.out, if_neg (fun h => by have := h.1; simp at this; omega)])
          have hz : (0 : Int) ≠ o := by omega
          clear HE2
          go_enter Tryd.func57, Tryd.ntmps57
          go_wp2
          go_loop [4] (fun i => ∃ k : Nat, k ≤ nl ∧ i = .int .i64 (k : Int)) (fun i => nl - (intOf i).toNat)
          case atStart => exact ⟨0, by omega, rfl⟩
          obtain ⟨k, hk, rfl⟩ := hrel
          rcases Nat.lt_or_ge k nl with hlt | hge
          · obtain ⟨hk1, x, hix, hx⟩ := HLT.out k hlt
            go_wp2
            go_round
            case rel => exact ⟨k + 1, by omega, by go_num⟩
            case measure => simp [intOf]; omega
          obtain rfl : k = nl := by omega
          clear hge hk
          have B1 := Lib.hid (Below.refl w.heap.size w)
          go_wp2_with fail
          refine (HOP.out _).mono ?_
          rintro e w3 ⟨rfl, hb⟩
          have B3 := Lib.hid (below_next HPl.out B1.out hb)
          clear hb
          unfold opV
          go_wp2_with fail
          refine (HO.out _).mono ?_
          rintro e wo0 ⟨rfl, rfl⟩
          go_wp2
          go_ret2
          exact ⟨.of_bad HE3.out rfl, B3.out⟩
        · have hoz : o = 0 := by omega
          subst hoz
          have HE3 : Hid (res = some ((m : Int) :: own)) := Lib.hid (by rw [HE2.out, if_pos ⟨by simp, by rw [HE0.out]; rfl⟩])
          clear HE2 hop o0 o1
          go_enter Tryd.func57, Tryd.ntmps57
          go_wp2
          go_loop [4] (fun i => ∃ k : Nat, k ≤ nl ∧ i = .int .i64 (k : Int)) (fun i => nl - (intOf i).toNat)
          case atStart => exact ⟨0, by omega, rfl⟩
          obtain ⟨k, hk, rfl⟩ := hrel
          rcases Nat.lt_or_ge k nl with hlt | hge
          · obtain ⟨hk1, x, hix, hx⟩ := HLT.out k hlt
            go_wp2
            go_round
            case rel => exact ⟨k + 1, by omega, by go_num⟩
            case measure => simp [intOf]; omega
          obtain rfl : k = nl := by omega
          clear hge hk
          have B1 := Lib.hid (Below.refl w.heap.size w)
          go_wp2_with fail
          refine (HOP.out _).mono ?_
          rintro e w3 ⟨rfl, hb⟩
          have B3 := Lib.hid (below_next HPl.out B1.out hb)
          clear hb
          unfold opV
          go_wp2_with fail
          refine (HO.out _).mono ?_
          rintro e wo0 ⟨rfl, rfl⟩
          go_wp2_with fail
          refine (HO.out _).mono ?_
          rintro e wo1 ⟨rfl, rfl⟩
          have HOwn := Lib.hid (own_one w3 w.heap.size (m : Int) B3.out.size)
          have HI0 := Lib.hid (ints_nil (w3.alloc (.cells #[.int .u8 (m : Int)] 5)) .u8)
          have HN0 : Hid (0 = ([] : List Int).length) := Lib.hid rfl
          go_wp2_with (at_builtin; go_must (refine wpList_append_intsN (base := w.heap.size) (n := 1) (xs := [(m : Int)].map (Value.int .u8)) elem33 rfl _ _ rfl HOwn.out rfl rfl HN0.out HI0.out ?c3b ?c4b ?c5b ?_))
          case c3b => unfold maxLen; omega
          case c4b => omega
          case c5b => have := B3.out.size; simp; omega
          intro v' w4 ho hg
          have B4 := Lib.hid (show Below w.heap.size w w4 from (B3.out.alloc B3.out.size _).grown hg (by have := B3.out.size; simp; omega) (fun k hk => (HOwn.out.lt k hk).1))
          have ho' : w4.ownsRow w.heap.size 5 1 v' (1 + 0) (((m : Int) :: own).map (Value.int .u8)) := by rw [HE0.out]; exact ho
          clear ho hg
          obtain ⟨a4, c4, rfl, hn4, hI4⟩ := Ints.of_own' ho'
          have HN4 := Lib.hid hn4
          have HI5 := Lib.hid hI4
          clear ho' hn4 hI4
          go_wp2
          go_ret2
          exact ⟨.of_good HE3.out rfl HN4.out HI5.out, B4.out⟩
end Go.Proofs.YtaoacfkifcglfaaDoor
