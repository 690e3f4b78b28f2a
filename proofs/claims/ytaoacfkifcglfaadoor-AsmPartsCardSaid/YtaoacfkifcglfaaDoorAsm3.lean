/-
  Plain words on a text that is read line by line.
  The contracts of the reference's ReadAsm and of asm.Read.
  The contract of asm.Read.
-/
import Derived.Test.YtaoacfkifcglfaaDoorAsm2
import Derived.Lib.TrimUEq
import Derived.Lib.MapLaws
import Derived.Lib.OthersKept
import Derived.OwnWalk
namespace Go.Mun
open Go.RowKit
theorem takeWhile_take {α : Type} {p : α → Bool} : ∀ (l : List α) (k : Nat), k ≤ l.length → (∀ i x, i < k → l[i]? = some x → p x = true) → (∀ x, l[k]? = some x → p x = false) → l.takeWhile p = l.take k
  | [], k, hk, _, _ => by simp
  | y :: l, 0, _, _, h => by
    rw [List.takeWhile_cons, if_neg (by rw [h y rfl]; decide)]; rfl
  | y :: l, k + 1, hk, h1, h2 => by
    rw [List.takeWhile_cons, if_pos (h1 0 y (by omega) rfl), List.take_succ_cons, takeWhile_take l k (by simpa using hk) (fun i x hi hx => h1 (i + 1) x (by omega) (by simpa using hx)) (fun x hx => h2 x (by simpa using hx))]
theorem run_slice_mid {P : Program} {t : TypeId} (hu : P.underlying t = some .string) (s : ByteArray) (k k' : IntKind) (i j : Nat) (h : i ≤ j) (hj : j ≤ s.size) (w : World) :
    (Instr.slice t (.string s) (some (.int k (i : Int))) (some (.int k' (j : Int))) none).run P w = .ok (.string (str ((s.data.toList.drop i).take (j - i)))) w := by
  rw [run_slice_string (h := hu) (h0 := by omega) (h1 := by omega) (h2 := by omega)]
  simp only [Int.toNat_natCast]
  congr 2
  apply ByteArray.ext
  apply Array.ext'
  simp [ByteArray.data_extract, str, List.extract_eq_take_drop]
theorem decode_step (s : ByteArray) (pos : Nat) (h : pos < s.size) :
    1 ≤ (Utf8.decode s pos).2 ∧ pos + (Utf8.decode s pos).2 ≤ s.size ∧
    (((Utf8.decode s pos).1 = 10 ∧ (Utf8.decode s pos).2 = 1 ∧ s.data.toList[pos]? = some 10) ∨ ((Utf8.decode s pos).1 ≠ 10 ∧ ∀ j x, pos ≤ j → j < pos + (Utf8.decode s pos).2 → s.data.toList[j]? = some x → x ≠ 10)) := by
  have hsz : s.data.toList.length = s.size := by simp
  have hpos : pos < s.data.toList.length := by omega
  have g0 : s.data.toList[pos]? = some (s.data.toList.getD pos 0) := by simp [List.getD, List.getElem?_eq_getElem hpos]
  have key : ∀ j x, s.data.toList[j]? = some x → s.data.toList.getD j 0 = x := fun j x hx => by simp [List.getD, hx]
  rw [Lib.decode_N, ← hsz]
  generalize s.data.toList = l at *
  by_cases ha : (l.getD pos 0).toNat < 128
  · rw [Lib.decodeN_ascii _ _ _ _ _ ha]
    refine ⟨Nat.le_refl _, by simp only; omega, ?_⟩
    by_cases h10 : (l.getD pos 0).toNat = 10
    · refine .inl ⟨h10, rfl, ?_⟩
      rw [g0]
      congr 1
      rw [← UInt8.toNat_inj]; exact h10
    · refine .inr ⟨h10, fun j x h1 h2 hx => ?_⟩
      obtain rfl : j = pos := by simp only at h2; omega
      rw [← key _ _ hx]
      rintro h; rw [h] at h10; exact h10 rfl
  · have nb : ∀ j x, l[j]? = some x → 128 ≤ (l.getD j 0).toNat → x ≠ 10 := fun j x hx hg => by
      rw [key _ _ hx] at hg
      rintro rfl
      revert hg; decide
    rcases Lib.decodeN_shape (l.length - pos) (l.getD pos 0).toNat (l.getD (pos + 1) 0).toNat (l.getD (pos + 2) 0).toNat (l.getD (pos + 3) 0).toNat with ⟨h1, _⟩ | ⟨h0, h1, h2, h3, he⟩ | ⟨h0, h1, h2, h3, h4, h5, he⟩ | ⟨h0, h1, h2, h3, h4, h5, h6, he⟩ | he
    · exact absurd h1 ha
    · rw [he]
      refine ⟨by simp only; omega, by simp only; omega, .inr ⟨by simp only; omega, fun j x hj1 hj2 hx => ?_⟩⟩
      simp only at hj2
      have : j = pos ∨ j = pos + 1 := by omega
      rcases this with rfl | rfl
      · exact nb _ _ hx (by omega)
      · exact nb _ _ hx (by omega)
    · rw [he]
      refine ⟨by simp only; omega, by simp only; omega, .inr ⟨by simp only; omega, fun j x hj1 hj2 hx => ?_⟩⟩
      simp only at hj2
      have : j = pos ∨ j = pos + 1 ∨ j = pos + 2 := by omega
      rcases this with rfl | rfl | rfl
      · exact nb _ _ hx (by omega)
      · exact nb _ _ hx (by omega)
      · exact nb _ _ hx (by omega)
    · rw [he]
      refine ⟨by simp only; omega, by simp only; omega, .inr ⟨by simp only; omega, fun j x hj1 hj2 hx => ?_⟩⟩
      simp only at hj2
      have : j = pos ∨ j = pos + 1 ∨ j = pos + 2 ∨ j = pos + 3 := by omega
      rcases this with rfl | rfl | rfl | rfl
      · exact nb _ _ hx (by omega)
      · exact nb _ _ hx (by omega)
      · exact nb _ _ hx (by omega)
      · exact nb _ _ hx (by omega)
    · rw [he]
      refine ⟨by simp only; omega, by simp only; omega, .inr ⟨by simp only; omega, fun j x hj1 hj2 hx => ?_⟩⟩
      obtain rfl : j = pos := by simp only at hj2; omega
      exact nb _ _ hx (by omega)
end Go.Mun
namespace Go.Proofs.YtaoacfkifcglfaaDoor
open Go.RowKit Go.Mun

def lnS (s : List UInt8) : List UInt8 := s.takeWhile (· != 10)
/-- What a text is read as: the error, the line, the bytes. -/
def rd (s : List UInt8) (no : Nat) (out : List Int) : Int × Nat × List Int :=
  if _h : (lnS s).length < s.length then match lineCode (lnS s) with
    | none => (2, no, [])
    | some L => rd (s.drop ((lnS s).length + 1)) (no + 1) (out ++ L)
  else if s = [] then (0, 0, out) else (2, no, [])
termination_by s.length
decreasing_by simp; omega
def readA (s : List UInt8) : Int × Nat × List Int := if 262144 < s.length then (3, 0, []) else rd s 1 []
def NoNl (s : List UInt8) (i j : Nat) : Prop := ∀ k x, i ≤ k → k < j → s[k]? = some x → x ≠ 10
theorem lnS_at {s : List UInt8} {i j : Nat} (hij : i ≤ j) (hj : j ≤ s.length) (hn : NoNl s i j) (h10 : ∀ x, s[j]? = some x → x = 10) : lnS (s.drop i) = (s.drop i).take (j - i) := by
  refine takeWhile_take _ _ (by simp; omega) (fun k x hk hx => ?_) (fun x hx => ?_)
  · rw [List.getElem?_drop] at hx
    simpa using hn (i + k) x (by omega) (by omega) hx
  · rw [List.getElem?_drop, show i + (j - i) = j by omega] at hx
    simp [h10 x hx]
theorem rd_line {s : List UInt8} {i j no : Nat} {out : List Int} (hij : i ≤ j) (hn : NoNl s i j) (h10 : s[j]? = some 10) :
    rd (s.drop i) no out = match lineCode ((s.drop i).take (j - i)) with
      | none => (2, no, [])
      | some L => rd (s.drop (j + 1)) (no + 1) (out ++ L) := by
  have hj := (List.getElem?_eq_some_iff.1 h10).1
  have hl := lnS_at hij (Nat.le_of_lt hj) hn (fun x hx => by rw [h10] at hx; exact (Option.some.inj hx).symm)
  have hll : (lnS (s.drop i)).length = j - i := by rw [hl]; simp; omega
  rw [rd, dif_pos (by rw [hll]; simp; omega), hll, List.drop_drop, show i + (j - i + 1) = j + 1 by omega, hl]
theorem rd_end {s : List UInt8} {i no : Nat} {out : List Int} (hi : i ≤ s.length) (hn : NoNl s i s.length) : rd (s.drop i) no out = if i < s.length then (2, no, []) else (0, 0, out) := by
  have hl := lnS_at hi (Nat.le_refl _) hn (fun x hx => by rw [List.getElem?_eq_none (Nat.le_refl _)] at hx; cases hx)
  have hll : (lnS (s.drop i)).length = s.length - i := by rw [hl]; simp
  rw [rd, dif_neg (by rw [hll]; simp)]
  by_cases h : i < s.length
  · rw [if_pos h, if_neg (by intro h0; have := congrArg List.length h0; simp at this; omega)]
  · rw [if_neg h, if_pos (List.drop_eq_nil_of_le (by omega))]
theorem lineCode_len {s : List UInt8} {L : List Int} (h : lineCode s = some L) : L.length ≤ s.length + 1 := by
  have h0 : (ownL s).length ≤ s.length := by
    unfold ownL
    split
    · have := rdL_len (restS s); have := restS_len s; omega
    · simp
  unfold lineCode at h
  split at h
  · cases h
  split at h
  · split at h
    · cases h; omega
    · cases h
  · unfold opLine at h
    split at h
    · cases h
    · split at h
      · cases h; simp; exact h0
      · cases h
end Go.Proofs.YtaoacfkifcglfaaDoor
namespace Go.Proofs.YtaoacfkifcglfaaDoor
open Go.RowKit Go.Mun

def ReadP (e : Ending) (w' : World) (R : Int × Nat × List Int) : Prop :=
  ∃ a n c, e = .returned (.tuple #[.slice a n c, .int .i64 (R.2.1 : Int), .int .i64 R.1]) ∧ n = R.2.2.length ∧ Ints w' .u8 a c R.2.2
theorem ReadP.of {e : Ending} {w' : World} {R : Int × Nat × List Int} {a : Option Addr} {n c no : Nat} {er : Int} {out : List Int} (hR : R = (er, no, out)) (he : e = .returned (.tuple #[.slice a n c, .int .i64 (no : Int), .int .i64 er])) (hn : n = out.length) (hI : Ints w' .u8 a c out) : ReadP e w' R := by
  subst hR; exact ⟨a, n, c, he, hn, hI⟩

set_option maxRecDepth 100000 in
set_option maxHeartbeats 2000000 in
theorem ref_readAsm (s : ByteArray) (hs0 : s.size ≤ 9223372036854775807) (w : World) :
    Calls Tryd.prog 39 #[.string s] w fun e w' => ReadP e w' (readA s.data.toList) ∧ Below w.heap.size w w' := by
  have hsz : s.data.toList.length = s.size := by simp
  by_cases hs : 262144 < s.size
  · have HR : Hid (readA s.data.toList = (3, 0, [])) := Lib.hid (by unfold readA; rw [if_pos (by rw [hsz]; exact hs)])
    clear hsz
    go_enter Tryd.func39, Tryd.ntmps39
    go_wp2
    go_ret3
    exact ⟨.of (a := none) (n := 0) (c := 0) HR.out rfl rfl (ints_nil _ _), Below.refl _ _⟩
  have hsn : s.size ≤ 262144 := by omega
  have HR : Hid (rd (s.data.toList.drop 0) 1 [] = readA s.data.toList) := Lib.hid (by unfold readA; rw [if_neg (by rw [hsz]; exact hs)]; rfl)
  have HIX : Hid (∀ j : Nat, j < s.size → ∃ x : UInt8, s.data.toList[j]? = some x ∧ ∀ wx, (Instr.index 9 (.string s) (.int .i64 (j : Int))).run Tryd.prog wx = .ok (.int .u8 (x.toNat : Int)) wx) := Lib.hid fun j hj => by
    have hx : s.data.toList[j]? = some (s.data.toList[j]'(by omega)) := List.getElem?_eq_getElem _
    exact ⟨_, hx, fun wx => run_index_bytes (P := Tryd.prog) Tryd.underlying9 s .i64 (j : Int) j rfl _ hx wx⟩
  have HSL : Hid (∀ i j : Nat, i ≤ j → j ≤ s.size → ∀ wx, (Instr.slice 9 (.string s) (some (.int .i64 (i : Int))) (some (.int .i64 (j : Int))) none).run Tryd.prog wx = .ok (.string (str ((s.data.toList.drop i).take (j - i)))) wx) := Lib.hid fun i j h1 h2 wx =>
    run_slice_mid (P := Tryd.prog) Tryd.underlying9 s .i64 .i64 i j h1 h2 wx
  have HSZ := Lib.hid hsz
  have HPl := Lib.hid (Nat.le_refl w.heap.size)
  obtain ⟨R, hR⟩ : ∃ R, R = readA s.data.toList := ⟨_, rfl⟩
  rw [← hR] at HR ⊢
  generalize s.data.toList = l at *
  clear hR hsz hs hs0
  go_enter Tryd.func39, Tryd.ntmps39
  go_wp2
  go_loopw [5, 6, 7, 8] (fun o f nn i wr => ∃ (p j no : Nat) (out : List Int), p ≤ j ∧ j ≤ s.size ∧ no ≤ j + 1 ∧ f = .int .i64 (p : Int) ∧ i = .int .i64 (j : Int) ∧ nn = .int .i64 (no : Int) ∧ Hid (out.length ≤ p) ∧ Hid (NoNl l p j) ∧ Hid (rd (l.drop p) no out = R) ∧ Hid (wr.ownsRow w.heap.size 5 1 o out.length (out.map (Value.int .u8))) ∧ Hid (Below w.heap.size w wr)) (fun _ _ _ i _ => s.size - (intOf i).toNat)
  case atStart => exact ⟨0, 0, 1, [], by omega, by omega, by omega, rfl, rfl, rfl, Lib.hid (by simp), Lib.hid (fun k x h1 h2 => by omega), HR, Lib.hid (World.ownsRow_nil _ _ _ _), Lib.hid (Below.refl _ _)⟩
  case round =>
    rename_i o
    obtain ⟨p, j, no, out, hpj, hj, hno, rfl, rfl, rfl, HOL, HNN, HRD, HO, HB⟩ := hrel
    by_cases hlt : j < s.size
    · obtain ⟨x, hx, hix⟩ := HIX.out j hlt
      by_cases h10 : x = 10
      · subst h10
        rw [show ((10 : UInt8).toNat : Int) = 10 from rfl] at hix
        have hsl := HSL.out p j hpj hj
        have HRL := Lib.hid (rd_line (no := no) (out := out) hpj HNN.out hx)
        have HLL := Lib.hid (fun L (h : lineCode ((l.drop p).take (j - p)) = some L) => lineCode_len h)
        have hlnl : ((l.drop p).take (j - p)).length = j - p := by have := HSZ.out; simp; omega
        have HC : Hid (∀ wx, Calls Tryd.prog 57 #[.string (str ((l.drop p).take (j - p)))] wx fun e w' => LineR e w' (lineCode ((l.drop p).take (j - p))) ∧ Below wx.heap.size wx w') := Lib.hid fun wx => by
          have := ref_lineC (str ((l.drop p).take (j - p))) (by rw [str_size]; omega) wx
          rw [str_data] at this; exact this
        rw [HRD.out] at HRL
        rw [hlnl] at HLL
        clear hlnl hx
        generalize lineCode ((l.drop p).take (j - p)) = lc at *
        generalize str ((l.drop p).take (j - p)) = q at *
        go_wp2_with fail
        refine (HC.out _).mono ?_
        rintro e w2 ⟨hl, hb⟩
        have B2 := Lib.hid (below_next HPl.out HB.out hb)
        have HO2 := Lib.hid (ownsRow_below HO.out hb)
        clear hb
        cases lc with
        | none =>
          obtain ⟨a, n, c, rfl⟩ := hl.bad rfl
          clear hl
          go_wp2
          go_ret3
          exact ⟨.of (a := none) (n := 0) (c := 0) HRL.out rfl rfl (ints_nil _ _), B2.out⟩
        | some L =>
          obtain ⟨a, n, c, rfl, hn, hI⟩ := hl.good L rfl
          have HI := Lib.hid hI
          have HN := Lib.hid hn
          have hnl : n ≤ j - p + 1 := by rw [hn]; exact HLL.out L rfl
          have hol := HOL.out
          have hbs := B2.out.size
          clear hl hI hn
          go_wp2_with (at_builtin; go_must (refine wpList_append_intsN (base := w.heap.size) (n := out.length) (xs := out.map (Value.int .u8)) elem33 rfl _ _ rfl HO2.out rfl rfl HN.out HI.out ?c3 ?c4 ?c5 ?_))
          case c3 => unfold maxLen; omega
          case c4 => omega
          case c5 => exact hbs
          intro v' w3 ho hg
          have HO3 := Lib.hid (show w3.ownsRow w.heap.size 5 1 v' (out ++ L).length ((out ++ L).map (Value.int .u8)) by rw [List.length_append, List.map_append, ← HN.out]; exact ho)
          have B3 := Lib.hid (show Below w.heap.size w w3 from B2.out.grown hg hbs (fun k hk => (HO2.out.lt k hk).1))
          have HLen : Hid ((out ++ L).length ≤ j + 1) := Lib.hid (by rw [List.length_append, ← HN.out]; omega)
          clear ho hg hbs hol
          go_wp2
          go_roundw
          case rel => exact ⟨j + 1, j + 1, no + 1, out ++ L, by omega, by omega, by omega, by go_num, by go_num, by go_num, HLen, Lib.hid (fun k x h1 h2 => by omega), Lib.hid HRL.out.symm, HO3, B3⟩
          case measure => simp [intOf]; omega
      · have hne : ((x.toNat : Int) != 10) = true := by
          simp
          intro h
          apply h10
          rw [← UInt8.toNat_inj]
          exact_mod_cast h
        have HNN2 : Hid (NoNl l p (j + 1)) := Lib.hid (fun k y h1 h2 hy => by
          by_cases hk : k = j
          · subst hk; rw [hx] at hy; cases hy; exact h10
          · exact HNN.out k y h1 (by omega) hy)
        clear hx h10
        go_wp2
        go_roundw
        case rel => exact ⟨p, j + 1, no, out, by omega, by omega, by omega, rfl, by go_num, rfl, HOL, HNN2, HRD, HO, HB⟩
        case measure => simp [intOf]; omega
    · have hje : j = s.size := by omega
      have HRE := Lib.hid (rd_end (no := no) (out := out) (i := p) (s := l) (by rw [HSZ.out]; omega) (by rw [HSZ.out, ← hje]; exact HNN.out))
      rw [HRD.out, HSZ.out] at HRE
      by_cases hps : p < s.size
      · have HR3 : Hid (R = (2, no, [])) := Lib.hid (by rw [HRE.out, if_pos hps])
        clear HRE
        subst hje
        go_wp2
        go_ret3
        exact ⟨.of (a := none) (n := 0) (c := 0) HR3.out rfl rfl (ints_nil _ _), HB.out⟩
      · have HR3 : Hid (R = (0, 0, out)) := Lib.hid (by rw [HRE.out, if_neg hps])
        obtain ⟨a, c, rfl, hn, hI⟩ := Ints.of_own' HO.out
        have HI := Lib.hid hI
        clear HRE hn hI
        subst hje
        go_wp2
        go_ret3
        exact ⟨.of HR3.out rfl rfl HI.out, HB.out⟩
end Go.Proofs.YtaoacfkifcglfaaDoor
namespace Go.Proofs.YtaoacfkifcglfaaDoor
open Go.RowKit Go.Mun

set_option maxRecDepth 100000 in
set_option maxHeartbeats 2000000 in
theorem asm_readAll (s : ByteArray) (hs0 : s.size ≤ 9223372036854775807) (w : World) (hT : Tab w) (hM : MaxL w) :
    Calls Tryd.prog 36 #[.string s] w fun e w' => ReadP e w' (readA s.data.toList) ∧ Below w.heap.size w w' := by
  have hsz : s.data.toList.length = s.size := by simp
  by_cases hs : 262144 < s.size
  · have HR : Hid (readA s.data.toList = (3, 0, [])) := Lib.hid (by unfold readA; rw [if_pos (by rw [hsz]; exact hs)])
    clear hsz
    go_enter Tryd.func36, Tryd.ntmps36
    go_wp2
    go_ret3
    exact ⟨.of (a := none) (n := 0) (c := 0) HR.out rfl rfl (ints_nil _ _), Below.refl _ _⟩
  have HT := Lib.hid hT
  have HM := Lib.hid hM
  have hsn : s.size ≤ 262144 := by omega
  have HR : Hid (rd (s.data.toList.drop 0) 1 [] = readA s.data.toList) := Lib.hid (by unfold readA; rw [if_neg (by rw [hsz]; exact hs)]; rfl)
  have HDC : Hid (∀ j : Nat, j < s.size → 1 ≤ (Utf8.decode s j).2 ∧ j + (Utf8.decode s j).2 ≤ s.size ∧
    (((Utf8.decode s j).1 = 10 ∧ (Utf8.decode s j).2 = 1 ∧ s.data.toList[j]? = some 10) ∨ ((Utf8.decode s j).1 ≠ 10 ∧ NoNl s.data.toList j (j + (Utf8.decode s j).2)))) := Lib.hid fun j hj => by
    obtain ⟨h1, h2, h3⟩ := decode_step s j hj
    refine ⟨h1, h2, ?_⟩
    rcases h3 with h3 | ⟨h3, h4⟩
    · exact .inl h3
    · exact .inr ⟨h3, fun k x hk1 hk2 hx => h4 k x hk1 hk2 hx⟩
  have HSL : Hid (∀ i j : Nat, i ≤ j → j ≤ s.size → ∀ wx, (Instr.slice 9 (.string s) (some (.int .i64 (i : Int))) (some (.int .i64 (j : Int))) none).run Tryd.prog wx = .ok (.string (str ((s.data.toList.drop i).take (j - i)))) wx) := Lib.hid fun i j h1 h2 wx =>
    run_slice_mid (P := Tryd.prog) Tryd.underlying9 s .i64 .i64 i j h1 h2 wx
  have HSZ := Lib.hid hsz
  obtain ⟨R, hR⟩ : ∃ R, R = readA s.data.toList := ⟨_, rfl⟩
  rw [← hR] at HR ⊢
  generalize s.data.toList = l at *
  obtain ⟨k0, hk0⟩ : ∃ k0, k0 = w.heap.size := ⟨_, rfl⟩
  have HK := Lib.hid hk0
  have IT0 := Lib.hid (show (w.iter s 0).heap[k0]? = some (.stringIter s 0) by rw [hk0]; exact World.iter_heap w s 0)
  have B0 := Lib.hid (show Below k0 w (w.iter s 0) by rw [hk0]; exact (Below.refl _ _).alloc (Nat.le_refl _) _)
  clear hR hsz hs hs0 hT hM
  go_enter Tryd.func36, Tryd.ntmps36
  go_wp2
  rw [← hk0]
  clear hk0
  go_loopw [5, 6, 7] (fun o f nn wr => ∃ (p j no : Nat) (out : List Int), p ≤ j ∧ j ≤ s.size ∧ no ≤ j + 1 ∧ f = .int .i64 (p : Int) ∧ nn = .int .i64 (no : Int) ∧ Hid (out.length ≤ p) ∧ Hid (NoNl l p j) ∧ Hid (rd (l.drop p) no out = R) ∧ Hid (wr.ownsRow (k0 + 1) 5 1 o out.length (out.map (Value.int .u8))) ∧ Hid (Below k0 w wr) ∧ Hid (wr.heap[k0]? = some (.stringIter s j))) (fun _ _ _ wr => s.size - wr.iterPos k0)
  case atStart => exact ⟨0, 0, 1, [], by omega, by omega, by omega, rfl, rfl, Lib.hid (by simp), Lib.hid (fun k x h1 h2 => by omega), HR, Lib.hid (World.ownsRow_nil _ _ _ _), B0, IT0⟩
  case round =>
    rename_i o
    obtain ⟨p, j, no, out, hpj, hj, hno, rfl, rfl, HOL, HNN, HRD, HO, HB, HIT⟩ := hrel
    have hip := iterPos_of HIT.out
    by_cases hlt : j < s.size
    · have hnx := fun ty => Lib.run_next_any_at (P := Tryd.prog) _ k0 s j ty HIT.out hlt
      have hdc := HDC.out j hlt
      generalize Utf8.decode s j = d at *
      obtain ⟨r, d⟩ := d
      simp only at hdc hnx
      obtain ⟨hd1, hd2, hdc⟩ := hdc
      have HO1 := Lib.hid (ownsRow_iterAt HO.out (Nat.lt_succ_self k0) s (j + d))
      have B1 := Lib.hid (Lib.below_iterAt HB.out (Nat.le_refl k0) s (j + d))
      have IT1 := Lib.hid (Lib.iterAt_heap _ k0 s j (j + d) HIT.out)
      rcases hdc with ⟨h10, hd, hx⟩ | ⟨h10, hnn⟩
      · subst h10
        subst hd
        have hsl := HSL.out p j hpj hj
        have HRL := Lib.hid (rd_line (no := no) (out := out) hpj HNN.out hx)
        have HLL := Lib.hid (fun L (h : lineCode ((l.drop p).take (j - p)) = some L) => lineCode_len h)
        have hlnl : ((l.drop p).take (j - p)).length = j - p := by have := HSZ.out; simp; omega
        have HC : Hid (∀ wx, Tab wx → MaxL wx → Calls Tryd.prog 55 #[.string (str ((l.drop p).take (j - p)))] wx fun e w' => LineR e w' (lineCode ((l.drop p).take (j - p))) ∧ Below wx.heap.size wx w') := Lib.hid fun wx h1 h2 => by
          have := asm_read (str ((l.drop p).take (j - p))) (by rw [str_size]; omega) wx h1 h2
          rw [str_data] at this; exact this
        rw [HRD.out] at HRL
        rw [hlnl] at HLL
        clear hlnl hx
        generalize lineCode ((l.drop p).take (j - p)) = lc at *
        generalize str ((l.drop p).take (j - p)) = q at *
        go_wp2_with fail
        refine (HC.out _ (HT.out.below (by rw [← HK.out]; exact B1.out)) (HM.out.below (by rw [← HK.out]; exact B1.out))).mono ?_
        rintro e w2 ⟨hl, hb⟩
        have B2 := Lib.hid (below_next (Nat.le_of_eq HK.out) B1.out hb)
        have HO2 := Lib.hid (ownsRow_below HO1.out hb)
        have IT2 := Lib.hid (show w2.heap[k0]? = some (.stringIter s (j + 1)) by rw [hb.block k0 (Array.getElem?_eq_some_iff.1 IT1.out).1]; exact IT1.out)
        clear hb hnx
        cases lc with
        | none =>
          obtain ⟨a, n, c, rfl⟩ := hl.bad rfl
          clear hl
          go_wp2
          go_ret3
          exact ⟨.of (a := none) (n := 0) (c := 0) HRL.out rfl rfl (ints_nil _ _), by rw [← HK.out]; exact B2.out⟩
        | some L =>
          obtain ⟨a, n, c, rfl, hn, hI⟩ := hl.good L rfl
          have HI := Lib.hid hI
          have HN := Lib.hid hn
          have hnl : n ≤ j - p + 1 := by rw [hn]; exact HLL.out L rfl
          have hol := HOL.out
          have hbs : k0 + 1 ≤ w2.heap.size := (Array.getElem?_eq_some_iff.1 IT2.out).1
          clear hl hI hn
          go_wp2_with (at_builtin; go_must (refine wpList_append_intsN (base := k0 + 1) (n := out.length) (xs := out.map (Value.int .u8)) elem33 rfl _ _ rfl HO2.out rfl rfl HN.out HI.out ?c3 ?c4 ?c5 ?_))
          case c3 => unfold maxLen; omega
          case c4 => omega
          case c5 => exact hbs
          intro v' w3 ho hg
          have HO3 := Lib.hid (show w3.ownsRow (k0 + 1) 5 1 v' (out ++ L).length ((out ++ L).map (Value.int .u8)) by rw [List.length_append, List.map_append, ← HN.out]; exact ho)
          have B3 := Lib.hid (show Below k0 w w3 from B2.out.grown hg (by omega) (fun k hk => by have := (HO2.out.lt k hk).1; omega))
          have IT3 := Lib.hid (show w3.heap[k0]? = some (.stringIter s (j + 1)) by rw [hg.block k0 (by omega) (fun h => by have := (HO2.out.lt k0 h.symm).1; omega)]; exact IT2.out)
          have HLen : Hid ((out ++ L).length ≤ j + 1) := Lib.hid (by rw [List.length_append, ← HN.out]; omega)
          have hip3 := iterPos_of IT3.out
          clear ho hg hbs hol
          go_wp2
          go_roundw
          case rel => exact ⟨j + 1, j + 1, no + 1, out ++ L, by omega, by omega, by omega, by go_num, by go_num, HLen, Lib.hid (fun k x h1 h2 => by omega), Lib.hid HRL.out.symm, HO3, B3, IT3⟩
          case measure => rw [hip3, hip]; omega
      · have hne : ((r : Int) != 10) = true := by simp; omega
        have HNN2 : Hid (NoNl l p (j + d)) := Lib.hid (fun k y h1 h2 hy => by
          by_cases hk : k < j
          · exact HNN.out k y h1 hk hy
          · exact hnn k y (by omega) h2 hy)
        have hip3 := iterPos_of IT1.out
        clear hnn h10
        go_wp2
        go_roundw
        case rel => exact ⟨p, j + d, no, out, by omega, by omega, by omega, rfl, rfl, HOL, HNN2, HRD, HO1, B1, IT1⟩
        case measure => rw [hip3, hip]; omega
    · have hje : j = s.size := by omega
      have hnx := fun ty => Lib.run_next_end_at (P := Tryd.prog) _ k0 s j ty HIT.out hlt
      have HRE := Lib.hid (rd_end (no := no) (out := out) (i := p) (s := l) (by rw [HSZ.out]; omega) (by rw [HSZ.out, ← hje]; exact HNN.out))
      rw [HRD.out, HSZ.out] at HRE
      by_cases hps : p < s.size
      · have HR3 : Hid (R = (2, no, [])) := Lib.hid (by rw [HRE.out, if_pos hps])
        clear HRE hje
        go_wp2
        go_ret3
        exact ⟨.of (a := none) (n := 0) (c := 0) HR3.out rfl rfl (ints_nil _ _), by rw [← HK.out]; exact HB.out⟩
      · have HR3 : Hid (R = (0, 0, out)) := Lib.hid (by rw [HRE.out, if_neg hps])
        obtain ⟨a, c, rfl, hn, hI⟩ := Ints.of_own' HO.out
        have HI := Lib.hid hI
        clear HRE hn hI hje
        go_wp2
        go_ret3
        exact ⟨.of HR3.out rfl rfl HI.out, by rw [← HK.out]; exact HB.out⟩
end Go.Proofs.YtaoacfkifcglfaaDoor
