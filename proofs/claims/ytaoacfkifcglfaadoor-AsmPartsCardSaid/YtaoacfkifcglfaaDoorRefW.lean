/-
  Contract of the reference's ReadWord.
-/
import Derived.Test.YtaoacfkifcglfaaDoorRefA
namespace Go.Mun
/-- A text by its bytes. -/
def str (l : List UInt8) : ByteArray := ⟨l.toArray⟩
theorem str_size (l : List UInt8) : (str l).size = l.length := by simp [str, ByteArray.size]
theorem str_data (l : List UInt8) : (str l).data.toList = l := by simp [str]
theorem str_toList (l : List UInt8) : (str l).toList = l := by rw [ByteArray.toList_eq, str_data]
theorem str_self (s : ByteArray) : str s.data.toList = s := by apply ByteArray.ext; simp [str]
theorem str_append (l m : List UInt8) : str l ++ str m = str (l ++ m) := by apply ByteArray.ext; simp [str]
theorem str_drop (l : List UInt8) (i : Nat) : (str l).extract i (str l).size = str (l.drop i) := by
  rw [str_size]
  apply ByteArray.ext
  simp [str, ByteArray.data_extract]
  rw [List.take_of_length_le (by simp)]
theorem str_inj {l m : List UInt8} : str l = str m ↔ l = m := ⟨fun h => by have := congrArg (fun b : ByteArray => b.data.toList) h; simpa [str] using this, fun h => by rw [h]⟩
open Go.RowKit in
theorem run_slice_take {P : Program} {t : TypeId} (hu : P.underlying t = some .string) (s : ByteArray) (k : IntKind) (i : Nat) (h : i ≤ s.size) (w : World) :
    (Instr.slice t (.string s) none (some (.int k (i : Int))) none).run P w = .ok (.string (str (s.data.toList.take i))) w := by
  rw [run_slice_string_h (ht := hu) (kh := k) (h := (i : Int)) (h0 := by omega) (h2 := by omega)]
  congr 2
  apply ByteArray.ext
  simp [ByteArray.data_extract, str]
  apply Array.ext'
  simp
open Go.RowKit in
theorem run_slice_drop {P : Program} {t : TypeId} (hu : P.underlying t = some .string) (s : ByteArray) (k : IntKind) (i : Nat) (h : i ≤ s.size) (w : World) :
    (Instr.slice t (.string s) (some (.int k (i : Int))) none none).run P w = .ok (.string (str (s.data.toList.drop i))) w := by
  rw [run_slice_string_l (ht := hu) (kl := k) (l := (i : Int)) (h0 := by omega) (h1 := by omega)]
  simp only [Int.toNat_natCast]
  congr 2
  have := str_drop s.data.toList i
  rw [str_self] at this
  exact this
end Go.Mun
namespace Go.Proofs.YtaoacfkifcglfaaDoor
open Go.RowKit Go.Mun
attribute [local irreducible] be beC zU8

theorem refWord_short {s : List UInt8} (h : s.length < 3 ∨ 66 < s.length ∨ s.take 2 ≠ [48, 120]) : refWord s = none := by
  unfold refWord
  rw [if_neg]
  rintro ⟨h1, h2, h3⟩
  rcases h with h | h | h
  · omega
  · omega
  · exact h h3
theorem hexRead_len {s : List UInt8} {b : List Int} (h : hexRead s = some b) : s.length = 2 + 2 * b.length ∧ ∀ x ∈ b, 0 ≤ x ∧ x ≤ 255 := by
  unfold hexRead at h
  cases hb : hexBody s with
  | none => rw [hb] at h; cases h
  | some r =>
    rw [hb] at h
    simp only [Option.bind_some] at h
    obtain ⟨rfl, hr⟩ := hexBody_inv hb
    split at h
    · rename_i he
      cases h
      have hl : (r.map hv).length = 2 * (r.length / 2) := by simp; omega
      refine ⟨?_, joinL_range (r.length / 2) _ hl ?_⟩
      · rw [joinL_len (r.length / 2) _ hl]; simp; omega
      · intro x hx
        obtain ⟨b, hb, rfl⟩ := List.mem_map.1 hx
        have := hex_dig b (List.all_eq_true.1 hr b hb)
        omega
    · cases h

set_option maxRecDepth 10000 in
set_option maxHeartbeats 400000 in
theorem ref_word (s : ByteArray) (hs : s.size ≤ 1099511627776) (w : World) :
    Calls Tryd.prog 20 #[.string s] w fun e w' => e = .returned (wordRV (refWord s.data.toList)) ∧ Below w.heap.size w w' := by
  have hlen : s.data.toList.length = s.size := rfl
  obtain ⟨n, hn⟩ : ∃ n, n = s.size := ⟨_, rfl⟩
  have hsz : s.size = n := hn.symm
  have hz0 : ∀ wz : World, wz = w.alloc (.cells (zU8 32).toArray 25) → wz.free? w.heap.size 0 32 = true := fun wz e => by rw [e]; exact World.free?_alloc_at _ _ rfl (by simp)
  have hf0 := Lib.hid (hz0 _ rfl)
  clear hz0
  by_cases h3 : n < 3
  · have HR := Lib.hid (refWord_short (s := s.data.toList) (.inl (by omega)))
    clear hlen hn
    go_enter Tryd.func20, Tryd.ntmps20
    go_wp2
    exact ret_row2 ty25 rfl _ _ rfl rfl rfl (row?_setCells_whole _ hf0.out (zU8_ok 32)) ⟨by rw [HR.out]; rfl, ((Below.refl _ _).alloc (Nat.le_refl _) _).setCells (Nat.le_refl _) _ _⟩
  · by_cases h66 : 66 < n
    · have HR := Lib.hid (refWord_short (s := s.data.toList) (.inr (.inl (by omega))))
      clear hlen hn
      go_enter Tryd.func20, Tryd.ntmps20
      go_wp2
      exact ret_row2 ty25 rfl _ _ rfl rfl rfl (row?_setCells_whole _ hf0.out (zU8_ok 32)) ⟨by rw [HR.out]; rfl, ((Below.refl _ _).alloc (Nat.le_refl _) _).setCells (Nat.le_refl _) _ _⟩
    · have hsl : ∀ wx, (Instr.slice 9 (.string s) none (some (.int .i64 2)) none).run Tryd.prog wx = .ok (.string (str (s.data.toList.take 2))) wx := fun wx => run_slice_take Tryd.underlying9 s .i64 2 (by omega) wx
      obtain ⟨p, hp⟩ : ∃ p : ByteArray, p = str (s.data.toList.take 2) := ⟨_, rfl⟩
      rw [← hp] at hsl
      by_cases hpre : s.data.toList.take 2 = [48, 120]
      · have hpe : (p.toList == [48, 120]) = true := by rw [hp, str_toList]; simpa using hpre
        obtain ⟨B, hB⟩ : ∃ B, B = s.data.toList.drop 2 := ⟨_, rfl⟩
        have hBl : B.length = n - 2 := by rw [hB, List.length_drop]; omega
        have hsd : ∀ wx, (Instr.slice 9 (.string s) (some (.int .i64 2)) none none).run Tryd.prog wx = .ok (.string (str B)) wx := fun wx => by rw [hB]; exact run_slice_drop Tryd.underlying9 s .i64 2 (by omega) wx
        have HR0 := Lib.hid (show refWord s.data.toList = (hexRead ([48, 120] ++ (List.replicate (66 - n) 48 ++ B))).bind fun b => if u8s (shortL b) = s.data.toList then some b else none by
          unfold refWord
          rw [if_pos ⟨by omega, by omega, hpre⟩, hlen, hsz, hB])
        have HBL := Lib.hid hBl
        clear hB hlen hn hp hpre hBl
        go_enter Tryd.func20, Tryd.ntmps20
        go_wp2
        clear hsl hpe hsd
        go_loop [4] (fun d => ∃ k : Nat, ∃ d' : ByteArray, d = .string d' ∧ k + n ≤ 66 ∧ Hid (d' = str (List.replicate k 48 ++ B)) ∧ d'.size + 2 = k + n) (fun d => match d with | .string b => 64 - b.size | _ => 0)
        case atStart => exact ⟨0, str B, rfl, by omega, Lib.hid (by simp), by rw [str_size, HBL.out]; omega⟩
        case round =>
          obtain ⟨k, d, rfl, hk, HD, hds⟩ := hrel
          obtain ⟨m, hm⟩ : ∃ m, m = d.size := ⟨_, rfl⟩
          have hdz : d.size = m := hm.symm
          rw [← hm] at hds
          clear hm
          by_cases hlt : m < 64
          · go_wp2
            go_round
            case rel =>
              refine ⟨k + 1, _, rfl, by omega, Lib.hid ?_, ?_⟩
              · rw [HD.out, show (⟨#[48]⟩ : ByteArray) = str [48] from rfl, str_append, List.replicate_succ]; rfl
              · rw [ByteArray.size_append, hdz]; show 1 + m + 2 = _; omega
            case measure =>
              have e1 : ((⟨#[48]⟩ : ByteArray) ++ d).size = 1 + m := by rw [ByteArray.size_append, hdz]; rfl
              simp only [e1, hdz]; omega
          · have hk66 : k = 66 - n := by omega
            have HT := Lib.hid (show ⟨#[48, 120]⟩ ++ d = str ([48, 120] ++ (List.replicate (66 - n) 48 ++ B)) by rw [HD.out, hk66, show (⟨#[48, 120]⟩ : ByteArray) = str [48, 120] from rfl, str_append])
            clear hk66
            go_wp2_with fail
            obtain ⟨t, ht⟩ : ∃ t, t = ⟨#[48, 120]⟩ ++ d := ⟨_, rfl⟩
            rw [← ht] at HT ⊢
            have htl : t.data.toList = [48, 120] ++ (List.replicate (66 - n) 48 ++ B) := by rw [HT.out, str_data]
            have htz : t.size = 66 := by
              have : t.data.toList.length = t.size := rfl
              rw [← this, htl]; simp [HBL.out]; omega
            have HTL := Lib.hid htl
            have HTZ := Lib.hid htz
            rw [← htl] at HR0
            clear ht htl htz
            refine (ref_read t (by rw [HTZ.out]; decide) _).mono ?_
            rintro e w1 ⟨hr, hb⟩
            have hf : w1.free? w.heap.size 0 32 = true := free?_below hb (by simp) hf0.out
            have hlt2 := free?_lt hf
            have H1 := Lib.hid (show Below w.heap.size w w1 from ((Below.refl _ _).alloc (Nat.le_refl _) _).trans (hb.mono (by simp)))
            clear hb
            cases hread : hexRead t.data.toList with
            | none =>
              have HR := Lib.hid (show refWord s.data.toList = none by rw [HR0.out, hread]; rfl)
              obtain rfl := hr.bad hread
              clear hr hread
              go_wp2
              exact ret_row2 ty25 rfl _ _ rfl rfl rfl (row?_setCells_whole _ hf (zU8_ok 32)) ⟨by rw [HR.out]; rfl, H1.out.setCells (Nat.le_refl _) _ _⟩
            | some b =>
              have HR := Lib.hid (show refWord s.data.toList = if u8s (shortL b) = s.data.toList then some b else none by rw [HR0.out, hread]; rfl)
              obtain ⟨v, rfl, ho⟩ := hr.good b hread
              obtain ⟨hb1, hb2⟩ := hexRead_len hread
              have h32 : b.length = 32 := by
                have : t.data.toList.length = t.size := rfl
                have := HTZ.out; omega
              have HB32 := Lib.hid h32
              have HBR := Lib.hid hb2
              rw [h32] at ho
              obtain ⟨g, c3, rfl, hg1, hg2, hrow3⟩ := own_row ho (by decide)
              have hr3 : Hid (w1.row? g 0 32 = some (u8L b)) := Lib.hid hrow3
              have hok : okL 32 (u8L b) = true := u8L_ok _ 32 h32
              clear ho hrow3 hg1 h32 hb1 hb2 hr hread
              go_wp2_with (with_reducible refine wpList_copy_row (g := w1.heap.size) (g2 := g) (n := 32) (n' := 32) (c := c3) (cur := zU8 32) (t := 25) (cs := u8L b) rfl (.tmp 38) (.tmp 39) 33 33 rfl 5 Tryd.underlying33 ?ksz ?kd ?ks ?kg ?kc ?kr hok ?_)
              case ksz => kernel_rfl
              case kd => rfl
              case ks => rfl
              case kg => exact heap_alloc_new _ _
              case kc => simp
              case kr => rw [World.row?_alloc_lt _ hg2]; exact hr3.out
              intro w2 hrow2 hb2
              have hf2 : w2.free? w.heap.size 0 32 = true := free?_below hb2 hlt2 (by rw [World.free?_alloc_lt _ hlt2]; exact hf)
              have H2 := Lib.hid (show Below w.heap.size w w2 from (H1.out.alloc (Nat.le_of_lt hlt2) _).trans (hb2.mono (Nat.le_of_lt hlt2)))
              clear hb2 hf
              go_wp2_with fail
              refine (ref_short b HB32.out HBR.out _).mono ?_
              rintro e w3 ⟨rfl, hb3⟩
              have hf3 : w3.free? w.heap.size 0 32 = true := free?_below hb3 (free?_lt hf2) hf2
              have hrow3 : w3.row? w1.heap.size 0 32 = some (u8L b) := by rw [(brow hb3).1 _ _ _ (World.row?_lt hrow2)]; exact hrow2
              have H3 := Lib.hid (show Below w.heap.size w w3 from H2.out.trans (hb3.mono H2.out.size))
              clear hb3 hf2 hrow2
              obtain ⟨q, hq⟩ : ∃ q, q = strOf (shortL b) := ⟨_, rfl⟩
              have hqs : (q.toList == s.toList) = decide (u8s (shortL b) = s.data.toList) := by
                rw [hq, ByteArray.toList_eq, ByteArray.toList_eq, strOf_u8s, Bool.eq_iff_iff]; simp
              rw [← hq]
              clear hq
              by_cases hfin : u8s (shortL b) = s.data.toList
              · have hqe : (q.toList == s.toList) = true := by rw [hqs]; simpa using hfin
                have HR2 := Lib.hid (show refWord s.data.toList = some b by rw [HR.out, if_pos hfin])
                clear hqs hfin
                go_wp2
                exact ret_row2 ty25 rfl _ _ rfl rfl rfl (row?_setCells_whole _ hf3 hok) ⟨by rw [HR2.out]; rfl, H3.out.setCells (Nat.le_refl _) _ _⟩
              · have hqe : (q.toList == s.toList) = false := by rw [hqs]; simpa using hfin
                have HR2 := Lib.hid (show refWord s.data.toList = none by rw [HR.out, if_neg hfin])
                clear hqs hfin
                go_wp2
                exact ret_row2 ty25 rfl _ _ rfl rfl rfl (row?_setCells_whole _ hf3 (zU8_ok 32)) ⟨by rw [HR2.out]; rfl, H3.out.setCells (Nat.le_refl _) _ _⟩
      · have HR := Lib.hid (refWord_short (s := s.data.toList) (.inr (.inr hpre)))
        have hpe : (p.toList == [48, 120]) = false := by rw [hp, str_toList]; simpa using hpre
        clear hlen hn hp hpre
        go_enter Tryd.func20, Tryd.ntmps20
        go_wp2
        exact ret_row2 ty25 rfl _ _ rfl rfl rfl (row?_setCells_whole _ hf0.out (zU8_ok 32)) ⟨by rw [HR.out]; rfl, ((Below.refl _ _).alloc (Nat.le_refl _) _).setCells (Nat.le_refl _) _ _⟩
end Go.Proofs.YtaoacfkifcglfaaDoor
