/-
  The contract of ops.Name.
-/
import Derived.Test.YtaoacfkifcglfaaDoorOpsN
import Derived.Test.YtaoacfkifcglfaaDoorShelf
namespace Go.Mun
open Go.RowKit
theorem cell_new {w : World} {cs : List Value} {e k : Nat} {v : Value} (h : cs[k]? = some v) : (w.alloc (.cells cs.toArray e)).cell? ⟨w.heap.size, k, none⟩ = some v := by
  rw [cell_of_row _ w.heap.size k _ e (0, 0) (heap_alloc_new w _)]; simpa using h
end Go.Mun
namespace Go.Proofs.YtaoacfkifcglfaaDoor
open Go.RowKit Go.Mun

theorem numbered_at (s : ByteArray) (l : List UInt8) (hr : (Conv.runesFrom s s.size 0 #[]).toList = (i32s l).map (Value.int .i32)) (hl : l.length ≤ 1000) (ha : l.all (fun x => decide (x.toNat < 128)) = true) (n : Nat) (x : Int) (hx : x = n) (hn : n ≤ 99) (w : World) :
    Calls Tryd.prog 46 #[.string s, .int .i64 x] w fun e w' => e = .returned (.string (str (numL l n))) ∧ Below w.heap.size w w' := by
  subst hx
  exact ops_numbered s l hr hl (fun x hx => by simpa using List.all_eq_true.1 ha x hx) n hn w

theorem row_at (h : Nat) (hh : h < 16) (x : Int) (hx : x = h) (w : World) : Calls Tryd.prog 48 #[.int .u8 x] w fun e w' => e = .returned (.string (str (rowL h))) ∧ w = w' := by
  subst hx; exact ops_row h hh w
theorem fields_at (h : Nat) (hh : h < 16) (w : World) (hT : Tab w) :
    Calls Tryd.prog 47 #[.string (str (rowL h))] w fun e w' => e = .returned (.slice (some ⟨w.heap.size, 0, none⟩) (Lib.fields (rowL h)).length (Lib.fields (rowL h)).length) ∧ w.alloc (.cells ((Lib.fields (rowL h)).map fun l => Value.string (str l)).toArray 9) = w' := by
  have ha := row_ascii ⟨h, hh⟩
  have hs : (str (rowL h)).size < 4294967281 := by
    have : ∀ k : Fin 16, (str (rowL k.1)).size < 1000 := by decide +kernel
    have := this ⟨h, hh⟩
    simp only at this
    omega
  have := Tryd.strings_Fields (str (rowL h)) w hs (fun j b hj => by
    rw [str_data] at hj
    have := List.all_eq_true.1 ha b (List.mem_of_getElem? hj)
    simpa using this) hT
  rw [str_data] at this
  exact this.mono fun e w' hh => ⟨hh.1, hh.2.symm⟩

set_option maxRecDepth 10000 in
set_option maxHeartbeats 800000 in
theorem ops_name (m : Nat) (hm : m < 256) (w : World) (hT : Tab w) : Calls Tryd.prog 27 #[.int .u8 (m : Int)] w fun e w' => e = .returned (.string (str (nameL m))) ∧ Below w.heap.size w w' := by
  have ea := and_u8_15 (m : Int)
  by_cases h1 : 96 ≤ m ∧ m < 128
  · obtain ⟨k, rfl⟩ : ∃ k, m = 96 + k := ⟨m - 96, by omega⟩
    have hf : Hid (str (numL [80, 85, 83, 72] (k + 1)) = str (nameL (96 + k))) := Lib.hid (by rw [name_push ⟨k, by omega⟩]; rfl)
    obtain ⟨x, hx⟩ : ∃ x : Int, x = ((96 + k : Nat) : Int) := ⟨_, rfl⟩
    rw [← hx] at ea ⊢
    have g0 : 96 ≤ x := by omega
    have g1 : x ≤ 127 := by omega
    have HX := Lib.hid (And.intro hx h1)
    clear hx h1 hm
    go_enter Tryd.func27, Tryd.ntmps27
    go_wp2_with fail
    refine (numbered_at _ [80, 85, 83, 72] rfl (by decide) (by decide) (k + 1) _ (by have := HX.out; omega) (by have := HX.out; omega) _).mono ?_
    rintro e w1 ⟨rfl, hb⟩
    rw [hf.out]
    go_wp2
    go_ret
    exact ⟨rfl, hb⟩
  by_cases h2 : 128 ≤ m ∧ m < 144
  · obtain ⟨k, rfl⟩ : ∃ k, m = 128 + k := ⟨m - 128, by omega⟩
    have hf : Hid (str (numL [68, 85, 80] (k + 1)) = str (nameL (128 + k))) := Lib.hid (by rw [name_dup ⟨k, by omega⟩]; rfl)
    obtain ⟨x, hx⟩ : ∃ x : Int, x = ((128 + k : Nat) : Int) := ⟨_, rfl⟩
    rw [← hx] at ea ⊢
    have g0 : 128 ≤ x := by omega
    have g1 : x ≤ 143 := by omega
    have HX := Lib.hid (And.intro hx h2)
    clear hx h1 h2 hm
    go_enter Tryd.func27, Tryd.ntmps27
    go_wp2_with fail
    refine (numbered_at _ [68, 85, 80] rfl (by decide) (by decide) (k + 1) _ (by have := HX.out; omega) (by have := HX.out; omega) _).mono ?_
    rintro e w1 ⟨rfl, hb⟩
    rw [hf.out]
    go_wp2
    go_ret
    exact ⟨rfl, hb⟩
  by_cases h3 : 144 ≤ m ∧ m < 160
  · obtain ⟨k, rfl⟩ : ∃ k, m = 144 + k := ⟨m - 144, by omega⟩
    have hf : Hid (str (numL [83, 87, 65, 80] (k + 1)) = str (nameL (144 + k))) := Lib.hid (by rw [name_swap ⟨k, by omega⟩]; rfl)
    obtain ⟨x, hx⟩ : ∃ x : Int, x = ((144 + k : Nat) : Int) := ⟨_, rfl⟩
    rw [← hx] at ea ⊢
    have g0 : 144 ≤ x := by omega
    have g1 : x ≤ 159 := by omega
    have HX := Lib.hid (And.intro hx h3)
    clear hx h1 h3 hm
    go_enter Tryd.func27, Tryd.ntmps27
    go_wp2_with fail
    refine (numbered_at _ [83, 87, 65, 80] rfl (by decide) (by decide) (k + 1) _ (by have := HX.out; omega) (by have := HX.out; omega) _).mono ?_
    rintro e w1 ⟨rfl, hb⟩
    rw [hf.out]
    go_wp2
    go_ret
    exact ⟨rfl, hb⟩
  by_cases h4 : 160 ≤ m ∧ m < 165
  · obtain ⟨k, rfl⟩ : ∃ k, m = 160 + k := ⟨m - 160, by omega⟩
    have hf : Hid (str (numL [76, 79, 71] (k)) = str (nameL (160 + k))) := Lib.hid (by rw [name_log ⟨k, by omega⟩]; rfl)
    obtain ⟨x, hx⟩ : ∃ x : Int, x = ((160 + k : Nat) : Int) := ⟨_, rfl⟩
    rw [← hx] at ea ⊢
    have g0 : 160 ≤ x := by omega
    have g1 : x ≤ 164 := by omega
    have HX := Lib.hid (And.intro hx h4)
    clear hx h1 h4 hm
    go_enter Tryd.func27, Tryd.ntmps27
    go_wp2_with fail
    refine (numbered_at _ [76, 79, 71] rfl (by decide) (by decide) (k) _ (by have := HX.out; omega) (by have := HX.out; omega) _).mono ?_
    rintro e w1 ⟨rfl, hb⟩
    rw [hf.out]
    go_wp2
    go_ret
    exact ⟨rfl, hb⟩
  · obtain ⟨h, n, hn, rfl⟩ : ∃ h n, n < 16 ∧ m = 16 * h + n := ⟨m / 16, m % 16, by omega, by omega⟩
    have hh : h < 16 := by omega
    have hf := name_rows ⟨h, hh⟩ ⟨n, hn⟩ (by simp only; omega)
    simp only at hf
    have HF := Lib.hid hf
    obtain ⟨x, hx⟩ : ∃ x : Int, x = ((16 * h + n : Nat) : Int) := ⟨_, rfl⟩
    rw [← hx] at ea ⊢
    have g0 : 0 ≤ x := by omega
    have g1 : x ≤ 255 := by omega
    have g2 : x % 16 = (n : Int) := by omega
    have en : ((n : Nat) : Int) = x % 16 := g2.symm
    rw [g2] at ea
    have c1 : (decide (96 ≤ x) && decide (x ≤ 127)) = false := by simp; omega
    have H4 : Hid (x < 96 ∨ 165 ≤ x) := Lib.hid (by omega)
    have HX := Lib.hid hx
    have HT := Lib.hid hT
    clear hx h1 h2 h3 h4 hm hf hT c1 g2 en
    by_cases hlo : x < 96
    · clear H4
      go_enter Tryd.func27, Tryd.ntmps27
      go_wp2_with fail
      refine (row_at h hh _ (by have := HX.out; omega) _).mono ?_
      rintro e w1 ⟨rfl, rfl⟩
      go_wp2_with fail
      refine (fields_at h hh _ HT.out).mono ?_
      rintro e w1 ⟨rfl, rfl⟩
      generalize Lib.fields (rowL h) = fs at *
      have hb := Lib.hid ((Below.refl w.heap.size w).alloc (Nat.le_refl _) (.cells (fs.map fun l => Value.string (str l)).toArray 9))
      by_cases hlen : fs.length ≤ n
      · have hf : Hid (nameL (16 * h + n) = []) := Lib.hid (by rw [HF.out, if_pos hlen])
        have hlen2 : (fs.length : Int) ≤ (n : Int) := by omega
        clear hlen
        go_wp2
        go_ret
        exact ⟨by rw [hf.out]; rfl, hb.out⟩
      · have hlt : n < fs.length := by omega
        have hat : fs[n]? = some fs[n] := List.getElem?_eq_getElem hlt
        have hcell : (w.alloc (.cells (fs.map fun l => Value.string (str l)).toArray 9)).cell? ⟨w.heap.size, n, none⟩ = some (.string (str fs[n])) := cell_new (by simp [hat])
        have hf : Hid (nameL (16 * h + n) = if fs[n] = [45] then [] else fs[n]) := Lib.hid (by rw [HF.out, if_neg hlen, hat]; rfl)
        have hlt2 : (n : Int) < (fs.length : Int) := by omega
        have hn0 : (0 : Int) ≤ (n : Int) := by omega
        obtain ⟨W, hW⟩ : ∃ W, W = w.alloc (.cells (fs.map fun l => Value.string (str l)).toArray 9) := ⟨_, rfl⟩
        rw [← hW] at hcell ⊢
        have hb2 : Hid (Below w.heap.size w W) := Lib.hid (by rw [hW]; exact hb.out)
        clear hat hlen hW hb
        obtain ⟨q, hq⟩ : ∃ q, q = str fs[n] := ⟨_, rfl⟩
        obtain ⟨len, hl⟩ : ∃ len, len = fs.length := ⟨_, rfl⟩
        rw [← hq] at hcell
        rw [← hl] at hlt hlt2 ⊢
        have HQ := Lib.hid hq
        by_cases h45 : fs[n] = [45]
        · have hqe : (q.toList == [45]) = true := by rw [hq, str_toList, h45]; rfl
          have hf2 : Hid (nameL (16 * h + n) = []) := Lib.hid (by rw [hf.out, if_pos h45])
          clear hf h45 hq hl
          go_wp2
          go_ret
          exact ⟨by rw [hf2.out]; rfl, hb2.out⟩
        · have hqe : (q.toList == [45]) = false := by rw [hq, str_toList]; simpa using h45
          have hf2 : Hid (q = str (nameL (16 * h + n))) := Lib.hid (by rw [hf.out, if_neg h45, hq])
          clear hf h45 hq hl
          go_wp2
          go_ret
          exact ⟨by rw [← hf2.out]; rfl, hb2.out⟩
    · have hhi : 165 ≤ x := by have := H4.out; omega
      clear H4 hlo
      go_enter Tryd.func27, Tryd.ntmps27
      go_wp2_with fail
      refine (row_at h hh _ (by have := HX.out; omega) _).mono ?_
      rintro e w1 ⟨rfl, rfl⟩
      go_wp2_with fail
      refine (fields_at h hh _ HT.out).mono ?_
      rintro e w1 ⟨rfl, rfl⟩
      generalize Lib.fields (rowL h) = fs at *
      have hb := Lib.hid ((Below.refl w.heap.size w).alloc (Nat.le_refl _) (.cells (fs.map fun l => Value.string (str l)).toArray 9))
      by_cases hlen : fs.length ≤ n
      · have hf : Hid (nameL (16 * h + n) = []) := Lib.hid (by rw [HF.out, if_pos hlen])
        have hlen2 : (fs.length : Int) ≤ (n : Int) := by omega
        clear hlen
        go_wp2
        go_ret
        exact ⟨by rw [hf.out]; rfl, hb.out⟩
      · have hlt : n < fs.length := by omega
        have hat : fs[n]? = some fs[n] := List.getElem?_eq_getElem hlt
        have hcell : (w.alloc (.cells (fs.map fun l => Value.string (str l)).toArray 9)).cell? ⟨w.heap.size, n, none⟩ = some (.string (str fs[n])) := cell_new (by simp [hat])
        have hf : Hid (nameL (16 * h + n) = if fs[n] = [45] then [] else fs[n]) := Lib.hid (by rw [HF.out, if_neg hlen, hat]; rfl)
        have hlt2 : (n : Int) < (fs.length : Int) := by omega
        have hn0 : (0 : Int) ≤ (n : Int) := by omega
        obtain ⟨W, hW⟩ : ∃ W, W = w.alloc (.cells (fs.map fun l => Value.string (str l)).toArray 9) := ⟨_, rfl⟩
        rw [← hW] at hcell ⊢
        have hb2 : Hid (Below w.heap.size w W) := Lib.hid (by rw [hW]; exact hb.out)
        clear hat hlen hW hb
        obtain ⟨q, hq⟩ : ∃ q, q = str fs[n] := ⟨_, rfl⟩
        obtain ⟨len, hl⟩ : ∃ len, len = fs.length := ⟨_, rfl⟩
        rw [← hq] at hcell
        rw [← hl] at hlt hlt2 ⊢
        have HQ := Lib.hid hq
        by_cases h45 : fs[n] = [45]
        · have hqe : (q.toList == [45]) = true := by rw [hq, str_toList, h45]; rfl
          have hf2 : Hid (nameL (16 * h + n) = []) := Lib.hid (by rw [hf.out, if_pos h45])
          clear hf h45 hq hl
          go_wp2
          go_ret
          exact ⟨by rw [hf2.out]; rfl, hb2.out⟩
        · have hqe : (q.toList == [45]) = false := by rw [hq, str_toList]; simpa using h45
          have hf2 : Hid (q = str (nameL (16 * h + n))) := Lib.hid (by rw [hf.out, if_neg h45, hq])
          clear hf h45 hq hl
          go_wp2
          go_ret
          exact ⟨by rw [← hf2.out]; rfl, hb2.out⟩
end Go.Proofs.YtaoacfkifcglfaaDoor
