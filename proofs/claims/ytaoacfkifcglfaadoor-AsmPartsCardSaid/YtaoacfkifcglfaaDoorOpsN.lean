/-
  Contracts of ops.numbered, ops.row, ops.Name.
-/
import Derived.Test.YtaoacfkifcglfaaDoorOpsP
import Derived.Test.YtaoacfkifcglfaaDoorJumps
import Derived.Laws.IdiomStrings
import Derived.Laws.Cover4
namespace Go.Mun
open Go.RowKit

/-- A text of ASCII as runes: a row of the call's own. -/
theorem runes_own {P : Program} {src dst e : TypeId} (hs : P.underlying src = some .string) (hd : P.underlying dst = some (.slice e)) (he : P.underlying e = some (.int .i32)) (s : ByteArray) (l : List Int)
    (hr : (Conv.runesFrom s s.size 0 #[]).toList = l.map (Value.int .i32)) (hl : l.length ≤ 1000000) (w : World) :
    ∃ v w1, (convert src dst (.string s)).run P w = .ok v w1 ∧ w1.ownsRow w.heap.size e 1 v l.length (l.map (Value.int .i32)) ∧ Below w.heap.size w w1 ∧ w.heap.size < w1.heap.size ∧ (∃ x, v = .slice (some ⟨w.heap.size, 0, none⟩) l.length x) := by
  have hsz : (Conv.runesFrom s s.size 0 #[]).size = l.length := by rw [← Array.length_toList, hr]; simp
  have h := run_runes_of_string (P := P) w src dst e s hs hd he (by omega)
  have hg := grownCap_ge w l.length 0 e
  have hm := grownCap_le_maxLen w l.length 0 e (by unfold maxLen; omega)
  rw [hsz] at h
  refine ⟨_, _, h, ⟨by simp, .inr ⟨w.heap.size, _, _, rfl, Nat.le_refl _, heap_alloc_new w.drew _, hg, hm, ?_, ?_⟩⟩, ?_, by simp, ⟨_, rfl⟩⟩
  · simp [hsz]; omega
  · simp [hr]
  · exact (Below.refl _ _).drew.alloc (Nat.le_refl _) _

theorem run_runes_str {P : Program} {src dst e : TypeId} (hs : P.underlying src = some (.slice e)) (he : P.underlying e = some (.int .i32)) (hd : P.underlying dst = some .string)
    {w : World} {a : Option Addr} {n c : Nat} {l : List Int} (hn : n = l.length) (hI : Ints w .i32 a c l) (h0 : 0 < n) : (convert src dst (.slice a n c)).run P w = .ok (.string (runesBytes l)) w := by
  subst hn
  obtain ⟨b, off, rfl, _, hc⟩ := hI.at h0
  have := run_convert_runes (P := P) w src dst e ⟨b, off, none⟩ l.length c l (Nat.le_refl _) hs he hd (fun j hj => by
    rw [add_off rfl, hc j hj]; rfl)
  rw [List.take_of_length_le (Nat.le_refl _)] at this
  exact this
theorem encode_ascii (x : UInt8) (h : x.toNat < 128) : Utf8.encode (x.toNat : Int) = str [x] := by
  have : ∀ n : Fin 128, Utf8.encode ((n.1 : Nat) : Int) = str [UInt8.ofNat n.1] := by decide +kernel
  have e := this ⟨x.toNat, h⟩
  simpa using e
theorem runesBytes_ascii (l : List UInt8) (h : ∀ x ∈ l, x.toNat < 128) : runesBytes (l.map fun x => (x.toNat : Int)) = str l := by
  have key : ∀ (l : List UInt8) (m : List UInt8), (∀ x ∈ l, x.toNat < 128) → (l.map fun x => (x.toNat : Int)).foldl (fun r n => r ++ Utf8.encode n) (str m) = str (m ++ l) := by
    intro l
    induction l with
    | nil => intro m _; simp
    | cons x l ih =>
      intro m h
      rw [List.map_cons, List.foldl_cons, encode_ascii x (h x (by simp)), str_append, ih _ (fun y hy => h y (by simp [hy]))]
      simp
  have := key l [] h
  rw [List.nil_append] at this
  exact this
end Go.Mun
namespace Go.Proofs.YtaoacfkifcglfaaDoor
open Go.RowKit Go.Mun

def Tab (w : World) : Prop := Lib.TabIs Tryd.prog w "strings.asciiSpace" .u8 Lib.asciiSpaceTab
theorem Tab.below {w w' : World} (h : Tab w) (hb : Below w.heap.size w w') : Tab w' := by
  unfold Tab Lib.TabIs at *
  refine var?_below hb (g := 0) (by kernel_rfl) ?_ h
  unfold World.var? at h
  have hg : Tryd.prog.globalNamed "strings.asciiSpace" = some 0 := by kernel_rfl
  simp only [hg, Option.bind_some] at h
  cases hx : w.heap[0]? with
  | none => rw [hx] at h; simp at h
  | some o => exact (Array.getElem?_eq_some_iff.1 hx).1

set_option maxRecDepth 10000 in
theorem ops_row (h : Nat) (hh : h < 16) (w : World) : Calls Tryd.prog 48 #[.int .u8 (h : Int)] w fun e w' => e = .returned (.string (str (rowL h))) ∧ w = w' := by
  obtain rfl | rfl | rfl | rfl | rfl | rfl | rfl | rfl | rfl | rfl | rfl | rfl | rfl | rfl | rfl | rfl : h = 0 ∨ h = 1 ∨ h = 2 ∨ h = 3 ∨ h = 4 ∨ h = 5 ∨ h = 6 ∨ h = 7 ∨ h = 8 ∨ h = 9 ∨ h = 10 ∨ h = 11 ∨ h = 12 ∨ h = 13 ∨ h = 14 ∨ h = 15 := by omega
  all_goals
    clear hh
    go_enter Tryd.func48, Tryd.ntmps48
    go_wp2
    go_ret
    exact ⟨rfl, rfl⟩

def numL (l : List UInt8) (n : Nat) : List UInt8 := l ++ (if 9 < n then [UInt8.ofNat (48 + n / 10)] else []) ++ [UInt8.ofNat (48 + n % 10)]
theorem elem103 : ElemOf Tryd.prog 103 21 (.int .i32 0) 1 4 := .mk' Tryd.underlying103 (by kernel_rfl) rfl (by decide)
def i32s (l : List UInt8) : List Int := l.map fun x => (x.toNat : Int)

set_option maxRecDepth 10000 in
set_option maxHeartbeats 400000 in
theorem ops_numbered (s : ByteArray) (l : List UInt8) (hr : (Conv.runesFrom s s.size 0 #[]).toList = (i32s l).map (Value.int .i32)) (hl : l.length ≤ 1000) (ha : ∀ x ∈ l, x.toNat < 128) (n : Nat) (hn : n ≤ 99) (w : World) :
    Calls Tryd.prog 46 #[.string s, .int .i64 (n : Int)] w fun e w' => e = .returned (.string (str (numL l n))) ∧ Below w.heap.size w w' := by
  have hli : (i32s l).length = l.length := by simp [i32s]
  obtain ⟨v, w1, hcv, ho, hb, hlt, x, rfl⟩ := runes_own (P := Tryd.prog) Tryd.underlying9 Tryd.underlying103 Tryd.underlying21 s (i32s l) hr (by omega) w
  rw [hli] at hcv ho
  have HO := Lib.hid ho
  have HB := Lib.hid hb
  have HA := Lib.hid ha
  have HL := Lib.hid hli
  clear hr ho hb ha hli
  have d0 : ((UInt8.ofNat (48 + n % 10)).toNat : Int) = 48 + (n : Int) % 10 := by
    rw [UInt8.toNat_ofNat_of_lt' (by show _ < 256; omega)]; omega
  by_cases h9 : 9 < n
  · have d1 : ((UInt8.ofNat (48 + n / 10)).toNat : Int) = 48 + (n : Int) / 10 := by
      rw [UInt8.toNat_ofNat_of_lt' (by show _ < 256; omega)]; omega
    have HN : Hid (i32s l ++ [48 + (n : Int) / 10] ++ [48 + (n : Int) % 10] = i32s (numL l n)) := Lib.hid (by
      unfold numL i32s
      rw [if_pos h9, List.map_append, List.map_append, List.map_singleton, List.map_singleton, d0, d1])
    have HM : Hid (∀ x ∈ numL l n, x.toNat < 128) := Lib.hid (by
      intro x hx
      unfold numL at hx
      rw [if_pos h9] at hx
      simp only [List.mem_append, List.mem_singleton] at hx
      rcases hx with (hx | rfl) | rfl
      · exact HA.out x hx
      · omega
      · omega)
    clear d0 d1
    go_enter Tryd.func46, Tryd.ntmps46
    go_wp2_with (at_builtin; go_must (refine wpList_append_at (o := ⟨some 16, _, _, _, _, _⟩) (base := w.heap.size) (n := l.length) (xs := (i32s l).map (Value.int .i32)) (cs := [48 + (n : Int) / 10].map (Value.int .i32)) elem103 rfl _ _ rfl rfl rfl ?own ?c0 ?c1 ?c3 ?c4 ?c5 ?_))
    case own => exact HO.out
    case c0 => rfl
    case c1 => exact okL_ints .i32 _
    case c3 => unfold maxLen; omega
    case c4 => omega
    case c5 => omega
    intro v2 w2 ho2 hg2 _
    have HO2 := Lib.hid ho2
    have HB2 := Lib.hid (show Below w.heap.size w w2 from HB.out.grown hg2 (by omega) (fun k hk => (HO.out.lt k hk).1))
    have hlt2 : w.heap.size < w2.heap.size := Nat.lt_of_lt_of_le hlt hg2.size
    clear ho2 hg2 hcv
    go_wp2_with (at_builtin; go_must (refine wpList_append_at (o := ⟨some 23, _, _, _, _, _⟩) (base := w.heap.size) (n := l.length + 1) (xs := (i32s l).map (Value.int .i32) ++ [48 + (n : Int) / 10].map (Value.int .i32)) (cs := [48 + (n : Int) % 10].map (Value.int .i32)) elem103 rfl _ _ rfl rfl rfl ?own2 ?c02 ?c12 ?c32 ?c42 ?c52 ?_))
    case own2 => exact HO2.out
    case c02 => rfl
    case c12 => exact okL_ints .i32 _
    case c32 => unfold maxLen; omega
    case c42 => omega
    case c52 => omega
    intro v3 w3 ho3 hg3 _
    have ho4 : w3.ownsRow w.heap.size 21 1 v3 (l.length + 1 + 1) ((i32s (numL l n)).map (Value.int .i32)) := by
      rw [← HN.out, List.map_append, List.map_append, List.append_assoc]; exact ho3
    have HB3 := Lib.hid (show Below w.heap.size w w3 from HB2.out.grown hg3 (by omega) (fun k hk => (HO2.out.lt k hk).1))
    obtain ⟨a4, c4, rfl, hn4, hI4⟩ := Ints.of_own' ho4
    have hfin := run_runes_str (P := Tryd.prog) Tryd.underlying103 Tryd.underlying21 Tryd.underlying9 hn4 hI4 (by omega)
    rw [show runesBytes (i32s (numL l n)) = str (numL l n) from runesBytes_ascii _ HM.out] at hfin
    clear ho3 hg3 ho4 hn4 hI4
    go_wp2
    go_ret
    exact ⟨rfl, HB3.out⟩
  · have HN : Hid (i32s l ++ [48 + (n : Int) % 10] = i32s (numL l n)) := Lib.hid (by
      unfold numL i32s
      rw [if_neg h9, List.append_nil, List.map_append, List.map_singleton, d0])
    have HM : Hid (∀ x ∈ numL l n, x.toNat < 128) := Lib.hid (by
      intro x hx
      unfold numL at hx
      rw [if_neg h9, List.append_nil] at hx
      simp only [List.mem_append, List.mem_singleton] at hx
      rcases hx with hx | rfl
      · exact HA.out x hx
      · omega)
    clear d0
    go_enter Tryd.func46, Tryd.ntmps46
    go_wp2_with (at_builtin; go_must (refine wpList_append_at (o := ⟨some 23, _, _, _, _, _⟩) (base := w.heap.size) (n := l.length) (xs := (i32s l).map (Value.int .i32)) (cs := [48 + (n : Int) % 10].map (Value.int .i32)) elem103 rfl _ _ rfl rfl rfl ?own3 ?c03 ?c13 ?c33 ?c43 ?c53 ?_))
    case own3 => exact HO.out
    case c03 => rfl
    case c13 => exact okL_ints .i32 _
    case c33 => unfold maxLen; omega
    case c43 => omega
    case c53 => omega
    intro v3 w3 ho3 hg3 _
    have ho4 : w3.ownsRow w.heap.size 21 1 v3 (l.length + 1) ((i32s (numL l n)).map (Value.int .i32)) := by
      rw [← HN.out, List.map_append]; exact ho3
    have HB3 := Lib.hid (show Below w.heap.size w w3 from HB.out.grown hg3 (by omega) (fun k hk => (HO.out.lt k hk).1))
    obtain ⟨a4, c4, rfl, hn4, hI4⟩ := Ints.of_own' ho4
    have hfin := run_runes_str (P := Tryd.prog) Tryd.underlying103 Tryd.underlying21 Tryd.underlying9 hn4 hI4 (by omega)
    rw [show runesBytes (i32s (numL l n)) = str (numL l n) from runesBytes_ascii _ HM.out] at hfin
    clear ho3 hg3 ho4 hn4 hI4 hcv
    go_wp2
    go_ret
    exact ⟨rfl, HB3.out⟩
end Go.Proofs.YtaoacfkifcglfaaDoor
