/-
  Parts of the reference's array of accounts.
  The reference's place of an account, which is made.
-/
import Derived.Test.YtfflppedbopdpaaGreatQSrw
import Derived.Test.YtfflppedbopdpaaGreatQCx0
set_option linter.unusedVariables false
set_option maxRecDepth 1000000
set_option maxHeartbeats 8000000
set_option linter.unusedSimpArgs false
namespace Go.Proofs.YtfflppedbopdpaaGreat
open Go.RowKit Go.Mun

theorem _root_.Go.Mun.SlotsAt.form {w : World} {own : Go.Mun.Own} {sv : Value} {sl : List (Nat × Nat)} (h : SlotsAt w own sv sl) : ∃ a c, sv = .slice a sl.length c := by
 rcases h.read.2 with ⟨rfl, h0⟩ | ⟨g, cap, cur, rfl, _⟩
 ·exact ⟨none, 0, by rw [h0]⟩
 ·exact ⟨_, _, rfl⟩
theorem racC_ok {w : World} {own : Go.Mun.Own} {p : RAc × Value × Value} (h : RAcOk w own p) : okL 55 (racC p) = true := by
 obtain ⟨a, c, h1, _⟩ := h.code.read
 obtain ⟨a2, c2, h2⟩ := h.slots.form
 unfold racC
 rw [h1, h2]
 refine okL_cat (acS_len _ _ _) fun s hs => ?_
 simp only [acS, List.mem_cons, List.not_mem_nil, or_false] at hs
 rcases hs with rfl | rfl | rfl | rfl | rfl
 all_goals first | rfl | (rw [beC_len]; exact beC_ok _ _)
theorem rowsR_ok {w : World} {own : Go.Mun.Own} {ps : List (RAc × Value × Value)} (h : ∀ p ∈ ps, RAcOk w own p) : okL (ps.length * 55) (rowsR ps) = true := by
 refine okL_mk (rowsR_len ps) fun v hv => ?_
 obtain ⟨p, hp, hv2⟩ := List.mem_flatMap.1 hv
 exact okL_mem (racC_ok (h p hp)) v hv2
def tailV (a : Option Addr) (n c k : Nat) : Option Addr := if c = k then a else a.map (·.add (k * 55))
theorem slice31_tail (a : Option Addr) (n c k : Nat) (hk : k ≤ n) (w : World) : (Instr.slice 45 (.slice a n c) (some (.int .i64 (k : Int))) none none).run Tryz.prog w = .ok (.slice (tailV a n c k) (n - k) (c - k)) w := by
 have he : Tryz.prog.elem 45 = 35 := by kernel_rfl
 have hs : (sizeOf 35).run Tryz.prog w = .ok 55 w := by kernel_rfl
 rw [run_slice_l w 45 a n c (by rw [he]; exact Tryz.underlying45) .i64 (k : Int) (by omega) (by omega), he, hs]
 simp only [Result.andThen, sliced, Int.toNat_natCast]
 rfl
theorem slice31_head (a : Option Addr) (n c k : Nat) (hk : k ≤ c) (w : World) : (Instr.slice 45 (.slice a n c) none (some (.int .i64 (k : Int))) none).run Tryz.prog w = .ok (.slice a k c) w := by
 have he : Tryz.prog.elem 45 = 35 := by kernel_rfl
 have hs : (sizeOf 35).run Tryz.prog w = .ok 55 w := by kernel_rfl
 rw [run_slice_h w 45 a n c (by rw [he]; exact Tryz.underlying45) .i64 (k : Int) (by omega) (by omega), he, hs]
 have ha : (if c = 0 then a else a.map (·.add (0 * 55))) = a := by
  split
  ·rfl
  ·cases a with
   | none => rfl
   | some a => simp [Addr.add]
 simp only [Result.andThen, sliced, Int.toNat_natCast, Nat.sub_zero, ha]
section
variable {w : World} {own : Go.Mun.Own} {a : Option Addr} {c n : Nat} {ps : List (RAc × Value × Value)}
theorem _root_.Go.Mun.RArr.src_tail (h : RArr w own (.slice a ps.length c) ps) (k : Nat) (hk : k ≤ ps.length) : SrcAt w (tailV a ps.length c k) (c - k) (ps.length - k) 55 (rowsR (ps.drop k)) := by
 refine ⟨?_, fun hm => ?_, fun e => ?_⟩
 ·have := rowsR_ok (ps := ps.drop k) (fun p hp => h.ok p (List.mem_of_mem_drop hp))
  rwa [List.length_drop] at this
 ·obtain ⟨g, c', hv, _, hc, _, hr, _⟩ := own_words h.cells (by omega)
  cases hv
  refine ⟨g, k * 55, ?_, fun j u hu => ?_⟩
  ·unfold tailV
   rw [if_neg (by omega), Option.map_some, add_off rfl, Nat.zero_add]
  ·rw [← rowsR_drop, List.getElem?_drop] at hu
   have hj := (List.getElem?_eq_some_iff.1 hu).1
   rw [rowsR_len] at hj
   have := World.row?_cell hr (i := k * 55 + j) hj
   rw [Nat.zero_add] at this
   rw [this]; exact hu
 ·rcases h.cells.2 with ⟨h1, h2⟩ | ⟨g, cap, cur, h1, h2, h3, h4⟩
  ·injection h1 with e1 e2 e3; omega
  ·injection h1 with e1 e2 e3
   subst e1
   unfold tailV at e
   split at e <;> simp at e
theorem _root_.Go.Mun.RArr.src_head (h : RArr w own (.slice a ps.length c) ps) (k : Nat) (hk : k ≤ ps.length) : SrcAt w a c k 55 (rowsR (ps.take k)) := by
 refine ⟨?_, fun hm => ?_, fun e => ?_⟩
 ·have := rowsR_ok (ps := ps.take k) (fun p hp => h.ok p (List.mem_of_mem_take hp))
  rwa [List.length_take, Nat.min_eq_left hk] at this
 ·obtain ⟨g, c', hv, _, hc, _, hr, _⟩ := own_words h.cells (by omega)
  cases hv
  refine ⟨g, 0, rfl, fun j u hu => ?_⟩
  rw [← rowsR_take, List.getElem?_take] at hu
  split at hu
  ·have hj := (List.getElem?_eq_some_iff.1 hu).1
   rw [rowsR_len] at hj
   have := World.row?_cell hr (i := j) hj
   rw [Nat.zero_add] at this ⊢
   rw [this]; exact hu
  ·cases hu
 ·subst e
  rcases h.cells.2 with ⟨h1, h2⟩ | ⟨g, cap, cur, h1, h2, h3, h4⟩
  ·injection h1 with e1 e2 e3; omega
  ·injection h1 with e1 e2 e3; cases e1
theorem _root_.Go.Mun.RArr.form {v : Value} (h : RArr w own v ps) : ∃ a c, v = .slice a ps.length c := by
 rcases h.cells.2 with ⟨rfl, h0⟩ | ⟨g, cap, cur, rfl, _⟩
 ·exact ⟨none, 0, by rw [h0]⟩
 ·exact ⟨_, _, rfl⟩
theorem rowsR_at (ps : List (RAc × Value × Value)) (i : Nat) (hi : i < ps.length) : ((rowsR ps).drop (i * 55)).take 55 = racC ps[i] := by
 rw [rowsR_drop, List.drop_eq_getElem_cons hi, rowsR_cons, List.take_left' (racC_len _)]
theorem _root_.Go.Mun.RArr.row {v : Value} (h : RArr w own v ps) {i : Nat} (hi : i < ps.length) : ∃ g c, v = .slice (some ⟨g, 0, none⟩) ps.length c ∧ own g = some .acc ∧ w.row? g (i * 55) 55 = some (racC ps[i]) ∧ w.free? g (i * 55) 55 = true := by
 obtain ⟨g, c, rfl, _, hc, _, hr, hf⟩ := own_words h.cells (by omega)
 refine ⟨g, c, rfl, h.lab g rfl, ?_, World.free?_sub hf (by omega)⟩
 have h1 := World.row?_sub hr (o' := i * 55) (n' := 55) (by omega) (by omega)
 rw [h1, Nat.sub_zero, rowsR_at ps i hi]
end
theorem slice23o (b o : Nat) (w : World) : (Instr.sliceAt 23 (.pointer (some ⟨b, o, none⟩)) none none none).run Tryz.prog w = .ok (.slice (some ⟨b, o, none⟩) 20 20) w := by
 have hl : Tryz.prog.arrayLen 23 = 20 := by kernel_rfl
 have he : Tryz.prog.elem 23 = 5 := by kernel_rfl
 have hs : (sizeOf 5).run Tryz.prog w = .ok 1 w := by kernel_rfl
 rw [run_sliceAt_array_all w 23 ⟨b, o, none⟩ (by rw [hl, he]; exact Tryz.underlying23), he, hs, hl]
 simp only [Result.andThen, slicedAt, Nat.zero_mul, Nat.sub_zero]
 rw [if_neg (by omega), add_off rfl, Nat.add_zero]
theorem adr_string {w : World} {b o x : Nat} (h : w.row? b o 20 = some (beC 20 x)) : (convert 26 9 (.slice (some ⟨b, o, none⟩) 20 20)).run Tryz.prog w = .ok (.string (strOf (be 20 x))) w := by
 refine run_bytes_string' (P := Tryz.prog) Tryz.underlying26 Tryz.underlying5 Tryz.underlying9 (by simp) ?_
 refine ⟨fun _ => ⟨b, o, rfl, fun i hi => ?_⟩, fun h => (by cases h), by simp, by decide⟩
 have hi' : i < 20 := by simpa using hi
 rw [World.row?_cell h hi']
 unfold beC
 rw [List.getElem?_map]
 cases hx : (be 20 x)[i]? with
 | none => rw [List.getElem?_eq_none_iff] at hx; simp at hx; omega
 | some y => simp
end Go.Proofs.YtfflppedbopdpaaGreat
namespace Go.Proofs.YtfflppedbopdpaaGreat
open Go.RowKit Go.Mun
end Go.Proofs.YtfflppedbopdpaaGreat
namespace Go.Mun
open Go.RowKit
def hot (own : Own) (b : Nat) : Prop := own b ≠ none ∧ own b ≠ some .code ∧ own b ≠ some (.smap 0)
structure ChgR (w w' : World) (own own' : Own) : Prop where
 ext : ∀ b, b < w.heap.size → own' b = own b
 only : Only (hot own) w w'
theorem ChgR.refl (w : World) (own : Own) : ChgR w w own own := ⟨fun _ _ => rfl, Only.refl _ _⟩
theorem ChgR.below {w w' : World} (own : Own) (h : Below w.heap.size w w') : ChgR w w' own own := ⟨fun _ _ => rfl, Only.of_below_size h⟩
theorem ChgR.trans {w w1 w2 : World} {own own1 own2 : Own} (h : ChgR w w1 own own1) (k : ChgR w1 w2 own1 own2) : ChgR w w2 own own2 :=
 ⟨fun b hb => (k.ext b (Nat.lt_of_lt_of_le hb h.only.size)).trans (h.ext b hb), h.only.trans k.only fun i hi hb => by unfold hot at *; rw [← h.ext i hb]; exact hi⟩
theorem ChgR.chg {w w' : World} {own own' : Own} (h : ChgR w w' own own') : Chg w w' own own' := ⟨h.ext, h.only.mono fun b hb => hb.1⟩
theorem hot_lab {own : Own} {b : Nat} {l : Lab} (h : own b = some l) (h1 : l ≠ .code) (h2 : l ≠ .smap 0) : hot own b := ⟨by rw [h]; simp, by rw [h]; simpa using h1, by rw [h]; simpa using h2⟩
end Go.Mun
namespace Go.Proofs.YtfflppedbopdpaaGreat
open Go.RowKit Go.Mun

theorem _root_.Go.Mun.RStC.newArr {w w' : World} {own : Go.Mun.Own} {sb : Nat} {lv mv v' : Value} {ps ps' : List (RAc × Value × Value)} {ms : List (Nat × Value × List (RAc × Value × Value))} {n : Nat} (h : RStC w own sb lv mv ps ms n) (ho : Only (· = sb) w w')
  (hrow : w'.row? sb 0 3 = some [v', mv, .int .i64 n]) (hfree : w'.free? sb 0 3 = true) (hc : w'.ownsRow 0 35 55 v' ps'.length (rowsR ps')) (hnew : ∀ g, v'.ownBlock = some g → w.heap.size ≤ g) (hup : Rising (ps'.map fun p => p.1))
  (hok : ∀ p ∈ ps', RAcOk w own p) : RStC w' (fun b => if v'.ownBlock = some b then some .acc else own b) sb v' mv ps' ms n ∧ ChgR w w' own (fun b => if v'.ownBlock = some b then some .acc else own b) := by
 have hle : own.le (fun b => if v'.ownBlock = some b then some .acc else own b) := by
  intro b l hb
  have hlt := h.low b (by rw [hb]; simp)
  show (if v'.ownBlock = some b then some Lab.acc else own b) = some l
  rw [if_neg (fun e => by have := hnew b e; omega)]
  exact hb
 have hS : ∀ b, (fun b => b = sb) b → own b ≠ some .code ∧ own b ≠ some (.smap 0) := fun b hb => by
  have : b = sb := hb
  rw [this, h.lab]; simp
 have hsb : ∀ {v : Value} {l : Lab}, l ≠ .st → (∀ g, v.ownBlock = some g → own g = some l) → ∀ g, v.ownBlock = some g → ¬ (g = sb) := fun hl hv g hg e => by
  have := hv g hg
  rw [e, h.lab] at this
  cases this
  exact hl rfl
 refine ⟨{
  lab := hle _ _ h.lab
  row := hrow
  free := hfree
  arr := ⟨hc, fun g hg => by show (if v'.ownBlock = some g then some Lab.acc else own g) = _; rw [if_pos hg], fun p hp => ((hok p hp).only ho hS).le hle⟩
  up := hup
  marks := Only.own h.marks ho fun g hg => hsb (by simp) h.mlab g hg
  mlab := fun g hg => hle _ _ (h.mlab g hg)
  each := fun m hm => ⟨((h.each m hm).1.only ho hS (hsb (by simp) (h.each m hm).1.lab)).le hle, (h.each m hm).2⟩
  apart := ?_
  low := ?_
  count := h.count }, ⟨?_, ?_⟩⟩
 ·refine List.pairwise_cons.2 ⟨fun b hb => ?_, (List.pairwise_cons.1 h.apart).2⟩
  obtain ⟨m, hm, rfl⟩ := List.mem_map.1 hb
  cases hg : v'.ownBlock with
  | none => exact .inl rfl
  | some g =>
   refine .inr fun e => ?_
   have h1 := hnew g hg
   have h2 := h.low g (by rw [(h.each m hm).1.lab g e.symm]; simp)
   omega
 ·intro b hb
  by_cases e : v'.ownBlock = some b
  ·exact ownsRow_lt hc b e
  ·have hb2 : own b ≠ none := by
    intro hn
    apply hb
    show (if v'.ownBlock = some b then some Lab.acc else own b) = none
    rw [if_neg e]; exact hn
   exact Nat.lt_of_lt_of_le (h.low b hb2) ho.size
 ·intro b hb
  show (if v'.ownBlock = some b then some Lab.acc else own b) = own b
  rw [if_neg (fun e => by have := hnew b e; omega)]
 ·exact ho.mono fun b hb => by
   have : b = sb := hb
   exact hot_lab (by rw [this]; exact h.lab) (by simp) (by simp)
theorem newOk {w : World} {own : Go.Mun.Own} {a : Nat} (ha : a < wA) : RAcOk w own (RAc.new a, .slice none 0 0, .slice none 0 0) :=
 ⟨⟨⟨none, 0, rfl, ⟨fun h => absurd rfl h, fun _ => rfl, Nat.le_refl _, Nat.zero_le _⟩, fun h => absurd rfl h⟩, fun x hx => (by cases hx), Nat.zero_le _⟩, ⟨World.ownsRow_nil _ _ _ _, fun g hg => (by simp [Value.ownBlock] at hg), fun p hp => (by cases hp), Nat.zero_le _⟩, ha, (show 0 < wW by decide), ⟨Int.le_refl _, (show (0 : Int) ≤ 9223372036854775807 by decide)⟩⟩
theorem s1_31 (ρ : Operand → Value) (dst : Option Tmp) (x y : Operand) (t : TypeId) (pos : String) (after : Array Edge) (gd : Option (Nat × Bool)) (w : World) : (execOp ρ ⟨dst, .store 45 x y, t, pos, after, gd⟩).run Tryz.prog w = asSkip (stOne Tryz.prog 45 (ρ x) (ρ y) w) := ex_store1 ρ dst x y t pos after gd w (by kernel_rfl)
attribute [go_sem ↓] s1_31
theorem own_shape {w : World} {b e s n : Nat} {v : Value} {xs : List Value} (h : w.ownsRow b e s v n xs) : ∃ ad c, v = .slice ad n c := by
 rcases h.2 with ⟨rfl, rfl⟩ | ⟨g, cap, cur, rfl, _⟩
 ·exact ⟨none, 0, rfl⟩
 ·exact ⟨_, _, rfl⟩
theorem src_own {w : World} {a : Option Addr} {n c size e base : Nat} {cs : List Value} (h : w.ownsRow base e size (.slice a n c) n cs) (hok : okL (n * size) cs = true) : SrcAt w a c n size cs := by
 refine ⟨hok, fun hm => ?_, fun e => ?_⟩
 ·obtain ⟨g, c', hv, _, hc, _, hr, _⟩ := own_words h (by omega)
  cases hv
  refine ⟨g, 0, rfl, fun j u hu => ?_⟩
  have hj := (List.getElem?_eq_some_iff.1 hu).1
  rw [okL_len hok] at hj
  have := World.row?_cell hr (i := j) hj
  rw [this]; exact hu
 ·subst e
  rcases h.2 with ⟨h1, h2⟩ | ⟨g, cap, cur, h1, h2, h3, h4⟩
  ·injection h1 with e1 e2 e3; omega
  ·injection h1 with e1 e2 e3; cases e1
theorem at_made {v w w' : World} {own : Go.Mun.Own} {sb a n : Nat} {lv mv v' : Value} {ps : List (RAc × Value × Value)} {ms : List (Nat × Value × List (RAc × Value × Value))} {k N : Nat} (h : RStC v own sb lv mv ps ms n) (hb : Below v.heap.size v w) (ha : a < wA) (hk : k = posR (ps.map fun p => p.1) a) (hnot : ¬ hasR (ps.map fun p => p.1) a)
  (hN : N = k + 1 + (ps.length - k)) (hv : w.ownsRow 0 35 55 v' N ((([] ++ rowsR (ps.take k)) ++ racC (RAc.new a, .slice none 0 0, .slice none 0 0)) ++ rowsR (ps.drop k))) (hnew : ∀ g, v'.ownBlock = some g → v.heap.size ≤ g) (hw' : w' = w.setCell ⟨sb, 0, none⟩ v') :
  ∃ own', N = (ps.take k ++ (RAc.new a, .slice none 0 0, .slice none 0 0) :: ps.drop k).length ∧ RStC w' own' sb v' mv (ps.take k ++ (RAc.new a, .slice none 0 0, .slice none 0 0) :: ps.drop k) ms n ∧ ChgR v w' own own' ∧ w'.cell? ⟨sb, 0, none⟩ = some v' := by
 have hkl : k ≤ ps.length := by rw [hk]; have := posR_le (ps.map fun p => p.1) a; rwa [List.length_map] at this
 have hlen : (ps.take k ++ (RAc.new a, .slice none 0 0, .slice none 0 0) :: ps.drop k : List (RAc × Value × Value)).length = k + 1 + (ps.length - k) := by
  rw [List.length_append, List.length_take, Nat.min_eq_left hkl, List.length_cons, List.length_drop]; omega
 have hcells : (([] ++ rowsR (ps.take k)) ++ racC (RAc.new a, .slice none 0 0, .slice none 0 0)) ++ rowsR (ps.drop k) = rowsR (ps.take k ++ (RAc.new a, .slice none 0 0, .slice none 0 0) :: ps.drop k) := by
  rw [rowsR_append, rowsR_cons, List.nil_append, List.append_assoc]
 rw [← hN] at hlen
 rw [hcells, ← hlen] at hv
 obtain ⟨g, c, e, _, _, _, _, _⟩ := own_words hv (by rw [hlen, hN]; omega)
 have hsz := hb.size
 have hsl := World.row?_lt h.row
 have hgs : g ≠ sb := fun e2 => by have := hnew g (by rw [e]; rfl); omega
 have ho : Only (· = sb) w w' := by rw [hw']; exact only_cell _ _ _ _
 have hoV : Only (· = sb) v w' := (Only.of_below_size hb).trans ho (fun i h _ => h)
 have hwr : w.row? sb 0 3 = some [lv, mv, .int .i64 n] := ((brow hb).1 _ _ _ hsl).trans h.row
 have hwf : w.free? sb 0 3 = true := ((brow hb).2 _ _ _ hsl).trans h.free
 have hrow : w'.row? sb 0 3 = some [v', mv, .int .i64 n] := by
  rw [hw', row?_setCell_in v' hwr (Nat.zero_le _) (by omega)]
  rfl
 have hup : Rising ((ps.take k ++ (RAc.new a, .slice none 0 0, .slice none 0 0) :: ps.drop k : List (RAc × Value × Value)).map fun p => p.1) := by
  have := rising_atR h.up hnot
  unfold atR at this
  rw [← hk] at this
  simpa [List.map_append, List.map_take, List.map_drop] using this
 obtain ⟨h1, h2⟩ := h.newArr (v' := v') hoV hrow (by rw [hw', free?_setCell']; exact hwf) (Only.own hv ho fun g2 hg2 e2 => by rw [e] at hg2; simp [Value.ownBlock] at hg2; omega) hnew hup (fun p hp => by
  rcases List.mem_append.1 hp with h3 | h3
  ·exact h.arr.ok p (List.mem_of_mem_take h3)
  ·rcases List.mem_cons.1 h3 with rfl | h3
   ·exact newOk ha
   ·exact h.arr.ok p (List.mem_of_mem_drop h3))
 have hc := World.row?_cell hrow (i := 0) (by omega)
 exact ⟨_, hlen.symm, h1, h2, hc⟩
def AtR (a : Nat) (ps ps' : List (RAc × Value × Value)) : Prop :=
 (hasR (ps.map fun p => p.1) a ∧ ps' = ps) ∨ (¬ hasR (ps.map fun p => p.1) a ∧ ps' = ps.take (posR (ps.map fun p => p.1) a) ++ (RAc.new a, .slice none 0 0, .slice none 0 0) :: ps.drop (posR (ps.map fun p => p.1) a))
theorem build35n (a : Nat) : fillL 55 (plOf zs81) (cat zs81) [(0, .agg (beC 20 a).toArray)] = some (racC (RAc.new a, .slice none 0 0, .slice none 0 0)) := by
 rw [fillL_cats _ _ _ zs81_len]
 ·rfl
 ·rw [lensG]
  refine fits_cons ?_ (fits_nil _)
  show some 20 = some (beC 20 a).length; rw [beC_len]
attribute [local irreducible] wpStill
theorem r_at {w : World} {own : Go.Mun.Own} {sb a n : Nat} {lv mv : Value} {ps : List (RAc × Value × Value)} {ms : List (Nat × Value × List (RAc × Value × Value))} (h : RStC w own sb lv mv ps ms n) (ha : a < wA) (hl : ps.length ≤ 1000000) :
  Calls Tryz.prog 169 #[.pointer (some ⟨sb, 0, none⟩), .agg (beC 20 a).toArray] w fun e w' => ∃ own' g c ps', e = .returned (.pointer (some ⟨g, posR (ps.map fun p => p.1) a * 55, none⟩)) ∧ RStC w' own' sb (.slice (some ⟨g, 0, none⟩) ps'.length c) mv ps' ms n ∧ ChgR w w' own own' ∧ AtR a ps ps' := by
 obtain ⟨la, lc, rfl⟩ := h.arr.form
 obtain ⟨w1, e1⟩ : ∃ w1, w1 = w.alloc (.cells (beC 20 a).toArray 23) := ⟨_, rfl⟩
 have hb1 : Below w.heap.size w w1 := by rw [e1]; exact (Below.refl _ _).alloc (Nat.le_refl _) _
 have r1 : w1.row? w.heap.size 0 20 = some (beC 20 a) := by rw [e1]; exact World.row?_alloc_at _ _ _ rfl (beC_len _ _)
 have h1 : RStC w1 own sb (.slice la ps.length lc) mv ps ms n := h.only (S := fun _ => False) (Only.of_below_size hb1) (fun _ h => h.elim)
 obtain ⟨m, hm⟩ : ∃ m, m = ps.length := ⟨_, rfl⟩
 obtain ⟨k9, hk9⟩ : ∃ k9, k9 = posR (ps.map fun p => p.1) a := ⟨_, rfl⟩
 have hpl : k9 ≤ m := by rw [hk9, hm]; have := posR_le (ps.map fun p => p.1) a; rwa [List.length_map] at this
 have HBL : Hid (∀ i (hi : i < ps.length), i < k9 → ps[i].1.ac.addr < a) := by
  intro i hi hik
  obtain ⟨x, hx, hlt⟩ := posR_lt (ps.map fun p => p.1) a i (by rw [← hk9]; exact hik)
  rw [List.getElem?_map, List.getElem?_eq_getElem hi] at hx
  simp at hx; rw [hx]; exact hlt
 have HGE : Hid (∀ (hi : k9 < ps.length), a ≤ ps[k9].1.ac.addr) := by
  intro hi
  have := posR_at (ps.map fun p => p.1) a (ps[k9].1) (by rw [← hk9, List.getElem?_map, List.getElem?_eq_getElem hi]; rfl)
  exact this
 have HHAS : Hid (hasR (ps.map fun p => p.1) a ↔ ∃ (hi : k9 < ps.length), ps[k9].1.ac.addr = a) := by
  unfold hasR
  rw [← hk9]
  constructor
  ·rintro ⟨x, hx, hxa⟩
   rw [List.getElem?_map] at hx
   cases hg : ps[k9]? with
   | none => rw [hg] at hx; cases hx
   | some y =>
    rw [hg] at hx
    obtain ⟨hi, he⟩ := List.getElem?_eq_some_iff.1 hg
    refine ⟨hi, ?_⟩
    simp at hx
    rw [he, hx]; exact hxa
  ·rintro ⟨hi, he⟩
   exact ⟨ps[k9].1, by rw [List.getElem?_map, List.getElem?_eq_getElem hi]; rfl, he⟩
 have H1 := Lib.hid h1
 have HE := Lib.hid e1
 have HB1 := Lib.hid hb1
 have HR1 := Lib.hid r1
 have HM := Lib.hid hm
 have HK := Lib.hid hk9
 rw [← hk9]
 rw [← hm] at hl
 have hla := beC_len 20 a
 clear h h1 e1 hb1 r1 hk9
 go_enter Tryz.func169, Tryz.ntmps169
 go_wp2_with fail
 rw [← HE.out]
 go_loopw [5] (fun ix wr => ∃ k : Nat, k ≤ k9 ∧ ix = .int .i64 (k : Int) ∧ Below w1.heap.size w1 wr) (fun ix _ => k9 + 1 - (intOf ix).toNat)
 case atStart => exact ⟨0, by omega, rfl, Below.refl _ _⟩
 case round =>
  obtain ⟨k, hk, rfl, hbw⟩ := hrel
  have hw2 : RStC wr.drew own sb (.slice la ps.length lc) mv ps ms n := H1.out.only (S := fun _ => False) (Only.of_below_size hbw.drew) (fun _ h => h.elim)
  have c0 := World.row?_cell hw2.row (i := 0) (by omega)
  simp only [Nat.zero_add, List.getElem?_cons_zero] at c0
  rw [← hm] at c0
  have r2 : wr.drew.row? w.heap.size 0 20 = some (beC 20 a) := ((brow hbw.drew).1 _ _ _ (World.row?_lt HR1.out)).trans HR1.out
  have HBW := Lib.hid hbw
  have HW2 := Lib.hid hw2
  clear hbw hw2
  by_cases hkm : k < m
  ·have hkp : k < ps.length := by omega
   obtain ⟨g, c', hlv, hgo, hrow, hfr⟩ := HW2.out.arr.row hkp
   cases hlv
   have hxa := (HW2.out.arr.ok _ (List.getElem_mem hkp)).addr
   have hb := HBL.out k hkp
   obtain ⟨x, hx⟩ : ∃ x, x = ps[k].1.ac.addr := ⟨_, rfl⟩
   have r3 : wr.drew.row? g (k * 55) 20 = some (beC 20 x) := by rw [hx]; exact row_cat hrow (i := 0) rfl (by simp [acS, offOf_zero]) (by simp)
   have q1 := adr_string r3
   have q2 := adr_string r2
   have s1 := slice23o g (k * 55) wr.drew
   have s2 := slice23o w.heap.size 0 wr.drew
   have hless := less_be 20 x a (by rw [wA_eq, hx]; exact hxa) (by rw [wA_eq]; exact ha)
   have HX := Lib.hid hx
   have hkI : (k : Int) < m := by omega
   have dk : decide ((k : Int) < (m : Int)) = true := decide_eq_true hkI
   have dn : (k < m) = True := eq_true hkm
   by_cases hkk : k < k9
   ·have dlt : decide (x < a) = true := decide_eq_true (by rw [hx]; exact hb hkk)
    rw [dlt] at hless
    clear hx hb hrow hfr
    generalize strOf (be 20 x) = sx at *
    generalize strOf (be 20 a) = sa at *
    go_wp2_with fail
    refine wp_region_still_lit (by kernel_rfl) (by kernel_rfl) ?_
    change wpStill _ _ (World.drew _) _ _ _
    repeat still_step
    refine wpStill_nil ?_
    have hk1 : IntKind.i64.wrap ((k : Int) + 1) = ((k + 1 : Nat) : Int) := by rw [wrI _ (by omega) (by omega)]; omega
    go_wp2_with fail
    go_roundw
    case rel => exact ⟨k + 1, by omega, by go_num, HBW.out.drew⟩
    case measure => simp [intOf]; omega
   ·obtain rfl : k = k9 := by omega
    have hge : a ≤ x := by rw [hx]; exact HGE.out hkp
    have dlt : decide (x < a) = false := decide_eq_false (by omega)
    rw [dlt] at hless
    have hhas := HHAS.out
    have hxx : ps[k].1.ac.addr = x := hx.symm
    have HH : Hid (hasR (ps.map fun p => p.1) a ↔ x = a) := ⟨fun h => by obtain ⟨_, h2⟩ := hhas.1 h; rw [hxx] at h2; exact h2, fun h => hhas.2 ⟨hkp, by rw [hxx]; exact h⟩⟩
    have c0' : wr.drew.drew.cell? ⟨sb, 0, none⟩ = some (.slice (some ⟨g, 0, none⟩) m lc) := c0
    have r3' : wr.drew.drew.row? g (k * 55) 20 = some (beC 20 x) := r3
    have r2' : wr.drew.drew.row? w.heap.size 0 20 = some (beC 20 a) := r2
    have heq := eqA (a := x) (b := a) (by rw [hx]; exact hxa) ha wr.drew.drew
    have HW3 := Lib.hid (HW2.out.only (S := fun _ => False) (Only.of_below_size (Below.refl _ _).drew) (fun _ h => h.elim))
    have HB3 : Hid (Below w.heap.size w wr.drew.drew) := HB1.out.trans (HBW.out.drew.drew.mono HB1.out.size)
    have hknm : ((k : Int) == (ps.length : Int)) = false := by simp; omega
    have hknd : decide ((k : Int) = (ps.length : Int)) = false := decide_eq_false (by omega)
    clear hx hb hrow hfr hhas hxx hge hxa
    generalize strOf (be 20 x) = sx at *
    generalize strOf (be 20 a) = sa at *
    go_wp2_with fail
    refine wp_region_still_lit (by kernel_rfl) (by kernel_rfl) ?_
    change wpStill _ _ (World.drew _) _ _ _
    repeat still_step
    refine wpStill_nil ?_
    change Exit.then _ _ _ _ wr.drew
    by_cases hxa : x = a
    ·have deq : decide (x = a) = true := decide_eq_true hxa
     rw [deq] at heq
     have HP : Hid (AtR a ps ps) := .inl ⟨HH.out.2 hxa, rfl⟩
     clear hxa deq dlt
     go_wp2_with fail
     refine wp_region_still_lit (by kernel_rfl) (by kernel_rfl) ?_
     change wpStill _ _ (World.drew _) _ _ _
     repeat still_step
     refine wpStill_nil ?_
     change Exit.then _ _ _ _ wr.drew.drew
     go_wp2
     go_ret
     exact ⟨own, g, lc, ps, rfl, HW3.out, ChgR.below own HB3.out, HP.out⟩
    ·have deq : decide (x = a) = false := decide_eq_false hxa
     rw [deq] at heq
     have HNOT : Hid (¬ hasR (ps.map fun p => p.1) a) := fun h => hxa (HH.out.1 h)
     clear hxa deq dlt
     go_wp2_with fail
     refine wp_region_still_lit (by kernel_rfl) (by kernel_rfl) ?_
     change wpStill _ _ (World.drew _) _ _ _
     repeat still_step
     refine wpStill_nil ?_
     change Exit.then _ _ _ _ wr.drew.drew
     have HV := HW3
     have RV : Hid (wr.drew.drew.row? w.heap.size 0 20 = some (beC 20 a)) := r2'
     clear r2' r3' c0' heq r2 r3 c0 q1 q2 s1 s2 hless dk dn hknm hknd
     generalize wr.drew.drew = V at *
     have hlcap : k ≤ lc := by
      rcases HV.out.arr.cells.2 with ⟨h1, h2⟩ | ⟨g2, cap, cur, h1, _, _, h3, _⟩
      ·injection h1 with e1 e2 e3; omega
      ·injection h1 with e1 e2 e3; omega
     obtain ⟨tn, htn⟩ : ∃ tn, tn = ps.length - k := ⟨_, rfl⟩
     obtain ⟨ta, hta⟩ : ∃ ta, ta = tailV (some ⟨g, 0, none⟩) ps.length lc k := ⟨_, rfl⟩
     obtain ⟨tc, htc⟩ : ∃ tc, tc = lc - k := ⟨_, rfl⟩
     have hsl := slice31_tail (some ⟨g, 0, none⟩) ps.length lc k (by omega)
     have hsh := slice31_head (some ⟨g, 0, none⟩) ps.length lc k hlcap
     have hst := HV.out.arr.src_tail k (by omega)
     rw [← htn, ← hta, ← htc] at hsl hst
     have HSH : Hid (∀ W, Below V.heap.size V W → SrcAt W (some ⟨g, 0, none⟩) lc k 55 (rowsR (ps.take k))) := fun W hW => (HV.out.only (S := fun _ => False) (Only.of_below_size hW) (fun _ h => h.elim)).arr.src_head k (by omega)
     have cv := World.row?_cell HV.out.row (i := 0) (by omega)
     simp only [Nat.zero_add, List.getElem?_cons_zero] at cv
     have HST := Lib.hid hst
     have htn2 : tn ≤ 1000000 := by omega
     have HTN := Lib.hid htn
     clear hst hta htc htn
     go_wp2_with (at_builtin; go_must (refine wpList_app elemG rfl _ _ rfl (World.ownsRow_nil _ _ _ _) rfl HST.out rfl ?c1 ?c2 ?_))
     case c1 => unfold maxLen; omega
     case c2 => omega
     intro v6 w6 hv6 ho6 hn6
     obtain ⟨a6, c6, rfl⟩ := own_shape hv6
     have hb6 : Below V.heap.size V w6 := ho6.below (Nat.le_refl _) (fun i hi => by simp [Value.ownBlock] at hi)
     have HV6 := Lib.hid hv6
     have HB6 := Lib.hid hb6
     have hrow6 := ((brow hb6).1 _ _ _ (World.row?_lt HV.out.row)).trans HV.out.row
     have hfree6 := ((brow hb6).2 _ _ _ (World.row?_lt HV.out.row)).trans HV.out.free
     have hbx6 := ((brow hb6).1 _ _ _ (World.row?_lt RV.out)).trans RV.out
     have HOK6 : Hid (okL (tn * 55) (rowsR (ps.drop k)) = true) := by
      have := rowsR_ok (ps := ps.drop k) (fun p hp => HV.out.arr.ok p (List.mem_of_mem_drop hp))
      rwa [List.length_drop, ← HTN.out] at this
     obtain ⟨T, hT⟩ : ∃ T : World → Prop, T = fun W => W.row? sb 0 3 = some [.slice (some ⟨g, 0, none⟩) ps.length lc, mv, .int .i64 n] ∧ W.free? sb 0 3 = true ∧ W.row? w.heap.size 0 20 = some (beC 20 a) := ⟨_, rfl⟩
     have HT := Lib.hid hT
     have HTB : Hid (∀ W W', T W → Below W.heap.size W W' → T W') := by
      rw [hT]; intro W W' hW hb
      exact ⟨((brow hb).1 _ _ _ (World.row?_lt hW.1)).trans hW.1, ((brow hb).2 _ _ _ (World.row?_lt hW.1)).trans hW.2.1, ((brow hb).1 _ _ _ (World.row?_lt hW.2.2)).trans hW.2.2⟩
     have t0 : T w6.drew := by rw [hT]; exact ⟨hrow6, hfree6, hbx6⟩
     obtain ⟨C, hC⟩ : ∃ C, C = racC (RAc.new a, Value.slice none 0 0, Value.slice none 0 0) := ⟨_, rfl⟩
     have hbuild := build35n a
     rw [← hC] at hbuild
     have hCl : C.length = 55 := by rw [hC]; exact racC_len _
     have HCK : Hid (okL 55 C = true) := by show _ = _; rw [hC]; exact racC_ok (newOk (w := V) (own := own) ha)
     have HC := Lib.hid hC
     have hb60 : Below V.heap.size V w6.drew := hb6.drew
     have HB60 := Lib.hid hb60
     have hv60 : w6.drew.ownsRow 0 35 55 (.slice a6 tn c6) tn (rowsR (ps.drop k)) := hv6
     have HV60 := Lib.hid hv60
     clear hT hC cv hv6 ho6 hn6 hb6 hrow6 hfree6 hbx6 hb60 hv60
     go_wp2_with fail
     refine wp_region_tree T [16] (.pure 0 (.pure 1 (.pure 2 (.pure 3 (.take 4 (.pure 5 (.pure 6 (.take 8 (.pure 9 (.pure 12 (.alt 7 (.alt 10 (.alt 11 (.alt 13 (.pure 14 (.pure 15 (.alt 16 .fin .stop))) .stop) .stop) .stop) (.alt 10 (.alt 7 (.alt 11 (.alt 13 (.pure 14 (.pure 15 (.alt 16 .fin .stop))) .stop) .stop) .stop) .stop)))))))))))) (by kernel_rfl) (by kernel_rfl) ?_
     generalize w6.drew = w60 at *
     iterate 6
      first
      |refine tree_pure ?_ rfl (by rfl) (fun w' hs => ?_) (fun _ _ _ h => h) ?_
       rotate_left
       ·clear hs
        go_simp
        try rfl
       simp only [Act.put, tsa, tsb, tsc]
      |refine tree_take ?_ t0 rfl (by rfl) (fun w' hs => ?_) (fun _ _ _ h => h) ?_
       rotate_left
       ·rw [HT.out] at hs
        obtain ⟨q1, q2, q3⟩ := hs; have q0 := World.row?_cell q1 (i := 0) (by omega); simp only [Nat.zero_add, List.getElem?_cons_zero] at q0
        go_simp
        try rfl
       simp only [Act.put, tsa, tsb, tsc]
     refine tree_pure (.slice (some ⟨g, 0, none⟩) k lc) rfl (by rfl) (fun w' hs => ?_) (fun _ _ _ h => h) ?_
     ·clear hs
      go_simp
     simp only [Act.put, tsa, tsb, tsc]
     refine tree_take ?_ t0 rfl (by rfl) (fun w' hs => ?_) (fun _ _ _ h => h) ?_
     rotate_left
     ·rw [HT.out] at hs
      obtain ⟨q1, q2, q3⟩ := hs; have q0 := World.row?_cell q1 (i := 0) (by omega); simp only [Nat.zero_add, List.getElem?_cons_zero] at q0
      go_simp
      try rfl
     simp only [Act.put, tsa, tsb, tsc]
     refine tree_pure ?_ rfl (by rfl) (fun w' hs => ?_) (fun _ _ _ h => h) ?_
     rotate_left
     ·clear hs
      refine (bl81 _ _ _ _ _ _ _ _).trans ?_
      refine (congrArg (fun r => asNext (blRow Tryz.prog 35 _ _ r)) hbuild).trans ?_
      rfl
     simp only [Act.put, tsa, tsb, tsc]
     refine tree_pure ?_ rfl (by rfl) (fun w' hs => ?_) (fun _ _ _ h => h) ?_
     rotate_left
     ·clear hs
      go_simp
      try rfl
     simp only [Act.put, tsa, tsb, tsc]
     refine tree_alt rfl (fun K hK => ?_) ?_
     ·refine step_app elemG rfl _ _ rfl (World.ownsRow_nil _ _ _ _) rfl (HSH.out _ HB60.out) rfl (by unfold maxLen; omega) (by omega) ?_
      intro v7 w7 hv7 ho7 hn7
      have hb : Below w60.heap.size w60 w7 := ho7.below (Nat.le_refl _) (fun i hi => by simp [Value.ownBlock] at hi)
      have t7 : T w7 := HTB.out _ _ t0 hb
      have HB7 : Hid (Below V.heap.size V w7) := HB60.out.trans (hb.mono HB60.out.size)
      have HV67 := Lib.hid (ownsRow_below HV60.out hb)
      have HV7 := Lib.hid hv7
      have HN7 : Hid (∀ g, v7.ownBlock = some g → w60.heap.size ≤ g) := fun g hg => (hn7 g hg).resolve_left (by simp [Value.ownBlock])
      clear hb hv7 ho7 hn7
      refine hK.out _ _ t7 ?_
      clear hK K
      refine tree_run rfl (fun K hK => ?_)
      go_simp
      have hb : Below w7.heap.size w7 (World.alloc w7 (.cells C.toArray 35)) := (Below.refl _ _).alloc (Nat.le_refl _) _
      have tA : T (World.alloc w7 (.cells C.toArray 35)) := HTB.out _ _ t7 hb
      have HBA : Hid (Below V.heap.size V (World.alloc w7 (.cells C.toArray 35))) := HB7.out.trans (hb.mono HB7.out.size)
      have HV6A := Lib.hid (ownsRow_below HV67.out hb)
      have HRA : Hid (((World.alloc w7 (.cells C.toArray 35))).row? w7.heap.size 0 55 = some C) := World.row?_alloc_at _ _ _ rfl hCl
      have HV7A := Lib.hid (ownsRow_below HV7.out hb)
      clear hb
      refine hK.out _ _ tA ?_
      clear hK K
      refine tree_run rfl (fun K hK => ?_)
      refine step_app elemG rfl _ _ rfl HV7A.out rfl (SrcAt.row (m := 1) (size := 55) HRA.out HCK.out 1) rfl (by unfold maxLen; omega) (by omega) ?_
      intro v11 w11 hv11 ho11 hn11
      have hx7 : ∀ i, v7.ownBlock = some i → V.heap.size ≤ i := fun i hi => by have h1 := HN7.out i hi; have h2 := HB60.out.size; (try simp at h1); omega
      have HB11 : Hid (Below V.heap.size V w11) := HBA.out.trans (ho11.below HBA.out.size (fun i hi => hx7 i hi))
      have t11 : T w11 := by have h1 := tA; rw [HT.out] at h1 ⊢; exact ⟨(ho11.row? (World.row?_lt h1.1) (fun hh => by have := hx7 _ hh; have := World.row?_lt HV.out.row; omega)).trans h1.1, (ho11.free? (World.row?_lt h1.1) (fun hh => by have := hx7 _ hh; have := World.row?_lt HV.out.row; omega)).trans h1.2.1, (ho11.row? (World.row?_lt h1.2.2) (fun hh => by have := hx7 _ hh; have := World.row?_lt RV.out; omega)).trans h1.2.2⟩
      have HV611 : Hid (w11.ownsRow 0 35 55 (.slice a6 tn c6) tn (rowsR (ps.drop k))) := Only.own HV6A.out ho11 (fun g2 hg2 hh => by have h1 := HN7.out g2 hh; have h2 := ownsRow_lt HV60.out g2 hg2; (try simp at h1); omega)
      have HN11 : Hid (∀ g, v11.ownBlock = some g → V.heap.size ≤ g) := fun g2 hg2 => by
       rcases hn11 g2 hg2 with h1 | h1
       ·exact hx7 _ h1
       ·have := HBA.out.size; omega
      have HV11 := Lib.hid hv11
      clear hv11 ho11 hn11 hx7
      refine hK.out _ _ t11 ?_
      clear hK K
      refine tree_run rfl (fun K hK => ?_)
      refine step_app elemG rfl _ _ rfl HV11.out rfl (src_own HV611.out HOK6.out) rfl (by unfold maxLen; omega) (by omega) ?_
      intro v13 w13 hv13 ho13 hn13
      have HB13 : Hid (Below V.heap.size V w13) := HB11.out.trans (ho13.below HB11.out.size (fun i hi => HN11.out i hi))
      have t13 : T w13 := by have h1 := t11; rw [HT.out] at h1 ⊢; exact ⟨(ho13.row? (World.row?_lt h1.1) (fun hh => by have := HN11.out _ hh; have := World.row?_lt HV.out.row; omega)).trans h1.1, (ho13.free? (World.row?_lt h1.1) (fun hh => by have := HN11.out _ hh; have := World.row?_lt HV.out.row; omega)).trans h1.2.1, (ho13.row? (World.row?_lt h1.2.2) (fun hh => by have := HN11.out _ hh; have := World.row?_lt RV.out; omega)).trans h1.2.2⟩
      have HN13 : Hid (∀ g, v13.ownBlock = some g → V.heap.size ≤ g) := fun g2 hg2 => by
       rcases hn13 g2 hg2 with h1 | h1
       ·exact HN11.out _ h1
       ·have := HB11.out.size; omega
      obtain ⟨NN, hNN⟩ : ∃ NN, NN = k + 1 + (ps.length - k) := ⟨_, rfl⟩
      have hv13' : w13.ownsRow 0 35 55 v13 NN ((([] ++ rowsR (ps.take k)) ++ racC (RAc.new a, Value.slice none 0 0, Value.slice none 0 0)) ++ rowsR (ps.drop k)) := by
       rw [← HC.out, hNN, ← HTN.out]; simpa using hv13
      have HV13 := Lib.hid hv13'
      have HNN := Lib.hid hNN
      have hNk : k < NN := by omega
      clear hv13 hv13' ho13 hn13 hNN
      refine hK.out _ _ t13 ?_
      clear hK K
      iterate 2
       refine tree_pure ?_ rfl (by rfl) (fun w' hs => ?_) (fun _ _ _ h => h) ?_
       rotate_left
       ·clear hs
        go_simp
        try rfl
       simp only [Act.put, tsa, tsb, tsc]
      refine tree_z rfl (by simp) (fun K hK => ?_)
      have f16 := t13
      rw [HT.out] at f16
      have f17 := World.free?_sub f16.2.1 (o' := 0) (n' := 1) (by omega)
      obtain ⟨g13, c13, rfl, _⟩ := own_words HV13.out (by omega)
      clear f16
      go_simp
      obtain ⟨w16, e16⟩ : ∃ w16, w16 = w13.setCell ⟨sb, 0, none⟩ (.slice (some ⟨g13, 0, none⟩) NN c13) := ⟨_, rfl⟩
      obtain ⟨own', e13, hst, hcg, hce⟩ := at_made HV.out HB13.out ha HK.out HNOT.out HNN.out HV13.out HN13.out e16
      have HSTF := Lib.hid hst
      have HCGF := Lib.hid hcg
      have HEL := Lib.hid e13
      rw [← e16]
      clear e16 hst hcg e13
      refine hK.out _ _ ?_
      clear hK K
      refine tree_fin ?_
      clear t0 t7 tA t11 t13 f17
      have hNI : (k : Int) < (NN : Int) := by omega
      go_wp2
      go_ret
      exact ⟨own', g13, c13, _, rfl, by rw [← HEL.out]; exact HSTF.out, (ChgR.below own HB3.out).trans HCGF.out, .inr ⟨HNOT.out, by rw [← HK.out]⟩⟩
     refine tree_run rfl (fun K hK => ?_)
     go_simp
     have hb : Below w60.heap.size w60 (World.alloc w60 (.cells C.toArray 35)) := (Below.refl _ _).alloc (Nat.le_refl _) _
     have tA : T (World.alloc w60 (.cells C.toArray 35)) := HTB.out _ _ t0 hb
     have HBA : Hid (Below V.heap.size V (World.alloc w60 (.cells C.toArray 35))) := HB60.out.trans (hb.mono HB60.out.size)
     have HV6A := Lib.hid (ownsRow_below HV60.out hb)
     have HRA : Hid (((World.alloc w60 (.cells C.toArray 35))).row? w60.heap.size 0 55 = some C) := World.row?_alloc_at _ _ _ rfl hCl
     clear hb
     refine hK.out _ _ tA ?_
     clear hK K
     refine tree_run rfl (fun K hK => ?_)
     refine step_app elemG rfl _ _ rfl (World.ownsRow_nil _ _ _ _) rfl (HSH.out _ HBA.out) rfl (by unfold maxLen; omega) (by omega) ?_
     intro v7 w7 hv7 ho7 hn7
     have hb : Below (World.alloc w60 (.cells C.toArray 35)).heap.size (World.alloc w60 (.cells C.toArray 35)) w7 := ho7.below (Nat.le_refl _) (fun i hi => by simp [Value.ownBlock] at hi)
     have t7 : T w7 := HTB.out _ _ tA hb
     have HB7 : Hid (Below V.heap.size V w7) := HBA.out.trans (hb.mono HBA.out.size)
     have HV67 := Lib.hid (ownsRow_below HV6A.out hb)
     have HV7 := Lib.hid hv7
     have HN7 : Hid (∀ g, v7.ownBlock = some g → (World.alloc w60 (.cells C.toArray 35)).heap.size ≤ g) := fun g hg => (hn7 g hg).resolve_left (by simp [Value.ownBlock])
     have HRA7 := Lib.hid (((brow hb).1 _ _ _ (World.row?_lt HRA.out)).trans HRA.out)
     clear hb hv7 ho7 hn7
     refine hK.out _ _ t7 ?_
     clear hK K
     refine tree_run rfl (fun K hK => ?_)
     refine step_app elemG rfl _ _ rfl HV7.out rfl (SrcAt.row (m := 1) (size := 55) HRA7.out HCK.out 1) rfl (by unfold maxLen; omega) (by omega) ?_
     intro v11 w11 hv11 ho11 hn11
     have hx7 : ∀ i, v7.ownBlock = some i → V.heap.size ≤ i := fun i hi => by have h1 := HN7.out i hi; have h2 := HB60.out.size; (try simp at h1); omega
     have HB11 : Hid (Below V.heap.size V w11) := HB7.out.trans (ho11.below HB7.out.size (fun i hi => hx7 i hi))
     have t11 : T w11 := by have h1 := t7; rw [HT.out] at h1 ⊢; exact ⟨(ho11.row? (World.row?_lt h1.1) (fun hh => by have := hx7 _ hh; have := World.row?_lt HV.out.row; omega)).trans h1.1, (ho11.free? (World.row?_lt h1.1) (fun hh => by have := hx7 _ hh; have := World.row?_lt HV.out.row; omega)).trans h1.2.1, (ho11.row? (World.row?_lt h1.2.2) (fun hh => by have := hx7 _ hh; have := World.row?_lt RV.out; omega)).trans h1.2.2⟩
     have HV611 : Hid (w11.ownsRow 0 35 55 (.slice a6 tn c6) tn (rowsR (ps.drop k))) := Only.own HV67.out ho11 (fun g2 hg2 hh => by have h1 := HN7.out g2 hh; have h2 := ownsRow_lt HV60.out g2 hg2; (try simp at h1); omega)
     have HN11 : Hid (∀ g, v11.ownBlock = some g → V.heap.size ≤ g) := fun g2 hg2 => by
      rcases hn11 g2 hg2 with h1 | h1
      ·exact hx7 _ h1
      ·have := HB7.out.size; omega
     have HV11 := Lib.hid hv11
     clear hv11 ho11 hn11 hx7
     refine hK.out _ _ t11 ?_
     clear hK K
     refine tree_run rfl (fun K hK => ?_)
     refine step_app elemG rfl _ _ rfl HV11.out rfl (src_own HV611.out HOK6.out) rfl (by unfold maxLen; omega) (by omega) ?_
     intro v13 w13 hv13 ho13 hn13
     have HB13 : Hid (Below V.heap.size V w13) := HB11.out.trans (ho13.below HB11.out.size (fun i hi => HN11.out i hi))
     have t13 : T w13 := by have h1 := t11; rw [HT.out] at h1 ⊢; exact ⟨(ho13.row? (World.row?_lt h1.1) (fun hh => by have := HN11.out _ hh; have := World.row?_lt HV.out.row; omega)).trans h1.1, (ho13.free? (World.row?_lt h1.1) (fun hh => by have := HN11.out _ hh; have := World.row?_lt HV.out.row; omega)).trans h1.2.1, (ho13.row? (World.row?_lt h1.2.2) (fun hh => by have := HN11.out _ hh; have := World.row?_lt RV.out; omega)).trans h1.2.2⟩
     have HN13 : Hid (∀ g, v13.ownBlock = some g → V.heap.size ≤ g) := fun g2 hg2 => by
      rcases hn13 g2 hg2 with h1 | h1
      ·exact HN11.out _ h1
      ·have := HB11.out.size; omega
     obtain ⟨NN, hNN⟩ : ∃ NN, NN = k + 1 + (ps.length - k) := ⟨_, rfl⟩
     have hv13' : w13.ownsRow 0 35 55 v13 NN ((([] ++ rowsR (ps.take k)) ++ racC (RAc.new a, Value.slice none 0 0, Value.slice none 0 0)) ++ rowsR (ps.drop k)) := by
      rw [← HC.out, hNN, ← HTN.out]; simpa using hv13
     have HV13 := Lib.hid hv13'
     have HNN := Lib.hid hNN
     have hNk : k < NN := by omega
     clear hv13 hv13' ho13 hn13 hNN
     refine hK.out _ _ t13 ?_
     clear hK K
     iterate 2
      refine tree_pure ?_ rfl (by rfl) (fun w' hs => ?_) (fun _ _ _ h => h) ?_
      rotate_left
      ·clear hs
       go_simp
       try rfl
      simp only [Act.put, tsa, tsb, tsc]
     refine tree_z rfl (by simp) (fun K hK => ?_)
     have f16 := t13
     rw [HT.out] at f16
     have f17 := World.free?_sub f16.2.1 (o' := 0) (n' := 1) (by omega)
     obtain ⟨g13, c13, rfl, _⟩ := own_words HV13.out (by omega)
     clear f16
     go_simp
     obtain ⟨w16, e16⟩ : ∃ w16, w16 = w13.setCell ⟨sb, 0, none⟩ (.slice (some ⟨g13, 0, none⟩) NN c13) := ⟨_, rfl⟩
     obtain ⟨own', e13, hst, hcg, hce⟩ := at_made HV.out HB13.out ha HK.out HNOT.out HNN.out HV13.out HN13.out e16
     have HSTF := Lib.hid hst
     have HCGF := Lib.hid hcg
     have HEL := Lib.hid e13
     rw [← e16]
     clear e16 hst hcg e13
     refine hK.out _ _ ?_
     clear hK K
     refine tree_fin ?_
     clear t0 t7 tA t11 t13 f17
     have hNI : (k : Int) < (NN : Int) := by omega
     go_wp2
     go_ret
     exact ⟨own', g13, c13, _, rfl, by rw [← HEL.out]; exact HSTF.out, (ChgR.below own HB3.out).trans HCGF.out, .inr ⟨HNOT.out, by rw [← HK.out]⟩⟩
  ·obtain rfl : k = k9 := by omega
   have hkn : k = ps.length := by omega
   have HNOT : Hid (¬ hasR (ps.map fun p => p.1) a) := fun h => by obtain ⟨h2, _⟩ := HHAS.out.1 h; omega
   have hknd : decide ((k : Int) < (m : Int)) = false := decide_eq_false (by omega)
   have hkne : decide ((k : Int) = (m : Int)) = true := decide_eq_true (by omega)
   have hknn : (k < m) = False := eq_false hkm
   have hkeN : ((k : Int) == (m : Int)) = true := by rw [beq_iff_eq]; omega
   have c0' : wr.drew.drew.cell? ⟨sb, 0, none⟩ = some (.slice la m lc) := c0
   have HW3 := Lib.hid (HW2.out.only (S := fun _ => False) (Only.of_below_size (Below.refl _ _).drew) (fun _ h => h.elim))
   have HB3 : Hid (Below w.heap.size w wr.drew.drew) := HB1.out.trans (HBW.out.drew.drew.mono HB1.out.size)
   have HKM := Lib.hid hkm
   have HKN := Lib.hid hkn
   have r2' : wr.drew.drew.row? w.heap.size 0 20 = some (beC 20 a) := r2
   clear hkm hkn hm
   go_wp2_with fail
   refine wp_reads (by kernel_rfl) (by kernel_rfl) ?_
   repeat still_step
   refine wpStill_nil ?_
   change Exit.then _ _ _ _ wr.drew
   go_wp2_with fail
   refine wp_reads (by kernel_rfl) (by kernel_rfl) ?_
   repeat still_step
   refine wpStill_nil ?_
   change Exit.then _ _ _ _ wr.drew.drew
   have HV := HW3
   have RV : Hid (wr.drew.drew.row? w.heap.size 0 20 = some (beC 20 a)) := r2'
   have hkp : k ≤ ps.length := by have := HKN.out; omega
   have hpl0 : ps.length ≤ 1000000 := by have := HM.out; omega
   clear r2' c0' r2 c0 hknd hkne hknn hkeN
   generalize wr.drew.drew = V at *
   have hlcap : k ≤ lc := by
    rcases HV.out.arr.cells.2 with ⟨h1, h2⟩ | ⟨g2, cap, cur, h1, _, _, h3, _⟩
    ·injection h1 with e1 e2 e3; omega
    ·injection h1 with e1 e2 e3; omega
   obtain ⟨tn, htn⟩ : ∃ tn, tn = ps.length - k := ⟨_, rfl⟩
   obtain ⟨ta, hta⟩ : ∃ ta, ta = tailV la ps.length lc k := ⟨_, rfl⟩
   obtain ⟨tc, htc⟩ : ∃ tc, tc = lc - k := ⟨_, rfl⟩
   have hsl := slice31_tail la ps.length lc k (by omega)
   have hsh := slice31_head la ps.length lc k hlcap
   have hst := HV.out.arr.src_tail k (by omega)
   rw [← htn, ← hta, ← htc] at hsl hst
   have HSH : Hid (∀ W, Below V.heap.size V W → SrcAt W la lc k 55 (rowsR (ps.take k))) := fun W hW => (HV.out.only (S := fun _ => False) (Only.of_below_size hW) (fun _ h => h.elim)).arr.src_head k (by omega)
   have cv := World.row?_cell HV.out.row (i := 0) (by omega)
   simp only [Nat.zero_add, List.getElem?_cons_zero] at cv
   have HST := Lib.hid hst
   have htn2 : tn ≤ 1000000 := by omega
   have HTN := Lib.hid htn
   clear hst hta htc htn
   go_wp2_with (at_builtin; go_must (refine wpList_app elemG rfl _ _ rfl (World.ownsRow_nil _ _ _ _) rfl HST.out rfl ?c1 ?c2 ?_))
   case c1 => unfold maxLen; omega
   case c2 => omega
   intro v6 w6 hv6 ho6 hn6
   obtain ⟨a6, c6, rfl⟩ := own_shape hv6
   have hb6 : Below V.heap.size V w6 := ho6.below (Nat.le_refl _) (fun i hi => by simp [Value.ownBlock] at hi)
   have HV6 := Lib.hid hv6
   have HB6 := Lib.hid hb6
   have hrow6 := ((brow hb6).1 _ _ _ (World.row?_lt HV.out.row)).trans HV.out.row
   have hfree6 := ((brow hb6).2 _ _ _ (World.row?_lt HV.out.row)).trans HV.out.free
   have hbx6 := ((brow hb6).1 _ _ _ (World.row?_lt RV.out)).trans RV.out
   have HOK6 : Hid (okL (tn * 55) (rowsR (ps.drop k)) = true) := by
    have := rowsR_ok (ps := ps.drop k) (fun p hp => HV.out.arr.ok p (List.mem_of_mem_drop hp))
    rwa [List.length_drop, ← HTN.out] at this
   obtain ⟨T, hT⟩ : ∃ T : World → Prop, T = fun W => W.row? sb 0 3 = some [.slice la ps.length lc, mv, .int .i64 n] ∧ W.free? sb 0 3 = true ∧ W.row? w.heap.size 0 20 = some (beC 20 a) := ⟨_, rfl⟩
   have HT := Lib.hid hT
   have HTB : Hid (∀ W W', T W → Below W.heap.size W W' → T W') := by
    rw [hT]; intro W W' hW hb
    exact ⟨((brow hb).1 _ _ _ (World.row?_lt hW.1)).trans hW.1, ((brow hb).2 _ _ _ (World.row?_lt hW.1)).trans hW.2.1, ((brow hb).1 _ _ _ (World.row?_lt hW.2.2)).trans hW.2.2⟩
   have t0 : T w6.drew := by rw [hT]; exact ⟨hrow6, hfree6, hbx6⟩
   obtain ⟨C, hC⟩ : ∃ C, C = racC (RAc.new a, Value.slice none 0 0, Value.slice none 0 0) := ⟨_, rfl⟩
   have hbuild := build35n a
   rw [← hC] at hbuild
   have hCl : C.length = 55 := by rw [hC]; exact racC_len _
   have HCK : Hid (okL 55 C = true) := by show _ = _; rw [hC]; exact racC_ok (newOk (w := V) (own := own) ha)
   have HC := Lib.hid hC
   have hb60 : Below V.heap.size V w6.drew := hb6.drew
   have HB60 := Lib.hid hb60
   have hv60 : w6.drew.ownsRow 0 35 55 (.slice a6 tn c6) tn (rowsR (ps.drop k)) := hv6
   have HV60 := Lib.hid hv60
   clear hT hC cv hv6 ho6 hn6 hb6 hrow6 hfree6 hbx6 hb60 hv60
   go_wp2_with fail
   refine wp_region_tree T [16] (.pure 0 (.pure 1 (.pure 2 (.pure 3 (.take 4 (.pure 5 (.pure 6 (.take 8 (.pure 9 (.pure 12 (.alt 7 (.alt 10 (.alt 11 (.alt 13 (.pure 14 (.pure 15 (.alt 16 .fin .stop))) .stop) .stop) .stop) (.alt 10 (.alt 7 (.alt 11 (.alt 13 (.pure 14 (.pure 15 (.alt 16 .fin .stop))) .stop) .stop) .stop) .stop)))))))))))) (by kernel_rfl) (by kernel_rfl) ?_
   generalize w6.drew = w60 at *
   iterate 6
    first
    |refine tree_pure ?_ rfl (by rfl) (fun w' hs => ?_) (fun _ _ _ h => h) ?_
     rotate_left
     ·clear hs
      go_simp
      try rfl
     simp only [Act.put, tsa, tsb, tsc]
    |refine tree_take ?_ t0 rfl (by rfl) (fun w' hs => ?_) (fun _ _ _ h => h) ?_
     rotate_left
     ·rw [HT.out] at hs
      obtain ⟨q1, q2, q3⟩ := hs; have q0 := World.row?_cell q1 (i := 0) (by omega); simp only [Nat.zero_add, List.getElem?_cons_zero] at q0
      go_simp
      try rfl
     simp only [Act.put, tsa, tsb, tsc]
   refine tree_pure (.slice la k lc) rfl (by rfl) (fun w' hs => ?_) (fun _ _ _ h => h) ?_
   ·clear hs
    go_simp
   simp only [Act.put, tsa, tsb, tsc]
   refine tree_take ?_ t0 rfl (by rfl) (fun w' hs => ?_) (fun _ _ _ h => h) ?_
   rotate_left
   ·rw [HT.out] at hs
    obtain ⟨q1, q2, q3⟩ := hs; have q0 := World.row?_cell q1 (i := 0) (by omega); simp only [Nat.zero_add, List.getElem?_cons_zero] at q0
    go_simp
    try rfl
   simp only [Act.put, tsa, tsb, tsc]
   refine tree_pure ?_ rfl (by rfl) (fun w' hs => ?_) (fun _ _ _ h => h) ?_
   rotate_left
   ·clear hs
    refine (bl81 _ _ _ _ _ _ _ _).trans ?_
    refine (congrArg (fun r => asNext (blRow Tryz.prog 35 _ _ r)) hbuild).trans ?_
    rfl
   simp only [Act.put, tsa, tsb, tsc]
   refine tree_pure ?_ rfl (by rfl) (fun w' hs => ?_) (fun _ _ _ h => h) ?_
   rotate_left
   ·clear hs
    go_simp
    try rfl
   simp only [Act.put, tsa, tsb, tsc]
   refine tree_alt rfl (fun K hK => ?_) ?_
   ·refine step_app elemG rfl _ _ rfl (World.ownsRow_nil _ _ _ _) rfl (HSH.out _ HB60.out) rfl (by unfold maxLen; omega) (by omega) ?_
    intro v7 w7 hv7 ho7 hn7
    have hb : Below w60.heap.size w60 w7 := ho7.below (Nat.le_refl _) (fun i hi => by simp [Value.ownBlock] at hi)
    have t7 : T w7 := HTB.out _ _ t0 hb
    have HB7 : Hid (Below V.heap.size V w7) := HB60.out.trans (hb.mono HB60.out.size)
    have HV67 := Lib.hid (ownsRow_below HV60.out hb)
    have HV7 := Lib.hid hv7
    have HN7 : Hid (∀ g, v7.ownBlock = some g → w60.heap.size ≤ g) := fun g hg => (hn7 g hg).resolve_left (by simp [Value.ownBlock])
    clear hb hv7 ho7 hn7
    refine hK.out _ _ t7 ?_
    clear hK K
    refine tree_run rfl (fun K hK => ?_)
    go_simp
    have hb : Below w7.heap.size w7 (World.alloc w7 (.cells C.toArray 35)) := (Below.refl _ _).alloc (Nat.le_refl _) _
    have tA : T (World.alloc w7 (.cells C.toArray 35)) := HTB.out _ _ t7 hb
    have HBA : Hid (Below V.heap.size V (World.alloc w7 (.cells C.toArray 35))) := HB7.out.trans (hb.mono HB7.out.size)
    have HV6A := Lib.hid (ownsRow_below HV67.out hb)
    have HRA : Hid (((World.alloc w7 (.cells C.toArray 35))).row? w7.heap.size 0 55 = some C) := World.row?_alloc_at _ _ _ rfl hCl
    have HV7A := Lib.hid (ownsRow_below HV7.out hb)
    clear hb
    refine hK.out _ _ tA ?_
    clear hK K
    refine tree_run rfl (fun K hK => ?_)
    refine step_app elemG rfl _ _ rfl HV7A.out rfl (SrcAt.row (m := 1) (size := 55) HRA.out HCK.out 1) rfl (by unfold maxLen; omega) (by omega) ?_
    intro v11 w11 hv11 ho11 hn11
    have hx7 : ∀ i, v7.ownBlock = some i → V.heap.size ≤ i := fun i hi => by have h1 := HN7.out i hi; have h2 := HB60.out.size; (try simp at h1); omega
    have HB11 : Hid (Below V.heap.size V w11) := HBA.out.trans (ho11.below HBA.out.size (fun i hi => hx7 i hi))
    have t11 : T w11 := by have h1 := tA; rw [HT.out] at h1 ⊢; exact ⟨(ho11.row? (World.row?_lt h1.1) (fun hh => by have := hx7 _ hh; have := World.row?_lt HV.out.row; omega)).trans h1.1, (ho11.free? (World.row?_lt h1.1) (fun hh => by have := hx7 _ hh; have := World.row?_lt HV.out.row; omega)).trans h1.2.1, (ho11.row? (World.row?_lt h1.2.2) (fun hh => by have := hx7 _ hh; have := World.row?_lt RV.out; omega)).trans h1.2.2⟩
    have HV611 : Hid (w11.ownsRow 0 35 55 (.slice a6 tn c6) tn (rowsR (ps.drop k))) := Only.own HV6A.out ho11 (fun g2 hg2 hh => by have h1 := HN7.out g2 hh; have h2 := ownsRow_lt HV60.out g2 hg2; (try simp at h1); omega)
    have HN11 : Hid (∀ g, v11.ownBlock = some g → V.heap.size ≤ g) := fun g2 hg2 => by
     rcases hn11 g2 hg2 with h1 | h1
     ·exact hx7 _ h1
     ·have := HBA.out.size; omega
    have HV11 := Lib.hid hv11
    clear hv11 ho11 hn11 hx7
    refine hK.out _ _ t11 ?_
    clear hK K
    refine tree_run rfl (fun K hK => ?_)
    refine step_app elemG rfl _ _ rfl HV11.out rfl (src_own HV611.out HOK6.out) rfl (by unfold maxLen; omega) (by omega) ?_
    intro v13 w13 hv13 ho13 hn13
    have HB13 : Hid (Below V.heap.size V w13) := HB11.out.trans (ho13.below HB11.out.size (fun i hi => HN11.out i hi))
    have t13 : T w13 := by have h1 := t11; rw [HT.out] at h1 ⊢; exact ⟨(ho13.row? (World.row?_lt h1.1) (fun hh => by have := HN11.out _ hh; have := World.row?_lt HV.out.row; omega)).trans h1.1, (ho13.free? (World.row?_lt h1.1) (fun hh => by have := HN11.out _ hh; have := World.row?_lt HV.out.row; omega)).trans h1.2.1, (ho13.row? (World.row?_lt h1.2.2) (fun hh => by have := HN11.out _ hh; have := World.row?_lt RV.out; omega)).trans h1.2.2⟩
    have HN13 : Hid (∀ g, v13.ownBlock = some g → V.heap.size ≤ g) := fun g2 hg2 => by
     rcases hn13 g2 hg2 with h1 | h1
     ·exact HN11.out _ h1
     ·have := HB11.out.size; omega
    obtain ⟨NN, hNN⟩ : ∃ NN, NN = k + 1 + (ps.length - k) := ⟨_, rfl⟩
    have hv13' : w13.ownsRow 0 35 55 v13 NN ((([] ++ rowsR (ps.take k)) ++ racC (RAc.new a, Value.slice none 0 0, Value.slice none 0 0)) ++ rowsR (ps.drop k)) := by
     rw [← HC.out, hNN, ← HTN.out]; simpa using hv13
    have HV13 := Lib.hid hv13'
    have HNN := Lib.hid hNN
    have hNk : k < NN := by omega
    clear hv13 hv13' ho13 hn13 hNN
    refine hK.out _ _ t13 ?_
    clear hK K
    iterate 2
     refine tree_pure ?_ rfl (by rfl) (fun w' hs => ?_) (fun _ _ _ h => h) ?_
     rotate_left
     ·clear hs
      go_simp
      try rfl
     simp only [Act.put, tsa, tsb, tsc]
    refine tree_z rfl (by simp) (fun K hK => ?_)
    have f16 := t13
    rw [HT.out] at f16
    have f17 := World.free?_sub f16.2.1 (o' := 0) (n' := 1) (by omega)
    obtain ⟨g13, c13, rfl, _⟩ := own_words HV13.out (by omega)
    clear f16
    go_simp
    obtain ⟨w16, e16⟩ : ∃ w16, w16 = w13.setCell ⟨sb, 0, none⟩ (.slice (some ⟨g13, 0, none⟩) NN c13) := ⟨_, rfl⟩
    obtain ⟨own', e13, hst, hcg, hce⟩ := at_made HV.out HB13.out ha HK.out HNOT.out HNN.out HV13.out HN13.out e16
    have HSTF := Lib.hid hst
    have HCGF := Lib.hid hcg
    have HEL := Lib.hid e13
    rw [← e16]
    clear e16 hst hcg e13
    refine hK.out _ _ ?_
    clear hK K
    refine tree_fin ?_
    clear t0 t7 tA t11 t13 f17
    have hNI : (k : Int) < (NN : Int) := by omega
    go_wp2
    go_ret
    exact ⟨own', g13, c13, _, rfl, by rw [← HEL.out]; exact HSTF.out, (ChgR.below own HB3.out).trans HCGF.out, .inr ⟨HNOT.out, by rw [← HK.out]⟩⟩
   refine tree_run rfl (fun K hK => ?_)
   go_simp
   have hb : Below w60.heap.size w60 (World.alloc w60 (.cells C.toArray 35)) := (Below.refl _ _).alloc (Nat.le_refl _) _
   have tA : T (World.alloc w60 (.cells C.toArray 35)) := HTB.out _ _ t0 hb
   have HBA : Hid (Below V.heap.size V (World.alloc w60 (.cells C.toArray 35))) := HB60.out.trans (hb.mono HB60.out.size)
   have HV6A := Lib.hid (ownsRow_below HV60.out hb)
   have HRA : Hid (((World.alloc w60 (.cells C.toArray 35))).row? w60.heap.size 0 55 = some C) := World.row?_alloc_at _ _ _ rfl hCl
   clear hb
   refine hK.out _ _ tA ?_
   clear hK K
   refine tree_run rfl (fun K hK => ?_)
   refine step_app elemG rfl _ _ rfl (World.ownsRow_nil _ _ _ _) rfl (HSH.out _ HBA.out) rfl (by unfold maxLen; omega) (by omega) ?_
   intro v7 w7 hv7 ho7 hn7
   have hb : Below (World.alloc w60 (.cells C.toArray 35)).heap.size (World.alloc w60 (.cells C.toArray 35)) w7 := ho7.below (Nat.le_refl _) (fun i hi => by simp [Value.ownBlock] at hi)
   have t7 : T w7 := HTB.out _ _ tA hb
   have HB7 : Hid (Below V.heap.size V w7) := HBA.out.trans (hb.mono HBA.out.size)
   have HV67 := Lib.hid (ownsRow_below HV6A.out hb)
   have HV7 := Lib.hid hv7
   have HN7 : Hid (∀ g, v7.ownBlock = some g → (World.alloc w60 (.cells C.toArray 35)).heap.size ≤ g) := fun g hg => (hn7 g hg).resolve_left (by simp [Value.ownBlock])
   have HRA7 := Lib.hid (((brow hb).1 _ _ _ (World.row?_lt HRA.out)).trans HRA.out)
   clear hb hv7 ho7 hn7
   refine hK.out _ _ t7 ?_
   clear hK K
   refine tree_run rfl (fun K hK => ?_)
   refine step_app elemG rfl _ _ rfl HV7.out rfl (SrcAt.row (m := 1) (size := 55) HRA7.out HCK.out 1) rfl (by unfold maxLen; omega) (by omega) ?_
   intro v11 w11 hv11 ho11 hn11
   have hx7 : ∀ i, v7.ownBlock = some i → V.heap.size ≤ i := fun i hi => by have h1 := HN7.out i hi; have h2 := HB60.out.size; (try simp at h1); omega
   have HB11 : Hid (Below V.heap.size V w11) := HB7.out.trans (ho11.below HB7.out.size (fun i hi => hx7 i hi))
   have t11 : T w11 := by have h1 := t7; rw [HT.out] at h1 ⊢; exact ⟨(ho11.row? (World.row?_lt h1.1) (fun hh => by have := hx7 _ hh; have := World.row?_lt HV.out.row; omega)).trans h1.1, (ho11.free? (World.row?_lt h1.1) (fun hh => by have := hx7 _ hh; have := World.row?_lt HV.out.row; omega)).trans h1.2.1, (ho11.row? (World.row?_lt h1.2.2) (fun hh => by have := hx7 _ hh; have := World.row?_lt RV.out; omega)).trans h1.2.2⟩
   have HV611 : Hid (w11.ownsRow 0 35 55 (.slice a6 tn c6) tn (rowsR (ps.drop k))) := Only.own HV67.out ho11 (fun g2 hg2 hh => by have h1 := HN7.out g2 hh; have h2 := ownsRow_lt HV60.out g2 hg2; (try simp at h1); omega)
   have HN11 : Hid (∀ g, v11.ownBlock = some g → V.heap.size ≤ g) := fun g2 hg2 => by
    rcases hn11 g2 hg2 with h1 | h1
    ·exact hx7 _ h1
    ·have := HB7.out.size; omega
   have HV11 := Lib.hid hv11
   clear hv11 ho11 hn11 hx7
   refine hK.out _ _ t11 ?_
   clear hK K
   refine tree_run rfl (fun K hK => ?_)
   refine step_app elemG rfl _ _ rfl HV11.out rfl (src_own HV611.out HOK6.out) rfl (by unfold maxLen; omega) (by omega) ?_
   intro v13 w13 hv13 ho13 hn13
   have HB13 : Hid (Below V.heap.size V w13) := HB11.out.trans (ho13.below HB11.out.size (fun i hi => HN11.out i hi))
   have t13 : T w13 := by have h1 := t11; rw [HT.out] at h1 ⊢; exact ⟨(ho13.row? (World.row?_lt h1.1) (fun hh => by have := HN11.out _ hh; have := World.row?_lt HV.out.row; omega)).trans h1.1, (ho13.free? (World.row?_lt h1.1) (fun hh => by have := HN11.out _ hh; have := World.row?_lt HV.out.row; omega)).trans h1.2.1, (ho13.row? (World.row?_lt h1.2.2) (fun hh => by have := HN11.out _ hh; have := World.row?_lt RV.out; omega)).trans h1.2.2⟩
   have HN13 : Hid (∀ g, v13.ownBlock = some g → V.heap.size ≤ g) := fun g2 hg2 => by
    rcases hn13 g2 hg2 with h1 | h1
    ·exact HN11.out _ h1
    ·have := HB11.out.size; omega
   obtain ⟨NN, hNN⟩ : ∃ NN, NN = k + 1 + (ps.length - k) := ⟨_, rfl⟩
   have hv13' : w13.ownsRow 0 35 55 v13 NN ((([] ++ rowsR (ps.take k)) ++ racC (RAc.new a, Value.slice none 0 0, Value.slice none 0 0)) ++ rowsR (ps.drop k)) := by
    rw [← HC.out, hNN, ← HTN.out]; simpa using hv13
   have HV13 := Lib.hid hv13'
   have HNN := Lib.hid hNN
   have hNk : k < NN := by omega
   clear hv13 hv13' ho13 hn13 hNN
   refine hK.out _ _ t13 ?_
   clear hK K
   iterate 2
    refine tree_pure ?_ rfl (by rfl) (fun w' hs => ?_) (fun _ _ _ h => h) ?_
    rotate_left
    ·clear hs
     go_simp
     try rfl
    simp only [Act.put, tsa, tsb, tsc]
   refine tree_z rfl (by simp) (fun K hK => ?_)
   have f16 := t13
   rw [HT.out] at f16
   have f17 := World.free?_sub f16.2.1 (o' := 0) (n' := 1) (by omega)
   obtain ⟨g13, c13, rfl, _⟩ := own_words HV13.out (by omega)
   clear f16
   go_simp
   obtain ⟨w16, e16⟩ : ∃ w16, w16 = w13.setCell ⟨sb, 0, none⟩ (.slice (some ⟨g13, 0, none⟩) NN c13) := ⟨_, rfl⟩
   obtain ⟨own', e13, hst, hcg, hce⟩ := at_made HV.out HB13.out ha HK.out HNOT.out HNN.out HV13.out HN13.out e16
   have HSTF := Lib.hid hst
   have HCGF := Lib.hid hcg
   have HEL := Lib.hid e13
   rw [← e16]
   clear e16 hst hcg e13
   refine hK.out _ _ ?_
   clear hK K
   refine tree_fin ?_
   clear t0 t7 tA t11 t13 f17
   have hNI : (k : Int) < (NN : Int) := by omega
   go_wp2
   go_ret
   exact ⟨own', g13, c13, _, rfl, by rw [← HEL.out]; exact HSTF.out, (ChgR.below own HB3.out).trans HCGF.out, .inr ⟨HNOT.out, by rw [← HK.out]⟩⟩
end Go.Proofs.YtfflppedbopdpaaGreat
