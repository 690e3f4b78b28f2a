/-
  RLP: items as trees; contracts of rlp.of, measure, write, Pack, Num.
  The program's names of accounts: contracts of rlp.Num, evm.low, evm.Address, evm.Address2.
-/
import Derived.Test.YtfflppedbopdpaaGreatQRlp1
import Derived.Test.YtfflppedbopdpaaGreatQTy2
import Derived.Deep.RegionHeld3
set_option linter.unusedVariables false
set_option maxRecDepth 1000000
set_option maxHeartbeats 8000000
set_option linter.unusedSimpArgs false
namespace Go.Mun
open Go.RowKit

inductive RTree where
 | bytes (l : List Int)
 | list (ts : List RTree)
mutual
def packT : RTree → List Int
 | .bytes l => if l.length = 1 ∧ l.getD 0 0 < 128 then l else headL 128 l.length ++ l
 | .list ts => headL 192 (packTs ts).length ++ packTs ts
def packTs : List RTree → List Int
 | [] => []
 | t :: ts => packT t ++ packTs ts
end
mutual
def depthT : RTree → Nat
 | .bytes _ => 0
 | .list ts => 1 + depthTs ts
def depthTs : List RTree → Nat
 | [] => 0
 | t :: ts => max (depthT t) (depthTs ts)
end
theorem packTs_take (ts : List RTree) (k : Nat) (h : k < ts.length) : packTs (ts.take (k + 1)) = packTs (ts.take k) ++ packT ts[k] := by
 induction ts generalizing k with
 | nil => simp at h
 | cons t ts ih =>
  cases k with
  | zero => simp [packTs]
  | succ k =>
   simp at h
   simp only [List.take_succ_cons, packTs, ih k (by omega), List.getElem_cons_succ, List.append_assoc]
theorem packTs_take_le (ts : List RTree) (k : Nat) : (packTs (ts.take k)).length ≤ (packTs ts).length := by
 induction ts generalizing k with
 | nil => simp [packTs]
 | cons t ts ih =>
  cases k with
  | zero => simp [packTs]
  | succ k => simp only [List.take_succ_cons, packTs, List.length_append]; have := ih k; omega
theorem packT_le (ts : List RTree) (k : Nat) (h : k < ts.length) : (packT ts[k]).length ≤ (packTs ts).length := by
 have h1 := packTs_take ts k h
 have h2 := packTs_take_le ts (k + 1)
 rw [h1] at h2; simp at h2; omega
theorem depthT_le (ts : List RTree) (k : Nat) (h : k < ts.length) : depthT ts[k] ≤ depthTs ts := by
 induction ts generalizing k with
 | nil => simp at h
 | cons t ts ih =>
  cases k with
  | zero => simp [depthTs]; omega
  | succ k => simp at h; have := ih k (by omega); simp only [depthTs, List.getElem_cons_succ]; omega
theorem headL_len (base n : Nat) : (headL base n).length + n = if n ≤ 55 then 1 + n else 1 + (bigL n).length + n := by
 unfold headL
 split <;> simp; omega

inductive ItemAt (w : World) : List Value → RTree → Prop where
 | bytes (a : Option Addr) (n c : Nat) (l : List Int) (o1 : Option Addr) (o2 o3 : Nat) : n = l.length → Ints w .u8 a c l → (∀ x ∈ l, 0 ≤ x ∧ x < 256) → ItemAt w [.bool false, .slice a n c, .slice o1 o2 o3] (.bytes l)
 | list (a : Option Addr) (n c : Nat) (ts : List RTree) (cs : Nat → List Value) (o1 : Option Addr) (o2 o3 : Nat) : n = ts.length → (0 < n → ∃ b off, a = some ⟨b, off, none⟩ ∧ ∀ i, i < n → w.row? b (off + i * 3) 3 = some (cs i)) →
   (∀ i (h : i < ts.length), ItemAt w (cs i) ts[i]) → ItemAt w [.bool true, .slice o1 o2 o3, .slice a n c] (.list ts)
theorem ItemAt.kept {w w' : World} {cs : List Value} {t : RTree} (h : ItemAt w cs t) (hb : Below w.heap.size w w') : ItemAt w' cs t := by
 induction h with
 | bytes a n c l o1 o2 o3 hn hI hx => exact .bytes a n c l o1 o2 o3 hn (hI.below hb) hx
 | list a n c ts cs o1 o2 o3 hn hr _ ih =>
  refine .list a n c ts cs o1 o2 o3 hn (fun h0 => ?_) ih
  obtain ⟨b, off, ha, hc⟩ := hr h0
  exact ⟨b, off, ha, fun i hi => by rw [(brow hb).1 _ _ _ (World.row?_lt (hc i hi))]; exact hc i hi⟩
def ifaceOf : List Value → Value
 | [.bool false, s, _] => .iface 26 s
 | [.bool true, _, s] => .iface 67 s
 | _ => .nilIface
end Go.Mun
namespace Go.Proofs.YtfflppedbopdpaaGreat
open Go.RowKit Go.Mun

theorem ta26 (v : Value) (w : World) : (Instr.typeAssert (.iface 26 v) 105 26 true).run Tryz.prog w = .ok (.tuple #[v, .bool true]) w := by
 simp [Instr.typeAssert, Sem.run_bind, run_underlying Tryz.underlying26]
theorem ta59 (v : Value) (w : World) : (Instr.typeAssert (.iface 67 v) 105 67 true).run Tryz.prog w = .ok (.tuple #[v, .bool true]) w := by
 simp [Instr.typeAssert, Sem.run_bind, run_underlying Tryz.underlying67]
theorem ta59' (v : Value) (w : World) : (Instr.typeAssert (.iface 67 v) 105 26 true).run Tryz.prog w = .ok (.tuple #[.slice none 0 0, .bool false]) w := by
 simp [Instr.typeAssert, Sem.run_bind, run_underlying Tryz.underlying26]
attribute [local go_sem] ta26 ta59 ta59'
def MeasOk (k : Nat) : Prop := ∀ (cs : List Value) (t : RTree) (d : Nat) (w : World), depthT t ≤ k → depthT t + d ≤ 32 → (packT t).length ≤ 16777216 → ItemAt w cs t →
 Calls Tryz.prog 50 #[ifaceOf cs, .int .i64 d] w fun e w' => e = .returned (.tuple #[.int .i64 ((packT t).length : Nat), .bool true]) ∧ Below w.heap.size w w'
theorem headL_pos (base n : Nat) : 1 ≤ (headL base n).length := by unfold headL; split <;> simp
theorem packT_pos (t : RTree) : 1 ≤ (packT t).length := by
 cases t with
 | bytes l =>
  simp only [packT]
  split
  ·rename_i h; omega
  ·have := headL_pos 128 l.length; simp; omega
 | list ts => have := headL_pos 192 (packTs ts).length; simp only [packT, List.length_append]; omega
theorem packTs_pos (ts : List RTree) : ts.length ≤ (packTs ts).length := by
 induction ts with
 | nil => simp
 | cons t ts ih => have := packT_pos t; simp only [packTs, List.length_append, List.length_cons]; omega
theorem packTs_le (ts : List RTree) : (packTs ts).length ≤ (packT (.list ts)).length := by simp only [packT, List.length_append]; omega
/-! write -/
def WriteOk (k : Nat) : Prop := ∀ (cs : List Value) (t : RTree) (w : World), depthT t ≤ k → (packT t).length ≤ 16777216 → ItemAt w cs t →
 Calls Tryz.prog 51 #[ifaceOf cs] w fun e w' => ∃ v, e = .returned v ∧ OwnB w w' v (packT t)
end Go.Proofs.YtfflppedbopdpaaGreat
namespace Go.Proofs.YtfflppedbopdpaaGreat
open Go.RowKit Go.Mun
theorem Ints.only {w w' : World} {k : IntKind} {a : Option Addr} {c : Nat} {l : List Int} {S : Nat → Prop} (h : Ints w k a c l) (ho : Only S w w') (hs : ∀ p, a = some p → ¬ S p.block) : Ints w' k a c l := by
 refine ⟨fun hl => ?_, h.nil, h.len, h.cap⟩
 obtain ⟨b, off, ha, hc⟩ := h.cell hl
 refine ⟨b, off, ha, fun i hi => ?_⟩
 have hb : b < w.heap.size := by
  obtain ⟨b2, o2, ha2, hb2, _⟩ := h.at (i := 0) (List.length_pos_iff.2 hl)
  rw [ha] at ha2; cases ha2; exact hb2
 rw [ho.cell? hb (hs _ ha)]; exact hc i hi
theorem bigL_byte (n : Nat) : ∀ x ∈ bigL n, 0 ≤ x ∧ x < 256 := fun x hx => digs_byte n x (List.mem_reverse.1 hx)

structure NewI (w w' : World) (v : Value) (t : RTree) : Prop where
 read : ∃ cs, v = .agg cs.toArray ∧ ItemAt w' cs t
 below : Below w.heap.size w w'
def lowL (L : List Int) : List Int := (L.drop 12).take 20
theorem lowL_len (L : List Int) (h : L.length = 32) : (lowL L).length = 20 := by simp [lowL, h]
theorem evm_low (L : List Int) (h : L.length = 32) (w : World) : Calls Tryz.prog 29 #[.agg (u8L L).toArray] w fun e w' => e = .returned (.agg (u8L (lowL L)).toArray) ∧ Below w.heap.size w w' := by
 have hl : (u8L L).length = 32 := by simp [h]
 have hok := u8L_ok L 32 h
 have H : Hid ((((u8L L).drop 12).take 20) = u8L (lowL L)) := by unfold Hid lowL u8L; rw [List.map_take, List.map_drop]
 have hok2 := u8L_ok (lowL L) 20 (lowL_len L h)
 clear h
 generalize u8L L = V at *
 have ka : ∀ b w, (Instr.arrayAt 23 (.slice (some ⟨b, 12, none⟩) 20 20)).run Tryz.prog w = .ok (.pointer (some ⟨b, 12, none⟩)) w := fun b w => run_toArray Tryz.underlying23 _ _ _ (by decide) w
 have kr : (w.alloc (.cells V.toArray 25)).row? w.heap.size 12 20 = some ((V.drop 12).take 20) := World.row?_alloc_sub V 25 _ rfl (by omega)
 rw [H.out] at kr
 generalize u8L (lowL L) = R at *
 have kf : ((w.alloc (.cells V.toArray 25)).alloc (.cells (zU8 20).toArray 23)).free? (w.heap.size + 1) 0 20 = true := by simp [go_sem]
 go_enter Tryz.func29, Tryz.ntmps29
 go_wp2
 exact ret_row ty23 rfl _ rfl rfl kf hok2 ⟨rfl, (((Below.refl _ _).alloc (Nat.le_refl _) _).alloc (by simp) _).setCells (by simp) _ _⟩

/-! a literal of two items -/
def itemZ2 : List Value := itemZ ++ itemZ
theorem sl59_2 : SliceLit Tryz.prog 67 69 3 2 itemZ2 := ⟨Tryz.underlying67, ⟨_, .agg itemZ.toArray, rfl, by kernel_rfl, by kernel_rfl, by kernel_rfl⟩, by decide, by simp [itemZ2, itemZ], by decide⟩
def fill59 (p : List (Nat × Value)) : Option (List Value) := fillL (2 * 3) ((List.range 2).map fun i => (i * 3, 3)) itemZ2 p
theorem bs59_2 (ρ : Operand → Value) (dst : Option Tmp) (x y : Operand) (t : TypeId) (pos : String) (after : Array Edge) (gd : Option (Nat × Bool)) (w : World) :
  (execOp ρ ⟨dst, .buildSlice 67 2 #[(0, x), (1, y)], t, pos, after, gd⟩).run Tryz.prog w = asNext (bsRow Tryz.prog 67 69 2 [(0, ρ x), (1, ρ y)] w (fill59 [(0, ρ x), (1, ρ y)])) :=
 ex_bslice ρ dst t pos after gd w sl59_2 [(0, x), (1, y)]
@[go_sem] theorem fill59_two (c0 c1 : List Value) (h0 : c0.length = 3) (h1 : c1.length = 3) : fill59 [(0, .agg c0.toArray), (1, .agg c1.toArray)] = some (c0 ++ c1) := by
 match c0, h0, c1, h1 with
 | [a, b, c], _, [d, e, f], _ => rfl
attribute [go_sem ↓] bs59_2

theorem item_bytes {w : World} {b off n c : Nat} {F : List Int} (hF : F.length = n) (hr : w.row? b off n = some (u8L F)) (hc : n ≤ c) (hm : c ≤ maxLen) (hx : ∀ x ∈ F, 0 ≤ x ∧ x < 256) :
  ItemAt w [.bool false, .slice (some ⟨b, off, none⟩) n c, .slice none 0 0] (.bytes F) := by
 refine .bytes _ n c F none 0 0 hF.symm ⟨fun _ => ⟨b, off, rfl, fun i hi => ?_⟩, fun h => by simp at h, by omega, hm⟩ hx
 rw [World.row?_cell hr (show i < n by omega)]
 simp [u8L, List.getElem?_map, List.getElem?_eq_getElem hi]

def adrB (F : List Int) (n : Int) : List Int := packT (.list [.bytes F, .bytes (bigL n.toNat)])
theorem adr_small (F : List Int) (hF : F.length = 20) (n : Int) (hn : n ≤ 9223372036854775807) : (adrB F n).length ≤ 100 := by
 have h8 := digs_len n.toNat 8 (by have : (256 : Nat) ^ 8 = 18446744073709551616 := by decide
                                   omega)
 have hb : (bigL n.toNat).length ≤ 8 := by simpa [bigL] using h8
 have e1 : (packT (.bytes F)).length ≤ 21 := by
  simp only [packT]
  split
  ·omega
  ·simp [headL, hF]
 have e2 : (packT (.bytes (bigL n.toNat))).length ≤ 9 := by
  simp only [packT]
  split
  ·omega
  ·simp only [headL, List.length_append]; rw [if_pos (by omega)]; simp; omega
 have e3 : (packTs [.bytes F, .bytes (bigL n.toNat)]).length ≤ 30 := by
  simp only [packTs, List.length_append, List.length_nil]; omega
 have e4 : (adrB F n).length = (headL 192 (packTs [.bytes F, .bytes (bigL n.toNat)]).length).length + (packTs [.bytes F, .bytes (bigL n.toNat)]).length := by
  unfold adrB; rw [packT, List.length_append]
 rw [e4, headL_len, if_pos (by omega)]; omega
theorem headL_byte (base n : Nat) (hb : base ≤ 192) (hn : n ≤ 16777216) : ∀ x ∈ headL base n, 0 ≤ x ∧ x < 256 := by
 have hs := size_nat n hn
 intro x hx
 unfold headL at hx
 split at hx
 ·simp at hx; omega
 ·rcases List.mem_cons.1 hx with rfl | h
  ·omega
  ·exact bigL_byte n x h
theorem packB_byte (l : List Int) (hl : l.length ≤ 16777216) (h : ∀ x ∈ l, 0 ≤ x ∧ x < 256) : ∀ x ∈ packT (.bytes l), 0 ≤ x ∧ x < 256 := by
 intro x hx
 simp only [packT] at hx
 split at hx
 ·exact h x hx
 ·rcases List.mem_append.1 hx with h1 | h1
  ·exact headL_byte 128 _ (by decide) hl x h1
  ·exact h x h1
theorem packL_byte (ts : List RTree) (hl : (packTs ts).length ≤ 16777216) (h : ∀ t ∈ ts, ∀ x ∈ packT t, 0 ≤ x ∧ x < 256) : ∀ x ∈ packT (.list ts), 0 ≤ x ∧ x < 256 := by
 have h2 : ∀ ts : List RTree, (∀ t ∈ ts, ∀ x ∈ packT t, 0 ≤ x ∧ x < 256) → ∀ x ∈ packTs ts, 0 ≤ x ∧ x < 256 := by
  intro ts
  induction ts with
  | nil => intro _ x hx; simp [packTs] at hx
  | cons t ts ih =>
   intro h x hx
   simp only [packTs, List.mem_append] at hx
   rcases hx with h1 | h1
   ·exact h t (by simp) x h1
   ·exact ih (fun t ht => h t (by simp [ht])) x h1
 intro x hx
 simp only [packT, List.mem_append] at hx
 rcases hx with h1 | h1
 ·exact headL_byte 192 _ (by decide) hl x h1
 ·exact h2 ts h x h1
theorem adrB_byte (F : List Int) (hF : F.length = 20) (hx : ∀ x ∈ F, 0 ≤ x ∧ x < 256) (n : Int) (hn : n ≤ 9223372036854775807) : ∀ x ∈ adrB F n, 0 ≤ x ∧ x < 256 := by
 have hs := adr_small F hF n hn
 have h8 := digs_len n.toNat 8 (by have : (256 : Nat) ^ 8 = 18446744073709551616 := by decide
                                   omega)
 have hb : (bigL n.toNat).length ≤ 8 := by simpa [bigL] using h8
 refine packL_byte _ (Nat.le_trans (packTs_le _) (Nat.le_trans hs (by decide))) ?_
 intro t ht
 rcases List.mem_cons.1 ht with rfl | h
 ·exact packB_byte F (by omega) hx
 ·obtain rfl : t = .bytes (bigL n.toNat) := by simpa using h
  exact packB_byte _ (by omega) (bigL_byte _)
theorem parts_one {w : World} {a : Option Addr} {c : Nat} {l : List Int} (t : TypeId) (h : Ints w .u8 a c l) (hx : ∀ x ∈ l, 0 ≤ x ∧ x < 256) : Parts (w.alloc (.cells #[.slice a l.length c] t)) w.heap.size 0 [l] := by
 refine ⟨by simp, fun i hi => ?_, fun l' hl' => ?_⟩
 ·obtain rfl : i = 0 := by simpa using hi
  refine ⟨a, c, ?_, h.below ((Below.refl _ _).alloc (Nat.le_refl _) _)⟩
  rw [World.cell?_alloc_new]; rfl
 ·obtain rfl : l' = l := by simpa using hl'
  exact hx
theorem Parts.drew {w : World} {b off : Nat} {bs : List (List Int)} (h : Parts w b off bs) : Parts w.drew b off bs := by
 refine ⟨h.lt, fun i hi => ?_, h.byte⟩
 obtain ⟨a, c, h1, h2⟩ := h.cell i hi
 exact ⟨a, c, h1, h2.below ⟨rfl, rfl, rfl, Nat.le_refl _, fun _ _ => rfl⟩⟩
theorem kecL_byte (l : List Int) : ∀ x ∈ kecL l, 0 ≤ x ∧ x < 256 := by
 intro x hx
 simp only [kecL, List.mem_map] at hx
 obtain ⟨i, _, rfl⟩ := hx
 unfold outB
 omega
theorem kecL_len (l : List Int) : (kecL l).length = 32 := by simp [kecL]
theorem _root_.Go.Mun.ItemAt.len {w : World} {cs : List Value} {t : RTree} (h : ItemAt w cs t) : cs.length = 3 := by cases h <;> rfl
theorem lay3_1 (s : Value) : lay itemZ 1 [s] = [.bool false, s, .slice none 0 0] := rfl
theorem lay3_02 (s : Value) : lay (lay itemZ 0 [.bool true]) 2 [s] = [.bool true, .slice none 0 0, s] := rfl
theorem item_two {w : World} {c0 c1 : List Value} {t0 t1 : RTree} (h0 : ItemAt w c0 t0) (h1 : ItemAt w c1 t1) :
  ItemAt (w.alloc (.cells (c0 ++ c1).toArray 69)) (lay (lay itemZ 0 [.bool true]) 2 [.slice (some ⟨w.heap.size, 0, none⟩) 2 2]) (.list [t0, t1]) := by
 rw [lay3_02]
 have hb : Below w.heap.size w (w.alloc (.cells (c0 ++ c1).toArray 69)) := (Below.refl _ _).alloc (Nat.le_refl _) _
 have l0 := h0.len; have l1 := h1.len
 refine .list _ 2 2 _ (fun i => if i = 0 then c0 else c1) none 0 0 rfl (fun _ => ⟨_, 0, rfl, fun i hi => ?_⟩) (fun i hi => ?_)
 ·rw [World.row?_alloc_sub (c0 ++ c1) 69 _ rfl (by simp; omega)]
  match i, hi with
  | 0, _ => simp [← l0]
  | 1, _ => simp [← l0, List.drop_left']; rw [l0, ← l1]; simp
 ·match i, hi with
  | 0, _ => exact h0.kept hb
  | 1, _ => exact h1.kept hb
def adr2B (F S D : List Int) : List Int := [255] ++ F ++ S ++ kecL D
theorem evm_address2 (F S D : List Int) (hF : F.length = 20) (hS : S.length = 32) (hx : ∀ x ∈ F, 0 ≤ x ∧ x < 256) (hy : ∀ x ∈ S, 0 ≤ x ∧ x < 256) (a : Option Addr) (n c : Nat) (hn : n = D.length) (w : World)
  (hI : Ints w .u8 a c D) (hd : ∀ x ∈ D, 0 ≤ x ∧ x < 256) :
  Calls Tryz.prog 11 #[.agg (u8L F).toArray, .agg (u8L S).toArray, .slice a n c] w fun e w' => e = .returned (.agg (u8L (lowL (kecL (adr2B F S D)))).toArray) ∧ Below w.heap.size w w' := by
 subst hn
 have hl : (u8L F).length = 20 := by simp [hF]
 have hl2 : (u8L S).length = 32 := by simp [hS]
 have hok := u8L_ok F 20 hF
 have hok2 := u8L_ok S 32 hS
 have HX := Lib.hid (And.intro hx hy)
 have HD := Lib.hid hd
 have HFS := Lib.hid (And.intro hF hS)
 have HI := Lib.hid hI
 clear hF hS hx hy hd hI
 have HW0 : Hid (∃ w0, w0 = ((w.alloc (Obj.cells (u8L F).toArray 23)).alloc (Obj.cells (u8L S).toArray 25)).alloc (Obj.cells (zU8 20).toArray 23) ∧ Below w.heap.size w w0 ∧ w0.heap.size = w.heap.size + 3 ∧
   w0.row? w.heap.size 0 20 = some (u8L F) ∧ w0.row? (w.heap.size + 1) 0 32 = some (u8L S) ∧ w0.free? (w.heap.size + 1 + 1) 0 20 = true) := by
  refine ⟨_, rfl, (((Below.refl _ _).alloc (Nat.le_refl _) _).alloc (by simp) _).alloc (by simp; omega) _, by simp, ?_, ?_, by simp [go_sem]⟩
  ·rw [World.row?_alloc_lt _ (by simp; omega), World.row?_alloc_lt _ (by simp)]; exact World.row?_alloc_at (u8L F) 23 _ rfl hl
  ·rw [World.row?_alloc_lt _ (by simp)]; exact World.row?_alloc_at (u8L S) 25 _ (by simp) hl2
 obtain ⟨w0, ew0, hb0, hz0, hr1, hr2, hf0⟩ := HW0.out
 clear HW0
 have HB0 := Lib.hid hb0
 have HZ0 := Lib.hid hz0
 have HR0 := Lib.hid (And.intro hr1 (And.intro hr2 hf0))
 have HE0 := Lib.hid ew0
 clear hb0 hz0 hr1 hr2 hf0 ew0
 go_enter Tryz.func11, Tryz.ntmps11
 go_wp2_with fail
 rw [← HE0.out]
 have hZ : w.heap.size + 1 + 1 + 1 = w0.heap.size := by rw [HZ0.out]
 rw [hZ]
 have HI0 := HI.out.below HB0.out
 have HP := Lib.hid (parts_one 26 HI0 HD.out)
 have HZ1 := Lib.hid hZ
 clear HI0 hZ
 refine (kec_sum w0.heap.size 0 1 1 [D] rfl (by decide) _ HP.out).mono ?_
 rintro e w1 ⟨rfl, hb1⟩
 have HK : Hid ([D].flatten = D) := by unfold Hid; simp
 rw [HK.out]
 have hK32 := kecL_len D
 have hKok := u8L_ok (kecL D) 32 hK32
 have hKl : (u8L (kecL D)).length = 32 := by simp [hK32]
 have HB1 : Hid (Below w0.heap.size w0 w1) := ((Below.refl _ w0).alloc (Nat.le_refl _) _).trans (hb1.mono (by simp))
 have HS1 : Hid (w0.heap.size + 1 ≤ w1.heap.size) := by have := hb1.size; simpa [Hid] using this
 clear hb1
 go_wp2_with fail
 have hl1 := HS1.out
 have HW2 : Hid (∃ w2, w2 = (w1.alloc (Obj.cells (zU8 32).toArray 25)).setCells w1.heap.size 0 (u8L (kecL D)) ∧ Below w.heap.size w w2 ∧ w2.row? w.heap.size 0 20 = some (u8L F) ∧ w2.row? (w.heap.size + 1) 0 32 = some (u8L S) ∧
   w2.free? (w.heap.size + 1 + 1) 0 20 = true ∧ w2.row? w1.heap.size 0 32 = some (u8L (kecL D)) ∧ w.heap.size + 3 < w2.heap.size) := by
  have hb2 : Below w0.heap.size w0 ((w1.alloc (Obj.cells (zU8 32).toArray 25)).setCells w1.heap.size 0 (u8L (kecL D))) := (HB1.out.alloc (HB1.out.size) _).setCells (HB1.out.size) _ _
  have hz := HZ0.out
  refine ⟨_, rfl, HB0.out.trans (hb2.mono (HB0.out.size)), ?_, ?_, ?_, ?_, by simp; omega⟩
  ·rw [World.row?_of_block (hb2.block _ (by omega))]; exact HR0.out.1
  ·rw [World.row?_of_block (hb2.block _ (by omega))]; exact HR0.out.2.1
  ·rw [World.free?_of_block (hb2.block _ (by omega))]; exact HR0.out.2.2
  ·exact row?_setCells_whole _ (by simp [go_sem]) hKok
 obtain ⟨w2, ew2, hb2, hr1, hr2, hf2, hr3, hz2⟩ := HW2.out
 rw [← ew2]
 have HPa : Hid (∀ W, Below w2.heap.size w2 W → W.heap.size = w2.heap.size →
   Parts ((W.alloc (.cells #[.int .u8 255] 5)).alloc (.cells #[.slice (some ⟨W.heap.size, 0, none⟩) 1 1, .slice (some ⟨w.heap.size, 0, none⟩) 20 20, .slice (some ⟨w.heap.size + 1, 0, none⟩) 32 32, .slice (some ⟨w1.heap.size, 0, none⟩) 32 32] 26)) (W.heap.size + 1) 0 [[255], F, S, kecL D]) := by
  intro W hW hWs
  have ints : ∀ (b n : Nat) (L : List Int), L.length = n → n ≤ 32 → W.row? b 0 n = some (u8L L) → Ints W .u8 (some ⟨b, 0, none⟩) n L := by
   intro b n L hL hn hr
   refine ⟨fun _ => ⟨b, 0, rfl, fun i hi => ?_⟩, fun h => by simp at h, by omega, by unfold maxLen; omega⟩
   rw [World.row?_cell hr (show i < n by omega)]
   simp [u8L, List.getElem?_map, List.getElem?_eq_getElem hi]
  have i1 := ints w.heap.size 20 F HFS.out.1 (by decide) (by rw [World.row?_of_block (hW.block _ (by omega))]; exact hr1)
  have i2 := ints (w.heap.size + 1) 32 S HFS.out.2 (by decide) (by rw [World.row?_of_block (hW.block _ (by omega))]; exact hr2)
  have i3 := ints w1.heap.size 32 (kecL D) hK32 (by decide) (by rw [World.row?_of_block (hW.block _ (World.row?_lt hr3))]; exact hr3)
  have hbb : Below W.heap.size W ((W.alloc (.cells #[.int .u8 255] 5)).alloc (.cells #[.slice (some ⟨W.heap.size, 0, none⟩) 1 1, .slice (some ⟨w.heap.size, 0, none⟩) 20 20, .slice (some ⟨w.heap.size + 1, 0, none⟩) 32 32, .slice (some ⟨w1.heap.size, 0, none⟩) 32 32] 26)) :=
   ((Below.refl _ _).alloc (Nat.le_refl _) _).alloc (by simp) _
  have i0 : Ints ((W.alloc (.cells #[.int .u8 255] 5)).alloc (.cells #[.slice (some ⟨W.heap.size, 0, none⟩) 1 1, .slice (some ⟨w.heap.size, 0, none⟩) 20 20, .slice (some ⟨w.heap.size + 1, 0, none⟩) 32 32, .slice (some ⟨w1.heap.size, 0, none⟩) 32 32] 26)) .u8 (some ⟨W.heap.size, 0, none⟩) 1 [255] :=
   (Ints.new W .u8 [255] 5 (by decide)).below ((Below.refl _ _).alloc (Nat.le_refl _) _)
  refine ⟨by simp, fun i hi => ?_, fun l hl' => ?_⟩
  ·have hc : ∀ j : Nat, ((W.alloc (.cells #[.int .u8 255] 5)).alloc (.cells #[.slice (some ⟨W.heap.size, 0, none⟩) 1 1, .slice (some ⟨w.heap.size, 0, none⟩) 20 20, .slice (some ⟨w.heap.size + 1, 0, none⟩) 32 32, .slice (some ⟨w1.heap.size, 0, none⟩) 32 32] 26)).cell? ⟨W.heap.size + 1, 0 + j, none⟩ =
       (#[.slice (some ⟨W.heap.size, 0, none⟩) 1 1, .slice (some ⟨w.heap.size, 0, none⟩) 20 20, .slice (some ⟨w.heap.size + 1, 0, none⟩) 32 32, .slice (some ⟨w1.heap.size, 0, none⟩) 32 32] : Array Value)[j]? := by
    intro j
    have e : W.heap.size + 1 = (W.alloc (.cells #[.int .u8 255] 5)).heap.size := by simp
    rw [e, World.cell?_alloc_new, Nat.zero_add]
   match i, hi with
   | 0, _ => exact ⟨_, 1, by rw [hc]; rfl, i0⟩
   | 1, _ => exact ⟨_, 20, by rw [hc]; show _ = some (Value.slice _ F.length _); rw [HFS.out.1]; rfl, i1.below hbb⟩
   | 2, _ => exact ⟨_, 32, by rw [hc]; show _ = some (Value.slice _ S.length _); rw [HFS.out.2]; rfl, i2.below hbb⟩
   | 3, _ => exact ⟨_, 32, by rw [hc]; show _ = some (Value.slice _ (kecL D).length _); rw [hK32]; rfl, i3.below hbb⟩
  ·simp only [List.mem_cons, List.not_mem_nil, or_false] at hl'
   rcases hl' with rfl | rfl | rfl | rfl
   ·intro x hx; obtain rfl : x = 255 := by simpa using hx
    decide
   ·exact HX.out.1
   ·exact HX.out.2
   ·exact kecL_byte D
 have HFl : Hid (kecL [[255], F, S, kecL D].flatten = kecL (adr2B F S D)) := by unfold Hid; simp [adr2B]
 have HB2 := Lib.hid hb2
 have HZ2 := Lib.hid hz2
 have hlt2 : w.heap.size + 1 + 1 < w2.heap.size := by omega
 clear hb2 hr1 hr2 hr3 hz2 ew2 hl hl2 hKl hK32 hKok hok hok2 hl1
 generalize w1.heap.size = kb at *
 have hq1 : ∀ o, (w2.alloc o).free? (w.heap.size + 1 + 1) 0 20 = true := fun o => by rw [World.free?_alloc_lt _ hlt2]; exact hf2
 have hq2 : ∀ o o', ((w2.alloc o).alloc o').free? (w.heap.size + 1 + 1) 0 20 = true := fun o o' => by rw [World.free?_alloc_lt _ (by simp; omega)]; exact hq1 o
 obtain ⟨V, eV⟩ : ∃ V, V = u8L (kecL (adr2B F S D)) := ⟨_, rfl⟩
 obtain ⟨R, eR⟩ : ∃ R, R = u8L (lowL (kecL (adr2B F S D))) := ⟨_, rfl⟩
 have hR20 : R.length = 20 := by rw [eR]; simp [lowL_len _ (kecL_len _)]
 have hRok : okL 20 R = true := by rw [eR]; exact u8L_ok _ _ (lowL_len _ (kecL_len _))
 have hRone : ∀ v ∈ R, v.oneCell' = true := okL_mem hRok
 have hRsz : Option.map (fun x => x.size) (Tryz.prog.info? 23) = some R.length := by rw [hR20]; exact ty23.size
 have hsum : ∀ W, Parts W (w2.heap.size + 1) 0 [[255], F, S, kecL D] → Calls Tryz.prog 30 #[.slice (some ⟨w2.heap.size + 1, 0, none⟩) 4 4] W fun e w' => e = .returned (.agg V.toArray) ∧ Below W.heap.size W w' := by
  intro W hW
  rw [eV, ← HFl.out]
  exact kec_sum (w2.heap.size + 1) 0 4 4 [[255], F, S, kecL D] rfl (by decide) W hW
 have hlow : ∀ W, Calls Tryz.prog 29 #[.agg V.toArray] W fun e w' => e = .returned (.agg R.toArray) ∧ Below W.heap.size W w' := by
  intro W
  rw [eV, eR]
  exact evm_low _ (kecL_len _) W
 have HSum := Lib.hid hsum
 have HLow := Lib.hid hlow
 have HRe := Lib.hid eR
 clear hsum hlow eR eV HFl
 go_region_held3 (fun w' => w'.free? (w.heap.size + 1 + 1) 0 20 = true) (first | exact hk5 | exact hk4 | exact hf2 | exact hq1 _ | exact hq2 _ _ | exact (World.free?_setCells' _ _ _).trans hk5)
  (first | (go_at_call 30; refine (HSum.out _ (by first | exact HPa.out w2 (Below.refl _ w2) rfl | exact (HPa.out w2 (Below.refl _ w2) rfl).drew)).mono ?_; rintro e w4 ⟨rfl, hb4⟩; have hk4 : w4.free? (w.heap.size + 1 + 1) 0 20 = true := ((World.free?_of_block (hb4.block _ (by simp; omega))).trans (hq2 _ _))) | (go_at_call 29; refine (HLow.out _).mono ?_; rintro e w5 ⟨rfl, hb5⟩; have hk5 : w5.free? (w.heap.size + 1 + 1) 0 20 = true := (World.free?_of_block (hb5.block _ (free?_lt hk4))).trans hk4; have hth : w5.there (w.heap.size + 1 + 1) 0 20 := World.free?_there hk5))
 have HB5 : Hid (Below w.heap.size w w5) := by
  have hz := HZ2.out
  have hb4' := hb4.mono (B' := w2.heap.size) (by simp; try omega)
  have h0 := fun o o' => ((Below.refl w2.heap.size w2).alloc (Nat.le_refl _) o).alloc (by simp) o'
  have h24 : Below w2.heap.size w2 w4 := by first | exact (h0 _ _).trans hb4' | exact (h0 _ _).drew.trans hb4'
  have s4 : w2.heap.size ≤ w4.heap.size := h24.size
  exact HB2.out.trans ((h24.trans (hb5.mono s4)).mono (by omega))
 clear hb4 hb5 hq1 hq2
 go_wp2
 exact ret_row ty23 rfl _ rfl rfl hk5 hRok ⟨by rw [HRe.out], HB5.out.setCells (by omega) _ _⟩
end Go.Proofs.YtfflppedbopdpaaGreat
