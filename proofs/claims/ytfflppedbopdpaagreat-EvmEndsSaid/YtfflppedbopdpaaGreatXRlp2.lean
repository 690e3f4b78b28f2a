/-
  RLP: items as trees; contracts of rlp.of, measure, write, Pack, Num.
  The program's names of accounts: contracts of rlp.Num, evm.low, evm.Address, evm.Address2.
-/
import Derived.Test.YtfflppedbopdpaaGreatXRlp1
import Derived.Test.YtfflppedbopdpaaGreatXTy2
import Derived.Deep.RegionHeld3
set_option linter.unusedVariables false
set_option maxRecDepth 1000000
set_option maxHeartbeats 8000000
set_option linter.unusedSimpArgs false
namespace Go.Mun
open Go.RowKit

inductive RTree where
 | bytes (l : List Int)
 | list (ts : List RTree)
mutual
def packT : RTree → List Int
 | .bytes l => if l.length = 1 ∧ l.getD 0 0 < 128 then l else headL 128 l.length ++ l
 | .list ts => headL 192 (packTs ts).length ++ packTs ts
def packTs : List RTree → List Int
 | [] => []
 | t :: ts => packT t ++ packTs ts
end
mutual
def depthT : RTree → Nat
 | .bytes _ => 0
 | .list ts => 1 + depthTs ts
def depthTs : List RTree → Nat
 | [] => 0
 | t :: ts => max (depthT t) (depthTs ts)
end
inductive ItemAt (w : World) : List Value → RTree → Prop where
 | bytes (a : Option Addr) (n c : Nat) (l : List Int) (o1 : Option Addr) (o2 o3 : Nat) : n = l.length → Ints w .u8 a c l → (∀ x ∈ l, 0 ≤ x ∧ x < 256) → ItemAt w [.bool false, .slice a n c, .slice o1 o2 o3] (.bytes l)
 | list (a : Option Addr) (n c : Nat) (ts : List RTree) (cs : Nat → List Value) (o1 : Option Addr) (o2 o3 : Nat) : n = ts.length → (0 < n → ∃ b off, a = some ⟨b, off, none⟩ ∧ ∀ i, i < n → w.row? b (off + i * 3) 3 = some (cs i)) →
   (∀ i (h : i < ts.length), ItemAt w (cs i) ts[i]) → ItemAt w [.bool true, .slice o1 o2 o3, .slice a n c] (.list ts)
theorem ItemAt.kept {w w' : World} {cs : List Value} {t : RTree} (h : ItemAt w cs t) (hb : Below w.heap.size w w') : ItemAt w' cs t := by
 induction h with
 | bytes a n c l o1 o2 o3 hn hI hx => exact .bytes a n c l o1 o2 o3 hn (hI.below hb) hx
 | list a n c ts cs o1 o2 o3 hn hr _ ih =>
  refine .list a n c ts cs o1 o2 o3 hn (fun h0 => ?_) ih
  obtain ⟨b, off, ha, hc⟩ := hr h0
  exact ⟨b, off, ha, fun i hi => by rw [(brow hb).1 _ _ _ (World.row?_lt (hc i hi))]; exact hc i hi⟩
def ifaceOf : List Value → Value
 | [.bool false, s, _] => .iface 26 s
 | [.bool true, _, s] => .iface 67 s
 | _ => .nilIface
end Go.Mun
namespace Go.Proofs.YtfflppedbopdpaaGreat
open Go.RowKit Go.Mun

theorem ta26 (v : Value) (w : World) : (Instr.typeAssert (.iface 26 v) 105 26 true).run Tryz.prog w = .ok (.tuple #[v, .bool true]) w := by
 simp [Instr.typeAssert, Sem.run_bind, run_underlying Tryz.underlying26]
theorem ta59 (v : Value) (w : World) : (Instr.typeAssert (.iface 67 v) 105 67 true).run Tryz.prog w = .ok (.tuple #[v, .bool true]) w := by
 simp [Instr.typeAssert, Sem.run_bind, run_underlying Tryz.underlying67]
theorem ta59' (v : Value) (w : World) : (Instr.typeAssert (.iface 67 v) 105 26 true).run Tryz.prog w = .ok (.tuple #[.slice none 0 0, .bool false]) w := by
 simp [Instr.typeAssert, Sem.run_bind, run_underlying Tryz.underlying26]
attribute [local go_sem] ta26 ta59 ta59'
def MeasOk (k : Nat) : Prop := ∀ (cs : List Value) (t : RTree) (d : Nat) (w : World), depthT t ≤ k → depthT t + d ≤ 32 → (packT t).length ≤ 16777216 → ItemAt w cs t →
 Calls Tryz.prog 50 #[ifaceOf cs, .int .i64 d] w fun e w' => e = .returned (.tuple #[.int .i64 ((packT t).length : Nat), .bool true]) ∧ Below w.heap.size w w'
/-! write -/
def WriteOk (k : Nat) : Prop := ∀ (cs : List Value) (t : RTree) (w : World), depthT t ≤ k → (packT t).length ≤ 16777216 → ItemAt w cs t →
 Calls Tryz.prog 51 #[ifaceOf cs] w fun e w' => ∃ v, e = .returned v ∧ OwnB w w' v (packT t)
end Go.Proofs.YtfflppedbopdpaaGreat
namespace Go.Proofs.YtfflppedbopdpaaGreat
open Go.RowKit Go.Mun
theorem Ints.only {w w' : World} {k : IntKind} {a : Option Addr} {c : Nat} {l : List Int} {S : Nat → Prop} (h : Ints w k a c l) (ho : Only S w w') (hs : ∀ p, a = some p → ¬ S p.block) : Ints w' k a c l := by
 refine ⟨fun hl => ?_, h.nil, h.len, h.cap⟩
 obtain ⟨b, off, ha, hc⟩ := h.cell hl
 refine ⟨b, off, ha, fun i hi => ?_⟩
 have hb : b < w.heap.size := by
  obtain ⟨b2, o2, ha2, hb2, _⟩ := h.at (i := 0) (List.length_pos_iff.2 hl)
  rw [ha] at ha2; cases ha2; exact hb2
 rw [ho.cell? hb (hs _ ha)]; exact hc i hi
structure NewI (w w' : World) (v : Value) (t : RTree) : Prop where
 read : ∃ cs, v = .agg cs.toArray ∧ ItemAt w' cs t
 below : Below w.heap.size w w'
def lowL (L : List Int) : List Int := (L.drop 12).take 20
theorem lowL_len (L : List Int) (h : L.length = 32) : (lowL L).length = 20 := by simp [lowL, h]
theorem evm_low (L : List Int) (h : L.length = 32) (w : World) : Calls Tryz.prog 29 #[.agg (u8L L).toArray] w fun e w' => e = .returned (.agg (u8L (lowL L)).toArray) ∧ Below w.heap.size w w' := by
 have hl : (u8L L).length = 32 := by simp [h]
 have hok := u8L_ok L 32 h
 have H : Hid ((((u8L L).drop 12).take 20) = u8L (lowL L)) := by unfold Hid lowL u8L; rw [List.map_take, List.map_drop]
 have hok2 := u8L_ok (lowL L) 20 (lowL_len L h)
 clear h
 generalize u8L L = V at *
 have ka : ∀ b w, (Instr.arrayAt 23 (.slice (some ⟨b, 12, none⟩) 20 20)).run Tryz.prog w = .ok (.pointer (some ⟨b, 12, none⟩)) w := fun b w => run_toArray Tryz.underlying23 _ _ _ (by decide) w
 have kr : (w.alloc (.cells V.toArray 25)).row? w.heap.size 12 20 = some ((V.drop 12).take 20) := World.row?_alloc_sub V 25 _ rfl (by omega)
 rw [H.out] at kr
 generalize u8L (lowL L) = R at *
 have kf : ((w.alloc (.cells V.toArray 25)).alloc (.cells (zU8 20).toArray 23)).free? (w.heap.size + 1) 0 20 = true := by simp [go_sem]
 go_enter Tryz.func29, Tryz.ntmps29
 go_wp2
 exact ret_row ty23 rfl _ rfl rfl kf hok2 ⟨rfl, (((Below.refl _ _).alloc (Nat.le_refl _) _).alloc (by simp) _).setCells (by simp) _ _⟩

/-! a literal of two items -/
def itemZ2 : List Value := itemZ ++ itemZ
theorem sl59_2 : SliceLit Tryz.prog 67 69 3 2 itemZ2 := ⟨Tryz.underlying67, ⟨_, .agg itemZ.toArray, rfl, by kernel_rfl, by kernel_rfl, by kernel_rfl⟩, by decide, by simp [itemZ2, itemZ], by decide⟩
def fill59 (p : List (Nat × Value)) : Option (List Value) := fillL (2 * 3) ((List.range 2).map fun i => (i * 3, 3)) itemZ2 p
theorem bs59_2 (ρ : Operand → Value) (dst : Option Tmp) (x y : Operand) (t : TypeId) (pos : String) (after : Array Edge) (gd : Option (Nat × Bool)) (w : World) :
  (execOp ρ ⟨dst, .buildSlice 67 2 #[(0, x), (1, y)], t, pos, after, gd⟩).run Tryz.prog w = asNext (bsRow Tryz.prog 67 69 2 [(0, ρ x), (1, ρ y)] w (fill59 [(0, ρ x), (1, ρ y)])) :=
 ex_bslice ρ dst t pos after gd w sl59_2 [(0, x), (1, y)]
@[go_sem] theorem fill59_two (c0 c1 : List Value) (h0 : c0.length = 3) (h1 : c1.length = 3) : fill59 [(0, .agg c0.toArray), (1, .agg c1.toArray)] = some (c0 ++ c1) := by
 match c0, h0, c1, h1 with
 | [a, b, c], _, [d, e, f], _ => rfl
attribute [go_sem ↓] bs59_2

def adrB (F : List Int) (n : Int) : List Int := packT (.list [.bytes F, .bytes (bigL n.toNat)])
theorem Parts.drew {w : World} {b off : Nat} {bs : List (List Int)} (h : Parts w b off bs) : Parts w.drew b off bs := by
 refine ⟨h.lt, fun i hi => ?_, h.byte⟩
 obtain ⟨a, c, h1, h2⟩ := h.cell i hi
 exact ⟨a, c, h1, h2.below ⟨rfl, rfl, rfl, Nat.le_refl _, fun _ _ => rfl⟩⟩
theorem _root_.Go.Mun.ItemAt.len {w : World} {cs : List Value} {t : RTree} (h : ItemAt w cs t) : cs.length = 3 := by cases h <;> rfl
def adr2B (F S D : List Int) : List Int := [255] ++ F ++ S ++ kecL D
end Go.Proofs.YtfflppedbopdpaaGreat
