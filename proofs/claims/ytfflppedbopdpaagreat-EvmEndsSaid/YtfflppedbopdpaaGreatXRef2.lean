/-
  The reference's RLP: contracts of Bytes, List, Lowest, Big, Num.
  The reference's RLP: contracts of Deep, pack, Pack.
  The reference's RLP: pack of lists, Pack.
-/
import Derived.Test.YtfflppedbopdpaaGreatXRef1
import Derived.Test.YtfflppedbopdpaaGreatXRRlp
import Derived.Test.YtfflppedbopdpaaGreatXRlp2
import Derived.Test.YtfflppedbopdpaaGreatXKecT
import Derived.Test.YtfflppedbopdpaaGreatXEv16
set_option linter.unusedVariables false
set_option maxRecDepth 1000000
set_option maxHeartbeats 8000000
set_option linter.unusedSimpArgs false
namespace Go.Proofs.YtfflppedbopdpaaGreat
open Go.RowKit Go.Mun

theorem ref_low (L : List Int) (h : L.length = 32) (w : World) : Calls Tryz.prog 35 #[.agg (u8L L).toArray] w fun e w' => e = .returned (.agg (u8L (lowL L)).toArray) ∧ Below w.heap.size w w' := by
 have hl : (u8L L).length = 32 := by simp [h]
 have hok := u8L_ok L 32 h
 have H : Hid ((((u8L L).drop 12).take 20) = u8L (lowL L)) := by unfold Hid lowL u8L; rw [List.map_take, List.map_drop]
 have hok2 := u8L_ok (lowL L) 20 (lowL_len L h)
 have hl2 : (u8L (lowL L)).length = 20 := by simp [lowL_len L h]
 clear h
 generalize u8L L = V at *
 obtain ⟨w0, ew0⟩ : ∃ w0, w0 = ((w.alloc (.cells V.toArray 25)).alloc (.cells (zU8 20).toArray 23)).alloc (.cells (zU8 20).toArray 23) := ⟨_, rfl⟩
 have kr : w0.row? w.heap.size 12 20 = some ((V.drop 12).take 20) := by
  rw [ew0, World.row?_alloc_lt _ (by simp; omega), World.row?_alloc_lt _ (by simp)]; exact World.row?_alloc_sub V 25 _ rfl (by omega)
 rw [H.out] at kr
 generalize u8L (lowL L) = R at *
 have kf : w0.free? (w.heap.size + 1 + 1) 0 20 = true := by rw [ew0]; simp [go_sem]
 have kf1 : w0.free? (w.heap.size + 1) 0 20 = true := by rw [ew0]; simp [go_sem]
 have HE0 := hid ew0
 have HB0 : Hid (Below w.heap.size w w0) := by rw [ew0]; exact (((Below.refl _ _).alloc (Nat.le_refl _) _).alloc (by simp) _).alloc (by simp; omega) _
 clear ew0
 go_enter Tryz.func35, Tryz.ntmps35
 go_wp2_with fail
 rw [← HE0.out]
 have HHP : Hid (w0.drew.heap[w.heap.size + 1 + 1]? = some (.cells (zU8 20).toArray 23 (0, 0))) := by
  show w0.heap[w.heap.size + 1 + 1]? = _
  rw [HE0.out]
  have := heap_alloc_new ((w.alloc (.cells V.toArray 25)).alloc (.cells (zU8 20).toArray 23)) (.cells (zU8 20).toArray 23)
  simpa using this
 have HSRC : Hid (∀ i v, R[i]? = some v → w0.drew.cell? ((⟨w.heap.size, 12, none⟩ : Addr).add i) = some v) := by
  intro i v hv
  rw [add_off rfl]
  have hlt : i < 20 := by obtain ⟨h, _⟩ := List.getElem?_eq_some_iff.1 hv; omega
  show w0.cell? _ = _
  rw [World.row?_cell kr hlt]; exact hv
 have HO1 : Hid (∀ v ∈ R, v.oneCell' = true) := okL_mem hok2
 have hs25 := slice25 w.heap.size 12 (by decide)
 have HKF1 := hid kf1
 have HL20 := hid hl2
 have HOK2 := hid hok2
 clear kf kf1 kr hok hl hl2 hok2
 refine wp_region_tree (fun _ => True) [] (.pure 0 (.pure 1 (.alt 2 .fin .stop))) (by kernel_rfl) (by kernel_rfl) ?_
 iterate 2
  refine tree_pure ?_ rfl (by rfl) (fun w' hs => ?_) (fun _ _ _ h => h) ?_
  rotate_left
  ·clear hs
   go_simp
   try rfl
  simp only [Act.put, tsa, tsb, tsc]
 refine tree_run rfl (fun K hK => ?_)
 refine step_copy_splice rfl _ _ 26 26 rfl 5 Tryz.underlying26 (by kernel_rfl) (some ⟨w.heap.size + 1 + 1, 0, none⟩) (some ⟨w.heap.size, 12, none⟩) 20 20 20 20 rfl rfl (w.heap.size + 1 + 1) 0 (zU8 20) 23 HHP.out R (HL20.out.trans rfl) (fun _ => ⟨rfl, _, rfl, HSRC.out⟩) (by rw [HL20.out]; simp [zU8]) HO1.out (w.heap.size + 1 + 1) w0.drew ((Below.refl _ _).mono (Nat.le_refl _)) (Nat.le_refl _) ?_
 intro w5 hg5 hb5
 have hcells : splice (zU8 20) 0 R = R := by
  unfold splice
  rw [HL20.out]; simp [zU8]
 rw [hcells] at hg5
 have hr5 : w5.row? (w.heap.size + 1 + 1) 0 20 = some R := by
  unfold World.row?
  rw [show w5.heap[w.heap.size + 1 + 1]? = _ from hg5]
  simp [HL20.out]
  exact List.take_of_length_le (by rw [HL20.out]; omega)
 have hf5 : w5.free? (w.heap.size + 1) 0 20 = true := by
  rw [World.free?_of_block (hb5.block _ (Nat.lt_succ_self _))]
  exact HKF1.out
 have HB5 : Hid (Below w.heap.size w w5) := HB0.out.drew.trans (hb5.mono (by omega))
 have hok2 := HOK2.out
 have hl2 := HL20.out
 clear hg5 hb5 hcells
 refine hK.out _ _ trivial ?_
 clear hK K
 refine tree_fin ?_
 clear hs25
 go_wp2
 exact ret_row ty23 rfl _ rfl rfl hf5 hok2 ⟨rfl, HB5.out.setCells (by omega) _ _⟩

attribute [local irreducible] be beC zU8
end Go.Proofs.YtfflppedbopdpaaGreat
namespace Go.Proofs.YtfflppedbopdpaaGreat
open Go.RowKit Go.Mun
def Deep2 (k : Nat) : Prop := ∀ (cs : List Value) (t : RTree) (d : Nat) (w : World), depthT t ≤ k → depthT t ≤ d → d ≤ 32 → (packT t).length ≤ 16777216 → ItemAt w cs t →
 Calls Tryz.prog 55 #[.agg cs.toArray, .int .i64 d] w fun e w' => e = .returned (.int .i64 (depthT t : Nat)) ∧ Below w.heap.size w w'
def PackR (k : Nat) : Prop := ∀ (cs : List Value) (t : RTree) (w : World), depthT t ≤ k → (packT t).length ≤ 16777216 → ItemAt w cs t →
 Calls Tryz.prog 56 #[.agg cs.toArray] w fun e w' => ∃ v, e = .returned (.tuple #[v, .bool true]) ∧ OwnB w w' v (packT t)
end Go.Proofs.YtfflppedbopdpaaGreat
