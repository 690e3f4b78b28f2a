/-
  Contracts of the reference's ReadAddr and ReadWord.
-/
import Derived.Test.YtaoacfkifcglfaaDoorRefD
namespace Go.Mun
open Go.RowKit
/-- copy over the whole of an array that the call has made. -/
theorem wpList_copy_row {P : Program} {w : World} {ops : Array Oper} {rest : List Oper} {o : Oper} {a : Act} {Q : Exit → Act → World → Prop} (hgd : o.guard = none) (d s : Operand) (dT sT : TypeId)
    (ho : o.op = .call { callee := .builtin .copy, args := #[d, s], argTypes := #[dT, sT] }) (elem : TypeId) (hu : P.underlying dT = some (.slice elem)) (hsz : (P.info? elem).map (·.size) = some 1)
    {g g2 n n' c : Nat} (hd : a.eval d = .slice (some ⟨g, 0, none⟩) n n') (hs : a.eval s = .slice (some ⟨g2, 0, none⟩) n c)
    {cur : List Value} {t : TypeId} (hg : w.heap[g]? = some (.cells cur.toArray t (0, 0))) (hcur : cur.length = n) {cs : List Value} (hsrc : w.row? g2 0 n = some cs) (hok : okL n cs = true)
    (h : ∀ w', w'.row? g 0 n = some cs → Below g w w' → wpList P ops Q rest (a.put o.dst (goInt n)) w') : wpList P ops Q (o :: rest) a w := by
  have hl := okL_len hok
  refine wpList_copy_splice hgd d s dT sT ho elem hu hsz _ _ _ _ _ _ hd hs g 0 cur t hg cs ?_ ?_ (by omega) (okL_mem hok) g w (Below.refl _ _) (Nat.le_refl _) ?_
  · have : Nat.min n n = n := Nat.min_self n
    rw [this]; exact hl
  · intro _
    refine ⟨rfl, _, rfl, fun j v hj => ?_⟩
    have := World.row?_rangeAt hsrc j v hj
    have hadd : (⟨g2, 0, none⟩ : Addr).add j = ⟨g2, 0 + j, none⟩ := by unfold Addr.add; split <;> simp_all
    rw [hadd]; exact this
  · intro w' hw hb
    rw [hl]
    refine h w' ?_ hb
    have hw := hw.out
    have e : splice cur 0 cs = cs := by
      unfold splice
      rw [List.take_zero, List.nil_append, List.drop_of_length_le (by omega), List.append_nil]
    rw [e] at hw
    unfold World.row?
    rw [hw]
    simp only [List.size_toArray, hl, Nat.zero_add, Nat.le_refl, if_true, List.drop_zero]
    rw [List.take_of_length_le (by omega)]
theorem free?_below {B : Nat} {w w' : World} (hb : Below B w w') {b o n : Nat} (hlt : b < B) (h : w.free? b o n = true) : w'.free? b o n = true := by
  rw [World.free?_of_block (hb.block b hlt)]; exact h
end Go.Mun
namespace Go.Proofs.YtaoacfkifcglfaaDoor
open Go.RowKit Go.Mun
attribute [local irreducible] be beC zU8

def wordRV (o : Option (List Int)) : Value := match o with | some L => .tuple #[.agg (u8L L).toArray, .bool true] | none => .tuple #[.agg (zU8 32).toArray, .bool false]
def addrRV (o : Option (List Int)) : Value := match o with | some L => .tuple #[.agg (u8L L).toArray, .bool true] | none => .tuple #[.agg (zU8 20).toArray, .bool false]

set_option maxRecDepth 10000 in
set_option maxHeartbeats 400000 in
theorem ref_addr (s : ByteArray) (hs : s.size ≤ 1099511627776) (w : World) :
    Calls Tryd.prog 22 #[.string s] w fun e w' => e = .returned (addrRV (hexAddr s.data.toList)) ∧ Below w.heap.size w w' := by
  have HS := Lib.hid hs
  clear hs
  cases hread : hexRead s.data.toList with
  | none =>
    have HR := Lib.hid (show hexAddr s.data.toList = none by unfold hexAddr; rw [hread]; rfl)
    have HB := Lib.hid hread
    clear hread
    go_enter Tryd.func22, Tryd.ntmps22
    go_wp2_with fail
    refine (ref_read s HS.out _).mono ?_
    rintro e w1 ⟨hr, hb⟩
    obtain rfl := hr.bad HB.out
    clear hr
    have hf : w1.free? w.heap.size 0 20 = true := by rw [(brow hb).2 _ _ _ (by simp)]; exact World.free?_alloc_at _ _ rfl (by simp)
    have hlt := free?_lt hf
    have H1 := Lib.hid (show Below w.heap.size w w1 from ((Below.refl _ _).alloc (Nat.le_refl _) _).trans (hb.mono (by simp)))
    clear hb
    go_wp2
    exact ret_row2 ty41 rfl _ _ rfl rfl rfl (row?_setCells_whole _ (by rw [World.free?_alloc_lt _ hlt]; exact hf) (zU8_ok 20)) ⟨by rw [HR.out]; rfl, (H1.out.alloc (Nat.le_of_lt hlt) _).setCells (Nat.le_refl _) _ _⟩
  | some b =>
    have HR0 := Lib.hid (show hexAddr s.data.toList = if b.length = 20 then some b else none by unfold hexAddr; rw [hread]; rfl)
    have HB := Lib.hid hread
    clear hread
    go_enter Tryd.func22, Tryd.ntmps22
    go_wp2_with fail
    refine (ref_read s HS.out _).mono ?_
    rintro e w1 ⟨hr, hb⟩
    obtain ⟨v, rfl, ho⟩ := hr.good b HB.out
    clear hr
    have hf : w1.free? w.heap.size 0 20 = true := by rw [(brow hb).2 _ _ _ (by simp)]; exact World.free?_alloc_at _ _ rfl (by simp)
    have hlt := free?_lt hf
    have H1 := Lib.hid (show Below w.heap.size w w1 from ((Below.refl _ _).alloc (Nat.le_refl _) _).trans (hb.mono (by simp)))
    clear hb
    by_cases h20 : b.length = 20
    · have HR := Lib.hid (show hexAddr s.data.toList = some b by rw [HR0.out, if_pos h20])
      rw [h20] at ho
      obtain ⟨g, c3, rfl, hg1, hg2, hrow3⟩ := own_row ho (by decide)
      have hr3 : Hid (w1.row? g 0 20 = some (u8L b)) := Lib.hid hrow3
      have hok : okL 20 (u8L b) = true := u8L_ok _ 20 h20
      clear ho hrow3 hg1 h20
      go_wp2_with (with_reducible refine wpList_copy_row (g := w1.heap.size) (g2 := g) (n := 20) (n' := 20) (c := c3) (cur := zU8 20) (t := 41) (cs := u8L b) rfl (.tmp 20) (.tmp 21) 33 33 rfl 5 Tryd.underlying33 ?ksz ?kd ?ks ?kg ?kc ?kr hok ?_)
      case ksz => kernel_rfl
      case kd => rfl
      case ks => rfl
      case kg => exact heap_alloc_new _ _
      case kc => simp
      case kr => rw [World.row?_alloc_lt _ hg2]; exact hr3.out
      intro w2 hrow2 hb2
      have hf2 : w2.free? w.heap.size 0 20 = true := free?_below hb2 hlt (by rw [World.free?_alloc_lt _ hlt]; exact hf)
      have H2 := Lib.hid (show Below w.heap.size w w2 from (H1.out.alloc (Nat.le_of_lt hlt) _).trans (hb2.mono (Nat.le_of_lt hlt)))
      clear hb2
      go_wp2
      exact ret_row2 ty41 rfl _ _ rfl rfl rfl (row?_setCells_whole _ hf2 hok) ⟨by rw [HR.out]; rfl, H2.out.setCells (Nat.le_refl _) _ _⟩
    · have HR := Lib.hid (show hexAddr s.data.toList = none by rw [HR0.out, if_neg h20])
      obtain ⟨a, c, rfl, hn, hI⟩ := Ints.of_own' ho
      obtain ⟨n, hn⟩ : ∃ n, n = b.length := ⟨_, rfl⟩
      rw [← hn] at ⊢ h20
      have cn : ((n : Int) != 20) = true := by simp; omega
      have cn2 : ((n : Int) == 20) = false := by simp; omega
      clear ho hI hn h20
      go_wp2
      exact ret_row2 ty41 rfl _ _ rfl rfl rfl (row?_setCells_whole _ (by rw [World.free?_alloc_lt _ hlt]; exact hf) (zU8_ok 20)) ⟨by rw [HR.out]; rfl, (H1.out.alloc (Nat.le_of_lt hlt) _).setCells (Nat.le_refl _) _ _⟩
end Go.Proofs.YtaoacfkifcglfaaDoor
