/-
  The machine of chapters 10 to 15 in plain Lean: words as numbers, accounts as functions; one instruction; a message.
  Words and addresses as keys of maps.
  This program's maps' keys.
-/
import Derived.Test.YtfflppedbopdpaaGreatXMap
import Derived.DeepKeys4
import Derived.Test.YtfflppedbopdpaaGreatProg
set_option linter.unusedVariables false
set_option linter.unusedSimpArgs false
namespace Go.Mun

abbrev Bts := List Int
def wW : Nat := 2 ^ 256
def wA : Nat := 2 ^ 160
structure Acc where
 nonce : Nat
 bal : Nat
 code : Bts
 slots : Nat → Nat
def Acc.none : Acc := ⟨0, 0, [], fun _ => 0⟩
abbrev St := Nat → Acc
def upd (S : St) (a : Nat) (x : Acc) : St := fun b => if b = a then x else S b
@[simp] theorem upd_same (S : St) (a : Nat) (x : Acc) : upd S a x a = x := by simp [upd]
theorem upd_other (S : St) {a b : Nat} (x : Acc) (h : b ≠ a) : upd S a x b = S b := by simp [upd, h]
theorem upd_self (S : St) (a : Nat) : upd S a (S a) = S := by
 funext b; unfold upd; split
 ·rename_i h; rw [h]
 ·rfl
theorem upd_upd (S : St) (a : Nat) (x y : Acc) : upd (upd S a x) a y = upd S a y := by
 funext b; unfold upd; split <;> rfl
def setS (f : Nat → Nat) (k v : Nat) : Nat → Nat := fun j => if j = k then v else f j
def St.setNonce (S : St) (a n : Nat) : St := upd S a { S a with nonce := n }
def St.setBal (S : St) (a n : Nat) : St := upd S a { S a with bal := n }
def St.setCode (S : St) (a : Nat) (b : Bts) : St := upd S a { S a with code := b }
def St.setSlot (S : St) (a k v : Nat) : St := upd S a { S a with slots := setS (S a).slots k v }
def Acc.empty (x : Acc) : Prop := x.nonce = 0 ∧ x.bal = 0 ∧ x.code = [] ∧ ∀ k, x.slots k = 0
def St.move (S : St) (src dst v : Nat) : Option St :=
 if (S src).bal < v then none
 else if src = dst then some S
 else if wW ≤ (S dst).bal + v then none
 else some ((S.setBal src ((S src).bal - v)).setBal dst ((S dst).bal + v))
end Go.Mun
namespace Go.Mun
open Go.RowKit Go.Maps

theorem keyLits_bytes {P : Program} {k e n : Nat} (hu : P.underlying k = some (.array n e)) (he : P.underlying e = some (.int .u8)) (hce : P.cellsOf e = 1) (hck : P.cellsOf k = n) (d : Nat) (L : List Int) (hL : L.length = n) (hb : ∀ x ∈ L, 0 ≤ x ∧ x < 256) :
  ∃ ls, P.keyLits (d + 2) k (u8L L) = some ls := by
 have h : ∀ i ∈ List.range n, P.keyLits (d + 1) e (((u8L L).drop (i * 1)).take 1) = some [.int .u8 (L.getD i 0)] := by
  intro i hi
  have hi' : i < L.length := by rw [hL]; exact List.mem_range.1 hi
  have e1 : ((u8L L).drop (i * 1)).take 1 = [.int .u8 (L.getD i 0)] := by
   apply List.ext_getElem?
   intro j
   rw [List.getElem?_take, Nat.mul_one, List.getElem?_drop]
   match j with
   | 0 => simp [u8L, hi']
   | j + 1 => simp
  have hx := hb (L.getD i 0) (by simp [hi'])
  rw [e1]
  have hw : (Lit.int .u8 (L.getD i 0)).wf = true := by
   simp only [Lit.wf, IntKind.min, IntKind.max, IntKind.signed, IntKind.bits]
   simp
   simp at hx
   omega
  generalize L.getD i 0 = y at *
  simp only [Program.keyLits, he]
  simp [hw]
 refine ⟨((List.range n).map fun i => [Lit.int .u8 (L.getD i 0)]).flatten, ?_⟩
 unfold Program.keyLits
 rw [hu, hck]
 have hl : (u8L L).length = n := by simp [hL]
 have hm : (List.range n).mapM (fun i => P.keyLits (d + 1) e (((u8L L).drop (i * P.cellsOf e)).take (P.cellsOf e))) = some ((List.range n).map fun i => [Lit.int .u8 (L.getD i 0)]) := by
  rw [hce]
  have gen : ∀ l : List Nat, (∀ i ∈ l, P.keyLits (d + 1) e (((u8L L).drop (i * 1)).take 1) = some [.int .u8 (L.getD i 0)]) → l.mapM (fun i => P.keyLits (d + 1) e (((u8L L).drop (i * 1)).take 1)) = some (l.map fun i => [Lit.int .u8 (L.getD i 0)]) := by
   intro l
   induction l with
   | nil => intro _; rfl
   | cons a l ih =>
    intro h
    rw [List.mapM_cons, h a (by simp), ih (fun i hi => h i (by simp [hi]))]; rfl
  exact gen _ h
 cases hq : u8L L with
 | nil => rw [hq] at hl hm; simp only [hm]; rw [if_pos hl]; rfl
 | cons v l => rw [hq] at hl hm; simp only [hm]; rw [if_pos hl]; rfl
theorem keyOf_bytes {P : Program} {k e n : Nat} (hu : P.underlying k = some (.array n e)) (he : P.underlying e = some (.int .u8)) (hce : P.cellsOf e = 1) (hck : P.cellsOf k = n) (hk : P.keyType k = true) (hsz : 1 ≤ P.types.size)
  (L : List Int) (hL : L.length = n) (hb : ∀ x ∈ L, 0 ≤ x ∧ x < 256) : ∃ l, keyOf P k (.agg (u8L L).toArray) = some l := by
 obtain ⟨d, hd⟩ : ∃ d, P.types.size + 1 = d + 2 := ⟨P.types.size - 1, by omega⟩
 obtain ⟨ls, hls⟩ := keyLits_bytes hu he hce hck d L hL hb
 have hf : (Value.agg (u8L L).toArray).formed P k = true := by simp [Value.formed, hu, hck, hL]
 refine ⟨.string (keyBytes ls), ?_⟩
 unfold keyOf
 rw [hu]
 simp only [hk, hf, Bool.and_self, if_true]
 rw [hd]
 have : (Value.agg (u8L L).toArray).cells.toList = u8L L := by simp [Value.cells]
 rw [this, hls]; rfl

theorem map_int_inj {l m : List Int} (h : l.map (Value.int .u8) = m.map (Value.int .u8)) : l = m := by
 induction l generalizing m with
 | nil => cases m <;> simp_all
 | cons a l ih =>
  cases m with
  | nil => simp at h
  | cons b m => simp only [List.map_cons, List.cons.injEq, Value.int.injEq, true_and] at h; rw [h.1, ih h.2]
theorem be_byte (k n : Nat) : ∀ x ∈ be k n, 0 ≤ x ∧ x < 256 := by
 intro x hx
 simp only [be, List.mem_map] at hx
 obtain ⟨i, _, rfl⟩ := hx
 omega
def wdV (n : Nat) : Value := .agg (beC 32 n).toArray
def adV (n : Nat) : Value := .agg (beC 20 n).toArray
def ptV (p : Nat) : Value := .pointer (some ⟨p, 0, none⟩)
theorem be_key {P : Program} {k e n : Nat} (K : Keyed P k) (hu : P.underlying k = some (.array n e)) (he : P.underlying e = some (.int .u8)) (hce : P.cellsOf e = 1) (hck : P.cellsOf k = n) (hk : P.keyType k = true) (hsz : 1 ≤ P.types.size) (N : Nat) (hN : N = 256 ^ n) :
  KeyEnc P k (fun a => .agg (beC n a).toArray) N := by
 subst hN
 refine ⟨K, fun a _ => keyOf_bytes hu he hce hck hk hsz (be n a) (by simp) (be_byte n a), fun a b ha hb h => ?_⟩
 have h1 : beC n a = beC n b := by
  simp only [Value.agg.injEq] at h
  simpa using congrArg Array.toList h
 have h2 : be n a = be n b := by
  unfold beC at h1
  exact map_int_inj h1
 exact be_inj n a b ha hb h2
end Go.Mun
namespace Go.Proofs.YtfflppedbopdpaaGreat
open Go.RowKit Go.Mun Go.Maps
theorem Tryz.laidOut : laidOutB Tryz.prog = true := by kernel_rfl
theorem row25 : (25 : TypeId) < Tryz.prog.types.size := of_decide_eq_true (by kernel_rfl)
theorem row23 : (23 : TypeId) < Tryz.prog.types.size := of_decide_eq_true (by kernel_rfl)
theorem row1 : 1 ≤ Tryz.prog.types.size := Nat.lt_of_le_of_lt (Nat.le_of_ble_eq_true rfl) row25
theorem law25 : WideMaps.KeyLaw Tryz.prog 25 := deep_law_laid Tryz.laidOut (m := 2) (by omega) row25 (by kernel_rfl) (by rw [Tryz.underlying25])
theorem law23 : WideMaps.KeyLaw Tryz.prog 23 := deep_law_laid Tryz.laidOut (m := 2) (by omega) row23 (by kernel_rfl) (by rw [Tryz.underlying23])
theorem keyW : KeyEnc Tryz.prog 25 wdV wW := be_key (Keyed.of_law law25) Tryz.underlying25 Tryz.underlying5 (by kernel_rfl) (by kernel_rfl) (by kernel_rfl) row1 wW (by unfold wW; decide)
theorem keyA : KeyEnc Tryz.prog 23 adV wA := be_key (Keyed.of_law law23) Tryz.underlying23 Tryz.underlying5 (by kernel_rfl) (by kernel_rfl) (by kernel_rfl) row1 wA (by unfold wA; decide)
theorem keyB : KeyEnc Tryz.prog 5 (fun a => .int .u8 a) 256 := by
 refine ⟨int_keyed Tryz.underlying5, fun a ha => ⟨_, keyOf_int_mk Tryz.underlying5 ?_⟩, fun a b _ _ h => by simp at h; omega⟩
 simp only [Lit.wf, IntKind.min, IntKind.max, IntKind.signed, IntKind.bits]
 simp
 omega
end Go.Proofs.YtfflppedbopdpaaGreat
