/-
  The reference's hash: the contract of Keccak.
  The two hashes are one: plain law on lists of bytes.
-/
import Derived.Test.YtfflppedbopdpaaGreatQKec2
import Derived.Test.YtfflppedbopdpaaGreatQKecS
import Derived.Test.YtfflppedbopdpaaGreatQFrm
import Derived.OpenShut
import Derived.Test.YtfflppedbopdpaaGreatQKecP
set_option linter.unusedVariables false
set_option maxRecDepth 1000000
set_option maxHeartbeats 8000000
set_option linter.unusedSimpArgs false
namespace Go.Proofs.YtfflppedbopdpaaGreat
open Go.RowKit Go.Mun

def absR (L M : List Int) (fr : Nat) : Nat → List Int
 | 0 => L
 | i + 1 => takeP (absR L M fr i) i (M.getD (fr + i) 0)
def rndR (L : List Int) : Nat → List Int × Nat
 | 0 => (L, 1)
 | k + 1 => roundR (rndR L k).1 (rndR L k).2
def spR (M : List Int) : Nat → List Int
 | 0 => List.replicate 25 0
 | q + 1 => (rndR (absR (spR M q) M (136 * q) 136) 24).1
theorem rndR_lt (L : List Int) (k : Nat) : (rndR L k).2 < 256 := by
 induction k with
 | zero => exact (by decide : 1 < 256)
 | succ k ih => exact iotaR_lt _ _ _ ih
def padK (n : Nat) : Nat := 135 - n % 136
def padL (l : List Int) : List Int := l ++ [1] ++ List.replicate (padK l.length) 0
def padM (l : List Int) : List Int := (padL l).set (l.length + padK l.length) (bits .or .u8 ((padL l).getD (l.length + padK l.length) 0) 128)
def lenOf : Value → Nat | .slice _ n _ => n | _ => 0

structure KT (w wr : World) (g N : Nat) (M : List Int) (ab : Nat) (L : List Int) : Prop where
 below : Below w.heap.size w wr
 free : wr.free? w.heap.size 0 32 = true
 m : Arr wr g N (u8L M)
 a : Arr wr ab 25 (l64 L)
 gl : w.heap.size < g
 al : w.heap.size < ab
 ne : g ≠ ab

theorem KT.drew {w wr : World} {g N ab : Nat} {M L : List Int} (h : KT w wr g N M ab L) : KT w wr.drew g N M ab L := ⟨h.below.drew, h.free, h.m.drew, h.a.drew, h.gl, h.al, h.ne⟩
theorem KT.setA {w wr : World} {g N ab : Nat} {M L : List Int} (h : KT w wr g N M ab L) {i : Nat} (hi : i < 25) (x : Int) {L' : List Int} (hL : L.set i x = L') :
  KT w (wr.setCell ⟨ab, i, none⟩ (.int .u64 x)) g N M ab L' := by
 subst hL
 have := h.al; have := h.ne
 exact ⟨h.below.setCell (by simp; omega) _, by rw [free?_setCell _ (h.a.free1 hi)]; exact h.free, h.m.setCell_other (by omega) _, by rw [← l64_set]; exact h.a.set hi _, h.gl, h.al, h.ne⟩
theorem KT.alloc {w wr : World} {g N ab : Nat} {M L : List Int} (h : KT w wr g N M ab L) (o : Obj) : KT w (wr.alloc o) g N M ab L := by
 have hl := h.a.lt; have := h.al
 exact ⟨h.below.alloc (by omega) o, by rw [World.free?_alloc_lt _ (by omega)]; exact h.free, h.m.alloc o, h.a.alloc o, h.gl, h.al, h.ne⟩
theorem KT.setO {w wr : World} {g N ab : Nat} {M L : List Int} (h : KT w wr g N M ab L) {b : Nat} (h1 : w.heap.size < b) (h2 : b ≠ g) (h3 : b ≠ ab) (i : Nat) (hf : wr.free? b i 1 = true) (x : Value) :
  KT w (wr.setCell ⟨b, i, none⟩ x) g N M ab L :=
 ⟨h.below.setCell (by simp; omega) _, by rw [free?_setCell _ hf]; exact h.free, h.m.setCell_other (by omega) _, h.a.setCell_other (by omega) _, h.gl, h.al, h.ne⟩
theorem KT.only {w wr w' : World} {g N ab lb : Nat} {M L L' : List Int} (h : KT w wr g N M ab L) (ho : Only (fun k => k = ab ∨ k = lb) wr w') (ha : Arr w' ab 25 (l64 L')) (h1 : w.heap.size < lb) (h2 : lb ≠ g) :
  KT w w' g N M ab L' := by
 have hl := h.a.lt; have := h.al; have := h.gl; have := h.ne
 refine ⟨h.below.trans (ho.below (by omega) (by omega)), by rw [ho.free? (by omega) (by omega)]; exact h.free, h.m.only ho (by omega), ha, h.gl, h.al, h.ne⟩
theorem u8_at {w : World} {b n : Nat} {L : List Int} (h : Arr w b n (u8L L)) {i : Nat} (hi : i < n) : w.cell? ⟨b, i, none⟩ = some (.int .u8 (L.getD i 0)) := by
 refine h.cell hi ?_
 have := h.len
 rw [u8L_len] at this
 simp [u8L, List.getElem?_map, List.getElem?_eq_getElem (show i < L.length by omega)]
theorem pad_mod (n : Nat) : (n + 1 + padK n) % 136 = 0 := by unfold padK; omega
theorem pad_mod' (n k : Nat) (h : k < padK n) : (n + 1 + k) % 136 ≠ 0 := by unfold padK at h; omega
theorem padM_byte (l : List Int) (hb : ∀ x ∈ l, 0 ≤ x ∧ x < 256) (p : Nat) : 0 ≤ (padM l).getD p 0 ∧ (padM l).getD p 0 < 256 := by
 have h1 : ∀ x ∈ padL l, 0 ≤ x ∧ x < 256 := by
  intro x hx
  simp only [padL, List.mem_append, List.mem_singleton, List.mem_replicate] at hx
  rcases hx with (hx | rfl) | ⟨_, rfl⟩
  ·exact hb x hx
  ·decide
  ·decide
 have h2 : ∀ x ∈ padM l, 0 ≤ x ∧ x < 256 := by
  intro x hx
  rcases List.mem_or_eq_of_mem_set hx with h | rfl
  ·exact h1 x h
  ·have := wf_u8 (wf_bits .or .u8 ((padL l).getD (l.length + padK l.length) 0) 128); omega
 rw [List.getD_eq_getElem?_getD]
 by_cases h : p < (padM l).length
 ·rw [List.getElem?_eq_getElem h]; exact h2 _ (List.getElem_mem _)
 ·rw [List.getElem?_eq_none (by omega)]; decide
theorem and255u (x : Int) : bits .and .u64 x 255 = x % 256 := by
 show IntKind.u64.wrap (((BitVec.ofInt 64 x) &&& (BitVec.ofInt 64 255)).toNat : Int) = _
 have e2 : (BitVec.ofInt 64 255).toNat = 2 ^ 8 - 1 := by decide
 rw [BitVec.toNat_and, BitVec.toNat_ofInt, e2, Nat.and_two_pow_sub_one_eq_mod, IntKind.wrap_u64]
 omega
theorem ref_keccak (ad : Option Addr) (n c : Nat) (l : List Int) (hn : n = l.length) (hn2 : n ≤ 70000000000000) (w : World) (hI : Ints w .u8 ad c l) (hb : ∀ x ∈ l, 0 ≤ x ∧ x < 256) :
  Calls Tryz.prog 36 #[.slice ad n c] w fun e w' => e = .returned (.agg (u8L ((List.range 32).map (outB (spR (padM l) ((n + padK n + 1) / 136))))).toArray) ∧ Below w.heap.size w w' := by
 have HN := Lib.hid hn
 have HB := Lib.hid hb
 have HI1 := Lib.hid (hI.below ((Below.refl _ _).alloc (Nat.le_refl _) (.cells (zU8 32).toArray 25)))
 have HO := Lib.hid (World.ownsRow_nil (w.alloc (.cells (zU8 32).toArray 25)) (w.heap.size + 1) 5 1)
 have HF0 : Hid ((w.alloc (.cells (zU8 32).toArray 25)).free? w.heap.size 0 32 = true) := by unfold Hid; simp [go_sem]
 have HB0 := Lib.hid ((Below.refl w.heap.size w).alloc (Nat.le_refl _) (.cells (zU8 32).toArray 25))
 have HS0 : Hid ((w.alloc (.cells (zU8 32).toArray 25)).heap.size = w.heap.size + 1) := by unfold Hid; simp
 clear hn hb hI
 go_enter Tryz.func36, Tryz.ntmps36
 go_wp2_with (at_builtin; go_must (refine wpList_append_intsN (base := w.heap.size + 1) (n := 0) (xs := []) elem26 rfl _ _ rfl HO.out rfl rfl HN.out HI1.out ?c3 ?c4 ?c5 ?_))
 case c3 => unfold maxLen; omega
 case c4 => omega
 case c5 => simp
 intro v1 w1 ho1 hg1
 have HF1 : Hid (w1.free? w.heap.size 0 32 = true) := free?_grown hg1 HF0.out (by simp [Value.ownBlock])
 have HB1 : Hid (Below w.heap.size w w1) := HB0.out.grown hg1 (by rw [HS0.out]; omega) (fun k hk => by simp [Value.ownBlock] at hk)
 have HZ1 : Hid (w.heap.size + 1 ≤ w1.heap.size) := by have := hg1.size; rw [HS0.out] at this; exact this
 have HO1 : Hid (w1.ownsRow (w.heap.size + 1) 5 1 v1 n (l.map (Value.int .u8))) := by simpa [Hid] using ho1
 clear ho1 hg1
 go_wp2_with (at_builtin; go_must (refine wpList_append_new elem26 rfl _ _ rfl HO1.out rfl 1 rfl (cs := [.int .u8 1]) rfl ?d1 ?d2 ?d3 ?d4 ?_))
 case d1 => simp [go_sem]
 case d2 => unfold maxLen; omega
 case d3 => omega
 case d4 => exact HZ1.out
 intro v2 w2 ho2 hg2 _
 have HF2 : Hid (w2.free? w.heap.size 0 32 = true) := free?_grown hg2 HF1.out (by intro e; have := (HO1.out.lt _ e).1; omega)
 have HB2 : Hid (Below w.heap.size w w2) := HB1.out.grown hg2 (by have := HZ1.out; omega) (fun k hk => by have := (HO1.out.lt k hk).1; omega)
 have HZ2 : Hid (w.heap.size + 1 ≤ w2.heap.size) := Nat.le_trans HZ1.out hg2.size
 have HO2 : Hid (w2.ownsRow (w.heap.size + 1) 5 1 v2 (n + 1) (l.map (Value.int .u8) ++ [Value.int .u8 1])) := ho2
 clear ho2 hg2
 go_wp2_with fail
 go_loopw [3] (fun v wr => ∃ k : Nat, k ≤ padK n ∧ wr.ownsRow (w.heap.size + 1) 5 1 v (n + 1 + k) ((l ++ [1] ++ List.replicate k 0).map (Value.int .u8)) ∧ wr.free? w.heap.size 0 32 = true ∧ Below w.heap.size w wr ∧ w.heap.size + 1 ≤ wr.heap.size) (fun v _ => n + 1 + padK n - lenOf v)
 case atStart => exact ⟨0, by omega, by simpa using HO2.out, HF2.out, HB2.out, HZ2.out⟩
 case round =>
  clear HF2 HB2 HZ2 HO2 HF1 HB1 HZ1 HO1 HF0 HB0 HS0 HO HI1
  obtain ⟨k, hk, ho, hf, hb, hz⟩ := hrel
  have hpk : padK n ≤ 135 := by unfold padK; omega
  obtain ⟨a, c', rfl⟩ := own_slice ho
  have HO := Lib.hid ho
  have HF := Lib.hid hf
  have HBl := Lib.hid hb
  have HZ := Lib.hid hz
  clear ho hf hb hz
  obtain ⟨m, em⟩ : ∃ m, m = n + 1 + k := ⟨_, rfl⟩
  rw [← em] at HO ⊢
  by_cases hlt : k < padK n
  ·have hm := pad_mod' n k hlt
   rw [← em] at hm
   have e1 : ((m : Int).tmod 136 == 0) = false := by rw [Int.tmod_eq_emod_of_nonneg (by omega)]; simp; omega
   have e1' : ((m : Int) % 136 == 0) = false := by simp; omega
   have e2 : ((m : Int) % 136 != 0) = true := by simp; omega
   have HM := Lib.hid em
   clear em hm
   go_wp2_with (at_builtin; go_must (refine wpList_append_new elem26 rfl _ _ rfl HO.out rfl 1 rfl (cs := [.int .u8 0]) rfl ?d1 ?d2 ?d3 ?d4 ?_))
   case d1 => simp [go_sem]
   case d2 => unfold maxLen; have := HM.out; omega
   case d3 => have := HM.out; omega
   case d4 => exact HZ.out
   intro v3 w3 ho3 hg3 _
   have HF3 : Hid (w3.free? w.heap.size 0 32 = true) := free?_grown hg3 HF.out (by intro e; have := (HO.out.lt _ e).1; omega)
   have HB3 : Hid (Below w.heap.size w w3) := HBl.out.grown hg3 (by have := HZ.out; omega) (fun k hk => by have := (HO.out.lt k hk).1; omega)
   have HZ3 : Hid (w.heap.size + 1 ≤ w3.heap.size) := Nat.le_trans HZ.out hg3.size
   have HO3 : Hid (w3.ownsRow (w.heap.size + 1) 5 1 v3 (n + 1 + (k + 1)) ((l ++ [1] ++ List.replicate (k + 1) 0).map (Value.int .u8))) := by
    have e : (l ++ [1] ++ List.replicate (k + 1) 0).map (Value.int .u8) = (l ++ [1] ++ List.replicate k 0).map (Value.int .u8) ++ [Value.int .u8 0] := by
     rw [List.replicate_succ']; simp
    unfold Hid
    rw [e, show n + 1 + (k + 1) = m + 1 by have := HM.out; omega]
    simpa using ho3
   clear ho3 hg3
   have hlen : Hid (lenOf v3 = n + 1 + (k + 1)) := by obtain ⟨a, c, rfl⟩ := own_slice HO3.out; rfl
   go_wp2_with fail
   go_roundw
   case rel => exact ⟨k + 1, by omega, HO3.out, HF3.out, HB3.out, HZ3.out⟩
   case measure =>
    rw [hlen.out]
    have := HM.out
    simp [lenOf]; omega
  ·obtain rfl : k = padK n := by omega
   have e0 := pad_mod n
   rw [← em] at e0
   have e1 : ((m : Int).tmod 136 == 0) = true := by rw [Int.tmod_eq_emod_of_nonneg (by omega)]; simp; omega
   have e2 : ((m : Int) % 136 != 0) = false := by simp; omega
   obtain ⟨g, c2, hv, hg1, hc2, hc3, hA⟩ := own_arr HO.out (by omega)
   cases hv
   have HPL : Hid (l ++ [1] ++ List.replicate (padK n) 0 = padL l) := by unfold Hid padL; rw [← HN.out]
   rw [HPL.out] at hA
   have hA : Arr wr g m (u8L (padL l)) := hA
   obtain ⟨m1, em1⟩ : ∃ m1, m = m1 + 1 := ⟨m - 1, by omega⟩
   have hlx := u8_at hA (show m1 < m by omega)
   obtain ⟨x, ex⟩ : ∃ x, x = (padL l).getD m1 0 := ⟨_, rfl⟩
   rw [← ex] at hlx
   have f0 := hA.free1 (show m1 < m by omega)
   have b1 : (m : Int) - 1 = (m1 : Int) := by omega
   have b2 : (m1 : Int) < (m : Int) := by omega
   have b3 : m1 < m := by omega
   have hAs := hA.set b3 (.int .u8 (bits .or .u8 x 128))
   rw [u8L_set'] at hAs
   have HM2 : Hid ((padL l).set m1 (bits .or .u8 x 128) = padM l ∧ m1 + 1 = n + padK n + 1) := by
    have e3 : m1 = l.length + padK l.length := by rw [← HN.out]; omega
    refine ⟨?_, by rw [← em1]; omega⟩
    rw [ex, e3]; rfl
   rw [HM2.out.1] at hAs
   have HMm : Hid (m = n + padK n + 1 ∧ m % 136 = 0) := ⟨by omega, e0⟩
   have HAs := Lib.hid hAs
   have HA0 := Lib.hid hA
   have hmb : m ≤ 70000000000200 := by omega
   have hgl : w.heap.size < g := by omega
   clear hA hAs em ex e0 em1
   go_wp2_with fail
   have HK0 : Hid (KT w ((wr.setCell ⟨g, m1, none⟩ (.int .u8 (bits .or .u8 x 128))).alloc (.cells (zU64 25).toArray 113)) g m (padM l) wr.heap.size (List.replicate 25 0)) := by
    have hw := HZ.out
    have hlt := HA0.out.lt
    refine ⟨(HBl.out.setCell (by simp; omega) _).alloc (by simp; omega) _, ?_, HAs.out.alloc _, ?_, hgl, by omega, by omega⟩
    ·rw [World.free?_alloc_lt _ (by simp; omega), free?_setCell _ f0]; exact HF.out
    ·rw [← zU64_l64]
     have := Arr.new (wr.setCell ⟨g, m1, none⟩ (.int .u8 (bits .or .u8 x 128))) 25 (zU64 25) 113 (by simp)
     simpa using this
   generalize wr.heap.size = ab at *
   go_loopw [5] (fun i wr => ∃ q : Nat, 136 * q ≤ m ∧ i = .int .i64 (136 * (q : Int)) ∧ KT w wr g m (padM l) ab (spR (padM l) q)) (fun i _ => m - (intOf i).toNat)
   case atStart => exact ⟨0, by omega, rfl, HK0.out⟩
   case round =>
    clear HK0 HAs HA0 hlx f0
    obtain ⟨q, hq, rfl, hr⟩ := hrel
    obtain ⟨fr, ef⟩ : ∃ fr, fr = 136 * q := ⟨_, rfl⟩
    have bf : 136 * (q : Int) = (fr : Int) := by omega
    rw [bf]
    by_cases hlt : 136 * q < m
    ·have hfr : fr + 136 ≤ m := by have := HMm.out.2; omega
     have b4 : (fr : Int) < (m : Int) := by omega
     have HQ := Lib.hid (And.intro ef bf)
     have HR := Lib.hid hr
     clear hr ef bf hlt hq
     go_wp2_with fail
     go_loopw [6] (fun i wr => ∃ i' : Nat, i' ≤ 136 ∧ i = .int .i64 i' ∧ KT w wr g m (padM l) ab (absR (spR (padM l) q) (padM l) fr i')) (fun i _ => 136 - (intOf i).toNat)
     case atStart => exact ⟨0, by omega, rfl, HR.out⟩
     case round =>
      clear HR
      obtain ⟨i, hi, rfl, hr⟩ := hrel
      by_cases hli : i < 136
      ·obtain ⟨L, eL⟩ : ∃ L, L = absR (spR (padM l) q) (padM l) fr i := ⟨_, rfl⟩
       rw [← eL] at hr
       obtain ⟨j, ej⟩ : ∃ j, j = i / 8 := ⟨_, rfl⟩
       obtain ⟨r, er⟩ : ∃ j, j = i % 8 := ⟨_, rfl⟩
       obtain ⟨t, et⟩ : ∃ j, j = 8 * r := ⟨_, rfl⟩
       obtain ⟨p, ep⟩ : ∃ p, p = fr + i := ⟨_, rfl⟩
       obtain ⟨y, ey⟩ : ∃ y, y = (padM l).getD p 0 := ⟨_, rfl⟩
       have hp : p < m := by omega
       have c0 := l64_at hr.a (show j < 25 by omega)
       have c1 := u8_at hr.m hp
       rw [← ey] at c1
       have f1 : wr.drew.free? ab j 1 = true := hr.a.free1 (by omega)
       have b0 : (j : Int) < 25 := by omega
       have b5 : (i : Int) < 136 := by omega
       have b6 : (p : Int) < (m : Int) := by omega
       have m1 : (i : Int).tdiv 8 = (j : Int) := by rw [Int.tdiv_eq_ediv_of_nonneg (by omega)]; omega
       have m2 : (i : Int).tmod 8 = (r : Int) := by rw [Int.tmod_eq_emod_of_nonneg (by omega)]; omega
       have m3 : IntKind.i64.wrap ((r : Int) * 8) = (t : Int) := by rw [wrI _ (by omega) (by omega)]; omega
       have m4 : IntKind.u64.wrap (t : Int) = (t : Int) := wrU _ (by omega) (by omega)
       have m5 : IntKind.i64.wrap ((fr : Int) + (i : Int)) = (p : Int) := by rw [wrI _ (by omega) (by omega)]; omega
       have m6 : IntKind.i64.wrap (j : Int) = (j : Int) := wrI _ (by omega) (by omega)
       have m7 : min t 64 = t := by omega
       have hy : 0 ≤ y ∧ y < 256 := by rw [ey]; exact padM_byte l HB.out p
       have m8 : IntKind.u64.wrap y = y := wrU _ hy.1 (by omega)
       have HE : Hid (absR (spR (padM l) q) (padM l) fr (i + 1) = L.set j (bits .xor .u64 (at64 L j) (IntKind.u64.wrap (y * 2 ^ t)))) := by
        show takeP (absR (spR (padM l) q) (padM l) fr i) i ((padM l).getD (fr + i) 0) = _
        rw [← eL, ← ep, ← ey]
        unfold takeP
        rw [← ej, ← er, ← et]
       have hj25 : j < 25 := by omega
       have HR := Lib.hid hr.drew
       clear hr eL ej er et ep ey hy
       go_wp2_with fail
       go_still_tail 20, (by kernel_rfl)
       change wpList _ _ _ _ _ wr.drew
       generalize wr.drew = wd at *
       go_wp2
       go_roundw
       case rel => exact ⟨i + 1, by omega, by go_num, HR.out.setA hj25 _ HE.out.symm⟩
       case measure => simp [intOf]; omega
      ·obtain rfl : i = 136 := by omega
       rw [show ((136 : Nat) : Int) = 136 from rfl]
       obtain ⟨L, eL⟩ : ∃ L, L = absR (spR (padM l) q) (padM l) fr 136 := ⟨_, rfl⟩
       rw [← eL] at hr
       have HL := Lib.hid eL
       have hal := hr.al
       have hgl2 := hr.m.lt
       have hal2 := hr.a.lt
       have hl1 : Arr (wr.alloc (.cells #[Value.int .u8 1] 5)) wr.heap.size 1 [.int .u8 ((rndR L 0).2 : Nat)] := Arr.new wr 1 [.int .u8 1] 5 rfl
       have hr1 : KT w (wr.alloc (.cells #[Value.int .u8 1] 5)) g m (padM l) ab (rndR L 0).1 := hr.alloc _
       have HR1 := Lib.hid (And.intro hr1 (And.intro hl1 (show w.heap.size < wr.heap.size ∧ wr.heap.size ≠ g ∧ ab ≠ wr.heap.size by omega)))
       clear hr hr1 hl1 eL hal hgl2 hal2 hli hi
       go_wp2_with fail
       generalize wr.heap.size = lb at *
       go_loopw [8] (fun i wr => ∃ k : Nat, k ≤ 24 ∧ i = .int .i64 k ∧ KT w wr g m (padM l) ab (rndR L k).1 ∧ Arr wr lb 1 [.int .u8 ((rndR L k).2 : Nat)]) (fun i _ => 24 - (intOf i).toNat)
       case atStart => exact ⟨0, by omega, rfl, HR1.out.1, HR1.out.2.1⟩
       case round =>
        obtain ⟨k, hk, rfl, hr, hl⟩ := hrel
        by_cases hlk : k < 24
        ·have hs := rndR_lt L k
         have HE : Hid (rndR L (k + 1) = roundR (rndR L k).1 (rndR L k).2) := rfl
         generalize rndR L k = V at hr hl hs HE
         obtain ⟨A, s⟩ := V
         simp only at hr hl hs
         have b7 : (k : Int) < 24 := by omega
         have HR := Lib.hid (And.intro hr hl)
         clear hr hl
         go_wp2_with fail
         refine (ref_round ab lb A s hs wr HR.out.1.a HR.out.2 HR1.out.2.2.2.2).mono ?_
         rintro e w3 ⟨rfl, h3, h4, h5⟩
         have HR3 : Hid (KT w w3 g m (padM l) ab (rndR L (k + 1)).1 ∧ Arr w3 lb 1 [.int .u8 ((rndR L (k + 1)).2 : Nat)]) := by
          unfold Hid
          rw [HE.out]
          exact ⟨HR.out.1.only h5 h3 HR1.out.2.2.1 HR1.out.2.2.2.1, h4⟩
         clear h3 h4 h5
         go_wp2
         go_roundw
         case rel => exact ⟨k + 1, by omega, by go_num, HR3.out.1, HR3.out.2⟩
         case measure => simp [intOf]; omega
        ·obtain rfl : k = 24 := by omega
         have HR : Hid (KT w wr g m (padM l) ab (spR (padM l) (q + 1))) := by
          show KT w wr g m (padM l) ab (rndR (absR (spR (padM l) q) (padM l) (136 * q) 136) 24).1
          rw [← HQ.out.1, ← HL.out]; exact hr
         have w9 : IntKind.i64.wrap ((fr : Int) + 136) = (fr : Int) + 136 := wrI _ (by omega) (by omega)
         clear hr hl
         go_wp2
         go_roundw
         case rel => exact ⟨q + 1, by have := HQ.out.1; omega, by have := HQ.out.2; rw [← this]; go_num, HR.out⟩
         case measure => simp [intOf]; omega
    ·have b4 : ¬ (fr : Int) < (m : Int) := by omega
     have HQ : Hid (q = (n + padK n + 1) / 136) := by unfold Hid; have := HMm.out; omega
     have HR := Lib.hid hr
     clear hr hlt hq bf ef
     go_wp2_with fail
     have HO0 : Hid (KT w (wr.alloc (.cells (zU8 32).toArray 25)) g m (padM l) ab (spR (padM l) q) ∧ Arr (wr.alloc (.cells (zU8 32).toArray 25)) wr.heap.size 32 (u8L (partL 32 (outB (spR (padM l) q)) 0))) :=
      ⟨HR.out.alloc _, by rw [partL_zero, u8L_replicate]; exact Arr.new _ _ _ _ (by simp)⟩
     have hob : w.heap.size < wr.heap.size ∧ wr.heap.size ≠ g ∧ wr.heap.size ≠ ab := by
      have := HR.out.al; have := HR.out.a.lt; have := HR.out.m.lt; omega
     generalize wr.heap.size = ob at *
     have HEq : Hid (spR (padM l) ((n + padK n + 1) / 136) = spR (padM l) q) := by unfold Hid; rw [← HQ.out]
     generalize spR (padM l) q = E at *
     go_loopw [10] (fun i wr => ∃ k : Nat, k ≤ 32 ∧ i = .int .i64 k ∧ KT w wr g m (padM l) ab E ∧ Arr wr ob 32 (u8L (partL 32 (outB E) k))) (fun i _ => 32 - (intOf i).toNat)
     case atStart => exact ⟨0, by omega, rfl, HO0.out.1, HO0.out.2⟩
     case round =>
      obtain ⟨i, hi, rfl, hr, ho⟩ := hrel
      by_cases hli : i < 32
      ·obtain ⟨j, ej⟩ : ∃ j, j = i / 8 := ⟨_, rfl⟩
       obtain ⟨r, er⟩ : ∃ j, j = i % 8 := ⟨_, rfl⟩
       obtain ⟨t, et⟩ : ∃ j, j = 8 * r := ⟨_, rfl⟩
       have c0 := l64_at hr.a (show j < 25 by omega)
       have f0 := ho.free1 hli
       have b0 : (j : Int) < 25 := by omega
       have b5 : (i : Int) < 32 := by omega
       have m1 : (i : Int).tdiv 8 = (j : Int) := by rw [Int.tdiv_eq_ediv_of_nonneg (by omega)]; omega
       have m2 : (i : Int).tmod 8 = (r : Int) := by rw [Int.tmod_eq_emod_of_nonneg (by omega)]; omega
       have m1' : (i : Int) / 8 = (j : Int) := by omega
       have m2' : (i : Int) % 8 = (r : Int) := by omega
       have m3 : IntKind.i64.wrap ((r : Int) * 8) = (t : Int) := by rw [wrI _ (by omega) (by omega)]; omega
       have m3' : (r : Int) * 8 = (t : Int) := by omega
       have m4 : IntKind.u64.wrap (t : Int) = (t : Int) := wrU _ (by omega) (by omega)
       have m7 : min t 64 = t := by omega
       have m8 : ¬ 64 < t := by omega
       have HE : Hid (j = i / 8 ∧ t = 8 * (i % 8)) := ⟨ej, by rw [et, er]⟩
       have HR := Lib.hid (And.intro hr ho)
       clear hr ho ej er et
       go_wp2_with fail
       go_roundw
       case rel =>
        refine ⟨i + 1, by omega, by go_num, HR.out.1.setO hob.1 hob.2.1 hob.2.2 i f0 _, ?_⟩
        have e : bits .and .u64 (at64 E j / 2 ^ t) 255 % 256 = outB E i := by
         rw [and255u, Int.emod_emod_of_dvd _ (by decide), outB, ← HE.out.1, ← HE.out.2]
        rw [← partL_set 32 (outB E) i _ rfl, ← u8L_set', e]
        exact HR.out.2.set hli _
       case measure => simp [intOf]; omega
      ·obtain rfl : i = 32 := by omega
       have h1 := ho.row
       have h2 := hr.free
       have ok : okL 32 (u8L (partL 32 (outB E) 32)) = true := u8L_ok _ _ (partL_len _ _ _)
       have hb := hr.below
       have E3 : Hid (u8L (partL 32 (outB E) 32) = u8L ((List.range 32).map (outB E))) := by unfold Hid; rw [partL_full]
       generalize u8L (partL 32 (outB E) 32) = O at h1 ok E3
       clear hr ho
       go_wp2
       exact ret_row ty25 rfl _ rfl rfl h2 ok ⟨by rw [E3.out, HEq.out], hb.setCells (Nat.le_refl _) _ _⟩
theorem rnd_perm (L : List Int) (k : Nat) (hk : k ≤ 24) : rndR L k = (permP L k, lfL.getD k 0) := by
 induction k with
 | zero => rfl
 | succ k ih =>
  rw [rndR, ih (by omega), permP_succ]
  exact round_eq (permP L k) k (by omega)
def InR (L : List Int) : Prop := ∀ i, 0 ≤ at64 L i ∧ at64 L i < 18446744073709551616
theorem at64_set (L : List Int) (i j : Nat) (v : Int) : at64 (L.set i v) j = if i = j ∧ j < L.length then v else at64 L j := by
 show (L.set i v).getD j 0 = _
 rw [List.getD_eq_getElem?_getD, List.getElem?_set]
 by_cases h : i = j
 ·subst h
  by_cases h2 : i < L.length
  ·simp [h2]
  ·simp [h2, at64]
 ·simp [h, at64]
theorem InR.set {L : List Int} (h : InR L) (i : Nat) (op : BinOp) (a b : Int) : InR (L.set i (bits op .u64 a b)) := by
 intro j
 rw [at64_set]
 split
 ·exact bits_lt op a b
 ·exact h j
theorem InR.takeP {L : List Int} (h : InR L) (p : Nat) (x : Int) : InR (takeP L p x) := h.set _ _ _ _
theorem InR.roundP (L : List Int) (rc : Int) : InR (roundP L rc) := by
 unfold Go.Mun.roundP
 refine InR.set ?_ _ _ _ _
 generalize rhoPi L ((List.range 5).map (thD ((List.range 5).map (thC L)))) 25 = b
 intro j
 by_cases hj : j < 25
 ·rw [map_at _ 25 j hj]; exact bits_lt _ _ _
 ·have : at64 ((List.range 25).map (chiAt b)) j = 0 := by
   show ((List.range 25).map (chiAt b)).getD j 0 = 0
   rw [List.getD_eq_getElem?_getD, List.getElem?_eq_none (by simp; omega)]; rfl
  rw [this]; decide
theorem InR.permP (L : List Int) : InR (permP L 24) := by rw [permP_succ]; exact InR.roundP _ _
def takes (L : List Int) (p : Nat) : List Int → List Int
 | [] => L
 | x :: xs => takes (takeP L p x) (p + 1) xs
theorem takes_append (a b : List Int) : ∀ (L : List Int) (p : Nat), takes L p (a ++ b) = takes (takes L p a) (p + a.length) b := by
 induction a with
 | nil => intro L p; rfl
 | cons x a ih => intro L p; simp only [List.cons_append, takes, ih, List.length_cons]; rw [show p + 1 + a.length = p + (a.length + 1) by omega]
theorem feed_takes (c : List Int) : ∀ (L : List Int) (p : Nat), p + c.length ≤ 135 → feed (L, p) c = (takes L p c, p + c.length) := by
 induction c with
 | nil => intro L p _; rfl
 | cons x c ih =>
  intro L p h
  simp at h
  have e : feed1 (L, p) x = (takeP L p x, p + 1) := by unfold feed1; rw [if_neg (by simp; omega)]
  show feed (feed1 (L, p) x) c = _
  rw [e, ih _ _ (by omega)]
  simp only [takes, List.length_cons]
  rw [show p + 1 + c.length = p + (c.length + 1) by omega]
theorem feed_block (c : List Int) : ∀ (L : List Int) (p : Nat), p + c.length = 136 → c ≠ [] → feed (L, p) c = (permP (takes L p c) 24, 0) := by
 induction c with
 | nil => intro L p _ h; exact absurd rfl h
 | cons x c ih =>
  intro L p h _
  simp at h
  show feed (feed1 (L, p) x) c = _
  by_cases hc : c = []
  ·subst hc
   simp at h
   have e : feed1 (L, p) x = (permP (takeP L p x) 24, 0) := by unfold feed1; rw [if_pos (by simp; omega)]
   rw [e]; rfl
  ·have : 0 < c.length := List.length_pos_iff.2 hc
   have e : feed1 (L, p) x = (takeP L p x, p + 1) := by unfold feed1; rw [if_neg (by simp; omega)]
   rw [e, ih _ _ (by omega) hc]
   rfl
theorem absR_takes (L M : List Int) (fr : Nat) (i : Nat) (h : fr + i ≤ M.length) : absR L M fr i = takes L 0 ((M.drop fr).take i) := by
 induction i with
 | zero => rfl
 | succ i ih =>
  have h1 : i < (M.drop fr).length := by simp; omega
  rw [absR, ih (by omega), List.take_succ_eq_append_getElem h1, takes_append]
  have : ((M.drop fr).take i).length = i := by simp; omega
  rw [this]
  simp [takes, show fr + i < M.length by omega]
theorem takes_zeros (k : Nat) : ∀ (L : List Int) (p : Nat), InR L → takes L p (List.replicate k 0) = L := by
 induction k with
 | zero => intro L p _; rfl
 | succ k ih =>
  intro L p h
  have e : takeP L p 0 = L := by
   unfold takeP
   have : IntKind.u64.wrap (0 * 2 ^ (8 * (p % 8))) = 0 := by rw [Int.zero_mul]; rfl
   rw [this, bx_zero _ (h _).1 (h _).2]
   exact set_same L _
  show takes (takeP L p 0) (p + 1) (List.replicate k 0) = L
  rw [e]; exact ih L _ h
def tailM : Nat → List Int
 | 0 => [129]
 | k + 1 => [1] ++ List.replicate k 0 ++ [128]
theorem tailM_len (k : Nat) : (tailM k).length = k + 1 := by cases k <;> simp [tailM]
theorem padM_tail (l : List Int) : padM l = l ++ tailM (padK l.length) := by
 unfold padM padL
 generalize padK l.length = k
 cases k with
 | zero =>
  simp [tailM]
  decide
 | succ k =>
  rw [List.append_assoc, List.set_append_right _ _ (by omega)]
  congr 1
  rw [show l.length + (k + 1) - l.length = k + 1 by omega]
  have e : (l ++ ([1] ++ List.replicate (k + 1) 0)).getD (l.length + (k + 1)) 0 = 0 := by
   rw [List.getD_eq_getElem?_getD, List.getElem?_append_right (by omega), show l.length + (k + 1) - l.length = k + 1 by omega]
   simp
  rw [e, List.replicate_succ', ← List.append_assoc, List.set_append_right _ _ (by simp)]
  simp [tailM]
  decide
theorem take_last (X : List Int) (hX : X.length = 25) : takeP X 135 129 = takeP (takeP X 135 1) 135 128 := by
 unfold takeP
 rw [at64_set, List.set_set]
 simp only [show 135 / 8 = 16 from rfl, show 135 % 8 = 7 from rfl]
 rw [if_pos (And.intro trivial (by omega : 16 < X.length)), bx_assoc]
 congr 2
theorem takes_len (c : List Int) : ∀ (L : List Int) (p : Nat), (takes L p c).length = L.length := by
 induction c with
 | nil => intro L p; rfl
 | cons x c ih => intro L p; simp only [takes, ih]; simp [takeP]
theorem takes_in (c : List Int) : ∀ (L : List Int) (p : Nat), InR L → InR (takes L p c) := by
 induction c with
 | nil => intro L p h; exact h
 | cons x c ih => intro L p h; exact ih _ _ (h.takeP p x)
theorem spR_ok (M : List Int) (q : Nat) : InR (spR M q) ∧ (spR M q).length = 25 := by
 cases q with
 | zero =>
  refine ⟨?_, rfl⟩
  intro i
  show 0 ≤ (List.replicate 25 (0 : Int)).getD i 0 ∧ (List.replicate 25 (0 : Int)).getD i 0 < _
  rw [List.getD_eq_getElem?_getD, List.getElem?_replicate]
  split <;> decide
 | succ q =>
  rw [spR, rnd_perm _ 24 (Nat.le_refl _)]
  refine ⟨InR.permP _, ?_⟩
  show (permP _ 24).length = 25
  rw [permP_succ]; exact roundP_len _ _
theorem feed_blocks (l : List Int) (q : Nat) (hq : 136 * q ≤ l.length) : feed fed0 (l.take (136 * q)) = (spR (padM l) q, 0) := by
 induction q with
 | zero => rfl
 | succ q ih =>
  have e1 : l.take (136 * (q + 1)) = l.take (136 * q) ++ (l.drop (136 * q)).take 136 := by
   rw [show 136 * (q + 1) = 136 * q + 136 by omega, List.take_add]
  have h1 : ((l.drop (136 * q)).take 136).length = 136 := by simp; omega
  rw [e1, feed_append, ih (by omega), feed_block _ _ _ (by omega) (by intro h; rw [h] at h1; simp at h1)]
  rw [spR, rnd_perm _ 24 (Nat.le_refl _), absR_takes _ _ _ _ (by rw [padM_tail]; simp; omega)]
  rw [padM_tail, List.drop_append_of_le_length (by omega), List.take_append_of_le_length (by simp; omega)]
theorem keccak_eq (l : List Int) : kecL l = (List.range 32).map (outB (spR (padM l) ((l.length + padK l.length + 1) / 136))) := by
 unfold kecL
 congr 2
 obtain ⟨q, hq⟩ : ∃ q, q = l.length / 136 := ⟨_, rfl⟩
 have e0 : (l.length + padK l.length + 1) / 136 = q + 1 := by unfold padK; omega
 rw [e0]
 have e1 : feed fed0 l = feed (spR (padM l) q, 0) (l.drop (136 * q)) := by
  rw [← feed_blocks l q (by omega), ← feed_append, List.take_append_drop]
 have h1 : (l.drop (136 * q)).length = l.length % 136 := by simp; omega
 obtain ⟨hin, h25⟩ := spR_ok (padM l) q
 rw [e1, feed_takes _ _ _ (by omega), h1, Nat.zero_add]
 rw [spR, rnd_perm _ 24 (Nat.le_refl _), absR_takes _ _ _ _ (by rw [padM_tail]; simp [tailM_len]; unfold padK; omega)]
 unfold endP
 congr 1
 simp only
 have e2 : ((padM l).drop (136 * q)).take 136 = l.drop (136 * q) ++ tailM (padK l.length) := by
  rw [padM_tail, List.drop_append_of_le_length (by omega), List.take_of_length_le]
  simp [tailM_len]; unfold padK; omega
 rw [e2, takes_append, h1, Nat.zero_add]
 have hX := takes_in (l.drop (136 * q)) _ 0 hin
 have hX2 := takes_len (l.drop (136 * q)) (spR (padM l) q) 0
 generalize takes (spR (padM l) q) 0 (l.drop (136 * q)) = X at hX hX2
 by_cases hr : l.length % 136 = 135
 ·rw [show padK l.length = 0 by unfold padK; omega, hr]
  exact (take_last X (by omega)).symm
 ·obtain ⟨k, hk⟩ : ∃ k, padK l.length = k + 1 := ⟨padK l.length - 1, by unfold padK; omega⟩
  rw [hk]
  show _ = takes X _ ([1] ++ List.replicate k 0 ++ [128])
  rw [takes_append, takes_append]
  show _ = takes (takes (takeP X (l.length % 136) 1) _ (List.replicate k 0)) _ [128]
  rw [takes_zeros k _ _ (hX.takeP _ _)]
  have : l.length % 136 + ([1] ++ List.replicate k (0 : Int)).length = 135 := by simp; unfold padK at hk; omega
  rw [this]
  rfl
end Go.Proofs.YtfflppedbopdpaaGreat
