/-
  Slices turned to arrays, slices of noughts, results of which the first is an array: laws over any program.
-/
import Derived.Test.YtaoacfkifcglfaaDoorStr
import Derived.Laws.OwnMore
namespace Go.Mun
open Go.RowKit

theorem run_toArray {P : Program} {arr n e : Nat} (hu : P.underlying arr = some (.array n e)) (a : Option Addr) (len c : Nat) (h : n ≤ len) (w : World) :
    (Instr.arrayAt arr (.slice a len c)).run P w = .ok (.pointer a) w := by
  simp [Instr.arrayAt, run_underlying hu]
  omega
theorem ex_arrayAt {P : Program} {arr n e : Nat} (hu : P.underlying arr = some (.array n e)) (ρ : Operand → Value) (dst : Option Tmp) (x : Operand) (t : TypeId) (pos : String) (after : Array Edge) (gd : Option (Nat × Bool)) (w : World)
    (a : Option Addr) (len c : Nat) (hx : ρ x = .slice a len c) (h : n ≤ len) :
    (execOp ρ ⟨dst, .sliceToArrayPointer arr x, t, pos, after, gd⟩).run P w = .ok (.value (.pointer a)) w := by
  unfold execOp
  simp only [Sem.run_bind, hx, run_toArray hu a len c h]
  rfl

theorem run_makeU8 {P : Program} {t e : TypeId} (E : ElemOf P t e (.int .u8 0) 1 1) (x : Int) (n : Nat) (hx : x = n) (hn : n ≤ 16777216) (w : World) :
    (Instr.makeSlice t (.int .i64 x) (.int .i64 x)).run P w = .ok (.slice (some ⟨w.heap.size, 0, none⟩) n n) (w.alloc (.cells (zU8 n).toArray e)) := by
  subst hx
  obtain ⟨i, hi, hz, hsz, hb⟩ := E.info
  have := run_make (P := P) w t e i _ E.slice hi hz .i64 .i64 n n (by omega) (Int.le_refl _) (by rw [hb]; omega) (by omega)
  simp only [Int.toNat_natCast, hsz, Nat.mul_one] at this
  rw [this]
  have e0 : madeCells (Value.int .u8 0).cells n = (zU8 n).toArray := by
    apply Array.ext
    · simp [madeCells]
    · intro i h1 h2
      simp [madeCells, zU8, Value.cells]
      have : i % 1 = 0 := Nat.mod_one i
      simp [this]
  rw [e0]

theorem own_row {w : World} {base e : Nat} {v : Value} {n : Nat} {xs : List Value} (h : w.ownsRow base e 1 v n xs) (hn : 0 < n) :
    ∃ g c, v = .slice (some ⟨g, 0, none⟩) n c ∧ base ≤ g ∧ g < w.heap.size ∧ w.row? g 0 n = some xs := by
  rcases h.2 with ⟨rfl, h0⟩ | ⟨g, cap, cur, rfl, hbg, hg, hnc, hcm, hcs, htake⟩
  · omega
  · refine ⟨g, cap, rfl, hbg, (Array.getElem?_eq_some_iff.1 hg).1, ?_⟩
    unfold World.row?
    rw [hg]
    simp only [Nat.zero_add, List.drop_zero]
    rw [if_pos (by omega)]
    rw [Nat.mul_one] at htake
    rw [htake]

/-- A function that hands back an array or struct, which lies in a block of its own, and another value beside it. -/
theorem ret_row2 {P : Program} {fn : Func} {R : Ending → World → Prop} {a : Act} {w : World} {p q ty n b : Nat} (hT : RowTy P ty n) (hres : fn.results = #[.cell p ty, .tmp q]) (L : List Value) (x : Value)
    (hp : a.tmps.getD p undef = .pointer (some ⟨b, 0, none⟩)) (hq : a.tmps.getD q undef = x) (hd : a.defers = []) (hr : w.row? b 0 n = some L) (hR : R (.returned (.tuple #[.agg L.toArray, x])) w) :
    bodyPost P fn R .ret a w := by
  refine ⟨hd, _, ?_, hR⟩
  obtain ⟨d, hu, hd⟩ := hT.desc
  have hp' : a.tmps[p]?.getD undef = .pointer (some ⟨b, 0, none⟩) := by simpa using hp
  have hq' : a.tmps[q]?.getD undef = x := by simpa using hq
  simp [results, hres, hp', hq', asAddr, run_loadVar_mid w b 0 ty L d (World.row?_rangeAt hr) hu hd (by rw [World.row?_len hr]; exact hT.size)]

theorem u8L_replicate (n : Nat) : u8L (List.replicate n 0) = zU8 n := by simp [u8L, zU8]
end Go.Mun
