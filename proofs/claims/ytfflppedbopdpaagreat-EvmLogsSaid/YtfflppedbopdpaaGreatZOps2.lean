/- A part of the proof of EvmLogs: ZOps2. -/
import Derived.Test.YtfflppedbopdpaaGreatZOps1
set_option linter.unusedVariables false
set_option maxRecDepth 1000000
set_option maxHeartbeats 8000000
set_option linter.unusedSimpArgs false
namespace Go.Proofs.YtfflppedbopdpaaGreat
open Go.RowKit Go.Mun
theorem B2v (x:Int) (w:World):Calls Tryz.prog 377 #[.int .u8 x] w fun e w'=>e = .returned (A1U (A3Z x))∧Below w.heap.size w w':=by
 obtain ⟨a,b,c,ok,hf⟩:=A5N (A9a x)
 have HH:Hid (∀ w,Calls Tryz.prog 384 #[.int .u8 x] w fun e w'=>e = .returned (.tuple #[.agg #[.int .i64 a,.int .i64 b,.int .i64 c],.bool ok])∧Below w.heap.size w w'):=hid fun w=>by
  have:=B4a x w
  rw [hf] at this;exact this
 have HF:=hid hf
 obtain ⟨o,ho⟩:∃ o,o=A1U (A3Z x):=⟨_,rfl⟩
 rw [← ho]
 have HO:=hid ho
 clear ho hf
 go_enter Tryz.func377,Tryz.ntmps377
 go_wp2_with (go_at_call 384;refine (HH.out _).mono ?_;rintro e w1 ⟨rfl,hb⟩;obtain ⟨hc,hfz⟩:=B66 hb;have hz:w.heap.size < w1.heap.size:=(by have:=hb.size;simp at this;omega);have HB:=hid (show Below w.heap.size w w1 from ((Below.refl _ _).alloc (Nat.le_refl _) _).trans (hb.mono (by simp)));clear hb)
 all_goals
  have hq:=HO.out
  unfold A3Z at hq
  simp only [*,Bool.false_eq_true,if_false,if_true,HF.out] at hq
  subst hq
  refine bodyPost_ret ?_ rfl ⟨rfl,?_⟩
  ·first | (simp [results,Tryz.results377,go_sem,A1U];done) | simp [results,Tryz.results377,go_sem,hc]
  ·first | exact (Below.refl _ _).alloc (Nat.le_refl _) _ | exact ((HB.out.setCell (Nat.le_refl _) _).setCell (Nat.le_refl _) _).setCell (Nat.le_refl _) _
theorem B7R (m:Nat) (hm:m < 256) (w:World):Calls Tryz.prog 369 #[.int .u8 (m:Int)] w fun e w'=>e = .returned (A1U (ofL (m:Int)))∧Below w.heap.size w w':=by
 have ea:=B3g (m:Int)
 obtain ⟨x,hx⟩:∃ x:Int,x=(m:Int):=⟨_,rfl⟩
 rw [← hx] at ea ⊢
 have x0:0≤x:=by omega
 have x1:x≤255:=by omega
 obtain ⟨o,ho⟩:∃ o,o=A1U (ofL x):=⟨_,rfl⟩
 rw [← ho]
 have HO:=hid ho
 obtain ⟨y,hy⟩:∃ y,y=x % 16:=⟨_,rfl⟩
 rw [← hy] at ea
 have y0:0≤y:=by omega
 have y1:y≤15:=by omega
 have HY:=hid hy
 clear hx hm ho hy
 by_cases h1:96≤x∧x≤127
 ·obtain ⟨g0,g1⟩:=h1
  go_enter Tryz.func369,Tryz.ntmps369
  go_wp2
  have hq:=HO.out
  unfold ofL at hq
  rw [if_pos ⟨g0,g1⟩] at hq
  subst hq
  refine bodyPost_ret ?_ rfl ⟨rfl,?_⟩
  ·simp [results,Tryz.results369,go_sem,A1U]
  ·exact (Below.refl _ _).alloc (Nat.le_refl _) _
 by_cases h2:128≤x∧x < 144
 ·obtain ⟨g0,g1⟩:=h2
  clear h1
  go_enter Tryz.func369,Tryz.ntmps369
  go_wp2
  have hq:=HO.out
  unfold ofL at hq
  rw [if_neg (by omega),if_pos ⟨g0,g1⟩,← HY.out] at hq
  subst hq
  refine bodyPost_ret ?_ rfl ⟨rfl,?_⟩
  ·simp [results,Tryz.results369,go_sem,A1U]
  ·exact (Below.refl _ _).alloc (Nat.le_refl _) _
 by_cases h3:144≤x∧x < 160
 ·obtain ⟨g0,g1⟩:=h3
  clear h1 h2
  go_enter Tryz.func369,Tryz.ntmps369
  go_wp2
  have hq:=HO.out
  unfold ofL at hq
  rw [if_neg (by omega),if_neg (by omega),if_pos ⟨g0,g1⟩,← HY.out] at hq
  subst hq
  refine bodyPost_ret ?_ rfl ⟨rfl,?_⟩
  ·simp [results,Tryz.results369,go_sem,A1U]
  ·exact (Below.refl _ _).alloc (Nat.le_refl _) _
 by_cases h4:160≤x∧x≤164
 ·obtain ⟨g0,g1⟩:=h4
  clear h1 h2 h3
  go_enter Tryz.func369,Tryz.ntmps369
  go_wp2
  have hq:=HO.out
  unfold ofL at hq
  rw [if_neg (by omega),if_neg (by omega),if_neg (by omega),if_pos ⟨g0,g1⟩,← HY.out] at hq
  subst hq
  refine bodyPost_ret ?_ rfl ⟨rfl,?_⟩
  ·simp [results,Tryz.results369,go_sem,A1U]
  ·exact (Below.refl _ _).alloc (Nat.le_refl _) _
 ·have hq:o=A1U (A3Z x):=by
   rw [HO.out];unfold ofL;rw [if_neg h1,if_neg h2,if_neg h3,if_neg h4]
  obtain ⟨a,b,c,ok,hf⟩:=A5N (A3Z x)
  rw [hf] at hq
  have HH:Hid (∀ w,Calls Tryz.prog 377 #[.int .u8 x] w fun e w'=>e = .returned (.tuple #[.agg #[.int .i64 a,.int .i64 b,.int .i64 c],.bool ok])∧Below w.heap.size w w'):=hid fun w=>by
   have:=B2v x w
   rw [hf] at this;exact this
  subst hq
  have hh:Hid (x < 96∨165≤x):=hid (by omega)
  clear h1 h2 h3 h4 hf HO HY
  by_cases hlo:x < 96
  focus
   clear hh
  rotate_left
  focus
   have hhi:165≤x:=by have:=hh.out;omega
   clear hh hlo
  all_goals
   go_enter Tryz.func369,Tryz.ntmps369
   go_wp2_with (go_at_call 377;refine (HH.out _).mono ?_;rintro e w1 ⟨rfl,hb⟩;obtain ⟨hc,hfz⟩:=B66 hb;have hz:w.heap.size < w1.heap.size:=(by have:=hb.size;simp at this;omega);have HB:=hid (show Below w.heap.size w w1 from ((Below.refl _ _).alloc (Nat.le_refl _) _).trans (hb.mono (by simp)));clear hb)
   refine bodyPost_ret ?_ rfl ⟨rfl,?_⟩
   ·simp [results,Tryz.results369,go_sem,hc]
   ·exact ((HB.out.setCell (Nat.le_refl _) _).setCell (Nat.le_refl _) _).setCell (Nat.le_refl _) _

end Go.Proofs.YtfflppedbopdpaaGreat
