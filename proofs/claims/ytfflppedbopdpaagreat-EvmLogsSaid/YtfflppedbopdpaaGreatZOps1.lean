/- A part of the proof of EvmLogs: ZOps1. -/
import Derived.Test.YtfflppedbopdpaaGreatZEv1
set_option linter.unusedVariables false
set_option maxRecDepth 1000000
set_option maxHeartbeats 8000000
set_option linter.unusedSimpArgs false
namespace Go.Mun
def A9a (x:Int):Option (Int × Int × Int):=
 if x == 71 then some (0,1,5) else
 if x == 80 then some (1,0,2) else
 if x == 82 then some (2,0,3) else
 if x == 83 then some (2,0,3) else
 if x == 84 then some (1,1,800) else
 if x == 85 then some (2,0,0) else
 if x == 243 then some (2,0,0) else
 if x == 253 then some (2,0,0) else
 if x == 86 then some (1,0,8) else
 if x == 87 then some (2,0,10) else
 if x == 91 then some (0,0,1) else
 if x == 240 then some (3,1,32000) else
 if x == 241 then some (7,1,700) else
 if x == 244 then some (6,1,700) else
 if x == 250 then some (6,1,700) else
 if x == 245 then some (4,1,32000) else
 if x == 255 then some (1,0,5000) else
 none
def A3Z (x:Int):Option (Int × Int × Int):=
 if x == 0 then some (0,0,0) else
 if x == 1 then some (2,1,3) else
 if x == 3 then some (2,1,3) else
 if x == 16 then some (2,1,3) else
 if x == 17 then some (2,1,3) else
 if x == 18 then some (2,1,3) else
 if x == 19 then some (2,1,3) else
 if x == 20 then some (2,1,3) else
 if x == 22 then some (2,1,3) else
 if x == 23 then some (2,1,3) else
 if x == 24 then some (2,1,3) else
 if x == 26 then some (2,1,3) else
 if x == 27 then some (2,1,3) else
 if x == 28 then some (2,1,3) else
 if x == 29 then some (2,1,3) else
 if x == 2 then some (2,1,5) else
 if x == 4 then some (2,1,5) else
 if x == 5 then some (2,1,5) else
 if x == 6 then some (2,1,5) else
 if x == 7 then some (2,1,5) else
 if x == 11 then some (2,1,5) else
 if x == 8 then some (3,1,8) else
 if x == 9 then some (3,1,8) else
 if x == 10 then some (2,1,10) else
 if x == 21 then some (1,1,3) else
 if x == 25 then some (1,1,3) else
 if x == 53 then some (1,1,3) else
 if x == 81 then some (1,1,3) else
 if x == 32 then some (2,1,30) else
 if x == 48 then some (0,1,2) else
 if x == 50 then some (0,1,2) else
 if x == 51 then some (0,1,2) else
 if x == 52 then some (0,1,2) else
 if x == 54 then some (0,1,2) else
 if x == 56 then some (0,1,2) else
 if x == 61 then some (0,1,2) else
 if x == 65 then some (0,1,2) else
 if x == 66 then some (0,1,2) else
 if x == 67 then some (0,1,2) else
 if x == 69 then some (0,1,2) else
 if x == 70 then some (0,1,2) else
 if x == 88 then some (0,1,2) else
 if x == 89 then some (0,1,2) else
 if x == 90 then some (0,1,2) else
 if x == 95 then some (0,1,2) else
 if x == 49 then some (1,1,700) else
 if x == 59 then some (1,1,700) else
 if x == 63 then some (1,1,700) else
 if x == 55 then some (3,0,3) else
 if x == 57 then some (3,0,3) else
 if x == 62 then some (3,0,3) else
 if x == 60 then some (4,0,700) else
 A9a x
def ofL (x:Int):Option (Int × Int × Int):=
 if 96≤x∧x≤127 then some (0,1,3) else
 if 128≤x∧x < 144 then some (x % 16+1,x % 16+1+1,3) else
 if 144≤x∧x < 160 then some (x % 16+1+1,x % 16+1+1,3) else
 if 160≤x∧x≤164 then some (x % 16+1+1,0,375*(x % 16+1)) else A3Z x
def A1U (o:Option (Int × Int × Int)):Value:=match o with
 | some (a,b,c) => .tuple #[.agg #[.int .i64 a,.int .i64 b,.int .i64 c],.bool true]
 | none => .tuple #[.agg #[.int .i64 0,.int .i64 0,.int .i64 0],.bool false]
end Go.Mun
namespace Go.Proofs.YtfflppedbopdpaaGreat
open Go.RowKit Go.Mun
theorem B4a (x:Int) (w:World):Calls Tryz.prog 384 #[.int .u8 x] w fun e w'=>e = .returned (A1U (A9a x))∧Below w.heap.size w w':=by
 obtain ⟨o,ho⟩:∃ o,o=A9a x:=⟨_,rfl⟩
 rw [← ho]
 have HO:=hid ho
 clear ho
 go_enter Tryz.func384,Tryz.ntmps384
 go_wp2
 all_goals
  have hq:=HO.out
  unfold A9a at hq
  simp only [*,Bool.false_eq_true,if_false,if_true] at hq
  subst hq
  refine bodyPost_ret ?_ rfl ⟨rfl,?_⟩
  ·simp [results,Tryz.results384,go_sem,A1U]
  ·exact (Below.refl _ _).alloc (Nat.le_refl _) _
theorem A5N (o:Option (Int × Int × Int)):∃ a b c:Int,∃ ok:Bool,A1U o = .tuple #[.agg #[.int .i64 a,.int .i64 b,.int .i64 c],.bool ok]:=by
 cases o with
 | none=>exact ⟨0,0,0,false,rfl⟩
 | some o=>obtain ⟨a,b,c⟩:=o;exact ⟨a,b,c,true,rfl⟩
end Go.Proofs.YtfflppedbopdpaaGreat
