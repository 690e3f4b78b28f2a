/- A part of the proof of EvmLogs: ZRef1. -/
import Derived.Test.YtfflppedbopdpaaGreatZNw1
set_option linter.unusedVariables false
set_option maxRecDepth 1000000
set_option maxHeartbeats 8000000
set_option linter.unusedSimpArgs false
namespace Go.Proofs.YtfflppedbopdpaaGreat
open Go.RowKit Go.Mun

structure RO (n:Int) (k j:Nat) (w wr:World):Prop where
 below:Below w.heap.size w wr
 size:w.heap.size+1 < wr.heap.size
 res:wr.free? w.heap.size 0 32=true
 free:wr.free? (w.heap.size+1) 0 32=true
 row:∃ L:List Int,wr.row? (w.heap.size+1) 0 32=some (K2 L)∧L.length=32∧(∀ i,i < 32→32 - k≤i→L[i]?.getD 0=n / 256 ^ (31 - i) % 256)∧(∀ i,i < j→L[i]?.getD 0=n / 256 ^ 8 % 256)

theorem RO.cell {n:Int} {k j:Nat} {w wr:World} (h:RO n k j w wr) (i:Nat) (hi:i < 32) :
  wr.frozen? ⟨w.heap.size+1,i,none⟩=false∧∃ v,wr.cell? ⟨w.heap.size+1,i,none⟩=some v:=by
 have:=World.free?_there h.free i hi
 simp only [Nat.zero_add] at this
 exact ⟨this.2,Option.isSome_iff_exists.1 this.1⟩

theorem RO.step1 {n:Int} {k:Nat} {w wr:World} (h:RO n k 0 w wr) (hk:k < 8) (x:Int) (hx:x=n / 256 ^ k % 256) :
  RO n (k+1) 0 w (wr.setCell ⟨w.heap.size+1,31 - k,none⟩ (.int .u8 x)):=by
 obtain ⟨h1,h2,h3,h4,L,h5,h6,h7,h8⟩:=h
 have hf:=World.free?_sub h4 (o':=31 - k) (n':=1) (by omega)
 refine ⟨h1.setCell (by simp) _,by simpa using h2,by rw [D1 _ hf];exact h3,by rw [D1 _ hf];exact h4,L.set (31 - k) x,?_,by simpa using h6,fun i hi hik=>?_,fun i hi=>by omega⟩
 ·rw [G6 _ h5 (Nat.zero_le _) (by omega)]
  simp only [Nat.sub_zero]
  rw [A4I L _ (by omega)]
 ·rw [List.getElem?_set]
  by_cases h9:31 - k=i
  ·rw [if_pos h9,if_pos (by omega),hx];simp only [Option.getD_some];congr 3;omega
  ·rw [if_neg h9];exact h7 i hi (by omega)

theorem RO.step2 {n:Int} {j:Nat} {w wr:World} (h:RO n 8 j w wr) (hj:j < 24) (x:Int) (hx:x=n / 256 ^ 8 % 256) :
  RO n 8 (j+1) w (wr.setCell ⟨w.heap.size+1,j,none⟩ (.int .u8 x)):=by
 obtain ⟨h1,h2,h3,h4,L,h5,h6,h7,h8⟩:=h
 have hf:=World.free?_sub h4 (o':=j) (n':=1) (by omega)
 refine ⟨h1.setCell (by simp) _,by simpa using h2,by rw [D1 _ hf];exact h3,by rw [D1 _ hf];exact h4,L.set j x,?_,by simpa using h6,fun i hi hik=>?_,fun i hi=>?_⟩
 ·rw [G6 _ h5 (Nat.zero_le _) (by omega)]
  simp only [Nat.sub_zero]
  rw [A4I L _ (by omega)]
 ·rw [List.getElem?_set,if_neg (by omega)];exact h7 i hi hik
 ·rw [List.getElem?_set]
  by_cases h9:j=i
  ·rw [if_pos h9,if_pos (by omega),hx];rfl
  ·rw [if_neg h9];exact h8 i (by omega)

theorem RO.done {n:Int} {w wr:World} (h:RO n 8 24 w wr) (hn : -9223372036854775808≤n) (hn':n≤9223372036854775807):wr.row? (w.heap.size+1) 0 32=some (A3 32 (ofW n)):=by
 obtain ⟨h1,h2,h3,h4,L,h5,h6,h7,h8⟩:=h
 rw [h5]
 have:L=be 32 (ofW n):=by
  apply List.ext_getElem (by simpa using h6)
  intro i g1 g2
  have hi:i < 32:=by omega
  have e:(be 32 (ofW n))[i]=n / 256 ^ (31 - i) % 256:=by
   rw [← B4d n (31 - i) (by omega)];simp [be]
  refine Eq.trans ?_ e.symm
  by_cases h24:24≤i
  ·have:=h7 i hi (by omega);simpa [g1] using this
  ·have h9:=h8 i (by omega)
   have h10:n / 256 ^ (31 - i) % 256=n / 256 ^ 8 % 256:=by
    obtain ⟨t,ht⟩:∃ t,31 - i=8+t:=⟨31 - i - 8,by omega⟩
    rw [ht,Int.pow_add,← Int.ediv_ediv_of_nonneg (by decide)]
    have hp:(0:Int) < 256 ^ t:=Int.pow_pos (by decide)
    have hq:n / 256 ^ 8=0∨n / 256 ^ 8 = -1:=by omega
    rcases hq with hq | hq
    ·rw [hq];simp
    ·rw [hq]
     have:(-1:Int) / 256 ^ t = -1:=by
      rw [Int.neg_one_ediv];simp [Int.sign_eq_one_of_pos hp]
     rw [this]
   rw [h10,← h9];simp [g1]
 rw [this];rfl

attribute [local irreducible] be A3 J4
theorem A3Y (n:Int) (hn : -9223372036854775808≤n) (hn':n≤9223372036854775807) (w:World) :
  Calls Tryz.prog 21 #[.int .i64 n] w fun e w'=>e = .returned (.agg (A3 32 (ofW n)).toArray)∧Below w.heap.size w w':=by
 have HN:=hid (And.intro hn hn')
 clear hn hn'
 go_enter Tryz.func21,Tryz.ntmps21
 go_wp2
 go_loopw [0,4] (fun m i wr => ∃ k:Nat,k≤8∧i = .int .i64 (31 - (k:Int))∧m = .int .i64 (n / 256 ^ k)∧RO n k 0 w wr) (fun _ i _=>(intOf i).toNat)
 case atStart =>
  refine ⟨0,by omega,rfl,by simp,((Below.refl _ _).alloc (Nat.le_refl _) _).alloc (by simp) _,by simp,by simp [go_sem],by simp [go_sem],List.replicate 32 0,?_,by simp,by intro i hi hi';omega,by intro i hi;omega⟩
  have:K2 (List.replicate 32 0)=J4 32:=by simp [K2,J4]
  rw [this]
  simp [go_sem]
 case round =>
  obtain ⟨k,hk,rfl,rfl,hr⟩:=hrel
  by_cases hlt:k < 8
  ·have hf:=World.free?_sub hr.free (o':=31 - k) (n':=1) (by omega)
   have HR:=hid hr
   clear hr
   generalize hm:n / 256 ^ k=m at *
   have HM:=hid hm
   clear hm
   go_wp2
   go_roundw
   case rel =>
    refine ⟨k+1,by omega,by go_num,?_,HR.out.step1 hlt _ ?_⟩
    ·rw [← HM.out,Int.pow_succ,← Int.ediv_ediv_of_nonneg (by have:(0:Int) < 256 ^ k:=Int.pow_pos (by decide);omega)]
    ·rw [HM.out,A3O];omega
   case measure=>simp [intOf];omega
  ·obtain rfl:k=8:=by omega
   generalize hm:n / 256 ^ 8=m at *
   have HM:=hid hm
   clear hm
   have HR0:=hid hr
   clear hr
   go_wp2
   go_loopw [5] (fun i wr => ∃ j:Nat,j≤24∧i = .int .i64 j∧RO n 8 j w wr) (fun i _=>24 - (intOf i).toNat)
   case atStart=>exact ⟨0,by omega,rfl,HR0.out⟩
   case round =>
    obtain ⟨j,hj,rfl,hr⟩:=hrel
    by_cases hlt:j < 24
    ·have hf:=World.free?_sub hr.free (o':=j) (n':=1) (by omega)
     have HR:=hid hr
     clear hr
     go_wp2
     go_roundw
     case rel =>
      refine ⟨j+1,by omega,by go_num,HR.out.step2 hlt _ ?_⟩
      rw [HM.out,A3O];omega
     case measure=>simp [intOf];omega
    ·obtain rfl:j=24:=by omega
     have h1:=hr.done HN.out.1 HN.out.2
     have h2:=hr.res
     have h3:=hr.size
     go_wp2
     refine I2 A28 rfl _ rfl rfl h2 (D2 _ _) ⟨rfl,hr.below.setCells (Nat.le_refl _) _ _⟩
theorem B3d (n:Nat) (hn:n < 256):(J4 20).set 19 (.int .u8 n)=A3 20 n:=by
 have hz:Byt (List.replicate 19 0++[(n:Int)]):=A73 (A34 19) (fun x hx=>by obtain rfl:=List.mem_singleton.1 hx;omega)
 have e:=A5R _ hz
 rw [A36] at e
 have h1:beN [(n:Int)]=n:=by simp [beN]
 rw [h1] at e
 have h2:(List.replicate 19 (0:Int)++[(n:Int)]).length=20:=by simp
 rw [h2] at e
 unfold A3
 rw [e]
 unfold J4
 rw [List.map_append,List.map_replicate]
 rfl
theorem Y5 (n:Nat) (hn:n < 256) (w:World):Calls Tryz.prog 13 #[.int .i64 n] w fun e w'=>e = .returned (.agg (A3 20 n).toArray)∧Below w.heap.size w w':=by
 have f2:((w.alloc (.cells (J4 20).toArray 23)).alloc (.cells (J4 20).toArray 23)).free? (w.heap.size+1) 19 1=true:=World.free?_alloc_at _ _ (by simp) (by simp)
 have f1:((w.alloc (.cells (J4 20).toArray 23)).alloc (.cells (A3 20 n).toArray 23)).free? w.heap.size 0 20=true:=by rw [World.free?_alloc_lt _ (by simp)];exact World.free?_alloc_at _ _ rfl (by simp)
 have hand:bits .and .i64 (n:Int) 255 % 256=n:=by rw [A3O];omega
 have hw:IntKind.u8.wrap (bits .and .i64 (n:Int) 255)=n:=by rw [A3O,wr8 _ (by omega) (by omega)];omega
 have hok:=D2 20 n
 have hset:=B3d n hn
 have F1:=hid f1
 clear f1
 go_enter Tryz.func13,Tryz.ntmps13
 go_wp2
 exact I2 B7g rfl _ rfl rfl F1.out hok ⟨rfl,(((Below.refl _ _).alloc (Nat.le_refl _) _).alloc (by simp) _).setCells (Nat.le_refl _) _ _⟩
end Go.Proofs.YtfflppedbopdpaaGreat
