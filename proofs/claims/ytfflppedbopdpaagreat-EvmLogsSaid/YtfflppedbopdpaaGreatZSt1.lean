/- A part of the proof of EvmLogs: ZSt1. -/
import Derived.Test.YtfflppedbopdpaaGreatZTy3
import Derived.Test.YtfflppedbopdpaaGreatZPlain
import Derived.Test.YtfflppedbopdpaaGreatZSeq
set_option linter.unusedVariables false
set_option maxRecDepth 1000000
set_option maxHeartbeats 8000000
set_option linter.unusedSimpArgs false
namespace Go.Proofs.YtfflppedbopdpaaGreat
open Go.RowKit Go.Mun

def TU:UTy:=⟨292,324,326,286,290,298,294⟩
theorem A0N (w:World):(zeroValue 87).run Tryz.prog w = .ok (.pointer none) w:=by kernel_rfl
theorem B3p (w:World):(zeroValue 25).run Tryz.prog w = .ok (wdV 0) w:=by kernel_rfl

theorem A3l {T:UTy} {w:World} {own:Own} {sb mb:Nat} {uv mv:Value} {last:Nat} {E:List (Nat × Nat)} {U:List Y8} {mk:List (Nat × Nat)} {S:St} (h:O6 T w own sb mb uv mv last E U mk S) (a:Nat) :
  (∃ p,I3 a E=some p∧L5 w own p (S a))∨(I3 a E=none∧S a=Acc.none):=by
 cases hg:I3 a E with
 | none=>exact .inr ⟨rfl,h.out a hg⟩
 | some p=>exact .inl ⟨p,rfl,h.acc (a,p) (L7 hg)⟩

theorem B7s {w:World} {own:Own} {sb:Nat} {S:St} {M:List (Nat × St)} {n:Nat} (h:StateAt TU w own sb S M n) (a:Nat) (ha:a < wA) :
  Calls Tryz.prog 43 #[.pointer (some ⟨sb,0,none⟩),.agg (A3 20 a).toArray] w fun e w' => ∃ p,e = .returned (.pointer (some ⟨p,0,none⟩))∧A53 w' p (S a)∧Below w.heap.size w w'∧∃ cv qv,w'.row? p 0 35=some (X4 (S a).nonce (S a).bal cv qv)∧Q2 w' own cv (S a).code:=by
 obtain ⟨mb,uv,mv,last,E,U,mk,h1,_⟩:=h
 have HW:Hid (∃ w1,w1=w.alloc (.cells (A3 20 a).toArray 23)∧Below w.heap.size w w1∧O6 TU w1 own sb mb uv mv last E U mk S∧w1.row? w.heap.size 0 20=some (A3 20 a)):=
  ⟨_,rfl,(Below.refl _ _).alloc (Nat.le_refl _) _,h1.only (R:=fun _=>False) ((A0.refl _ _).alloc _) (fun _ h=>h.elim),World.row?_alloc_at _ _ _ rfl (by simp)⟩
 obtain ⟨w1,e1,hb1,s1,r1⟩:=HW.out
 clear HW h1
 obtain ⟨c0,_⟩:=s1.cells
 have d0:w1.drew.cell? ⟨sb,0,none⟩=some (.map (some mb)):=c0
 have d1:w1.drew.row? w.heap.size 0 20=some (A3 20 a):=r1
 have l1:=(s1.map.of_block (w':=w1.drew) rfl).look A0Z Tryz.underlying90 (A0N _) ha
 have HE:=hid e1
 have HB:=hid hb1
 rcases A3l s1 a with ⟨p,hp,hacc⟩ | ⟨hp,hacc⟩
 ·rw [hp] at l1
  have l2:(Instr.lookup 90 (.map (some mb)) (.agg (A3 20 a).toArray) false).run Tryz.prog w1.drew = .ok (.pointer (some ⟨p,0,none⟩)) w1.drew:=l1
  have hacc2:=hacc.only_out (R:=fun _=>False) (A0.refl _ w1).drew (fun _ h=>h.elim)
  have HA:=hid hacc2.r
  have HC:Hid (∃ cv qv,w1.drew.row? p 0 35=some (X4 (S a).nonce (S a).bal cv qv)∧Q2 w1.drew own cv (S a).code):=by
   obtain ⟨cv,q,sl,h1,h2,_⟩:=hacc2.cells
   exact ⟨cv,_,h1,h2⟩
  clear hacc2
  clear hacc s1 hp l1 hb1 e1 c0 r1
  go_enter Tryz.func43,Tryz.ntmps43
  go_wp2_with fail
  rw [← HE.out]
  refine wp_region_still_lit (by kernel_rfl) (by kernel_rfl) ?_
  change wpStill _ _ (World.drew _) _ _ _
  repeat still_step
  refine wpStill_nil ?_
  go_wp2
  go_ret
  exact ⟨p,rfl,HA.out,HB.out.drew,HC.out⟩
 ·rw [hp] at l1
  have l2:(Instr.lookup 90 (.map (some mb)) (.agg (A3 20 a).toArray) false).run Tryz.prog w1.drew = .ok (.pointer none) w1.drew:=l1
  have HA:Hid (S a=Acc.none):=hacc
  clear hacc s1 hp l1 hb1 e1 c0 r1
  go_enter Tryz.func43,Tryz.ntmps43
  go_wp2_with fail
  rw [← HE.out]
  refine wp_region_still_lit (by kernel_rfl) (by kernel_rfl) ?_
  change wpStill _ _ (World.drew _) _ _ _
  repeat still_step
  refine wpStill_nil ?_
  go_wp2
  go_ret
  exact ⟨w1.heap.size,rfl,by rw [HA.out];exact (B8D w1 86).below (Below.refl _ _).drew,(HB.out.alloc HB.out.size _).drew,.slice none 0 0,.map none,by rw [HA.out];exact World.row?_alloc_at B0P 86 _ rfl (V2 _ _ _ _),by rw [HA.out];exact B0E _ _⟩

theorem B3I {w:World} {own:Own} {sb:Nat} {S:St} {M:List (Nat × St)} {n:Nat} (h:StateAt TU w own sb S M n) (a:Nat) (ha:a < wA) :
  Calls Tryz.prog 43 #[.pointer (some ⟨sb,0,none⟩),.agg (A3 20 a).toArray] w fun e w' => ∃ p,e = .returned (.pointer (some ⟨p,0,none⟩))∧A53 w' p (S a)∧Below w.heap.size w w':=
 (B7s h a ha).mono fun _ _ ⟨p,h1,h2,h3,_⟩=>⟨p,h1,h2,h3⟩

theorem A0v {w:World} {own:Own} {sb:Nat} {S:St} {M:List (Nat × St)} {n:Nat} (h:StateAt TU w own sb S M n) (a:Nat) (ha:a < wA) :
  Calls Tryz.prog 23 #[.pointer (some ⟨sb,0,none⟩),.agg (A3 20 a).toArray] w fun e w'=>e = .returned (.agg (A3 32 (S a).bal).toArray)∧Below w.heap.size w w':=by
 have H1:=hid (h.below (((Below.refl _ _).alloc (Nat.le_refl _) (.cells (A3 20 a).toArray 23)).alloc (by simp) (.cells (J4 32).toArray 25)))
 have hk:(A3 20 a).length=20:=by simp
 have hok:=D2 32 (S a).bal
 have hf:((w.alloc (.cells (A3 20 a).toArray 23)).alloc (.cells (J4 32).toArray 25)).free? (w.heap.size+1) 0 32=true:=by simp [go_sem]
 have hrk:((w.alloc (.cells (A3 20 a).toArray 23)).alloc (.cells (J4 32).toArray 25)).row? w.heap.size 0 20=some (A3 20 a):=by
  rw [World.row?_alloc_lt _ (by simp)];exact World.row?_alloc_at _ _ _ rfl hk
 clear h
 go_enter Tryz.func23,Tryz.ntmps23
 go_wp2_with fail
 refine (B3I H1.out a ha).mono ?_
 rintro e w1 ⟨p,rfl,hr,hb⟩
 obtain ⟨cv,qv,h1,_,_⟩:=hr.cells
 obtain ⟨_,c1,_⟩:=X3 h1
 have HB:=hid hb
 have hf1:w1.free? (w.heap.size+1) 0 32=true:=by rw [(C7 hb).2 _ _ _ (by simp)];exact hf
 clear hb h1 hr hf hrk
 go_wp2
 exact I2 A28 rfl _ rfl rfl hf1 hok ⟨rfl,(((Below.refl _ _).alloc (Nat.le_refl _) _).alloc (by simp) _).trans (HB.out.mono (by simp;omega)) |>.setCells (by simp) _ _⟩
theorem B0d (k:Nat) (hk:k < wW) (w:World):(Instr.lookup 84 (.map none) (.agg (A3 32 k).toArray) false).run Tryz.prog w = .ok (.agg (A3 32 0).toArray) w:=by
 obtain ⟨l,hl⟩:=A6i.key k hk
 have:=Maps.look_nil (w:=w) false A6i.keyed Tryz.underlying84 (B3p w) hl
 exact this
theorem A7p {w:World} {own:Own} {sb:Nat} {S:St} {M:List (Nat × St)} {n:Nat} (h:StateAt TU w own sb S M n) (a k:Nat) (ha:a < wA) (hk:k < wW) :
  Calls Tryz.prog 20 #[.pointer (some ⟨sb,0,none⟩),.agg (A3 20 a).toArray,.agg (A3 32 k).toArray] w fun e w'=>e = .returned (.agg (A3 32 ((S a).slots k)).toArray)∧Below w.heap.size w w':=by
 have hl1:(A3 20 a).length=20:=by simp
 have hl2:(A3 32 k).length=32:=by simp
 have HW:Hid (∃ w0,w0=((w.alloc (.cells (A3 20 a).toArray 23)).alloc (.cells (A3 32 k).toArray 25)).alloc (.cells (J4 32).toArray 25)∧Below w.heap.size w w0∧w0.heap.size=w.heap.size+3 ∧
   w0.row? w.heap.size 0 20=some (A3 20 a)∧w0.row? (w.heap.size+1) 0 32=some (A3 32 k)∧w0.free? (w.heap.size+1+1) 0 32=true∧StateAt TU w0 own sb S M n):=by
  have hb:Below w.heap.size w (((w.alloc (.cells (A3 20 a).toArray 23)).alloc (.cells (A3 32 k).toArray 25)).alloc (.cells (J4 32).toArray 25)):=(((Below.refl _ _).alloc (Nat.le_refl _) _).alloc (by simp) _).alloc (by simp;omega) _
  refine ⟨_,rfl,hb,by simp,?_,?_,by simp [go_sem],h.below hb⟩
  ·rw [World.row?_alloc_lt _ (by simp;omega),World.row?_alloc_lt _ (by simp)];exact World.row?_alloc_at _ _ _ rfl hl1
  ·rw [World.row?_alloc_lt _ (by simp)];exact World.row?_alloc_at _ _ _ (by simp) hl2
 obtain ⟨w0,e0,b0,z0,r1,r2,f3,s0⟩:=HW.out
 clear HW h
 have HE:=hid e0
 have HB0:=hid b0
 have HZ:=hid z0
 have HS:=hid (s0.below (Below.refl _ _).drew)
 have hok:=D2 32 ((S a).slots k)
 have g1:w.heap.size < w0.heap.size:=by omega
 have g2:w.heap.size+1 < w0.heap.size:=by omega
 have g3:w.heap.size+1+1 < w0.heap.size:=by omega
 clear e0 b0 z0 s0
 have d1:w0.drew.row? w.heap.size 0 20=some (A3 20 a):=r1
 have d2:w0.drew.row? (w.heap.size+1) 0 32=some (A3 32 k):=r2
 have d3:w0.drew.free? (w.heap.size+1+1) 0 32=true:=f3
 go_enter Tryz.func20,Tryz.ntmps20
 go_wp2_with fail
 rw [← HE.out]
 obtain ⟨T,hT⟩:∃ T:World→Prop,T=fun w'=>w'.row? w.heap.size 0 20=some (A3 20 a)∧w'.row? (w.heap.size+1) 0 32=some (A3 32 k):=⟨_,rfl⟩
 have HT:=hid hT
 have t0:T w0.drew:=by rw [hT];exact ⟨d1,d2⟩
 clear hT
 refine S8 T [1,6] [0,2,3,4,5,7,8] (by kernel_rfl) (by kernel_rfl) t0 ?_
 refine A6 (.agg (A3 20 a).toArray) rfl (by rfl) (fun w' hs=>?_) (fun _ _ _ h=>h) ?_
 ·rw [HT.out] at hs
  obtain ⟨s1,s2⟩:=hs
  go_simp
 refine A6 (.agg (A3 32 k).toArray) rfl (by rfl) (fun w' hs=>?_) (fun _ _ _ h=>h) ?_
 ·rw [HT.out] at hs
  obtain ⟨s1,s2⟩:=hs
  go_simp
 refine P5 ?_
 simp only [Act.put,D7,D6,D5]
 refine C5 rfl (fun K hK=>?_)
 go_simp
 refine hK.out _ _ t0 ?_
 clear hK K
 refine C5 rfl (fun K hK=>?_)
 go_simp
 refine (B3I HS.out a ha).mono ?_
 rintro e w1 ⟨p,rfl,hr,hb⟩
 obtain ⟨cv,qv,h1,_,h4⟩:=hr.cells
 obtain ⟨_,_,_,c34⟩:=X3 h1
 have t1:T w1:=by rw [HT.out];exact ⟨((C7 hb).1 _ _ _ g1).trans d1,((C7 hb).1 _ _ _ g2).trans d2⟩
 have hf1:w1.free? (w.heap.size+1+1) 0 32=true:=by rw [(C7 hb).2 _ _ _ (by simpa using g3)];exact d3
 have HB1:Hid (Below w.heap.size w w1):=HB0.out.trans ((((Below.refl _ _).drew).trans (hb.mono (by simp))).mono HB0.out.size)
 have hlk:(Instr.lookup 84 qv (.agg (A3 32 k).toArray) false).run Tryz.prog w1 = .ok (.agg (A3 32 ((S a).slots k)).toArray) w1:=by
  rcases h4 with ⟨rfl,h4⟩ | ⟨q,sl,rfl,hm,hs⟩
  ·rw [h4];exact B0d k hk w1
  ·have:=hm.look A6i Tryz.underlying84 (B3p w1) hk
   rw [hs.get]
   cases hg:I3 k sl with
   | none=>rw [hg] at this;exact this
   | some v=>rw [hg] at this;exact this
 clear h1 hr hb h4
 refine hK.out _ _ t1 ?_
 clear hK K
 iterate 4
  refine C5 rfl (fun K hK=>?_)
  go_simp
  refine hK.out _ _ t1 ?_
  clear hK K
 refine C5 rfl (fun K hK=>?_)
 go_simp
 refine hK.out _ _ ?_ (V4 ?_)
 ·rw [HT.out] at t1 ⊢
  exact ⟨(World.row?_setCells_other _ _ _ (by omega)).trans t1.1,(World.row?_setCells_other _ _ _ (by omega)).trans t1.2⟩
 clear hK K
 go_wp2
 exact I2 A28 rfl _ rfl rfl hf1 hok ⟨rfl,HB1.out.setCells (by omega) _ _⟩
end Go.Proofs.YtfflppedbopdpaaGreat
