/- A part of the proof of EvmLoops: XSt1. -/
import Derived.Test.YtfflppedbopdpaaGreatXTy3
import Derived.Test.YtfflppedbopdpaaGreatXPlain
import Derived.Test.YtfflppedbopdpaaGreatXSeq
set_option linter.unusedVariables false
set_option maxRecDepth 1000000
set_option maxHeartbeats 8000000
set_option linter.unusedSimpArgs false
namespace Go.Proofs.YtfflppedbopdpaaGreat
open Go.RowKit Go.Mun

def TU:UTy:=⟨292,324,326,286,290,298,294⟩
theorem A0Y (w:World):(zeroValue 87).run Tryz.prog w = .ok (.pointer none) w:=by kernel_rfl
theorem A9T (w:World):(zeroValue 25).run Tryz.prog w = .ok (wdV 0) w:=by kernel_rfl

theorem A3w {T:UTy} {w:World} {own:Own} {sb mb:Nat} {uv mv:Value} {last:Nat} {E:List (Nat × Nat)} {U:List Z5} {mk:List (Nat × Nat)} {S:St} (h:O3 T w own sb mb uv mv last E U mk S) (a:Nat) :
  (∃ p,E6 a E=some p∧L6 w own p (S a))∨(E6 a E=none∧S a=Acc.none):=by
 cases hg:E6 a E with
 | none=>exact .inr ⟨rfl,h.out a hg⟩
 | some p=>exact .inl ⟨p,rfl,h.acc (a,p) (K6 hg)⟩

theorem B7t {w:World} {own:Own} {sb:Nat} {S:St} {M:List (Nat × St)} {n:Nat} (h:StateAt TU w own sb S M n) (a:Nat) (ha:a < wA) :
  Calls Tryz.prog 43 #[.pointer (some ⟨sb,0,none⟩),.agg (A3 20 a).toArray] w fun e w' => ∃ p,e = .returned (.pointer (some ⟨p,0,none⟩))∧A57 w' p (S a)∧Below w.heap.size w w'∧∃ cv qv,w'.row? p 0 35=some (Y3 (S a).nonce (S a).bal cv qv)∧Q2 w' own cv (S a).code:=by
 obtain ⟨mb,uv,mv,last,E,U,mk,h1,_⟩:=h
 have HW:Hid (∃ w1,w1=w.alloc (.cells (A3 20 a).toArray 23)∧Below w.heap.size w w1∧O3 TU w1 own sb mb uv mv last E U mk S∧w1.row? w.heap.size 0 20=some (A3 20 a)):=
  ⟨_,rfl,(Below.refl _ _).alloc (Nat.le_refl _) _,h1.only (R:=fun _=>False) ((A2.refl _ _).alloc _) (fun _ h=>h.elim),World.row?_alloc_at _ _ _ rfl (by simp)⟩
 obtain ⟨w1,e1,hb1,s1,r1⟩:=HW.out
 clear HW h1
 obtain ⟨c0,_⟩:=s1.cells
 have d0:w1.drew.cell? ⟨sb,0,none⟩=some (.map (some mb)):=c0
 have d1:w1.drew.row? w.heap.size 0 20=some (A3 20 a):=r1
 have l1:=(s1.map.of_block (w':=w1.drew) rfl).look A1b Tryz.underlying90 (A0Y _) ha
 have HE:=hid e1
 have HB:=hid hb1
 rcases A3w s1 a with ⟨p,hp,hacc⟩ | ⟨hp,hacc⟩
 ·rw [hp] at l1
  have l2:(Instr.lookup 90 (.map (some mb)) (.agg (A3 20 a).toArray) false).run Tryz.prog w1.drew = .ok (.pointer (some ⟨p,0,none⟩)) w1.drew:=l1
  have hacc2:=hacc.only_out (R:=fun _=>False) (A2.refl _ w1).drew (fun _ h=>h.elim)
  have HA:=hid hacc2.r
  have HC:Hid (∃ cv qv,w1.drew.row? p 0 35=some (Y3 (S a).nonce (S a).bal cv qv)∧Q2 w1.drew own cv (S a).code):=by
   obtain ⟨cv,q,sl,h1,h2,_⟩:=hacc2.cells
   exact ⟨cv,_,h1,h2⟩
  clear hacc2
  clear hacc s1 hp l1 hb1 e1 c0 r1
  go_enter Tryz.func43,Tryz.ntmps43
  go_wp2_with fail
  rw [← HE.out]
  refine wp_region_still_lit (by kernel_rfl) (by kernel_rfl) ?_
  change wpStill _ _ (World.drew _) _ _ _
  repeat still_step
  refine wpStill_nil ?_
  go_wp2
  go_ret
  exact ⟨p,rfl,HA.out,HB.out.drew,HC.out⟩
 ·rw [hp] at l1
  have l2:(Instr.lookup 90 (.map (some mb)) (.agg (A3 20 a).toArray) false).run Tryz.prog w1.drew = .ok (.pointer none) w1.drew:=l1
  have HA:Hid (S a=Acc.none):=hacc
  clear hacc s1 hp l1 hb1 e1 c0 r1
  go_enter Tryz.func43,Tryz.ntmps43
  go_wp2_with fail
  rw [← HE.out]
  refine wp_region_still_lit (by kernel_rfl) (by kernel_rfl) ?_
  change wpStill _ _ (World.drew _) _ _ _
  repeat still_step
  refine wpStill_nil ?_
  go_wp2
  go_ret
  exact ⟨w1.heap.size,rfl,by rw [HA.out];exact (B8x w1 86).below (Below.refl _ _).drew,(HB.out.alloc HB.out.size _).drew,.slice none 0 0,.map none,by rw [HA.out];exact World.row?_alloc_at B1e 86 _ rfl (V8 _ _ _ _),by rw [HA.out];exact B0Y _ _⟩

theorem B3M {w:World} {own:Own} {sb:Nat} {S:St} {M:List (Nat × St)} {n:Nat} (h:StateAt TU w own sb S M n) (a:Nat) (ha:a < wA) :
  Calls Tryz.prog 43 #[.pointer (some ⟨sb,0,none⟩),.agg (A3 20 a).toArray] w fun e w' => ∃ p,e = .returned (.pointer (some ⟨p,0,none⟩))∧A57 w' p (S a)∧Below w.heap.size w w':=
 (B7t h a ha).mono fun _ _ ⟨p,h1,h2,h3,_⟩=>⟨p,h1,h2,h3⟩

theorem A0z {w:World} {own:Own} {sb:Nat} {S:St} {M:List (Nat × St)} {n:Nat} (h:StateAt TU w own sb S M n) (a:Nat) (ha:a < wA) :
  Calls Tryz.prog 23 #[.pointer (some ⟨sb,0,none⟩),.agg (A3 20 a).toArray] w fun e w'=>e = .returned (.agg (A3 32 (S a).bal).toArray)∧Below w.heap.size w w':=by
 have H1:=hid (h.below (((Below.refl _ _).alloc (Nat.le_refl _) (.cells (A3 20 a).toArray 23)).alloc (by simp) (.cells (K0 32).toArray 25)))
 have hk:(A3 20 a).length=20:=by simp
 have hok:=C7 32 (S a).bal
 have hf:((w.alloc (.cells (A3 20 a).toArray 23)).alloc (.cells (K0 32).toArray 25)).free? (w.heap.size+1) 0 32=true:=by simp [go_sem]
 have hrk:((w.alloc (.cells (A3 20 a).toArray 23)).alloc (.cells (K0 32).toArray 25)).row? w.heap.size 0 20=some (A3 20 a):=by
  rw [World.row?_alloc_lt _ (by simp)];exact World.row?_alloc_at _ _ _ rfl hk
 clear h
 go_enter Tryz.func23,Tryz.ntmps23
 go_wp2_with fail
 refine (B3M H1.out a ha).mono ?_
 rintro e w1 ⟨p,rfl,hr,hb⟩
 obtain ⟨cv,qv,h1,_,_⟩:=hr.cells
 obtain ⟨_,c1,_⟩:=Y2 h1
 have HB:=hid hb
 have hf1:w1.free? (w.heap.size+1) 0 32=true:=by rw [(D2 hb).2 _ _ _ (by simp)];exact hf
 clear hb h1 hr hf hrk
 go_wp2
 exact F2 A1L rfl _ rfl rfl hf1 hok ⟨rfl,(((Below.refl _ _).alloc (Nat.le_refl _) _).alloc (by simp) _).trans (HB.out.mono (by simp;omega)) |>.setCells (by simp) _ _⟩
theorem B0x (k:Nat) (hk:k < wW) (w:World):(Instr.lookup 84 (.map none) (.agg (A3 32 k).toArray) false).run Tryz.prog w = .ok (.agg (A3 32 0).toArray) w:=by
 obtain ⟨l,hl⟩:=A5L.key k hk
 have:=Maps.look_nil (w:=w) false A5L.keyed Tryz.underlying84 (A9T w) hl
 exact this
theorem A4N {w:World} {own:Own} {sb:Nat} {S:St} {M:List (Nat × St)} {n:Nat} (h:StateAt TU w own sb S M n) (a k:Nat) (ha:a < wA) (hk:k < wW) :
  Calls Tryz.prog 20 #[.pointer (some ⟨sb,0,none⟩),.agg (A3 20 a).toArray,.agg (A3 32 k).toArray] w fun e w'=>e = .returned (.agg (A3 32 ((S a).slots k)).toArray)∧Below w.heap.size w w':=by
 have hl1:(A3 20 a).length=20:=by simp
 have hl2:(A3 32 k).length=32:=by simp
 have HW:Hid (∃ w0,w0=((w.alloc (.cells (A3 20 a).toArray 23)).alloc (.cells (A3 32 k).toArray 25)).alloc (.cells (K0 32).toArray 25)∧Below w.heap.size w w0∧w0.heap.size=w.heap.size+3 ∧
   w0.row? w.heap.size 0 20=some (A3 20 a)∧w0.row? (w.heap.size+1) 0 32=some (A3 32 k)∧w0.free? (w.heap.size+1+1) 0 32=true∧StateAt TU w0 own sb S M n):=by
  have hb:Below w.heap.size w (((w.alloc (.cells (A3 20 a).toArray 23)).alloc (.cells (A3 32 k).toArray 25)).alloc (.cells (K0 32).toArray 25)):=(((Below.refl _ _).alloc (Nat.le_refl _) _).alloc (by simp) _).alloc (by simp;omega) _
  refine ⟨_,rfl,hb,by simp,?_,?_,by simp [go_sem],h.below hb⟩
  ·rw [World.row?_alloc_lt _ (by simp;omega),World.row?_alloc_lt _ (by simp)];exact World.row?_alloc_at _ _ _ rfl hl1
  ·rw [World.row?_alloc_lt _ (by simp)];exact World.row?_alloc_at _ _ _ (by simp) hl2
 obtain ⟨w0,e0,b0,z0,r1,r2,f3,s0⟩:=HW.out
 clear HW h
 have HE:=hid e0
 have HB0:=hid b0
 have HZ:=hid z0
 have HS:=hid (s0.below (Below.refl _ _).drew)
 have hok:=C7 32 ((S a).slots k)
 have g1:w.heap.size < w0.heap.size:=by omega
 have g2:w.heap.size+1 < w0.heap.size:=by omega
 have g3:w.heap.size+1+1 < w0.heap.size:=by omega
 clear e0 b0 z0 s0
 have d1:w0.drew.row? w.heap.size 0 20=some (A3 20 a):=r1
 have d2:w0.drew.row? (w.heap.size+1) 0 32=some (A3 32 k):=r2
 have d3:w0.drew.free? (w.heap.size+1+1) 0 32=true:=f3
 go_enter Tryz.func20,Tryz.ntmps20
 go_wp2_with fail
 rw [← HE.out]
 obtain ⟨T,hT⟩:∃ T:World→Prop,T=fun w'=>w'.row? w.heap.size 0 20=some (A3 20 a)∧w'.row? (w.heap.size+1) 0 32=some (A3 32 k):=⟨_,rfl⟩
 have HT:=hid hT
 have t0:T w0.drew:=by rw [hT];exact ⟨d1,d2⟩
 clear hT
 refine S8 T [1,6] [0,2,3,4,5,7,8] (by kernel_rfl) (by kernel_rfl) t0 ?_
 refine A4 (.agg (A3 20 a).toArray) rfl (by rfl) (fun w' hs=>?_) (fun _ _ _ h=>h) ?_
 ·rw [HT.out] at hs
  obtain ⟨s1,s2⟩:=hs
  go_simp
 refine A4 (.agg (A3 32 k).toArray) rfl (by rfl) (fun w' hs=>?_) (fun _ _ _ h=>h) ?_
 ·rw [HT.out] at hs
  obtain ⟨s1,s2⟩:=hs
  go_simp
 refine P2 ?_
 simp only [Act.put,D6,D5,D4]
 refine C6 rfl (fun K hK=>?_)
 go_simp
 refine hK.out _ _ t0 ?_
 clear hK K
 refine C6 rfl (fun K hK=>?_)
 go_simp
 refine (B3M HS.out a ha).mono ?_
 rintro e w1 ⟨p,rfl,hr,hb⟩
 obtain ⟨cv,qv,h1,_,h4⟩:=hr.cells
 obtain ⟨_,_,_,c34⟩:=Y2 h1
 have t1:T w1:=by rw [HT.out];exact ⟨((D2 hb).1 _ _ _ g1).trans d1,((D2 hb).1 _ _ _ g2).trans d2⟩
 have hf1:w1.free? (w.heap.size+1+1) 0 32=true:=by rw [(D2 hb).2 _ _ _ (by simpa using g3)];exact d3
 have HB1:Hid (Below w.heap.size w w1):=HB0.out.trans ((((Below.refl _ _).drew).trans (hb.mono (by simp))).mono HB0.out.size)
 have hlk:(Instr.lookup 84 qv (.agg (A3 32 k).toArray) false).run Tryz.prog w1 = .ok (.agg (A3 32 ((S a).slots k)).toArray) w1:=by
  rcases h4 with ⟨rfl,h4⟩ | ⟨q,sl,rfl,hm,hs⟩
  ·rw [h4];exact B0x k hk w1
  ·have:=hm.look A5L Tryz.underlying84 (A9T w1) hk
   rw [hs.get]
   cases hg:E6 k sl with
   | none=>rw [hg] at this;exact this
   | some v=>rw [hg] at this;exact this
 clear h1 hr hb h4
 refine hK.out _ _ t1 ?_
 clear hK K
 iterate 4
  refine C6 rfl (fun K hK=>?_)
  go_simp
  refine hK.out _ _ t1 ?_
  clear hK K
 refine C6 rfl (fun K hK=>?_)
 go_simp
 refine hK.out _ _ ?_ (V9 ?_)
 ·rw [HT.out] at t1 ⊢
  exact ⟨(World.row?_setCells_other _ _ _ (by omega)).trans t1.1,(World.row?_setCells_other _ _ _ (by omega)).trans t1.2⟩
 clear hK K
 go_wp2
 exact F2 A1L rfl _ rfl rfl hf1 hok ⟨rfl,HB1.out.setCells (by omega) _ _⟩
end Go.Proofs.YtfflppedbopdpaaGreat
