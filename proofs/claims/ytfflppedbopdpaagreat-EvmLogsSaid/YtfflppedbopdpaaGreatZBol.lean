/- A part of the proof of EvmLogs: ZBol. -/
import Derived.Test.YtfflppedbopdpaaGreatZRf9
import Derived.Test.YtfflppedbopdpaaGreatZLg2
import Derived.Test.YtfflppedbopdpaaGreatZNd1
import Derived.Test.YtfflppedbopdpaaGreatZWrd4
import Derived.Test.YtfflppedbopdpaaGreatZMm3
import Derived.Test.YtfflppedbopdpaaGreatZRs8
import Derived.Test.YtfflppedbopdpaaGreatZWrdP
import Derived.Test.YtfflppedbopdpaaGreatZTy4
set_option linter.unusedVariables false
set_option maxRecDepth 1000000
set_option maxHeartbeats 8000000
set_option linter.unusedSimpArgs false
namespace Go.Proofs.YtfflppedbopdpaaGreat
open Go.RowKit Go.Mun

def A4E (g x:Int) (ad:Nat) (oa:Option Addr) (k oc:Nat) (la:Option Addr) (n lc:Nat):List Value:=B8 (F3 ⟨g,x,[],[],ad⟩ (.slice oa k oc) (.slice la n lc))
def B0R (m:Msg) (dv:Value) (cx:Ctx) (S:St) (g x:Int) (ad:Nat) (d:J1) (L:List Lg) (S':St):Prop:=
 ∀ (w:World) (own:Go.Mun.Own) (sb:Nat),StateAt TU w own sb S [] 0→J3 w (fun b=>own b≠none) dv m.data →
  Calls Tryz.prog 26 #[.pointer (some ⟨sb,0,none⟩),.agg (B8 (I0 m dv)).toArray,.agg (B8 (A1o cx)).toArray] w fun e w' => ∃ oa oc la lc own' n',e = .returned (.agg (A4E g x ad oa d.length oc la L.length lc).toArray) ∧
   U4 w' own' w.heap.size (.slice oa d.length oc) (.slice la L.length lc) ⟨g,x,d,L,ad⟩∧StateAt TU w' own' sb S' [] n'∧T6 w w' own own'∧n'≤3000000
def B0Q (m:Msg) (dv:Value) (cx:Ctx) (S:St) (g x:Int) (ad:Nat) (d:J1) (L:List Lg) (S':St):Prop:=
 ∀ (w:World) (own:Go.Mun.Own) (sb n:Nat),n≤1000→RState w own sb S [] n→J3 w (hot own) dv m.data →
  Calls Tryz.prog 38 #[.pointer (some ⟨sb,0,none⟩),.agg (B8 (I0 m dv)).toArray,.agg (B8 (A1o cx)).toArray] w fun e w' => ∃ oa oc la lc own' M' n',e = .returned (.agg (A4E g x ad oa d.length oc la L.length lc).toArray) ∧
   G9 w' .u8 oa oc d∧A0M w' (fun _=>False) (.slice la L.length lc) L∧RState w' own' sb S' M' n'∧K8 w w' own own'∧n'≤999000
def A52 (w:World) (g x:Int) (ad:Nat) (d:J1) (L:List Lg) (S':St) (e:Ending) (w':World):Prop:=
 ∃ oa oc la lc sb own' n',e = .returned (.tuple #[.agg (A4E g x ad oa d.length oc la L.length lc).toArray,.pointer (some ⟨sb,0,none⟩),.bool true])∧Below w.heap.size w w'∧StateAt TU w' own' sb S' [] n'∧(∀ b,own' b≠none→w.heap.size≤b)∧A0M w' (fun _=>False) (.slice la L.length lc) L
theorem A6Y {w:World} {b c:Nat} {l:List Ac} {m:Msg} {dv:Value} {g x:Int} {ad:Nat} {d:J1} {L:List Lg} {S':St} (hLn:L.length≤1000000) (hLt:∀ g∈L,g.topics.length≤1000000∧g.data.length≤1099511627776) (hl:l.length≤100) (hac:∀ i (hi:i < l.length),A6t w b (0+i*55) l[i]) (hnn:∀ x∈l,0≤x.nonce)
  (hd:J3 w (fun _=>False) dv m.data) (had:ad < wA) (hP:B0R m dv ⟨0,0,0,0,0⟩ (A1m l) g x ad d L S') (hR:B0Q m dv ⟨0,0,0,0,0⟩ (A1m l) g x ad d L S') (hz:∀ a k,(S' a).slots k=0) :
  Calls Tryz.prog 15 #[.slice (some ⟨b,0,none⟩) l.length c,.agg (B8 (I0 m dv)).toArray] w (A52 w g x ad d L S'):=by
 have hml:=N4 m dv
 obtain ⟨w0,e0⟩:∃ w0,w0=(w.alloc (.cells (B8 (I0 m dv)).toArray 37)).alloc (.cells (B8 L3).toArray 41):=⟨_,rfl⟩
 have hb0:Below w.heap.size w w0:=by rw [e0];exact ((Below.refl _ _).alloc (Nat.le_refl _) _).alloc (by simp) _
 have r0:w0.row? w.heap.size 0 129=some (B8 (I0 m dv)):=by rw [e0,World.row?_alloc_lt _ (by simp)];exact World.row?_alloc_at _ _ _ rfl hml
 have f0:w0.free? (w.heap.size+1) 0 24=true:=by rw [e0];exact World.free?_alloc_at _ _ (by simp) (by rw [K1];omega)
 have HN:=hid (A6D b 0 c l (by omega) w0 (fun i hi=>(hac i hi).below hb0))
 have HNR:=hid (fun (W:World) (hW:Below w.heap.size w W)=>B9m b 0 c l hl W (fun i hi=>(hac i hi).below hW) hnn)
 have HE:=hid e0
 have HB0:=hid hb0
 have HR0:=hid r0
 have HF0:=hid f0
 have HD:=hid hd
 have HP:=hid hP
 have HR:=hid hR
 have HZ:=hid hz
 have HS0:Hid (w.heap.size+1 < w0.heap.size):=C1 f0
 have HLL:=hid hl
 have HLG:=hid (And.intro hLn hLt)
 clear hac hnn hd hP hR hz e0 hb0 r0 f0 hl hLn hLt
 go_enter Tryz.func15,Tryz.ntmps15
 go_wp2_with fail
 rw [← HE.out]
 refine HN.out.mono ?_
 rintro e w1 ⟨sb,rfl,hb1,own,hst,hlo⟩
 have HST:=hid hst
 have HLO:=hid hlo
 have HB1:Hid (Below w.heap.size w w1):=HB0.out.trans (hb1.mono HB0.out.size)
 have HB01:=hid hb1
 clear hb1 hst hlo HN
 go_wp2_with fail
 refine (HNR.out _ HB1.out).mono ?_
 rintro e w2 ⟨sr,own2,rfl,hnw⟩
 have HNW:=hid hnw
 have HB2:Hid (Below w.heap.size w w2):=HB1.out.trans (hnw.below.mono HB1.out.size)
 have HB02:Hid (Below w0.heap.size w0 w2):=HB01.out.trans (hnw.below.mono HB01.out.size)
 have HST2:=hid (HST.out.below hnw.below)
 have HLW:=hid HST.out.lows
 have r2:w2.row? w.heap.size 0 129=some (B8 (I0 m dv)):=((C7 HB02.out).1 _ _ _ (World.row?_lt HR0.out)).trans HR0.out
 have HR2:=hid r2
 have HD2:Hid (J3 w2 (fun b=>w.heap.size≤b) dv m.data):=HD.out.only (R:=fun _=>False) (A0.of_below_size HB2.out) (fun _ h=>h.elim) (fun b hb hx=>by omega)
 have hcx:A1o ⟨0,0,0,0,0⟩=A7i:=rfl
 have HRP:=hid (HP.out w2 own sb HST2.out (HD2.out.weak fun b _ hx=>by have:=HLO.out b hx;have:=HS0.out;omega))
 rw [hcx] at HRP
 clear hnw HNR
 go_wp2_with fail
 refine HRP.out.mono ?_
 rintro e w3 ⟨oa,oc,la,lc,own3,n3,rfl,hoa3,st3,g3,hn3⟩
 have hro3:=hoa3.out
 have hlr3:A0M w3 (fun b=>own3 b≠none∨b < w2.heap.size) (.slice la L.length lc) L:=by
  obtain ⟨cs,k1,k2⟩:=hoa3.logs
  exact A0M.of k1 k2 (fun b hb hx=>by have:=hoa3.lown b hb;rcases hx with hx | hx;exact hx this.1;omega)
 obtain ⟨X,hX⟩:∃ X,X=A4E g x ad oa d.length oc la L.length lc:=⟨_,rfl⟩
 rw [← hX]
 have hXl:X.length=24:=by rw [hX];exact O7 _ _ _
 have hXk:Q3 24 X=true:=by rw [hX];exact N7 _ _ _ _ _ _ _
 obtain ⟨x1,x2,x3⟩:=B6H w3 X hXk
 obtain ⟨w4,e4⟩:∃ w4,w4=(w3.alloc (.cells (B8 L3).toArray 41)).setCells w3.heap.size 0 X:=⟨_,rfl⟩
 rw [← e4] at x1 x2
 have hkeep:∀ b,b < w0.heap.size→¬ own b≠none:=fun b hb hx=>by have:=HLO.out b hx;omega
 have r3:w3.row? w.heap.size 0 129=some (B8 (I0 m dv)):=(g3.only.row? (World.row?_lt HR2.out) (hkeep _ (by have:=HS0.out;omega))).trans HR2.out
 have r4:w4.row? w.heap.size 0 129=some (B8 (I0 m dv)):=((C7 x1).1 _ _ _ (World.row?_lt r3)).trans r3
 have HF2:Hid (w2.free? (w.heap.size+1) 0 24=true):=((C7 HB02.out).2 _ _ _ (C1 HF0.out)).trans HF0.out
 have HF4:Hid (w4.free? (w.heap.size+1) 0 24=true):=by
  have f3:w3.free? (w.heap.size+1) 0 24=true:=(g3.only.free? (C1 HF2.out) (hkeep _ HS0.out)).trans HF2.out
  exact ((C7 x1).2 _ _ _ (C1 f3)).trans f3
 have HST4:=hid (st3.below x1)
 have HGE3:Hid (∀ b,own3 b≠none→w.heap.size≤b):=by
  intro b hb
  by_cases hlt:b < w2.heap.size
  ·rw [g3.ext b hlt] at hb;have:=HLO.out b hb;have:=HS0.out;omega
  ·have:=HB2.out.size;omega
 have HO3:Hid (own3 (w.heap.size+1)=none):=by
  show own3 (w.heap.size+1)=none
  rw [g3.ext _ (C1 HF2.out)]
  exact Classical.not_not.1 (hkeep _ HS0.out)
 -- the two states lie apart
 have hap:∀ b,own2 b≠none→own b=none:=fun b hb=>by
  have h1:=HNW.out.ge b hb
  have:¬ own b≠none:=fun h=>by have:=HLW.out b h;omega
  exact Classical.not_not.1 this
 have hap2:∀ b,own b≠none→own2 b=none:=fun b hb=>by
  have:¬ own2 b≠none:=fun h=>hb (hap b h)
  exact Classical.not_not.1 this
 have HAP3:Hid (∀ b,own2 b≠none→own3 b=none):=fun b hb=>by rw [g3.ext b (HNW.out.st.lows b hb)];exact hap b hb
 have HRS4:Hid (RState w4 own2 sr (A1m l) [] (8*l.length)):=(HNW.out.st.only g3.only hap2).below x1
 have HD4:Hid (J3 w4 (fun b=>w.heap.size≤b) dv m.data):=(HD2.out.only g3.only (fun b hb=>by have:=HLO.out b hb;have:=HS0.out;show w.heap.size≤b;omega) (fun _ _ h=>h)).below x1
 have HLR4:Hid (A0M w4 (fun b=>own3 b≠none∨b < w2.heap.size) (.slice la L.length lc) L):=hlr3.below x1
 have HRO4:Hid (J3 w4 (fun b=>own3 b≠none∨b < w2.heap.size) (.slice oa d.length oc) d):=hro3.below x1
 have HB3:Hid (Below w.heap.size w w3):=HB2.out.trans (g3.only.below HB2.out.size (fun i hi=>by have:=HLO.out i hi;have:=HS0.out;omega))
 have HB4:Hid (Below w.heap.size w w4):=HB3.out.trans (x1.mono HB3.out.size)
 obtain ⟨B9,hB9⟩:∃ B9,B9=w3.heap.size:=⟨_,rfl⟩
 have HX4:Hid (w4.row? B9 0 24=some X):=by rw [hB9];exact x2
 have HB23:Hid (w2.heap.size≤B9):=by rw [hB9];exact g3.only.size
 have HE4:=hid e4
 have HBN:=hid hB9
 have HXX:=hid hX
 have HRR:=hid (HR.out w4 own2 sr _ (by have:=HLL.out;omega) HRS4.out (HD4.out.weak fun b _ hx=>by have h1:=HNW.out.ge b hx.1;have:=HB1.out.size;show w.heap.size≤b;omega))
 rw [hcx] at HRR
 have q4:=r4
 rw [e4] at q4
 clear r2 hro3 hlr3 hoa3 st3 g3 hX x1 x2 e4 hkeep r3 r4 hap hap2 hB9 HRP
 have HN3:=hid hn3
 clear hn3
 go_wp2_with fail
 rw [← HE4.out]
 rw [← HBN.out]
 refine HRR.out.mono ?_
 rintro e w5 ⟨oa2,oc2,la2,lc2,own5,M5,n5,rfl,hi5,hl5,st5,g5,hn5⟩
 obtain ⟨Y,hY⟩:∃ Y,Y=A4E g x ad oa2 d.length oc2 la2 L.length lc2:=⟨_,rfl⟩
 rw [← hY]
 have hYl:Y.length=24:=by rw [hY];exact O7 _ _ _
 have hYk:Q3 24 Y=true:=by rw [hY];exact N7 _ _ _ _ _ _ _
 obtain ⟨y1,y2,y3⟩:=B6H w5 Y hYk
 obtain ⟨w6,e6⟩:∃ w6,w6=(w5.alloc (.cells (B8 L3).toArray 41)).setCells w5.heap.size 0 Y:=⟨_,rfl⟩
 rw [← e6] at y1 y2
 have hk2:∀ b,(b < w1.heap.size∨w2.heap.size≤b)→¬ hot own2 b:=fun b hb hx=>by
  have h1:=HNW.out.ge b hx.1
  have h2:=HNW.out.st.lows b hx.1
  omega
 have hs12:w0.heap.size≤w1.heap.size:=HB01.out.size
 have HX6:Hid (w6.row? B9 0 24=some X):=by
  have h1:w5.row? B9 0 24=some X:=(g5.only.row? (World.row?_lt HX4.out) (hk2 _ (.inr HB23.out))).trans HX4.out
  exact ((C7 y1).1 _ _ _ (World.row?_lt h1)).trans h1
 have HF6:Hid (w6.free? (w.heap.size+1) 0 24=true):=by
  have h1:w5.free? (w.heap.size+1) 0 24=true:=(g5.only.free? (C1 HF4.out) (hk2 _ (.inl (by have:=HS0.out;omega)))).trans HF4.out
  exact ((C7 y1).2 _ _ _ (C1 h1)).trans h1
 have HST6:Hid (StateAt TU w6 own3 sb S' [] n3):=(HST4.out.only g5.only (fun b hb=>HAP3.out b hb.1)).below y1
 have HRS6:=hid (st5.below y1)
 have HI6:=hid (hi5.below y1)
 have HLR6:=hid (hl5.below y1)
 have HB2S:Hid (w.heap.size+1 < w2.heap.size):=C1 HF2.out
 have HLP6:Hid (A0M w6 (fun b=>b=w.heap.size+1) (.slice la L.length lc) L):=(HLR4.out.only (R:=hot own2) (X':=fun b=>b=w.heap.size+1) g5.only (fun b hb => .inr (HNW.out.st.lows b hb.1)) (fun b _ h => .inr (by rw [h];exact HB2S.out))).below y1
 have HIP6:Hid (G9 w6 .u8 oa oc d):=by
  have h1:=HRO4.out.only (X':=fun _=>False) (R:=hot own2) g5.only (fun b hb => .inr (HNW.out.st.lows b hb.1)) (fun _ _ h=>h.elim)
  obtain ⟨⟨a',c',e',i',_⟩,_,_⟩:=h1.below y1
  cases e'
  exact i'
 have HB5:Hid (Below w.heap.size w w5):=HB4.out.trans (g5.only.below HB4.out.size (fun i hi=>by have h1:=HNW.out.ge i hi.1;have:=HS0.out;omega))
 have HB6:Hid (Below w.heap.size w w6):=HB5.out.trans (y1.mono HB5.out.size)
 obtain ⟨B10,hB10⟩:∃ B10,B10=w5.heap.size:=⟨_,rfl⟩
 have HY6:Hid (w6.row? B10 0 24=some Y):=by rw [hB10];exact y2
 have HE6:=hid e6
 have HBN2:=hid hB10
 have HYY:=hid hY
 have HN5:=hid hn5
 obtain ⟨B4,hB4⟩:∃ B4,B4=w.heap.size+1:=⟨_,rfl⟩
 have HB4E:=hid hB4
 rw [← hB4] at HF6 HLP6
 obtain ⟨T,hT⟩:∃ T:World→Prop,T=fun W=>A0 (fun b=>b=B4) w6 W∧W.free? B4 0 24=true:=⟨_,rfl⟩
 have HT:=hid hT
 have HTB:Hid (∀ w2 w3,T w2→Below w2.heap.size w2 w3→T w3):=by
  show ∀ w2 w3,T w2→Below w2.heap.size w2 w3→T w3
  rw [hT]
  intro w2 w3 h hb
  exact ⟨h.1.trans (T:=fun _=>False) (A0.of_below_size hb) (fun _ h _=>h.elim),((C7 hb).2 _ _ _ (C1 h.2)).trans h.2⟩
 have HTZ:Hid (∀ w2,T w2→T (w2.setCells B4 0 X)):=by
  show ∀ w2,T w2→T (w2.setCells B4 0 X)
  rw [hT]
  intro w2 h
  exact ⟨A0.setCells h.1 (fun _=>rfl) _ _,by rw [World.free?_setCells'];exact h.2⟩
 have HTG:Hid (∀ w2,T w2→A0 (fun b=>b=B4) w6 w2):=by show ∀ w2,T w2→_;rw [hT];intro w2 h;exact h.1
 have HFR:Hid (∀ w2,T w2→w2.free? B4 0 24=true):=by show ∀ w2,T w2→_;rw [hT];intro w2 h;exact h.2
 have hb94:B4 < B9:=by have h1:=HB23.out;have h2:=C1 HF2.out;omega
 have hb104:B4 < B10:=by have h1:=World.row?_lt HX4.out;have h2:=g5.only.size;omega
 have HRW:Hid (∀ W,T W→W.row? B9 0 24=some X∧W.row? B10 0 24=some Y):=fun W hW=>⟨((HTG.out _ hW).row? (World.row?_lt HX6.out) (by omega)).trans HX6.out,((HTG.out _ hW).row? (World.row?_lt HY6.out) (by omega)).trans HY6.out⟩
 have HO3b:Hid (own3 B4=none):=by rw [hB4];exact HO3.out
 have HO5:Hid (own5 B4=none):=by
  show own5 B4=none
  rw [g5.ext _ (by rw [hB4];exact C1 HF4.out)]
  have:¬ own2 B4≠none:=fun hx=>by have h1:=HNW.out.ge _ hx;have:=HS0.out;omega
  exact Classical.not_not.1 this
 have HSTW:Hid (∀ W,T W→StateAt TU W own3 sb S' [] n3):=fun W hW=>HST6.out.only (HTG.out _ hW) (fun b hb=>by rw [hb];exact HO3b.out)
 have HRSW:Hid (∀ W,T W→RState W own5 sr S' M5 n5):=fun W hW=>HRS6.out.only (HTG.out _ hW) (fun b hb=>by have e:b=B4:=hb;rw [e];exact HO5.out)
 have HBW:Hid (∀ W,T W→Below w.heap.size w W):=fun W hW=>HB6.out.trans ((HTG.out _ hW).below HB6.out.size (fun i hi=>by have e:i=B4:=hi;omega))
 have t0:T w6.drew:=HTB.out w6 _ (by rw [hT];exact ⟨A0.refl _ _,HF6.out⟩) (Below.refl _ _).drew
 clear hb94 hb104 hB4
 clear hi5 hl5 st5 g5 hn5 hY y1 y2 e6 hk2 hs12 hB10 hT q4 x3 HRR
 go_wp2_with fail
 rw [← HE6.out]
 rw [← HBN2.out]
 rw [← HB4E.out]
 refine A7 T [] (.take 0 (.pure 1 (.take 2 (.take 3 (.alt 4 (.pure 5 (.pure 6 (.pure 8 (.alt 7 (.alt 9 (.alt 10 (.pure 11 (.alt 12 (.pure 13 (.pure 14 .fin)) .stop)) .stop) .stop) .stop)))) .stop))))) (by kernel_rfl) (by kernel_rfl) ?_
 iterate 4
  first
  |refine A9 ?_ t0 rfl (by rfl) (fun w' hs=>?_) (fun _ _ _ h=>h) ?_
   rotate_left
   ·rw [HT.out] at hs
    obtain ⟨g9,g10⟩:=HRW.out w' (by rw [HT.out];exact hs)
    go_simp
    try rfl
   simp only [Act.put,D7,D6,D5]
  |refine A2 ?_ rfl (by rfl) (fun w' hs=>?_) (fun _ _ _ h=>h) ?_
   rotate_left
   ·clear hs
    go_simp
    try rfl
   simp only [Act.put,D7,D6,D5]
 refine A5 rfl (fun K hK=>?_)
 go_simp
 have HSO:=A6d (w:=w6.drew) g x d ad L HLG.out.1 HLG.out.2 oa oa2 la la2 oc oc2 lc lc2 had (HIP6.out.below (Below.refl _ _).drew) (HI6.out.below (Below.refl _ _).drew) (HLP6.out.below (Below.refl _ _).drew) (HLR6.out.below (Below.refl _ _).drew)
 change Calls Tryz.prog 39 #[.agg (A4E g x ad oa d.length oc la L.length lc).toArray,.agg (A4E g x ad oa2 d.length oc2 la2 L.length lc2).toArray] _ _ at HSO
 rw [← HXX.out,← HYY.out] at HSO
 refine HSO.mono ?_
 rintro e w91 ⟨rfl,hb91⟩
 have t1:T w91:=HTB.out _ _ t0 hb91
 clear hb91
 refine hK.out _ _ t1 ?_
 clear hK K
 iterate 3
  refine A2 ?_ rfl (by rfl) (fun w' hs=>?_) (fun _ _ _ h=>h) ?_
  rotate_left
  ·clear hs
   go_simp
   try rfl
  simp only [Act.put,D7,D6,D5]
 refine A5 rfl (fun K hK=>?_)
 go_simp
 refine (A8u (HSTW.out _ t1) HN3.out HZ.out).mono ?_
 rintro e w92 ⟨v1,cs1,rfl,hA1,hL1,hC1⟩
 have t2:T w92:=HTB.out _ _ t1 hA1.below
 have HA1:=hid hA1
 have HL1:=hid hL1
 have HC1:=hid hC1
 clear hA1 hL1 hC1
 refine hK.out _ _ t2 ?_
 clear hK K
 refine A5 rfl (fun K hK=>?_)
 go_simp
 refine (A97 (HRSW.out _ t2) (by have:=HN5.out;omega)).mono ?_
 rintro e w93 ⟨v2,ds2,rfl,hA2,hL2⟩
 have t3:T w93:=HTB.out _ _ t2 hA2.below
 have HA2:=hid hA2
 have HL2:=hid hL2
 clear hA2 hL2
 refine hK.out _ _ t3 ?_
 clear hK K
 refine A5 rfl (fun K hK=>?_)
 go_simp
 have hds:I1 ds2=(cs1.map Prod.fst).map fun a=>⟨A6q a (S' a),[]⟩:=B48 HL2.out HL1.out HZ.out
 obtain ⟨hro,hez⟩:=B3l (HA1.out.next HA2.out.below)
 have hsl:∀ p∈ds2,p.1.slots = []:=by
   intro p hp
   have h1:p.1∈I1 ds2:=List.mem_map.2 ⟨p,hp,rfl⟩
   rw [hds] at h1
   obtain ⟨a,_,ha⟩:=List.mem_map.1 h1
   rw [← ha]
 refine (A9T hro HA2.out.own hez (B4J HA2.out hsl) (by rw [hds,B0N]) (by rw [List.length_map];exact HC1.out)).mono ?_
 rintro e w94 ⟨rfl,hb94⟩
 have t4:T w94:=HTB.out _ _ t3 hb94
 have tf:=HFR.out _ t4
 clear hb94 hds hro hez hsl
 refine hK.out _ _ t4 ?_
 clear hK K
 refine A2 ?_ rfl (by rfl) (fun w' hs=>?_) (fun _ _ _ h=>h) ?_
 rotate_left
 ·clear hs
  go_simp
  try rfl
 simp only [Act.put,D7,D6,D5]
 refine A5 rfl (fun K hK=>?_)
 go_simp
 have t5:T (w94.setCells B4 0 X):=HTZ.out _ t4
 refine hK.out _ _ t5 ?_
 clear hK K
 iterate 2
  refine A2 ?_ rfl (by rfl) (fun w' hs=>?_) (fun _ _ _ h=>h) ?_
  rotate_left
  ·clear hs
   go_simp
   try rfl
  simp only [Act.put,D7,D6,D5]
 refine C2 ?_
 have rz:(w94.setCells B4 0 X).row? B4 0 24=some X:=B7 X (HFR.out _ t4) hXk
 go_wp2
 refine B2l A2T rfl X _ _ rfl rfl rfl rfl rz ?_
 rw [HXX.out]
 rw [HXX.out] at t5
 exact ⟨oa,oc,la,lc,sb,own3,n3,rfl,HBW.out _ t5,HSTW.out _ t5,HGE3.out,(HLP6.out.only (X':=fun _=>False) (HTG.out _ t5) (fun _ h=>h) (fun _ _ h=>h.elim))⟩
theorem A9r {x:Nat} {f:Fr} {o:A1q} (h:A3R x f o):o=⟨A5E x f,x,A3w x f,if x=0 then f.logs else [],0⟩:=by
 obtain ⟨g,e,d,l,a⟩:=o
 obtain ⟨h1,h2,h3,h4,h5⟩:=h
 simp only at h1 h2 h3 h4 h5
 subst h1 h2
 unfold A5E A3w A67 A4v
 by_cases e0:x=0
 ·obtain ⟨rfl,rfl,rfl⟩:=h3 e0
  rw [if_pos e0,if_pos e0,if_pos e0]
 ·rw [if_neg e0,if_neg e0,if_neg e0]
  by_cases e1:x=15
  ·obtain ⟨rfl,rfl,rfl⟩:=h4 e1
   rw [if_pos e1,if_pos e1]
  ·obtain ⟨rfl,rfl,rfl⟩:=h5 e0 e1
   rw [if_neg e1,if_neg e1]
theorem A9V {m:Msg} {dv:Value} {cx:Ctx} {S S1 S':St} {f':Fr} {K er:Nat} {step:Fr→St→Res} (hs:∀ {sb rb tb:Nat} {tab:Y2},A3Q tab→A2z sb rb tb cx tab step) (hm:A1X m) (hk:m.kind=0) (hg:0≤m.gas∧m.gas≤1000000) (hd:m.depth≤64) (hmv:S.move m.frm m.to m.value=some S1) (hl:U8 step K (P3 m (S1 m.to).code) S1=some (er,f',S')) :
  B0R m dv cx S (A5E er f') er 0 (A3w er f') (if er=0 then f'.logs else []) (if er=0 then S' else S):=by
 intro w own sb hst hda
 refine (A68 (N:=3+m.gas.toNat) hst (by omega) hm hk hg.1 hd hda (by omega) (fun rb tb tab ht=>hs ht) hmv hl).mono ?_
 rintro e w' ⟨o,ov,lv,own',n',rfl,st,g,oa,h1,h2,h3⟩
 have he:=A9r h3
 subst he
 obtain ⟨a,k,b,j,rfl,rfl⟩:=oa.forms
 exact ⟨a,k,b,j,own',n',rfl,oa,st,g,by omega⟩
theorem A9U {m:Msg} {dv:Value} {cx:Ctx} {S S1 S':St} {f':Fr} {K er:Nat} {pr:Fr→St→Int→Pri} {dor:Fr→St→Int→Res} (hT:∀ E,B1S E pr dor) (hm:A1X m) (hk:m.kind=0) (hg:0≤m.gas∧m.gas≤900000) (hd:m.depth≤64) (hs:m.static=false) (hmv:S.move m.frm m.to m.value=some S1) (hl:V7 (J2 pr dor) K (P3 m (S1 m.to).code) S1=some (er,f',S')) (ho:er=0∨A3w er f' = []) :
  B0Q m dv cx S (A5E er f') er 0 (A3w er f') (if er=0 then f'.logs else []) (if er=0 then S' else S):=by
 intro w own sb n hn hst hda
 refine (B2s (N:=999000) hT hst hm hk hg.1 hd hs hda (by omega) (Nat.le_refl _) hmv hl).mono ?_
 rintro e w' ⟨oa,oc,lv,own',M',n',rfl,st,g,hn',hi,cs,k1,k2⟩
 obtain ⟨b,j,rfl⟩:=E9 k1
 have hlr:A0M w' (fun _=>False) (.slice b (if er=0 then f'.logs else []).length j) (if er=0 then f'.logs else []):=by
  exact A0M.of k1 (k2.only (R:=fun _=>False) (A0.refl _ _) (fun _ h=>h.elim) (fun _ _ h=>h.elim)) (fun _ _ h=>h)
 exact ⟨oa,oc,b,j,own',M',n',rfl,hi ho,hlr,st,g,hn'⟩
def A5X (x:Int):Prop:=x≠32∧x≠55∧x≠57∧x≠60∧x≠62∧x≠81∧x≠82∧x≠83∧x≠160∧x≠161∧x≠162∧x≠163∧x≠164∧x≠240∧x≠241∧x≠243∧x≠244∧x≠245∧x≠250∧x≠253
theorem A6f (x:Int) (hx:A5X x) (w:World):Calls Tryz.prog 250 #[.int .u8 x] w fun e w'=>e = .returned (.tuple #[.int .i64 (-1),.int .i64 (-1),.int .i64 0])∧w'=w:=by
 unfold A5X at hx
 have n32:(x == 32)=false:=by simp;omega
 have n55:(x == 55)=false:=by simp;omega
 have n57:(x == 57)=false:=by simp;omega
 have n60:(x == 60)=false:=by simp;omega
 have n62:(x == 62)=false:=by simp;omega
 have n81:(x == 81)=false:=by simp;omega
 have n82:(x == 82)=false:=by simp;omega
 have n83:(x == 83)=false:=by simp;omega
 have n160:(x == 160)=false:=by simp;omega
 have n161:(x == 161)=false:=by simp;omega
 have n162:(x == 162)=false:=by simp;omega
 have n163:(x == 163)=false:=by simp;omega
 have n164:(x == 164)=false:=by simp;omega
 have n240:(x == 240)=false:=by simp;omega
 have n241:(x == 241)=false:=by simp;omega
 have n243:(x == 243)=false:=by simp;omega
 have n244:(x == 244)=false:=by simp;omega
 have n245:(x == 245)=false:=by simp;omega
 have n250:(x == 250)=false:=by simp;omega
 have n253:(x == 253)=false:=by simp;omega
 clear hx
 go_enter Tryz.func250,Tryz.ntmps250
 go_wp2
 go_ret3
 exact ⟨rfl,rfl⟩
theorem A7E (x:Int) (hx:A5X x) (h1:x≠10) (h2:x≠85) (fb:Nat) (w:World):Calls Tryz.prog 178 #[.pointer (some ⟨fb,0,none⟩),.int .u8 x] w fun e w'=>e = .returned (.tuple #[.int .i64 0,.bool true])∧w'=w:=by
 have HA:=hid (fun w=>A6f x hx w)
 have n10:(x == 10)=false:=by simp;omega
 have n85:(x == 85)=false:=by simp;omega
 clear hx h1 h2
 go_enter Tryz.func178,Tryz.ntmps178
 go_wp2_with fail
 refine (HA.out _).mono ?_
 rintro e w1 ⟨rfl,rfl⟩
 go_wp2
 go_ret2
 exact ⟨rfl,rfl⟩
theorem B3D (l:List Nat):∀ (i:Nat) (hi:i < l.length),((D3 l).drop (i*32)).take 32=A3 32 l[i]:=by
 induction l with
 | nil=>intro i hi;simp at hi
 | cons p l ih =>
  intro i hi
  have hc:D3 (p :: l)=A3 32 p++D3 l:=by simp [D3]
  have hl:(A3 32 p).length=32:=by simp
  cases i with
  | zero =>
   rw [hc,Nat.zero_mul,List.drop_zero,List.take_append_of_le_length (by rw [hl];exact Nat.le_refl _),List.take_of_length_le (by rw [hl];exact Nat.le_refl _)]
   rfl
  | succ i =>
   rw [hc,show (i+1)*32=(A3 32 p).length+i*32 by rw [hl];omega,← List.drop_drop,List.drop_left]
   exact ih i (by simpa using hi)
theorem A40 {w:World} {b base:Nat} {v:Value} {l:List Nat} (h:w.ownsRow base 25 32 v l.length (D3 l)) {i:Nat} (hi:i < l.length):∃ g c,v = .slice (some ⟨g,0,none⟩) l.length c∧w.row? g (i*32) 32=some (A3 32 l[i]):=by
 obtain ⟨g,c,e,_,_,_,hr,_⟩:=J5 h (by omega)
 have h1:=World.row?_sub hr (o':=i*32) (n':=32) (by omega) (by omega)
 rw [Nat.sub_zero,B3D l i hi] at h1
 exact ⟨g,c,e,h1⟩
theorem A7z {E:U3} {w:World} {own:Go.Mun.Own} {c:RFV} {f:Fr} {S:St} {M:List (Nat × St)} {n:Nat} (k:Nat) (h:C9 E w own c f S M n) (hk:k < f.stack.length) :
  Calls Tryz.prog 249 #[.pointer (some ⟨E.fb,0,none⟩),.int .i64 (k:Int)] w fun e w'=>e = .returned (.agg (A3 32 (f.stack[f.stack.length - 1 - k]'(by omega))).toArray)∧Below w.heap.size w w':=by
 obtain ⟨m,hm⟩:∃ m,m=f.stack.length:=⟨_,rfl⟩
 obtain ⟨i,hi⟩:∃ i,i=f.stack.length - 1 - k:=⟨_,rfl⟩
 have hil:i < f.stack.length:=by omega
 obtain ⟨x,hx⟩:∃ x,x=f.stack[i]'hil:=⟨_,rfl⟩
 have hxx:(f.stack[f.stack.length - 1 - k]'(by omega))=x:=by rw [hx];congr 1;exact hi.symm
 rw [hxx]
 obtain ⟨g,sc,hsv,hrow⟩:=A40 (b:=0) h.stk hil
 rw [← hx] at hrow
 have csv:=A8I h.row
 rw [hsv,← hm] at csv
 have hsl:=h.slen
 obtain ⟨w0,e0⟩:∃ w0,w0=w.alloc (.cells (J4 32).toArray 25):=⟨_,rfl⟩
 have hb0:Below w.heap.size w w0:=by rw [e0];exact (Below.refl _ _).alloc (Nat.le_refl _) _
 have f0:w0.free? w.heap.size 0 32=true:=by rw [e0];exact World.free?_alloc_at _ _ rfl (by simp)
 have t1:w0.cell? ⟨E.fb,230,none⟩=some (.slice (some ⟨g,0,none⟩) m sc):=(hb0.cell (World.block_lt_of_cell? w _ csv)).trans csv
 have t2:w0.row? g (i*32) 32=some (A3 32 x):=((C7 hb0).1 _ _ _ (World.row?_lt hrow)).trans hrow
 obtain ⟨T,hT⟩:∃ T:World→Prop,T=fun W=>W.cell? ⟨E.fb,230,none⟩=some (.slice (some ⟨g,0,none⟩) m sc)∧W.row? g (i*32) 32=some (A3 32 x):=⟨_,rfl⟩
 have HT:=hid hT
 have t0:T w0.drew:=by rw [hT];exact ⟨t1,t2⟩
 have hw1:IntKind.i64.wrap ((m:Int) - 1)=((m - 1:Nat):Int):=by rw [U6 _ (by omega) (by omega)];omega
 have hw2:IntKind.i64.wrap ((m:Int) - 1 - (k:Int))=(i:Int):=by rw [U6 _ (by omega) (by omega)];omega
 have hw3:IntKind.i64.wrap (((m - 1:Nat):Int) - (k:Int))=(i:Int):=by rw [U6 _ (by omega) (by omega)];omega
 have him:i < m:=by omega
 have hok:=D2 32 x
 have hlx:=C4 32 x
 have HE:=hid e0
 have HB:=hid hb0
 have HF:=hid f0
 have fz:w0.drew.free? w.heap.size 0 32=true:=f0
 clear hT h csv hrow hsv e0 hb0 t1 t2 f0 hxx hx hi hil hsl hk hm
 go_enter Tryz.func249,Tryz.ntmps249
 go_wp2_with fail
 rw [← HE.out]
 refine A7 T [16] (.pure 0 (.pure 1 (.pure 2 (.pure 3 (.take 4 (.pure 5 (.pure 6 (.pure 7 (.pure 8 (.take 9 (.pure 10 (.pure 11 (.pure 12 (.pure 13 (.pure 14 (.take 15 (.alt 16 .fin .stop))))))))))))))))) (by kernel_rfl) (by kernel_rfl) ?_
 iterate 13
  first
  |refine A2 ?_ rfl (by rfl) (fun w' hs=>?_) (fun _ _ _ h=>h) ?_
   rotate_left
   ·clear hs
    go_simp
    try rfl
   simp only [Act.put,D7,D6,D5]
  |refine A9 ?_ t0 rfl (by rfl) (fun w' hs=>?_) (fun _ _ _ h=>h) ?_
   rotate_left
   ·rw [HT.out] at hs
    obtain ⟨g1,g2⟩:=hs
    go_simp
    try rfl
   simp only [Act.put,D7,D6,D5]
 refine A2 (.int .i64 (i:Int)) rfl (by rfl) (fun w' hs=>?_) (fun _ _ _ h=>h) ?_
 ·clear hs
  go_simp
 simp only [Act.put,D7,D6,D5]
 refine A2 (.pointer (some ⟨g,i*32,none⟩)) rfl (by rfl) (fun w' hs=>?_) (fun _ _ _ h=>h) ?_
 ·clear hs
  go_simp
 simp only [Act.put,D7,D6,D5]
 refine A9 ?_ t0 rfl (by rfl) (fun w' hs=>?_) (fun _ _ _ h=>h) ?_
 rotate_left
 ·rw [HT.out] at hs
  obtain ⟨g1,g2⟩:=hs
  go_simp
  try rfl
 simp only [Act.put,D7,D6,D5]
 refine J8 rfl (by simp) (fun K hK=>?_)
 go_simp
 refine hK.out _ _ ?_
 clear hK K
 refine C2 ?_
 have hrz:(w0.drew.setCells w.heap.size 0 (A3 32 x)).row? w.heap.size 0 32=some (A3 32 x):=B7 _ fz hok
 go_wp2
 refine ⟨rfl,_,A4j A28 rfl _ _ w.heap.size 0 (A3 32 x) rfl hrz,rfl,HB.out.drew.setCells (Nat.le_refl _) _ _⟩
def L9 (f:Fr) (k:Nat):Nat:=f.stack.reverse[k]?.getD 0
theorem A7n {f:Fr} {k:Nat} (hk:k < f.stack.length):L9 f k=f.stack[f.stack.length - 1 - k]'(by omega):=by
 unfold L9
 rw [List.getElem?_reverse hk,List.getElem?_eq_getElem (by omega)]
 rfl
theorem A4K {E:U3} {w:World} {own:Go.Mun.Own} {c:RFV} {f:Fr} {S:St} {M:List (Nat × St)} {n:Nat} (h:C9 E w own c f S M n) (k:Nat):L9 f k < wW:=by
 unfold L9
 cases e:f.stack.reverse[k]? with
 | none=>show 0 < wW;decide
 | some x=>exact h.sval x (by have:=List.mem_of_getElem? e;simpa using this)
def A7P (f:Fr) (S:St):List Nat→Res
 | a :: n :: ts=>if 4 < ts.length then .none else match K4 f.mem.length a n with
  | Option.none => .none
  | some (cost,z)=>if cost+8*n≤f.gas then .ok { f with mem:=f.mem++List.replicate z 0,gas:=f.gas - cost - 8*n,logs:=f.logs++[⟨f.m.to,ts,T9 (f.mem++List.replicate z 0) (if n=0 then 0 else a) n⟩] } S else .none
 | _ => .none
def B35 (f:Fr) (S:St) (x:Int):Res:=
 if f.pc+1+(x - 95).toNat≤f.code.length∧f.stack.length < 1024 then .ok { f with stack:=f.stack++[A4D f (x - 95).toNat] } S else .none
def A9x (f:Fr) (S:St) (op:Int) (v:List Nat):Res:=
 if 96≤op∧op≤127 then B35 f S op
 else if op=83 then (match v with | [a,x]=>L4 f S a x | _ => .none)
 else if 160≤op∧op≤164 then A7P f S v
 else .none
def A1v:Fr→St→Res:=W5 A9x A6z
def prG (f:Fr) (_:St) (x:Int):Pri:=
 if x=83 then (if 1≤f.stack.length then (match K4 f.mem.length (L9 f 0) 1 with | some (cost,z) => .more cost { f with mem:=f.mem++List.replicate z 0 } | Option.none => .none) else .none)
 else if 160≤x∧x≤164 then (if 2≤f.stack.length then (match K4 f.mem.length (L9 f 0) (L9 f 1) with | some (cost,z) => .more (8*L9 f 1+cost) { f with mem:=f.mem++List.replicate z 0 } | Option.none => .none) else .none)
 else if x=0∨(96≤x∧x≤127) then .more 0 f
 else .none
def doG (f:Fr) (S:St) (x:Int):Res:=
 if x=0 then .ok { f with ended:=true } S
 else if 96≤x∧x≤127 then .ok { f with stack:=f.stack++[A99 f (x.toNat - 95)] } S
 else if x=83 then (if L9 f 0+1≤f.mem.length then .ok { f with stack:=f.stack.take (f.stack.length - 2),mem:=A0J f.mem (L9 f 0) [((L9 f 1 % 256:Nat):Int)] } S else .none)
 else if 160≤x∧x≤164 then (if L9 f 1≤1048576∧L9 f 0≤1048576∧f.logs.length≤1000 then .ok { f with stack:=f.stack.take (f.stack.length - (x.toNat - 158)),logs:=f.logs++[⟨f.m.to,(A0t f (x.toNat - 158)).drop 2,T9 f.mem (L9 f 0) (L9 f 1)⟩] } S else .none)
 else .none

theorem A48 {act:Fr→St→Int→List Nat→Res} {turn:Fr→St→Int→Res} {f:Fr} {S:St} {t:J1} (x:Int) (p q g:Nat) (hd:f.code.drop f.next=x :: t) (ho:ofL x=some ((p:Int),(q:Int),(g:Int))) (hl:p≤f.stack.length∧f.stack.length - p+q≤1024) (ht:¬ (128≤x∧x < 160)) (hst:f.m.static=false) (hg:g≤f.gas) :
  W5 act turn f S=act { f with pc:=f.next,next:=f.next+1+(J6 x).toNat,stack:=f.stack.take (f.stack.length - p),gas:=f.gas - g } S x (A0t f p):=by
 obtain ⟨h1,h2,h3⟩:=Y9 hd
 have hox:V9 f=x:=h1
 unfold W5
 rw [hox,ho]
 simp only [Int.toNat_natCast]
 rw [if_neg (by simpa using hl),if_neg ht,if_neg (by rw [hst];simp),if_pos hg]
 have e1:A0h (U1 f) p={ f with pc:=f.next,next:=f.next+1+(J6 x).toNat,stack:=f.stack.take (f.stack.length - p) }:=by
  show Fr.mk _ _ _ _ _ _ _ _ _ _ _=_
  simp only [U1,hox,Fr.mk.injEq,true_and,and_true]
 rw [e1]
theorem A3V {pr:Fr→St→Int→Pri} {dor:Fr→St→Int→Res} {f f1 f2:Fr} {S S2:St} {t:J1} (x:Int) (p q g k:Nat) (hd:f.code.drop f.next=x :: t) (ho:ofL x=some ((p:Int),(q:Int),(g:Int))) (hl:p≤f.stack.length∧f.stack.length - p+q≤1024) (hst:f.m.static=false) (hp:pr f S x = .more k f1) (h1:f1.next=f.next∧f1.code=f.code∧f1.stack=f.stack) (hg:g+k≤f1.gas)
  (hdo:dor { f1 with gas:=f1.gas - g - k } S x = .ok f2 S2) (hn:f2.next=f.next) (hw:f.next+1+(J6 x).toNat≤2199023255552):J2 pr dor f S = .ok { f2 with next:=f.next+1+(J6 x).toNat } S2:=by
 obtain ⟨h4,h5,h6⟩:=Y9 hd
 have hox:opR f=x:=by unfold opR;rw [if_pos h5,h4]
 unfold J2
 rw [hox,ho]
 simp only []
 rw [if_neg (by omega),if_neg (by rw [hst];simp),hp]
 simp only [Int.toNat_natCast]
 rw [if_pos ⟨hg,h1⟩,hdo]
 simp only []
 rw [if_pos hn,if_pos hw]
theorem W9 {step:Fr→St→Res} {k:Nat} {f f':Fr} {S S':St} (h:step f S = .ok f' S') (he:f.ended=false):V7 step (k+1) f S=V7 step k f' S':=by
 rw [V7,if_neg (by rw [he];simp),h]
theorem B2C {step:Fr→St→Res} {k:Nat} {f:Fr} {S:St} (he:f.ended=true):V7 step (k+1) f S=some (0,f,S):=by
 rw [V7,if_pos he]
theorem A8V (n:Nat) (h1:1≤n) (h2:n≤32):ofL (95+(n:Int))=some (((0:Nat):Int),((1:Nat):Int),((3:Nat):Int)):=by
 unfold ofL
 rw [if_pos (by omega)];rfl
theorem A7N (k:Nat) (hk:k≤4):ofL (160+(k:Int))=some (((k+2:Nat):Int),((0:Nat):Int),((375*(k+1):Nat):Int)):=by
 unfold ofL
 rw [if_neg (by omega),if_neg (by omega),if_neg (by omega),if_pos (by omega)]
 have e:(160+(k:Int)) % 16=k:=by omega
 rw [e]
 simp only [Option.some.injEq,Prod.mk.injEq]
 omega
theorem A5l (n:Nat) (h1:1≤n) (h2:n≤32):(J6 (95+(n:Int))).toNat=n:=by
 unfold J6
 rw [if_pos (by omega)];omega
theorem A7L (k:Nat) (hk:k≤4):(J6 (160+(k:Int))).toNat=0:=by
 unfold J6
 rw [if_neg (by omega)];rfl
theorem A81 {step:Fr→St→Res} {k x:Nat} {f f':Fr} {S S':St} (he:f.ended=false) (hn:f.next < f.code.length) (h:step f S = .stop x f' S') (hx:x≠0):U8 step (k+1) f S=some (x,f',S'):=by
 rw [U8,if_neg (by rw [he];simp;omega),h]
 exact if_neg hx
theorem A80 {step:Fr→St→Res} {k x:Nat} {f f':Fr} {S S':St} (he:f.ended=false) (h:step f S = .stop x f' S') (hx:x≠0):V7 step (k+1) f S=some (x,f',S'):=by
 rw [V7,if_neg (by rw [he];simp),h]
 exact if_neg hx
structure AtG (m:Msg) (code:J1) (st:List Nat) (mm t:J1) (g:Nat) (lg:List Lg) (f:Fr):Prop where
 fm:f.m=m
 fc:f.code=code
 fst:f.stack=st
 fmm:f.mem=mm
 ftl:code.drop f.next=t
 fg:f.gas=g
 flg:f.logs=lg
 fen:f.ended=false
 fout:f.out = []
 fnx:f.next≤code.length
section
variable {m:Msg} {code mm t wb:J1} {st:List Nat} {g:Nat} {lg:List Lg} {f:Fr} {S:St}
theorem AtG.drop (h:AtG m code st mm t g lg f):f.code.drop f.next=t:=by rw [h.fc];exact h.ftl
theorem AtG.lt {x:Int} (h:AtG m code st mm (x :: t) g lg f):f.next < f.code.length:=(Y9 h.drop).2.1
theorem AtG.len {x:Int} (h:AtG m code st mm (x :: (wb++t)) g lg f):f.next+1+wb.length≤code.length∧code.drop (f.next+1+wb.length)=t:=by
 obtain ⟨h4,h5,h6⟩:=Y9 h.ftl
 have e:(code.drop (f.next+1)).length=wb.length+t.length:=by rw [h6,List.length_append]
 rw [List.length_drop] at e
 refine ⟨by omega,?_⟩
 rw [← List.drop_drop,h6,List.drop_left]
theorem B1o (n:Nat) (h1:1≤n) (h2:n≤32) (h:AtG m code st mm ((95+(n:Int)) :: (wb++t)) g lg f) (hw:wb.length=n) (hst:m.static=false) (hl:st.length < 1024) (hg:3≤g) :
  ∃ f',A1v f S = .ok f' S∧AtG m code (st++[beN wb]) mm t (g - 3) lg f':=by
 obtain ⟨h3,h7⟩:=h.len
 obtain ⟨h4,h5,h6⟩:=Y9 h.drop
 have hl':f.stack.length < 1024:=by rw [h.fst];exact hl
 refine ⟨{ f with pc:=f.next,next:=f.next+1+n,gas:=f.gas - 3,stack:=f.stack++[beN wb] },?_,⟨h.fm,h.fc,by show f.stack++_=_;rw [h.fst],h.fmm,by show code.drop (f.next+1+n)=t;rw [← hw];exact h7,by show f.gas - 3=_;rw [h.fg],h.flg,h.fen,h.fout,by show f.next+1+n≤_;rw [← hw];exact h3⟩⟩
 unfold A1v
 rw [A48 _ 0 1 3 h.drop (A8V n h1 h2) (by omega) (by omega) (by rw [h.fm];exact hst) (by rw [h.fg];exact hg),A5l n h1 h2]
 unfold A9x
 rw [if_pos (by omega)]
 unfold B35
 have e3:(95+(n:Int) - 95).toNat=n:=by omega
 rw [e3]
 simp only [Nat.sub_zero,List.take_length]
 rw [if_pos ⟨by rw [h.fc];omega,hl'⟩]
 have e2:A4D { f with pc:=f.next,next:=f.next+1+n,gas:=f.gas - 3 } n=beN wb:=by
  show beN ((f.code.drop (f.next+1)).take n)=_
  rw [h6,← hw,List.take_left]
 have e4:({ f with pc:=f.next,next:=f.next+1+n,stack:=f.stack,gas:=f.gas - 3 }:Fr)={ f with pc:=f.next,next:=f.next+1+n,gas:=f.gas - 3 }:=rfl
 rw [e4,e2]
theorem B1n (n:Nat) (h1:1≤n) (h2:n≤32) (h:AtG m code st mm ((95+(n:Int)) :: (wb++t)) g lg f) (hw:wb.length=n) (hst:m.static=false) (hl:st.length < 1024) (hg:3≤g) (hnx:code.length≤1000000) :
  ∃ f',J2 prG doG f S = .ok f' S∧AtG m code (st++[beN wb]) mm t (g - 3) lg f':=by
 obtain ⟨h3,h7⟩:=h.len
 obtain ⟨h4,h5,h6⟩:=Y9 h.drop
 have hl':f.stack.length < 1024:=by rw [h.fst];exact hl
 refine ⟨{ f with next:=f.next+1+n,gas:=f.gas - 3,stack:=f.stack++[beN wb] },?_,⟨h.fm,h.fc,by show f.stack++_=_;rw [h.fst],h.fmm,by show code.drop (f.next+1+n)=t;rw [← hw];exact h7,by show f.gas - 3=_;rw [h.fg],h.flg,h.fen,h.fout,by show f.next+1+n≤_;rw [← hw];exact h3⟩⟩
 rw [A3V (f1:=f) (f2:={ f with gas:=f.gas - 3 - 0,stack:=f.stack++[beN wb] }) (S2:=S) _ 0 1 3 0 h.drop (A8V n h1 h2) (by omega) (by rw [h.fm];exact hst) ?_ ⟨rfl,rfl,rfl⟩ (by rw [h.fg];exact hg) ?_ rfl (by rw [A5l n h1 h2];omega),A5l n h1 h2]
 ·rfl
 ·unfold prG
  rw [if_neg (by omega),if_neg (by omega),if_pos (.inr (by omega))]
 ·unfold doG
  rw [if_neg (by omega),if_pos (by omega)]
  have e3:(95+(n:Int)).toNat - 95=n:=by omega
  rw [e3]
  have e2:A99 { f with gas:=f.gas - 3 - 0 } n=beN wb:=by
   show beN (T9 f.code (f.next+1) n)=_
   unfold T9
   rw [h6,List.append_assoc,← hw,List.take_left]
  rw [e2]
theorem A5S (y:Nat):beN [(y:Int)]=y:=by simp [beN]
theorem A63 (y:Nat) (h:AtG m code st mm (96 :: (y:Int) :: t) g lg f) (hst:m.static=false) (hl:st.length < 1024) (hg:3≤g):∃ f',A1v f S = .ok f' S∧AtG m code (st++[y]) mm t (g - 3) lg f':=by
 have:=B1o (S:=S) (wb:=[(y:Int)]) 1 (by decide) (by decide) h rfl hst hl hg
 rwa [A5S] at this
theorem A62 (y:Nat) (h:AtG m code st mm (96 :: (y:Int) :: t) g lg f) (hst:m.static=false) (hl:st.length < 1024) (hg:3≤g) (hnx:code.length≤1000000):∃ f',J2 prG doG f S = .ok f' S∧AtG m code (st++[y]) mm t (g - 3) lg f':=by
 have:=B1n (S:=S) (wb:=[(y:Int)]) 1 (by decide) (by decide) h rfl hst hl hg hnx
 rwa [A5S] at this
theorem B3y {f:Fr} {l:List Nat} {x p:Nat} (h:f.stack=l++[x,p]):L9 f 0=p∧L9 f 1=x:=by
 unfold L9
 rw [h,List.reverse_append]
 exact ⟨rfl,rfl⟩
theorem B9z {x p cost z:Nat} (h:AtG m code [x,p] mm (83 :: t) g lg f) (hst:m.static=false) (hK:K4 mm.length p 1=some (cost,z)) (hg:3+cost≤g) :
  ∃ f',A1v f S = .ok f' S∧AtG m code [] (A0J (mm++List.replicate z 0) p [((x % 256:Nat):Int)]) t (g - 3 - cost) lg f':=by
 obtain ⟨h4,h5,h6⟩:=Y9 h.ftl
 have e:=A48 (act:=A9x) (turn:=A6z) (S:=S) 83 2 0 3 h.drop (by decide) (by rw [h.fst];exact ⟨Nat.le_refl 2,by show 2 - 2+0≤1024;decide⟩) (by omega) (by rw [h.fm];exact hst) (by rw [h.fg];omega)
 have e2:A0t f 2 = [p,x]:=by unfold A0t;rw [h.fst];rfl
 rw [e2] at e
 refine ⟨{ f with pc:=f.next,next:=f.next+1,stack:=[],gas:=f.gas - 3 - cost,mem:=A0J (f.mem++List.replicate z 0) p [((x % 256:Nat):Int)] },?_,⟨h.fm,h.fc,rfl,by show A0J _ _ _=_;rw [h.fmm],h6,by show f.gas - 3 - cost=_;rw [h.fg],h.flg,h.fen,h.fout,h5⟩⟩
 refine Eq.trans e ?_
 unfold A9x
 rw [if_neg (by decide),if_pos rfl]
 show L4 _ S p x=_
 unfold L4
 show (match K4 f.mem.length p 1 with | Option.none=>Res.stop 11 _ S | some (cost,z)=>if cost≤f.gas - 3 then _ else _)=_
 rw [h.fmm,hK]
 show (if cost≤f.gas - 3 then _ else _)=_
 rw [if_pos (by rw [h.fg];omega),h.fst]
 rfl
theorem B9y {x p cost z:Nat} (h:AtG m code [x,p] mm (83 :: t) g lg f) (hst:m.static=false) (hK:K4 mm.length p 1=some (cost,z)) (hz:p+1≤mm.length+z) (hg:3+cost≤g) (hnx:code.length≤1000000) :
  ∃ f',J2 prG doG f S = .ok f' S∧AtG m code [] (A0J (mm++List.replicate z 0) p [((x % 256:Nat):Int)]) t (g - 3 - cost) lg f':=by
 obtain ⟨h4,h5,h6⟩:=Y9 h.ftl
 obtain ⟨t0,t1⟩:=B3y (l:=[]) h.fst
 refine ⟨{ f with next:=f.next+1,stack:=[],gas:=f.gas - 3 - cost,mem:=A0J (f.mem++List.replicate z 0) p [((x % 256:Nat):Int)] },?_,⟨h.fm,h.fc,rfl,by show A0J _ _ _=_;rw [h.fmm],h6,by show f.gas - 3 - cost=_;rw [h.fg],h.flg,h.fen,h.fout,h5⟩⟩
 refine Eq.trans (A3V (f1:={ f with mem:=f.mem++List.replicate z 0 }) (f2:={ f with stack:=[],gas:=f.gas - 3 - cost,mem:=A0J (f.mem++List.replicate z 0) p [((x % 256:Nat):Int)] }) (S2:=S) 83 2 0 3 cost h.drop (by decide) (by rw [h.fst];exact ⟨Nat.le_refl 2,by show 2 - 2+0≤1024;decide⟩) (by rw [h.fm];exact hst) ?_ ⟨rfl,rfl,rfl⟩ (by show 3+cost≤f.gas;rw [h.fg];exact hg) ?_ rfl (by show f.next+1+0≤_;omega)) rfl
 ·unfold prG
  rw [if_pos rfl,if_pos (by rw [h.fst];show 1≤2;decide),t0,h.fmm,hK]
 ·have t0':L9 { f with mem:=f.mem++List.replicate z 0,gas:=f.gas - 3 - cost } 0=p:=t0
  have t1':L9 { f with mem:=f.mem++List.replicate z 0,gas:=f.gas - 3 - cost } 1=x:=t1
  unfold doG
  rw [if_neg (by decide),if_neg (by decide),if_pos rfl,t0',t1',if_pos (by show p+1≤(f.mem++List.replicate z 0).length;rw [h.fmm,List.length_append,List.length_replicate];exact hz)]
  show Res.ok _ S=_
  rw [h.fst]
  rfl
theorem B4t (k:Nat) {n p:Nat} {ws:List Nat} (hk:k≤4) (h:AtG m code (ws++[n,p]) mm ((160+(k:Int)) :: t) g lg f) (hw:ws.length=k) (hst:m.static=false) (hn:n≠0) (hK:K4 mm.length p n=some (0,0)) (hg:375*(k+1)+8*n≤g) :
  ∃ f',A1v f S = .ok f' S∧AtG m code [] mm t (g - 375*(k+1) - 8*n) (lg++[⟨m.to,ws.reverse,T9 mm p n⟩]) f':=by
 obtain ⟨h4,h5,h6⟩:=Y9 h.ftl
 have hsl:f.stack.length=k+2:=by rw [h.fst,List.length_append,hw];rfl
 have e:=A48 (act:=A9x) (turn:=A6z) (S:=S) (160+(k:Int)) (k+2) 0 (375*(k+1)) h.drop (A7N k hk) (by omega) (by omega) (by rw [h.fm];exact hst) (by rw [h.fg];omega)
 have e2:A0t f (k+2)=p :: n :: ws.reverse:=by
  unfold A0t;rw [h.fst,List.reverse_append,List.take_of_length_le (by simp [hw])];rfl
 rw [e2,hsl,Nat.sub_self,A7L k hk] at e
 refine ⟨{ f with pc:=f.next,next:=f.next+1,stack:=[],gas:=f.gas - 375*(k+1) - 8*n,logs:=f.logs++[⟨f.m.to,ws.reverse,T9 f.mem p n⟩] },?_,⟨h.fm,h.fc,rfl,h.fmm,h6,by show f.gas - 375*(k+1) - 8*n=_;rw [h.fg],by show f.logs++_=_;rw [h.flg,h.fmm,h.fm],h.fen,h.fout,h5⟩⟩
 refine Eq.trans e ?_
 unfold A9x
 rw [if_neg (by omega),if_neg (by omega),if_pos (by omega)]
 unfold A7P
 show (if 4 < ws.reverse.length then Res.none else _)=_
 rw [if_neg (by rw [List.length_reverse];omega)]
 show (match K4 f.mem.length p n with | Option.none=>Res.none | some (cost,z)=>if cost+8*n≤f.gas - 375*(k+1) then _ else _)=_
 rw [h.fmm,hK]
 show (if 0+8*n≤f.gas - 375*(k+1) then _ else _)=_
 rw [if_pos (by rw [h.fg];omega),if_neg hn]
 simp only [List.replicate_zero,List.append_nil,Nat.sub_zero,h.fmm]
 rfl
theorem B4s (k:Nat) {n p:Nat} {ws:List Nat} (hk:k≤4) (h:AtG m code (ws++[n,p]) mm ((160+(k:Int)) :: t) g lg f) (hw:ws.length=k) (hst:m.static=false) (hn:n≤1048576∧p≤1048576) (hlg:lg.length≤1000) (hK:K4 mm.length p n=some (0,0)) (hg:375*(k+1)+8*n≤g) (hnx:code.length≤1000000) :
  ∃ f',J2 prG doG f S = .ok f' S∧AtG m code [] mm t (g - 375*(k+1) - 8*n) (lg++[⟨m.to,ws.reverse,T9 mm p n⟩]) f':=by
 obtain ⟨h4,h5,h6⟩:=Y9 h.ftl
 have hsl:f.stack.length=k+2:=by rw [h.fst,List.length_append,hw];rfl
 obtain ⟨t0,t1⟩:=B3y h.fst
 have e2:A0t f (k+2)=p :: n :: ws.reverse:=by
  unfold A0t;rw [h.fst,List.reverse_append,List.take_of_length_le (by simp [hw])];rfl
 refine ⟨{ f with next:=f.next+1,stack:=[],gas:=f.gas - 375*(k+1) - 8*n,logs:=f.logs++[⟨f.m.to,ws.reverse,T9 f.mem p n⟩] },?_,⟨h.fm,h.fc,rfl,h.fmm,h6,by show f.gas - 375*(k+1) - 8*n=_;rw [h.fg],by show f.logs++_=_;rw [h.flg,h.fmm,h.fm],h.fen,h.fout,h5⟩⟩
 refine Eq.trans (A3V (f1:=f) (f2:={ f with stack:=[],gas:=f.gas - 375*(k+1) - 8*n,logs:=f.logs++[⟨f.m.to,ws.reverse,T9 f.mem p n⟩] }) (S2:=S) (160+(k:Int)) (k+2) 0 (375*(k+1)) (8*n) h.drop (A7N k hk) (by omega) (by rw [h.fm];exact hst) ?_ ⟨rfl,rfl,rfl⟩ (by rw [h.fg];exact hg) ?_ rfl (by rw [A7L k hk];omega)) (by rw [A7L k hk])
 ·unfold prG
  rw [if_neg (by omega),if_pos (by omega),if_pos (by omega),t0,t1,h.fmm,hK]
  simp only [List.replicate_zero,List.append_nil,Nat.add_zero,← h.fmm]
 ·have t0':L9 { f with gas:=f.gas - 375*(k+1) - 8*n } 0=p:=t0
  have t1':L9 { f with gas:=f.gas - 375*(k+1) - 8*n } 1=n:=t1
  have e2':A0t { f with gas:=f.gas - 375*(k+1) - 8*n } (k+2)=p :: n :: ws.reverse:=e2
  unfold doG
  rw [if_neg (by omega),if_neg (by omega),if_neg (by omega),if_pos (by omega),t0',t1',if_pos ⟨hn.1,hn.2,by show f.logs.length≤1000;rw [h.flg];exact hlg⟩]
  have e3:(160+(k:Int)).toNat - 158=k+2:=by omega
  rw [e3,e2']
  show Res.ok { f with stack:=f.stack.take (f.stack.length - (k+2)),gas:=_,logs:=_ } S=_
  rw [hsl,Nat.sub_self]
  rfl
theorem B76 (h:AtG m code st mm (254 :: t) g lg f):∃ f',A1v f S = .stop 12 f' S:=by
 obtain ⟨h4,h5,h6⟩:=Y9 h.drop
 have hox:V9 f=254:=h4
 have o:ofL 254=Option.none:=by kernel_rfl
 unfold A1v W5
 rw [hox,o]
 exact ⟨_,rfl⟩
theorem B74 (h:AtG m code st mm (254 :: t) g lg f):J2 prG doG f S = .stop 12 f S:=by
 obtain ⟨h4,h5,h6⟩:=Y9 h.drop
 have hox:opR f=254:=by unfold opR;rw [if_pos h5,h4]
 have o:ofL 254=Option.none:=by kernel_rfl
 unfold J2
 rw [hox,o]
theorem B75 (h:AtG m code st mm [] g lg f) (hst:m.static=false) (hl:st.length≤1024) (hnx:code.length≤1000000):∃ f',J2 prG doG f S = .ok f' S∧f'.ended=true∧f'.gas=g∧f'.logs=lg∧f'.out = []:=by
 have hn:code.length≤f.next:=List.drop_eq_nil_iff.1 h.ftl
 have hox:opR f=0:=by unfold opR;rw [if_neg (by rw [h.fc];omega)]
 have o:ofL 0=some (0,0,0):=by kernel_rfl
 have hx:=h.fnx
 refine ⟨{ f with gas:=f.gas - 0 - 0,ended:=true,next:=f.next+1+0 },?_,rfl,h.fg,h.flg,h.fout⟩
 unfold J2
 rw [hox,o]
 simp only []
 rw [if_neg (by rw [h.fst];omega),if_neg (by rw [h.fm,hst];simp)]
 have hp:prG f S 0 = .more 0 f:=by
  unfold prG
  rw [if_neg (by decide),if_neg (by decide),if_pos (.inl rfl)]
 rw [hp]
 simp only []
 rw [if_pos (by simp)]
 have hd:doG { f with gas:=f.gas - (0:Int).toNat - 0 } S 0 = .ok { f with gas:=f.gas - 0 - 0,ended:=true } S:=by
  unfold doG
  rw [if_pos rfl];rfl
 rw [hd]
 simp only []
 rw [if_pos trivial,if_pos (by show f.next+1+0≤_;omega)]
 rfl
def S7:List J1→J1
 | [] => []
 | wb :: l=>127 :: (wb++S7 l)
theorem B2R (l:List J1) (hl:∀ wb∈l,wb.length=32) (hst:m.static=false):∀ {st:List Nat} {g:Nat} {f:Fr} (k:Nat),AtG m code st mm (S7 l++t) g lg f→st.length+l.length < 1024→3*l.length≤g →
  ∃ f',U8 A1v (k+l.length) f S=U8 A1v k f' S∧AtG m code (st++l.map beN) mm t (g - 3*l.length) lg f':=by
 induction l with
 | nil=>intro st g f k h _ _;exact ⟨f,rfl,by simpa [S7] using h⟩
 | cons wb l ih =>
  intro st g f k h h1 h2
  simp only [List.length_cons] at h1 h2
  have h':AtG m code st mm ((95+((32:Nat):Int)) :: (wb++(S7 l++t))) g lg f:=by
   rw [← List.append_assoc];exact h
  obtain ⟨f1,e1,a1⟩:=B1o (S:=S) 32 (by decide) (by decide) h' (hl wb (by simp)) hst (by omega) (by omega)
  obtain ⟨f2,e2,a2⟩:=ih (fun x hx=>hl x (by simp [hx])) k a1 (by simp;omega) (by omega)
  refine ⟨f2,?_,?_⟩
  ·rw [List.length_cons,← Nat.add_assoc,Y6 e1 h.fen h'.lt,e2]
  ·rw [List.append_assoc] at a2
   rw [List.map_cons,List.length_cons,show g - 3*(l.length+1)=g - 3 - 3*l.length by omega]
   exact a2
theorem B2Q (l:List J1) (hl:∀ wb∈l,wb.length=32) (hst:m.static=false) (hnx:code.length≤1000000):∀ {st:List Nat} {g:Nat} {f:Fr} (k:Nat),AtG m code st mm (S7 l++t) g lg f→st.length+l.length < 1024→3*l.length≤g →
  ∃ f',V7 (J2 prG doG) (k+l.length) f S=V7 (J2 prG doG) k f' S∧AtG m code (st++l.map beN) mm t (g - 3*l.length) lg f':=by
 induction l with
 | nil=>intro st g f k h _ _;exact ⟨f,rfl,by simpa [S7] using h⟩
 | cons wb l ih =>
  intro st g f k h h1 h2
  simp only [List.length_cons] at h1 h2
  have h':AtG m code st mm ((95+((32:Nat):Int)) :: (wb++(S7 l++t))) g lg f:=by
   rw [← List.append_assoc];exact h
  obtain ⟨f1,e1,a1⟩:=B1n (S:=S) 32 (by decide) (by decide) h' (hl wb (by simp)) hst (by omega) (by omega) hnx
  obtain ⟨f2,e2,a2⟩:=ih (fun x hx=>hl x (by simp [hx])) k a1 (by simp;omega) (by omega)
  refine ⟨f2,?_,?_⟩
  ·rw [List.length_cons,← Nat.add_assoc,W9 e1 h.fen,e2]
  ·rw [List.append_assoc] at a2
   rw [List.map_cons,List.length_cons,show g - 3*(l.length+1)=g - 3 - 3*l.length by omega]
   exact a2
end
def A0l (l:List J1) (fails:Bool):J1:=
 96 :: 170 :: 96 :: 0 :: 83 :: (S7 l++(96 :: 1 :: 96 :: 0 :: (160+(l.length:Int)) :: 96 :: 2 :: 96 :: 0 :: 160 :: (if fails then [254] else [])))
theorem A4m (l:List J1) (hl:∀ wb∈l,wb.length=32):(S7 l).length=33*l.length:=by
 induction l with
 | nil=>rfl
 | cons wb l ih =>
  have h1:=hl wb (by simp)
  have h2:=ih (fun x hx=>hl x (by simp [hx]))
  simp only [S7,List.length_cons,List.length_append,h1,h2]
  omega
theorem A5w (l:List J1) (fails:Bool) (hl:∀ wb∈l,wb.length=32):(A0l l fails).length=15+33*l.length+(if fails then 1 else 0):=by
 unfold A0l
 simp only [List.length_cons,List.length_append,A4m l hl]
 cases fails <;> simp <;> omega
def B59:J1:=170 :: List.replicate 31 0
def A3C (to:Nat) (l:List J1):List Lg:=[⟨to,(l.map beN).reverse,[170]⟩,⟨to,[],[170,0]⟩]
def B0o (l:List J1):Nat:=30000 - (798+378*l.length)
def erG (fails:Bool):Nat:=if fails then 12 else 0
theorem k0:K4 ([]:J1).length 0 1=some (3,32):=by decide
theorem k1:K4 B59.length 0 1=some (0,0):=by decide
theorem k2:K4 B59.length 0 2=some (0,0):=by decide
theorem A65 (m:Msg) (code:J1) (hg:m.gas=30000):AtG m code [] [] code 30000 [] (P3 m code):=
 ⟨rfl,rfl,rfl,rfl,rfl,by show m.gas.toNat=_;rw [hg];rfl,rfl,rfl,rfl,Nat.zero_le _⟩
theorem B7X (S:St) (m:Msg) (l:List J1) (fails:Bool) (hl:∀ wb∈l,wb.length=32) (hk:l.length≤4) (hst:m.static=false) (hg:m.gas=30000) :
  ∃ K f',U8 A1v K (P3 m (A0l l fails)) S=some (erG fails,f',S)∧(fails=false→f'.gas=B0o l∧f'.logs=A3C m.to l∧f'.out = []):=by
 have a0:=A65 m (A0l l fails) hg
 obtain ⟨f1,e1,a1⟩:=A63 (S:=S) 170 a0 hst (by decide) (by omega)
 obtain ⟨f2,e2,a2⟩:=A63 (S:=S) 0 a1 hst (by decide) (by omega)
 obtain ⟨f3,e3,a3⟩:=B9z (S:=S) a2 hst k0 (by omega)
 obtain ⟨f4,e4,a4⟩:=B2R (S:=S) (mm:=B59) l hl hst 8 a3 (by simp;omega) (by omega)
 obtain ⟨f5,e5,a5⟩:=A63 (S:=S) 1 a4 hst (by simp;omega) (by omega)
 obtain ⟨f6,e6,a6⟩:=A63 (S:=S) 0 a5 hst (by simp;omega) (by omega)
 rw [List.append_assoc] at a6
 obtain ⟨f7,e7,a7⟩:=B4t (S:=S) l.length hk a6 (by simp) hst (by decide) k1 (by omega)
 obtain ⟨f8,e8,a8⟩:=A63 (S:=S) 2 a7 hst (by simp) (by omega)
 obtain ⟨f9,e9,a9⟩:=A63 (S:=S) 0 a8 hst (by simp) (by omega)
 obtain ⟨f10,e10,a10⟩:=B4t (S:=S) (ws:=[]) 0 (by decide) a9 rfl hst (by decide) k2 (by omega)
 have chain:U8 A1v (8+l.length+3) (P3 m (A0l l fails)) S=U8 A1v 2 f10 S:=by
  rw [Y6 (k:=8+l.length+2) e1 a0.fen a0.lt,Y6 (k:=8+l.length+1) e2 a1.fen a1.lt,Y6 (k:=8+l.length) e3 a2.fen a2.lt,e4,
   Y6 (k:=7) e5 a4.fen a4.lt,Y6 (k:=6) e6 a5.fen a5.lt,Y6 (k:=5) e7 a6.fen a6.lt,Y6 (k:=4) e8 a7.fen a7.lt,Y6 (k:=3) e9 a8.fen a8.lt,Y6 (k:=2) e10 a9.fen a9.lt]
 cases fails with
 | true =>
  obtain ⟨f11,e11⟩:=B76 (S:=S) a10
  exact ⟨_,f11,chain.trans (A81 a10.fen a10.lt e11 (by decide)),fun h=>by cases h⟩
 | false =>
  have hn:(A0l l false).length≤f10.next:=List.drop_eq_nil_iff.1 a10.ftl
  refine ⟨_,f10,chain.trans ?_,fun _=>⟨?_,a10.flg,a10.fout⟩⟩
  ·rw [U8,if_pos (.inr (by rw [a10.fc];exact hn))];rfl
  ·rw [a10.fg];unfold B0o;omega
theorem B7W (S:St) (m:Msg) (l:List J1) (fails:Bool) (hl:∀ wb∈l,wb.length=32) (hk:l.length≤4) (hst:m.static=false) (hg:m.gas=30000) :
  ∃ K f',V7 (J2 prG doG) K (P3 m (A0l l fails)) S=some (erG fails,f',S)∧(fails=false→f'.gas=B0o l∧f'.logs=A3C m.to l∧f'.out = []):=by
 have hnx:(A0l l fails).length≤1000000:=by rw [A5w l fails hl];split <;> omega
 have a0:=A65 m (A0l l fails) hg
 obtain ⟨f1,e1,a1⟩:=A62 (S:=S) 170 a0 hst (by decide) (by omega) hnx
 obtain ⟨f2,e2,a2⟩:=A62 (S:=S) 0 a1 hst (by decide) (by omega) hnx
 obtain ⟨f3,e3,a3⟩:=B9y (S:=S) a2 hst k0 (by decide) (by omega) hnx
 obtain ⟨f4,e4,a4⟩:=B2Q (S:=S) (mm:=B59) l hl hst hnx 8 a3 (by simp;omega) (by omega)
 obtain ⟨f5,e5,a5⟩:=A62 (S:=S) 1 a4 hst (by simp;omega) (by omega) hnx
 obtain ⟨f6,e6,a6⟩:=A62 (S:=S) 0 a5 hst (by simp;omega) (by omega) hnx
 rw [List.append_assoc] at a6
 obtain ⟨f7,e7,a7⟩:=B4s (S:=S) l.length hk a6 (by simp) hst (by decide) (by simp) k1 (by omega) hnx
 obtain ⟨f8,e8,a8⟩:=A62 (S:=S) 2 a7 hst (by simp) (by omega) hnx
 obtain ⟨f9,e9,a9⟩:=A62 (S:=S) 0 a8 hst (by simp) (by omega) hnx
 obtain ⟨f10,e10,a10⟩:=B4s (S:=S) (ws:=[]) 0 (by decide) a9 rfl hst (by decide) (by simp) k2 (by omega) hnx
 have chain:V7 (J2 prG doG) (8+l.length+3) (P3 m (A0l l fails)) S=V7 (J2 prG doG) 2 f10 S:=by
  rw [W9 (k:=8+l.length+2) e1 a0.fen,W9 (k:=8+l.length+1) e2 a1.fen,W9 (k:=8+l.length) e3 a2.fen,e4,
   W9 (k:=7) e5 a4.fen,W9 (k:=6) e6 a5.fen,W9 (k:=5) e7 a6.fen,W9 (k:=4) e8 a7.fen,W9 (k:=3) e9 a8.fen,W9 (k:=2) e10 a9.fen]
 cases fails with
 | true=>exact ⟨_,f10,chain.trans (A80 a10.fen (B74 a10) (by decide)),fun h=>by cases h⟩
 | false =>
  obtain ⟨f11,e11,b1,b2,b3,b4⟩:=B75 (S:=S) a10 hst (by decide) hnx
  refine ⟨_,f11,chain.trans ((W9 e11 a10.fen).trans (B2C b1)),fun _=>⟨?_,b3,b4⟩⟩
  rw [b2];unfold B0o;omega
end Go.Proofs.YtfflppedbopdpaaGreat
namespace Go.Proofs.YtfflppedbopdpaaGreat
open Go.RowKit Go.Mun
theorem B5k {base:Nat} {w:World} {g k cc c':Nat} {ad:Addr} {a z:Nat} {ts:List Nat} (hk:ts.length=k) (hr:w.row? g 0 ((k+2)*32)=some (D3 (a :: z :: ts))) (had:k≠0→ad=⟨g,64,none⟩):G8 w (some ad) c' k 32 (D3 ts):=by
 have hok:=B0Z ts
 rw [hk] at hok
 by_cases h0:k=0
 ·subst h0
  exact ⟨hok,fun h=>absurd rfl h,fun h=>by cases h⟩
 ·rw [had h0]
  refine G8.row ?_ hok _
  have:=World.row?_sub hr (o':=64) (n':=k*32) (by omega) (by omega)
  rw [this]
  have e:=A02 (a :: z :: ts) 2
  simp only [Nat.zero_add,Nat.sub_zero]
  rw [show (64:Nat)=2*32 from rfl,e,List.take_of_length_le (by rw [A8r];simp [hk])]
  rfl
theorem B6y {E:Env} {w:World} {own:Go.Mun.Own} {c:FV} {f:Fr} {S:St} {n:Nat} {v:Value} (a z:Nat) (ts:List Nat) (cost q:Nat) (h:E6 E w own c f S n) (hN:E.N≤1099511627776) (hw:Wds E.w0.heap.size w v (a :: z :: ts)) (hgf:∀ g,v.ownBlock=some g→g≠E.fb∧c.mv.ownBlock≠some g)
  (ha:a < wW) (hz:z < wW) (htw:∀ t∈ts,t < wW) (hts:ts.length≤4) (hK:K4 f.mem.length a z=some (cost,q)) (hg:cost+8*z≤f.gas) (hsl:n+1+f.gas≤E.N) :
  Calls Tryz.prog 383 #[.pointer (some ⟨E.fb,0,none⟩),v] w (A1E E (A7P f S (a :: z :: ts))):=by
 obtain ⟨k,hk⟩:∃ k,k=ts.length:=⟨_,rfl⟩
 obtain ⟨a',ha'⟩:∃ a',a'=(if z=0 then 0 else a):=⟨_,rfl⟩
 obtain ⟨F1,hF1⟩:∃ F1:Fr,F1={ f with mem:=f.mem++List.replicate q 0,gas:=f.gas - cost }:=⟨_,rfl⟩
 have HW:Hid (A7P f S (a :: z :: ts) = .ok { F1 with gas:=F1.gas - 8*z,logs:=F1.logs++[⟨F1.m.to,ts,T9 F1.mem a' z⟩] } S):=by
  show A7P f S (a :: z :: ts)=_
  unfold A7P
  show (if 4 < ts.length then Res.none else _)=_
  rw [if_neg (by omega),hK]
  simp only
  rw [if_pos hg,hF1,ha']
 have har:=B0n hK
 rw [← ha'] at har
 obtain ⟨adv,cc,rfl,hc1,hc2,hc3⟩:=hw
 obtain ⟨g,rfl,hgb,hgl,hrow⟩:=hc3 (by simp)
 have hlen:(a :: z :: ts).length=k+2:=by simp [hk]
 rw [hlen] at hrow hc1 ⊢
 obtain ⟨ad,c',hsl2,hs1,hs2,hs3⟩:=A6J g k cc hc1
 have r0:w.row? g 0 32=some (A3 32 a):=by
  have:=World.row?_sub hrow (o':=0) (n':=32) (by omega) (by omega)
  simpa [D3,List.take_left'] using this
 have r1:w.row? g 32 32=some (A3 32 z):=by
  have:=World.row?_sub hrow (o':=32) (n':=32) (by omega) (by omega)
  rw [this]
  simp [D3,List.drop_left',List.take_left']
 have HGN:=hid (hgf g rfl)
 have HGL:=hid hgl
 obtain ⟨T,hT⟩:∃ T:World→Prop,T=A1D g a z:=⟨_,rfl⟩
 have HT:=hid hT
 have HDR:Hid (∀ W,Below w.heap.size w W→W.row? g 0 ((k+2)*32)=some (D3 (a :: z :: ts))):=fun W hb=>((C7 hb).1 _ _ _ hgl).trans hrow
 have hd0:Below w.heap.size w w.drew:=(Below.refl _ _).drew
 have H0:=hid (h.below hd0)
 have R0:Hid (w.drew.row? g 0 ((k+2)*32)=some (D3 (a :: z :: ts))):=HDR.out _ hd0
 have t0:T w.drew:=by rw [hT];exact A1D.next ⟨r0,r1⟩ hd0
 have HTO:Hid (∀ W W',T W→A0 (fun b=>b=E.fb∨c.mv.ownBlock=some b) W W'→T W'):=by
  show ∀ W W',T W→A0 (fun b=>b=E.fb∨c.mv.ownBlock=some b) W W'→T W'
  rw [hT]
  exact fun W W' h ho=>h.only ho (fun hh=>hh.elim HGN.out.1 HGN.out.2)
 have HTB:Hid (∀ W W',T W→Below W.heap.size W W'→T W'):=by
  show ∀ W W',T W→Below W.heap.size W W'→T W'
  rw [hT]
  exact fun W W' h hb=>h.next hb
 have HG:Hid (∀ W,E6 E W own c f S n→Calls Tryz.prog 217 #[.pointer (some ⟨E.fb,0,none⟩),.agg (A3 32 a).toArray,.agg (A3 32 z).toArray] W fun e w' => ∃ mv',e = .returned (.agg #[.int .i64 (a':Int),.int .i64 (z:Int)])∧E6 E w' own { c with mv:=mv' } F1 S n∧A0 (fun b=>b=E.fb∨c.mv.ownBlock=some b) W w'∧∀ g,mv'.ownBlock=some g→c.mv.ownBlock=some g∨W.heap.size≤g):=by
  intro W hW
  refine (A9h a z ha hz hW hN).mono ?_
  rintro e w' (⟨hk,_⟩ | ⟨cost',q',mv',hk,(⟨hc,rfl,hfr,ho,hmv⟩ | ⟨hc,_⟩)⟩)
  ·rw [hK] at hk;cases hk
  ·rw [hK] at hk;cases hk
   rw [← ha',hF1]
   exact ⟨mv',rfl,hfr,ho,hmv⟩
  ·rw [hK] at hk;cases hk;omega
 have HA:=hid har
 have HTS:=hid (And.intro hk (And.intro hts htw))
 have HS:=hid hs3
 have hgas:8*z≤F1.gas:=by rw [hF1];show 8*z≤f.gas - cost;omega
 have HGAS:=hid hgas
 have hF1g:F1.gas≤f.gas:=by rw [hF1];exact Nat.sub_le _ _
 have HSL:Hid (n+1+F1.gas≤E.N):=by show _≤_;omega
 have HNN:=hid hN
 have hwk:IntKind.i64.wrap (k:Int)=(k:Int):=U6 _ (by omega) (by omega)
 have HF1:=hid hF1
 have hzl:=X6
 have hb0:(0:Int) < (k:Int)+2:=by omega
 have hb1:(1:Int) < (k:Int)+2:=by omega
 have hgz:=B6u k z har.2
 have HGZ:=hid hgz
 clear hrow hgb hgl hgf r0 r1 hT hd0 h ha hz htw hts hK hg hsl hN har ha' hF1 hlen hc1 hc2 hc3 hs1 hs2 hs3 hk hgas hF1g hgz HDR
 go_enter Tryz.func383,Tryz.ntmps383
 go_wp2_with fail
 refine A7 T [9] (.pure 0 (.pure 1 (.pure 2 (.take 3 (.pure 4 (.pure 5 (.take 6 (.alt 7 (.alt 8 (.alt 9 .fin .stop) .stop) (.alt 8 (.alt 7 (.alt 9 .fin .stop) .stop) .stop))))))))) (by kernel_rfl) (by kernel_rfl) ?_
 generalize w.drew=v0 at *
 refine (fun (HJpab:∀ (y:World) (mb:Nat) (mv1:Value),(T y)→(Hid (E6 E (y.setCells mb 0 [.int .i64 (a':Int),.int .i64 (z:Int)]) own { c with mv:=mv1 } F1 S n))→(Hid (y.free? mb 0 2=true))→(Hid (y.row? g 0 ((k+2)*32)=some (D3 (a :: z :: ts))))→(Hid (mb≠g∧mb≠E.fb∧¬ c.lv.ownBlock=some mb))→(?Jpab:World→Nat→Value→Prop) y mb mv1)=>?mpab) ?tpab
 case mpab =>
  iterate 7
   first
   |refine A2 ?_ rfl (by rfl) (fun w' hs=>?_) (fun _ _ _ h=>h) ?_
    rotate_left
    ·clear hs
     go_simp
     try rfl
    simp only [Act.put,D7,D6,D5]
   |refine A9 ?_ t0 rfl (by rfl) (fun w' hs=>?_) (fun _ _ _ h=>h) ?_
    rotate_left
    ·rw [HT.out] at hs
     obtain ⟨q0,q1⟩:=hs
     go_simp
     try rfl
    simp only [Act.put,D7,D6,D5]
  refine P6 rfl (fun K hK=>?_) ?_
  ·go_simp
   refine (HG.out _ H0.out).mono ?_
   rintro e wg ⟨mv1,rfl,hfr,ho,hmv⟩
   have tg:T wg:=HTO.out _ _ t0 ho
   have HR:=hid hfr
   have RG:Hid (wg.row? g 0 ((k+2)*32)=some (D3 (a :: z :: ts))):=by show _=_;rw [ho.row? (World.row?_lt R0.out) (fun hh=>hh.elim HGN.out.1 HGN.out.2)];exact R0.out
   clear hfr ho hmv
   refine hK.out _ _ tg ?_
   clear hK K
   refine A5 rfl (fun K hK=>?_)
   go_simp
   obtain ⟨mb,em⟩:∃ mb,mb=wg.heap.size:=⟨_,rfl⟩
   obtain ⟨wa,ea⟩:∃ wa,wa=wg.alloc (.cells (B8 A07).toArray 239):=⟨_,rfl⟩
   have hb:Below wg.heap.size wg wa:=by rw [ea];exact (Below.refl _ _).alloc (Nat.le_refl _) _
   have hfa:wa.free? mb 0 2=true:=by rw [ea,em];exact World.free?_alloc_at _ _ rfl (by rw [X6];omega)
   have ta:T wa:=HTB.out _ _ tg hb
   have hra:wa.row? g 0 ((k+2)*32)=some (D3 (a :: z :: ts)):=((C7 hb).1 _ _ _ (World.row?_lt RG.out)).trans RG.out
   have HZ:Hid (E6 E (wa.setCells mb 0 [.int .i64 (a':Int),.int .i64 (z:Int)]) own { c with mv:=mv1 } F1 S n):=by
    have hb2:Below wg.heap.size wg (wa.setCells mb 0 [.int .i64 (a':Int),.int .i64 (z:Int)]):=by rw [ea,em];exact ((Below.refl _ _).alloc (Nat.le_refl _) _).setCells (Nat.le_refl _) _ _
    exact HR.out.below hb2
   have HYB:=hid hfa
   have HTR:=hid hra
   have HMB:Hid (mb≠g∧mb≠E.fb∧¬ c.lv.ownBlock=some mb):=by have h2:=HR.out.lt;have h3:=World.row?_lt RG.out;obtain ⟨_,h4,_⟩:=HR.out.logs;exact ⟨by omega,by omega,fun e=>by have:=B0 h4 _ e;omega⟩
   rw [← em,← ea]
   clear hb ea em hfa hra
   refine hK.out _ _ ta ?_
   clear hK K
   exact HJpab _ mb mv1 (by assumption) HZ HYB HTR HMB
  refine A5 rfl (fun K hK=>?_)
  go_simp
  obtain ⟨mb,em⟩:∃ mb,mb=v0.heap.size:=⟨_,rfl⟩
  obtain ⟨wa,ea⟩:∃ wa,wa=v0.alloc (.cells (B8 A07).toArray 239):=⟨_,rfl⟩
  have hb:Below v0.heap.size v0 wa:=by rw [ea];exact (Below.refl _ _).alloc (Nat.le_refl _) _
  have hfa:wa.free? mb 0 2=true:=by rw [ea,em];exact World.free?_alloc_at _ _ rfl (by rw [X6];omega)
  have ta:T wa:=HTB.out _ _ t0 hb
  have hra:wa.row? g 0 ((k+2)*32)=some (D3 (a :: z :: ts)):=((C7 hb).1 _ _ _ (World.row?_lt R0.out)).trans R0.out
  have HA:=hid (H0.out.below hb)
  have RA:=hid hra
  have HFA:=hid hfa
  have HEA:=hid ea
  have HEM:=hid em
  rw [← em,← ea]
  clear hb ea em hfa hra
  refine hK.out _ _ ta ?_
  clear hK K
  refine A5 rfl (fun K hK=>?_)
  go_simp
  refine (HG.out _ HA.out).mono ?_
  rintro e wg ⟨mv1,rfl,hfr,ho,hmv⟩
  have tg:T wg:=HTO.out _ _ ta ho
  have HZ:Hid (E6 E (wg.setCells mb 0 [.int .i64 (a':Int),.int .i64 (z:Int)]) own { c with mv:=mv1 } F1 S n):=by
   show E6 _ _ _ _ _ _ _
   rw [HF1.out] at hfr ⊢
   exact A5D H0.out HEA.out HEM.out hfr ho hmv (Nat.sub_le _ _) _
  have HYB:Hid (wg.free? mb 0 2=true):=by show _=_;rw [ho.free? (C1 HFA.out) (fun hx=>by have h1:=HEM.out;have h2:=H0.out.lt;have h3:=B0 H0.out.mem;rcases hx with hx | hx;omega;have:=h3 _ hx;omega)];exact HFA.out
  have HMB:Hid (mb≠g∧mb≠E.fb∧¬ c.lv.ownBlock=some mb):=by have h1:=HEM.out;have h2:=H0.out.lt;have h3:=World.row?_lt R0.out;obtain ⟨_,h4,_⟩:=H0.out.logs;exact ⟨by omega,by omega,fun e=>by have:=B0 h4 _ e;omega⟩
  have HTR:Hid (wg.row? g 0 ((k+2)*32)=some (D3 (a :: z :: ts))):=by show _=_;rw [ho.row? (World.row?_lt RA.out) (fun hh=>hh.elim HGN.out.1 HGN.out.2)];exact RA.out
  clear hfr ho hmv
  refine hK.out _ _ tg ?_
  clear hK K
  exact HJpab _ mb mv1 (by assumption) HZ HYB HTR HMB
 case tpab =>
  intro y mb mv1 ty HZ HYB HTR HMB
  refine J8 rfl (by simp) (fun K hK=>?_)
  have ff9:=HYB.out
  go_simp
  refine hK.out _ _ ?_
  clear hK K
  refine C2 ?_
  obtain ⟨wz,ez⟩:∃ wz,wz=y.setCells mb 0 [.int .i64 (a':Int),.int .i64 (z:Int)]:=⟨_,rfl⟩
  have hzr:wz.row? mb 0 2=some [.int .i64 (a':Int),.int .i64 (z:Int)]:=by rw [ez];exact B7 _ HYB.out rfl
  have oz:A0 (· = mb) y wz:=by rw [ez];exact (A0.refl (· = mb) _).setCells (fun _=>rfl) _ _
  have hzt:wz.row? g 0 ((k+2)*32)=some (D3 (a :: z :: ts)):=by rw [oz.row? (World.row?_lt HTR.out) (fun e=>HMB.out.1 e.symm)];exact HTR.out
  rw [← ez] at HZ
  have hcz:(y.setCells mb 0 [.int .i64 (a':Int),.int .i64 (z:Int)]).cell? ⟨mb,1,none⟩=some (.int .i64 (z:Int)):=by rw [← ez];have:=World.row?_cell hzr (show 1 < 2 by omega);rwa [Nat.zero_add] at this
  have HEZ:=hid ez
  have HZR:=hid hzr
  have HZT:=hid hzt
  clear hzr hzt ez oz HT ty t0 HTO HTB HYB HTR T
  go_wp2_with fail
  rw [← HEZ.out]
  refine (HGZ.out _).mono ?_
  rintro e w2 ⟨rfl,rfl⟩
  clear hcz
  go_wp2_with fail
  refine (A1P (8*z) HZ.out HNN.out).mono ?_
  rintro e w3 (⟨_,rfl,h3,ho3⟩ | ⟨hno,_⟩)
  rotate_left
  ·exact absurd HGAS.out hno
  obtain ⟨F2,hF2⟩:∃ F2:Fr,F2={ F1 with gas:=F1.gas - 8*z }:=⟨_,rfl⟩
  rw [← hF2] at h3
  have HF2:=hid hF2
  obtain ⟨c2,hc2⟩:∃ c2:FV,c2={ c with mv:=mv1 }:=⟨_,rfl⟩
  rw [← hc2] at h3
  have h3u:E6 E w3 own c2 F2 S (n+1):=Go.Mun.FrOk_up h3 (Nat.le_succ _) (by rw [hF2];show n+1+(F1.gas - 8*z)≤E.N;have:=HSL.out;omega)
  obtain ⟨la,lc,hlv⟩:∃ la lc,c2.lv = .slice la F2.logs.length lc:=by obtain ⟨cs,hl,_⟩:=h3.logs;exact E9 hl
  have HLL:Hid (F2.logs.length≤1099511627776):=by have h1:=h3.llen;have h2:=h3.cnt;have h4:=HNN.out;show _≤_;omega
  have hz3:w3.row? mb 0 2=some [.int .i64 (a':Int),.int .i64 (z:Int)]:=by rw [ho3.row? (World.row?_lt HZR.out) HMB.out.2.1];exact HZR.out
  have hg3:w3.row? g 0 ((k+2)*32)=some (D3 (a :: z :: ts)):=by rw [ho3.row? (World.row?_lt HZT.out) HGN.out.1];exact HZT.out
  have hd3:Below w3.heap.size w3 w3.drew:=(Below.refl _ _).drew
  have H3:=hid (h3u.below hd3)
  have HS3:Hid (G8 w3.drew (some ad) c' k 32 (D3 ts)):=B5k (base:=0) (cc:=cc) HTS.out.1.symm (((C7 hd3).1 _ _ _ (World.row?_lt hg3)).trans hg3) HS.out
  obtain ⟨T,hT⟩:∃ T:World→Prop,T=fun W=>W.row? E.fb 0 141=some (B8 (frS E.rb c2 F2))∧W.row? mb 0 2=some [.int .i64 (a':Int),.int .i64 (z:Int)]:=⟨_,rfl⟩
  have HT:=hid hT
  have HTB:Hid (∀ W W',T W→Below W.heap.size W W'→T W'):=by
   show ∀ W W',T W→Below W.heap.size W W'→T W'
   rw [hT]
   exact fun W W' ⟨x1,x2⟩ hb=>⟨((C7 hb).1 _ _ _ (World.row?_lt x1)).trans x1,((C7 hb).1 _ _ _ (World.row?_lt x2)).trans x2⟩
  have HLF:=hid (h3u.below hd3).lown
  have HTO:Hid (∀ W W',T W→A0 (fun b=>c2.lv.ownBlock=some b) W W'→¬ c2.lv.ownBlock=some mb→T W'):=by
   show ∀ W W',T W→A0 (fun b=>c2.lv.ownBlock=some b) W W'→¬ c2.lv.ownBlock=some mb→T W'
   rw [hT]
   exact fun W W' ⟨x1,x2⟩ hb hm=>⟨(hb.row? (World.row?_lt x1) (fun e=>(HLF.out _ e).2.1 rfl)).trans x1,(hb.row? (World.row?_lt x2) hm).trans x2⟩
  have tw:T w3.drew:=HTB.out w3 _ (by rw [hT];exact ⟨h3.row,hz3⟩) hd3
  have HLLN:=hid h3.llen
  have HLV:=hid hlv
  have HTOP:=hid h3.mok.to
  have HC2:=hid hc2
  clear hT hd3 hz3 hg3 h3 ho3 h3u hlv hF2 hc2 HZ HZR HZT HEZ
  go_wp2_with fail
  refine A7 T [21] (.pure 0 (.pure 1 (.pure 2 (.pure 3 (.take 4 (.pure 5 (.pure 6 (.pure 7 (.pure 8 (.take 9 (.pure 10 (.pure 11 (.pure 13 (.take 14 (.alt 12 (.alt 15 (.pure 16 (.alt 17 (.alt 18 (.pure 19 (.pure 20 (.alt 21 .fin .stop))) .stop) .stop)) .stop) .stop))))))))))))))) (by kernel_rfl) (by kernel_rfl) ?_
  generalize w3.drew=v3 at *
  refine (fun (HJqab:∀ (y2:World) (ta:Option Addr) (tc:Nat) (da:Option Addr) (dk:Nat),(T y2)→(Hid (Below v3.heap.size v3 y2))→(Hid (y2.ownsRow 0 25 32 (.slice ta k tc) k (D3 ts)))→(Hid (∀ b,(Value.slice ta k tc).ownBlock=some b→v3.heap.size≤b))→(Hid (J3 y2 (mn E own c2) (.slice da z dk) (T9 F2.mem a' z)))→(?Jqab:World→Option Addr→Nat→Option Addr→Nat→Prop) y2 ta tc da dk)=>?mqab) ?tqab
  case mqab =>
   iterate 14
    first
    |refine A2 ?_ rfl (by rfl) (fun w' hs=>?_) (fun _ _ _ h=>h) ?_
     rotate_left
     ·clear hs
      go_simp
      try rfl
     simp only [Act.put,D7,D6,D5]
    |refine A9 ?_ tw rfl (by rfl) (fun w' hs=>?_) (fun _ _ _ h=>h) ?_
     rotate_left
     ·rw [HT.out] at hs
      obtain ⟨q0,q1⟩:=hs;have q3:=A2s (B79 q0);simp only [Nat.reduceAdd] at q3;have q4:=B62 q0;rw [HLV.out] at q4
      go_simp
      try rfl
     simp only [Act.put,D7,D6,D5]
   refine A5 rfl (fun K hK=>?_)
   go_simp
   refine (A4b (some ad) k c' (D3 ts) (by have:=HTS.out;omega) _ HS3.out).mono ?_
   rintro e wc ⟨tv,rfl,htv,htg,hbc⟩
   obtain ⟨ta,tc,rfl⟩:=E9 htv
   have tcc:T wc:=HTB.out _ _ tw hbc
   have HBc:=hid hbc
   have HTV:=hid htv
   have HTG:=hid htg
   clear htv htg hbc
   refine hK.out _ _ tcc ?_
   clear hK K
   refine A5 rfl (fun K hK=>?_)
   go_simp
   refine (B2Z a' z HA.out.1 HA.out.2 (H3.out.below HBc.out)).mono ?_
   rintro e wb ⟨dv,rfl,hnb⟩
   have tb:T wb:=HTB.out _ _ tcc hnb.below
   have hdv:J3 wb (mn E own c2) dv (T9 F2.mem a' z):=B4g (H3.out.below HBc.out) hnb (A3I H3.out.mbyte _ _) (by rw [N5];have:=HA.out.2;omega)
   obtain ⟨da,dk,hdf⟩:∃ a k,dv = .slice a z k:=by obtain ⟨⟨a',k',h1,_⟩,_⟩:=hdv;exact ⟨a',k',by rw [h1,N5]⟩
   subst hdf
   have HBy:Hid (Below v3.heap.size v3 wb):=HBc.out.trans (hnb.below.mono HBc.out.size)
   have HDY:=hid hdv
   replace HTV:=hid (C3 HTV.out hnb.below)
   clear hnb hdv
   refine hK.out _ _ tb ?_
   clear hK K
   refine A2 (.agg (lgC F2.m.to (.slice ta k tc) (.slice da z dk)).toArray) rfl (by rfl) (fun w' hs=>?_) (fun _ _ _ h=>h) ?_
   ·clear hs
    have hbl:=B4O F2.m.to ta da k tc z dk
    go_simp
   simp only [Act.put,D7,D6,D5]
   exact HJqab _ ta tc da dk (by assumption) HBy HTV HTG HDY
  case tqab =>
   intro y2 ta tc da dk t2 HBy HTV HTG HDY
   refine A5 rfl (fun K hK=>?_)
   go_simp
   obtain ⟨w5,e5⟩:∃ w5,w5=y2.alloc (.cells (lgC F2.m.to (.slice ta k tc) (.slice da z dk)).toArray 58):=⟨_,rfl⟩
   have hb5:Below y2.heap.size y2 w5:=by rw [e5];exact (Below.refl _ _).alloc (Nat.le_refl _) _
   have t5:T w5:=HTB.out _ _ t2 hb5
   rw [← e5]
   have HE5:=hid e5
   have HB5:=hid hb5
   clear e5 hb5
   refine hK.out _ _ t5 ?_
   clear hK K
   refine A5 rfl (fun K hK=>?_)
   have H4:=hid (H3.out.below HBy.out)
   obtain ⟨lcs,hlo1,hlo2⟩:=H4.out.logs
   have HLO:=hid hlo2
   have HLO5:=hid (D9 (C3 hlo1 HB5.out) (Nat.zero_le _))
   rw [HLV.out] at HLO5
   have hlm:¬ c2.lv.ownBlock=some mb:=(by rw [HC2.out];exact HMB.out.2.2)
   have HSRC:Hid (G8 w5 (some ⟨y2.heap.size,0,none⟩) 1 1 22 (lgC F2.m.to (.slice ta k tc) (.slice da z dk))):=by show G8 _ _ _ _ _ _;rw [HE5.out];exact G8.new y2 (m:=1) (size:=22) (cs:=(lgC F2.m.to (.slice ta k tc) (.slice da z dk))) 58 (0,0) (B4p _ _ _ _ _ _ _) 1
   clear hlo1 hlo2
   refine K9 B63 rfl _ _ rfl HLO5.out rfl HSRC.out rfl (by have:=HLL.out;unfold maxLen;omega) (by have:=HLL.out;omega) ?_
   intro lv2 w6 hv6 ho6 hn6
   have ho46:A0 (fun b=>c2.lv.ownBlock=some b) y2 w6:=(A0.mono (S:=fun _=>False) (A0.of_below_size HB5.out) (fun _ (h:False)=>h.elim)).trans (by rw [HLV.out];exact ho6) (fun i hi _=>hi)
   have t6:T w6:=HTO.out _ _ t2 ho46 hlm
   have hl2:lv2.oneCell'=true:=by obtain ⟨_,_,rfl⟩:=A1d hv6;rfl
   have f139:w6.free? E.fb 139 1=true:=by rw [ho46.free? H4.out.lt (fun e=>(HLF.out _ e).2.1 rfl)];exact H4.out.one (by omega)
   have HRES:Hid (E6 E (w6.setCell ⟨E.fb,139,none⟩ lv2) own { c2 with lv:=lv2 } { F2 with logs:=F2.logs++[⟨F2.m.to,ts,T9 F2.mem a' z⟩] } S (n+1)):=by
    refine Go.Mun.FrOk_log H4.out ho46 HLO.out (B2F (g:=⟨F2.m.to,ts,T9 F2.mem a' z⟩) (by rw [← HTS.out.1];exact HTV.out) (fun b hb=>B7U H3.out (HTG.out b hb)) (Below.refl _ _) HTOP.out HTS.out.2.2 HDY.out) hv6 ?_ (Nat.succ_le_succ (HLLN.out))
    intro b hb
    rcases hn6 b hb with h | h
    ·exact .inl (by rw [HLV.out];exact h)
    ·exact .inr (Nat.le_trans HB5.out.size h)
   clear hv6 ho6 hn6 ho46
   refine hK.out _ _ t6 ?_
   clear hK K
   iterate 2
    refine A2 ?_ rfl (by rfl) (fun w' hs=>?_) (fun _ _ _ h=>h) ?_
    rotate_left
    ·clear hs
     go_simp
     try rfl
    simp only [Act.put,D7,D6,D5]
   refine J8 rfl (by simp) (fun K hK=>?_)
   go_simp
   refine hK.out _ _ ?_
   clear hK K
   refine C2 ?_
   go_wp2
   go_end0
   rw [HW.out]
   rw [HF2.out] at HRES
   exact ⟨rfl,own,_,n+1,HRES.out⟩
end Go.Proofs.YtfflppedbopdpaaGreat
namespace Go.Proofs.YtfflppedbopdpaaGreat
open Go.RowKit Go.Mun
theorem A6a (f:Fr) (S:St) (a x:Nat):L4 f S a x≠.none:=by
 unfold L4
 split
 ·simp
 ·split <;> simp
theorem B21 {E:Env} {w:World} {own:Go.Mun.Own} {c:FV} {f:Fr} {S:St} {n:Nat} {v:Value} (a x:Nat) (ht:A3Q E.tab) (h:E6 E w own c f S n) (hN:E.N≤1099511627776) (hw:Wds E.w0.heap.size w v [a,x]) (hgf:∀ g,v.ownBlock=some g→g≠E.fb∧c.mv.ownBlock≠some g) (ha:a < wW) :
  Calls Tryz.prog 374 #[.pointer (some ⟨E.fb,0,none⟩),.int .u8 83,v] w (A1E E (L4 f S a x)):=by
 have hr:=h.run.chg h.chg
 have c0:=A3b h.row
 have c1:=hr.tp
 have hlk:=A8n hr ht (k:=83) (f:=140) 83 rfl (by decide) (by decide)
 have HS:=hid (B0v a x h hN hw hgf ha)
 clear hr ht h hw hgf ha
 go_enter Tryz.func374,Tryz.ntmps374
 go_wp2_with fail
 refine HS.out.mono ?_
 intro e w2 hp
 rcases A1E.split (A6a f S a x) hp with ⟨rfl,hp⟩ | ⟨y,rfl,hp⟩
 ·have HP:=hid hp
  clear hp
  go_wp2
  go_end0
  exact HP.out
 ·have HP:=hid hp
  clear hp
  go_wp2
  exact ⟨rfl,HP.out⟩
end Go.Proofs.YtfflppedbopdpaaGreat
namespace Go.Proofs.YtfflppedbopdpaaGreat
open Go.RowKit Go.Mun
theorem A2K (f:Fr) (S:St) (a n:Nat) (ts:List Nat):A7P f S (a :: n :: ts)=if 4 < ts.length then .none else match K4 f.mem.length a n with
  | Option.none => .none
  | some (cost,z)=>if cost+8*n≤f.gas then .ok { f with mem:=f.mem++List.replicate z 0,gas:=f.gas - cost - 8*n,logs:=f.logs++[⟨f.m.to,ts,T9 (f.mem++List.replicate z 0) (if n=0 then 0 else a) n⟩] } S else .none:=rfl

theorem B8h {E:Env} {w:World} {own:Go.Mun.Own} {c:FV} {f:Fr} {S:St} {n:Nat} {v:Value} (m:Nat) (hm:160≤m∧m≤164) (a z:Nat) (ts:List Nat) (cost q:Nat) (h:E6 E w own c f S n) (hN:E.N≤1099511627776) (hw:Wds E.w0.heap.size w v (a :: z :: ts)) (hgf:∀ g,v.ownBlock=some g→g≠E.fb∧c.mv.ownBlock≠some g)
  (ha:a < wW) (hz:z < wW) (htw:∀ t∈ts,t < wW) (hts:ts.length≤4) (hK:K4 f.mem.length a z=some (cost,q)) (hg:cost+8*z≤f.gas) (hsl:n+1+f.gas≤E.N) :
  Calls Tryz.prog 374 #[.pointer (some ⟨E.fb,0,none⟩),.int .u8 (m:Int),v] w (A1E E (A7P f S (a :: z :: ts))):=by
 have HS:=hid (B6y a z ts cost q h hN hw hgf ha hz htw hts hK hg hsl)
 have hne:A7P f S (a :: z :: ts)≠.none:=by
  rw [A2K,if_neg (by omega),hK]
  simp only
  rw [if_pos hg]
  exact fun e=>by cases e
 have d0:decide ((95:Int)≤(m:Int))=true:=decide_eq_true (by omega)
 have d1:decide ((m:Int)≤127)=false:=decide_eq_false (by omega)
 have d2:decide ((160:Int)≤(m:Int))=true:=decide_eq_true (by omega)
 have d3:decide ((m:Int)≤164)=true:=decide_eq_true (by omega)
 clear h hw hgf ha hz htw hts hK hg hsl hN hm
 go_enter Tryz.func374,Tryz.ntmps374
 go_wp2_with fail
 refine HS.out.mono ?_
 intro e w2 hp
 rcases A1E.split hne hp with ⟨rfl,hp⟩ | ⟨y,rfl,hp⟩
 ·have HP:=hid hp
  clear hp
  go_wp2
  go_end0
  exact HP.out
 ·have HP:=hid hp
  clear hp
  go_wp2
  exact ⟨rfl,HP.out⟩
theorem B3F {sb rb tb:Nat} {cx:Ctx} {tab:Y2} (ht:A3Q tab):A2z sb rb tb cx tab A1v:=by
 intro E w own c f S n h1 h2 h3 h4 h5 hN h hlt hne
 refine A5G h hN hlt A9x A6z hne ?_ (fun w own c f' n _ hh=>absurd rfl hh)
 intro w' own' c' f' n' v l hf hn2 hw hv hb hcost
 have ht':A3Q E.tab:=by rw [h5];exact ht
 unfold A9x at hn2 ⊢
 split at hn2
 ·rename_i hc
  rw [if_pos hc]
  unfold B35 at hn2 ⊢
  split at hn2
  ·rename_i hd
   rw [if_pos hd]
   obtain ⟨m,hm⟩:∃ m:Nat,V9 f=m:=⟨(V9 f).toNat,by omega⟩
   rw [hm] at hc hd ⊢
   have e:((m:Int) - 95).toNat=m - 95:=by omega
   rw [e] at hd ⊢
   exact B1y m ⟨by omega,by omega⟩ hf hd.1 hd.2
  ·exact absurd rfl hn2
 rename_i hc1
 rw [if_neg hc1]
 split at hn2
 ·rename_i hc
  rw [if_pos hc,hc]
  match l,hw,hv,hb,hn2 with
  | [a,x],hw,hv,hb,_=>exact B21 a x ht' hf hN hw (fun g hg=>⟨(hb g (by simp) hg).1,(hb g (by simp) hg).2.2.1⟩) (hv a (by simp))
  | [],_,_,_,hn2=>exact absurd rfl hn2
  | [_],_,_,_,hn2=>exact absurd rfl hn2
  | _ :: _ :: _ :: _,_,_,_,hn2=>exact absurd rfl hn2
 rename_i hc2
 rw [if_neg hc2]
 split at hn2
 ·rename_i hc
  rw [if_pos hc]
  obtain ⟨m,hm⟩:∃ m:Nat,V9 f=m:=⟨(V9 f).toNat,by omega⟩
  rw [hm] at hc hcost ⊢
  match l,hw,hv,hb,hn2 with
  | [],_,_,_,hn2=>exact absurd rfl hn2
  | [_],_,_,_,hn2=>exact absurd rfl hn2
  | a :: z :: ts,hw,hv,hb,hn2 =>
   by_cases h4':ts.length≤4
   ·cases hK:K4 f'.mem.length a z with
    | none=>exact absurd (by rw [A2K,if_neg (by omega),hK]) hn2
    | some r =>
     obtain ⟨cost,q⟩:=r
     by_cases hg:cost+8*z≤f'.gas
     ·have ho:ofL (m:Int)=some ((m:Int) % 16+1+1,0,375*((m:Int) % 16+1)):=by
       unfold ofL
       rw [if_neg (by omega),if_neg (by omega),if_neg (by omega),if_pos (by omega)]
      have hs:=hcost _ _ _ ho
      exact B8h m ⟨by omega,by omega⟩ a z ts cost q hf hN hw (fun g hg=>⟨(hb g (by simp) hg).1,(hb g (by simp) hg).2.2.1⟩) (hv a (by simp)) (hv z (by simp)) (fun t ht=>hv t (by simp [ht])) h4' hK hg (by omega)
     ·exact absurd (by rw [A2K,if_neg (by omega),hK];simp only;rw [if_neg hg]) hn2
   ·exact absurd (by rw [A2K,if_pos (by omega)]) hn2
 ·exact absurd rfl hn2
end Go.Proofs.YtfflppedbopdpaaGreat
namespace Go.Proofs.YtfflppedbopdpaaGreat
open Go.RowKit Go.Mun
theorem B5X (n x:Nat) (hx:x < 256):n*256 ||| x=n*256+x:=by
 have:=Nat.two_pow_add_eq_or_of_lt (i:=8) (b:=x) (by simpa using hx) n
 rw [Nat.mul_comm]
 simpa using this.symm

theorem A6k (n x:Nat) (hn:n < 36028797018963968) (hx:x < 256):bits .or .i64 ((n:Int)*256) (x:Int)=((n*256+x:Nat):Int):=by
 have:=A4s (n*256) x (by omega) (by omega)
 rw [B5X n x hx] at this
 rw [← this]
 congr 1
def A2i (k:Nat):Option Nat:=if k < 9223372036854775808 then some k else none
theorem B4E (k e:Nat):k / 256 ^ (e+1)*256+k / 256 ^ e % 256=k / 256 ^ e:=by
 have:k / 256 ^ (e+1)=k / 256 ^ e / 256:=by rw [Nat.pow_succ,Nat.div_div_eq_div_mul]
 rw [this];omega
theorem A3v (k:Nat) (hk:k < 256 ^ 32) (w:World) :
  Calls Tryz.prog 257 #[.agg (A3 32 k).toArray] w fun e w'=>e = .returned (.tuple #[.int .i64 (((A2i k).getD 0:Nat):Int),.bool (A2i k).isSome])∧Below w.heap.size w w':=by
 obtain ⟨w0,e0⟩:∃ w0,w0=w.alloc (.cells (A3 32 k).toArray 25):=⟨_,rfl⟩
 have hb0:Below w.heap.size w w0:=by rw [e0];exact (Below.refl _ _).alloc (Nat.le_refl _) _
 have hr:w0.row? w.heap.size 0 32=some (A3 32 k):=by rw [e0];exact World.row?_alloc_at _ _ _ rfl (C4 32 k)
 have hc:∀ i,i < 32→w0.cell? ⟨w.heap.size,i,none⟩=some (.int .u8 ((k / 256 ^ (31 - i) % 256:Nat):Int)):=fun i hi=>by
  have:=World.row?_cell hr hi
  rw [Nat.zero_add,B41 k i hi] at this
  exact this
 have HC:=hid hc
 have HB:=hid hb0
 have HE:=hid e0
 have HN:Hid (∀ i,i < 24→k / 256 ^ (31 - i) % 256≠0→A2i k=none):=fun i hi h=>by
  unfold A2i
  rw [if_neg]
  intro hlt
  have h1:256 ^ 8≤256 ^ (31 - i):=Nat.pow_le_pow_right (by decide) (by omega)
  have h2:(256:Nat) ^ 8=18446744073709551616:=by decide
  have:k / 256 ^ (31 - i)=0:=Nat.div_eq_of_lt (by omega)
  rw [this] at h;exact h rfl
 have HS:Hid (∀ i,i < 24→k < 256 ^ (32 - i)→k / 256 ^ (31 - i) % 256=0→k < 256 ^ (32 - (i+1))):=fun i hi h h0=>by
  have e1:32 - i=(31 - i)+1:=by omega
  rw [e1,Nat.pow_succ] at h
  have h2:k / 256 ^ (31 - i) < 256:=Nat.div_lt_of_lt_mul (by omega)
  rw [Nat.mod_eq_of_lt h2] at h0
  have h3:0 < 256 ^ (31 - i):=Nat.pow_pos (by decide)
  have h4:k < 256 ^ (31 - i):=by
   rcases Nat.lt_or_ge k (256 ^ (31 - i)) with h5 | h5
   ·exact h5
   ·have:=Nat.div_pos h5 h3;omega
  have e2:32 - (i+1)=31 - i:=by omega
  rw [e2];exact h4
 have HK:Hid (k < 256 ^ (32 - 0)):=hk
 clear hr hc hb0 e0 hk
 go_enter Tryz.func257,Tryz.ntmps257
 go_wp2
 rw [← HE.out]
 go_loopw [4] (fun i wr => ∃ q:Nat,q≤24∧i = .int .i64 q∧wr=w0∧k < 256 ^ (32 - q)) (fun i _=>24 - (intOf i).toNat)
 case atStart=>exact ⟨0,by omega,rfl,rfl,HK.out⟩
 case round =>
  obtain ⟨q,hq,rfl,rfl,hkq⟩:=hrel
  have HKQ:=hid hkq
  clear hkq
  by_cases hlt:q < 24
  ·have ck:=HC.out q (by omega)
   have HN2:=hid (HN.out q hlt)
   have HS2:=hid (HS.out q hlt HKQ.out)
   generalize k / 256 ^ (31 - q) % 256=x at *
   by_cases hx:x=0
   ·have dx:((x:Int) != 0)=false:=by simp [hx]
    have HR:=hid (HS2.out hx)
    clear hx
    go_wp2
    go_roundw
    case rel=>exact ⟨q+1,by omega,by go_num,by first | trivial | rfl,HR.out⟩
    case measure=>simp [intOf];omega
   ·have dx:((x:Int) != 0)=true:=by simpa using hx
    have HR:=hid (HN2.out hx)
    clear hx
    go_wp2
    go_ret2
    rw [HR.out]
    exact ⟨rfl,HB.out⟩
  ·have hq24:q=24:=by omega
   subst hq24
   have ck:=HC.out 24 (by omega)
   have HF:Hid ((128≤k / 256 ^ (31 - 24) % 256→A2i k=none)∧(¬ 128≤k / 256 ^ (31 - 24) % 256→A2i k=some k∧k < 9223372036854775808)):=by
    have h1:=HKQ.out
    have h2:(256:Nat) ^ (32 - 24)=18446744073709551616:=by decide
    have h3:(256:Nat) ^ (31 - 24)=72057594037927936:=by decide
    rw [h2] at h1
    constructor
    ·intro h;rw [h3] at h;exact if_neg (by omega)
    ·intro h;rw [h3] at h;exact ⟨if_pos (by omega),by omega⟩
   generalize k / 256 ^ (31 - 24) % 256=y at *
   by_cases hy:128≤y
   ·have dy:decide ((128:Int)≤y)=true:=decide_eq_true (by omega)
    have HR:=hid (HF.out.1 hy)
    clear hy
    go_wp2
    go_ret2
    rw [HR.out]
    exact ⟨rfl,HB.out⟩
   ·have dy:decide ((128:Int)≤y)=false:=decide_eq_false (by omega)
    have HR:=hid (HF.out.2 hy)
    clear hy
    go_wp2
    go_loopw [5,6] (fun v i W2 => ∃ q:Nat,24≤q∧q≤32∧i = .int .i64 q∧v = .int .i64 ((k / 256 ^ (32 - q):Nat):Int)∧W2=wr) (fun _ i _=>32 - (intOf i).toNat)
    case atStart =>
     have h0 : k / 256 ^ (32 - 24) = 0 := Nat.div_eq_of_lt (by have := HR.out.2; have h2 : (256 : Nat) ^ (32 - 24) = 18446744073709551616 := by decide
                                                               omega)
     exact ⟨24,by omega,by omega,rfl,by rw [h0];rfl,rfl⟩
    case round =>
     obtain ⟨q,hq1,hq,rfl,rfl,rfl⟩:=hrel
     by_cases hlt:q < 32
     ·have ck:=HC.out q hlt
      have hst:=B4E k (31 - q)
      have e1:31 - q+1=32 - q:=by omega
      rw [e1] at hst
      have hB:k / 256 ^ (32 - q) < 36028797018963968:=by
       have h1:256 ^ 1≤256 ^ (32 - q):=Nat.pow_le_pow_right (by decide) (by omega)
       have h2:k / 256 ^ (32 - q)≤k / 256:=Nat.div_le_div_left (by simpa using h1) (by decide)
       have:=HR.out.2
       omega
      have hx:k / 256 ^ (31 - q) % 256 < 256:=Nat.mod_lt _ (by decide)
      have e2:32 - (q+1)=31 - q:=by omega
      generalize k / 256 ^ (32 - q)=B at *
      generalize k / 256 ^ (31 - q) % 256=x at *
      have hor:=A6k B x hB hx
      have hw:IntKind.i64.wrap ((B:Int)*256)=(B:Int)*256:=U6 _ (by omega) (by omega)
      have hxw:IntKind.i64.wrap (x:Int)=x:=U6 _ (by omega) (by omega)
      rw [hst] at hor
      have HOR:=hid e2
      clear hst hB hx e1 e2
      go_wp2
      go_roundw
      case rel=>exact ⟨q+1,by omega,by omega,by go_num,by rw [HOR.out];simp,by first | trivial | rfl⟩
      case measure=>simp [intOf];omega
     ·have hq32:q=32:=by omega
      subst hq32
      have hk1:k / 256 ^ (32 - 32)=k:=by simp
      rw [hk1]
      go_wp2
      go_ret2
      rw [HR.out.1]
      exact ⟨rfl,HB.out⟩
end Go.Proofs.YtfflppedbopdpaaGreat
