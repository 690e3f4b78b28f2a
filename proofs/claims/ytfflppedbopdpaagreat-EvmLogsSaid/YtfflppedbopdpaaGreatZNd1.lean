/- A part of the proof of EvmLogs: ZNd1. -/
import Derived.Test.YtfflppedbopdpaaGreatZEv9
import Derived.Test.YtfflppedbopdpaaGreatZLg2
import Derived.Test.YtfflppedbopdpaaGreatZEv12
import Derived.Test.YtfflppedbopdpaaGreatZRs12
import Derived.Test.YtfflppedbopdpaaGreatZSt9
import Derived.Test.YtfflppedbopdpaaGreatZRf9
set_option linter.unusedVariables false
set_option maxRecDepth 1000000
set_option maxHeartbeats 8000000
set_option linter.unusedSimpArgs false
namespace Go.Proofs.YtfflppedbopdpaaGreat
open Go.RowKit Go.Mun

theorem B39 (w:World) (own:Go.Mun.Own) (B:Nat) (e:Int):U4 w own B (.slice none 0 0) (.slice none 0 0) ⟨0,e,[],[],0⟩:=
 ⟨V1 _ _,⟨[],World.ownsRow_nil _ _ _ _,.nil⟩,fun g hg=>by simp [Value.ownBlock] at hg⟩
theorem B2u {w:World} {own:Go.Mun.Own} {B:Nat} {o:A1q} {ov lv:Value} (h:U4 w own B ov lv o):U4 w own B ov (.slice none 0 0) ⟨o.gas,o.err,o.out,[],0⟩:=
 ⟨h.out,⟨[],World.ownsRow_nil _ _ _ _,.nil⟩,fun g hg=>by simp [Value.ownBlock] at hg⟩
theorem B0y {w:World} {own:Go.Mun.Own} {sb rb tb:Nat} {cx:Ctx} {tab:Y2} {S S0:St} {M:List (Nat × St)} {n x:Nat} {o:A1q} {ov lv:Value} {B:Nat} (hst:StateAt TU w own sb S (M++[(x,S0)]) n) (hr:A0p w own sb rb tb cx tab) (ho:U4 w own B ov lv o) (he:o.err≠0∧o.err≠15) (hn:n≤1099511627776) :
  Calls Tryz.prog 241 #[.pointer (some ⟨rb,0,none⟩),.int .i64 x,.agg (B8 (F3 o ov lv)).toArray] w fun e w' => ∃ ov' lv',e = .returned (.agg (B8 (F3 ⟨0,o.err,[],[],0⟩ ov' lv')).toArray)∧StateAt TU w' own sb S0 M n∧T6 w w' own own∧U4 w' own B ov' lv' ⟨0,o.err,[],[],0⟩:=by
 obtain ⟨a,k,b,j,rfl,rfl⟩:=ho.forms
 have hol:=O7 o (.slice a o.out.length k) (.slice b o.logs.length j)
 obtain ⟨w1,e1⟩:∃ w1,w1=(w.alloc (.cells (B8 (F3 o (.slice a o.out.length k) (.slice b o.logs.length j))).toArray 41)).alloc (.cells (B8 L3).toArray 41):=⟨_,rfl⟩
 have hb1:Below w.heap.size w w1:=by rw [e1];exact ((Below.refl _ _).alloc (Nat.le_refl _) _).alloc (by simp) _
 have hr1:w1.row? w.heap.size 0 24=some (B8 (F3 o (.slice a o.out.length k) (.slice b o.logs.length j))):=by rw [e1,World.row?_alloc_lt _ (by simp)];exact World.row?_alloc_at _ _ _ rfl hol
 have hf1:w1.free? (w.heap.size+1) 0 24=true:=by rw [e1];exact World.free?_alloc_at _ _ (by simp) (by rw [K1];omega)
 have hf0:w1.free? w.heap.size 0 24=true:=by rw [e1,World.free?_alloc_lt _ (by simp)];exact World.free?_alloc_at _ _ rfl (by rw [hol];omega)
 have hs1:w1.heap.size=w.heap.size+1+1:=by rw [e1];simp
 obtain ⟨er,her⟩:∃ er,er=o.err:=⟨_,rfl⟩
 have hx1:(B8 (F3 o (.slice a o.out.length k) (.slice b o.logs.length j)))[1]'(by rw [O7];omega) = .int .i64 er:=by rw [her];rfl
 have hx2:((B8 (F3 o (.slice a o.out.length k) (.slice b o.logs.length j)))[1]? : Option Value)=some (.int .i64 er):=by rw [her];rfl
 have n0:¬ er=0:=by rw [her];exact he.1
 have n1:¬ er=15:=by rw [her];exact he.2
 have q1:(er == 0)=false:=by simpa using n0
 have q1':decide (er=0)=false:=decide_eq_false n0
 have q2:(er == 15)=false:=by simpa using n1
 have q2':decide (er=15)=false:=decide_eq_false n1
 have q3:(er != 15)=true:=by simpa using n1
 have q3':decide (¬ er=15)=true:=by simpa using n1
 clear n0 n1
 have s1:=(hr.chg (T6.below own hb1)).sp
 have s0:=hr.sp
 have s2:=s1
 rw [e1] at s2
 have hrb:=World.row?_lt hr.row
 have HK:=hid (B03 (hst.below hb1) hn)
 have HST:=hid hst
 have HO:=hid ho
 have HE:=hid e1
 have HB1:=hid hb1
 have HR1:=hid hr1
 have HF1:=hid hf1
 have HF0:=hid hf0
 have HS1:=hid hs1
 have HER:=hid her
 have z20:=C4 20 0
 have kz:=D2 20 0
 clear hst hr ho e1 hb1 hr1 hf1 hf0 hs1 hol her he
 go_enter Tryz.func241,Tryz.ntmps241
 go_wp2_with fail
 rw [← HE.out]
 refine HK.out.mono ?_
 rintro e w2 ⟨rfl,hst2,g2⟩
 have hp0:own w.heap.size=none:=D4 HST.out.lows (Nat.le_refl _)
 have hp1:own (w.heap.size+1)=none:=D4 HST.out.lows (Nat.le_succ _)
 have r2:w2.row? w.heap.size 0 24=some (B8 (F3 o (.slice a o.out.length k) (.slice b o.logs.length j))):=K5 HR1.out hp0 g2
 have f2:w2.free? (w.heap.size+1) 0 24=true:=by rw [g2.only.free? (by rw [HS1.out];omega) (fun e=>e hp1)];exact HF1.out
 have f0:w2.free? w.heap.size 0 24=true:=by rw [g2.only.free? (by rw [HS1.out];omega) (fun e=>e hp0)];exact HF0.out
 obtain ⟨w3,e3⟩:∃ w3,w3=w2.setCell ⟨w.heap.size,3,none⟩ (.slice none 0 0):=⟨_,rfl⟩
 have r3:w3.row? w.heap.size 0 24=some (B8 (F3 { o with logs:=[] } (.slice a o.out.length k) (.slice none 0 0))):=by rw [e3];exact E8 r2 (i:=3) rfl _ (by simp [F3,A8,A4])
 have g3:w3.free? w.heap.size 0 24=true:=by rw [e3,D0];exact f0
 obtain ⟨w4,e4⟩:∃ w4,w4=w3.setCells w.heap.size 4 (A3 20 0):=⟨_,rfl⟩
 have r4:w4.row? w.heap.size 0 24=some (B8 (F3 { o with logs:=[],addr:=0 } (.slice a o.out.length k) (.slice none 0 0))):=by rw [e4];exact A1x r3 (i:=4) rfl (by simp) (by simp [F3,A8,A4])
 have g4:w4.free? w.heap.size 0 24=true:=by rw [e4,World.free?_setCells'];exact g3
 have h23:A0 (fun b=>b=w.heap.size) w2 w4:=by rw [e4,e3];exact (C6 _ _ _ _).trans (A0.setCells (S:=fun b=>b=w.heap.size) (A0.refl _ _) (fun _=>rfl) _ _) (fun _ h _=>h)
 have a3:w2.free? w.heap.size 3 1=true:=World.free?_sub f0 (by omega)
 have a4:w3.free? w.heap.size 4 20=true:=World.free?_sub g3 (by omega)
 have a5:w4.cell? ⟨w.heap.size,1,none⟩=some (.int .i64 er):=by have h:=A0i r4;rw [Nat.zero_add] at h;rw [HER.out];exact h
 obtain ⟨w5,e5⟩:∃ w5,w5=w4.setCell ⟨w.heap.size,0,none⟩ (.int .i64 0):=⟨_,rfl⟩
 have r5:w5.row? w.heap.size 0 24=some (B8 (F3 ⟨0,o.err,o.out,[],0⟩ (.slice a o.out.length k) (.slice none 0 0))):=by rw [e5];exact E8 r4 (i:=0) rfl _ (by simp [F3,A4])
 have g5:w5.free? w.heap.size 0 24=true:=by rw [e5,D0];exact g4
 obtain ⟨w6,e6⟩:∃ w6,w6=w5.setCell ⟨w.heap.size,2,none⟩ (.slice none 0 0):=⟨_,rfl⟩
 have r6:w6.row? w.heap.size 0 24=some (B8 (F3 ⟨0,o.err,[],[],0⟩ (.slice none 0 0) (.slice none 0 0))):=by rw [e6];exact E8 r5 (i:=2) rfl _ (by simp [F3,A8,A4])
 have a6:w4.free? w.heap.size 0 1=true:=World.free?_sub g4 (by omega)
 have a7:w5.free? w.heap.size 2 1=true:=World.free?_sub g5 (by omega)
 have h26:A0 (fun b=>b=w.heap.size) w2 w6:=by rw [e6,e5];exact (h23.trans (C6 _ _ _ _) (fun _ h _=>h)).trans (C6 _ _ _ _) (fun _ h _=>h)
 obtain ⟨X,hX⟩:∃ X,X=B8 (F3 ⟨0,o.err,[],[],0⟩ (.slice none 0 0) (.slice none 0 0)):=⟨_,rfl⟩
 have rX:w6.row? w.heap.size 0 24=some X:=by rw [hX];exact r6
 have lX:X.length=24:=by rw [hX];exact O7 _ _ _
 have kX:Q3 24 X=true:=by rw [hX];exact N7 _ _ _ _ _ _ _
 have fX:w6.free? (w.heap.size+1) 0 24=true:=by rw [h26.free? (C1 f2) (by show ¬ w.heap.size+1=w.heap.size;omega)];exact f2
 have HX:=hid hX
 have HST2:=hid hst2
 have HG2:=hid g2
 have H2F:=hid h26
 have HLT:=hid (C1 f2)
 have HP:=hid (And.intro hp0 hp1)
 rw [e3] at a4
 rw [e4,e3] at a5 a6
 rw [e5,e4,e3] at a7
 rw [e6,e5,e4,e3] at rX fX
 have HE3:=hid e3
 have HE4:=hid e4
 have HE5:=hid e5
 have HE6:=hid e6
 clear hst2 g2 r2 r3 g3 r4 g4 h23 f2 f0 hX e3 e4 hp0 hp1 hx1 hx2 s0 s1 s2 r5 g5 r6 h26 e5 e6
 go_wp2_with fail
 rw [← HE3.out,← HE4.out,← HE5.out,← HE6.out] at fX ⊢
 refine I2 A2T rfl X rfl rfl fX kX ?_
 have ho:A0 (fun b=>b=w.heap.size∨b=w.heap.size+1) w2 (w6.setCells (w.heap.size+1) 0 X):=(H2F.out.mono (fun _ h => .inl h)).trans (A0.setCells (S:=fun b=>b=w.heap.size∨b=w.heap.size+1) (A0.refl _ _) (fun _ => .inr rfl) _ _) (fun _ h _=>h)
 have hp:∀ b,(b=w.heap.size∨b=w.heap.size+1)→own b=none:=fun b hb=>by rcases hb with rfl | rfl;exact HP.out.1;exact HP.out.2
 have g3:T6 w (w6.setCells (w.heap.size+1) 0 X) own own:=
  ⟨fun _ _=>rfl,((T6.below own HB1.out).trans HG2.out).only.trans ho (fun i hi hh=>by have:i=w.heap.size∨i=w.heap.size+1:=hi;omega)⟩
 refine ⟨_,_,by rw [HX.out],HST2.out.only ho hp,g3,?_⟩
 exact B39 _ _ _ _
theorem A9i {w:World} {own:Go.Mun.Own} {sb rb tb:Nat} {cx:Ctx} {tab:Y2} {S S0:St} {M:List (Nat × St)} {n x:Nat} {o:A1q} {ov lv:Value} {B:Nat} (hst:StateAt TU w own sb S (M++[(x,S0)]) n) (hr:A0p w own sb rb tb cx tab) (ho:U4 w own B ov lv o) (he:o.err=15) (hn:n≤1099511627776) :
  Calls Tryz.prog 241 #[.pointer (some ⟨rb,0,none⟩),.int .i64 x,.agg (B8 (F3 o ov lv)).toArray] w fun e w' => ∃ ov' lv',e = .returned (.agg (B8 (F3 ⟨o.gas,o.err,o.out,[],0⟩ ov' lv')).toArray)∧StateAt TU w' own sb S0 M n∧T6 w w' own own∧U4 w' own B ov' lv' ⟨o.gas,o.err,o.out,[],0⟩:=by
 obtain ⟨a,k,b,j,rfl,rfl⟩:=ho.forms
 have hol:=O7 o (.slice a o.out.length k) (.slice b o.logs.length j)
 obtain ⟨w1,e1⟩:∃ w1,w1=(w.alloc (.cells (B8 (F3 o (.slice a o.out.length k) (.slice b o.logs.length j))).toArray 41)).alloc (.cells (B8 L3).toArray 41):=⟨_,rfl⟩
 have hb1:Below w.heap.size w w1:=by rw [e1];exact ((Below.refl _ _).alloc (Nat.le_refl _) _).alloc (by simp) _
 have hr1:w1.row? w.heap.size 0 24=some (B8 (F3 o (.slice a o.out.length k) (.slice b o.logs.length j))):=by rw [e1,World.row?_alloc_lt _ (by simp)];exact World.row?_alloc_at _ _ _ rfl hol
 have hf1:w1.free? (w.heap.size+1) 0 24=true:=by rw [e1];exact World.free?_alloc_at _ _ (by simp) (by rw [K1];omega)
 have hf0:w1.free? w.heap.size 0 24=true:=by rw [e1,World.free?_alloc_lt _ (by simp)];exact World.free?_alloc_at _ _ rfl (by rw [hol];omega)
 have hs1:w1.heap.size=w.heap.size+1+1:=by rw [e1];simp
 obtain ⟨er,her⟩:∃ er,er=o.err:=⟨_,rfl⟩
 have hx1:(B8 (F3 o (.slice a o.out.length k) (.slice b o.logs.length j)))[1]'(by rw [O7];omega) = .int .i64 er:=by rw [her];rfl
 have hx2:((B8 (F3 o (.slice a o.out.length k) (.slice b o.logs.length j)))[1]? : Option Value)=some (.int .i64 er):=by rw [her];rfl
 have n0:¬ er=0:=by rw [her];rw [he];decide
 have n1:er=15:=by rw [her];exact he
 have q1:(er == 0)=false:=by simpa using n0
 have q1':decide (er=0)=false:=decide_eq_false n0
 have q2:(er == 15)=true:=by simpa using n1
 have q2':decide (er=15)=true:=decide_eq_true n1
 have q3:(er != 15)=false:=by simpa using n1
 have q3':decide (¬ er=15)=false:=by simpa using n1
 clear n0 n1
 have s1:=(hr.chg (T6.below own hb1)).sp
 have s0:=hr.sp
 have s2:=s1
 rw [e1] at s2
 have hrb:=World.row?_lt hr.row
 have HK:=hid (B03 (hst.below hb1) hn)
 have HST:=hid hst
 have HO:=hid ho
 have HE:=hid e1
 have HB1:=hid hb1
 have HR1:=hid hr1
 have HF1:=hid hf1
 have HF0:=hid hf0
 have HS1:=hid hs1
 have HER:=hid her
 have z20:=C4 20 0
 have kz:=D2 20 0
 clear hst hr ho e1 hb1 hr1 hf1 hf0 hs1 hol her he
 go_enter Tryz.func241,Tryz.ntmps241
 go_wp2_with fail
 rw [← HE.out]
 refine HK.out.mono ?_
 rintro e w2 ⟨rfl,hst2,g2⟩
 have hp0:own w.heap.size=none:=D4 HST.out.lows (Nat.le_refl _)
 have hp1:own (w.heap.size+1)=none:=D4 HST.out.lows (Nat.le_succ _)
 have r2:w2.row? w.heap.size 0 24=some (B8 (F3 o (.slice a o.out.length k) (.slice b o.logs.length j))):=K5 HR1.out hp0 g2
 have f2:w2.free? (w.heap.size+1) 0 24=true:=by rw [g2.only.free? (by rw [HS1.out];omega) (fun e=>e hp1)];exact HF1.out
 have f0:w2.free? w.heap.size 0 24=true:=by rw [g2.only.free? (by rw [HS1.out];omega) (fun e=>e hp0)];exact HF0.out
 obtain ⟨w3,e3⟩:∃ w3,w3=w2.setCell ⟨w.heap.size,3,none⟩ (.slice none 0 0):=⟨_,rfl⟩
 have r3:w3.row? w.heap.size 0 24=some (B8 (F3 { o with logs:=[] } (.slice a o.out.length k) (.slice none 0 0))):=by rw [e3];exact E8 r2 (i:=3) rfl _ (by simp [F3,A8,A4])
 have g3:w3.free? w.heap.size 0 24=true:=by rw [e3,D0];exact f0
 obtain ⟨w4,e4⟩:∃ w4,w4=w3.setCells w.heap.size 4 (A3 20 0):=⟨_,rfl⟩
 have r4:w4.row? w.heap.size 0 24=some (B8 (F3 { o with logs:=[],addr:=0 } (.slice a o.out.length k) (.slice none 0 0))):=by rw [e4];exact A1x r3 (i:=4) rfl (by simp) (by simp [F3,A8,A4])
 have g4:w4.free? w.heap.size 0 24=true:=by rw [e4,World.free?_setCells'];exact g3
 have h23:A0 (fun b=>b=w.heap.size) w2 w4:=by rw [e4,e3];exact (C6 _ _ _ _).trans (A0.setCells (S:=fun b=>b=w.heap.size) (A0.refl _ _) (fun _=>rfl) _ _) (fun _ h _=>h)
 have a3:w2.free? w.heap.size 3 1=true:=World.free?_sub f0 (by omega)
 have a4:w3.free? w.heap.size 4 20=true:=World.free?_sub g3 (by omega)
 have a5:w4.cell? ⟨w.heap.size,1,none⟩=some (.int .i64 er):=by have h:=A0i r4;rw [Nat.zero_add] at h;rw [HER.out];exact h
 obtain ⟨X,hX⟩:∃ X,X=B8 (F3 ⟨o.gas,o.err,o.out,[],0⟩ (.slice a o.out.length k) (.slice none 0 0)):=⟨_,rfl⟩
 have rX:w4.row? w.heap.size 0 24=some X:=by rw [hX];exact r4
 have lX:X.length=24:=by rw [hX];exact O7 _ _ _
 have kX:Q3 24 X=true:=by rw [hX];exact N7 _ _ _ _ _ _ _
 have fX:w4.free? (w.heap.size+1) 0 24=true:=by rw [h23.free? (C1 f2) (by show ¬ w.heap.size+1=w.heap.size;omega)];exact f2
 have HX:=hid hX
 have HST2:=hid hst2
 have HG2:=hid g2
 have H2F:=hid h23
 have HLT:=hid (C1 f2)
 have HP:=hid (And.intro hp0 hp1)
 rw [e3] at a4
 rw [e4,e3] at a5 rX fX
 have HE3:=hid e3
 have HE4:=hid e4
 clear hst2 g2 r2 r3 g3 r4 g4 h23 f2 f0 hX e3 e4 hp0 hp1 hx1 hx2 s0 s1 s2
 go_wp2_with fail
 rw [← HE3.out,← HE4.out] at fX ⊢
 refine I2 A2T rfl X rfl rfl fX kX ?_
 have ho:A0 (fun b=>b=w.heap.size∨b=w.heap.size+1) w2 (w4.setCells (w.heap.size+1) 0 X):=(H2F.out.mono (fun _ h => .inl h)).trans (A0.setCells (S:=fun b=>b=w.heap.size∨b=w.heap.size+1) (A0.refl _ _) (fun _ => .inr rfl) _ _) (fun _ h _=>h)
 have hp:∀ b,(b=w.heap.size∨b=w.heap.size+1)→own b=none:=fun b hb=>by rcases hb with rfl | rfl;exact HP.out.1;exact HP.out.2
 have g3:T6 w (w4.setCells (w.heap.size+1) 0 X) own own:=
  ⟨fun _ _=>rfl,((T6.below own HB1.out).trans HG2.out).only.trans ho (fun i hi hh=>by have:i=w.heap.size∨i=w.heap.size+1:=hi;omega)⟩
 refine ⟨_,_,by rw [HX.out],HST2.out.only ho hp,g3,?_⟩
 exact B2u (HO.out.chg g3)
def B5e (o o2:A1q):Prop:=o2.err=o.err∧(o.err=0→o2=o)∧(o.err=15→o2=⟨o.gas,o.err,o.out,[],0⟩)∧(o.err≠0→o.err≠15→o2=⟨0,o.err,[],[],0⟩)
def A3R (x:Nat) (f':Fr) (o:A1q):Prop:=o.err=x∧o.addr=0∧(x=0→o.gas=f'.gas∧o.out=f'.out∧o.logs=f'.logs)∧(x=15→o.gas=f'.gas∧o.out=f'.out∧o.logs = [])∧(x≠0→x≠15→o.gas=0∧o.out = []∧o.logs = [])
theorem B2Y {w:World} {own:Go.Mun.Own} {sb rb tb:Nat} {cx:Ctx} {tab:Y2} {S S0:St} {M:List (Nat × St)} {n x:Nat} {o:A1q} {ov lv:Value} {B:Nat} (hst:StateAt TU w own sb S (M++[(x,S0)]) n) (hr:A0p w own sb rb tb cx tab) (ho:U4 w own B ov lv o) (hn:n≤1099511627776) :
  Calls Tryz.prog 241 #[.pointer (some ⟨rb,0,none⟩),.int .i64 x,.agg (B8 (F3 o ov lv)).toArray] w fun e w' => ∃ o2 ov' lv',e = .returned (.agg (B8 (F3 o2 ov' lv')).toArray)∧StateAt TU w' own sb (if o.err=0 then S else S0) M n∧T6 w w' own own∧U4 w' own B ov' lv' o2∧B5e o o2:=by
 by_cases h0:o.err=0
 ·refine (B0x hst hr ho h0 hn).mono ?_
  rintro e w' ⟨rfl,h1,h2,h3⟩
  rw [if_pos h0]
  exact ⟨o,_,_,rfl,h1,h2,h3,rfl,fun _=>rfl,fun h=>(by rw [h0] at h;cases h),fun h=>absurd h0 h⟩
 ·rw [if_neg h0]
  by_cases h15:o.err=15
  ·refine (A9i hst hr ho h15 hn).mono ?_
   rintro e w' ⟨ov',lv',rfl,h1,h2,h3⟩
   exact ⟨_,_,_,rfl,h1,h2,h3,rfl,fun h=>absurd h h0,fun _=>rfl,fun _ h=>absurd h15 h⟩
  ·refine (B0y hst hr ho ⟨h0,h15⟩ hn).mono ?_
   rintro e w' ⟨ov',lv',rfl,h1,h2,h3⟩
   exact ⟨_,_,_,rfl,h1,h2,h3,rfl,fun h=>absurd h h0,fun h=>absurd h h15,fun _ _=>rfl⟩
theorem B4N {x n4 N:Nat} {f':Fr} {o o2:A1q} {S4 S':St} (h:0≤o.gas∧n4+o.gas.toNat≤N∧o.err=x∧o.addr=0) (hx:(x=0→o.gas=f'.gas∧o.out=f'.out∧o.logs=f'.logs∧S4=S')∧(x=15→o.gas=f'.gas∧o.out=f'.out)) (he:B5e o o2) :
  A3R x f' o2∧(0≤o2.gas∧n4+o2.gas.toNat≤N)∧∀ S:St,(if o.err=0 then S4 else S)=(if x=0 then S' else S):=by
 obtain ⟨h1,h2,h3,h4⟩:=h
 obtain ⟨e1,e2,e3,e4⟩:=he
 by_cases h0:x=0
 ·have ho:o.err=0:=by rw [h3,h0];rfl
  rw [e2 ho]
  obtain ⟨g1,g2,g3,g4⟩:=hx.1 h0
  exact ⟨⟨h3,h4,fun _=>⟨g1,g2,g3⟩,fun h=>by omega,fun h=>absurd h0 h⟩,⟨h1,h2⟩,fun S=>by rw [if_pos ho,if_pos h0,g4]⟩
 ·have ho:o.err≠0:=by rw [h3];omega
  by_cases h15:x=15
  ·have ho15:o.err=15:=by rw [h3,h15];rfl
   rw [e3 ho15]
   obtain ⟨g1,g2⟩:=hx.2 h15
   exact ⟨⟨h3,rfl,fun h=>absurd h h0,fun _=>⟨g1,g2,rfl⟩,fun _ h=>absurd h15 h⟩,⟨h1,h2⟩,fun S=>by rw [if_neg ho,if_neg h0]⟩
  ·have ho15:o.err≠15:=by rw [h3];omega
   rw [e4 ho ho15]
   exact ⟨⟨h3,rfl,fun h=>absurd h h0,fun h=>absurd h h15,fun _ _=>⟨rfl,rfl,rfl⟩⟩,⟨Int.le_refl _,by show n4+(0:Int).toNat≤N;simp;omega⟩,fun S=>by rw [if_neg ho,if_neg h0]⟩
def B5f (w:World) (own:Go.Mun.Own) (sb:Nat) (S S':St) (M:List (Nat × St)) (N er:Nat) (f':Fr) (e:Ending) (w':World):Prop:=
 ∃ o ov lv own' n',e = .returned (.agg (B8 (F3 o ov lv)).toArray)∧StateAt TU w' own' sb (if er=0 then S' else S) M n'∧T6 w w' own own'∧U4 w' own' w.heap.size ov lv o ∧
   0≤o.gas∧n'+o.gas.toNat≤N∧A3R er f' o
theorem B0z {w:World} {own:Go.Mun.Own} {sb rb tb:Nat} {cx:Ctx} {tab:Y2} {S S1 S':St} {M:List (Nat × St)} {n N K er:Nat} {f':Fr} {m:Msg} {dv:Value} {step:Fr→St→Res}
  (h:B1R w own sb rb tb cx tab S M n N) (hm:A1X m) (hk:m.kind=0) (hg:0≤m.gas) (hd:J3 w (fun b=>own b≠none) dv m.data) (hn:n+3+m.gas.toNat≤N) (hs:A2z sb rb tb cx tab step)
  (hmv:S.move m.frm m.to m.value=some S1) (hl:U8 step K (P3 m (S1 m.to).code) S1=some (er,f',S')) :
  Calls Tryz.prog 160 #[.pointer (some ⟨rb,0,none⟩),.agg (B8 (I0 m dv)).toArray] w (B5f w own sb S S' M N er f'):=by
 have hml:=N4 m dv
 obtain ⟨w1,e1⟩:∃ w1,w1=(w.alloc (.cells (B8 (I0 m dv)).toArray 37)).alloc (.cells (B8 L3).toArray 41):=⟨_,rfl⟩
 have t1:=A7c (m:=m) h.st h.run hd
 rw [← e1] at t1
 have hN:=h.lim
 have HT1:=hid t1
 have HE:=hid e1
 have HL:=hid hl
 have HS:=hid hs
 have HMV:=hid hmv
 have hs1:w1.cell? ⟨rb,0,none⟩=some (.pointer (some ⟨sb,0,none⟩)):=t1.run.sp
 have hs2:=hs1
 rw [e1] at hs2
 have hs0:=h.run.sp
 have hrb:=World.row?_lt h.run.row
 clear h hl hs hmv e1 t1 hd
 go_enter Tryz.func160,Tryz.ntmps160
 go_wp2_with fail
 rw [← HE.out]
 refine (B5v HT1.out.st (by omega)).mono ?_
 rintro e w2 ⟨x,rfl,hx1,hx2,own2,st2,g2⟩
 have t2:=HT1.out.go g2 st2
 have HT2:=hid t2
 have q1:=A2s t2.row
 have q2:=A3A t2.row
 simp only [Nat.zero_add] at q1
 rw [hk,Nat.zero_add] at q2
 have hlt2:=World.row?_lt t2.row
 have hf3:(w2.alloc (.cells (J4 20).toArray 23)).free? w2.heap.size 0 20=true:=World.free?_alloc_at _ _ rfl (by simp)
 have hok3:=D2 20 m.to
 obtain ⟨w3,e3⟩:∃ w3,w3=(w2.alloc (.cells (J4 20).toArray 23)).setCells w2.heap.size 0 (A3 20 m.to):=⟨_,rfl⟩
 have hb3:Below w2.heap.size w2 w3:=by rw [e3];exact ((Below.refl _ _).alloc (Nat.le_refl _) _).setCells (Nat.le_refl _) _ _
 have r3:w3.row? w2.heap.size 0 20=some (A3 20 m.to):=by rw [e3];exact ((Arr.new w2 20 (J4 20) 23 (by simp)).setCells (A3 20 m.to) hok3).row
 have q3:w3.cell? ⟨w.heap.size,0,none⟩=some (.int .i64 0):=(hb3.cell (p:=⟨w.heap.size,0,none⟩) hlt2).trans q2
 rw [e3] at q3
 have HT3:=hid (t2.below hb3)
 have HR3:=hid r3
 have HE3:=hid e3
 have hp3:own2 w2.heap.size=none:=D4 t2.st.lows (Nat.le_refl _)
 have HP3:=hid hp3
 clear st2 g2 t2 hx1 hs0 hs1 hs2 e3 hb3 r3 q2 hlt2 hp3
 go_wp2_with fail
 rw [← HE3.out]
 obtain ⟨T,hT⟩:∃ T:World→Prop,T=fun w'=>A0W w own sb rb tb cx tab m dv w' own2 S (M++[(x,S)]) (n+1):=⟨_,rfl⟩
 have HT:=hid hT
 have H4:=hid (HT3.out.below (Below.refl _ _).drew)
 have t0:T w3.drew:=by rw [hT];exact H4.out
 have HMVC:=hid (B5u H4.out.st m.frm m.to m.value hm.frm hm.to hm.value (by omega))
 have HR4:Hid (w3.drew.row? w2.heap.size 0 20=some (A3 20 m.to)):=HR3.out
 clear hT q1 q3 hf3 hok3
 refine A7 T [10] (.pure 0 (.pure 1 (.pure 2 (.take 3 (.pure 4 (.take 5 (.pure 6 (.take 7 (.pure 8 (.take 9 (.alt 10 (.pure 11 .fin) .stop))))))))))) (by kernel_rfl) (by kernel_rfl) ?_
 iterate 10
  first
  |refine A2 ?_ rfl (by rfl) (fun w' hs=>?_) (fun _ _ _ h=>h) ?_
   rotate_left
   ·clear hs
    go_simp
    try rfl
   simp only [Act.put,D7,D6,D5]
  |refine A9 ?_ t0 rfl (by rfl) (fun w' hs=>?_) (fun _ _ _ h=>h) ?_
   rotate_left
   ·rw [HT.out] at hs
    have k0:=hs.run.sp;have k1:=A4O hs.row;have k2:=A2s hs.row;have k3:=A1L hs.row;simp only [Nat.zero_add] at k1 k2 k3
    go_simp
    try rfl
   simp only [Act.put,D7,D6,D5]
 refine J8 rfl (by simp) (fun K hK=>?_)
 go_simp
 refine HMVC.out.mono ?_
 rintro e w4 ⟨rfl,own3,st4,g4⟩
 rw [HMV.out] at st4 ⊢
 have H5:=hid (H4.out.go g4 st4)
 have HR5:Hid (w4.row? w2.heap.size 0 20=some (A3 20 m.to)):=K5 HR4.out HP3.out g4
 have HP5:Hid (own3 w2.heap.size=none):=by show _=_;rw [g4.ext _ (World.row?_lt HR4.out)];exact HP3.out
 simp only [Option.isSome_some,Option.getD_some] at *
 clear st4 g4
 refine hK.out _ _ ?_
 clear hK K
 refine A2 ?_ rfl (by rfl) (fun w' hs=>?_) (fun _ _ _ h=>h) ?_
 rotate_left
 ·clear hs
  go_simp
  try rfl
 simp only [Act.put,D7,D6,D5]
 refine C2 ?_
 clear t0 HT T HMVC H4 HR4 HT3 HR3 HE3
 go_wp2_with fail
 obtain ⟨T,hT⟩:∃ T:World→Prop,T=fun w'=>w'.row? w.heap.size 0 129=some (B8 (I0 m dv))∧w'.cell? ⟨rb,0,none⟩=some (.pointer (some ⟨sb,0,none⟩))∧w'.row? w2.heap.size 0 20=some (A3 20 m.to):=⟨_,rfl⟩
 have HT:=hid hT
 have tc:∀ w5 own4 S4 M4 n4,A0W w own sb rb tb cx tab m dv w5 own4 S4 M4 n4→w5.row? w2.heap.size 0 20=some (A3 20 m.to)→T w5:=by rw [hT];intro w5 own4 S4 M4 n4 h1 h2;exact ⟨h1.row,h1.run.sp,h2⟩
 have HTC:=hid tc
 have H6:=hid (H5.out.below (Below.refl _ _).drew)
 have HR6:Hid (w4.drew.row? w2.heap.size 0 20=some (A3 20 m.to)):=HR5.out
 have t0:T w4.drew:=HTC.out _ _ _ _ _ H6.out HR6.out
 clear hT tc
 refine A7 T [10] (.pure 0 (.take 1 (.pure 2 (.pure 3 (.pure 4 (.take 5 (.take 6 (.alt 7 (.alt 8 (.alt 9 (.alt 10 .fin .stop) .stop) (.alt 9 (.alt 8 (.alt 10 .fin .stop) .stop) .stop)) (.alt 9 (.alt 7 (.alt 8 (.alt 10 .fin .stop) .stop) .stop) .stop))))))))) (by kernel_rfl) (by kernel_rfl) ?_
 iterate 7
  first
  |refine A2 ?_ rfl (by rfl) (fun w' hs=>?_) (fun _ _ _ h=>h) ?_
   rotate_left
   ·clear hs
    go_simp
    try rfl
   simp only [Act.put,D7,D6,D5]
  |refine A9 ?_ t0 rfl (by rfl) (fun w' hs=>?_) (fun _ _ _ h=>h) ?_
   rotate_left
   ·rw [HT.out] at hs
    obtain ⟨k0,k1,k2⟩:=hs
    go_simp
    try rfl
   simp only [Act.put,D7,D6,D5]
 refine P6 rfl (fun K hK=>?_) ?_
 focus
  go_simp
  refine (B02 H6.out.st m.to hm.to).mono ?_
  rintro e w5 ⟨cv,rfl,hnb⟩
  have H7:=hid (H6.out.below hnb.below)
  have HR7:Hid (w5.row? w2.heap.size 0 20=some (A3 20 m.to)):=((C7 hnb.below).1 _ _ _ (World.row?_lt HR6.out)).trans HR6.out
  have HCV:=hid (B1g hnb H6.out.st.lows (StateAt.code H6.out.st m.to).1 (StateAt.code H6.out.st m.to).2)
  have t7:T w5:=HTC.out _ _ _ _ _ H7.out HR7.out
  clear hnb
  refine hK.out _ _ t7 ?_
  clear hK K
  refine P6 rfl (fun K hK=>?_) ?_
  focus
   go_simp
   refine (A5K (N:=N) (x:=er) ⟨H7.out.st,H7.out.run,hN⟩ hm hg H7.out.data HCV.out (by omega) HS.out HL.out).mono ?_
   rintro e w6 ⟨o,ov,lv,own4,n4,S4,rfl,st6,g6,oa6,hog,hon,hoe,hoa,hol,hx0,hx15⟩
   have HEX:Hid ((er=0→o.gas=f'.gas∧o.out=f'.out∧o.logs=f'.logs∧S4=S')∧(er=15→o.gas=f'.gas∧o.out=f'.out)):=⟨hx0,hx15⟩
   have H8:=hid (H7.out.go g6 st6)
   have HR8:Hid (w6.row? w2.heap.size 0 20=some (A3 20 m.to)):=K5 HR7.out (by rw [HP5.out]) g6
   have OA8:=hid oa6
   have t8:T w6:=HTC.out _ _ _ _ _ H8.out HR8.out
   have HBB:Hid (w.heap.size+1 < w5.heap.size):=C1 H7.out.res
   have HOUT:Hid (0≤o.gas∧n4+o.gas.toNat≤N∧o.err=er∧o.addr=0):=⟨hog,hon,hoe,hoa⟩
   obtain ⟨oa,ok,lb,lj,hov,hlv⟩:=oa6.forms
   subst hov hlv
   have hok8:=N7 o oa lb o.out.length ok o.logs.length lj
   clear st6 g6 oa6 hog hon hoe hoa hol hx0 hx15
   refine hK.out _ _ t8 ?_
   clear hK K
   refine A5 rfl (fun K hK=>?_)
   go_simp
   have hbA:Below w6.heap.size w6 (w6.alloc (.cells (B8 L3).toArray 41)):=(Below.refl _ _).alloc (Nat.le_refl _) _
   have HA:=hid (H8.out.below hbA)
   have HRA:Hid ((w6.alloc (.cells (B8 L3).toArray 41)).row? w2.heap.size 0 20=some (A3 20 m.to)):=((C7 hbA).1 _ _ _ (World.row?_lt HR8.out)).trans HR8.out
   have HFA:Hid ((w6.alloc (.cells (B8 L3).toArray 41)).free? w6.heap.size 0 24=true):=World.free?_alloc_at _ _ rfl (by rw [K1];omega)
   have HOA:Hid (own4 w6.heap.size=none):=D4 H8.out.st.lows (Nat.le_refl _)
   have HBA:Hid (w.heap.size+1 < w6.heap.size):=by have h1:=C1 H8.out.res;exact h1
   have tA:T (w6.alloc (.cells (B8 L3).toArray 41)):=HTC.out _ _ _ _ _ HA.out HRA.out
   clear hbA
   have OAA:=hid (OA8.out.chg (T6.below own4 (by exact (Below.refl _ _).alloc (Nat.le_refl _) _:Below w6.heap.size w6 (w6.alloc (.cells (B8 L3).toArray 41)))))
   refine hK.out _ _ tA ?_
   clear hK K
   refine J8 rfl (by simp) (fun K hK=>?_)
   have hfa8:=HFA.out
   go_simp
   refine hK.out _ _ ?_
   clear hK K
   refine C2 ?_
   have r9:(World.setCells (w6.alloc (.cells (B8 L3).toArray 41)) w6.heap.size 0 (B8 (F3 o (.slice oa o.out.length ok) (.slice lb o.logs.length lj)))).row? w6.heap.size 0 24=some (B8 (F3 o (.slice oa o.out.length ok) (.slice lb o.logs.length lj))):=B7 _ hfa8 hok8
   have ob9:A0 (· = w6.heap.size) (w6.alloc (.cells (B8 L3).toArray 41)) (World.setCells (w6.alloc (.cells (B8 L3).toArray 41)) w6.heap.size 0 (B8 (F3 o (.slice oa o.out.length ok) (.slice lb o.logs.length lj)))):=A0.setCells (S:=fun b=>b=w6.heap.size) (A0.refl _ _) (fun _=>rfl) _ _
   have H9:=hid (HA.out.box HBA.out HOA.out ob9)
   have OA9:=hid (U4.chg (own':=own4) OA8.out (⟨fun _ _=>rfl,(A0.setCells (S:=fun b=>own4 b≠none) (by exact A0.alloc (A0.refl _ _) _:A0 (fun b=>own4 b≠none) w6 (w6.alloc (.cells (B8 L3).toArray 41))) (fun hh=>absurd hh (Nat.lt_irrefl _)) _ _)⟩:T6 w6 (World.setCells (w6.alloc (.cells (B8 L3).toArray 41)) w6.heap.size 0 (B8 (F3 o (.slice oa o.out.length ok) (.slice lb o.logs.length lj)))) own4 own4))
   clear ob9 hfa8
   generalize World.setCells (w6.alloc (.cells (B8 L3).toArray 41)) w6.heap.size 0 (B8 (F3 o (.slice oa o.out.length ok) (.slice lb o.logs.length lj)))=w9 at *
  rotate_left
  focus
   refine A5 rfl (fun K hK=>?_)
   go_simp
   have hbA:Below w5.heap.size w5 (w5.alloc (.cells (B8 L3).toArray 41)):=(Below.refl _ _).alloc (Nat.le_refl _) _
   have HA:=hid (H7.out.below hbA)
   have HRA:Hid ((w5.alloc (.cells (B8 L3).toArray 41)).row? w2.heap.size 0 20=some (A3 20 m.to)):=((C7 hbA).1 _ _ _ (World.row?_lt HR7.out)).trans HR7.out
   have HFA:Hid ((w5.alloc (.cells (B8 L3).toArray 41)).free? w5.heap.size 0 24=true):=World.free?_alloc_at _ _ rfl (by rw [K1];omega)
   have HOA:Hid (own3 w5.heap.size=none):=D4 H7.out.st.lows (Nat.le_refl _)
   have HBA:Hid (w.heap.size+1 < w5.heap.size):=by have h1:=C1 H7.out.res;exact h1
   have tA:T (w5.alloc (.cells (B8 L3).toArray 41)):=HTC.out _ _ _ _ _ HA.out HRA.out
   clear hbA
   refine hK.out _ _ tA ?_
   clear hK K
   refine A5 rfl (fun K hK=>?_)
   go_simp
   have HCVA:=hid (HCV.out.below ((Below.refl _ _).alloc (Nat.le_refl _) _:Below w5.heap.size w5 (w5.alloc (.cells (B8 L3).toArray 41))))
   refine (A5K (N:=N) (x:=er) ⟨HA.out.st,HA.out.run,hN⟩ hm hg HA.out.data HCVA.out (by omega) HS.out HL.out).mono ?_
   rintro e w6 ⟨o,ov,lv,own4,n4,S4,rfl,st6,g6,oa6,hog,hon,hoe,hoa,hol,hx0,hx15⟩
   have HEX:Hid ((er=0→o.gas=f'.gas∧o.out=f'.out∧o.logs=f'.logs∧S4=S')∧(er=15→o.gas=f'.gas∧o.out=f'.out)):=⟨hx0,hx15⟩
   have H8:=hid (HA.out.go g6 st6)
   have HR8:Hid (w6.row? w2.heap.size 0 20=some (A3 20 m.to)):=K5 HRA.out (by rw [HP5.out]) g6
   have OA8:=hid oa6
   have t8:T w6:=HTC.out _ _ _ _ _ H8.out HR8.out
   have HBB:Hid (w.heap.size+1 < (w5.alloc (.cells (B8 L3).toArray 41)).heap.size):=C1 HA.out.res
   have HBL:Hid (w5.heap.size < (w5.alloc (.cells (B8 L3).toArray 41)).heap.size):=C1 HFA.out
   have HOUT:Hid (0≤o.gas∧n4+o.gas.toNat≤N∧o.err=er∧o.addr=0):=⟨hog,hon,hoe,hoa⟩
   obtain ⟨oa,ok,lb,lj,hov,hlv⟩:=oa6.forms
   subst hov hlv
   have hok8:=N7 o oa lb o.out.length ok o.logs.length lj
   have HFA8:Hid (w6.free? w5.heap.size 0 24=true):=by
    show _=_
    rw [g6.only.free? (C1 HFA.out) (fun hh=>hh HOA.out)];exact HFA.out
   have HOA8:Hid (own4 w5.heap.size=none):=by
    show _=_
    rw [g6.ext _ (C1 HFA.out)];exact HOA.out
   clear st6 g6 oa6 hog hon hoe hoa hol hx0 hx15
   refine hK.out _ _ t8 ?_
   clear hK K
   refine J8 rfl (by simp) (fun K hK=>?_)
   have hfa8:=HFA8.out
   go_simp
   refine hK.out _ _ ?_
   clear hK K
   refine C2 ?_
   have r9:(World.setCells w6 w5.heap.size 0 (B8 (F3 o (.slice oa o.out.length ok) (.slice lb o.logs.length lj)))).row? w5.heap.size 0 24=some (B8 (F3 o (.slice oa o.out.length ok) (.slice lb o.logs.length lj))):=B7 _ hfa8 hok8
   have ob9:A0 (· = w5.heap.size) w6 (World.setCells w6 w5.heap.size 0 (B8 (F3 o (.slice oa o.out.length ok) (.slice lb o.logs.length lj)))):=A0.setCells (S:=fun b=>b=w5.heap.size) (A0.refl _ _) (fun _=>rfl) _ _
   have H9:=hid (H8.out.box HBA.out HOA8.out ob9)
   have OA9:=hid (OA8.out.box (by exact HBL.out) ob9)
   clear ob9 hfa8
   generalize World.setCells w6 w5.heap.size 0 (B8 (F3 o (.slice oa o.out.length ok) (.slice lb o.logs.length lj)))=w9 at *
 rotate_left 2
 focus
  refine A5 rfl (fun K hK=>?_)
  go_simp
  have hbA:Below w4.drew.heap.size w4.drew (w4.drew.alloc (.cells (B8 L3).toArray 41)):=(Below.refl _ _).alloc (Nat.le_refl _) _
  have HA:=hid (H6.out.below hbA)
  have HRA:Hid ((w4.drew.alloc (.cells (B8 L3).toArray 41)).row? w2.heap.size 0 20=some (A3 20 m.to)):=((C7 hbA).1 _ _ _ (World.row?_lt HR6.out)).trans HR6.out
  have HFA:Hid ((w4.drew.alloc (.cells (B8 L3).toArray 41)).free? w4.heap.size 0 24=true):=World.free?_alloc_at _ _ rfl (by rw [K1];omega)
  have HOA:Hid (own3 w4.heap.size=none):=D4 H6.out.st.lows (Nat.le_refl _)
  have HBA:Hid (w.heap.size+1 < w4.heap.size):=by have h1:=C1 H6.out.res;exact h1
  have tA:T (w4.drew.alloc (.cells (B8 L3).toArray 41)):=HTC.out _ _ _ _ _ HA.out HRA.out
  clear hbA
  refine hK.out _ _ tA ?_
  clear hK K
  refine A5 rfl (fun K hK=>?_)
  go_simp
  refine (B02 HA.out.st m.to hm.to).mono ?_
  rintro e w5 ⟨cv,rfl,hnb⟩
  have H7:=hid (HA.out.below hnb.below)
  have HR7:Hid (w5.row? w2.heap.size 0 20=some (A3 20 m.to)):=((C7 hnb.below).1 _ _ _ (World.row?_lt HRA.out)).trans HRA.out
  have HCV:=hid (B1g hnb HA.out.st.lows (StateAt.code HA.out.st m.to).1 (StateAt.code HA.out.st m.to).2)
  have t7:T w5:=HTC.out _ _ _ _ _ H7.out HR7.out
  have HFA7:Hid (w5.free? w4.heap.size 0 24=true):=((C7 hnb.below).2 _ _ _ (C1 HFA.out)).trans HFA.out
  clear hnb
  refine hK.out _ _ t7 ?_
  clear hK K
  refine A5 rfl (fun K hK=>?_)
  go_simp
  refine (A5K (N:=N) (x:=er) ⟨H7.out.st,H7.out.run,hN⟩ hm hg H7.out.data HCV.out (by omega) HS.out HL.out).mono ?_
  rintro e w6 ⟨o,ov,lv,own4,n4,S4,rfl,st6,g6,oa6,hog,hon,hoe,hoa,hol,hx0,hx15⟩
  have HEX:Hid ((er=0→o.gas=f'.gas∧o.out=f'.out∧o.logs=f'.logs∧S4=S')∧(er=15→o.gas=f'.gas∧o.out=f'.out)):=⟨hx0,hx15⟩
  have H8:=hid (H7.out.go g6 st6)
  have HR8:Hid (w6.row? w2.heap.size 0 20=some (A3 20 m.to)):=K5 HR7.out (by rw [HP5.out]) g6
  have OA8:=hid oa6
  have t8:T w6:=HTC.out _ _ _ _ _ H8.out HR8.out
  have HBB:Hid (w.heap.size+1 < w5.heap.size):=C1 H7.out.res
  have HBL:Hid (w4.heap.size < w5.heap.size):=C1 HFA7.out
  have HOUT:Hid (0≤o.gas∧n4+o.gas.toNat≤N∧o.err=er∧o.addr=0):=⟨hog,hon,hoe,hoa⟩
  obtain ⟨oa,ok,lb,lj,hov,hlv⟩:=oa6.forms
  subst hov hlv
  have hok8:=N7 o oa lb o.out.length ok o.logs.length lj
  have HFA8:Hid (w6.free? w4.heap.size 0 24=true):=by
   show _=_
   rw [g6.only.free? (C1 HFA7.out) (fun hh=>hh HOA.out)];exact HFA7.out
  have HOA8:Hid (own4 w4.heap.size=none):=by
   show _=_
   rw [g6.ext _ (C1 HFA7.out)];exact HOA.out
  clear st6 g6 oa6 hog hon hoe hoa hol hx0 hx15
  refine hK.out _ _ t8 ?_
  clear hK K
  refine J8 rfl (by simp) (fun K hK=>?_)
  have hfa8:=HFA8.out
  go_simp
  refine hK.out _ _ ?_
  clear hK K
  refine C2 ?_
  have r9:(World.setCells w6 w4.heap.size 0 (B8 (F3 o (.slice oa o.out.length ok) (.slice lb o.logs.length lj)))).row? w4.heap.size 0 24=some (B8 (F3 o (.slice oa o.out.length ok) (.slice lb o.logs.length lj))):=B7 _ hfa8 hok8
  have ob9:A0 (· = w4.heap.size) w6 (World.setCells w6 w4.heap.size 0 (B8 (F3 o (.slice oa o.out.length ok) (.slice lb o.logs.length lj)))):=A0.setCells (S:=fun b=>b=w4.heap.size) (A0.refl _ _) (fun _=>rfl) _ _
  have H9:=hid (H8.out.box HBA.out HOA8.out ob9)
  have OA9:=hid (OA8.out.box (by exact HBL.out) ob9)
  clear ob9 hfa8
  generalize World.setCells w6 w4.heap.size 0 (B8 (F3 o (.slice oa o.out.length ok) (.slice lb o.logs.length lj)))=w9 at *
 all_goals
  have HEND:=hid (B2Y H9.out.st H9.out.run OA9.out (by have:=HOUT.out.2.1;omega))
  have s9:=H9.out.run.sp
  go_wp2_with fail
  refine HEND.out.mono ?_
  rintro e w10 ⟨o2,ov2,lv2,rfl,st10,g10,oa10,hoo⟩
  have H10:=hid (H9.out.go g10 st10)
  have f10:=H10.out.res
  have OA10:=hid oa10
  have HOO:=hid hoo
  obtain ⟨oa2,ok2,lb2,lj2,hov2,hlv2⟩:=oa10.forms
  subst hov2 hlv2
  have hok10:=N7 o2 oa2 lb2 o2.out.length ok2 o2.logs.length lj2
  clear st10 g10 oa10 s9 r9 hoo
  go_wp2
  refine I2 A2T rfl _ rfl rfl f10 hok10 ?_
  have ob:A0 (· = w.heap.size+1) w10 (w10.setCells (w.heap.size+1) 0 (B8 (F3 o2 (.slice oa2 o2.out.length ok2) (.slice lb2 o2.logs.length lj2)))):=A0.setCells (S:=fun b=>b=w.heap.size+1) (A0.refl _ _) (fun _=>rfl) _ _
  obtain ⟨hC,hG,hSt⟩:=B4N HOUT.out HEX.out HOO.out
  refine ⟨o2,_,_,own4,n4,rfl,?_,⟨H10.out.chg.ext,H10.out.chg.only.trans ob (fun i hi he=>by have:i=w.heap.size+1:=hi;omega)⟩,(OA10.out.box HBB.out ob).mono (Nat.le_of_lt (Nat.lt_of_succ_lt HBB.out)),hG.1,hG.2,hC⟩
  have hst:=H10.out.st.only ob (fun b hb=>by rw [hb];exact H10.out.o2)
  rw [hSt S] at hst
  exact hst
theorem A6m {w:World} {own:Go.Mun.Own} {sb rb tb:Nat} {cx:Ctx} {tab:Y2} {S S1 S':St} {M:List (Nat × St)} {n N K er:Nat} {f':Fr} {m:Msg} {dv:Value} {step:Fr→St→Res}
  (h:B1R w own sb rb tb cx tab S M n N) (hm:A1X m) (hk:m.kind=0) (hg:0≤m.gas) (hdp:m.depth≤64) (hd:J3 w (fun b=>own b≠none) dv m.data) (hn:n+3+m.gas.toNat≤N) (hs:A2z sb rb tb cx tab step)
  (hmv:S.move m.frm m.to m.value=some S1) (hl:U8 step K (P3 m (S1 m.to).code) S1=some (er,f',S')) :
  Calls Tryz.prog 48 #[.pointer (some ⟨rb,0,none⟩),.agg (B8 (I0 m dv)).toArray] w (B5f w own sb S S' M N er f'):=by
 have hml:=N4 m dv
 have hv:¬ (S m.frm).bal < m.value:=fun hh=>by unfold St.move at hmv;rw [if_pos hh] at hmv;cases hmv
 have c0:=A8W m dv
 obtain ⟨w1,e1⟩:∃ w1,w1=(w.alloc (.cells (B8 (I0 m dv)).toArray 37)).alloc (.cells (B8 L3).toArray 41):=⟨_,rfl⟩
 have t1:=A7c (m:=m) h.st h.run hd
 rw [← e1] at t1
 have hf0:(w.alloc (.cells (B8 (I0 m dv)).toArray 37)).free? w.heap.size 126 1=true:=World.free?_alloc_at _ _ rfl (by rw [hml];omega)
 have HN:=h.lim
 have HT1:=hid t1
 have HE1:=hid e1
 have HMK:=hid (fun w=>A69 m dv w)
 have HL:=hid hl
 have HS:=hid hs
 have HMV:=hid hmv
 have hset:(B8 (I0 m dv)).set 126 (.int .i64 m.gas)=B8 (I0 m dv):=by
  apply List.ext_getElem?
  intro i
  rw [List.getElem?_set]
  by_cases hi:126=i
  ·subst hi
   rw [if_pos rfl,if_pos (by rw [hml];omega),List.getElem?_eq_getElem (by rw [hml];omega),c0]
  ·rw [if_neg hi]
 have HMAY:=hid (B4l t1.st t1.run hm hk hdp hv (dv:=dv))
 clear h hl hs hmv e1 t1 hd hv hdp
 by_cases hz:m.gas≤0
 focus
  have hz0:m.gas=0:=by omega
  rw [hz0] at hset c0
  have hmx:max (0:Int) m.gas=0:=by omega
 rotate_left
 focus
  have hmx:max (0:Int) m.gas=m.gas:=by omega
 all_goals
  go_enter Tryz.func48,Tryz.ntmps48
  go_wp2_with fail
  rw [← HE1.out]
  refine HMAY.out.mono ?_
  rintro e w3 ⟨rfl,hb3⟩
  have t3:=HT1.out.below hb3
  have r3:=t3.row
  have HT3:=hid t3
  clear hb3 t3 hset hf0
  go_wp2_with fail
  refine (HMK.out _).mono ?_
  rintro e w4 ⟨rfl,hb4⟩
  have hdk:decide (m.kind=3∨m.kind=4)=false:=by rw [hk];decide
  rw [hdk]
  clear hdk
  have t4:=HT3.out.below hb4
  have r4:=t4.row
  have HT4:=hid t4
  have HCALL:=hid (B0z ⟨t4.st,t4.run,HN⟩ hm hk hg t4.data hn HS.out HMV.out HL.out)
  have HBB:Hid (w.heap.size+1 < w4.heap.size):=C1 t4.res
  clear hb4 t4 r3
  go_wp2_with fail
  refine HCALL.out.mono ?_
  rintro e w5 ⟨o,ov,lv,own4,n4,rfl,st5,g5,oa5,h1,h2,h3⟩
  obtain ⟨oa,ok,lb,lj,rfl,rfl⟩:=oa5.forms
  have hok8:=N7 o oa lb o.out.length ok o.logs.length lj
  have H10:=hid (HT4.out.go g5 st5)
  have f10:=H10.out.res
  have OA10:=hid oa5
  have HOUT:Hid (0≤o.gas∧n4+o.gas.toNat≤N∧A3R er f' o):=⟨h1,h2,h3⟩
  clear st5 g5 oa5 h1 h2 h3 r4
  go_wp2
  refine I2 A2T rfl _ rfl rfl f10 hok8 ?_
  have ob:A0 (· = w.heap.size+1) w5 (w5.setCells (w.heap.size+1) 0 (B8 (F3 o (.slice oa o.out.length ok) (.slice lb o.logs.length lj)))):=A0.setCells (S:=fun b=>b=w.heap.size+1) (A0.refl _ _) (fun _=>rfl) _ _
  obtain ⟨h1,h2,h3⟩:=HOUT.out
  exact ⟨o,_,_,own4,n4,rfl,H10.out.st.only ob (fun b hb=>by rw [hb];exact H10.out.o2),⟨H10.out.chg.ext,H10.out.chg.only.trans ob (fun i hi he=>by have:i=w.heap.size+1:=hi;omega)⟩,(OA10.out.box HBB.out ob).mono (Nat.le_of_lt (Nat.lt_of_succ_lt HBB.out)),h1,h2,h3⟩
attribute [local irreducible] A0o
theorem A68 {w:World} {own:Go.Mun.Own} {sb:Nat} {cx:Ctx} {S S1 S':St} {M:List (Nat × St)} {n N K er:Nat} {f':Fr} {m:Msg} {dv:Value} {step:Fr→St→Res}
  (hst:StateAt TU w own sb S M n) (hN:N≤1099511627776) (hm:A1X m) (hk:m.kind=0) (hg:0≤m.gas) (hdp:m.depth≤64) (hd:J3 w (fun b=>own b≠none) dv m.data) (hn:n+3+m.gas.toNat≤N) (hs:∀ rb tb tab,A3Q tab→A2z sb rb tb cx tab step)
  (hmv:S.move m.frm m.to m.value=some S1) (hl:U8 step K (P3 m (S1 m.to).code) S1=some (er,f',S')) :
  Calls Tryz.prog 26 #[.pointer (some ⟨sb,0,none⟩),.agg (B8 (I0 m dv)).toArray,.agg (B8 (A1o cx)).toArray] w (B5f w own sb S S' M N er f'):=by
 have hml:=N4 m dv
 have hcl:=A1T cx
 obtain ⟨w1,e1⟩:∃ w1,w1=((w.alloc (.cells (B8 (I0 m dv)).toArray 37)).alloc (.cells (B8 (A1o cx)).toArray 64)).alloc (.cells (B8 L3).toArray 41):=⟨_,rfl⟩
 have hb1:Below w.heap.size w w1:=by rw [e1];exact (((Below.refl _ _).alloc (Nat.le_refl _) _).alloc (by simp) _).alloc (by simp;omega) _
 have r1:w1.row? w.heap.size 0 129=some (B8 (I0 m dv)):=by rw [e1,World.row?_alloc_lt _ (by simp;omega),World.row?_alloc_lt _ (by simp)];exact World.row?_alloc_at _ _ _ rfl hml
 have r2:w1.row? (w.heap.size+1) 0 43=some (B8 (A1o cx)):=by rw [e1,World.row?_alloc_lt _ (by simp)];exact World.row?_alloc_at _ _ _ (by simp) hcl
 have f1:w1.free? (w.heap.size+1+1) 0 24=true:=by rw [e1];exact World.free?_alloc_at _ _ (by simp) (by rw [K1];omega)
 have HST:=hid hst
 have HB1:=hid hb1
 have HE1:=hid e1
 have HF1:=hid f1
 have HR1:=hid r1
 have HD:=hid hd
 have HL:=hid hl
 have HS:=hid hs
 have HMV:=hid hmv
 obtain ⟨T,hT⟩:∃ T:World→Prop,T=fun w'=>w'.row? (w.heap.size+1) 0 43=some (B8 (A1o cx)):=⟨_,rfl⟩
 have HT:=hid hT
 have tb:∀ w2 w3,T w2→Below w2.heap.size w2 w3→T w3:=by rw [hT];intro w2 w3 h hb;exact ((C7 hb).1 _ _ _ (World.row?_lt h)).trans h
 have HTB:=hid tb
 have t0:T w1.drew:=by rw [hT];exact r2
 clear hst hb1 e1 f1 r1 r2 hd hl hs hmv hT tb
 go_enter Tryz.func26,Tryz.ntmps26
 go_wp2_with fail
 rw [← HE1.out]
 refine A7 T [] (.pure 0 (.take 1 (.alt 2 (.pure 3 (.alt 4 (.pure 5 .fin) .stop)) .stop))) (by kernel_rfl) (by kernel_rfl) ?_
 refine A2 ?_ rfl (by rfl) (fun w' hs=>?_) (fun _ _ _ h=>h) ?_
 rotate_left
 ·clear hs
  go_simp
  try rfl
 simp only [Act.put,D7,D6,D5]
 refine A9 ?_ t0 rfl (by rfl) (fun w' hs=>?_) (fun _ _ _ h=>h) ?_
 rotate_left
 ·rw [HT.out] at hs
  go_simp
  try rfl
 simp only [Act.put,D7,D6,D5]
 refine A5 rfl (fun K hK=>?_)
 go_simp
 refine (B2X _).mono ?_
 rintro e w2 ⟨tb,rfl,hrel⟩
 obtain ⟨tab,htab,hb2,hrun⟩:=B2b (sb:=sb) (cx:=cx) HST.out.lows HB1.out.drew hrel
 have t2:T w2:=HTB.out _ _ t0 hb2
 have HTAB:=hid htab
 have HB2:=hid hb2
 have HRUN:=hid hrun
 have hbuild:=B4X sb tb cx
 clear htab hb2 hrun hrel
 refine hK.out _ _ t2 ?_
 clear hK K
 refine A2 ?_ rfl (by rfl) (fun w' hs=>?_) (fun _ _ _ h=>h) ?_
 rotate_left
 ·clear hs
  go_simp
  try rfl
 simp only [Act.put,D7,D6,D5]
 refine A5 rfl (fun K hK=>?_)
 go_simp
 have hb3:Below w2.heap.size w2 (w2.alloc (.cells (B8 (A5d sb tb cx)).toArray 103)):=(Below.refl _ _).alloc (Nat.le_refl _) _
 have t3:T (w2.alloc (.cells (B8 (A5d sb tb cx)).toArray 103)):=HTB.out _ _ t2 hb3
 have HB3:=hid hb3
 clear hb3
 refine hK.out _ _ t3 ?_
 clear hK K
 refine A2 ?_ rfl (by rfl) (fun w' hs=>?_) (fun _ _ _ h=>h) ?_
 rotate_left
 ·clear hs
  go_simp
  try rfl
 simp only [Act.put,D7,D6,D5]
 refine C2 ?_
 have hbb:Below w.heap.size w (w2.alloc (.cells (B8 (A5d sb tb cx)).toArray 103)):=(HB1.out.drew.trans (HB2.out.mono HB1.out.size)).trans (HB3.out.mono (by have h1:=HB1.out.size;have h2:=HB2.out.size;exact Nat.le_trans h1 h2))
 have g3:=T6.below own hbb
 generalize w2.alloc (.cells (B8 (A5d sb tb cx)).toArray 103)=w3 at *
 have hrx:=(C7 HB3.out).1 w.heap.size 0 129 (Nat.lt_of_lt_of_le (World.row?_lt HR1.out) HB2.out.size)
 have hfx:=(C7 HB3.out).2 (w.heap.size+1+1) 0 24 (Nat.lt_of_lt_of_le (C1 HF1.out) HB2.out.size)
 rw [(C7 HB2.out).1 w.heap.size 0 129 (World.row?_lt HR1.out)] at hrx
 rw [(C7 HB2.out).2 (w.heap.size+1+1) 0 24 (C1 HF1.out)] at hfx
 have r3:w3.row? w.heap.size 0 129=some (B8 (I0 m dv)):=hrx.trans HR1.out
 have f3:w3.free? (w.heap.size+1+1) 0 24=true:=hfx.trans HF1.out
 have HMSG:=hid (A6m ⟨HST.out.below hbb,HRUN.out,hN⟩ hm hk hg hdp (HD.out.below hbb) hn (HS.out _ _ _ HTAB.out) HMV.out HL.out)
 have HG3:=hid g3
 have HF3:=hid f3
 have HSZ:Hid (w.heap.size+1+1 < w3.heap.size):=C1 f3
 clear hrx hfx g3 hbb t0 t2 t3 hbuild f3
 go_wp2_with fail
 refine HMSG.out.mono ?_
 rintro e w5 ⟨o,ov,lv,own4,n4,rfl,st5,g5,oa5,h1,h2,h3⟩
 obtain ⟨oa,ok,lb,lj,rfl,rfl⟩:=oa5.forms
 have hok8:=N7 o oa lb o.out.length ok o.logs.length lj
 have hp:own (w.heap.size+1+1)=none:=D4 HST.out.lows (by omega)
 have hp4:own4 (w.heap.size+1+1)=none:=by rw [g5.ext _ HSZ.out];exact hp
 have f10:w5.free? (w.heap.size+1+1) 0 24=true:=by rw [g5.only.free? HSZ.out (fun hh=>hh hp)];exact HF3.out
 have OA10:=hid oa5
 have ST5:=hid st5
 have G5:=hid g5
 have HP4:=hid hp4
 have HOUT:Hid (0≤o.gas∧n4+o.gas.toNat≤N∧A3R er f' o):=⟨h1,h2,h3⟩
 clear st5 g5 oa5 h1 h2 h3 hp hp4 r3
 go_wp2
 refine I2 A2T rfl _ rfl rfl f10 hok8 ?_
 have ob:A0 (· = w.heap.size+1+1) w5 (w5.setCells (w.heap.size+1+1) 0 (B8 (F3 o (.slice oa o.out.length ok) (.slice lb o.logs.length lj)))):=A0.setCells (S:=fun b=>b=w.heap.size+1+1) (A0.refl _ _) (fun _=>rfl) _ _
 obtain ⟨h1,h2,h3⟩:=HOUT.out
 have g6:=HG3.out.trans G5.out
 exact ⟨o,_,_,own4,n4,rfl,ST5.out.only ob (fun b hb=>by rw [hb];exact HP4.out),⟨g6.ext,g6.only.trans ob (fun i hi he=>by have:i=w.heap.size+1+1:=hi;omega)⟩,(OA10.out.box HSZ.out ob).mono (by have:=HSZ.out;omega),h1,h2,h3⟩
end Go.Proofs.YtfflppedbopdpaaGreat
namespace Go.Proofs.YtfflppedbopdpaaGreat
open Go.RowKit Go.Mun
abbrev Mk3:=Nat × Value × List (I7 × Value × Value)
theorem A6U:∀ (ms:List Mk3) (k:Nat),(ms.flatMap fun m => [Value.int .i64 m.1,m.2.1]).take (k*2)=(ms.take k).flatMap fun m => [Value.int .i64 m.1,m.2.1]
 | [],k=>by simp
 | m :: r,0=>by simp
 | m :: r,k+1=>by
  rw [List.take_succ_cons,List.flatMap_cons,List.flatMap_cons,show (k+1)*2=2+k*2 by omega,← A6U r k]
  exact List.take_length_add_append (l₁:=[Value.int .i64 m.1,m.2.1]) (k*2)
theorem B1h:∀ (ms:List Mk3) (i:Nat) (m:Mk3),ms[i]? = some m→(ms.flatMap fun m => [Value.int .i64 m.1,m.2.1])[i*2]? = some (.int .i64 m.1)∧(ms.flatMap fun m => [Value.int .i64 m.1,m.2.1])[i*2+1]? = some m.2.1
 | [],i,m,h=>by simp at h
 | a :: r,0,m,h=>by
  simp only [List.getElem?_cons_zero,Option.some.injEq] at h
  subst h
  exact ⟨rfl,rfl⟩
 | a :: r,i+1,m,h=>by
  rw [List.getElem?_cons_succ] at h
  obtain ⟨h1,h2⟩:=B1h r i m h
  rw [List.flatMap_cons,show (i+1)*2=i*2+2 by omega]
  exact ⟨h1,h2⟩
section
variable {w:World} {own:Go.Mun.Own} {sb n:Nat} {lv mv:Value} {ps:List (I7 × Value × Value)} {ms:List Mk3}
theorem _root_.Go.Mun.RStC.back {ms1 ms2:List Mk3} {m:Mk3} {b c:Nat} (h:RStC w own sb lv (.slice (some ⟨b,0,none⟩) (ms1++m :: ms2).length c) ps (ms1++m :: ms2) n) :
  RStC ((w.setCell ⟨sb,0,none⟩ m.2.1).setCell ⟨sb,1,none⟩ (.slice (some ⟨b,0,none⟩) ms1.length c)) own sb m.2.1 (.slice (some ⟨b,0,none⟩) ms1.length c) m.2.2 ms1 n ∧
   K8 w ((w.setCell ⟨sb,0,none⟩ m.2.1).setCell ⟨sb,1,none⟩ (.slice (some ⟨b,0,none⟩) ms1.length c)) own own:=by
 have hO:A0 (· = sb) w ((w.setCell ⟨sb,0,none⟩ m.2.1).setCell ⟨sb,1,none⟩ (.slice (some ⟨b,0,none⟩) ms1.length c)):=(C6 _ _ _ _).trans (C6 _ _ _ _) (fun _ h _=>h)
 have hS:∀ b,b=sb→own b≠some .code∧own b≠some (.smap 0):=fun b hb=>by rw [hb,h.lab];simp
 have hno:∀ {u:Value} {l:Lab},l≠.st→(∀ g,u.ownBlock=some g→own g=some l)→∀ g,u.ownBlock=some g→¬ g=sb:=fun hl hv g hg e=>by
  have:=hv g hg
  rw [e,h.lab] at this
  cases this;exact hl rfl
 have hin:∀ m',m'∈ms1→m'∈ms1++m :: ms2:=fun _ h=>List.mem_append_left _ h
 have hm:m∈ms1++m :: ms2:=by simp
 have hmr:w.ownsRow 0 195 2 (.slice (some ⟨b,0,none⟩) ms1.length c) ms1.length (ms1.flatMap fun m => [.int .i64 m.1,m.2.1]):=by
  have h1:=own_take h.marks (show ms1.length≤(ms1++m :: ms2).length by simp)
  rw [A6U,List.take_left' rfl] at h1
  exact h1
 refine ⟨{
  lab:=h.lab
  row:=by
   have h1:(w.setCell ⟨sb,0,none⟩ m.2.1).row? sb 0 3=some [m.2.1,.slice (some ⟨b,0,none⟩) (ms1++m :: ms2).length c,.int .i64 n]:=by rw [G6 _ h.row (Nat.zero_le _) (by omega)];rfl
   rw [G6 _ h1 (Nat.zero_le _) (by omega)];rfl
  free:=by rw [D0,D0];exact h.free
  arr:=(h.each m hm).1.only hO hS (hno (by simp) (h.each m hm).1.lab)
  up:=(h.each m hm).2
  marks:=A0.own hmr hO (fun g hg=>hno (u:=.slice (some ⟨b,0,none⟩) (ms1++m :: ms2).length c) (by simp) h.mlab g (by cases hg;rfl))
  mlab:=fun g hg=>h.mlab g (by cases hg;rfl)
  each:=fun m' hm'=>⟨(h.each m' (hin m' hm')).1.only hO hS (hno (by simp) (h.each m' (hin m' hm')).1.lab),(h.each m' (hin m' hm')).2⟩
  apart:=by
   have h1:=(List.pairwise_cons.1 h.apart).2
   rw [List.map_append,List.map_cons] at h1
   have h2:=List.pairwise_append.1 h1
   refine List.pairwise_cons.2 ⟨fun a ha=>?_,h2.1⟩
   rcases h2.2.2 a ha m.2.1 (by simp) with e | e
   ·cases eb:m.2.1.ownBlock with
    | none=>exact .inl rfl
    | some g=>exact .inr (by rw [e];simp)
   ·exact .inr (fun e2=>e e2.symm)
  low:=fun b hb=>Nat.lt_of_lt_of_le (h.low b hb) hO.size
  count:=⟨by have:=h.count.1;simp at this;omega,fun m' hm'=>h.count.2 m' (hin m' hm')⟩ },⟨fun _ _=>rfl,hO.mono fun b hb=>by
   have hb':b=sb:=hb
   exact A2L (l:=.st) (by rw [hb'];exact h.lab) (by simp) (by simp)⟩⟩
end
theorem B7P {w:World} {own:Go.Mun.Own} {sb n x:Nat} {S S0:St} {M1 M2:List (Nat × St)} (h:RState w own sb S (M1++(x,S0) :: M2) n) (hx:∀ m∈M1,m.1≠x) (hn:n≤1000000) :
  Calls Tryz.prog 70 #[.pointer (some ⟨sb,0,none⟩),.int .i64 (x:Int)] w fun e w'=>e = .returned (.bool true)∧RState w' own sb S0 M1 n∧K8 w w' own own:=by
 obtain ⟨lv,mv,ps,ms,k,h1,hS,hM,hw,hwm,hkn⟩:=h
 obtain ⟨ms1,ms2',rfl,e1,e2⟩:=List.map_eq_append_iff.1 hM.symm
 match ms2',e2 with
 | m :: ms2,e2 =>
  simp only [List.map_cons,List.cons.injEq,Prod.mk.injEq] at e2
  obtain ⟨⟨hm1,hm2⟩,_⟩:=e2
  obtain ⟨b,c,emv,hlc,_,hbl,hrow,_⟩:∃ b c,mv = .slice (some ⟨b,0,none⟩) (ms1++m :: ms2).length c∧(ms1++m :: ms2).length≤c∧c≤maxLen∧b < w.heap.size∧w.row? b 0 ((ms1++m :: ms2).length*2)=some ((ms1++m :: ms2).flatMap fun m => [Value.int .i64 m.1,m.2.1])∧True:=by
   obtain ⟨g,c,h1',_,h3,h4,h5,_⟩:=J5 h1.marks (by rw [List.length_append,List.length_cons];omega)
   exact ⟨g,c,h1',h3,h4,World.row?_lt h5,h5,trivial⟩
  subst emv
  obtain ⟨q,hq⟩:∃ q,q=ms1.length:=⟨_,rfl⟩
  obtain ⟨L,hL⟩:∃ L,L=(ms1++m :: ms2).length:=⟨_,rfl⟩
  have hqL:q < L:=by rw [hq,hL];simp
  have hLn:L≤1000000:=by have:=h1.count.1;rw [hL];omega
  have hlen2:((ms1++m :: ms2).flatMap fun m => [Value.int .i64 m.1,m.2.1]).length=L*2:=by
   have:=World.row?_len hrow
   rw [hL];exact this
  have HAT:Hid (∀ i m',(ms1++m :: ms2)[i]? = some m'→w.cell? ⟨b,i*2,none⟩=some (.int .i64 m'.1)∧w.cell? ⟨b,i*2+1,none⟩=some m'.2.1):=by
   show ∀ i m',(ms1++m :: ms2)[i]? = some m'→w.cell? ⟨b,i*2,none⟩=some (.int .i64 m'.1)∧w.cell? ⟨b,i*2+1,none⟩=some m'.2.1
   intro i m' hm'
   have hi:i < (ms1++m :: ms2).length:=(List.getElem?_eq_some_iff.1 hm').1
   obtain ⟨g1,g2⟩:=B1h _ i m' hm'
   have r1:=World.row?_cell hrow (i:=i*2) (by omega)
   have r2:=World.row?_cell hrow (i:=i*2+1) (by omega)
   rw [Nat.zero_add] at r1 r2
   exact ⟨r1.trans g1,r2.trans g2⟩
  have HQM:Hid ((ms1++m :: ms2)[q]? = some m):=by show _=_;rw [hq,List.getElem?_append_right (Nat.le_refl _),Nat.sub_self];rfl
  have HNE:Hid (∀ i,i < q→∃ y:Nat,w.cell? ⟨b,i*2,none⟩=some (.int .i64 (y:Int))∧y≠x):=by
   show ∀ i,i < q→∃ y:Nat,_
   intro i hi
   have hi1:i < ms1.length:=by rw [← hq];exact hi
   have hg:(ms1++m :: ms2)[i]? = some ms1[i]:=by rw [List.getElem?_append_left hi1];exact List.getElem?_eq_getElem hi1
   exact ⟨_,(HAT.out i _ hg).1,hx (ms1[i].1,rst (I1 ms1[i].2.2)) (by rw [← e1];exact List.mem_map.2 ⟨ms1[i],List.getElem_mem _,rfl⟩)⟩
  have HQX:Hid (w.cell? ⟨b,q*2,none⟩=some (.int .i64 (x:Int))∧w.cell? ⟨b,q*2+1,none⟩=some m.2.1):=by
   have:=HAT.out q m HQM.out
   rw [hm1] at this
   exact this
  have c0:=World.row?_cell h1.row (i:=1) (by omega)
  simp only [Nat.zero_add,List.getElem?_cons_succ,List.getElem?_cons_zero] at c0
  rw [← hL] at c0
  have f0:=World.free?_sub h1.free (o':=0) (n':=1) (by omega)
  have f1:(w.setCell ⟨sb,0,none⟩ m.2.1).free? sb 1 1=true:=by rw [D0];exact World.free?_sub h1.free (o':=1) (n':=1) (by omega)
  obtain ⟨bk,gk⟩:=h1.back
  have HBK:=hid bk
  have HGK:=hid gk
  have ho1:m.2.1.oneCell'=true:=by obtain ⟨_,_,e⟩:=E9 (h1.each m (by simp)).1.cells;rw [e];rfl
  have HFIN:Hid (S0=rst (I1 m.2.2)∧M1=ms1.map (fun m=>(m.1,rst (I1 m.2.2)))∧A0r m.2.2 n∧(∀ m'∈ms1,A0r m'.2.2 n)∧k≤n):=⟨hm2.symm,e1.symm,hwm m (by simp),fun m' hm'=>hwm m' (List.mem_append_left _ hm'),hkn⟩
  have c1:(w.setCell ⟨sb,0,none⟩ m.2.1).cell? ⟨sb,1,none⟩=some (.slice (some ⟨b,0,none⟩) L c):=by rw [World.cell?_setCell_other _ _ _ _ (by simp)];exact c0
  have hqc:(q:Int)≤(c:Int):=by omega
  have HQ:=hid hq
  have hxb:sb≠b:=fun e=>by have h2:=h1.mlab b rfl;rw [← e,h1.lab] at h2;cases h2
  rw [← hq] at HBK HGK
  obtain ⟨Z,hZ⟩:∃ Z,Z=m.2.1:=⟨_,rfl⟩
  rw [← hZ] at HQX HBK HGK f1 ho1 c1
  clear h1 hS hM hw hwm hkn e1 hm1 hm2 hlc hrow hL hq bk gk hx hZ hlen2
  go_enter Tryz.func70,Tryz.ntmps70
  go_wp2_with fail
  go_loopw [5] (fun i wr=>wr=w∧∃ j:Nat,i = .int .i64 (j:Int)∧j≤q) (fun i _=>q - (intOf i).toNat)
  case atStart=>exact ⟨rfl,0,rfl,Nat.zero_le _⟩
  case round =>
   obtain ⟨rfl,j,rfl,hjq⟩:=hrel
   have hjL:(j:Int) < (L:Int):=by omega
   have dI:decide ((j:Int) < (L:Int))=true:=decide_eq_true hjL
   by_cases hj:j=q
   ·subst hj
    have r1:=HQX.out.1
    have r2:=HQX.out.2
    have hq2:(((x:Int)) == (x:Int))=true:=by simp
    have c1':=c1
    clear hjq
    go_wp2
    go_ret
    exact ⟨rfl,⟨_,_,_,_,_,HBK.out,HFIN.out⟩,HGK.out⟩
   ·obtain ⟨y,hy,hyx⟩:=HNE.out j (by omega)
    have hq2:((y:Int) == (x:Int))=false:=by simp;omega
    have hw1:IntKind.i64.wrap ((j:Int)+1)=((j+1:Nat):Int):=by rw [U6 _ (by omega) (by omega)];omega
    have HJ:Hid (j+1≤q):=by show _≤_;omega
    clear hjq hj hyx
    go_wp2
    go_roundw
    case rel=>exact ⟨by first | trivial | rfl,j+1,by simp,HJ.out⟩
    case measure=>have:=HJ.out;simp [intOf];omega
end Go.Proofs.YtfflppedbopdpaaGreat
namespace Go.Proofs.YtfflppedbopdpaaGreat
open Go.RowKit Go.Mun
theorem B4R (g e:Int) (a:Option Addr) (k kc:Nat) :
  F8 24 (N8 L3) (B8 L3) [(0,.int .i64 g),(1,.int .i64 e),(2,.slice a k kc)]=some (B8 (F3 ⟨g,e,[],[],0⟩ (.slice a k kc) (.slice none 0 0))):=by
 rw [F7 _ _ _ K1]
 ·rfl
 ·rw [A7R]
  exact C0 rfl (C0 rfl (C0 rfl (L0 _)))
def A67 (x:Nat) (f:Fr):Int:=if x=15 then (f.gas:Int) else 0
def A4v (x:Nat) (f:Fr):J1:=if x=15 then f.out else []
def B9X (E:U3) (w:World) (own:Go.Mun.Own) (x:Nat) (f:Fr) (S0:St) (M1:List (Nat × St)) (n:Nat) (e:Ending) (w':World):Prop:=
 ∃ oa oc,e = .returned (.agg (B8 (F3 ⟨A67 x f,x,[],[],0⟩ (.slice oa (A4v x f).length oc) (.slice none 0 0))).toArray)∧RState w' own E.sb S0 M1 n∧K8 w w' own own∧G9 w' .u8 oa oc (A4v x f)∧(∀ p,oa=some p→A4v x f≠[]→¬ hot own p.block)
theorem A8P {E:U3} {w:World} {own:Go.Mun.Own} {c:RFV} {f:Fr} {S S0:St} {M1 M2:List (Nat × St)} {n mk x:Nat} (h:C9 E w own c f S (M1++(mk,S0) :: M2) n) (hmk:∀ m∈M1,m.1≠mk) (hx:x≠0) :
  Calls Tryz.prog 72 #[.pointer (some ⟨E.fb,0,none⟩),.int .i64 (x:Int),.int .i64 (mk:Int)] w (B9X E w own x f S0 M1 n):=by
 have hlim:n≤1000000:=by have h1:=h.cnt;have h2:=h.lim;omega
 have x0:((x:Int) == 0)=false:=by simp;omega
 obtain ⟨W,hW⟩:∃ W,W=w.alloc (.cells (B8 L3).toArray 41):=⟨_,rfl⟩
 have hb:Below w.heap.size w W:=by rw [hW];exact (Below.refl _ _).alloc (Nat.le_refl _) _
 have hf:W.free? w.heap.size 0 24=true:=by rw [hW];exact B4Y w
 have ho:own w.heap.size=none:=X8 h.st (Nat.le_refl _)
 have h1:=h.below hb
 have c0:=B7I h1.row
 have HB:=hid (B7P h1.st hmk hlim)
 rw [hW] at c0
 have HW:=hid hW
 have H1:=hid h1
 have HBW:=hid hb
 have HO:=hid ho
 have HF:=hid hf
 have hlt:w.heap.size < W.heap.size:=C1 hf
 have HLT:=hid hlt
 have HRW:=hid h.out
 clear h hW h1 hb ho hf hlt hmk hlim
 by_cases hx15:x=15
 ·subst hx15
  obtain ⟨⟨oa,oc,hov,hoi,hox⟩,hby,hln⟩:=H1.out.out
  have HOV:=hid hov
  have HRO:Hid (J3 w (rmn E own c) (.slice oa f.out.length oc) f.out):=by show J3 _ _ _ _;rw [← hov];exact HRW.out
  have hbld:=B4R f.gas 15 oa f.out.length oc
  have hok:=N7 ⟨f.gas,15,[],[],0⟩ oa none f.out.length oc 0 0
  clear hov hoi hox hby hln x0 hx
  go_enter Tryz.func72,Tryz.ntmps72
  go_wp2_with fail
  rw [← HW.out]
  refine HB.out.mono ?_
  rintro e w1 ⟨rfl,st1,g1⟩
  have hlt1:E.fb < W.heap.size:=World.row?_lt H1.out.row
  have r1:w1.row? E.fb 0 1516=some (B8 (rfS E c f)):=(g1.only.row? hlt1 (A1y H1.out.fown)).trans H1.out.row
  have c228:=A92 r1
  have c233:=B3U r1
  rw [HOV.out] at c233
  have hfd:w1.free? w.heap.size 0 24=true:=(g1.only.free? HLT.out (A1y HO.out)).trans HF.out
  have ST1:=hid st1
  have G1:=hid g1
  have q228:w1.drew.cell? ⟨E.fb,228,none⟩=some (.int .i64 f.gas):=c228
  have q233:w1.drew.cell? ⟨E.fb,233,none⟩=some (.slice oa f.out.length oc):=c233
  have hfd':w1.drew.free? w.heap.size 0 24=true:=hfd
  clear st1 g1 r1 c0 c228 c233 hlt1
  go_wp2_with fail
  go_still_tail 10,(by kernel_rfl)
  go_wp2
  have ob:A0 (· = w.heap.size) w1 (w1.drew.setCells w.heap.size 0 (B8 (F3 ⟨f.gas,15,[],[],0⟩ (.slice oa f.out.length oc) (.slice none 0 0)))):=A0.setCells (S:=fun b=>b=w.heap.size) (A0.of_below_size (Below.refl _ _).drew) (fun _=>rfl) _ _
  have gw:=(K8.below own HBW.out).trans G1.out
  have g2:K8 w (w1.drew.setCells w.heap.size 0 (B8 (F3 ⟨f.gas,15,[],[],0⟩ (.slice oa f.out.length oc) (.slice none 0 0)))) own own:=⟨gw.ext,gw.only.trans ob (fun i hi he=>by have:i=w.heap.size:=hi;omega)⟩
  obtain ⟨⟨oa',oc',e,hi,ha⟩,_,_⟩:=HRO.out.only g2.only (X':=rmn E own c) (fun b hb => .inl (.inl hb)) (fun _ _ h=>h)
  cases e
  exact I2 A2T rfl _ rfl rfl hfd' hok ⟨oa,oc,rfl,ST1.out.only ob (fun b hb=>by have e:b=w.heap.size:=hb;rw [e];exact HO.out),g2,hi,fun p hp hn hh=>ha hn p hp (.inl (.inl hh))⟩
 ·have x15:((x:Int) == 15)=false:=by simp;omega
  have hok:=N7 ⟨0,x,[],[],0⟩ none none 0 0 0 0
  go_enter Tryz.func72,Tryz.ntmps72
  go_wp2_with fail
  rw [← HW.out]
  refine HB.out.mono ?_
  rintro e w1 ⟨rfl,st1,g1⟩
  have hfd:w1.free? w.heap.size 0 24=true:=(g1.only.free? HLT.out (A1y HO.out)).trans HF.out
  have ST1:=hid st1
  have G1:=hid g1
  clear st1 g1 c0
  go_wp2_with fail
  refine (A94 0 x _).mono ?_
  rintro e w2 ⟨rfl,hb2⟩
  have hfd2:w2.free? w.heap.size 0 24=true:=((C7 hb2).2 _ _ _ (C1 hfd)).trans hfd
  have HB2:=hid hb2
  clear hb2
  go_wp2
  have ob:A0 (· = w.heap.size) w1 (w2.setCells w.heap.size 0 (B8 (F3 ⟨0,x,[],[],0⟩ (.slice none 0 0) (.slice none 0 0)))):=A0.setCells (S:=fun b=>b=w.heap.size) (A0.of_below_size HB2.out) (fun _=>rfl) _ _
  have gw:=(K8.below own HBW.out).trans G1.out
  have g2:K8 w (w2.setCells w.heap.size 0 (B8 (F3 ⟨0,x,[],[],0⟩ (.slice none 0 0) (.slice none 0 0)))) own own:=⟨gw.ext,gw.only.trans ob (fun i hi he=>by have:i=w.heap.size:=hi;omega)⟩
  have eg:A67 x f=0:=if_neg hx15
  have eo:A4v x f = []:=if_neg hx15
  refine I2 A2T rfl _ rfl rfl hfd2 hok ⟨none,0,?_,ST1.out.only ob (fun b hb=>by have e:b=w.heap.size:=hb;rw [e];exact HO.out),g2,?_,fun p hp=>by cases hp⟩
  ·rw [eg,eo];rfl
  ·rw [eo];exact ⟨fun h=>absurd rfl h,fun _=>rfl,Nat.le_refl _,Nat.zero_le _⟩
end Go.Proofs.YtfflppedbopdpaaGreat
namespace Go.Proofs.YtfflppedbopdpaaGreat
open Go.RowKit Go.Mun
attribute [local irreducible] A2Y tl0
def A5E (x:Nat) (f:Fr):Int:=if x=0 then f.gas else A67 x f
def A3w (x:Nat) (f:Fr):J1:=if x=0 then f.out else A4v x f
def B9W (w:World) (own:Go.Mun.Own) (lv:Value) (l:List Lg):Prop:=∃ cs,w.ownsRow 0 58 22 lv l.length cs∧U5 w (hot own) cs l
def B5b (w:World) (own:Go.Mun.Own) (sb:Nat) (S S':St) (N x:Nat) (f':Fr) (e:Ending) (w':World):Prop:=
 ∃ oa oc lv own' M' n',e = .returned (.agg (B8 (F3 ⟨A5E x f',x,[],[],0⟩ (.slice oa (A3w x f').length oc) lv)).toArray)∧RState w' own' sb (if x=0 then S' else S) M' n'∧K8 w w' own own'∧n'≤N∧(x=0∨A3w x f' = []→G9 w' .u8 oa oc (A3w x f'))∧B9W w' own' lv (if x=0 then f'.logs else [])
theorem B2s {w:World} {own:Go.Mun.Own} {sb n:Nat} {S:St} {M:List (Nat × St)} {m:Msg} {dv:Value} {cx:Ctx} {pr:Fr→St→Int→Pri} {dor:Fr→St→Int→Res} {S1 S':St} {f':Fr} {K N x:Nat} (hTO:∀ E,B1S E pr dor) (h:RState w own sb S M n) (hm:A1X m) (hk:m.kind=0) (hg:0≤m.gas) (hd:m.depth≤64) (hs:m.static=false) (hda:J3 w (hot own) dv m.data)
  (hN:n+10+m.gas.toNat≤N) (hN2:N≤999000) (hmv:S.move m.frm m.to m.value=some S1) (hl:V7 (J2 pr dor) K (P3 m (S1 m.to).code) S1=some (x,f',S')) :
  Calls Tryz.prog 38 #[.pointer (some ⟨sb,0,none⟩),.agg (B8 (I0 m dv)).toArray,.agg (B8 (A1o cx)).toArray] w (B5b w own sb S S' N x f'):=by
 have hn:n≤999000:=by omega
 have hv:¬ (S m.frm).bal < m.value:=fun hh=>by unfold St.move at hmv;rw [if_pos hh] at hmv;cases hmv
 have hml:=N4 m dv
 have hcl:=A1T cx
 obtain ⟨w0,e0⟩:∃ w0,w0=((w.alloc (.cells (B8 (I0 m dv)).toArray 37)).alloc (.cells (B8 (A1o cx)).toArray 64)).alloc (.cells (B8 L3).toArray 41):=⟨_,rfl⟩
 have hB0:A2A w own m dv cx w0 own sb S M n:=by rw [e0];exact A2A.start h
 have c0:(B8 (I0 m dv))[0]'(by rw [hml];omega) = .int .i64 m.kind:=rfl
 have c1:=A5q m dv
 have c2:=A8W m dv
 rw [hk] at c0
 have hfa:=hm.frm
 have hta:=hm.to
 have hva:=hm.value
 have HST:=hid h
 have HB0:=hid hB0
 have HE:=hid e0
 have HM:=hid hm
 have HK:=hid hk
 obtain ⟨xb,hx⟩:∃ xb,xb=(S m.frm).bal:=⟨_,rfl⟩
 have hxW:xb < wW:=by rw [hx];exact h.bal m.frm
 have HX:=hid hx
 have HN:=hid hn
 obtain ⟨T,hT⟩:∃ T:World→Prop,T=fun W=>A2A w own m dv cx W own sb S M n∧RState W own sb S M n∧Below w.heap.size w W:=⟨_,rfl⟩
 have HT:=hid hT
 have HTB:Hid (∀ w2 w3,T w2→Below w2.heap.size w2 w3→T w3):=by show ∀ w2 w3,T w2→Below w2.heap.size w2 w3→T w3;rw [hT];intro w2 w3 h hb;exact ⟨h.1.below hb,h.2.1.below hb,h.2.2.trans (hb.mono h.2.2.size)⟩
 have HTG:Hid (∀ w2,T w2→A2A w own m dv cx w2 own sb S M n∧RState w2 own sb S M n∧Below w.heap.size w w2):=by show ∀ w2,T w2→_;rw [hT];intro w2 h;exact h
 have tt:T w0.drew:=by rw [hT];exact ⟨hB0.below (Below.refl _ _).drew,(hB0.below (Below.refl _ _).drew).st,by rw [e0];exact ((((Below.refl _ _).alloc (Nat.le_refl _) _).alloc (by simp) _).alloc (by simp;omega) _).drew⟩
 have hdI:decide ((64:Int) < m.depth)=false:=decide_eq_false (by omega)
 have hgI:decide (m.gas < 0)=false:=decide_eq_false (by omega)
 have hgn:¬ m.gas < 0:=by omega
 have hcn:¬ T5 xb m.value < 0:=by rw [hx];exact A4S hv
 have hdc:decide (T5 xb m.value < 0)=false:=decide_eq_false hcn
 obtain ⟨da,dk,hdv⟩:∃ a k,dv = .slice a m.data.length k:=by obtain ⟨⟨a,k,h1,_⟩,_⟩:=hda;exact ⟨a,k,h1⟩
 have HTO:=hid hTO
 have HDA:=hid hda
 have HNN:=hid hN
 have HN2:=hid hN2
 have HMV:=hid hmv
 have HL:=hid hl
 have HS:=hid hs
 have HG:=hid hg
 have HDV:=hid hdv
 clear h hm hk hB0 e0 hg hd hx hn hT hv hda hN hN2 hmv hl hs hTO hdv
 go_enter Tryz.func38,Tryz.ntmps38
 go_wp2_with fail
 rw [← HE.out]
 have t0:=tt
 clear tt
 refine A7 T [] (.pure 0 (.pure 1 (.pure 2 (.pure 3 (.take 4 (.pure 7 (.take 8 (.alt 5 (.pure 6 (.alt 9 (.pure 10 (.pure 11 (.pure 12 .fin))) .stop)) .stop)))))))) (by kernel_rfl) (by kernel_rfl) ?_
 iterate 7
  first
  |refine A2 ?_ rfl (by rfl) (fun w' hs=>?_) (fun _ _ _ h=>h) ?_
   rotate_left
   ·clear hs
    go_simp
    try rfl
   simp only [Act.put,D7,D6,D5]
  |refine A9 ?_ t0 rfl (by rfl) (fun w' hs=>?_) (fun _ _ _ h=>h) ?_
   rotate_left
   ·rw [HT.out] at hs
    obtain ⟨g,_,_⟩:=hs;have q1:=A4O g.t4;have q2:=A1L g.t4;simp only [Nat.zero_add] at q1 q2
    go_simp
    try rfl
   simp only [Act.put,D7,D6,D5]
 refine A5 rfl (fun K hK=>?_)
 go_simp
 refine (A8Q (HTG.out _ t0).2.1 hfa (by have:=HN.out;omega)).mono ?_
 rintro e wa ⟨p,rfl,hba,hga⟩
 have hfp:∀ W,(Instr.field 35 (.agg (I8 p).toArray) 2).run Tryz.prog W = .ok (.agg (A3 32 xb).toArray) W:=fun W=>by rw [A7Y,A3H hga,HX.out]
 obtain ⟨C,hC⟩:∃ C,C=I8 p:=⟨_,rfl⟩
 rw [← hC] at hfp ⊢
 have t1:T wa:=HTB.out _ _ t0 hba
 clear hba hga hC
 refine hK.out _ _ t1 ?_
 clear hK K
 refine A2 ?_ rfl (by rfl) (fun w' hs=>?_) (fun _ _ _ h=>h) ?_
 rotate_left
 ·clear hs
  go_simp
  try rfl
 simp only [Act.put,D7,D6,D5]
 refine A5 rfl (fun K hK=>?_)
 go_simp
 refine (A7B xb m.value hxW hva _).mono ?_
 rintro e wb ⟨rfl,hbb⟩
 have t2:T wb:=HTB.out _ _ t1 hbb
 clear hbb
 refine hK.out _ _ t2 ?_
 clear hK K
 iterate 3
  refine A2 ?_ rfl (by rfl) (fun w' hs=>?_) (fun _ _ _ h=>h) ?_
  rotate_left
  ·clear hs
   go_simp
   try rfl
  simp only [Act.put,D7,D6,D5]
 refine C2 ?_
 have HB2:=hid (HTG.out _ t2).1
 have k2:=A3A HB2.out.t4
 rw [HK.out,Nat.zero_add] at k2
 clear t0 t1 t2 hfp c0 c1 c2 hdc hcn
 go_wp2_with fail
 refine (B7N HB2.out.st (by have:=HN.out;omega)).mono ?_
 rintro e w3 ⟨mk,rfl,hmk,own3,st3,g3⟩
 have HB3:=hid (HB2.out.go st3 g3)
 have HMK:=hid hmk
 clear hmk st3 g3 k2
 -- the frame's box
 obtain ⟨fb,hfb⟩:∃ fb,fb=w3.heap.size:=⟨_,rfl⟩
 obtain ⟨E,hE⟩:∃ E:U3,E=⟨w3,own3,sb,fb,m,dv,cx,M++[(mk,S)],N⟩:=⟨_,rfl⟩
 have e1:E.sb=sb:=by rw [hE]
 have e2:E.fb=fb:=by rw [hE]
 have hbld:=B4W sb m dv cx m.to m.value da m.data.length dk m.static m.gas
 rw [← HDV.out] at hbld
 obtain ⟨L,hL⟩:∃ L,L=B8 [[.pointer (some ⟨sb,0,none⟩)],B8 (I0 m dv),B8 (A1o cx),A3 20 m.to,[.slice none 0 0],[dv],A3 32 m.value,[.bool m.static],[.int .i64 m.gas],[.int .i64 0],[.slice none 0 0],[.slice none 0 0],[.slice none 0 0],[.slice none 0 0],[.slice none 0 0],[.bool false],tl0]:=⟨_,rfl⟩
 have hLf:L=B8 (rfS E (A8G (.slice none 0 0) dv) (P3 m (S1 m.to).code)):=by
  rw [hL,hE]
  unfold rfS A8G P3
  simp only [Int.toNat_of_nonneg HG.out]
  rfl
 have hLl:L.length=1516:=by rw [hLf];exact B5I _ _ _ B0Y
 rw [← hL] at hbld
 obtain ⟨w4,e4⟩:∃ w4,w4=w3.alloc (.cells L.toArray 145):=⟨_,rfl⟩
 have hb4:Below w3.heap.size w3 w4:=by rw [e4];exact (Below.refl _ _).alloc (Nat.le_refl _) _
 have hown:own3 fb=none:=X8 HB3.out.st (by rw [hfb];exact Nat.le_refl _)
 have hFr:FrB E (A8G (.slice none 0 0) dv) (P3 m (S1 m.to).code) w4 own3:=by
  refine ⟨?_,?_,by rw [e2];exact hown,by rw [hE];show w3.heap.size≤fb;omega,by rw [hE];exact K8.below own3 hb4⟩
  ·rw [e2,← hLf,e4,hfb];exact World.row?_alloc_at _ _ _ rfl hLl
  ·rw [e2,e4,hfb];exact World.free?_alloc_at _ _ rfl (by rw [hLl];omega)
 have HB4:=hid (HB3.out.below hb4)
 have HFr:=hid hFr
 have HE4:=hid e4
 have HE1:=hid e1
 have HE2:=hid e2
 have HFB:=hid hfb
 have HEE:=hid hE
 have HFLT:Hid (w.heap.size+1+1 < fb):=by show _ < _;rw [hfb];exact C1 HB3.out.t6
 have r3:=HB3.out.t4
 have r3c:=HB3.out.t5
 have q3t:=A2s r3
 have q3d:=B4h r3
 have q3v:=A1L r3
 have q3s:=A5p r3
 have q3k:=A3A r3
 rw [HK.out] at q3k
 simp only [Nat.zero_add] at q3t q3d q3v q3s q3k
 rw [HS.out] at q3s hbld
 have q4t:=A2s HB4.out.t4
 simp only [Nat.zero_add] at q4t
 rw [e4] at q4t
 clear hL hLf e4 hb4 hown hFr e1 e2 hfb hE
 go_wp2_with fail
 rw [← HE4.out]
 rw [← HFB.out]
 refine (A8Q HB4.out.st hta (by have:=HN.out;omega)).mono ?_
 rintro e w5 ⟨p,rfl,hb5,hg5⟩
 have hfp:∀ W,(Instr.field 35 (.agg (I8 p).toArray) 3).run Tryz.prog W = .ok p.2.1 W:=fun W=>B1t p W
 obtain ⟨C,hC⟩:∃ C,C=I8 p:=⟨_,rfl⟩
 rw [← hC] at hfp ⊢
 obtain ⟨⟨ca,ck,hcv,_,_⟩,_,_⟩:=hg5.ok.code
 rw [hcv] at hfp
 generalize p.1.ac.code.length=cn at hfp
 clear hC hg5 hcv r3 r3c q3t q3d q3v q3s q3k q4t hbld hLl
 have HB5:=hid (HB4.out.below hb5)
 have HFr5:=hid (HFr.out.go (K8.below own3 hb5))
 have f5:w5.free? fb 193 1=true:=by rw [← HE2.out];exact World.free?_sub HFr5.out.free (by omega)
 obtain ⟨w6,e6⟩:∃ w6,w6=w5.setCell ⟨fb,193,none⟩ (.slice ca cn ck):=⟨_,rfl⟩
 have hFr6:=HFr5.out.code (.slice ca cn ck)
 rw [HE2.out,← e6] at hFr6
 have HFr6:=hid hFr6
 have HB6:Hid (A2A w own m dv cx w6 own3 sb S (M++[(mk,S)]) (n+1)):=HB5.out.box (b:=fb) HFLT.out (by rw [← HE2.out];exact HFr5.out.fown) (by rw [e6];exact C6 _ _ _ _)
 have q6k:=A3A HB6.out.t4
 rw [HK.out] at q6k
 have q6f:=A4O HB6.out.t4
 have q6t:=A2s HB6.out.t4
 have q6v:=A1L HB6.out.t4
 simp only [Nat.zero_add] at q6k q6f q6t q6v
 rw [e6] at q6k q6f q6t q6v
 have HE6:=hid e6
 clear hb5 e6 hFr6
 go_wp2_with fail
 rw [← HE6.out]
 have HMO:=hid (B7M HB6.out.st hfa hta hva (by have:=HN.out;omega))
 rw [HMV.out] at HMO
 refine HMO.out.mono ?_
 rintro e w7 ⟨rfl,own7,st7,g7⟩
 have HB7:=hid (HB6.out.go st7 g7)
 have HFr7:=hid (HFr6.out.go g7)
 have q7t:=A2s HB7.out.t4
 simp only [Nat.zero_add] at q7t
 clear st7 g7 q6k q6f q6t q6v hfp f5 HMO
 go_wp2_with fail
 refine (A8Q HB7.out.st hta (by have:=HN.out;omega)).mono ?_
 rintro e w8 ⟨p,rfl,hb8,hg8⟩
 have hfp:∀ W,(Instr.field 35 (.agg (I8 p).toArray) 3).run Tryz.prog W = .ok p.2.1 W:=fun W=>B1t p W
 obtain ⟨C,hC⟩:∃ C,C=I8 p:=⟨_,rfl⟩
 rw [← hC] at hfp ⊢
 have hcode:p.1.ac.code=(S1 m.to).code:=by have:=congrArg Acc.code hg8.acc;exact this
 have hcd:=hg8.ok.code
 rw [hcode] at hcd
 obtain ⟨cv,hcv⟩:∃ cv,cv=p.2.1:=⟨_,rfl⟩
 rw [← hcv] at hcd hfp
 have HCD:Hid (Q2 w8 own7 cv (S1 m.to).code):=hcd.only (R:=fun _=>False) (A0.of_below_size hb8) (fun _ h=>h.elim)
 obtain ⟨⟨ca2,ck2,hcv2,_,_⟩,_,_⟩:=hcd
 have hcn:(S1 m.to).code.length=(S1 m.to).code.length:=rfl
 have HB8:=hid (HB7.out.below hb8)
 have HFr8:=hid (HFr7.out.go (K8.below own7 hb8))
 have f8:w8.free? fb 193 1=true:=by rw [← HE2.out];exact World.free?_sub HFr8.out.free (by omega)
 obtain ⟨w9,e9⟩:∃ w9,w9=w8.setCell ⟨fb,193,none⟩ cv:=⟨_,rfl⟩
 have hFr9:=HFr8.out.code cv
 rw [HE2.out,← e9] at hFr9
 have HFr9:Hid (FrB E (A8G cv dv) (P3 m (S1 m.to).code) w9 own7):=hFr9
 have hO9:A0 (· = fb) w8 w9:=by rw [e9];exact C6 _ _ _ _
 have hfo:own7 fb=none:=by rw [← HE2.out];exact HFr8.out.fown
 have HB9:Hid (A2A w own m dv cx w9 own7 sb S1 (M++[(mk,S)]) (n+1+4)):=HB8.out.box (b:=fb) HFLT.out hfo hO9
 have HCD9:Hid (Q2 w9 own7 cv (S1 m.to).code):=HCD.out.only hO9 (fun b hb=>by have e:b=fb:=hb;rw [e,hfo];simp)
 have HRF:Hid (C9 E w9 own7 (A8G cv dv) (P3 m (S1 m.to).code) S1 (M++[(mk,S)]) (n+1+4)):=by
  have hsb:=HB9.out.st
  rw [← HE1.out] at hsb
  exact B2f (T:=[]) HFr9.out hsb HCD9.out HDA.out HB9.out.chg (by have:=HFLT.out;have:=HE2.out;omega) HM.out (by rw [HEE.out];simp) (by have:=HNN.out;rw [HEE.out];show n+1+4+m.gas.toNat≤N;omega) (by rw [HEE.out];exact HN2.out)
 have HE9:=hid e9
 rw [hcv2] at hfp
 have HCV2:=hid hcv2
 clear hb8 hg8 hC hcode hcv hcv2 hcn e9 hFr9 hO9 hfo q7t
 go_wp2_with fail
 rw [← HCV2.out]
 rw [← HE9.out]
 have HRUN:=hid (B7H (HTO.out E) HRF.out HL.out)
 rw [HE2.out] at HRUN
 refine HRUN.out.mono ?_
 rintro e w10 ⟨rfl,own10,c10,M10,n10,f10,S10,h10,hx0,hx15⟩
 have hov:=h10.out
 obtain ⟨⟨oa,oc,hout,hoi,hox⟩,_,_⟩:=hov
 have hch:=h10.chg
 have HS10:Hid (RState w10 own10 sb S10 M10 n10):=by have:=h10.st;rw [HE1.out] at this;exact this
 have HN10:Hid (n10≤N):=by have:=h10.cnt;rw [HEE.out] at this;show n10≤N;have h2:n10+f10.gas≤N:=this;omega
 rw [HEE.out] at hch
 have HCH:Hid (K8 w3 w10 own3 own10):=hch
 have HB10:=hid (HB3.out.go HS10.out HCH.out)
 by_cases hxz:x=0
 ·subst hxz
  obtain ⟨rfl,rfl⟩:=hx0 rfl
  obtain ⟨lcs,hlo1,hlo2⟩:=h10.logs
  obtain ⟨la,lc,hlv⟩:=E9 hlo1
  have HO:=hid (B2t (mk:Int) h10)
  rw [HE2.out] at HO
  rw [hout,hlv] at HO
  rw [hlv] at hlo1
  have HEW:Hid (w.heap.size+1+1 < E.w0.heap.size):=by show _ < _;rw [HEE.out];exact C1 HB3.out.t6
  have HLG:Hid (w10.ownsRow E.w0.heap.size 58 22 (.slice la f10.logs.length lc) f10.logs.length lcs∧U5 w10 (rmn E own10 c10) lcs f10.logs):=⟨hlo1,hlo2⟩
  have HOU:Hid (J3 w10 (rmn E own10 c10) (.slice oa f10.out.length oc) f10.out):=by have:=h10.out;rw [hout] at this;exact this
  clear h10 hx0 hx15 hout hoi hox hch hfp f8 HRUN hlo1 hlo2 hlv
  go_wp2_with fail
  refine HO.out.mono ?_
  rintro e w11 ⟨rfl,hb11⟩
  have HB11:=hid (HB10.out.below hb11)
  have HBB:=hid hb11
  have hf11:=HB11.out.t6
  have hok:=N7 ⟨f10.gas,0,f10.out,f10.logs,0⟩ oa la f10.out.length oc f10.logs.length lc
  clear hb11 HO
  go_wp2
  have ob:A0 (· = w.heap.size+1+1) w11 (w11.setCells (w.heap.size+1+1) 0 (B8 (F3 ⟨f10.gas,0,f10.out,f10.logs,0⟩ (.slice oa f10.out.length oc) (.slice la f10.logs.length lc)))):=A0.setCells (S:=fun b=>b=w.heap.size+1+1) (A0.refl _ _) (fun _=>rfl) _ _
  have hbx:∀ b,b=w.heap.size+1+1→rmn E own10 c10 b:=fun b e => .inr (by rw [e];exact HEW.out)
  have hRO:=(HOU.out.below HBB.out).only (X':=rmn E own10 c10) ob hbx (fun _ _ h=>h)
  obtain ⟨⟨a',c',e',hi,_⟩,_,_⟩:=hRO
  cases e'
  refine I2 A2T rfl _ rfl rfl hf11 hok ⟨oa,oc,.slice la f10.logs.length lc,own10,M10,n10,rfl,HB11.out.st.only ob (fun b hb=>by have e:b=w.heap.size+1+1:=hb;rw [e];exact HB11.out.o6),⟨HB11.out.chg.ext,HB11.out.chg.only.trans ob (fun i hi he=>by have:i=w.heap.size+1+1:=hi;omega)⟩,HN10.out,fun _=>hi,?_⟩
  rw [if_pos rfl]
  refine ⟨lcs,A0.own (D9 (C3 HLG.out.1 HBB.out) (Nat.zero_le _)) ob (fun g hg e=>?_),((HLG.out.2.only (R:=fun _=>False) (X':=rmn E own10 c10) (A0.of_below_size HBB.out) (fun _ h=>h.elim) (fun _ _ h=>h)).only ob hbx (fun b _ hb => .inl (.inl hb)))⟩
  have h1:=E4 HLG.out.1 g hg
  have h2:=HEW.out
  have h3:g=w.heap.size+1+1:=e
  omega
 ·obtain ⟨T10,hT10⟩:=h10.ms
  have hM:M10=M++(mk,S) :: T10:=by rw [hT10,HEE.out];show (M++[(mk,S)])++T10=_;rw [List.append_assoc];rfl
  rw [hM] at h10
  have HO:=hid (A8P h10 (fun m' hm'=>Nat.ne_of_lt (HMK.out m' hm')) hxz)
  rw [HE2.out] at HO
  have eg:A67 x f10=A5E x f':=by unfold A5E A67;rw [if_neg hxz];exact (by by_cases e:x=15;(rw [if_pos e,if_pos e,(hx15 e).1]);(rw [if_neg e,if_neg e]))
  have eo:A4v x f10=A3w x f':=by unfold A3w A4v;rw [if_neg hxz];exact (by by_cases e:x=15;(rw [if_pos e,if_pos e,(hx15 e).2]);(rw [if_neg e,if_neg e]))
  have HEG:=hid eg
  have HEO:=hid eo
  have HZ:=hid hxz
  clear h10 hx0 hx15 hout hoi hox hch hfp f8 HRUN hM hT10 eg eo hxz
  go_wp2_with fail
  refine HO.out.mono ?_
  rintro e w11 ⟨va,vc,rfl,st11,g11,hi11,_⟩
  rw [HEO.out] at hi11 ⊢
  rw [HEG.out]
  rw [HE1.out] at st11
  have HB11:=hid (HB10.out.go st11 g11)
  have hf11:=HB11.out.t6
  have HI11:=hid hi11
  have hok:=N7 ⟨A5E x f',x,[],[],0⟩ va none (A3w x f').length vc 0 0
  clear st11 g11 hi11 HO
  go_wp2
  have ob:A0 (· = w.heap.size+1+1) w11 (w11.setCells (w.heap.size+1+1) 0 (B8 (F3 ⟨A5E x f',x,[],[],0⟩ (.slice va (A3w x f').length vc) (.slice none 0 0)))):=A0.setCells (S:=fun b=>b=w.heap.size+1+1) (A0.refl _ _) (fun _=>rfl) _ _
  refine I2 A2T rfl _ rfl rfl hf11 hok ⟨va,vc,.slice none 0 0,own10,M,n10,rfl,?_,⟨HB11.out.chg.ext,HB11.out.chg.only.trans ob (fun i hi he=>by have:i=w.heap.size+1+1:=hi;omega)⟩,HN10.out,fun hn=>⟨fun h=>absurd (hn.resolve_left HZ.out) h,HI11.out.nil,HI11.out.len,HI11.out.cap⟩,by rw [if_neg HZ.out];exact ⟨[],World.ownsRow_nil _ _ _ _,.nil⟩⟩
  rw [if_neg HZ.out]
  exact HB11.out.st.only ob (fun b hb=>by have e:b=w.heap.size+1+1:=hb;rw [e];exact HB11.out.o6)
end Go.Proofs.YtfflppedbopdpaaGreat
