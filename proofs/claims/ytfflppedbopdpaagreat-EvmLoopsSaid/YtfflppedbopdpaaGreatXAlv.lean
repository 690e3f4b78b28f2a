/- A part of the proof of EvmLoops: XAlv. -/
import Derived.Test.YtfflppedbopdpaaGreatXRi2
import Derived.Test.YtfflppedbopdpaaGreatXBk3
import Derived.Test.YtfflppedbopdpaaGreatXTb2
import Derived.Test.YtfflppedbopdpaaGreatXCx0
import Derived.Test.YtfflppedbopdpaaGreatXWsr
import Derived.Test.YtfflppedbopdpaaGreatXRef5
set_option linter.unusedVariables false
set_option maxRecDepth 1000000
set_option maxHeartbeats 8000000
set_option linter.unusedSimpArgs false
namespace Go.Proofs.YtfflppedbopdpaaGreat
open Go.RowKit Go.Mun

theorem B7T:(U1 M3 10 (O4 A4K (A92 A4K.to).code) A92).map (fun r=>(r.1,r.2.1.gas,(r.2.2 1).slots 0))=some (0,9994,5):=by kernel_rfl
theorem B9e:∃ f' S',U1 M3 10 (O4 A4K (A92 A4K.to).code) A92=some (0,f',S')∧f'.gas=9994∧(S' 1).slots 0=5:=by
 have h:=B7T
 cases e:U1 M3 10 (O4 A4K (A92 A4K.to).code) A92 with
 | none=>rw [e] at h;cases h
 | some r =>
  obtain ⟨x,f',S'⟩:=r
  rw [e] at h
  simp only [Option.map_some,Option.some.injEq,Prod.mk.injEq] at h
  obtain ⟨rfl,h2,h3⟩:=h
  exact ⟨f',S',rfl,h2,h3⟩
theorem A5I (w:World):Calls Tryz.prog 8 #[] w fun e w'=>e = .returned (.bool true)∧Below w.heap.size w w':=by
 obtain ⟨f',S',hrun,hgas,hslot⟩:=B9e
 have HR:=hid hrun
 have HGS:=hid hgas
 have HSL:=hid hslot
 have o5:ofW 5=5:=by kernel_rfl
 have N1:=hid (fun w=>X6 1 (by decide) w)
 have N2:=hid (fun w=>X6 2 (by decide) w)
 have O5:=hid (fun w=>A4b 5 (by decide) (by decide) w)
 rw [o5] at O5
 have b42:=B4V
 have HRO:Hid (K8 (w.alloc (.cells (A3X.map (Value.int .u8)).toArray 5)) (fun _=>False) (.slice (some ⟨w.heap.size,0,none⟩) A3X.length A3X.length) A3X):=
  ⟨⟨_,_,rfl,I7.new w .u8 A3X 5 (by decide),fun _ _ _ h=>h⟩,by intro x hx;simp [A3X] at hx;omega,by decide⟩
 have HB0:Hid (Below w.heap.size w (w.alloc (.cells (A3X.map (Value.int .u8)).toArray 5))):=(Below.refl _ _).alloc (Nat.le_refl _) _
 clear hrun hgas hslot o5
 go_enter Tryz.func8,Tryz.ntmps8
 go_wp2_with fail
 refine (B6k HRO.out).mono ?_
 rintro e w1 ⟨b,rfl,hb1,hac⟩
 have HN:=hid (A6G b 0 2 (B4e A3X) (by decide) w1 hac)
 have HB1:=hid (HB0.out.trans (hb1.mono HB0.out.size))
 clear hb1 hac HB0
 go_wp2_with fail
 refine HN.out.mono ?_
 rintro e w2 ⟨sb,rfl,hb2,own,hst,hlo⟩
 have HST:=hid hst
 have HLO:=hid hlo
 have HB2:=hid (HB1.out.trans (hb2.mono HB1.out.size))
 clear hst hlo hb2
 go_wp2_with fail
 refine (N2.out _).mono ?_
 rintro e w3 ⟨rfl,hb3⟩
 have HST3:=hid (HST.out.below hb3)
 have HB3:=hid (HB2.out.trans (hb3.mono HB2.out.size))
 clear hb3
 go_wp2_with fail
 refine (N1.out _).mono ?_
 rintro e w4 ⟨rfl,hb4⟩
 have HST4:=hid (HST3.out.below hb4)
 have HB4:=hid (HB3.out.trans (hb4.mono HB3.out.size))
 clear hb4
 have HRUN:=hid (A65 (w:=w4) (er:=0) (cx:=⟨0,0,0,0,0⟩) (N:=40000) (m:=A4K) HST4.out (by decide) ⟨by show 2 < wA;decide,by show 1 < wA;decide,by show 0 < wA;decide,by show 0 < wW;decide,by show 0 < wW;decide,by decide,by decide⟩ rfl (by decide) (by decide) (V6 _ _) (by decide) (fun rb tb tab ht=>A5e ht) B9n HR.out)
 go_wp2_with fail
 refine HRUN.out.mono ?_
 rintro e w5 ⟨o,ov,lv,own5,n5,rfl,st5,g5,oa5,-,-,h3,-,h4,-,-⟩
 rw [if_pos rfl] at st5
 replace h4:=(h4 rfl).1
 replace h3:o.err=0:=h3
 obtain ⟨oa,ok,lb,lj,rfl,rfl⟩:=oa5.forms
 have hok8:=Q3 o oa lb o.out.length ok o.logs.length lj
 have hf5:(w5.alloc (.cells (B7 K9).toArray 41)).free? w5.heap.size 0 24=true:=World.free?_alloc_at _ _ rfl (by rw [J8];omega)
 have hbx:=A2U (w:=w5) (t:=41) (n:=24) J8 hok8
 obtain ⟨w6,e6⟩:∃ w6,w6=(w5.alloc (.cells (B7 K9).toArray 41)).setCells w5.heap.size 0 (B7 (F4 o (.slice oa o.out.length ok) (.slice lb o.logs.length lj))):=⟨_,rfl⟩
 rw [← e6] at hbx
 have c0:=A09 hbx.2
 have c1:=A0p hbx.2
 rw [h4,HGS.out] at c0
 rw [h3,Nat.zero_add] at c1
 have HST6:=hid (st5.below hbx.1)
 have HB5:Hid (Below w.heap.size w w5):=HB4.out.trans (g5.only.below HB4.out.size (fun i hi=>Nat.le_trans HB1.out.size (HLO.out i hi)))
 have HB6:=hid (HB5.out.trans (hbx.1.mono HB5.out.size))
 have HE6:=hid e6
 have HC0:=hid c0
 have HC1:=hid c1
 rw [e6] at c0 c1
 have heq:∀ w,(binOp .eql 25 (.agg (A3 32 5).toArray) (.agg (A3 32 5).toArray)).run Tryz.prog w = .ok (.bool true) w:=fun w=>by
  have:=A7X (fun d=>A9w (a:=5) (b:=5) (by decide) (by decide) w d)
  simpa using this
 clear st5 g5 oa5 h3 h4 e6 hbx b42
 have HEQ:=hid heq
 clear heq
 generalize Value.agg (B7 (I2 A4K (Value.slice none 0 0))).toArray=vm at *
 generalize Value.agg (B7 A7i).toArray=vc at *
 go_wp2_with fail
 rw [← HE6.out]
 have d0:=HC0.out
 have d1:=HC1.out
 refine (A4U 0 _).mono ?_
 rintro e w7 ⟨rfl,rfl⟩
 go_wp2_with fail
 refine (N1.out _).mono ?_
 rintro e w8 ⟨rfl,hb8⟩
 have HST8:=hid (HST6.out.below hb8)
 have HB8:=hid (HB6.out.trans (hb8.mono HB6.out.size))
 clear hb8
 go_wp2_with fail
 refine (A4N HST8.out 1 0 (by decide) (by decide)).mono ?_
 rintro e w9 ⟨rfl,hb9⟩
 have HB9:=hid (HB8.out.trans (hb9.mono HB8.out.size))
 clear hb9
 rw [HSL.out]
 go_wp2_with fail
 refine (O5.out _).mono ?_
 rintro e w10 ⟨rfl,hb10⟩
 have HBX:=hid (HB9.out.trans (hb10.mono HB9.out.size))
 clear hb10
 have heq:=HEQ.out
 go_wp2
 go_ret
 exact ⟨rfl,HBX.out⟩
theorem A4m (a0:Int) (h0:(Lit.int .u8 a0).wf=true) (w:World):Calls Tryz.prog 5 #[.int .u8 a0,.bool true] w fun e w'=>e = .returned (.bool true)∧Below w.heap.size w w':=by
 have hu:=B6X h0
 obtain ⟨t,ht⟩:∃ t:Nat,a0=t:=⟨a0.toNat,by omega⟩
 subst ht
 have ht:t < 256:=by omega
 have HRP:=hid A6h
 have HRR:=hid A6g
 have HLA:=hid (fun w=>A5I w)
 have HN1:=hid (fun w=>X6 1 (by decide) w)
 have HASK:=hid (fun w=>B1H 40000 w)
 have HCO:Hid (∀ W:World,K8 (W.alloc (.cells #[.int .u8 91,.int .u8 96,.int .u8 0,.int .u8 86] 5)) (fun _=>False) (.slice (some ⟨W.heap.size,0,none⟩) 4 4) (J0)):=fun W =>
  ⟨⟨_,_,rfl,I7.new W .u8 (J0) 5 (by show 4≤maxLen;decide),fun _ _ _ h=>h⟩,by intro x hx;simp [J0] at hx;omega,by show 4≤1099511627776;decide⟩
 have HBO:Hid (∀ W gb,(∀ i (hi:i < (A1l (J0) []).length),A6y W gb (0+i*55) (A1l (J0) [])[i])→Calls Tryz.prog 15 #[.slice (some ⟨gb,0,none⟩) 3 3,.agg (B7 (I2 (C5 40000) (.slice none 0 0))).toArray] W (A8d W 0 11 0 [] (A0G (A1l J0 [])))):=fun W gb h =>
  A6Y (c:=3) (l:=(A1l (J0) [])) (m:=C5 40000) (ad:=0) (by show 3≤100;decide) h (by intro x hx;simp [A1l] at hx;rcases hx with rfl | rfl | rfl <;> first | decide | exact (by decide:(0:Int)≤0)) (V6 _ _) (by decide) HRP.out HRR.out (fun a k _=>A4z _ a k)
 have hwt:IntKind.i64.wrap (t:Int)=(t:Int):=V3 _ (by omega) (by omega)
 have ok1:=C7 20 1
 have l1:=B0 20 1
 have z20:=zU8_len 20
 have z32:=zU8_len 32
 clear h0 hu ht
 go_enter Tryz.func5,Tryz.ntmps5
 go_wp2_with fail
 refine (HLA.out _).mono ?_
 rintro e w1 ⟨rfl,hb1⟩
 have HB1:=hid hb1
 clear hb1
 go_wp2_with fail
 obtain ⟨wc,ec⟩:∃ wc,wc=w1.alloc (.cells #[.int .u8 96,.int .u8 t,.int .u8 91,.int .u8 128,.int .u8 21,.int .u8 96,.int .u8 21,.int .u8 87,.int .u8 96,.int .u8 1,.int .u8 144,.int .u8 3,.int .u8 96,.int .u8 2,.int .u8 86,.int .u8 0,.int .u8 0,.int .u8 0,.int .u8 0,.int .u8 0,.int .u8 0,.int .u8 91,.int .u8 96,.int .u8 9,.int .u8 96,.int .u8 0,.int .u8 85] 5):=⟨_,rfl⟩
 have HBc:Hid (Below w.heap.size w wc):=by show Below _ _ _;rw [ec];exact HB1.out.alloc HB1.out.size _
 have hwz:wc.heap.size=w1.heap.size+1:=by rw [ec];simp
 rw [← ec]
 clear ec
 have hco:=(HCO.out wc)
 rw [hwz] at hco
 clear hwz
 obtain ⟨w2,e2⟩:∃ w2,w2=wc.alloc (.cells #[.int .u8 91,.int .u8 96,.int .u8 0,.int .u8 86] 5):=⟨_,rfl⟩
 rw [← e2] at hco ⊢
 have HB2:Hid (Below w.heap.size w w2):=by show Below _ _ _;rw [e2];exact HBc.out.alloc HBc.out.size _
 clear e2
 refine (B1G hco (V6 _ _)).mono ?_
 rintro e w3 ⟨gb,rfl,hb3,hac⟩
 have HB3:Hid (Below w.heap.size w w3):=HB2.out.trans (hb3.mono HB2.out.size)
 have HAC:=hid hac
 clear hb3 hac hco
 go_wp2_with fail
 refine (HASK.out _).mono ?_
 rintro e w4 ⟨rfl,hb4⟩
 have HB4:Hid (Below w.heap.size w w4):=HB3.out.trans (hb4.mono HB3.out.size)
 have HAC4:=hid (fun i hi=>(HAC.out i hi).below hb4)
 clear hb4
 go_wp2_with fail
 refine (HBO.out w4 gb HAC4.out).mono ?_
 rintro e w5 ⟨oa,oc,la,lc,sb,own,n,rfl,hb5,hst,hge⟩
 obtain ⟨O,hO⟩:∃ O,O=A5A 0 11 0 oa ([]:V1).length oc la lc:=⟨_,rfl⟩
 have lO:O.length=24:=by rw [hO];exact A3F _ _ _ _ _ _ _ _
 have kO:P0 24 O=true:=by rw [hO];exact A4Q _ _ _ _ _ _ _ _
 rw [← hO]
 have HOO:=hid hO
 have HK5:Hid (Kst w [] own sb (A0G (A1l J0 [])) n w5):=⟨(Kep.start w).next (HB4.out.trans (hb5.mono HB4.out.size)),hst,fun _ h=>(by cases h)⟩
 have f5:=X9 w5 (B7 K9) 41 24 J8
 clear hb5 hst hge hO
 have hk6:=HK5.out.box 41 (B7 K9) O J8 kO
 obtain ⟨rb,erb⟩:∃ rb,rb=w5.heap.size:=⟨_,rfl⟩
 obtain ⟨w6,e6⟩:∃ w6,w6=(w5.alloc (.cells (B7 K9).toArray 41)).setCells w5.heap.size 0 O:=⟨_,rfl⟩
 rw [← e6,← erb] at hk6
 have HK6:=hid hk6
 have HE6:=hid e6
 have HRB:=hid erb
 clear hk6 e6 erb
 go_wp2_with fail
 rw [← HE6.out]
 rw [← HRB.out]
 refine (HN1.out _).mono ?_
 rintro e w7 ⟨rfl,hb7⟩
 have HK7:=hid (HK6.out.next hb7)
 have f7:=X9 w7 (K0 20) 23 20 z20
 clear hb7 f5
 have hk8:=HK7.out.box 23 (K0 20) (A3 20 1) z20 ok1
 obtain ⟨xb,exb⟩:∃ b,b=w7.heap.size:=⟨_,rfl⟩
 obtain ⟨w8,e8⟩:∃ w8,w8=(w7.alloc (.cells (K0 20).toArray 23)).setCells w7.heap.size 0 (A3 20 1):=⟨_,rfl⟩
 rw [← e8,← exb] at hk8
 have HK8:=hid hk8
 have HE8:=hid e8
 have HXB:=hid exb
 clear hk8 e8 exb
 have g1:=HK8.out.get (b:=rb) (n:=24) (L:=O) (by simp)
 rw [HOO.out] at g1
 have u1:=A0p g1
 have u2:=A09 g1
 simp only [Nat.zero_add] at u1 u2
 have hfb:=HK8.out.below
 rw [HE8.out] at u1 u2 hfb
 have HFB:=hid hfb
 clear g1 hfb
 go_wp2_with (go_at_call 17;refine (A4U 11 _).mono ?_;rintro e y ⟨rfl,rfl⟩)
 go_ret
 exact ⟨rfl,HFB.out⟩
theorem A6s (a0:Int) (h0:(Lit.int .u8 a0).wf=true) (w:World):Calls Tryz.prog 5 #[.int .u8 a0,.bool false] w fun e w'=>e = .returned (.bool true)∧Below w.heap.size w w':=by
 have hu:=B6X h0
 obtain ⟨t,ht⟩:∃ t:Nat,a0=t:=⟨a0.toNat,by omega⟩
 subst ht
 have ht:t < 256:=by omega
 obtain ⟨r,hr,hr2⟩:=B4m ht
 have HRP:=hid (B0c t ht r hr)
 have HRR:=hid (B0b t ht r hr)
 have O9:=hid (fun w=>A4b 9 (by decide) (by decide) w)
 rw [show ofW 9=9 by kernel_rfl] at O9
 have HLT:Hid (decide ((r:Int) < 20000)=true):=by show _=_;exact decide_eq_true (by omega)
 have HQ:Hid (∀ w,(binOp .eql 25 (.agg (A3 32 9).toArray) (.agg (A3 32 9).toArray)).run Tryz.prog w = .ok (.bool true) w):=by
  show ∀ w,_
  intro w
  have:=A7X (fun d=>A9w (a:=9) (b:=9) (by decide) (by decide) w d)
  simpa using this
 have HR2:=hid hr2
 clear hr hr2
 have HLA:=hid (fun w=>A5I w)
 have HN1:=hid (fun w=>X6 1 (by decide) w)
 have HASK:=hid (fun w=>B1H 40000 w)
 have HCO:Hid (∀ W:World,K8 (W.alloc (.cells #[.int .u8 96,.int .u8 t,.int .u8 91,.int .u8 128,.int .u8 21,.int .u8 96,.int .u8 21,.int .u8 87,.int .u8 96,.int .u8 1,.int .u8 144,.int .u8 3,.int .u8 96,.int .u8 2,.int .u8 86,.int .u8 0,.int .u8 0,.int .u8 0,.int .u8 0,.int .u8 0,.int .u8 0,.int .u8 91,.int .u8 96,.int .u8 9,.int .u8 96,.int .u8 0,.int .u8 85] 5)) (fun _=>False) (.slice (some ⟨W.heap.size,0,none⟩) 27 27) (C0 t)):=fun W =>
  ⟨⟨_,_,rfl,I7.new W .u8 (C0 t) 5 (by show 27≤maxLen;decide),fun _ _ _ h=>h⟩,by intro x hx;simp [C0] at hx;omega,by show 27≤1099511627776;decide⟩
 have HBO:Hid (∀ W gb,(∀ i (hi:i < (A1l (C0 t) []).length),A6y W gb (0+i*55) (A1l (C0 t) [])[i])→Calls Tryz.prog 15 #[.slice (some ⟨gb,0,none⟩) 3 3,.agg (B7 (I2 (C5 40000) (.slice none 0 0))).toArray] W (A8d W r 0 0 [] (A3K t))):=fun W gb h =>
  A6Y (c:=3) (l:=(A1l (C0 t) [])) (m:=C5 40000) (ad:=0) (by show 3≤100;decide) h (by intro x hx;simp [A1l] at hx;rcases hx with rfl | rfl | rfl <;> first | decide | exact (by decide:(0:Int)≤0)) (V6 _ _) (by decide) HRP.out HRR.out (B2V t)
 have hwt:IntKind.i64.wrap (t:Int)=(t:Int):=V3 _ (by omega) (by omega)
 have ok1:=C7 20 1
 have l1:=B0 20 1
 have z20:=zU8_len 20
 have z32:=zU8_len 32
 clear h0 hu ht
 go_enter Tryz.func5,Tryz.ntmps5
 go_wp2_with fail
 refine (HLA.out _).mono ?_
 rintro e w1 ⟨rfl,hb1⟩
 have HB1:=hid hb1
 clear hb1
 go_wp2_with fail
 have hco:=(HCO.out w1)
 obtain ⟨w2,e2⟩:∃ w2,w2=w1.alloc (.cells #[.int .u8 96,.int .u8 t,.int .u8 91,.int .u8 128,.int .u8 21,.int .u8 96,.int .u8 21,.int .u8 87,.int .u8 96,.int .u8 1,.int .u8 144,.int .u8 3,.int .u8 96,.int .u8 2,.int .u8 86,.int .u8 0,.int .u8 0,.int .u8 0,.int .u8 0,.int .u8 0,.int .u8 0,.int .u8 91,.int .u8 96,.int .u8 9,.int .u8 96,.int .u8 0,.int .u8 85] 5):=⟨_,rfl⟩
 rw [← e2] at hco ⊢
 have HB2:Hid (Below w.heap.size w w2):=by show Below _ _ _;rw [e2];exact HB1.out.alloc HB1.out.size _
 clear e2
 refine (B1G hco (V6 _ _)).mono ?_
 rintro e w3 ⟨gb,rfl,hb3,hac⟩
 have HB3:Hid (Below w.heap.size w w3):=HB2.out.trans (hb3.mono HB2.out.size)
 have HAC:=hid hac
 clear hb3 hac hco
 go_wp2_with fail
 refine (HASK.out _).mono ?_
 rintro e w4 ⟨rfl,hb4⟩
 have HB4:Hid (Below w.heap.size w w4):=HB3.out.trans (hb4.mono HB3.out.size)
 have HAC4:=hid (fun i hi=>(HAC.out i hi).below hb4)
 clear hb4
 go_wp2_with fail
 refine (HBO.out w4 gb HAC4.out).mono ?_
 rintro e w5 ⟨oa,oc,la,lc,sb,own,n,rfl,hb5,hst,hge⟩
 obtain ⟨O,hO⟩:∃ O,O=A5A r 0 0 oa ([]:V1).length oc la lc:=⟨_,rfl⟩
 have lO:O.length=24:=by rw [hO];exact A3F _ _ _ _ _ _ _ _
 have kO:P0 24 O=true:=by rw [hO];exact A4Q _ _ _ _ _ _ _ _
 rw [← hO]
 have HOO:=hid hO
 have HK5:Hid (Kst w [] own sb (A3K t) n w5):=⟨(Kep.start w).next (HB4.out.trans (hb5.mono HB4.out.size)),hst,fun _ h=>(by cases h)⟩
 have f5:=X9 w5 (B7 K9) 41 24 J8
 clear hb5 hst hge hO
 have hk6:=HK5.out.box 41 (B7 K9) O J8 kO
 obtain ⟨rb,erb⟩:∃ rb,rb=w5.heap.size:=⟨_,rfl⟩
 obtain ⟨w6,e6⟩:∃ w6,w6=(w5.alloc (.cells (B7 K9).toArray 41)).setCells w5.heap.size 0 O:=⟨_,rfl⟩
 rw [← e6,← erb] at hk6
 have HK6:=hid hk6
 have HE6:=hid e6
 have HRB:=hid erb
 clear hk6 e6 erb
 go_wp2_with fail
 rw [← HE6.out]
 rw [← HRB.out]
 refine (HN1.out _).mono ?_
 rintro e w7 ⟨rfl,hb7⟩
 have HK7:=hid (HK6.out.next hb7)
 have f7:=X9 w7 (K0 20) 23 20 z20
 clear hb7 f5
 have hk8:=HK7.out.box 23 (K0 20) (A3 20 1) z20 ok1
 obtain ⟨xb,exb⟩:∃ b,b=w7.heap.size:=⟨_,rfl⟩
 obtain ⟨w8,e8⟩:∃ w8,w8=(w7.alloc (.cells (K0 20).toArray 23)).setCells w7.heap.size 0 (A3 20 1):=⟨_,rfl⟩
 rw [← e8,← exb] at hk8
 have HK8:=hid hk8
 have HE8:=hid e8
 have HXB:=hid exb
 clear hk8 e8 exb
 have g1:=HK8.out.get (b:=rb) (n:=24) (L:=O) (by simp)
 have u3:=HK8.out.get (b:=xb) (n:=20) (L:=A3 20 1) (by simp)
 rw [HOO.out] at g1
 have u1:=A0p g1
 simp only [Nat.zero_add] at u1
 have hsl:=A4N HK8.out.st 1 0 (by decide) (by decide)
 rw [B0v] at hsl
 rw [HE8.out] at u1 u3 hsl
 rw [HXB.out] at u3
 have HSL:=hid hsl
 have HRE:Hid (∀ W,Below w8.heap.size w8 W→W.cell? ⟨rb,0,none⟩=some (.int .i64 (r:Int))):=fun W hW=>by
  have g2:=(HK8.out.next hW).get (b:=rb) (n:=24) (L:=O) (by simp)
  rw [HOO.out] at g2
  have u2:=A09 g2
  simp only [Nat.zero_add] at u2
  exact u2
 have HFB:=hid HK8.out.below
 have hq9:=A9v 9
 have dlt:decide ((r:Int) < 20000)=true:=HLT.out
 have dln:(r < 20000)=True:=eq_true HR2.out
 clear g1 hsl
 go_wp2_with (first
  | (go_at_call 17;refine (A4U 0 _).mono ?_;rintro e y ⟨rfl,rfl⟩)
  | (go_at_call 20;refine HSL.out.mono ?_;rintro e y1 ⟨rfl,hby⟩;rw [← HE8.out] at hby;have HBY:=hid hby;clear hby)
  | (go_at_call 21;refine (O9.out _).mono ?_;rintro e y2 ⟨rfl,hbz⟩;have HBZ:=hid (HBY.out.trans (hbz.mono HBY.out.size));have u2:=HRE.out y2 HBZ.out;clear hbz))
 go_ret
 exact ⟨rfl,HFB.out.trans (HBZ.out.mono HFB.out.size)⟩
theorem A7W (a0:Int) (h0:(Lit.int .u8 a0).wf=true) (b:Bool) (w:World):Calls Tryz.prog 5 #[.int .u8 a0,.bool b] w fun e w'=>e = .returned (.bool true)∧Below w.heap.size w w':=by
 cases b
 ·exact A6s a0 h0 w
 ·exact A4m a0 h0 w
end Go.Proofs.YtfflppedbopdpaaGreat
