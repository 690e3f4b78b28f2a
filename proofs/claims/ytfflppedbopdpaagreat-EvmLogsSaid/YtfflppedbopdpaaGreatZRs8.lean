/- A part of the proof of EvmLogs: ZRs8. -/
import Derived.Test.YtfflppedbopdpaaGreatZRs1
import Derived.Test.YtfflppedbopdpaaGreatZWrd4
import Derived.Test.YtfflppedbopdpaaGreatZOps3
import Derived.StillTailTactics
import Derived.Test.YtfflppedbopdpaaGreatZKs
set_option linter.unusedVariables false
set_option maxRecDepth 1000000
set_option maxHeartbeats 8000000
set_option linter.unusedSimpArgs false
namespace Go.Proofs.YtfflppedbopdpaaGreat
open Go.RowKit Go.Mun

theorem A7F {w:World} {own:Go.Mun.Own} {sb a n:Nat} {S:St} {M:List (Nat × St)} (h:RState w own sb S M n) (ha:a < wA) (hn:n≤1000000) :
  Calls Tryz.prog 169 #[.pointer (some ⟨sb,0,none⟩),.agg (A3 20 a).toArray] w fun e w' => ∃ own' g k,e = .returned (.pointer (some ⟨g,k*55,none⟩))∧T4 w' own' sb S M (n+1) a g k∧K8 w w' own own':=by
 obtain ⟨lv,mv,ps,ms,x,h1,h2,h3,h4,h5,h6⟩:=h
 refine (C0t h1 ha (Nat.le_trans h4.len hn)).mono ?_
 rintro e w' ⟨own',g,c,ps',rfl,k1,k2,k3⟩
 obtain ⟨⟨i1,i2,i3⟩,i4,i5⟩:=AtR.spec k3 h1.up h4 (fun p hp=>(h4.slots p hp).1)
 exact ⟨own',g,_,rfl,⟨c,mv,ps',ms,x,k1,⟨i1,i2⟩,h2.trans i4.symm,h3,i5,fun m hm=>(h5 m hm).mono (Nat.le_succ n),Nat.le_succ_of_le h6⟩,k2⟩
theorem X8 {w:World} {own:Go.Mun.Own} {sb n:Nat} {S:St} {M:List (Nat × St)} (h:RState w own sb S M n) {b:Nat} (hb:w.heap.size≤b):own b=none:=D4 h.lows hb
def B6P (w:World) (own:Go.Mun.Own) (sb:Nat) (S:St) (M:List (Nat × St)) (n:Nat) (e:Ending) (w':World):Prop:=
 e = .returned (.tuple #[])∧∃ own',RState w' own' sb S M n∧K8 w w' own own'
theorem A14 {w:World} {own:Go.Mun.Own} {sb a v n:Nat} {S:St} {M:List (Nat × St)} (h:RState w own sb S M n) (ha:a < wA) (hv:v < wW) (hn:n≤1000000) :
  Calls Tryz.prog 61 #[.pointer (some ⟨sb,0,none⟩),.agg (A3 20 a).toArray,.agg (A3 32 v).toArray] w (B6P w own sb (Z9 S a { S a with bal:=v }) M (n+2)):=by
 obtain ⟨w0,e0⟩:∃ w0,w0=(w.alloc (.cells (A3 20 a).toArray 23)).alloc (.cells (A3 32 v).toArray 25):=⟨_,rfl⟩
 have hb0:Below w.heap.size w w0:=by rw [e0];exact ((Below.refl _ _).alloc (Nat.le_refl _) _).alloc (by simp) _
 have hx0:w0.row? w.heap.size 0 20=some (A3 20 a):=by rw [e0,World.row?_alloc_lt _ (by simp)];exact World.row?_alloc_at _ _ _ rfl (by simp)
 have hx:w0.drew.row? w.heap.size 0 20=some (A3 20 a):=hx0
 have hy:w0.drew.row? (w.heap.size+1) 0 32=some (A3 32 v):=by rw [e0];exact World.row?_alloc_at _ _ _ (by simp) (by simp)
 have hl1:(A3 20 a).length=20:=by simp
 have hl2:(A3 32 v).length=32:=by simp
 have hok:=D2 32 v
 have ho1:=X8 h (Nat.le_refl _)
 have ho2:=X8 h (Nat.le_succ w.heap.size)
 have HST:=hid (h.below hb0.drew)
 have HB:=hid hb0.drew
 have HE:=hid e0
 obtain ⟨T,hT⟩:∃ T:World→Prop,T=fun W=>W.row? w.heap.size 0 20=some (A3 20 a)∧W.row? (w.heap.size+1) 0 32=some (A3 32 v):=⟨_,rfl⟩
 have HT:=hid hT
 have t0:T w0.drew:=by rw [hT];exact ⟨hx,hy⟩
 clear e0 hb0 hx hy hT h
 go_enter Tryz.func61,Tryz.ntmps61
 go_wp2_with fail
 rw [← HE.out]
 refine A7 T [6] (.pure 0 (.take 1 (.take 3 (.alt 2 (.pure 4 (.pure 5 (.alt 6 .fin .stop))) .stop)))) (by kernel_rfl) (by kernel_rfl) ?_
 refine A2 ?_ rfl (by rfl) (fun w' hs=>?_) (fun _ _ _ h=>h) ?_
 rotate_left
 ·clear hs
  go_simp
  try rfl
 simp only [Act.put,D7,D6,D5]
 iterate 2
  refine A9 ?_ t0 rfl (by rfl) (fun w' hs=>?_) (fun _ _ _ h=>h) ?_
  rotate_left
  ·rw [HT.out] at hs
   obtain ⟨q1,q2⟩:=hs
   go_simp
   try rfl
  simp only [Act.put,D7,D6,D5]
 refine A5 rfl (fun K hK=>?_)
 go_simp
 refine (A7F HST.out ha hn).mono ?_
 rintro e w2 ⟨own',g,k,rfl,hh,hc⟩
 have t2:T w2:=by rw [HT.out] at t0 ⊢;exact ⟨(hc.only.row? (World.row?_lt t0.1) (fun h2=>h2.1 ho1)).trans t0.1,(hc.only.row? (World.row?_lt t0.2) (fun h2=>h2.1 ho2)).trans t0.2⟩
 have hf:=World.free?_sub hh.free (o':=k*55+21) (n':=32) (by omega)
 have HH:=hid hh
 have HC:=hid ((K8.below own HB.out).trans hc)
 clear hh hc
 refine hK.out _ _ t2 ?_
 clear hK K
 iterate 2
  refine A2 ?_ rfl (by rfl) (fun w' hs=>?_) (fun _ _ _ h=>h) ?_
  rotate_left
  ·clear hs
   go_simp
   try rfl
  simp only [Act.put,D7,D6,D5]
 refine J8 rfl (by simp) (fun K hK=>?_)
 go_simp
 refine hK.out _ _ ?_
 clear hK K
 refine C2 ?_
 go_wp2
 go_end0
 obtain ⟨k1,k2⟩:=HH.out.bal v hv
 exact ⟨rfl,own',k1,HC.out.trans k2⟩
theorem A95 {w:World} {own:Go.Mun.Own} {sb a n:Nat} {S:St} {M:List (Nat × St)} (x:Nat) (h:RState w own sb S M n) (ha:a < wA) (hx:x≤9223372036854775807) (hn:n≤1000000) :
  Calls Tryz.prog 60 #[.pointer (some ⟨sb,0,none⟩),.agg (A3 20 a).toArray,.int .i64 (x:Int)] w (B6P w own sb (Z9 S a { S a with nonce:=x }) M (n+2)):=by
 obtain ⟨w0,e0⟩:∃ w0,w0=w.alloc (.cells (A3 20 a).toArray 23):=⟨_,rfl⟩
 have hb0:Below w.heap.size w w0:=by rw [e0];exact (Below.refl _ _).alloc (Nat.le_refl _) _
 have hl1:(A3 20 a).length=20:=by simp
 have hx1:¬ (x:Int) < 0:=by omega
 have hxd:decide ((x:Int) < 0)=false:=decide_eq_false hx1
 have q1:w0.row? w.heap.size 0 20=some (A3 20 a):=by rw [e0];exact World.row?_alloc_at _ _ _ rfl (by simp)
 have HST:=hid (h.below hb0)
 have HB:=hid hb0
 have HE:=hid e0
 have HX:=hid hx
 clear e0 hb0 h hx hx1
 go_enter Tryz.func60,Tryz.ntmps60
 go_wp2_with fail
 rw [← HE.out]
 refine (A7F HST.out ha hn).mono ?_
 rintro e w2 ⟨own',g,k,rfl,hh,hc⟩
 have hf:=World.free?_sub hh.free (o':=k*55+20) (n':=1) (by omega)
 have HH:=hid hh
 have HC:=hid ((K8.below own HB.out).trans hc)
 clear hh hc q1
 go_wp2
 go_end0
 obtain ⟨k1,k2⟩:=HH.out.nonce (x:Int) ⟨by omega,by have:=HX.out;omega⟩
 exact ⟨rfl,own',k1,HC.out.trans k2⟩
theorem B2r {w:World} {own:Go.Mun.Own} {sb a n:Nat} {S:St} {M:List (Nat × St)} {dv:Value} {l:J1} (h:RState w own sb S M n) (ha:a < wA) (hd:J3 w (fun b=>own b≠none) dv l) (hn:n≤1000000) :
  Calls Tryz.prog 62 #[.pointer (some ⟨sb,0,none⟩),.agg (A3 20 a).toArray,dv] w (B6P w own sb (Z9 S a { S a with code:=l }) M (n+2)):=by
 obtain ⟨w0,e0⟩:∃ w0,w0=w.alloc (.cells (A3 20 a).toArray 23):=⟨_,rfl⟩
 have hb0:Below w.heap.size w w0:=by rw [e0];exact (Below.refl _ _).alloc (Nat.le_refl _) _
 have hl1:(A3 20 a).length=20:=by simp
 have q1:w0.row? w.heap.size 0 20=some (A3 20 a):=by rw [e0];exact World.row?_alloc_at _ _ _ rfl (by simp)
 have hd0:=hd
 obtain ⟨⟨da,dc,rfl,_,_⟩,hby,hln⟩:=hd0
 have HD:=hid (J3.below hd hb0)
 have HST:=hid (h.below hb0)
 have HB:=hid hb0
 have HE:=hid e0
 have hln2:l.length≤maxLen:=by unfold maxLen;omega
 have HBY:=hid hby
 clear e0 hb0 h hd hby
 go_enter Tryz.func62,Tryz.ntmps62
 go_wp2_with fail
 rw [← HE.out]
 refine (A7F HST.out ha hn).mono ?_
 rintro e w2 ⟨own',g,k,rfl,hh,hc⟩
 have hd2:=J3.chg HD.out hc.chg
 obtain ⟨⟨da2,dc2,ed,hI,_⟩,_,_⟩:=hd2
 cases ed
 have HI:=hid hI
 have HH:=hid hh
 have HC:=hid ((K8.below own HB.out).trans hc)
 clear hh hc q1 hI
 go_wp2_with (at_builtin;go_must (refine Z0 A0n rfl _ _ rfl (World.ownsRow_nil _ _ _ _) rfl (G8.ints HI.out) rfl ?c1 ?c2 ?_))
 case c1=>omega
 case c2=>omega
 intro v3 w3 hv3 ho3 hn3
 have hb3:Below w2.heap.size w2 w3:=ho3.below (Nat.le_refl _) (fun i hi=>by simp [Value.ownBlock] at hi)
 have hv3':w3.ownsRow 0 5 1 v3 l.length (l.map (Value.int .u8)):=by simpa using hv3
 have hone:v3.oneCell'=true:=by obtain ⟨_,_,rfl⟩:=E9 hv3';rfl
 have hf:=World.free?_sub (HH.out.below hb3).free (o':=k*55+53) (n':=1) (by omega)
 have HB3:=hid hb3
 have HV3:=hid hv3'
 have HN3:Hid (∀ g,v3.ownBlock=some g→w2.heap.size≤g):=fun g hg=>(hn3 g hg).resolve_left (by simp [Value.ownBlock])
 clear hv3 ho3 hn3 hb3 hv3'
 go_wp2
 go_end0
 obtain ⟨own2,k1,k2⟩:=HH.out.newCode HB3.out HV3.out HN3.out HBY.out hln
 exact ⟨rfl,own2,k1,HC.out.trans k2⟩
theorem B7O {w:World} {own:Go.Mun.Own} {sb a n:Nat} {S:St} {M:List (Nat × St)} (h:RState w own sb S M n) (ha:a < wA) (hn:n≤1000000) :
  Calls Tryz.prog 59 #[.pointer (some ⟨sb,0,none⟩),.agg (A3 20 a).toArray] w (B6P w own sb (Z9 S a Acc.none) M (n+2)):=by
 obtain ⟨w0,e0⟩:∃ w0,w0=w.alloc (.cells (A3 20 a).toArray 23):=⟨_,rfl⟩
 have hb0:Below w.heap.size w w0:=by rw [e0];exact (Below.refl _ _).alloc (Nat.le_refl _) _
 have hl1:(A3 20 a).length=20:=by simp
 have hx:w0.drew.row? w.heap.size 0 20=some (A3 20 a):=by rw [e0];exact World.row?_alloc_at _ _ _ rfl (by simp)
 have ho1:=X8 h (Nat.le_refl _)
 have HST:=hid (h.below hb0.drew)
 have HB:=hid hb0.drew
 have HE:=hid e0
 have hbuild:=A3N a
 have hz:I8 (A30 a)=I8 (I7.new a,.slice none 0 0,.slice none 0 0):=rfl
 rw [← hz] at hbuild
 have hok:Q3 55 (I8 (A30 a))=true:=A2F (A23 (w:=w) (own:=own) ha)
 obtain ⟨C,hC⟩:∃ C,C=I8 (A30 a):=⟨_,rfl⟩
 rw [← hC] at hbuild hok
 have HC0:=hid hC
 obtain ⟨T,hT⟩:∃ T:World→Prop,T=fun W=>W.row? w.heap.size 0 20=some (A3 20 a):=⟨_,rfl⟩
 have HT:=hid hT
 have t0:T w0.drew:=by rw [hT];exact hx
 clear e0 hb0 hx hT h hz hC
 go_enter Tryz.func59,Tryz.ntmps59
 go_wp2_with fail
 rw [← HE.out]
 refine A7 T [6] (.pure 0 (.take 1 (.take 3 (.pure 4 (.alt 2 (.pure 5 (.alt 6 .fin .stop)) .stop))))) (by kernel_rfl) (by kernel_rfl) ?_
 refine A2 ?_ rfl (by rfl) (fun w' hs=>?_) (fun _ _ _ h=>h) ?_
 rotate_left
 ·clear hs
  go_simp
  try rfl
 simp only [Act.put,D7,D6,D5]
 iterate 2
  refine A9 ?_ t0 rfl (by rfl) (fun w' hs=>?_) (fun _ _ _ h=>h) ?_
  rotate_left
  ·rw [HT.out] at hs
   have q1:=hs
   go_simp
   try rfl
  simp only [Act.put,D7,D6,D5]
 refine A2 ?_ rfl (by rfl) (fun w' hs=>?_) (fun _ _ _ h=>h) ?_
 rotate_left
 ·clear hs
  refine (B3a _ _ _ _ _ _ _ _).trans ?_
  refine (congrArg (fun r=>E7 (V8 Tryz.prog 35 _ _ r)) hbuild).trans ?_
  rfl
 simp only [Act.put,D7,D6,D5]
 refine A5 rfl (fun K hK=>?_)
 go_simp
 refine (A7F HST.out ha hn).mono ?_
 rintro e w2 ⟨own',g,k,rfl,hh,hc⟩
 have t2:T w2:=by rw [HT.out] at t0 ⊢;exact (hc.only.row? (World.row?_lt t0) (fun h2=>h2.1 ho1)).trans t0
 have hf:=hh.free
 have HH:=hid hh
 have HC:=hid ((K8.below own HB.out).trans hc)
 clear hh hc
 refine hK.out _ _ t2 ?_
 clear hK K
 refine A2 ?_ rfl (by rfl) (fun w' hs=>?_) (fun _ _ _ h=>h) ?_
 rotate_left
 ·clear hs
  go_simp
  try rfl
 simp only [Act.put,D7,D6,D5]
 refine J8 rfl (by simp) (fun K hK=>?_)
 go_simp
 refine hK.out _ _ ?_
 clear hK K
 refine C2 ?_
 go_wp2
 go_end0
 obtain ⟨k1,k2⟩:=HH.out.kill ha
 rw [← HC0.out,Nat.add_zero] at k1 k2
 exact ⟨rfl,own',k1,HC.out.trans k2⟩
structure B8I (w:World) (own:Go.Mun.Own) (S:St) (n a:Nat) (p:I7 × Value × Value):Prop where
 ok:X5 w own p
 addr:p.1.ac.addr=a
 acc:p.1.acc=S a
 slots:p.1.slots.length≤n∧(p.1.slots.map Prod.fst).Pairwise (· < ·)∧∀ q∈p.1.slots,q.2≠0
theorem B4u {w:World} {own:Go.Mun.Own} {a n:Nat} {ps:List (I7 × Value × Value)} (h:∀ p∈ps,X5 w own p) (ha:a < wA) (hw:A0r ps n):B8I w own (rst (I1 ps)) n a (A2a ps a):=by
 refine ⟨B6t h ha,B2S ps a,B4v ps a,?_⟩
 rcases A9b ps a with h1 | h1
 ·exact hw.slots _ h1
 ·rw [h1];exact ⟨Nat.zero_le _,List.Pairwise.nil,fun q hq=>by cases hq⟩
theorem B77 (w:World) (t:List Value) (ty:TypeId):((w.alloc (.cells t.toArray ty)).alloc (.cells (B8 L8).toArray 35)).free? (w.heap.size+1) 0 55=true:=World.free?_alloc_at _ _ (by simp) (by rw [W4];omega)
attribute [local irreducible] wpStill
theorem A8Q {w:World} {own:Go.Mun.Own} {sb a n:Nat} {S:St} {M:List (Nat × St)} (h:RState w own sb S M n) (ha:a < wA) (hn:n≤1000000) :
  Calls Tryz.prog 66 #[.pointer (some ⟨sb,0,none⟩),.agg (A3 20 a).toArray] w fun e w' => ∃ p,e = .returned (.agg (I8 p).toArray)∧Below w.heap.size w w'∧B8I w own S n a p:=by
 obtain ⟨lv,mv,ps,ms,x0,h1,rfl,_,hw,_,_⟩:=h
 have hpl:ps.length≤1000000:=Nat.le_trans hw.len hn
 obtain ⟨la,lc,rfl⟩:=h1.arr.form
 have hgot:=B4u h1.arr.ok ha hw
 obtain ⟨w1,e1⟩:∃ w1,w1=(w.alloc (.cells (A3 20 a).toArray 23)).alloc (.cells (B8 L8).toArray 35):=⟨_,rfl⟩
 have hb1:Below w.heap.size w w1:=by rw [e1];exact ((Below.refl _ _).alloc (Nat.le_refl _) _).alloc (by simp) _
 have r1:w1.row? w.heap.size 0 20=some (A3 20 a):=by rw [e1,World.row?_alloc_lt _ (by simp)];exact World.row?_alloc_at _ _ _ rfl (C4 _ _)
 have f1:w1.free? (w.heap.size+1) 0 55=true:=by rw [e1];exact B77 w _ _
 have h2:RStC w1 own sb (.slice la ps.length lc) mv ps ms x0:=h1.only (S:=fun _=>False) (A0.of_below_size hb1) (fun _ h=>h.elim)
 obtain ⟨m,hm⟩:∃ m,m=ps.length:=⟨_,rfl⟩
 have H1:=hid h2
 have HE:=hid e1
 have HB1:=hid hb1
 have HR1:=hid r1
 have HF1:=hid f1
 have HM:=hid hm
 have HG:=hid hgot
 have hla:=C4 20 a
 rw [← hm] at hpl
 clear h1 h2 e1 hb1 r1 f1 hm hgot
 go_enter Tryz.func66,Tryz.ntmps66
 go_wp2_with fail
 rw [← HE.out]
 go_loopw [5] (fun ix wr => ∃ k:Nat,k≤m∧ix = .int .i64 (k:Int)∧Below w1.heap.size w1 wr∧Hid (∀ j (hj:j < ps.length),j < k→ps[j].1.ac.addr≠a)) (fun ix _=>m - (intOf ix).toNat)
 case atStart=>exact ⟨0,by omega,rfl,Below.refl _ _,fun j _ hj=>by omega⟩
 case round =>
  obtain ⟨k,hk,rfl,hbw,HNO⟩:=hrel
  have hw2:RStC wr own sb (.slice la ps.length lc) mv ps ms x0:=H1.out.only (S:=fun _=>False) (A0.of_below_size hbw) (fun _ h=>h.elim)
  have c0:=World.row?_cell hw2.row (i:=0) (by omega)
  simp only [Nat.zero_add,List.getElem?_cons_zero] at c0
  rw [← HM.out] at c0
  have r2:wr.row? w.heap.size 0 20=some (A3 20 a):=((C7 hbw).1 _ _ _ (World.row?_lt HR1.out)).trans HR1.out
  have f2:wr.free? (w.heap.size+1) 0 55=true:=((C7 hbw).2 _ _ _ (C1 HF1.out)).trans HF1.out
  have HBW:=hid hbw
  have HW2:=hid hw2
  clear hbw hw2
  by_cases hkm:k < m
  ·have hkp:k < ps.length:=by have:=HM.out;omega
   obtain ⟨g,c',hlv,hgo,hrow,hfr⟩:=HW2.out.arr.row hkp
   cases hlv
   have hxa:=(HW2.out.arr.ok _ (List.getElem_mem hkp)).addr
   obtain ⟨x,hx⟩:∃ x,x=ps[k].1.ac.addr:=⟨_,rfl⟩
   have r3:wr.drew.row? g (k*55) 20=some (A3 20 x):=by rw [hx];exact I5 hrow (i:=0) rfl (by simp [Q8,A4]) (by simp)
   have r2':wr.drew.row? w.heap.size 0 20=some (A3 20 a):=r2
   have c0':wr.drew.cell? ⟨sb,0,none⟩=some (.slice (some ⟨g,0,none⟩) m lc):=c0
   have f2':wr.drew.free? (w.heap.size+1) 0 55=true:=f2
   have hlx:=C4 20 x
   have heq:=eqA (a:=x) (b:=a) (by rw [hx];exact hxa) ha wr.drew
   have hkI:(k:Int) < m:=by omega
   have dk:decide ((k:Int) < (m:Int))=true:=decide_eq_true hkI
   have dn:(k < m)=True:=eq_true hkm
   have HXX:Hid (ps[k].1.ac.addr=x):=hx.symm
   obtain ⟨C,hC⟩:∃ C,C=I8 (ps[k]'hkp):=⟨_,rfl⟩
   have r4:wr.drew.row? g (k*55) 55=some C:=by rw [hC];exact hrow
   have hpo:Q3 55 C=true:=by rw [hC];exact A2F (HW2.out.arr.ok _ (List.getElem_mem hkp))
   have HC:=hid hC
   have hcl:=K6 hpo
   clear hx hrow hfr r3 hxa hC
   have r3:wr.drew.row? g (k*55) 20=some (A3 20 x):=by rw [← HXX.out];exact I5 ((show wr.drew.row? g (k*55) 55=some (I8 ps[k]) from by rw [← HC.out];exact r4)) (i:=0) rfl (by simp [Q8,A4]) (by simp)
   by_cases hxa:x=a
   ·have deq:decide (x=a)=true:=decide_eq_true hxa
    rw [deq] at heq
    have HP:Hid (A2a ps a=ps[k]):=B1q ps a k hkp HNO.out (HXX.out.trans hxa)
    clear hxa deq
    go_wp2_with fail
    refine F4 (by kernel_rfl) (by kernel_rfl) ?_
    repeat still_step
    refine wpStill_nil ?_
    go_wp2_with fail
    refine I2 B5l rfl _ rfl rfl f2' hpo ?_
    refine ⟨A2a ps a,by rw [HP.out,HC.out],?_,HG.out⟩
    exact (HB1.out.trans (HBW.out.drew.mono HB1.out.size)).setCells (Nat.le_succ _) _ _
   ·have deq:decide (x=a)=false:=decide_eq_false hxa
    rw [deq] at heq
    have HN2:Hid (∀ j (hj:j < ps.length),j < k+1→ps[j].1.ac.addr≠a):=by
     intro j hj hjk
     by_cases e:j=k
     ·subst e;rw [HXX.out];exact hxa
     ·exact HNO.out j hj (by omega)
    have hk1:IntKind.i64.wrap ((k:Int)+1)=((k+1:Nat):Int):=by rw [U6 _ (by omega) (by omega)];omega
    clear hxa deq
    go_wp2_with fail
    refine F4 (by kernel_rfl) (by kernel_rfl) ?_
    repeat still_step
    refine wpStill_nil ?_
    go_wp2_with fail
    go_roundw
    case rel=>exact ⟨k+1,by omega,by go_num,HBW.out.drew,HN2⟩
    case measure=>simp [intOf];omega
  ·have hkd:decide ((k:Int) < (m:Int))=false:=decide_eq_false (by omega)
   have hkn:(k < m)=False:=eq_false hkm
   have HP:Hid (A2a ps a=A30 a):=B1p ps a (fun j hj=>HNO.out j hj (by have:=HM.out;omega))
   have hbuild:=A3N a
   have hok:Q3 55 (I8 (A30 a))=true:=A2F (A23 (w:=w) (own:=own) ha)
   have hz:I8 (A30 a)=I8 (I7.new a,.slice none 0 0,.slice none 0 0):=rfl
   rw [← hz] at hbuild
   obtain ⟨C,hC⟩:∃ C,C=I8 (A30 a):=⟨_,rfl⟩
   rw [← hC] at hbuild hok
   have HC:=hid hC
   have hcl:=K6 hok
   clear hkm hz hC
   go_wp2
   refine I2 B5l rfl _ rfl rfl f2 hok ?_
   refine ⟨A2a ps a,by rw [HP.out,HC.out],?_,HG.out⟩
   exact (HB1.out.trans (HBW.out.mono HB1.out.size)).setCells (Nat.le_succ _) _ _
end Go.Proofs.YtfflppedbopdpaaGreat
namespace Go.Mun
open Go.RowKit

def Dig (l:List Int):Prop:=∀ x∈l,0≤x∧x < 65536
def I4:List Int→Nat
 | []=>0
 | x :: l=>x.toNat+65536*I4 l
def dg:Nat→Nat→List Int
 | 0,_ => []
 | k+1,v=>((v % 65536:Nat):Int) :: dg k (v / 65536)
def dat (l:List Int) (i:Nat):Int:=l[i]?.getD 0
@[simp] theorem A72 (k v:Nat):(dg k v).length=k:=by
 induction k generalizing v with
 | zero=>rfl
 | succ k ih=>simp [dg,ih]
theorem B8i (k v:Nat):Dig (dg k v):=by
 induction k generalizing v with
 | zero=>intro x hx;cases hx
 | succ k ih =>
  intro x hx
  rcases List.mem_cons.1 hx with rfl | hx
  ·omega
  ·exact ih _ x hx
theorem B65 (k v i:Nat) (h:i < k):(dg k v)[i]? = some ((v / 65536 ^ i % 65536:Nat):Int):=by
 induction k generalizing v i with
 | zero=>omega
 | succ k ih =>
  cases i with
  | zero=>simp [dg]
  | succ i =>
   simp only [dg,List.getElem?_cons_succ]
   rw [ih _ _ (by omega),Nat.div_div_eq_div_mul,Nat.pow_succ,Nat.mul_comm]
theorem B6z (k v:Nat):I4 (dg k v)=v % 65536 ^ k:=by
 induction k generalizing v with
 | zero=>simp [dg,I4,Nat.mod_one]
 | succ k ih =>
  simp only [dg,I4,ih,Int.toNat_natCast]
  rw [Nat.pow_succ,Nat.mul_comm (65536 ^ k),Nat.mod_mul]
theorem A0L {x:Int} {l:List Int} (h:Dig (x :: l)):(0≤x∧x < 65536)∧Dig l:=⟨h x (by simp),fun y hy=>h y (by simp [hy])⟩
theorem B1x:∀ {l:List Int},Dig l→I4 l < 65536 ^ l.length
 | [],_=>by simp [I4]
 | x :: l,h=>by
  obtain ⟨h1,h2⟩:=A0L h
  have:=B1x h2
  simp only [I4,List.length_cons,Nat.pow_succ]
  omega
theorem B1z:∀ {l:List Int},Dig l→dg l.length (I4 l)=l
 | [],_=>rfl
 | x :: l,h=>by
  obtain ⟨h1,h2⟩:=A0L h
  simp only [I4,List.length_cons,dg]
  have e1:(x.toNat+65536*I4 l) % 65536=x.toNat:=by omega
  have e2:(x.toNat+65536*I4 l) / 65536=I4 l:=by omega
  rw [e1,e2,B1z h2,Int.toNat_of_nonneg h1.1]
theorem A1z:∀ (l m:List Int),I4 (l++m)=I4 l+65536 ^ l.length*I4 m
 | [],m=>by simp [I4]
 | x :: l,m=>by
  simp only [List.cons_append,I4,A1z l m,List.length_cons,Nat.pow_succ]
  rw [Nat.mul_add,Nat.mul_comm (65536 ^ l.length) 65536,Nat.mul_assoc];omega
theorem A3c {l m:List Int} (h:Dig l) (k:Dig m):Dig (l++m):=fun x hx=>by
 rcases List.mem_append.1 hx with hx | hx
 ·exact h x hx
 ·exact k x hx
theorem A00 {l:List Int} (h:Dig l) (i:Nat):0≤dat l i∧dat l i < 65536:=by
 unfold dat
 cases e:l[i]? with
 | none=>simp
 | some x=>exact h x (List.mem_of_getElem? e)
theorem A0R {l:List Int} {i:Nat} (h:l.length≤i):dat l i=0:=by unfold dat;rw [List.getElem?_eq_none h];rfl
theorem A1k (x:Int) (l:List Int):dat (x :: l) 0=x:=rfl
theorem U2 (x:Int) (l:List Int) (i:Nat):dat (x :: l) (i+1)=dat l i:=by simp [dat]
theorem A1Q:∀ (l:List Int) (i:Nat),I4 (l.take (i+1))=I4 (l.take i)+65536 ^ i*(dat l i).toNat
 | [],i=>by simp [I4,dat]
 | x :: l,0=>by simp [I4,dat]
 | x :: l,i+1=>by
  rw [List.take_succ_cons,List.take_succ_cons,U2]
  simp only [I4,A1Q l i]
  rw [Nat.mul_add,Nat.pow_succ,Nat.mul_comm (65536 ^ i) 65536,Nat.mul_assoc];omega
theorem A0C {l:List Int} {i:Nat} (h:l.length≤i):I4 (l.take i)=I4 l:=by rw [List.take_of_length_le h]
theorem A2w:∀ {a b:List Int},(∀ i,dat a i=dat b i)→I4 a=I4 b
 | [],[],_=>rfl
 | [],y :: b,h=>by
  have h0:=h 0
  have:=A2w (a:=[]) (b:=b) (fun i=>by have:=h (i+1);rw [U2] at this;rw [← this];simp [dat])
  rw [A1k] at h0
  simp only [I4] at this ⊢
  rw [← this,← h0];simp [dat]
 | x :: a,[],h=>by
  have h0:=h 0
  have:=A2w (a:=a) (b:=[]) (fun i=>by have:=h (i+1);rw [U2] at this;rw [this];simp [dat])
  rw [A1k] at h0
  simp only [I4] at this ⊢
  rw [this,h0];simp [dat]
 | x :: a,y :: b,h=>by
  have h0:=h 0
  have:=A2w (a:=a) (b:=b) (fun i=>by have:=h (i+1);rw [U2,U2] at this;exact this)
  rw [A1k,A1k] at h0
  simp only [I4]
  rw [this,h0]
theorem A06:∀ {a b:List Int} {j:Nat},Dig a→Dig b→(∀ i,j < i→dat a i=dat b i)→dat a j < dat b j→I4 a < I4 b
 | [],[],j,_,_,_,h=>by simp [dat] at h
 | x :: a,[],j,ha,_,_,h=>by
  have:=(A00 ha j).1
  rw [A0R (l:=[]) (by simp)] at h;omega
 | [],y :: b,0,_,hb,_,h=>by
  rw [A1k,A0R (by simp)] at h
  simp only [I4];omega
 | [],y :: b,j+1,_,hb,he,h=>by
  rw [U2,A0R (by simp)] at h
  have:=A06 (a:=[]) (b:=b) (j:=j) (fun x hx=>by cases hx) (A0L hb).2 (fun i hi=>by have:=he (i+1) (by omega);rw [U2] at this;rw [← this];simp [dat]) (by rw [A0R (by simp)];exact h)
  simp only [I4] at this ⊢;omega
 | x :: a,y :: b,0,ha,hb,he,h=>by
  rw [A1k,A1k] at h
  have:=A2w (a:=a) (b:=b) (fun i=>by have:=he (i+1) (by omega);rw [U2,U2] at this;exact this)
  have h1:=(A0L ha).1
  simp only [I4,this];omega
 | x :: a,y :: b,j+1,ha,hb,he,h=>by
  rw [U2,U2] at h
  have:=A06 (a:=a) (b:=b) (j:=j) (A0L ha).2 (A0L hb).2 (fun i hi=>by have:=he (i+1) (by omega);rw [U2,U2] at this;exact this) h
  have h1:=(A0L ha).1
  have h2:=(A0L hb).1
  simp only [I4];omega
theorem B3j (A B P o c x y:Nat) (h:o+P*c=A+B):(o+P*((c+x+y) % 65536))+(P*65536)*((c+x+y) / 65536)=(A+P*x)+(B+P*y):=by
 have e:=Nat.mod_add_div (c+x+y) 65536
 have h1:P*((c+x+y) % 65536)+(P*65536)*((c+x+y) / 65536)=P*(c+x+y):=by
  rw [Nat.mul_assoc,← Nat.mul_add,e]
 rw [Nat.add_assoc,h1,Nat.mul_add,Nat.mul_add];omega
theorem B13 (A B P o c x y z d:Nat) (h:o+B=A+P*c) (hz:z+y+c=x+65536*d):(o+P*z)+(B+P*y)+P*65536*0=(A+P*x)+(P*65536)*d+(P*c - P*c):=by
 have h1:P*(z+y+c)=P*(x+65536*d):=by rw [hz]
 rw [Nat.mul_add,Nat.mul_add,Nat.mul_add,← Nat.mul_assoc] at h1
 omega
theorem A9L (A B P o c x y z d:Nat) (h:o+B=A+P*c) (hz:z+y+c=x+65536*d):(o+P*z)+(B+P*y)=(A+P*x)+(P*65536)*d:=by
 have:=B13 A B P o c x y z d h hz
 omega
theorem B23 (v i:Nat):v / 256 ^ (2*i) % 256+256*(v / 256 ^ (2*i+1) % 256)=v / 65536 ^ i % 65536:=by
 have e:(256:Nat) ^ (2*i)=65536 ^ i:=by rw [Nat.pow_mul]
 rw [Nat.pow_succ,← Nat.div_div_eq_div_mul,e]
 omega
theorem B6B (v i:Nat):v / 65536 ^ i % 65536 % 256=v / 256 ^ (2*i) % 256:=by
 have e:(256:Nat) ^ (2*i)=65536 ^ i:=by rw [Nat.pow_mul]
 rw [e];omega
theorem B4F (v i:Nat):v / 65536 ^ i % 65536 / 256=v / 256 ^ (2*i+1) % 256:=by
 have e:(256:Nat) ^ (2*i)=65536 ^ i:=by rw [Nat.pow_mul]
 rw [Nat.pow_succ,← Nat.div_div_eq_div_mul,e];omega
theorem B8j (k v i:Nat) (h:i < k):dat (dg k v) i=((v / 65536 ^ i % 65536:Nat):Int):=by unfold dat;rw [B65 k v i h];rfl
theorem B6A {l:List Int} (h:Dig l) (i:Nat):dat l i=((I4 l / 65536 ^ i % 65536:Nat):Int):=by
 by_cases hi:i < l.length
 ·rw [← B8j l.length _ i hi,B1z h]
 ·rw [A0R (by omega)]
  have h1:=B1x h
  have h2:65536 ^ l.length≤65536 ^ i:=Nat.pow_le_pow_right (by decide) (by omega)
  rw [Nat.div_eq_of_lt (by omega)];rfl
theorem A4s (a b:Nat) (ha:a < 9223372036854775808) (hb:b < 9223372036854775808):bits .or .i64 (a:Int) (b:Int)=((a ||| b:Nat):Int):=by
 have h1:((BitVec.ofInt 64 (a:Int)) ||| (BitVec.ofInt 64 (b:Int))).toNat=a ||| b:=by
  rw [BitVec.toNat_or,BitVec.toNat_ofInt,BitVec.toNat_ofInt]
  congr 1 <;> omega
 have h2:a ||| b < 2 ^ 63:=Nat.or_lt_two_pow (by omega) (by omega)
 show IntKind.i64.wrap (((BitVec.ofInt 64 (a:Int)) ||| (BitVec.ofInt 64 (b:Int))).toNat:Int)=_
 rw [h1,U6 _ (by omega) (by omega)]
theorem B0j (x y:Nat) (hx:x < 256) (hy:y < 256):bits .or .i64 (x:Int) ((y:Int)*256)=((x+256*y:Nat):Int):=by
 have h1:x ||| (y*256)=x+256*y:=by
  have:=Nat.two_pow_add_eq_or_of_lt (i:=8) (b:=x) hx y
  rw [show y*256=2 ^ 8*y by omega,Nat.or_comm,← this];omega
 have h2:=A4s x (y*256) (by omega) (by omega)
 rw [Int.natCast_mul] at h2
 rw [show ((256:Nat):Int)=256 from rfl] at h2
 rw [h2,h1]
end Go.Mun
namespace Go.Proofs.YtfflppedbopdpaaGreat
open Go.RowKit Go.Mun

structure A1A (w:World) (ad:Option Addr) (c:Nat) (l:List Int):Prop where
 ints:G9 w .i64 ad c l
 dig:Dig l
 len:l.length≤100000
theorem A1A.below {w w':World} {ad:Option Addr} {c:Nat} {l:List Int} (h:A1A w ad c l) (hb:Below w.heap.size w w'):A1A w' ad c l:=⟨h.ints.below hb,h.dig,h.len⟩
theorem A9p {a b:List Int} (h:∀ i,dat a i=dat b i):T5 (I4 a) (I4 b)=0:=by rw [A2w h];simp [T5]
theorem A9o {n m:Nat} (h:n < m):T5 n m = -1:=by unfold T5;simp [h]
theorem B1D {n m:Nat} (h:m < n):T5 n m=1:=by unfold T5;rw [if_neg (by omega)];simp;omega
theorem B3Z {w:World} {aa ab:Option Addr} {ca cb:Nat} {a b:List Int} (ha:A1A w aa ca a) (hb:A1A w ab cb b) :
  Calls Tryz.prog 171 #[.slice aa a.length ca,.slice ab b.length cb] w fun e w'=>e = .returned (.int .i64 (T5 (I4 a) (I4 b)))∧Below w.heap.size w w':=by
 obtain ⟨na,hna⟩:∃ n,n=a.length:=⟨_,rfl⟩
 obtain ⟨nb,hnb⟩:∃ n,n=b.length:=⟨_,rfl⟩
 obtain ⟨N,hN⟩:∃ N,N=max na nb:=⟨_,rfl⟩
 have HA:=hid ha
 have HB:=hid hb
 have hla:na≤100000:=by rw [hna];exact ha.len
 have hlb:nb≤100000:=by rw [hnb];exact hb.len
 have HNA:=hid hna
 have HNB:=hid hnb
 have hN1:na≤N:=by omega
 have hN2:nb≤N:=by omega
 have hN3:N≤100000:=by omega
 rw [← hna,← hnb]
 have HI:Hid (∀ i,N≤i→dat a i=dat b i):=fun i hi=>by rw [A0R (by omega),A0R (by omega)]
 by_cases hnn:na < nb
 ·have eN:nb=N:=by omega
  have hgt:(na:Int) < nb:=by omega
  subst eN
  clear hna hnb hN1 hN2 hN ha hb hnn
  go_enter Tryz.func171,Tryz.ntmps171
  go_wp2
  go_loopw [6] (fun ix wr => ∃ k:Nat,k≤nb∧ix = .int .i64 ((k:Int) - 1)∧wr=w∧Hid (∀ i,k≤i→dat a i=dat b i)) (fun ix _=>(intOf ix+1).toNat)
  case atStart=>exact ⟨nb,Nat.le_refl _,by go_num,rfl,HI⟩
  case round =>
   obtain ⟨k,hk,rfl,rfl,HK⟩:=hrel
   by_cases hk0:k=0
   ·have hd:decide ((k:Int) - 1 ≥ 0)=false:=decide_eq_false (by omega)
    have hd2:decide ((0:Int)≤(k:Int) - 1)=false:=decide_eq_false (by omega)
    have HR:Hid (T5 (I4 a) (I4 b)=0):=A9p fun i=>HK.out i (by omega)
    go_wp2
    go_ret
    exact ⟨by rw [HR.out];rfl,Below.refl _ _⟩
   ·obtain ⟨j,rfl⟩:∃ j,k=j+1:=⟨k - 1,by omega⟩
    have ej:((j+1:Nat):Int) - 1=(j:Int):=by omega
    rw [ej]
    obtain ⟨x,hx⟩:∃ x,x=dat a j:=⟨_,rfl⟩
    obtain ⟨y,hy⟩:∃ y,y=dat b j:=⟨_,rfl⟩
    have HX:=hid hx
    have HY:=hid hy
    have HC:Hid (if x < y then T5 (I4 a) (I4 b) = -1 else if y < x then T5 (I4 a) (I4 b)=1 else ∀ i,j≤i→dat a i=dat b i):=by
     show ite _ _ _
     split
     ·rename_i h
      exact A9o (A06 (j:=j) HA.out.dig HB.out.dig (fun i hi=>HK.out i (by omega)) (by rw [← hx,← hy];exact h))
     ·rename_i h1
      split
      ·rename_i h
       exact B1D (A06 (j:=j) HB.out.dig HA.out.dig (fun i hi=>(HK.out i (by omega)).symm) (by rw [← hx,← hy];exact h))
      ·rename_i h2
       intro i hi
       by_cases e:i=j
       ·subst e;rw [← hx,← hy];omega
       ·exact HK.out i (by omega)
    clear hk0 hx hy ej
    by_cases hja:j < na
    ·by_cases hjb:j < nb
     ·have hj0:(0:Int)≤j:=by omega
      obtain ⟨ba,oa,rfl,hla2,hca⟩:=HA.out.ints.at (i:=j) (by have:=HNA.out;omega)
      have hcella:=hca j (by have:=HNA.out;omega)
      have halt:(j:Int) < na:=by omega
      have ea:a[j]?.getD 0=x:=HX.out.symm
      rw [ea] at hcella
      clear hca ea hla2 hja
      obtain ⟨bb,ob,rfl,hlb2,hcb⟩:=HB.out.ints.at (i:=j) (by have:=HNB.out;omega)
      have hcellb:=hcb j (by have:=HNB.out;omega)
      have hblt:(j:Int) < nb:=by omega
      have eb:b[j]?.getD 0=y:=HY.out.symm
      rw [eb] at hcellb
      clear hcb eb hlb2 hjb
      by_cases hlt:(x:Int) < y
      ·have hres:=HC.out
       rw [if_pos hlt] at hres
       have HR:=hid hres
       clear hres
       go_wp2
       go_ret
       exact ⟨by rw [HR.out];rfl,Below.refl _ _⟩
      ·by_cases hgt:(y:Int) < x
       ·have hres:=HC.out
        rw [if_neg hlt,if_pos hgt] at hres
        have HR:=hid hres
        clear hres
        go_wp2
        go_ret
        exact ⟨by rw [HR.out];rfl,Below.refl _ _⟩
       ·have hres:=HC.out
        rw [if_neg hlt,if_neg hgt] at hres
        have HR:=hid hres
        clear hres
        go_wp2
        go_roundw
        case rel=>exact ⟨j,by omega,by go_num,by simp,HR.out⟩
        case measure=>first | (simp [intOf];done) | (simp [intOf];omega)
     ·have hj0:(0:Int)≤j:=by omega
      obtain ⟨ba,oa,rfl,hla2,hca⟩:=HA.out.ints.at (i:=j) (by have:=HNA.out;omega)
      have hcella:=hca j (by have:=HNA.out;omega)
      have halt:(j:Int) < na:=by omega
      have ea:a[j]?.getD 0=x:=HX.out.symm
      rw [ea] at hcella
      clear hca ea hla2 hja
      have hblt:¬ (j:Int) < nb:=by omega
      obtain rfl:y=0:=by rw [HY.out];exact A0R (by have:=HNB.out;omega)
      clear hjb
      by_cases hlt:(x:Int) < 0
      ·have hres:=HC.out
       rw [if_pos hlt] at hres
       have HR:=hid hres
       clear hres
       go_wp2
       go_ret
       exact ⟨by rw [HR.out];rfl,Below.refl _ _⟩
      ·by_cases hgt:(0:Int) < x
       ·have hres:=HC.out
        rw [if_neg hlt,if_pos hgt] at hres
        have HR:=hid hres
        clear hres
        go_wp2
        go_ret
        exact ⟨by rw [HR.out];rfl,Below.refl _ _⟩
       ·have hres:=HC.out
        rw [if_neg hlt,if_neg hgt] at hres
        have HR:=hid hres
        clear hres
        go_wp2
        go_roundw
        case rel=>exact ⟨j,by omega,by go_num,by simp,HR.out⟩
        case measure=>first | (simp [intOf];done) | (simp [intOf];omega)
    ·by_cases hjb:j < nb
     ·have hj0:(0:Int)≤j:=by omega
      have halt:¬ (j:Int) < na:=by omega
      obtain rfl:x=0:=by rw [HX.out];exact A0R (by have:=HNA.out;omega)
      clear hja
      obtain ⟨bb,ob,rfl,hlb2,hcb⟩:=HB.out.ints.at (i:=j) (by have:=HNB.out;omega)
      have hcellb:=hcb j (by have:=HNB.out;omega)
      have hblt:(j:Int) < nb:=by omega
      have eb:b[j]?.getD 0=y:=HY.out.symm
      rw [eb] at hcellb
      clear hcb eb hlb2 hjb
      by_cases hlt:(0:Int) < y
      ·have hres:=HC.out
       rw [if_pos hlt] at hres
       have HR:=hid hres
       clear hres
       go_wp2
       go_ret
       exact ⟨by rw [HR.out];rfl,Below.refl _ _⟩
      ·by_cases hgt:(y:Int) < 0
       ·have hres:=HC.out
        rw [if_neg hlt,if_pos hgt] at hres
        have HR:=hid hres
        clear hres
        go_wp2
        go_ret
        exact ⟨by rw [HR.out];rfl,Below.refl _ _⟩
       ·have hres:=HC.out
        rw [if_neg hlt,if_neg hgt] at hres
        have HR:=hid hres
        clear hres
        go_wp2
        go_roundw
        case rel=>exact ⟨j,by omega,by go_num,by simp,HR.out⟩
        case measure=>first | (simp [intOf];done) | (simp [intOf];omega)
     ·exfalso;omega
 ·have eN:na=N:=by omega
  have hgt:¬ (na:Int) < nb:=by omega
  subst eN
  clear hna hnb hN1 hN ha hb hnn
  go_enter Tryz.func171,Tryz.ntmps171
  go_wp2
  go_loopw [6] (fun ix wr => ∃ k:Nat,k≤na∧ix = .int .i64 ((k:Int) - 1)∧wr=w∧Hid (∀ i,k≤i→dat a i=dat b i)) (fun ix _=>(intOf ix+1).toNat)
  case atStart=>exact ⟨na,Nat.le_refl _,by go_num,rfl,HI⟩
  case round =>
   obtain ⟨k,hk,rfl,rfl,HK⟩:=hrel
   by_cases hk0:k=0
   ·have hd:decide ((k:Int) - 1 ≥ 0)=false:=decide_eq_false (by omega)
    have hd2:decide ((0:Int)≤(k:Int) - 1)=false:=decide_eq_false (by omega)
    have HR:Hid (T5 (I4 a) (I4 b)=0):=A9p fun i=>HK.out i (by omega)
    go_wp2
    go_ret
    exact ⟨by rw [HR.out];rfl,Below.refl _ _⟩
   ·obtain ⟨j,rfl⟩:∃ j,k=j+1:=⟨k - 1,by omega⟩
    have ej:((j+1:Nat):Int) - 1=(j:Int):=by omega
    rw [ej]
    obtain ⟨x,hx⟩:∃ x,x=dat a j:=⟨_,rfl⟩
    obtain ⟨y,hy⟩:∃ y,y=dat b j:=⟨_,rfl⟩
    have HX:=hid hx
    have HY:=hid hy
    have HC:Hid (if x < y then T5 (I4 a) (I4 b) = -1 else if y < x then T5 (I4 a) (I4 b)=1 else ∀ i,j≤i→dat a i=dat b i):=by
     show ite _ _ _
     split
     ·rename_i h
      exact A9o (A06 (j:=j) HA.out.dig HB.out.dig (fun i hi=>HK.out i (by omega)) (by rw [← hx,← hy];exact h))
     ·rename_i h1
      split
      ·rename_i h
       exact B1D (A06 (j:=j) HB.out.dig HA.out.dig (fun i hi=>(HK.out i (by omega)).symm) (by rw [← hx,← hy];exact h))
      ·rename_i h2
       intro i hi
       by_cases e:i=j
       ·subst e;rw [← hx,← hy];omega
       ·exact HK.out i (by omega)
    clear hk0 hx hy ej
    by_cases hja:j < na
    ·by_cases hjb:j < nb
     ·have hj0:(0:Int)≤j:=by omega
      obtain ⟨ba,oa,rfl,hla2,hca⟩:=HA.out.ints.at (i:=j) (by have:=HNA.out;omega)
      have hcella:=hca j (by have:=HNA.out;omega)
      have halt:(j:Int) < na:=by omega
      have ea:a[j]?.getD 0=x:=HX.out.symm
      rw [ea] at hcella
      clear hca ea hla2 hja
      obtain ⟨bb,ob,rfl,hlb2,hcb⟩:=HB.out.ints.at (i:=j) (by have:=HNB.out;omega)
      have hcellb:=hcb j (by have:=HNB.out;omega)
      have hblt:(j:Int) < nb:=by omega
      have eb:b[j]?.getD 0=y:=HY.out.symm
      rw [eb] at hcellb
      clear hcb eb hlb2 hjb
      by_cases hlt:(x:Int) < y
      ·have hres:=HC.out
       rw [if_pos hlt] at hres
       have HR:=hid hres
       clear hres
       go_wp2
       go_ret
       exact ⟨by rw [HR.out];rfl,Below.refl _ _⟩
      ·by_cases hgt:(y:Int) < x
       ·have hres:=HC.out
        rw [if_neg hlt,if_pos hgt] at hres
        have HR:=hid hres
        clear hres
        go_wp2
        go_ret
        exact ⟨by rw [HR.out];rfl,Below.refl _ _⟩
       ·have hres:=HC.out
        rw [if_neg hlt,if_neg hgt] at hres
        have HR:=hid hres
        clear hres
        go_wp2
        go_roundw
        case rel=>exact ⟨j,by omega,by go_num,by simp,HR.out⟩
        case measure=>first | (simp [intOf];done) | (simp [intOf];omega)
     ·have hj0:(0:Int)≤j:=by omega
      obtain ⟨ba,oa,rfl,hla2,hca⟩:=HA.out.ints.at (i:=j) (by have:=HNA.out;omega)
      have hcella:=hca j (by have:=HNA.out;omega)
      have halt:(j:Int) < na:=by omega
      have ea:a[j]?.getD 0=x:=HX.out.symm
      rw [ea] at hcella
      clear hca ea hla2 hja
      have hblt:¬ (j:Int) < nb:=by omega
      obtain rfl:y=0:=by rw [HY.out];exact A0R (by have:=HNB.out;omega)
      clear hjb
      by_cases hlt:(x:Int) < 0
      ·have hres:=HC.out
       rw [if_pos hlt] at hres
       have HR:=hid hres
       clear hres
       go_wp2
       go_ret
       exact ⟨by rw [HR.out];rfl,Below.refl _ _⟩
      ·by_cases hgt:(0:Int) < x
       ·have hres:=HC.out
        rw [if_neg hlt,if_pos hgt] at hres
        have HR:=hid hres
        clear hres
        go_wp2
        go_ret
        exact ⟨by rw [HR.out];rfl,Below.refl _ _⟩
       ·have hres:=HC.out
        rw [if_neg hlt,if_neg hgt] at hres
        have HR:=hid hres
        clear hres
        go_wp2
        go_roundw
        case rel=>exact ⟨j,by omega,by go_num,by simp,HR.out⟩
        case measure=>first | (simp [intOf];done) | (simp [intOf];omega)
    ·by_cases hjb:j < nb
     ·have hj0:(0:Int)≤j:=by omega
      have halt:¬ (j:Int) < na:=by omega
      obtain rfl:x=0:=by rw [HX.out];exact A0R (by have:=HNA.out;omega)
      clear hja
      obtain ⟨bb,ob,rfl,hlb2,hcb⟩:=HB.out.ints.at (i:=j) (by have:=HNB.out;omega)
      have hcellb:=hcb j (by have:=HNB.out;omega)
      have hblt:(j:Int) < nb:=by omega
      have eb:b[j]?.getD 0=y:=HY.out.symm
      rw [eb] at hcellb
      clear hcb eb hlb2 hjb
      by_cases hlt:(0:Int) < y
      ·have hres:=HC.out
       rw [if_pos hlt] at hres
       have HR:=hid hres
       clear hres
       go_wp2
       go_ret
       exact ⟨by rw [HR.out];rfl,Below.refl _ _⟩
      ·by_cases hgt:(y:Int) < 0
       ·have hres:=HC.out
        rw [if_neg hlt,if_pos hgt] at hres
        have HR:=hid hres
        clear hres
        go_wp2
        go_ret
        exact ⟨by rw [HR.out];rfl,Below.refl _ _⟩
       ·have hres:=HC.out
        rw [if_neg hlt,if_neg hgt] at hres
        have HR:=hid hres
        clear hres
        go_wp2
        go_roundw
        case rel=>exact ⟨j,by omega,by go_num,by simp,HR.out⟩
        case measure=>first | (simp [intOf];done) | (simp [intOf];omega)
     ·exfalso;omega
end Go.Proofs.YtfflppedbopdpaaGreat
namespace Go.Mun
open Go.RowKit
def zDg (n:Nat):List Value:=List.replicate n (.int .i64 0)
def dcL (L:List Int):List Value:=L.map (Value.int .i64)
@[go_sem,simp] theorem B91 (n:Nat):(zDg n).length=n:=by simp [zDg]
@[go_sem,simp] theorem B99 (L:List Int):(dcL L).length=L.length:=by simp [dcL]
theorem A9n (n:Nat):dcL (List.replicate n 0)=zDg n:=by simp [dcL,zDg]
theorem B1B (L:List Int) (i:Nat) (x:Int):(dcL L).set i (.int .i64 x)=dcL (L.set i x):=by simp [dcL,List.map_set]
theorem A4h {P:Program} {t e:TypeId} (E:P4 P t e (.int .i64 0) 1 8) (x:Int) (n:Nat) (hx:x=n) (hn:n≤16777216) (w:World) :
  (Instr.makeSlice t (.int .i64 x) (.int .i64 x)).run P w = .ok (.slice (some ⟨w.heap.size,0,none⟩) n n) (w.alloc (.cells (zDg n).toArray e)):=by
 subst hx
 obtain ⟨i,hi,hz,hsz,hb⟩:=E.info
 have:=run_make (P:=P) w t e i _ E.slice hi hz .i64 .i64 n n (by omega) (Int.le_refl _) (by rw [hb];omega) (by omega)
 simp only [Int.toNat_natCast,hsz,Nat.mul_one] at this
 rw [this]
 have e0:madeCells (Value.int .i64 0).cells n=(zDg n).toArray:=by
  apply Array.ext
  ·simp [madeCells]
  ·intro i h1 h2
   simp [madeCells,zDg,Value.cells]
   have:i % 1=0:=Nat.mod_one i
   simp [this]
 rw [e0]
def dgZ (n v k:Nat):List Int:=(dg n v).take k++List.replicate (n - k) 0
theorem B4G (n v:Nat):dgZ n v 0=List.replicate n 0:=by simp [dgZ]
theorem B6D (n v:Nat):dgZ n v n=dg n v:=by simp [dgZ,List.take_of_length_le]
theorem B6C (n v k:Nat) (h:k < n):(dgZ n v k).set k ((v / 65536 ^ k % 65536:Nat):Int)=dgZ n v (k+1):=by
 apply List.ext_getElem?
 intro i
 unfold dgZ
 rw [List.getElem?_set]
 by_cases hik:k=i
 ·subst hik
  rw [if_pos rfl,if_pos (by simp;omega),List.getElem?_append_left (by simp;omega),List.getElem?_take,if_pos (by omega),B65 _ _ _ h]
 ·rw [if_neg hik]
  by_cases hi:i < k
  ·rw [List.getElem?_append_left (by simp;omega),List.getElem?_append_left (by simp;omega),List.getElem?_take,List.getElem?_take,if_pos hi,if_pos (by omega)]
  ·rw [List.getElem?_append_right (by simp;omega),List.getElem?_append_right (by simp;omega)]
   simp only [List.length_take,A72]
   rw [Nat.min_eq_left (by omega),Nat.min_eq_left (by omega),List.getElem?_replicate,List.getElem?_replicate]
   by_cases h2:i < n
   ·rw [if_pos (by omega),if_pos (by omega)]
   ·rw [if_neg (by omega),if_neg (by omega)]
end Go.Mun
namespace Go.Proofs.YtfflppedbopdpaaGreat
open Go.RowKit Go.Mun

structure A6r (v k:Nat) (w wr:World):Prop where
 below:Below w.heap.size w wr
 box:wr.row? w.heap.size 0 32=some (A3 32 v)
 arr:Arr wr (w.heap.size+1) 16 (dcL (dgZ 16 v k))
theorem A6r.start (v:Nat) (w:World):A6r v 0 w ((w.alloc (.cells (A3 32 v).toArray 25)).alloc (.cells (zDg 16).toArray 3)):=by
 refine ⟨((Below.refl _ _).alloc (Nat.le_refl _) _).alloc (by simp) _,?_,⟨?_,?_⟩⟩
 ·rw [World.row?_alloc_lt _ (by simp)];exact World.row?_alloc_at _ _ _ rfl (by simp)
 ·rw [B4G,A9n];exact World.row?_alloc_at _ _ _ (by simp) (by simp)
 ·exact World.free?_alloc_at _ _ (by simp) (by simp)
theorem A6r.drew {v k:Nat} {w wr:World} (h:A6r v k w wr):A6r v k w wr.drew:=⟨h.below.drew,h.box,⟨h.arr.row,h.arr.free⟩⟩
theorem A6r.next {v k:Nat} {w wr:World} (h:A6r v k w wr) (hk:k < 16):A6r v (k+1) w (wr.setCell ⟨w.heap.size+1,k,none⟩ (.int .i64 ((v / 65536 ^ k % 65536:Nat):Int))):=by
 refine ⟨h.below.setCell (p:=⟨w.heap.size+1,k,none⟩) (Nat.le_succ _) _,?_,?_⟩
 ·rw [Z3 _ (by omega)];exact h.box
 ·have:=h.arr.set hk (.int .i64 ((v / 65536 ^ k % 65536:Nat):Int))
  rw [B1B,B6C 16 v k hk] at this
  exact this
theorem B45 (n v i:Nat) (h:i < n):(A3 n v)[i]? = some (.int .u8 ((v / 256 ^ (n - 1 - i) % 256:Nat):Int)):=by
 unfold A3 be
 rw [List.getElem?_map,List.getElem?_map,List.getElem?_range h];rfl
theorem A87 {w:World} {b n:Nat} {L:List Int} (h:w.row? b 0 n=some (dcL L)) (hn:n≤100000):G9 w .i64 (some ⟨b,0,none⟩) n L:=by
 have hl:L.length=n:=by have:=World.row?_len h;simpa using this
 refine ⟨fun _=>⟨b,0,rfl,fun i hi=>?_⟩,fun e=>(by cases e),by omega,by unfold maxLen;omega⟩
 rw [World.row?_cell h (by omega)]
 unfold dcL
 rw [List.getElem?_map,List.getElem?_eq_getElem hi];rfl
theorem A03 (v:Nat) (w:World) :
  Calls Tryz.prog 172 #[.agg (A3 32 v).toArray] w fun e w' => ∃ ad,e = .returned (.slice ad 16 16)∧Below w.heap.size w w'∧A1A w' ad 16 (dg 16 v):=by
 have hmk:∀ w',(Instr.makeSlice 192 (.int .i64 16) (.int .i64 16)).run Tryz.prog w' = .ok (.slice (some ⟨w'.heap.size,0,none⟩) 16 16) (w'.alloc (.cells (zDg 16).toArray 3)):=fun w'=>A4h A2O 16 16 rfl (by decide) w'
 have hl1:=C4 32 v
 have HS:=hid (A6r.start v w)
 go_enter Tryz.func172,Tryz.ntmps172
 go_wp2_with fail
 go_loopw [4] (fun ix wr => ∃ k:Nat,k≤16∧ix = .int .i64 (k:Int)∧Hid (A6r v k w wr)) (fun ix _=>16 - (intOf ix).toNat)
 case atStart=>exact ⟨0,by omega,rfl,HS⟩
 case round =>
  obtain ⟨k,hk,rfl,HR⟩:=hrel
  by_cases hlt:k < 16
  ·have hI:(k:Int) < 16:=by omega
   have hd:decide ((k:Int) < 16)=true:=decide_eq_true hI
   obtain ⟨x,hx⟩:∃ x:Nat,x=v / 256 ^ (2*k) % 256:=⟨_,rfl⟩
   obtain ⟨y,hy⟩:∃ y:Nat,y=v / 256 ^ (2*k+1) % 256:=⟨_,rfl⟩
   obtain ⟨z,hz⟩:∃ z:Nat,z=v / 65536 ^ k % 65536:=⟨_,rfl⟩
   have hxy:x+256*y=z:=by rw [hx,hy,hz];exact B23 v k
   have hx8:x < 256:=by omega
   have hy8:y < 256:=by omega
   have hor:=B0j x y hx8 hy8
   rw [hxy] at hor
   obtain ⟨i1,hi1⟩:∃ i1:Nat,i1=31 - 2*k:=⟨_,rfl⟩
   obtain ⟨i2,hi2⟩:∃ i2:Nat,i2=30 - 2*k:=⟨_,rfl⟩
   have e1:(31:Int) - 2*k=i1:=by omega
   have e2:(30:Int) - 2*k=i2:=by omega
   have hw1:IntKind.i64.wrap (2*(k:Int))=2*(k:Int):=U6 _ (by omega) (by omega)
   have hw2:IntKind.i64.wrap (31 - 2*(k:Int))=(i1:Int):=by rw [U6 _ (by omega) (by omega)];exact e1
   have hw3:IntKind.i64.wrap (30 - 2*(k:Int))=(i2:Int):=by rw [U6 _ (by omega) (by omega)];exact e2
   have h1:i1 < 32:=by omega
   have h2:i2 < 32:=by omega
   have c1:wr.drew.cell? ⟨w.heap.size,i1,none⟩=some (.int .u8 (x:Int)):=by
    have:=World.row?_cell HR.out.box h1
    rw [Nat.zero_add,B45 32 v i1 h1,show 32 - 1 - i1=2*k by omega,← hx] at this
    exact this
   have c2:wr.drew.cell? ⟨w.heap.size,i2,none⟩=some (.int .u8 (y:Int)):=by
    have:=World.row?_cell HR.out.box h2
    rw [Nat.zero_add,B45 32 v i2 h2,show 32 - 1 - i2=2*k+1 by omega,← hy] at this
    exact this
   have hf:wr.drew.free? (w.heap.size+1) k 1=true:=World.free?_sub HR.out.arr.free (by omega)
   have HN:=hid (HR.out.drew.next hlt)
   rw [← hz] at HN
   have hJ1:(i1:Int) < 32:=by omega
   have hJ2:(i2:Int) < 32:=by omega
   clear hx hy hz hxy hi1 hi2 hlt e1 e2
   go_wp2_with fail
   go_still_tail 16,(by kernel_rfl)
   go_wp2
   go_roundw
   case rel=>exact ⟨k+1,by omega,by go_num,HN⟩
   case measure=>simp [intOf];omega
  ·obtain rfl:k=16:=by omega
   clear hlt
   go_wp2
   go_ret
   have hr:=HR.out.arr.row
   rw [B6D] at hr
   exact ⟨_,rfl,HR.out.below,A87 hr (by decide),B8i 16 v,by simp⟩
structure A8b (v k:Nat) (w wr:World):Prop where
 below:Below w.heap.size w wr
 res:wr.free? w.heap.size 0 32=true
 free:wr.free? (w.heap.size+1) 0 32=true
 row:∃ L:List Int,wr.row? (w.heap.size+1) 0 32=some (K2 L)∧L.length=32∧∀ i,i < 32→32 - 2*k≤i→L[i]?.getD 0=((v / 256 ^ (31 - i) % 256:Nat):Int)
theorem A8b.start (v:Nat) (w:World):A8b v 0 w ((w.alloc (.cells (J4 32).toArray 25)).alloc (.cells (J4 32).toArray 25)):=by
 refine ⟨((Below.refl _ _).alloc (Nat.le_refl _) _).alloc (by simp) _,?_,?_,List.replicate 32 0,?_,by simp,fun i hi h=>by omega⟩
 ·rw [World.free?_alloc_lt _ (by simp)];exact World.free?_alloc_at _ _ rfl (by simp)
 ·exact World.free?_alloc_at _ _ (by simp) (by simp)
 ·rw [A58];exact World.row?_alloc_at _ _ _ (by simp) (by simp)
theorem A8b.next {v k:Nat} {w wr:World} (h:A8b v k w wr) (hk:k < 16) {x y:Nat} (hx:x=v / 256 ^ (2*k) % 256) (hy:y=v / 256 ^ (2*k+1) % 256) {i1 i2:Nat} (h1:i1=31 - 2*k) (h2:i2=30 - 2*k) :
  A8b v (k+1) w ((wr.setCell ⟨w.heap.size+1,i1,none⟩ (.int .u8 (x:Int))).setCell ⟨w.heap.size+1,i2,none⟩ (.int .u8 (y:Int))):=by
 obtain ⟨L,r,hl,hv⟩:=h.row
 have f1:=World.free?_sub h.free (o':=i1) (n':=1) (by omega)
 have f2:=World.free?_sub h.free (o':=i2) (n':=1) (by omega)
 have f2':(wr.setCell ⟨w.heap.size+1,i1,none⟩ (.int .u8 (x:Int))).free? (w.heap.size+1) i2 1=true:=by rw [D1 _ f1];exact f2
 refine ⟨(h.below.setCell (p:=⟨w.heap.size+1,i1,none⟩) (Nat.le_succ _) _).setCell (p:=⟨w.heap.size+1,i2,none⟩) (Nat.le_succ _) _,?_,?_,(L.set i1 x).set i2 y,?_,by simpa using hl,?_⟩
 ·rw [D1 _ f2',D1 _ f1];exact h.res
 ·rw [D1 _ f2',D1 _ f1];exact h.free
 ·have r1:=G6 (.int .u8 (x:Int)) r (Nat.zero_le _) (show i1 < 0+32 by omega)
  rw [Nat.sub_zero,A4I L _ (by omega)] at r1
  have r2:=G6 (.int .u8 (y:Int)) r1 (Nat.zero_le _) (show i2 < 0+32 by omega)
  rw [Nat.sub_zero,A4I _ _ (by simp;omega)] at r2
  exact r2
 ·intro i hi hi2
  rw [List.getElem?_set,List.getElem?_set]
  by_cases e2:i2=i
  ·rw [if_pos e2,if_pos (by simp;omega),hy,show 31 - i=2*k+1 by omega];rfl
  ·rw [if_neg e2]
   by_cases e1:i1=i
   ·rw [if_pos e1,if_pos (by omega),hx,show 31 - i=2*k by omega];rfl
   ·rw [if_neg e1];exact hv i hi (by omega)
theorem A8b.done {v:Nat} {w wr:World} (h:A8b v 16 w wr):wr.row? (w.heap.size+1) 0 32=some (A3 32 v):=by
 obtain ⟨L,r,hl,hv⟩:=h.row
 rw [r]
 have:L=be 32 v:=by
  apply List.ext_getElem (by simpa using hl)
  intro i g1 g2
  have hi:i < 32:=by omega
  have:=hv i hi (by omega)
  rw [List.getElem?_eq_getElem g1] at this
  simp only [Option.getD_some] at this
  rw [this]
  simp [be]
 rw [this];rfl
theorem A6N {w:World} {ad:Option Addr} {c:Nat} {l:List Int} (hd:A1A w ad c l) (h16:16≤l.length) :
  Calls Tryz.prog 244 #[.slice ad l.length c] w fun e w'=>e = .returned (.agg (A3 32 (I4 l)).toArray)∧Below w.heap.size w w':=by
 obtain ⟨m,hm⟩:∃ m,m=l.length:=⟨_,rfl⟩
 obtain ⟨v,hv⟩:∃ v,v=I4 l:=⟨_,rfl⟩
 have HD:=hid hd
 have hlen:m≤100000:=by rw [hm];exact hd.len
 have HM:=hid hm
 have HV:=hid hv
 have HS:=hid (A8b.start v w)
 rw [← hm,← hv]
 rw [← hm] at h16
 have hb32:=D2 32 v
 clear hm hv hd
 go_enter Tryz.func244,Tryz.ntmps244
 go_wp2_with fail
 go_loopw [4] (fun ix wr => ∃ k:Nat,k≤16∧ix = .int .i64 (k:Int)∧Hid (A8b v k w wr)) (fun ix _=>16 - (intOf ix).toNat)
 case atStart=>exact ⟨0,by omega,rfl,HS⟩
 case round =>
  obtain ⟨k,hk,rfl,HR⟩:=hrel
  by_cases hlt:k < 16
  ·have hI:(k:Int) < 16:=by omega
   have hI2:(k:Int) < m:=by omega
   have hIN:k < m:=by omega
   obtain ⟨d,hdd⟩:∃ d:Nat,d=v / 65536 ^ k % 65536:=⟨_,rfl⟩
   have hd16:d < 65536:=by rw [hdd];exact Nat.mod_lt _ (by decide)
   obtain ⟨x,hx⟩:∃ x:Nat,x=d % 256:=⟨_,rfl⟩
   obtain ⟨y,hy⟩:∃ y:Nat,y=d / 256:=⟨_,rfl⟩
   have hxv:Hid (x=v / 256 ^ (2*k) % 256):=by rw [hx,hdd];exact B6B v k
   have hyv:Hid (y=v / 256 ^ (2*k+1) % 256):=by rw [hy,hdd];exact B4F v k
   have hx8:x < 256:=by omega
   have hy8:y < 256:=by omega
   have b1:bits .and .i64 (d:Int) 255=(x:Int):=by rw [A3O];omega
   have b2:(d:Int) / 256=(y:Int):=by omega
   have b3:IntKind.u8.wrap (x:Int)=(x:Int):=wr8 _ (by omega) (by omega)
   have b4:IntKind.u8.wrap (y:Int)=(y:Int):=wr8 _ (by omega) (by omega)
   obtain ⟨i1,hi1⟩:∃ i1:Nat,i1=31 - 2*k:=⟨_,rfl⟩
   obtain ⟨i2,hi2⟩:∃ i2:Nat,i2=30 - 2*k:=⟨_,rfl⟩
   have hw1:IntKind.i64.wrap (2*(k:Int))=2*(k:Int):=U6 _ (by omega) (by omega)
   have hw2:IntKind.i64.wrap (31 - 2*(k:Int))=(i1:Int):=by rw [U6 _ (by omega) (by omega)];omega
   have hw3:IntKind.i64.wrap (30 - 2*(k:Int))=(i2:Int):=by rw [U6 _ (by omega) (by omega)];omega
   have h1:i1 < 32:=by omega
   have h2:i2 < 32:=by omega
   have hJ1:(i1:Int) < 32:=by omega
   have hJ2:(i2:Int) < 32:=by omega
   obtain ⟨b,off,rfl,hbl,hc⟩:=HD.out.ints.at (i:=k) (by have:=HM.out;omega)
   have hcell:wr.cell? ⟨b,off+k,none⟩=some (.int .i64 (d:Int)):=by
    have e1:=hc k (by have:=HM.out;omega)
    have e2:l[k]?.getD 0=(d:Int):=by
     have:=B6A HD.out.dig k
     unfold dat at this
     rw [this,← HV.out,hdd]
    rw [e2] at e1
    exact (HR.out.below.cell (p:=⟨b,off+k,none⟩) hbl).trans e1
   have f1:=World.free?_sub HR.out.free (o':=i1) (n':=1) (by omega)
   have f2:=World.free?_sub HR.out.free (o':=i2) (n':=1) (by omega)
   have hne:b≠w.heap.size+1:=by omega
   have f2':(wr.setCell ⟨w.heap.size+1,i1,none⟩ (.int .u8 (x:Int))).free? (w.heap.size+1) i2 1=true:=by rw [D1 _ f1];exact f2
   have hcell2:(wr.setCell ⟨w.heap.size+1,i1,none⟩ (.int .u8 (x:Int))).cell? ⟨b,off+k,none⟩=some (.int .i64 (d:Int)):=by
    exact (World.cell?_setCells_block (w:=wr) (w.heap.size+1) i1 ⟨b,off+k,none⟩ [.int .u8 (x:Int)] hne).trans hcell
   have HN:=hid (HR.out.next hlt hxv.out hyv.out hi1 hi2)
   clear hdd hx hy hi1 hi2 hlt hc hbl hd16
   go_wp2
   go_roundw
   case rel=>exact ⟨k+1,by omega,by go_num,HN⟩
   case measure=>simp [intOf];omega
  ·obtain rfl:k=16:=by omega
   have hr:=HR.out.done
   have hf:=HR.out.res
   have HB:=hid HR.out.below
   clear hlt
   go_wp2
   refine I2 A28 rfl _ rfl rfl hf hb32 ?_
   exact ⟨rfl,HB.out.setCells (Nat.le_refl _) _ _⟩
structure B6O (a b:List Int) (w wr:World) (v:Value) (k c:Nat) (done:List Int):Prop where
 len:done.length=k
 dig:Dig done
 val:I4 done+65536 ^ k*c=I4 (a.take k)+I4 (b.take k)
 c1:c≤1
 own:wr.ownsRow w.heap.size 3 1 v done.length (done.map (Value.int .i64))
 below:Below w.heap.size w wr
theorem B3h (m:Int):bits .and .i64 m 65535=m % 65536:=A9w m 16 (by decide)
theorem B6O.next {a b:List Int} {w wr w1:World} {v v':Value} {k c x y:Nat} {done:List Int} (h:B6O a b w wr v k c done) (ha:dat a k=(x:Int)) (hb:dat b k=(y:Int)) (hx:x < 65536) (hy:y < 65536)
  (ho:w1.ownsRow w.heap.size 3 1 v' (done.length+1) (done.map (Value.int .i64)++[.int .i64 (((c+x+y) % 65536:Nat):Int)])) (hg:wr.grownBy w1 v.ownBlock):B6O a b w w1 v' (k+1) ((c+x+y) / 65536) (done++[(((c+x+y) % 65536:Nat):Int)]):=by
 obtain ⟨h1,h2,h3,h4,h5,h6⟩:=h
 refine ⟨by simp [h1],A3c h2 (fun z hz=>by simp at hz;omega),?_,by omega,by simpa using ho,h6.grown hg h6.size (fun k hk=>(h5.lt k hk).1)⟩
 rw [A1z,A1Q,A1Q,h1,ha,hb]
 have:=B3j (I4 (a.take k)) (I4 (b.take k)) (65536 ^ k) (I4 done) c x y h3
 simp only [I4,Int.toNat_natCast,Nat.pow_succ] at this ⊢
 rw [Nat.mul_zero,Nat.add_zero]
 exact this
structure B0S (w0 w:World) (v:Value) (l:List Int):Prop where
 below:Below w0.heap.size w0 w
 own:w.ownsRow w0.heap.size 3 1 v l.length (l.map (Value.int .i64))
 dig:Dig l
theorem B0S.at {w0 w:World} {v:Value} {l:List Int} (h:B0S w0 w v l) (hl:l.length≤100000):∃ ad c,v = .slice ad l.length c∧A1A w ad c l:=by
 obtain ⟨ad,c,e,_,hI⟩:=G9.of_own' h.own
 exact ⟨ad,c,e,hI,h.dig,hl⟩
theorem B30 {w:World} {aa ab:Option Addr} {ca cb:Nat} {a b:List Int} (ha:A1A w aa ca a) (hb:A1A w ab cb b) (hl:b.length=a.length) :
  Calls Tryz.prog 245 #[.slice aa a.length ca,.slice ab b.length cb] w fun e w' => ∃ v l,e = .returned v∧B0S w w' v l∧l.length=a.length+1∧I4 l=I4 a+I4 b:=by
 obtain ⟨m,hm⟩:∃ m,m=a.length:=⟨_,rfl⟩
 have HA:=hid ha
 have HB:=hid hb
 have hlen:m≤100000:=by rw [hm];exact ha.len
 have HL:Hid (b.length=m):=by rw [hm];exact hl
 have HM:=hid hm
 rw [hl,← hm]
 clear hm ha hb hl
 go_enter Tryz.func245,Tryz.ntmps245
 go_wp2_with fail
 go_loopw [5,6,7] (fun v cx ix wr => ∃ (k c:Nat) (done:List Int),k≤m∧ix = .int .i64 (k:Int)∧cx = .int .i64 (c:Int)∧Hid (B6O a b w wr v k c done)) (fun _ _ ix _=>m - (intOf ix).toNat)
 case atStart=>exact ⟨0,0,[],by omega,rfl,rfl,rfl,fun x hx=>(by cases hx),by simp [I4],by omega,World.ownsRow_nil _ _ _ _,Below.refl _ _⟩
 case round =>
  obtain ⟨k,c,done,hk,rfl,rfl,HR⟩:=hrel
  have hc1:=HR.out.c1
  by_cases hlt:k < m
  ·have hI:(k:Int) < m:=by omega
   obtain ⟨ba,oa,rfl,hla,hca⟩:=HA.out.ints.at (i:=k) (by have:=HM.out;omega)
   obtain ⟨bb,ob,rfl,hlb,hcb⟩:=HB.out.ints.at (i:=k) (by have:=HL.out;omega)
   obtain ⟨x,hx⟩:∃ x:Nat,dat a k=(x:Int):=⟨(dat a k).toNat,by have:=(A00 HA.out.dig k).1;omega⟩
   obtain ⟨y,hy⟩:∃ y:Nat,dat b k=(y:Int):=⟨(dat b k).toNat,by have:=(A00 HB.out.dig k).1;omega⟩
   have hx6:x < 65536:=by have:=(A00 HA.out.dig k).2;omega
   have hy6:y < 65536:=by have:=(A00 HB.out.dig k).2;omega
   have c1:wr.cell? ⟨ba,oa+k,none⟩=some (.int .i64 (x:Int)):=by
    rw [← hx];exact (HR.out.below.cell (p:=⟨ba,oa+k,none⟩) hla).trans (hca k (by have:=HM.out;omega))
   have c2:wr.cell? ⟨bb,ob+k,none⟩=some (.int .i64 (y:Int)):=by
    rw [← hy];exact (HR.out.below.cell (p:=⟨bb,ob+k,none⟩) hlb).trans (hcb k (by have:=HL.out;omega))
   obtain ⟨s,hs⟩:∃ s,s=c+x+y:=⟨_,rfl⟩
   obtain ⟨lo,hlo⟩:∃ lo,lo=s % 65536:=⟨_,rfl⟩
   obtain ⟨hi,hhi⟩:∃ hi,hi=s / 65536:=⟨_,rfl⟩
   have w1:IntKind.i64.wrap ((c:Int)+(x:Int))=(c:Int)+(x:Int):=U6 _ (by omega) (by omega)
   have w2:IntKind.i64.wrap ((c:Int)+(x:Int)+(y:Int))=(s:Int):=by rw [U6 _ (by omega) (by omega)];omega
   have b1:bits .and .i64 (s:Int) 65535=(lo:Int):=by rw [B3h];omega
   have b2:(s:Int) / 65536=(hi:Int):=by omega
   have HX:=hid hx
   have HY:=hid hy
   have HLO:Hid (lo=(c+x+y) % 65536):=by rw [hlo,hs];rfl
   have HHI:Hid (hi=(c+x+y) / 65536):=by rw [hhi,hs];rfl
   have hsz:=HR.out.below.size
   have hdl:done.length=k:=HR.out.len
   clear hx hy hs hlo hhi hca hcb hla hlb hlt
   go_wp2_with (at_builtin;go_must (refine M3 A2O rfl _ _ rfl HR.out.own rfl 1 rfl rfl ?c1 ?c2 ?c3 ?c4 ?_))
   case c1=>simp [Value.oneCell']
   case c2=>unfold maxLen;omega
   case c3=>omega
   case c4=>exact hsz
   intro v' w3 ho hg _
   rw [HLO.out] at ho
   have HN:=hid (HR.out.next HX.out HY.out hx6 hy6 (by rw [hdl];exact ho) hg)
   rw [← HHI.out] at HN
   clear ho hg
   go_wp2
   go_roundw
   case rel=>exact ⟨k+1,hi,_,by omega,by go_num,rfl,HN⟩
   case measure=>simp [intOf];omega
  ·obtain rfl:k=m:=by omega
   have hI:¬ (k:Int) < k:=by omega
   have hsz:=HR.out.below.size
   have hdl:done.length=k:=HR.out.len
   clear hlt
   go_wp2_with (at_builtin;go_must (refine M3 A2O rfl _ _ rfl HR.out.own rfl 1 rfl rfl ?d1 ?d2 ?d3 ?d4 ?_))
   case d2=>unfold maxLen;omega
   case d3=>omega
   intro v' w3 ho hg _
   have HO:=hid ho
   have HB3:=hid (HR.out.below.grown hg hsz (fun k hk=>(HR.out.own.lt k hk).1))
   clear ho hg
   go_wp2
   go_ret
   refine ⟨_,done++[(c:Int)],rfl,⟨HB3.out,by simpa [hdl] using HO.out,A3c HR.out.dig (fun z hz=>by simp at hz;omega)⟩,by simp [hdl],?_⟩
   have:=HR.out.val
   rw [A0C (by have:=HM.out;omega),A0C (by have:=HL.out;omega)] at this
   rw [A1z,hdl]
   simp only [I4,Int.toNat_natCast,Nat.mul_zero,Nat.add_zero]
   exact this
def A6g (n:Nat) (l:List Int):List Int:=l++List.replicate (n - l.length) 0
theorem B36 (n:Nat) (l:List Int) (x:Int) (h:l.length < n):(A6g n l).set l.length x=A6g n (l++[x]):=by
 unfold A6g
 rw [List.set_append_right _ _ (Nat.le_refl _),Nat.sub_self]
 obtain ⟨m,hm⟩:∃ m,n - l.length=m+1:=⟨n - l.length - 1,by omega⟩
 rw [hm,List.replicate_succ,List.set_cons_zero,List.length_append,show n - (l.length + [x].length)=m by simp;omega]
 simp
structure A9E (a b:List Int) (m:Nat) (w wr:World) (k c:Nat) (done:List Int):Prop where
 len:done.length=k
 dig:Dig done
 val:I4 done+I4 (b.take k)=I4 (a.take k)+65536 ^ k*c
 c1:c≤1
 arr:Arr wr w.heap.size m (dcL (A6g m done))
 below:Below w.heap.size w wr
theorem A9E.next {a b:List Int} {m:Nat} {w wr:World} {k c x y z d:Nat} {done:List Int} (h:A9E a b m w wr k c done) (hk:k < m) (ha:dat a k=(x:Int)) (hb:dat b k=(y:Int)) (hz:z < 65536) (hd:d≤1) (he:z+y+c=x+65536*d) :
  A9E a b m w (wr.setCell ⟨w.heap.size,k,none⟩ (.int .i64 (z:Int))) (k+1) d (done++[(z:Int)]):=by
 obtain ⟨h1,h2,h3,h4,h5,h6⟩:=h
 refine ⟨by simp [h1],A3c h2 (fun q hq=>by simp at hq;omega),?_,hd,?_,h6.setCell (p:=⟨w.heap.size,k,none⟩) (Nat.le_refl _) _⟩
 ·rw [A1z,A1Q,A1Q,h1,ha,hb]
  have:=A9L (I4 (a.take k)) (I4 (b.take k)) (65536 ^ k) (I4 done) c x y z d h3 he
  simp only [I4,Int.toNat_natCast,Nat.pow_succ,Nat.mul_zero,Nat.add_zero] at this ⊢
  exact this
 ·have:=h5.set hk (.int .i64 (z:Int))
  rw [B1B] at this
  have e:(A6g m done).set k (z:Int)=A6g m (done++[(z:Int)]):=by
   rw [← h1];exact B36 m done z (by omega)
  rw [e] at this
  exact this
theorem A9E.drew {a b:List Int} {m:Nat} {w wr:World} {k c:Nat} {done:List Int} (h:A9E a b m w wr k c done):A9E a b m w wr.drew k c done:=⟨h.len,h.dig,h.val,h.c1,⟨h.arr.row,h.arr.free⟩,h.below.drew⟩
theorem B3X {w:World} {aa ab:Option Addr} {ca cb:Nat} {a b:List Int} (ha:A1A w aa ca a) (hb:A1A w ab cb b) (hl:b.length≤a.length) :
  Calls Tryz.prog 246 #[.slice aa a.length ca,.slice ab b.length cb] w fun e w' => ∃ ad,e = .returned (.slice ad a.length a.length)∧Below w.heap.size w w'∧∃ l,A1A w' ad a.length l∧l.length=a.length∧∃ d,d≤1∧I4 l+I4 b=I4 a+65536 ^ a.length*d:=by
 obtain ⟨m,hm⟩:∃ m,m=a.length:=⟨_,rfl⟩
 obtain ⟨mb,hmb⟩:∃ mb,mb=b.length:=⟨_,rfl⟩
 have hmk:∀ w',(Instr.makeSlice 192 (.int .i64 (m:Int)) (.int .i64 (m:Int))).run Tryz.prog w' = .ok (.slice (some ⟨w'.heap.size,0,none⟩) m m) (w'.alloc (.cells (zDg m).toArray 3)):=fun w'=>A4h A2O (m:Int) m rfl (by have:=ha.len;omega) w'
 obtain ⟨w0,e0⟩:∃ w0,w0=w.alloc (.cells (zDg m).toArray 3):=⟨_,rfl⟩
 have hs:A9E a b m w w0 0 0 []:=by
  rw [e0]
  refine ⟨rfl,fun x hx=>(by cases hx),by simp [I4],by omega,⟨?_,?_⟩,(Below.refl _ _).alloc (Nat.le_refl _) _⟩
  ·have:A6g m []=List.replicate m 0:=by simp [A6g]
   rw [this,A9n];exact World.row?_alloc_at _ _ _ rfl (by simp)
  ·exact World.free?_alloc_at _ _ rfl (by simp)
 have HS:=hid hs
 have HE:=hid e0
 have HA:=hid ha
 have HB:=hid hb
 have hlen:m≤100000:=by rw [hm];exact ha.len
 have hlb:mb≤m:=by omega
 have HM:=hid hm
 have HMB:=hid hmb
 rw [← hm,← hmb]
 clear hm hmb ha hb hl hs e0
 go_enter Tryz.func246,Tryz.ntmps246
 go_wp2_with fail
 rw [← HE.out]
 go_loopw [6,7] (fun cx ix wr => ∃ (k c:Nat) (done:List Int),k≤m∧ix = .int .i64 (k:Int)∧cx = .int .i64 (c:Int)∧Hid (A9E a b m w wr k c done)) (fun _ ix _=>m - (intOf ix).toNat)
 case atStart=>exact ⟨0,0,[],by omega,rfl,rfl,HS⟩
 case round =>
  obtain ⟨k,c,done,hk,rfl,rfl,HR⟩:=hrel
  have hc1:=HR.out.c1
  by_cases hlt:k < m
  ·have hI:(k:Int) < m:=by omega
   have hIN:k < m:=hlt
   have hf:wr.free? w.heap.size k 1=true:=World.free?_sub HR.out.arr.free (by omega)
   obtain ⟨ba,oa,rfl,hla,hca⟩:=HA.out.ints.at (i:=k) (by have:=HM.out;omega)
   obtain ⟨x,hx⟩:∃ x:Nat,dat a k=(x:Int):=⟨(dat a k).toNat,by have:=(A00 HA.out.dig k).1;omega⟩
   have hx6:x < 65536:=by have:=(A00 HA.out.dig k).2;omega
   have c1:wr.cell? ⟨ba,oa+k,none⟩=some (.int .i64 (x:Int)):=by
    rw [← hx];exact (HR.out.below.cell (p:=⟨ba,oa+k,none⟩) hla).trans (hca k (by have:=HM.out;omega))
   have HX:=hid hx
   clear hx hca
   obtain ⟨y,hy⟩:∃ y:Nat,dat b k=(y:Int):=⟨(dat b k).toNat,by have:=(A00 HB.out.dig k).1;omega⟩
   have hy6:y < 65536:=by have:=(A00 HB.out.dig k).2;omega
   have HY:=hid hy
   have w1:IntKind.i64.wrap ((x:Int) - (c:Int))=(x:Int) - (c:Int):=U6 _ (by omega) (by omega)
   have w2:IntKind.i64.wrap ((x:Int) - (c:Int) - (y:Int))=(x:Int) - (c:Int) - (y:Int):=U6 _ (by omega) (by omega)
   have w3:IntKind.i64.wrap ((x:Int) - (c:Int) - (y:Int)+65536)=(x:Int) - (c:Int) - (y:Int)+65536:=U6 _ (by omega) (by omega)
   by_cases hkb:k < mb
   ·have hJ:(k:Int) < mb:=by omega
    obtain ⟨bb,ob,rfl,hlb2,hcb⟩:=HB.out.ints.at (i:=k) (by have:=HMB.out;omega)
    have c2:wr.cell? ⟨bb,ob+k,none⟩=some (.int .i64 (y:Int)):=by
     rw [← hy];exact (HR.out.below.cell (p:=⟨bb,ob+k,none⟩) hlb2).trans (hcb k (by have:=HMB.out;omega))
    clear hy hcb hlb2
    by_cases hneg:(x:Int) - (c:Int) - (y:Int) < 0
    ·obtain ⟨z,hz⟩:∃ z:Nat,(x:Int) - (c:Int) - (y:Int)+65536=(z:Int):=⟨((x:Int) - (c:Int) - (y:Int)+65536).toNat,by omega⟩
     have HN:=hid (HR.out.next hlt HX.out HY.out (z:=z) (d:=1) (by omega) (by omega) (by omega))
     have w3':IntKind.i64.wrap ((x:Int) - (c:Int) - (y:Int)+65536)=(z:Int):=by rw [w3,hz]
     clear w3 hz
     go_wp2
     go_roundw
     case rel=>exact ⟨k+1,1,_,by omega,by go_num,rfl,HN⟩
     case measure=>simp [intOf];omega
    ·obtain ⟨z,hz⟩:∃ z:Nat,(x:Int) - (c:Int) - (y:Int)=(z:Int):=⟨((x:Int) - (c:Int) - (y:Int)).toNat,by omega⟩
     have HN:=hid (HR.out.next hlt HX.out HY.out (z:=z) (d:=0) (by omega) (by omega) (by omega))
     rw [← hz] at HN
     clear hz
     go_wp2
     go_roundw
     case rel=>exact ⟨k+1,0,_,by omega,by go_num,rfl,HN⟩
     case measure=>simp [intOf];omega
   ·have hJ:¬ (k:Int) < mb:=by omega
    obtain rfl:y=0:=by
     have:dat b k=0:=A0R (by have:=HMB.out;omega)
     rw [this] at hy;omega
    clear hy w2 w3
    by_cases hneg:(x:Int) - (c:Int) < 0
    ·obtain ⟨z,hz⟩:∃ z:Nat,(x:Int) - (c:Int)+65536=(z:Int):=⟨((x:Int) - (c:Int)+65536).toNat,by omega⟩
     have HN:=hid (HR.out.next hlt HX.out HY.out (z:=z) (d:=1) (by omega) (by omega) (by omega))
     have w3':IntKind.i64.wrap ((x:Int) - (c:Int)+65536)=(z:Int):=by rw [U6 _ (by omega) (by omega),hz]
     clear hz
     go_wp2
     go_roundw
     case rel=>exact ⟨k+1,1,_,by omega,by go_num,rfl,HN⟩
     case measure=>simp [intOf];omega
    ·obtain ⟨z,hz⟩:∃ z:Nat,(x:Int) - (c:Int)=(z:Int):=⟨((x:Int) - (c:Int)).toNat,by omega⟩
     have HN:=hid (HR.out.next hlt HX.out HY.out (z:=z) (d:=0) (by omega) (by omega) (by omega))
     rw [← hz] at HN
     clear hz
     go_wp2
     go_roundw
     case rel=>exact ⟨k+1,0,_,by omega,by go_num,rfl,HN⟩
     case measure=>simp [intOf];omega
  ·obtain rfl:k=m:=by omega
   have hI:¬ (k:Int) < k:=by omega
   clear hlt
   go_wp2
   go_ret
   have hr:=HR.out.arr.row
   have hdl:=HR.out.len
   have e:A6g k done=done:=by unfold A6g;rw [hdl,Nat.sub_self];simp
   rw [e] at hr
   have:=HR.out.val
   rw [A0C (l:=a) (by have:=HM.out;omega),A0C (l:=b) (by have:=HMB.out;omega)] at this
   exact ⟨_,rfl,HR.out.below,done,⟨A87 hr (by omega),HR.out.dig,by omega⟩,hdl,c,hc1,this⟩
theorem A1R {n:Nat} (h:n < wW):I4 (dg 16 n)=n:=by
 rw [B6z,show (65536:Nat) ^ 16=wW by rw [A2Z]];exact Nat.mod_eq_of_lt h
theorem A5T (k n m:Nat) (h:n % 256 ^ k=m % 256 ^ k):A3 k n=A3 k m:=by
 rw [← A75 k n,← A75 k m,h]
theorem A7B (n m:Nat) (hn:n < wW) (hm:m < wW) (w:World) :
  Calls Tryz.prog 65 #[.agg (A3 32 n).toArray,.agg (A3 32 m).toArray] w fun e w'=>e = .returned (.int .i64 (T5 n m))∧Below w.heap.size w w':=by
 obtain ⟨w0,e0⟩:∃ w0,w0=(w.alloc (.cells (A3 32 n).toArray 25)).alloc (.cells (A3 32 m).toArray 25):=⟨_,rfl⟩
 have hx:A0d w w0.drew n m:=by rw [e0];exact (A0d.start w n m).on (Below.refl _ _).drew
 obtain ⟨T,hT⟩:∃ T:World→Prop,T=fun w'=>A0d w w' n m:=⟨_,rfl⟩
 have t0:T w0.drew:=by rw [hT];exact hx
 have HTB:Hid (∀ W W',T W→Below W.heap.size W W'→T W'):=by
  rw [hT];intro W W' hW hb;exact hW.on hb
 have HE:=hid e0
 have hl1:(A3 32 n).length=32:=by simp
 have hl2:(A3 32 m).length=32:=by simp
 have HT:=hid hT
 have EN:=hid (A1R hn)
 have EM:=hid (A1R hm)
 clear e0 hx hT
 go_enter Tryz.func65,Tryz.ntmps65
 go_wp2_with fail
 rw [← HE.out]
 refine A7 T [] (.take 0 (.take 2 (.alt 1 (.alt 3 (.alt 4 (.pure 5 .fin) .stop) .stop) .stop))) (by kernel_rfl) (by kernel_rfl) ?_
 iterate 2
  refine A9 ?_ t0 rfl (by rfl) (fun w' hs=>?_) (fun _ _ _ h=>h) ?_
  rotate_left
  ·rw [HT.out] at hs
   have q1:=hs.x;have q2:=hs.y
   go_simp
   try rfl
  simp only [Act.put,D7,D6,D5]
 refine A5 rfl (fun K hK=>?_)
 go_simp
 refine (A03 n _).mono ?_
 rintro e w1 ⟨ad1,rfl,hb,hd1⟩
 have t1:=HTB.out _ _ t0 hb
 have HD1:=hid hd1
 clear hb hd1
 refine hK.out _ _ t1 ?_
 clear hK K
 refine A5 rfl (fun K hK=>?_)
 go_simp
 refine (A03 m _).mono ?_
 rintro e w2 ⟨ad2,rfl,hb,hd2⟩
 have t2:=HTB.out _ _ t1 hb
 have HD1b:=hid (HD1.out.below hb)
 have HD2:=hid hd2
 clear hb hd2
 refine hK.out _ _ t2 ?_
 clear hK K
 refine A5 rfl (fun K hK=>?_)
 go_simp
 have hcm:=B3Z HD1b.out HD2.out
 simp only [A72,EN.out,EM.out] at hcm
 refine hcm.mono ?_
 rintro e w3 ⟨rfl,hb⟩
 have t3:=HTB.out _ _ t2 hb
 clear hb hcm
 refine hK.out _ _ t3 ?_
 clear hK K
 refine A2 ?_ rfl (by rfl) (fun w' hs=>?_) (fun _ _ _ h=>h) ?_
 rotate_left
 ·clear hs
  go_simp
  try rfl
 simp only [Act.put,D7,D6,D5]
 refine C2 ?_
 rw [HT.out] at t3
 have HB:=hid t3.below
 clear t0 t1 t2 t3
 go_wp2
 go_ret
 exact ⟨rfl,HB.out⟩
theorem B5N (n m:Nat) (hn:n < wW) (hm:m < wW) (w:World) :
  Calls Tryz.prog 173 #[.agg (A3 32 n).toArray,.agg (A3 32 m).toArray] w fun e w'=>e = .returned (.agg (A3 32 (n+m)).toArray)∧Below w.heap.size w w':=by
 obtain ⟨w0,e0⟩:∃ w0,w0=((w.alloc (.cells (A3 32 n).toArray 25)).alloc (.cells (A3 32 m).toArray 25)).alloc (.cells (J4 32).toArray 25):=⟨_,rfl⟩
 have hx:A0d w w0.drew n m:=by rw [e0];exact (A0d.start w n m).on ((Below.refl _ _).alloc (Nat.le_refl _) _).drew
 have hf:w0.drew.free? (w.heap.size+1+1) 0 32=true:=by rw [e0];exact World.free?_alloc_at _ _ (by simp) (by simp)
 obtain ⟨T,hT⟩:∃ T:World→Prop,T=fun w'=>A0d w w' n m∧w'.free? (w.heap.size+1+1) 0 32=true:=⟨_,rfl⟩
 have t0:T w0.drew:=by rw [hT];exact ⟨hx,hf⟩
 have HTB:Hid (∀ W W',T W→Below W.heap.size W W'→T W'):=by
  rw [hT];intro W W' hW hb;exact ⟨hW.1.on hb,((C7 hb).2 _ _ _ (C1 hW.2)).trans hW.2⟩
 have HE:=hid e0
 have hl1:(A3 32 n).length=32:=by simp
 have hl2:(A3 32 m).length=32:=by simp
 have HT:=hid hT
 have EN:=hid (A1R hn)
 have EM:=hid (A1R hm)
 clear e0 hx hT hf
 go_enter Tryz.func173,Tryz.ntmps173
 go_wp2_with fail
 rw [← HE.out]
 refine A7 T [6] (.take 0 (.take 2 (.alt 1 (.alt 3 (.alt 4 (.alt 5 (.alt 6 .fin .stop) .stop) .stop) .stop) .stop))) (by kernel_rfl) (by kernel_rfl) ?_
 iterate 2
  refine A9 ?_ t0 rfl (by rfl) (fun w' hs=>?_) (fun _ _ _ h=>h) ?_
  rotate_left
  ·rw [HT.out] at hs
   have q1:=hs.1.x;have q2:=hs.1.y
   go_simp
   try rfl
  simp only [Act.put,D7,D6,D5]
 refine A5 rfl (fun K hK=>?_)
 go_simp
 refine (A03 n _).mono ?_
 rintro e w1 ⟨ad1,rfl,hb,hd1⟩
 have t1:=HTB.out _ _ t0 hb
 have HD1:=hid hd1
 clear hb hd1
 refine hK.out _ _ t1 ?_
 clear hK K
 refine A5 rfl (fun K hK=>?_)
 go_simp
 refine (A03 m _).mono ?_
 rintro e w2 ⟨ad2,rfl,hb,hd2⟩
 have t2:=HTB.out _ _ t1 hb
 have HD1b:=hid (HD1.out.below hb)
 have HD2:=hid hd2
 clear hb hd2
 refine hK.out _ _ t2 ?_
 clear hK K
 refine A5 rfl (fun K hK=>?_)
 go_simp
 have had:=B30 HD1b.out HD2.out (by simp)
 simp only [A72,EN.out,EM.out] at had
 refine had.mono ?_
 rintro e w3 ⟨v3,l3,rfl,hd3,hl3,hv3⟩
 obtain ⟨ad3,c3,rfl,hd4⟩:=hd3.at (by omega)
 have t3:=HTB.out _ _ t2 hd3.below
 have HD4:=hid hd4
 have HL3:=hid hl3
 have EV:Hid (A3 32 (I4 l3)=A3 32 (n+m)):=by show _=_;rw [hv3]
 clear hd3 hd4 had hv3 hl3
 refine hK.out _ _ t3 ?_
 clear hK K
 refine A5 rfl (fun K hK=>?_)
 go_simp
 have hwd:=A6N HD4.out (by have:=HL3.out;omega)
 rw [EV.out] at hwd
 refine hwd.mono ?_
 rintro e w4 ⟨rfl,hb⟩
 have t4:=HTB.out _ _ t3 hb
 have hbo:=D2 32 (n+m)
 clear hb hwd
 refine hK.out _ _ t4 ?_
 clear hK K
 refine J8 rfl (by simp) (fun K hK=>?_)
 go_simp
 rw [HT.out] at t4
 have t5:=t4.2
 go_simp
 refine hK.out _ _ ?_
 clear hK K
 refine C2 ?_
 have HB:=hid t4.1.below
 clear t0 t1 t2 t3 t4
 go_wp2
 refine I2 A28 rfl _ rfl rfl t5 hbo ?_
 exact ⟨rfl,HB.out.setCells (Nat.le_trans (Nat.le_succ _) (Nat.le_succ _)) _ _⟩
theorem B5K (n m:Nat) (hn:n < wW) (hm:m < wW) (w:World) :
  Calls Tryz.prog 174 #[.agg (A3 32 n).toArray,.agg (A3 32 m).toArray] w fun e w'=>e = .returned (.agg (A3 32 (n+wW - m)).toArray)∧Below w.heap.size w w':=by
 obtain ⟨w0,e0⟩:∃ w0,w0=((w.alloc (.cells (A3 32 n).toArray 25)).alloc (.cells (A3 32 m).toArray 25)).alloc (.cells (J4 32).toArray 25):=⟨_,rfl⟩
 have hx:A0d w w0.drew n m:=by rw [e0];exact (A0d.start w n m).on ((Below.refl _ _).alloc (Nat.le_refl _) _).drew
 have hf:w0.drew.free? (w.heap.size+1+1) 0 32=true:=by rw [e0];exact World.free?_alloc_at _ _ (by simp) (by simp)
 obtain ⟨T,hT⟩:∃ T:World→Prop,T=fun w'=>A0d w w' n m∧w'.free? (w.heap.size+1+1) 0 32=true:=⟨_,rfl⟩
 have t0:T w0.drew:=by rw [hT];exact ⟨hx,hf⟩
 have HTB:Hid (∀ W W',T W→Below W.heap.size W W'→T W'):=by
  rw [hT];intro W W' hW hb;exact ⟨hW.1.on hb,((C7 hb).2 _ _ _ (C1 hW.2)).trans hW.2⟩
 have HE:=hid e0
 have hl1:(A3 32 n).length=32:=by simp
 have hl2:(A3 32 m).length=32:=by simp
 have HT:=hid hT
 have EN:=hid (A1R hn)
 have EM:=hid (A1R hm)
 clear e0 hx hT hf
 go_enter Tryz.func174,Tryz.ntmps174
 go_wp2_with fail
 rw [← HE.out]
 refine A7 T [6] (.take 0 (.take 2 (.alt 1 (.alt 3 (.alt 4 (.alt 5 (.alt 6 .fin .stop) .stop) .stop) .stop) .stop))) (by kernel_rfl) (by kernel_rfl) ?_
 iterate 2
  refine A9 ?_ t0 rfl (by rfl) (fun w' hs=>?_) (fun _ _ _ h=>h) ?_
  rotate_left
  ·rw [HT.out] at hs
   have q1:=hs.1.x;have q2:=hs.1.y
   go_simp
   try rfl
  simp only [Act.put,D7,D6,D5]
 refine A5 rfl (fun K hK=>?_)
 go_simp
 refine (A03 n _).mono ?_
 rintro e w1 ⟨ad1,rfl,hb,hd1⟩
 have t1:=HTB.out _ _ t0 hb
 have HD1:=hid hd1
 clear hb hd1
 refine hK.out _ _ t1 ?_
 clear hK K
 refine A5 rfl (fun K hK=>?_)
 go_simp
 refine (A03 m _).mono ?_
 rintro e w2 ⟨ad2,rfl,hb,hd2⟩
 have t2:=HTB.out _ _ t1 hb
 have HD1b:=hid (HD1.out.below hb)
 have HD2:=hid hd2
 clear hb hd2
 refine hK.out _ _ t2 ?_
 clear hK K
 refine A5 rfl (fun K hK=>?_)
 go_simp
 have had:=B3X HD1b.out HD2.out (by simp)
 simp only [A72,EN.out,EM.out] at had
 refine had.mono ?_
 rintro e w3 ⟨ad3,rfl,hb3,l3,hd4,hl3,d3,hd3,hv3⟩
 have t3:=HTB.out _ _ t2 hb3
 have hd5:A1A w3 ad3 16 l3:=hd4
 have HD4:=hid hd5
 have HL3:=hid hl3
 have EV:Hid (A3 32 (I4 l3)=A3 32 (n+wW - m)):=by
  refine A5T 32 _ _ ?_
  rw [show (65536:Nat) ^ 16=256 ^ 32 by decide] at hv3
  have hw:wW=256 ^ 32:=A2Z
  rw [hw] at hn hm ⊢
  generalize (256:Nat) ^ 32=P at *
  have hd:d3=0∨d3=1:=by omega
  rcases hd with rfl | rfl
  ·have e1:I4 l3+P=n+P - m:=by omega
   rw [← e1,Nat.add_mod_right]
  ·have e1:I4 l3=n+P - m:=by omega
   rw [e1]
 clear hb3 hd4 hd5 had hv3 hl3
 refine hK.out _ _ t3 ?_
 clear hK K
 refine A5 rfl (fun K hK=>?_)
 go_simp
 have hwd:=A6N (c:=16) (ad:=ad3) HD4.out (by have:=HL3.out;omega)
 rw [EV.out,HL3.out] at hwd
 refine hwd.mono ?_
 rintro e w4 ⟨rfl,hb⟩
 have t4:=HTB.out _ _ t3 hb
 have hbo:=D2 32 (n+wW - m)
 clear hb hwd
 refine hK.out _ _ t4 ?_
 clear hK K
 refine J8 rfl (by simp) (fun K hK=>?_)
 go_simp
 rw [HT.out] at t4
 have t5:=t4.2
 go_simp
 refine hK.out _ _ ?_
 clear hK K
 refine C2 ?_
 have HB:=hid t4.1.below
 clear t0 t1 t2 t3 t4
 go_wp2
 refine I2 A28 rfl _ rfl rfl t5 hbo ?_
 exact ⟨rfl,HB.out.setCells (Nat.le_trans (Nat.le_succ _) (Nat.le_succ _)) _ _⟩
theorem B9A:P4 Tryz.prog 33 97 (.agg (J4 64).toArray) 64 64:=.mk' Tryz.underlying33 (by kernel_rfl) (by kernel_rfl) (by decide)
theorem B9b (ρ:Operand→Value) (dst:Option Tmp) (x y:Operand) (t:TypeId) (pos:String) (after:Array Edge) (gd:Option (Nat × Bool)) (w:World):(execOp ρ ⟨dst,.store 33 x y,t,pos,after,gd⟩).run Tryz.prog w=J9 (A0G Tryz.prog 33 (ρ x) (ρ y) w):=O3 ρ dst x y t pos after gd w (by kernel_rfl)
attribute [go_sem ↓] B9b
theorem B3M (sl:List (Nat × Nat)):Q3 (sl.length*64) (A2g sl)=true:=by
 refine A0j (B16 sl) fun v hv=>?_
 obtain ⟨p,_,hp⟩:=List.mem_flatMap.1 hv
 rcases List.mem_append.1 hp with h | h
 ·exact M9 (D2 32 p.1) v h
 ·exact M9 (D2 32 p.2) v h
structure A2V (w0 w:World) (v:Value) (ds:List (I7 × Value × Value)):Prop where
 below:Below w0.heap.size w0 w
 own:w.ownsRow w0.heap.size 35 55 v ds.length (F6 ds)
 code:∀ p∈ds,w.ownsRow w0.heap.size 5 1 p.2.1 p.1.ac.code.length (p.1.ac.code.map (Value.int .u8))
 slots:∀ p∈ds,w.ownsRow w0.heap.size 97 64 p.2.2 p.1.slots.length (A2g p.1.slots)
theorem A2V.start (w:World):A2V w w (.slice none 0 0) []:=⟨Below.refl _ _,World.ownsRow_nil _ _ _ _,fun p hp=>(by cases hp),fun p hp=>(by cases hp)⟩
theorem A2V.next {w0 w w':World} {v:Value} {ds:List (I7 × Value × Value)} (h:A2V w0 w v ds) (hb:Below w.heap.size w w'):A2V w0 w' v ds:=
 ⟨h.below.trans (hb.mono h.below.size),C3 h.own hb,fun p hp=>C3 (h.code p hp) hb,fun p hp=>C3 (h.slots p hp) hb⟩
theorem B0m {w w':World} {row:Option Nat} (hg:w.grownBy w' row):A0 (fun g=>row=some g) w w':=A0.of_grown hg
theorem A2V.app {w0 w w':World} {v v':Value} {ds:List (I7 × Value × Value)} {p:I7 × Value × Value} (h:A2V w0 w v ds) (ho:w'.ownsRow w0.heap.size 35 55 v' (ds.length+1) (F6 ds++I8 p))
  (hg:w.grownBy w' v.ownBlock) (hc:w.ownsRow w0.heap.size 5 1 p.2.1 p.1.ac.code.length (p.1.ac.code.map (Value.int .u8))) (hs:w.ownsRow w0.heap.size 97 64 p.2.2 p.1.slots.length (A2g p.1.slots)):A2V w0 w' v' (ds++[p]):=by
 have hO:=B0m hg
 have hk:∀ {e s n:Nat} {u:Value} {xs:List Value},w.ownsRow w0.heap.size e s u n xs→e≠35→w'.ownsRow w0.heap.size e s u n xs:=fun hu he=>A0.own hu hO fun g hg2 e2=>by
  rcases A0y h.own hu (fun e3=>he e3.symm) with e4 | e4
  ·rw [e4] at e2;cases e2
  ·exact e4 (by rw [e2,hg2])
 refine ⟨h.below.grown hg h.below.size (fun k hk=>(h.own.lt k hk).1),?_,fun q hq=>?_,fun q hq=>?_⟩
 ·rw [List.length_append,A12]
  have:F6 [p]=I8 p:=by simp [F6]
  rw [this];exact ho
 ·rcases List.mem_append.1 hq with hq | hq
  ·exact hk (h.code q hq) (by decide)
  ·rw [List.mem_singleton.1 hq];exact hk hc (by decide)
 ·rcases List.mem_append.1 hq with hq | hq
  ·exact hk (h.slots q hq) (by decide)
  ·rw [List.mem_singleton.1 hq];exact hk hs (by decide)
structure B5a (w:World) (v:Value) (ps:List (I7 × Value × Value)):Prop where
 form:∃ ad c,v = .slice ad ps.length c∧∀ i (hi:i < ps.length),∃ g off,ad=some ⟨g,off,none⟩∧w.row? g (off+i*55) 55=some (I8 ps[i])
 code:∀ p∈ps,(∃ a c,p.2.1 = .slice a p.1.ac.code.length c∧G9 w .u8 a c p.1.ac.code)∧p.1.ac.code.length≤1099511627776
 slots:∀ p∈ps,(∃ a c,p.2.2 = .slice a p.1.slots.length c∧G8 w a c p.1.slots.length 64 (A2g p.1.slots))∧p.1.slots.length≤1000000
 len:ps.length≤1000001
theorem B5a.next {w w':World} {v:Value} {ps:List (I7 × Value × Value)} (h:B5a w v ps) (hb:Below w.heap.size w w'):B5a w' v ps:=by
 obtain ⟨⟨ad,c,h1,h2⟩,h3,h4,h5⟩:=h
 refine ⟨⟨ad,c,h1,fun i hi=>?_⟩,fun p hp=>?_,fun p hp=>?_,h5⟩
 ·obtain ⟨g,off,e1,e2⟩:=h2 i hi
  exact ⟨g,off,e1,((C7 hb).1 _ _ _ (World.row?_lt e2)).trans e2⟩
 ·obtain ⟨⟨a,c,e1,e2⟩,e3⟩:=h3 p hp
  exact ⟨⟨a,c,e1,e2.below hb⟩,e3⟩
 ·obtain ⟨⟨a,c,e1,e2⟩,e3⟩:=h4 p hp
  exact ⟨⟨a,c,e1,e2.below hb⟩,e3⟩
theorem A7D {w:World} {own:Go.Mun.Own} {p:I7 × Value × Value} (h:X5 w own p):((∃ a c,p.2.1 = .slice a p.1.ac.code.length c∧G9 w .u8 a c p.1.ac.code)∧p.1.ac.code.length≤1099511627776)∧((∃ a c,p.2.2 = .slice a p.1.slots.length c∧G8 w a c p.1.slots.length 64 (A2g p.1.slots))∧p.1.slots.length≤1000000):=by
 obtain ⟨a,c,e1,e2,_⟩:=h.code.read
 obtain ⟨a2,c2,e3⟩:=E9 h.slots.read
 refine ⟨⟨⟨a,c,e1,e2⟩,h.code.len⟩,⟨⟨a2,c2,e3,?_⟩,h.slots.len⟩⟩
 have:=h.slots.read
 rw [e3] at this
 exact A7t this (B3M _)
theorem A49 {w:World} {own:Go.Mun.Own} {base:Nat} {v:Value} {ps:List (I7 × Value × Value)} (h:w.ownsRow base 35 55 v ps.length (F6 ps)) (hok:∀ p∈ps,X5 w own p) (hl:ps.length≤1000001):B5a w v ps:=by
 refine ⟨?_,fun p hp=>(A7D (hok p hp)).1,fun p hp=>(A7D (hok p hp)).2,hl⟩
 obtain ⟨ad,c,e⟩:=E9 h
 refine ⟨ad,c,e,fun i hi=>?_⟩
 obtain ⟨g,c',e2,_,_,_,hr,_⟩:=J5 h (by omega)
 rw [e] at e2
 cases e2
 refine ⟨g,0,rfl,?_⟩
 have h1:=World.row?_sub hr (o':=0+i*55) (n':=55) (by omega) (by omega)
 rw [h1,Nat.zero_add,Nat.sub_zero,A3t ps i hi]
theorem B2q (p:I7 × Value × Value) (u v:Value):I8 (p.1,u,v)=splice (splice (I8 p) 53 [u]) 54 [v]:=by
 unfold I8
 rw [A0H (i:=3) (s:=[p.2.1]) rfl (by simp) (by simp [Q8,A8,A4])]
 rw [A0H (i:=4) (s:=[p.2.2]) rfl (by simp) (by simp [Q8,A8,A4])]
 rfl
theorem B1F {w:World} {g o:Nat} {p:I7 × Value × Value} (h:w.row? g o 55=some (I8 p)):w.cell? ⟨g,o+53,none⟩=some p.2.1:=C8 h (i:=3) rfl (by simp [Q8,A8,A4])
theorem B1E {w:World} {g o:Nat} {p:I7 × Value × Value} (h:w.row? g o 55=some (I8 p)):w.cell? ⟨g,o+54,none⟩=some p.2.2:=C8 h (i:=4) rfl (by simp [Q8,A8,A4])
def C0Y (w:World) (ps:List (I7 × Value × Value)) (e:Ending) (w':World):Prop:=
 ∃ v ds,e = .returned v∧A2V w w' v ds∧I1 ds=I1 ps
theorem A8R {w:World} {v:Value} {ps:List (I7 × Value × Value)} (h:B5a w v ps):Calls Tryz.prog 83 #[v] w (C0Y w ps):=by
 obtain ⟨ad,cp,rfl,hrow⟩:=h.form
 obtain ⟨m,hm⟩:∃ m,m=ps.length:=⟨_,rfl⟩
 have hml:m≤1000001:=by rw [hm];exact h.len
 have HM:=hid hm
 have HS:=hid h
 have HROW:=hid hrow
 rw [← hm]
 clear h hm hrow
 go_enter Tryz.func83,Tryz.ntmps83
 go_wp2_with fail
 go_loopw [3,4] (fun u ix wr => ∃ (k:Nat) (ds:List (I7 × Value × Value)),k≤m∧ix = .int .i64 (k:Int)∧Hid (A2V w wr u ds∧I1 ds=(I1 ps).take k)) (fun _ ix _=>m - (intOf ix).toNat)
 case atStart=>exact ⟨0,[],by omega,rfl,A2V.start w,by simp [I1]⟩
 case round =>
  obtain ⟨k,ds,hk,rfl,HR⟩:=hrel
  by_cases hlt:k < m
  ·have hI:(k:Int) < m:=by omega
   have hkp:k < ps.length:=by have:=HM.out;omega
   have hdl:ds.length=k:=by
    have:=congrArg List.length HR.out.2
    simpa [I1,List.length_take,Nat.min_eq_left (Nat.le_of_lt hkp)] using this
   obtain ⟨g,off,rfl,hr0⟩:=HROW.out k hkp
   have hglt:=World.row?_lt hr0
   obtain ⟨P,hP⟩:∃ P,P=ps[k]'hkp:=⟨_,rfl⟩
   have hPm:P∈ps:=by rw [hP];exact List.getElem_mem hkp
   obtain ⟨⟨ca,cc,ecv,_⟩,hcl⟩:=HS.out.code P hPm
   obtain ⟨⟨sa,sc,esv,_⟩,hsl⟩:=HS.out.slots P hPm
   have HTK:Hid ((I1 ps).take (k+1)=(I1 ps).take k++[P.1]):=by
    have:(I1 ps)[k]? = some P.1:=by unfold I1;rw [List.getElem?_map,List.getElem?_eq_getElem hkp,hP];rfl
    show (I1 ps).take (k+1)=_
    rw [List.take_add_one,this];rfl
   have hr1:wr.row? g (off+k*55) 55=some (I8 P):=by rw [hP];exact ((C7 HR.out.1.below).1 _ _ _ hglt).trans hr0
   obtain ⟨C,hC⟩:∃ C,C=I8 P:=⟨_,rfl⟩
   have hok:Q3 55 C=true:=by
    rw [hC];unfold I8;rw [ecv,esv]
    exact A0Y (K0 _ _ _) fun s hs=>by
     simp only [Q8,List.mem_cons,List.not_mem_nil,or_false] at hs
     rcases hs with rfl | rfl | rfl | rfl | rfl
     all_goals first | rfl | (rw [C4];exact D2 _ _)
   obtain ⟨n1,hn1⟩:∃ n1,n1=P.1.ac.code.length:=⟨_,rfl⟩
   obtain ⟨n2,hn2⟩:∃ n2,n2=P.1.slots.length:=⟨_,rfl⟩
   have c53:=B1F hr1
   have c54:=B1E hr1
   rw [ecv,← hn1] at c53
   rw [esv,← hn2] at c54
   rw [← hC] at hr1
   -- the box
   obtain ⟨b,hb⟩:∃ b,b=wr.heap.size:=⟨_,rfl⟩
   have hgb:g < b:=by rw [hb];exact Nat.lt_of_lt_of_le hglt HR.out.1.below.size
   have hz:=W4
   obtain ⟨w5,e5⟩:∃ w5,w5=(wr.alloc (.cells (B8 L8).toArray 35)).setCells wr.heap.size 0 C:=⟨_,rfl⟩
   have hfz:(wr.alloc (.cells (B8 L8).toArray 35)).free? wr.heap.size 0 55=true:=World.free?_alloc_at _ _ rfl (by rw [hz];omega)
   have hb5:Below wr.heap.size wr w5:=by rw [e5];exact ((Below.refl _ _).alloc (Nat.le_refl _) _).setCells (Nat.le_refl _) _ _
   have a5:Arr w5 b 55 C:=by
    rw [e5,hb]
    exact ⟨B7 C hfz hok,by rw [World.free?_setCells'];exact hfz⟩
   have q53:w5.cell? ⟨g,off+k*55+53,none⟩=some (.slice ca n1 cc):=by rw [hb5.cell (p:=⟨g,off+k*55+53,none⟩) (by rw [← hb];exact hgb)];exact c53
   have q54:w5.cell? ⟨g,off+k*55+54,none⟩=some (.slice sa n2 sc):=by rw [hb5.cell (p:=⟨g,off+k*55+54,none⟩) (by rw [← hb];exact hgb)];exact c54
   have HI5:Hid (G9 w5 .u8 ca cc P.1.ac.code∧G8 w5 sa sc n2 64 (A2g P.1.slots)):=by
    have hx:=HS.out.next (HR.out.1.below.trans (hb5.mono HR.out.1.below.size))
    obtain ⟨⟨ca',cc',e1,i1⟩,_⟩:=hx.code P hPm
    obtain ⟨⟨sa',sc',e2,i2⟩,_⟩:=hx.slots P hPm
    rw [ecv] at e1;rw [esv] at e2
    cases e1;cases e2
    rw [hn2];exact ⟨i1,i2⟩
   have HR5:=hid (HR.out.1.next hb5)
   have HB5:=hid hb5
   have HA5:=hid a5
   have HE5:=hid e5
   have HC:=hid hC
   have HN1:=hid hn1
   have HN2:=hid hn2
   have HBS:=hid hb
   have HQ54:=hid q54
   have HESV:=hid esv
   have HECV:=hid ecv
   have hn1l:n1≤1099511627776:=by omega
   have hn2l:n2≤1000000:=by omega
   rw [e5] at q53
   clear hb5 a5 e5 c53 c54 hC hn1 hn2 hr0 hP q54 hb esv ecv
   go_wp2_with (rw [← HE5.out];rw [← HBS.out];at_builtin;go_must (refine Z0 A0n rfl _ _ rfl (World.ownsRow_nil _ _ _ _) rfl (by rw [HN1.out];exact G8.ints HI5.out.1) rfl ?c1 ?c2 ?_))
   case c1=>unfold maxLen;omega
   case c2=>omega
   intro v6 w6 hv6 ho6 hn6
   obtain ⟨a6,c6,ev6⟩:=E9 hv6
   have hb6:Below w5.heap.size w5 w6:=ho6.below (Nat.le_refl _) (fun i hi=>by simp [Value.ownBlock] at hi)
   have hsz5:=HB5.out.size
   have hv6':w6.ownsRow w.heap.size 5 1 v6 P.1.ac.code.length (P.1.ac.code.map (Value.int .u8)):=by
    have:=M7 (base:=w.heap.size) hv6 (fun g hg=>by
     have h1:=(hn6 g hg).resolve_left (by simp [Value.ownBlock])
     have h2:=HR.out.1.below.size
     omega)
    rw [HN1.out] at this
    simpa using this
   have hA6:Arr w6 b 55 C:=HA5.out.below hb6
   have hf53:=World.free?_sub hA6.free (o':=53) (n':=1) (by omega)
   have hone6:v6.oneCell'=true:=by rw [ev6];rfl
   have hA6s:=hA6.set (i:=53) (by omega) v6
   have hbl5:b < w5.heap.size:=HA5.out.lt
   have hb6w:Below wr.heap.size wr (w6.setCell ⟨b,53,none⟩ v6):=(HB5.out.trans (hb6.mono hsz5)).setCell (p:=⟨b,53,none⟩) (by rw [← HBS.out];exact Nat.le_refl _) _
   have q54:(w6.setCell ⟨b,53,none⟩ v6).cell? ⟨g,off+k*55+54,none⟩=some (.slice sa n2 sc):=by
    have h1:w6.cell? ⟨g,off+k*55+54,none⟩=some (.slice sa n2 sc):=(hb6.cell (p:=⟨g,off+k*55+54,none⟩) (by show g < w5.heap.size;omega)).trans HQ54.out
    exact (World.cell?_setCells_block (w:=w6) b 53 ⟨g,off+k*55+54,none⟩ [v6] (by show g≠b;omega)).trans h1
   have HV6:=hid hv6'
   have HW6:=hid hb6w
   have HA6:=hid hA6s
   have HEV6:=hid ev6
   have HNW6:Hid (∀ g,v6.ownBlock=some g→w5.heap.size≤g):=fun g hg=>(hn6 g hg).resolve_left (by simp [Value.ownBlock])
   obtain ⟨W7,hW7⟩:∃ W7,W7=w6.setCell ⟨b,53,none⟩ v6:=⟨_,rfl⟩
   have HW7:=hid hW7
   have HSA:Hid (G8 W7 sa sc n2 64 (A2g P.1.slots)):=by
    rw [hW7]
    have hx:=HS.out.next (HR.out.1.below.trans (hb6w.mono HR.out.1.below.size))
    obtain ⟨⟨sa',sc',e2,i2⟩,_⟩:=hx.slots P hPm
    have e3:=HESV.out
    rw [e3] at e2
    cases e2
    rw [HN2.out];exact i2
   clear hv6 ho6 hn6 hb6 hv6' hA6 hA6s hb6w ev6 hW7
   go_wp2_with (rw [← HW7.out];at_builtin;go_must (refine Z0 B9A rfl _ _ rfl (World.ownsRow_nil _ _ _ _) rfl HSA.out rfl ?e1 ?e2 ?_))
   case e1=>unfold maxLen;omega
   case e2=>omega
   intro v7 w7 hv7 ho7 hn7
   obtain ⟨a7,c7,ev7⟩:=E9 hv7
   have hb7:Below W7.heap.size W7 w7:=ho7.below (Nat.le_refl _) (fun i hi=>by simp [Value.ownBlock] at hi)
   have hW7w:Below wr.heap.size wr W7:=by rw [HW7.out];exact HW6.out
   have hv7':w7.ownsRow w.heap.size 97 64 v7 P.1.slots.length (A2g P.1.slots):=by
    have:=M7 (base:=w.heap.size) hv7 (fun g hg=>by
     have h1:=(hn7 g hg).resolve_left (by simp [Value.ownBlock])
     have h2:=HR.out.1.below.size
     have h3:=hW7w.size
     omega)
    rw [HN2.out] at this
    simpa using this
   have hA7:Arr w7 b 55 (C.set 53 v6):=Arr.below (by rw [HW7.out];exact HA6.out) hb7
   have hf54:=World.free?_sub hA7.free (o':=54) (n':=1) (by omega)
   have hone7:v7.oneCell'=true:=by rw [ev7];rfl
   have hA8:=hA7.set (i:=54) (by omega) v7
   obtain ⟨D,hD⟩:∃ D,D=I8 (P.1,v6,v7):=⟨_,rfl⟩
   have eD:(C.set 53 v6).set 54 v7=D:=by
    have hl:=K6 hok
    rw [hD,B2q,← HC.out,Z2 C 53 v6 (by omega),Z2 (C.set 53 v6) 54 v7 (by simp;omega)]
   rw [eD] at hA8
   have r8:=hA8.row
   have hDl:D.length=55:=by rw [hD];exact S5 _
   have HDK:Hid (Q3 (1*55) D=true):=by
    show _=_
    rw [hD];unfold I8
    rw [show (P.1,v6,v7).2.1=v6 from rfl,show (P.1,v6,v7).2.2=v7 from rfl,HEV6.out,ev7]
    exact A0Y (K0 _ _ _) fun s hs=>by
     simp only [Q8,List.mem_cons,List.not_mem_nil,or_false] at hs
     rcases hs with rfl | rfl | rfl | rfl | rfl
     all_goals first | rfl | (rw [C4];exact D2 _ _)
   obtain ⟨W8,hW8⟩:∃ W8,W8=w7.setCell ⟨b,54,none⟩ v7:=⟨_,rfl⟩
   have hb8:Below wr.heap.size wr W8:=by
    rw [hW8];exact (hW7w.trans (hb7.mono hW7w.size)).setCell (p:=⟨b,54,none⟩) (by rw [← HBS.out];exact Nat.le_refl _) _
   have HR8:=hid (HR.out.1.next hb8)
   -- the two new rows there
   have hbb6:∀ g,v6.ownBlock=some g→g≠b:=fun g hg e=>by
    have:=HNW6.out g hg
    have:=HA5.out.lt
    omega
   have hbb7:∀ g,v7.ownBlock=some g→g≠b:=fun g hg e=>by
    have h1:=(hn7 g hg).resolve_left (by simp [Value.ownBlock])
    have h2:b < W7.heap.size:=by rw [HW7.out];exact HA6.out.lt
    omega
   have HV6':Hid (W8.ownsRow w.heap.size 5 1 v6 P.1.ac.code.length (P.1.ac.code.map (Value.int .u8))):=by
    have h1:W7.ownsRow w.heap.size 5 1 v6 P.1.ac.code.length (P.1.ac.code.map (Value.int .u8)):=by
     rw [HW7.out];exact A0.own HV6.out (C6 w6 b 53 v6) (fun g hg e=>hbb6 g hg e)
    rw [hW8]
    exact A0.own (C3 h1 hb7) (C6 w7 b 54 v7) (fun g hg e=>hbb6 g hg e)
   have HV7':Hid (W8.ownsRow w.heap.size 97 64 v7 P.1.slots.length (A2g P.1.slots)):=by
    rw [hW8]
    exact A0.own hv7' (C6 w7 b 54 v7) (fun g hg e=>hbb7 g hg e)
   have HSZ:Hid (w7.heap.size=W8.heap.size):=by
    show _=_
    rw [hW8];simp
   have HW8:=hid hW8
   have HD:=hid hD
   have hsz8:=hb8.size
   have hszw:=HR.out.1.below.size
   clear hv7 ho7 hn7 ev7 hb7 hW7w hv7' hA7 hA8 hD hW8 hb8 hbb6 hbb7 eD q54
   go_wp2_with (rw [← HW8.out];at_builtin;go_must (refine X7 (base:=w.heap.size) (n:=ds.length) (xs:=F6 ds) A0V rfl _ _ rfl rfl rfl HR8.out.own HSZ.out HDK.out ?f1 ?f2 ?f3 ?_))
   case f1=>unfold maxLen;omega
   case f2=>omega
   case f3=>have:=hsz8;omega
   intro v9 w9 hv9 hg9 _
   have HN9:Hid (A2V w w9 v9 (ds++[(P.1,v6,v7)])∧I1 (ds++[(P.1,v6,v7)])=(I1 ps).take (k+1)):=by
    refine ⟨HR8.out.app (p:=(P.1,v6,v7)) (by rw [← HD.out];simpa [hdl] using hv9) hg9 HV6'.out HV7'.out,?_⟩
    rw [HTK.out,← HR.out.2]
    simp [I1]
   clear hv9 hg9
   go_wp2
   go_roundw
   case rel=>exact ⟨k+1,_,by omega,by go_num,HN9⟩
   case measure=>simp [intOf];omega
  ·obtain rfl:k=m:=by omega
   have hI:¬ (k:Int) < k:=by omega
   clear hlt
   go_wp2
   go_ret
   obtain ⟨h1,h2⟩:=HR.out
   exact ⟨_,ds,rfl,h1,by rw [h2];exact List.take_of_length_le (by simp [I1];have:=HM.out;omega)⟩
end Go.Proofs.YtfflppedbopdpaaGreat
