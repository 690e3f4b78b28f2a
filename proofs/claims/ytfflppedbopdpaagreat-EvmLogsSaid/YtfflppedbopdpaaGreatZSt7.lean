/- A part of the proof of EvmLogs: ZSt7. -/
import Derived.Test.YtfflppedbopdpaaGreatZSt2
set_option linter.unusedVariables false
set_option maxRecDepth 1000000
set_option maxHeartbeats 8000000
set_option linter.unusedSimpArgs false
namespace Go.Proofs.YtfflppedbopdpaaGreat
open Go.RowKit Go.Mun

theorem B18 (f:Nat→Nat) (k v old:Nat) (h:f k=old):A7w (A7w f k v) k old=f:=by
 funext j
 unfold A7w
 split
 ·rename_i e;rw [e,h]
 ·rfl
theorem B3K {sl:List (Nat × Nat)} {f:Nat→Nat} (h:A0E sl f) (k:Nat):f k < wW:=by
 rw [h.get]
 cases hg:I3 k sl with
 | none=>show 0 < wW;decide
 | some v=>exact (h.val _ (L7 hg)).2
theorem C0D (z A A' B B' C C':List Value) (o o2:Nat) (hz:z=A++(B++C)) (ha:A'.length=A.length) (ho:o=A.length) (hb:B'.length=B.length) (ho2:o2=A.length+B.length) (hc:C'.length=C.length) :
  lay (lay (lay z 0 A') o B') o2 C'=A'++(B'++C'):=by
 rw [hz,A3D _ _ _ ha]
 have h1:lay (A'++(B++C)) o B'=A'++(B'++C):=by
  rw [A18 _ _ _ (by simp;omega)]
  unfold splice
  rw [List.take_append_of_le_length (by omega),List.take_of_length_le (by omega),List.drop_append,List.drop_of_length_le (by omega),List.drop_append,List.drop_of_length_le (by omega),show o+B'.length - A'.length - B.length=0 by omega]
  simp
 rw [h1,← List.append_assoc,A6X _ _ _ _ (by simp;omega) hc,List.append_assoc]
theorem A9N {w:World} {own:Own} {sb:Nat} {S:St} {M:List (Nat × St)} {n:Nat} (h:StateAt TU w own sb S M n) (a k v:Nat) (ha:a < wA) (hk:k < wW) (hv:v < wW) (hn:n≤1099511627776) :
  Calls Tryz.prog 228 #[.pointer (some ⟨sb,0,none⟩),.agg (A3 20 a).toArray,.agg (A3 32 k).toArray,.agg (A3 32 v).toArray] w fun e w'=>e = .returned (.tuple #[])∧∃ own',StateAt TU w' own' sb (S.setSlot a k v) M (n+1)∧T6 w w' own own':=by
 obtain ⟨mb,uv,mv,last,E,U,mk,s,hM,hb1,hb2,hb3⟩:=h
 have hl0:(A3 20 a).length=20:=by simp
 have hl1:(A3 32 k).length=32:=by simp
 have hl2:(A3 32 v).length=32:=by simp
 have hb0:Below w.heap.size w (((w.alloc (.cells (A3 20 a).toArray 23)).alloc (.cells (A3 32 k).toArray 25)).alloc (.cells (A3 32 v).toArray 25)):=((((Below.refl _ _).alloc (Nat.le_refl _) _).alloc (by simp) _).alloc (by simp;omega) _)
 have HW:Hid (∃ w0,w0=(((w.alloc (.cells (A3 20 a).toArray 23)).alloc (.cells (A3 32 k).toArray 25)).alloc (.cells (A3 32 v).toArray 25))∧Below w.heap.size w w0∧(w0.row? (w.heap.size) 0 20=some (A3 20 a)∧w0.row? (w.heap.size+1) 0 32=some (A3 32 k)∧w0.row? (w.heap.size+1+1) 0 32=some (A3 32 v))∧O6 TU w0 own sb mb uv mv last E U mk S):=by
  refine ⟨_,rfl,hb0,⟨?_,?_,?_⟩,s.only (R:=fun _=>False) (A0.of_below_size hb0) (fun _ h=>h.elim)⟩
  ·rw [World.row?_alloc_lt _ (by simp;omega),World.row?_alloc_lt _ (by simp)];exact World.row?_alloc_at _ _ _ (by simp) hl0
  ·rw [World.row?_alloc_lt _ (by simp)];exact World.row?_alloc_at _ _ _ (by simp) hl1
  ·exact World.row?_alloc_at _ _ _ (by simp) hl2
 obtain ⟨w0,e0,b0,⟨r0,r1,r2⟩,s0⟩:=HW.out
 have HE0:=hid e0
 have HB0:=hid b0
 have hol0:=D4 s.low (show w.heap.size≤w.heap.size by omega)
 have HOL0:=hid hol0
 have hnl0:w.heap.size < w0.heap.size:=World.row?_lt r0
 have hol1:=D4 s.low (show w.heap.size≤w.heap.size+1 by omega)
 have HOL1:=hid hol1
 have hnl1:w.heap.size+1 < w0.heap.size:=World.row?_lt r1
 have hol2:=D4 s.low (show w.heap.size≤w.heap.size+1+1 by omega)
 have HOL2:=hid hol2
 have hnl2:w.heap.size+1+1 < w0.heap.size:=World.row?_lt r2
 have s0d:=s0.only (R:=fun _=>False) (A0.refl _ _).drew (fun _ h=>h.elim)
 have HS:=hid s0d
 have HSt:Hid (StateAt TU w0.drew own sb S M n):=⟨mb,uv,mv,last,E,U,mk,s0d,hM,hb1,hb2,hb3⟩
 have HM:=hid hM
 have HN:Hid (last≤n∧U.length≤n∧mk.length≤n∧E.length≤n+1000000):=⟨hb1,hb2,hb3⟩
 have hlay:=C0D A55 (A3 20 0) (A3 20 a) (A3 32 0) (A3 32 k) (A3 32 0) (A3 32 ((S a).slots k)) 20 52 rfl (by simp) (by simp) (by simp) (by simp) (by simp)
 have HSn:Hid ((S a).slots k < wW):=by
  rcases A3l s a with ⟨p,_,hx⟩ | ⟨_,hx⟩
  ·obtain ⟨_,_,sl,_,_,_,_,h5⟩:=hx.cells
   exact B3K h5 k
  ·show (S a).slots k < wW
   rw [hx];show 0 < wW;decide
 generalize hnn:(S a).slots k=old at *
 have HOld:=hid hnn
 clear hnn
 obtain ⟨T,hT⟩:∃ T:World→Prop,T=fun w'=>w'.row? (w.heap.size) 0 20=some (A3 20 a)∧w'.row? (w.heap.size+1) 0 32=some (A3 32 k)∧w'.row? (w.heap.size+1+1) 0 32=some (A3 32 v):=⟨_,rfl⟩
 have HT:=hid hT
 have t0:T w0.drew:=by rw [hT];exact ⟨r0,r1,r2⟩
 clear HW s hM hb1 hb2 hb3 hb0 e0 b0 s0 s0d hT hol0 hol1 hol2
 go_enter Tryz.func228,Tryz.ntmps228
 go_wp2_with fail
 rw [← HE0.out]
 refine S8 T [0,1,2,3,4,5,6,11,12] [7,8,9,10,13] (by kernel_rfl) (by kernel_rfl) t0 ?_
 refine A6 (.pointer (some ⟨sb,0,none⟩)) rfl (by rfl) (fun w' hs=>?_) (fun _ _ _ h=>h) ?_
 ·go_simp
 refine A6 (.agg (A3 20 a).toArray) rfl (by rfl) (fun w' hs=>?_) (fun _ _ _ h=>h) ?_
 ·rw [HT.out] at hs
  obtain ⟨s0,s1,s2⟩:=hs
  go_simp
 refine A6 (.agg (A3 20 a).toArray) rfl (by rfl) (fun w' hs=>?_) (fun _ _ _ h=>h) ?_
 ·rw [HT.out] at hs
  obtain ⟨s0,s1,s2⟩:=hs
  go_simp
 refine A6 (.agg (A3 32 k).toArray) rfl (by rfl) (fun w' hs=>?_) (fun _ _ _ h=>h) ?_
 ·rw [HT.out] at hs
  obtain ⟨s0,s1,s2⟩:=hs
  go_simp
 refine A6 (.pointer (some ⟨sb,0,none⟩)) rfl (by rfl) (fun w' hs=>?_) (fun _ _ _ h=>h) ?_
 ·go_simp
 refine A6 (.agg (A3 20 a).toArray) rfl (by rfl) (fun w' hs=>?_) (fun _ _ _ h=>h) ?_
 ·rw [HT.out] at hs
  obtain ⟨s0,s1,s2⟩:=hs
  go_simp
 refine A6 (.agg (A3 32 k).toArray) rfl (by rfl) (fun w' hs=>?_) (fun _ _ _ h=>h) ?_
 ·rw [HT.out] at hs
  obtain ⟨s0,s1,s2⟩:=hs
  go_simp
 refine A6 (.agg (A3 32 k).toArray) rfl (by rfl) (fun w' hs=>?_) (fun _ _ _ h=>h) ?_
 ·rw [HT.out] at hs
  obtain ⟨s0,s1,s2⟩:=hs
  go_simp
 refine A6 (.agg (A3 32 v).toArray) rfl (by rfl) (fun w' hs=>?_) (fun _ _ _ h=>h) ?_
 ·rw [HT.out] at hs
  obtain ⟨s0,s1,s2⟩:=hs
  go_simp
 refine P5 ?_
 simp only [Act.put,D7,D6,D5]
 refine C5 rfl (fun K hK=>?_)
 go_simp
 refine (A7p HSt.out a k ha hk).mono ?_
 rintro e w1 ⟨rfl,hb⟩
 rw [HOld.out]
 have o1:A0 (fun _=>False) w0.drew w1:=A0.of_below_size hb
 have t1:T w1:=by rw [HT.out] at t0 ⊢;exact ⟨(o1.row? hnl0 id).trans t0.1,(o1.row? hnl1 id).trans t0.2.1,(o1.row? hnl2 id).trans t0.2.2⟩
 have HS1:=hid (HS.out.only o1 (fun _ h=>h.elim))
 have HB1:Hid (Below w.heap.size w w1):=(HB0.out.drew).trans (hb.mono HB0.out.size)
 clear hb o1
 refine hK.out _ _ t1 ?_
 clear hK K
 refine C5 rfl (fun K hK=>?_)
 go_simp
 refine hK.out _ _ t1 ?_
 clear hK K
 refine C5 rfl (fun K hK=>?_)
 go_simp
 refine hK.out _ _ t1 ?_
 clear hK K
 refine C5 rfl (fun K hK=>?_)
 go_simp
 refine (A6F HS1.out.toStaCore a ha (.slot a k old) ⟨ha,hk,HSn.out⟩ (by have:=HN.out;omega)).mono ?_
 rintro e w2 ⟨p,uv2,E2,own2,rfl,s2,hp,hx,hE,g2⟩
 have hlt0:w.heap.size < w1.heap.size:=by rw [HT.out] at t1;exact World.row?_lt t1.1
 have hlt1:w.heap.size+1 < w1.heap.size:=by rw [HT.out] at t1;exact World.row?_lt t1.2.1
 have hlt2:w.heap.size+1+1 < w1.heap.size:=by rw [HT.out] at t1;exact World.row?_lt t1.2.2
 have t2:T w2:=by rw [HT.out] at t1 ⊢;exact ⟨K5 t1.1 HOL0.out g2,K5 t1.2.1 HOL1.out g2,K5 t1.2.2 HOL2.out g2⟩
 have hnd:=A2v (U:=U) HS1.out.nodup (fun q hq=>HS1.out.low q (by rw [HS1.out.ptr_lab q hq];simp)) hE J7
 have hnd2:(E2.map Prod.snd++M8 (A0g mk (.slot a k old) U)).Nodup:=by rw [show M8 (A0g mk (.slot a k old) U)=M8 U by unfold A0g;split <;> rfl];exact hnd
 have HCl:Hid (∀ wm w3 own3 x R,A0 (fun _=>False) w2 wm→own2.le own3→(∀ b,own3 b≠none→b < wm.heap.size)→(∀ b,b < w2.heap.size→own3 b=own2 b)→L5 w3 own3 p x→A0 R wm w3 →
   (∀ b,R b→b=p∨own3 b=some (.smap p)∨own3 b=none)→(∀ b,R b→b < w2.heap.size→own2 b≠none)→A20 (Z9 S a x) (.slot a k old)=S→StateAt TU w3 own3 sb (Z9 S a x) M (n+1)∧T6 w w3 own own3):=by
  intro wm w3 own3 x R hom hle hlow hext hx' ho hR hRo hu
  have s3:=A7o ((s2.only hom (fun _ h=>h.elim)).le hle hlow) hnd2 s2.map.nodup hp ho hR hx'
  exact ⟨A6E HS1.out HM.out HN.out hE hp rfl (by simp) (by simp) hu s3,((T6.below own HB1.out).trans g2).trans ⟨hext,(hom.mono (fun _ h=>h.elim)).trans ho fun i hi hlt=>hRo i hi hlt⟩⟩
 have HX:=hid hx
 have HG2:=hid g2
 have HLow2:=hid s2.low
 have hpl:own2 p=some .acc:=hx.lab
 have hpw0:¬ w.heap.size=p:=fun e=>by
  have:=g2.ext (w.heap.size) hlt0
  rw [HOL0.out,e,hpl] at this;cases this
 have hpw1:¬ w.heap.size+1=p:=fun e=>by
  have:=g2.ext (w.heap.size+1) hlt1
  rw [HOL1.out,e,hpl] at this;cases this
 have hpw2:¬ w.heap.size+1+1=p:=fun e=>by
  have:=g2.ext (w.heap.size+1+1) hlt2
  rw [HOL2.out,e,hpl] at this;cases this
 clear s2 hp hx hE g2 hnd hnd2
 refine hK.out _ _ t2 ?_
 clear hK K
 refine C5 rfl (fun K hK=>?_)
 go_simp
 refine (B1O HX.out k v hk hv).mono ?_
 rintro e w3 ⟨rfl,hx',ho⟩
 obtain ⟨c1,c2⟩:=HCl.out w2 w3 own2 _ _ (A0.refl _ _) (fun _ _ h=>h) HLow2.out (fun _ _=>rfl) hx' ho (fun b hb => .inr (.inl hb)) (fun b hb _=>by rw [hb];simp) (by
  simp only [A20,St.setSlot,A1a,B0V];rw [B18 _ _ _ _ HOld.out];exact A8j S a)
 have t3:T w3:=by rw [HT.out] at t2 ⊢;exact ⟨K5 t2.1 (HG2.out.ext _ hlt0 ▸ HOL0.out) ⟨fun _ _=>rfl,ho.mono fun b hb=>by rw [hb];simp⟩,K5 t2.2.1 (HG2.out.ext _ hlt1 ▸ HOL1.out) ⟨fun _ _=>rfl,ho.mono fun b hb=>by rw [hb];simp⟩,K5 t2.2.2 (HG2.out.ext _ hlt2 ▸ HOL2.out) ⟨fun _ _=>rfl,ho.mono fun b hb=>by rw [hb];simp⟩⟩
 have HA:Hid (∃ own',StateAt TU w3 own' sb (S.setSlot a k v) M (n+1)∧T6 w w3 own own'):=⟨own2,c1,c2⟩
 clear hx' ho c1 c2
 refine hK.out _ _ t3 (V4 ?_)
 clear hK K
 go_wp2
 go_end0
 exact ⟨rfl,HA.out⟩
end Go.Proofs.YtfflppedbopdpaaGreat
