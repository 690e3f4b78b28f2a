/- A part of the proof of EvmLoops: XEv12. -/
import Derived.Test.YtfflppedbopdpaaGreatXEv9
set_option linter.unusedVariables false
set_option maxRecDepth 1000000
set_option maxHeartbeats 8000000
set_option linter.unusedSimpArgs false
namespace Go.Proofs.YtfflppedbopdpaaGreat
open Go.RowKit Go.Mun

theorem StateAt.nonce {w:World} {own:Own} {sb:Nat} {S:St} {M:List (Nat × St)} {n:Nat} (h:StateAt TU w own sb S M n) (a:Nat):(S a).nonce≤9223372036854775807:=by
 obtain ⟨mb,uv,mv,last,E,U,mk,h,_⟩:=h
 cases e:E6 a E with
 | none=>rw [h.out a e];exact Nat.zero_le _
 | some p=>exact (h.acc (a,p) (K6 e)).nonce
structure B5b (w0 w:World) (own:Own) (sb rb:Nat) (S:St) (M:List (Nat × St)) (n:Nat) (m:Msg) (dv:Value):Prop where
 row:w.row? w0.heap.size 0 129=some (B7 (I2 m dv))
 sp:w.cell? ⟨rb,0,none⟩=some (.pointer (some ⟨sb,0,none⟩))
 st:StateAt TU w own sb S M n
 below:Below w0.heap.size w0 w
theorem B5b.next {w0 w w':World} {own:Own} {sb rb:Nat} {S:St} {M:List (Nat × St)} {n:Nat} {m:Msg} {dv:Value} (h:B5b w0 w own sb rb S M n m dv) (hb:Below w.heap.size w w'):B5b w0 w' own sb rb S M n m dv:=
 ⟨((D2 hb).1 _ _ _ (World.row?_lt h.row)).trans h.row,(hb.cell (World.block_lt_of_cell? w _ h.sp)).trans h.sp,h.st.below hb,h.below.trans (hb.mono h.below.size)⟩
theorem A5D (m:Msg) (dv:Value):(B7 (I2 m dv))[127]'(by rw [N4];omega) = .int .i64 m.depth:=by
 have h:(B7 (I2 m dv))[127]? = some (.int .i64 m.depth):=by
  have hs:=Y9 (l:=I2 m dv) (i:=8) rfl
  have h1:(B7 ((I2 m dv).take 8)).length=127:=by simp [I2,I0,N8]
  rw [hs,List.getElem?_append_right (by omega),h1];rfl
 have h2:=List.getElem?_eq_some_iff.1 h
 exact h2.2
theorem B4l {w:World} {own:Own} {sb rb tb:Nat} {cx:Ctx} {tab:Z7} {S:St} {M:List (Nat × St)} {n:Nat} {m:Msg} {dv:Value} (hst:StateAt TU w own sb S M n) (hr:A0j w own sb rb tb cx tab) (hm:A14 m) (hk:m.kind=0) (hd:m.depth≤64) (hv:¬ (S m.frm).bal < m.value) :
  Calls Tryz.prog 156 #[.pointer (some ⟨rb,0,none⟩),.agg (B7 (I2 m dv)).toArray] w fun e w'=>e = .returned (.int .i64 (0))∧Below w.heap.size w w':=by
 have hml:=N4 m dv
 obtain ⟨w1,e1⟩:∃ w1,w1=w.alloc (.cells (B7 (I2 m dv)).toArray 37):=⟨_,rfl⟩
 have hb1:Below w.heap.size w w1:=by rw [e1];exact (Below.refl _ _).alloc (Nat.le_refl _) _
 have hr1:w1.row? w.heap.size 0 129=some (B7 (I2 m dv)):=by rw [e1];exact World.row?_alloc_at _ _ _ rfl hml
 have t0:B5b w w1 own sb rb S M n m dv:=⟨hr1,(hr.chg (T6.below own hb1)).sp,hst.below hb1,hb1⟩
 have hnn:=StateAt.nonce hst m.frm
 have hbb:=hst.bal m.frm
 have c0:(B7 (I2 m dv))[0]'(by rw [hml];omega) = .int .i64 m.kind:=rfl
 have c1:=A5D m dv
 have HT0:=hid t0
 have HE:=hid e1
 have hfa:=hm.frm
 have hva:=hm.value
 clear hst hr e1 hb1 hr1 hm
 rw [hk] at c0
 have HM:Hid (∀ w,Calls Tryz.prog 158 #[.agg (B7 (I2 m dv)).toArray] w fun e w'=>e = .returned (.bool false)∧Below w.heap.size w w'):=fun w=>by have:=A66 m dv w;rw [show decide (m.kind=3∨m.kind=4)=false by rw [hk];decide] at this;exact this
 obtain ⟨T,hT⟩:∃ T:World→Prop,T=fun w'=>B5b w w' own sb rb S M n m dv:=⟨_,rfl⟩
 have HT:=hid hT
 have tb:∀ w2 w3,T w2→Below w2.heap.size w2 w3→T w3:=by rw [hT];intro w2 w3 h hb;exact h.next hb
 have HTB:=hid tb
 have ts:∀ w2,T w2→StateAt TU w2 own sb S M n:=by rw [hT];intro w2 h;exact h.st
 have HTS:=hid ts
 have tg:∀ w2,T w2→Below w.heap.size w w2:=by rw [hT];intro w2 h;exact h.below
 have HTG:=hid tg
 have tt:T w1:=by rw [hT];exact HT0.out
 clear hT tb ts tg t0 HT0
 have hdI:decide ((64:Int) < m.depth)=false:=decide_eq_false (by omega)
 have hcn:¬ T5 (S m.frm).bal m.value < 0:=A4X hv
 have hdc:decide (T5 (S m.frm).bal m.value < 0)=false:=decide_eq_false hcn
 go_enter Tryz.func156,Tryz.ntmps156
 go_wp2_with fail
 rw [← HE.out]
 have t3:T w1.drew:=HTB.out _ _ tt (Below.refl _ _).drew
 clear tt
 refine A6 T [] (.pure 0 (.pure 1 (.pure 2 (.pure 3 (.pure 4 (.take 5 (.pure 6 (.take 7 (.pure 9 (.take 10 (.alt 8 (.alt 11 (.pure 12 (.pure 13 (.pure 14 .fin))) .stop) .stop))))))))))) (by kernel_rfl) (by kernel_rfl) ?_
 iterate 10
  first
  |refine A0 ?_ rfl (by rfl) (fun w' hs=>?_) (fun _ _ _ h=>h) ?_
   rotate_left
   ·clear hs
    go_simp
    try rfl
   simp only [Act.put,D6,D5,D4]
  |refine A9 ?_ t3 rfl (by rfl) (fun w' hs=>?_) (fun _ _ _ h=>h) ?_
   rotate_left
   ·rw [HT.out] at hs
    have q0:=hs.sp;have q1:=A4T hs.row;have q2:=A1U hs.row;simp only [Nat.zero_add] at q1 q2
    go_simp
    try rfl
   simp only [Act.put,D6,D5,D4]
 refine A8 rfl (fun K hK=>?_)
 go_simp
 refine (A0z (HTS.out _ t3) m.frm hfa).mono ?_
 rintro e w4 ⟨rfl,hb⟩
 have t4:T w4:=HTB.out _ _ t3 hb
 clear hb t3
 refine hK.out _ _ t4 ?_
 clear hK K
 refine A8 rfl (fun K hK=>?_)
 go_simp
 refine (A47 _ m.value hbb hva _).mono ?_
 rintro e w5 ⟨rfl,hb⟩
 have t5:T w5:=HTB.out _ _ t4 hb
 clear hb t4
 refine hK.out _ _ t5 ?_
 clear hK K
 iterate 3
  refine A0 ?_ rfl (by rfl) (fun w' hs=>?_) (fun _ _ _ h=>h) ?_
  rotate_left
  ·clear hs
   go_simp
   try rfl
  simp only [Act.put,D6,D5,D4]
 refine C3 ?_
 go_wp2_with fail
 have t6:T w5.drew:=HTB.out _ _ t5 (Below.refl _ _).drew
 clear t5
 refine A6 T [] (.take 0 (.alt 1 (.pure 2 (.take 3 (.take 4 (.take 5 (.take 6 (.take 7 (.take 8 (.take 9 (.take 10 (.pure 11 (.pure 12 .fin))))))))))) .stop)) (by kernel_rfl) (by kernel_rfl) ?_
 refine A9 ?_ t6 rfl (by rfl) (fun w' hs=>?_) (fun _ _ _ h=>h) ?_
 rotate_left
 ·rw [HT.out] at hs
  have q0:=hs.row
  go_simp
  try rfl
 simp only [Act.put,D6,D5,D4]
 refine A8 rfl (fun K hK=>?_)
 go_simp
 refine (HM.out _).mono ?_
 rintro e w7 ⟨rfl,hb⟩
 have t7:T w7:=HTB.out _ _ t6 hb
 clear hb t6
 refine hK.out _ _ t7 ?_
 clear hK K
 refine A0 ?_ rfl (by rfl) (fun w' hs=>?_) (fun _ _ _ h=>h) ?_
 rotate_left
 ·clear hs
  go_simp
  try rfl
 simp only [Act.put,D6,D5,D4]
 iterate 8
  refine A2G t7 rfl (by rfl) (fun _ _ _ h=>h) ?_
  simp only [Act.put,D6,D5,D4]
 iterate 2
  refine A0 ?_ rfl (by rfl) (fun w' hs=>?_) (fun _ _ _ h=>h) ?_
  rotate_left
  ·clear hs
   go_simp
   try rfl
  simp only [Act.put,D6,D5,D4]
 refine C3 ?_
 go_wp2
 go_ret
 exact ⟨rfl,HTG.out _ t7⟩
theorem K8.chg {w w':World} {own own':Own} {v:Value} {l:V1} (h:K8 w (fun b=>own b≠none) v l) (g:T6 w w' own own'):K8 w' (fun b=>own' b≠none) v l:=
 h.only g.only (fun _ h=>h) (fun b hb hx=>by rw [← g.ext b hb];exact hx)
structure A06 (w0:World) (own0:Own) (sb rb tb:Nat) (cx:Ctx) (tab:Z7) (m:Msg) (dv:Value) (w:World) (own:Own) (S:St) (M:List (Nat × St)) (n:Nat):Prop where
 row:w.row? w0.heap.size 0 129=some (B7 (I2 m dv))
 res:w.free? (w0.heap.size+1) 0 24=true
 o1:own w0.heap.size=none
 o2:own (w0.heap.size+1)=none
 run0:A0j w0 own0 sb rb tb cx tab
 st:StateAt TU w own sb S M n
 chg:T6 w0 w own0 own
 data0:K8 w0 (fun b=>own0 b≠none) dv m.data
theorem A06.run {w0:World} {own0:Own} {sb rb tb:Nat} {cx:Ctx} {tab:Z7} {m:Msg} {dv:Value} {w:World} {own:Own} {S:St} {M:List (Nat × St)} {n:Nat} (h:A06 w0 own0 sb rb tb cx tab m dv w own S M n):A0j w own sb rb tb cx tab:=h.run0.chg h.chg
theorem A06.data {w0:World} {own0:Own} {sb rb tb:Nat} {cx:Ctx} {tab:Z7} {m:Msg} {dv:Value} {w:World} {own:Own} {S:St} {M:List (Nat × St)} {n:Nat} (h:A06 w0 own0 sb rb tb cx tab m dv w own S M n):K8 w (fun b=>own b≠none) dv m.data:=h.data0.chg h.chg
theorem A06.box {w0:World} {own0:Own} {sb rb tb:Nat} {cx:Ctx} {tab:Z7} {m:Msg} {dv:Value} {w:World} {own:Own} {S:St} {M:List (Nat × St)} {n:Nat} (h:A06 w0 own0 sb rb tb cx tab m dv w own S M n) {w':World} {b:Nat} (hb:w0.heap.size+1 < b) (ho:own b=none) (h1:A2 (· = b) w w'):A06 w0 own0 sb rb tb cx tab m dv w' own S M n:=
 ⟨by rw [h1.row? (World.row?_lt h.row) (by omega)];exact h.row,by rw [h1.free? (C4 h.res) (by omega)];exact h.res,h.o1,h.o2,h.run0,h.st.only h1 (fun c hc=>by rw [hc];exact ho),⟨h.chg.ext,h.chg.only.trans h1 (fun i hi he=>by have:i=b:=hi;omega)⟩,h.data0⟩
theorem A06.go {w0:World} {own0:Own} {sb rb tb:Nat} {cx:Ctx} {tab:Z7} {m:Msg} {dv:Value} {w:World} {own:Own} {S:St} {M:List (Nat × St)} {n:Nat} (h:A06 w0 own0 sb rb tb cx tab m dv w own S M n)
  {w':World} {own':Own} {S':St} {M':List (Nat × St)} {n':Nat} (g:T6 w w' own own') (hs:StateAt TU w' own' sb S' M' n'):A06 w0 own0 sb rb tb cx tab m dv w' own' S' M' n':=by
 have h1:=World.row?_lt h.row
 have h2:=C4 h.res
 exact ⟨K7 h.row h.o1 g,by rw [g.only.free? h2 (fun hh=>hh h.o2)];exact h.res,by rw [g.ext _ h1];exact h.o1,by rw [g.ext _ h2];exact h.o2,h.run0,hs,h.chg.trans g,h.data0⟩
theorem A06.below {w0:World} {own0:Own} {sb rb tb:Nat} {cx:Ctx} {tab:Z7} {m:Msg} {dv:Value} {w:World} {own:Own} {S:St} {M:List (Nat × St)} {n:Nat} (h:A06 w0 own0 sb rb tb cx tab m dv w own S M n)
  {w':World} (hb:Below w.heap.size w w'):A06 w0 own0 sb rb tb cx tab m dv w' own S M n:=h.go (T6.below own hb) (h.st.below hb)
theorem A7a {w:World} {own:Own} {sb rb tb:Nat} {cx:Ctx} {tab:Z7} {m:Msg} {dv:Value} {S:St} {M:List (Nat × St)} {n:Nat} (hst:StateAt TU w own sb S M n) (hr:A0j w own sb rb tb cx tab) (hd:K8 w (fun b=>own b≠none) dv m.data) :
  A06 w own sb rb tb cx tab m dv ((w.alloc (.cells (B7 (I2 m dv)).toArray 37)).alloc (.cells (B7 K9).toArray 41)) own S M n:=by
 have hb:Below w.heap.size w ((w.alloc (.cells (B7 (I2 m dv)).toArray 37)).alloc (.cells (B7 K9).toArray 41)):=((Below.refl _ _).alloc (Nat.le_refl _) _).alloc (by simp) _
 have g:=T6.below own hb
 refine ⟨?_,?_,E4 hst.lows (Nat.le_refl _),E4 hst.lows (Nat.le_succ _),hr,hst.below hb,g,hd⟩
 ·rw [World.row?_alloc_lt _ (by simp)];exact World.row?_alloc_at _ _ _ rfl (N4 m dv)
 ·exact World.free?_alloc_at _ _ (by simp) (by rw [J8];omega)
theorem B1B {w w':World} {own:Own} {v:Value} {l:V1} (h:A8c w w' v l) (hl:∀ b,own b≠none→b < w.heap.size) (hb:Byt l) (hn:l.length≤1099511627776):K8 w' (fun b=>own b≠none) v l:=by
 obtain ⟨⟨a,c,h1,h2,h3⟩,_⟩:=h
 exact ⟨⟨a,c,h1,h2,fun _ p hp hx=>by have:=h3 p hp;have:=hl _ hx;omega⟩,hb,hn⟩
theorem StateAt.code {w:World} {own:Own} {sb:Nat} {S:St} {M:List (Nat × St)} {n:Nat} (h:StateAt TU w own sb S M n) (a:Nat):Byt (S a).code∧(S a).code.length≤1099511627776:=by
 obtain ⟨mb,uv,mv,last,E,U,mk,h,_⟩:=h
 cases e:E6 a E with
 | none=>rw [h.out a e];exact ⟨fun x hx=>by simp [Acc.none] at hx,Nat.zero_le _⟩
 | some p =>
  obtain ⟨cv,q,sl,_,h2,_⟩:=(h.acc (a,p) (K6 e)).cells
  exact ⟨h2.byte,h2.len⟩
theorem A86 (m:Msg) (dv:Value):(B7 (I2 m dv))[126]'(by rw [N4];omega) = .int .i64 m.gas:=by
 have h:(B7 (I2 m dv))[126]? = some (.int .i64 m.gas):=by
  have hs:=Y9 (l:=I2 m dv) (i:=7) rfl
  have h1:(B7 ((I2 m dv).take 7)).length=126:=by simp [I2,I0,N8]
  rw [hs,List.getElem?_append_right (by omega),h1];rfl
 exact (List.getElem?_eq_some_iff.1 h).2
def A2o (tab:Z7):Prop:=∀ e∈A5g,A7h tab e
theorem B6i:A1x A4r = [1,43,1]:=by kernel_rfl
theorem B4Y (sb tb:Nat) (cx:Ctx):I1 45 (O7 A4r) (B7 A4r) [(0,.pointer (some ⟨sb,0,none⟩)),(1,.agg (B7 (A1y cx)).toArray),(2,.map (some tb))]=some (B7 (A5m sb tb cx)):=by
 rw [G7 _ _ _ A6B]
 ·rfl
 ·rw [B6i]
  refine C1 rfl (C1 ?_ (C1 rfl (L4 _)))
  show some 43=some (B7 (A1y cx)).length
  rw [A10]
theorem B2v {w w1 w2:World} {own:Own} {sb tb:Nat} {cx:Ctx} (hl:∀ b,own b≠none→b < w.heap.size) (h1:Below w.heap.size w w1) (h:A0e w1 w2 tb A5g) :
  ∃ tab,A2o tab∧Below w1.heap.size w1 w2∧A0j (w2.alloc (.cells (B7 (A5m sb tb cx)).toArray 103)) own sb w2.heap.size tb cx tab:=by
 obtain ⟨tab,h2,h3,h4,h5,h6,_⟩:=h
 have hs1:=h1.size
 have hs2:=h2.size
 have hb:Below w2.heap.size w2 (w2.alloc (.cells (B7 (A5m sb tb cx)).toArray 103)):=(Below.refl _ _).alloc (Nat.le_refl _) _
 refine ⟨tab,h6,h2,World.row?_alloc_at _ _ _ rfl (A8N _ _ _),E4 hl (by omega),h4.below hb,E4 hl (by omega),fun q hq=>?_⟩
 obtain ⟨k1,k2,k3⟩:=h5 q hq
 exact ⟨by rw [hb.cell (World.block_lt_of_cell? w2 _ k1)];exact k1,E4 hl (by omega)⟩
attribute [local irreducible] A0e
end Go.Proofs.YtfflppedbopdpaaGreat
