/- A part of the proof of EvmLogs: ZEv12. -/
import Derived.Test.YtfflppedbopdpaaGreatZEv9
set_option linter.unusedVariables false
set_option maxRecDepth 1000000
set_option maxHeartbeats 8000000
set_option linter.unusedSimpArgs false
namespace Go.Proofs.YtfflppedbopdpaaGreat
open Go.RowKit Go.Mun

theorem StateAt.nonce {w:World} {own:Own} {sb:Nat} {S:St} {M:List (Nat × St)} {n:Nat} (h:StateAt TU w own sb S M n) (a:Nat):(S a).nonce≤9223372036854775807:=by
 obtain ⟨mb,uv,mv,last,E,U,mk,h,_⟩:=h
 cases e:I3 a E with
 | none=>rw [h.out a e];exact Nat.zero_le _
 | some p=>exact (h.acc (a,p) (L7 e)).nonce
structure B5d (w0 w:World) (own:Own) (sb rb:Nat) (S:St) (M:List (Nat × St)) (n:Nat) (m:Msg) (dv:Value):Prop where
 row:w.row? w0.heap.size 0 129=some (B8 (I0 m dv))
 sp:w.cell? ⟨rb,0,none⟩=some (.pointer (some ⟨sb,0,none⟩))
 st:StateAt TU w own sb S M n
 below:Below w0.heap.size w0 w
theorem B5d.next {w0 w w':World} {own:Own} {sb rb:Nat} {S:St} {M:List (Nat × St)} {n:Nat} {m:Msg} {dv:Value} (h:B5d w0 w own sb rb S M n m dv) (hb:Below w.heap.size w w'):B5d w0 w' own sb rb S M n m dv:=
 ⟨((C7 hb).1 _ _ _ (World.row?_lt h.row)).trans h.row,(hb.cell (World.block_lt_of_cell? w _ h.sp)).trans h.sp,h.st.below hb,h.below.trans (hb.mono h.below.size)⟩
theorem A5q (m:Msg) (dv:Value):(B8 (I0 m dv))[127]'(by rw [N4];omega) = .int .i64 m.depth:=by
 have h:(B8 (I0 m dv))[127]? = some (.int .i64 m.depth):=by
  have hs:=X9 (l:=I0 m dv) (i:=8) rfl
  have h1:(B8 ((I0 m dv).take 8)).length=127:=by simp [I0,G7,N9]
  rw [hs,List.getElem?_append_right (by omega),h1];rfl
 have h2:=List.getElem?_eq_some_iff.1 h
 exact h2.2
theorem B4l {w:World} {own:Own} {sb rb tb:Nat} {cx:Ctx} {tab:Y2} {S:St} {M:List (Nat × St)} {n:Nat} {m:Msg} {dv:Value} (hst:StateAt TU w own sb S M n) (hr:A0p w own sb rb tb cx tab) (hm:A1X m) (hk:m.kind=0) (hd:m.depth≤64) (hv:¬ (S m.frm).bal < m.value) :
  Calls Tryz.prog 156 #[.pointer (some ⟨rb,0,none⟩),.agg (B8 (I0 m dv)).toArray] w fun e w'=>e = .returned (.int .i64 (0))∧Below w.heap.size w w':=by
 have hml:=N4 m dv
 obtain ⟨w1,e1⟩:∃ w1,w1=w.alloc (.cells (B8 (I0 m dv)).toArray 37):=⟨_,rfl⟩
 have hb1:Below w.heap.size w w1:=by rw [e1];exact (Below.refl _ _).alloc (Nat.le_refl _) _
 have hr1:w1.row? w.heap.size 0 129=some (B8 (I0 m dv)):=by rw [e1];exact World.row?_alloc_at _ _ _ rfl hml
 have t0:B5d w w1 own sb rb S M n m dv:=⟨hr1,(hr.chg (T6.below own hb1)).sp,hst.below hb1,hb1⟩
 have hnn:=StateAt.nonce hst m.frm
 have hbb:=hst.bal m.frm
 have c0:(B8 (I0 m dv))[0]'(by rw [hml];omega) = .int .i64 m.kind:=rfl
 have c1:=A5q m dv
 have HT0:=hid t0
 have HE:=hid e1
 have hfa:=hm.frm
 have hva:=hm.value
 clear hst hr e1 hb1 hr1 hm
 rw [hk] at c0
 have HM:Hid (∀ w,Calls Tryz.prog 158 #[.agg (B8 (I0 m dv)).toArray] w fun e w'=>e = .returned (.bool false)∧Below w.heap.size w w'):=fun w=>by have:=A69 m dv w;rw [show decide (m.kind=3∨m.kind=4)=false by rw [hk];decide] at this;exact this
 obtain ⟨T,hT⟩:∃ T:World→Prop,T=fun w'=>B5d w w' own sb rb S M n m dv:=⟨_,rfl⟩
 have HT:=hid hT
 have tb:∀ w2 w3,T w2→Below w2.heap.size w2 w3→T w3:=by rw [hT];intro w2 w3 h hb;exact h.next hb
 have HTB:=hid tb
 have ts:∀ w2,T w2→StateAt TU w2 own sb S M n:=by rw [hT];intro w2 h;exact h.st
 have HTS:=hid ts
 have tg:∀ w2,T w2→Below w.heap.size w w2:=by rw [hT];intro w2 h;exact h.below
 have HTG:=hid tg
 have tt:T w1:=by rw [hT];exact HT0.out
 clear hT tb ts tg t0 HT0
 have hdI:decide ((64:Int) < m.depth)=false:=decide_eq_false (by omega)
 have hcn:¬ T5 (S m.frm).bal m.value < 0:=A4S hv
 have hdc:decide (T5 (S m.frm).bal m.value < 0)=false:=decide_eq_false hcn
 go_enter Tryz.func156,Tryz.ntmps156
 go_wp2_with fail
 rw [← HE.out]
 have t3:T w1.drew:=HTB.out _ _ tt (Below.refl _ _).drew
 clear tt
 refine A7 T [] (.pure 0 (.pure 1 (.pure 2 (.pure 3 (.pure 4 (.take 5 (.pure 6 (.take 7 (.pure 9 (.take 10 (.alt 8 (.alt 11 (.pure 12 (.pure 13 (.pure 14 .fin))) .stop) .stop))))))))))) (by kernel_rfl) (by kernel_rfl) ?_
 iterate 10
  first
  |refine A2 ?_ rfl (by rfl) (fun w' hs=>?_) (fun _ _ _ h=>h) ?_
   rotate_left
   ·clear hs
    go_simp
    try rfl
   simp only [Act.put,D7,D6,D5]
  |refine A9 ?_ t3 rfl (by rfl) (fun w' hs=>?_) (fun _ _ _ h=>h) ?_
   rotate_left
   ·rw [HT.out] at hs
    have q0:=hs.sp;have q1:=A4O hs.row;have q2:=A1L hs.row;simp only [Nat.zero_add] at q1 q2
    go_simp
    try rfl
   simp only [Act.put,D7,D6,D5]
 refine A5 rfl (fun K hK=>?_)
 go_simp
 refine (A0v (HTS.out _ t3) m.frm hfa).mono ?_
 rintro e w4 ⟨rfl,hb⟩
 have t4:T w4:=HTB.out _ _ t3 hb
 clear hb t3
 refine hK.out _ _ t4 ?_
 clear hK K
 refine A5 rfl (fun K hK=>?_)
 go_simp
 refine (A41 _ m.value hbb hva _).mono ?_
 rintro e w5 ⟨rfl,hb⟩
 have t5:T w5:=HTB.out _ _ t4 hb
 clear hb t4
 refine hK.out _ _ t5 ?_
 clear hK K
 iterate 3
  refine A2 ?_ rfl (by rfl) (fun w' hs=>?_) (fun _ _ _ h=>h) ?_
  rotate_left
  ·clear hs
   go_simp
   try rfl
  simp only [Act.put,D7,D6,D5]
 refine C2 ?_
 go_wp2_with fail
 have t6:T w5.drew:=HTB.out _ _ t5 (Below.refl _ _).drew
 clear t5
 refine A7 T [] (.take 0 (.alt 1 (.pure 2 (.take 3 (.take 4 (.take 5 (.take 6 (.take 7 (.take 8 (.take 9 (.take 10 (.pure 11 (.pure 12 .fin))))))))))) .stop)) (by kernel_rfl) (by kernel_rfl) ?_
 refine A9 ?_ t6 rfl (by rfl) (fun w' hs=>?_) (fun _ _ _ h=>h) ?_
 rotate_left
 ·rw [HT.out] at hs
  have q0:=hs.row
  go_simp
  try rfl
 simp only [Act.put,D7,D6,D5]
 refine A5 rfl (fun K hK=>?_)
 go_simp
 refine (HM.out _).mono ?_
 rintro e w7 ⟨rfl,hb⟩
 have t7:T w7:=HTB.out _ _ t6 hb
 clear hb t6
 refine hK.out _ _ t7 ?_
 clear hK K
 refine A2 ?_ rfl (by rfl) (fun w' hs=>?_) (fun _ _ _ h=>h) ?_
 rotate_left
 ·clear hs
  go_simp
  try rfl
 simp only [Act.put,D7,D6,D5]
 iterate 8
  refine A6A t7 rfl (by rfl) (fun _ _ _ h=>h) ?_
  simp only [Act.put,D7,D6,D5]
 iterate 2
  refine A2 ?_ rfl (by rfl) (fun w' hs=>?_) (fun _ _ _ h=>h) ?_
  rotate_left
  ·clear hs
   go_simp
   try rfl
  simp only [Act.put,D7,D6,D5]
 refine C2 ?_
 go_wp2
 go_ret
 exact ⟨rfl,HTG.out _ t7⟩
theorem J3.chg {w w':World} {own own':Own} {v:Value} {l:J1} (h:J3 w (fun b=>own b≠none) v l) (g:T6 w w' own own'):J3 w' (fun b=>own' b≠none) v l:=
 h.only g.only (fun _ h=>h) (fun b hb hx=>by rw [← g.ext b hb];exact hx)
structure A0W (w0:World) (own0:Own) (sb rb tb:Nat) (cx:Ctx) (tab:Y2) (m:Msg) (dv:Value) (w:World) (own:Own) (S:St) (M:List (Nat × St)) (n:Nat):Prop where
 row:w.row? w0.heap.size 0 129=some (B8 (I0 m dv))
 res:w.free? (w0.heap.size+1) 0 24=true
 o1:own w0.heap.size=none
 o2:own (w0.heap.size+1)=none
 run0:A0p w0 own0 sb rb tb cx tab
 st:StateAt TU w own sb S M n
 chg:T6 w0 w own0 own
 data0:J3 w0 (fun b=>own0 b≠none) dv m.data
theorem A0W.run {w0:World} {own0:Own} {sb rb tb:Nat} {cx:Ctx} {tab:Y2} {m:Msg} {dv:Value} {w:World} {own:Own} {S:St} {M:List (Nat × St)} {n:Nat} (h:A0W w0 own0 sb rb tb cx tab m dv w own S M n):A0p w own sb rb tb cx tab:=h.run0.chg h.chg
theorem A0W.data {w0:World} {own0:Own} {sb rb tb:Nat} {cx:Ctx} {tab:Y2} {m:Msg} {dv:Value} {w:World} {own:Own} {S:St} {M:List (Nat × St)} {n:Nat} (h:A0W w0 own0 sb rb tb cx tab m dv w own S M n):J3 w (fun b=>own b≠none) dv m.data:=h.data0.chg h.chg
theorem A0W.box {w0:World} {own0:Own} {sb rb tb:Nat} {cx:Ctx} {tab:Y2} {m:Msg} {dv:Value} {w:World} {own:Own} {S:St} {M:List (Nat × St)} {n:Nat} (h:A0W w0 own0 sb rb tb cx tab m dv w own S M n) {w':World} {b:Nat} (hb:w0.heap.size+1 < b) (ho:own b=none) (h1:A0 (· = b) w w'):A0W w0 own0 sb rb tb cx tab m dv w' own S M n:=
 ⟨by rw [h1.row? (World.row?_lt h.row) (by omega)];exact h.row,by rw [h1.free? (C1 h.res) (by omega)];exact h.res,h.o1,h.o2,h.run0,h.st.only h1 (fun c hc=>by rw [hc];exact ho),⟨h.chg.ext,h.chg.only.trans h1 (fun i hi he=>by have:i=b:=hi;omega)⟩,h.data0⟩
theorem A0W.go {w0:World} {own0:Own} {sb rb tb:Nat} {cx:Ctx} {tab:Y2} {m:Msg} {dv:Value} {w:World} {own:Own} {S:St} {M:List (Nat × St)} {n:Nat} (h:A0W w0 own0 sb rb tb cx tab m dv w own S M n)
  {w':World} {own':Own} {S':St} {M':List (Nat × St)} {n':Nat} (g:T6 w w' own own') (hs:StateAt TU w' own' sb S' M' n'):A0W w0 own0 sb rb tb cx tab m dv w' own' S' M' n':=by
 have h1:=World.row?_lt h.row
 have h2:=C1 h.res
 exact ⟨K5 h.row h.o1 g,by rw [g.only.free? h2 (fun hh=>hh h.o2)];exact h.res,by rw [g.ext _ h1];exact h.o1,by rw [g.ext _ h2];exact h.o2,h.run0,hs,h.chg.trans g,h.data0⟩
theorem A0W.below {w0:World} {own0:Own} {sb rb tb:Nat} {cx:Ctx} {tab:Y2} {m:Msg} {dv:Value} {w:World} {own:Own} {S:St} {M:List (Nat × St)} {n:Nat} (h:A0W w0 own0 sb rb tb cx tab m dv w own S M n)
  {w':World} (hb:Below w.heap.size w w'):A0W w0 own0 sb rb tb cx tab m dv w' own S M n:=h.go (T6.below own hb) (h.st.below hb)
theorem A7c {w:World} {own:Own} {sb rb tb:Nat} {cx:Ctx} {tab:Y2} {m:Msg} {dv:Value} {S:St} {M:List (Nat × St)} {n:Nat} (hst:StateAt TU w own sb S M n) (hr:A0p w own sb rb tb cx tab) (hd:J3 w (fun b=>own b≠none) dv m.data) :
  A0W w own sb rb tb cx tab m dv ((w.alloc (.cells (B8 (I0 m dv)).toArray 37)).alloc (.cells (B8 L3).toArray 41)) own S M n:=by
 have hb:Below w.heap.size w ((w.alloc (.cells (B8 (I0 m dv)).toArray 37)).alloc (.cells (B8 L3).toArray 41)):=((Below.refl _ _).alloc (Nat.le_refl _) _).alloc (by simp) _
 have g:=T6.below own hb
 refine ⟨?_,?_,D4 hst.lows (Nat.le_refl _),D4 hst.lows (Nat.le_succ _),hr,hst.below hb,g,hd⟩
 ·rw [World.row?_alloc_lt _ (by simp)];exact World.row?_alloc_at _ _ _ rfl (N4 m dv)
 ·exact World.free?_alloc_at _ _ (by simp) (by rw [K1];omega)
theorem B1g {w w':World} {own:Own} {v:Value} {l:J1} (h:A3d w w' v l) (hl:∀ b,own b≠none→b < w.heap.size) (hb:Byt l) (hn:l.length≤1099511627776):J3 w' (fun b=>own b≠none) v l:=by
 obtain ⟨⟨a,c,h1,h2,h3⟩,_⟩:=h
 exact ⟨⟨a,c,h1,h2,fun _ p hp hx=>by have:=h3 p hp;have:=hl _ hx;omega⟩,hb,hn⟩
theorem StateAt.code {w:World} {own:Own} {sb:Nat} {S:St} {M:List (Nat × St)} {n:Nat} (h:StateAt TU w own sb S M n) (a:Nat):Byt (S a).code∧(S a).code.length≤1099511627776:=by
 obtain ⟨mb,uv,mv,last,E,U,mk,h,_⟩:=h
 cases e:I3 a E with
 | none=>rw [h.out a e];exact ⟨fun x hx=>by simp [Acc.none] at hx,Nat.zero_le _⟩
 | some p =>
  obtain ⟨cv,q,sl,_,h2,_⟩:=(h.acc (a,p) (L7 e)).cells
  exact ⟨h2.byte,h2.len⟩
theorem A8W (m:Msg) (dv:Value):(B8 (I0 m dv))[126]'(by rw [N4];omega) = .int .i64 m.gas:=by
 have h:(B8 (I0 m dv))[126]? = some (.int .i64 m.gas):=by
  have hs:=X9 (l:=I0 m dv) (i:=7) rfl
  have h1:(B8 ((I0 m dv).take 7)).length=126:=by simp [I0,G7,N9]
  rw [hs,List.getElem?_append_right (by omega),h1];rfl
 exact (List.getElem?_eq_some_iff.1 h).2
def A3Q (tab:Y2):Prop:=∀ e∈B04,A7h tab e
theorem B6j:A1n A4a = [1,43,1]:=by kernel_rfl
theorem B4X (sb tb:Nat) (cx:Ctx):F8 45 (N8 A4a) (B8 A4a) [(0,.pointer (some ⟨sb,0,none⟩)),(1,.agg (B8 (A1o cx)).toArray),(2,.map (some tb))]=some (B8 (A5d sb tb cx)):=by
 rw [F7 _ _ _ A6x]
 ·rfl
 ·rw [B6j]
  refine C0 rfl (C0 ?_ (C0 rfl (L0 _)))
  show some 43=some (B8 (A1o cx)).length
  rw [A1T]
theorem B2b {w w1 w2:World} {own:Own} {sb tb:Nat} {cx:Ctx} (hl:∀ b,own b≠none→b < w.heap.size) (h1:Below w.heap.size w w1) (h:A0o w1 w2 tb B04) :
  ∃ tab,A3Q tab∧Below w1.heap.size w1 w2∧A0p (w2.alloc (.cells (B8 (A5d sb tb cx)).toArray 103)) own sb w2.heap.size tb cx tab:=by
 obtain ⟨tab,h2,h3,h4,h5,h6,_⟩:=h
 have hs1:=h1.size
 have hs2:=h2.size
 have hb:Below w2.heap.size w2 (w2.alloc (.cells (B8 (A5d sb tb cx)).toArray 103)):=(Below.refl _ _).alloc (Nat.le_refl _) _
 refine ⟨tab,h6,h2,World.row?_alloc_at _ _ _ rfl (A8E _ _ _),D4 hl (by omega),h4.below hb,D4 hl (by omega),fun q hq=>?_⟩
 obtain ⟨k1,k2,k3⟩:=h5 q hq
 exact ⟨by rw [hb.cell (World.block_lt_of_cell? w2 _ k1)];exact k1,D4 hl (by omega)⟩
attribute [local irreducible] A0o
end Go.Proofs.YtfflppedbopdpaaGreat
