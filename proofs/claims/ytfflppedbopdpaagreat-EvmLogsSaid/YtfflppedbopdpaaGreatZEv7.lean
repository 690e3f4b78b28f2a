/- A part of the proof of EvmLogs: ZEv7. -/
import Derived.Test.YtfflppedbopdpaaGreatZVm2
import Derived.Test.YtfflppedbopdpaaGreatZEv1
import Derived.Test.YtfflppedbopdpaaGreatZOps2
import Derived.Test.YtfflppedbopdpaaGreatZTy4
set_option linter.unusedVariables false
set_option maxRecDepth 1000000
set_option maxHeartbeats 8000000
set_option linter.unusedSimpArgs false
namespace Go.Proofs.YtfflppedbopdpaaGreat
open Go.RowKit Go.Mun

inductive Res
 | ok (f:Fr) (S:St)
 | stop (x:Nat) (f:Fr) (S:St)
 | none
def A1E (E:Env):Res→Ending→World→Prop
 | .ok f S,e,w=>e = .returned (.tuple #[])∧∃ own c n,E6 E w own c f S n
 | .stop x f _,e,w=>e = .panicked [{ v:=A2f x,recovered:=false }]∧∃ own c n f' S',E6 E w own c f' S' n∧(x=15→f'.gas=f.gas∧f'.out=f.out)
 | .none,_,_=>True
theorem A1E.split {E:Env} {r:Res} {e:Ending} {w:World} (hr:r≠.none) (h:A1E E r e w) :
  (e = .returned (.tuple #[])∧A1E E r (.returned (.tuple #[])) w)∨∃ x:Int,e = .panicked [{ v:=A2f x,recovered:=false }]∧A1E E r (.panicked [{ v:=A2f x,recovered:=false }]) w:=by
 cases r with
 | ok f S=>obtain ⟨rfl,h⟩:=h;exact .inl ⟨rfl,rfl,h⟩
 | stop x f S=>obtain ⟨rfl,h⟩:=h;exact .inr ⟨x,rfl,rfl,h⟩
 | none=>exact absurd rfl hr
theorem A2I (x:Int) (w:World):Calls Tryz.prog 225 #[.bool false,.int .i64 x] w fun e w'=>e = .panicked [{ v:=A2f x,recovered:=false }]∧w'=w:=by
 go_enter Tryz.func225,Tryz.ntmps225
 go_wp2
 exact ⟨rfl,rfl,rfl⟩
theorem B0w {w:World} {fb:Nat} (gas n:Nat) (hc:w.cell? ⟨fb,136,none⟩=some (.int .i64 gas)) (h:¬ n≤gas) :
  Calls Tryz.prog 200 #[.pointer (some ⟨fb,0,none⟩),.int .i64 n] w fun e w'=>e = .panicked [{ v:=A2f 11,recovered:=false }]∧w'=w:=by
 have h':¬ (n:Int)≤gas:=by omega
 have hd:decide ((n:Int)≤gas)=false:=decide_eq_false h'
 go_enter Tryz.func200,Tryz.ntmps200
 go_wp2_with fail
 refine (A2I 11 _).mono ?_
 rintro e w1 ⟨rfl,rfl⟩
 go_wp2
 exact ⟨rfl,rfl,rfl⟩
theorem E6.gas_lt {E:Env} {w:World} {own:Own} {c:FV} {f:Fr} {S:St} {n:Nat} (h:E6 E w own c f S n):f.gas≤E.N:=by have:=h.cnt;omega
theorem A1P {E:Env} {w:World} {own:Own} {c:FV} {f:Fr} {S:St} {n:Nat} (k:Nat) (h:E6 E w own c f S n) (hN:E.N≤1099511627776) :
  Calls Tryz.prog 200 #[.pointer (some ⟨E.fb,0,none⟩),.int .i64 k] w fun e w' =>
   (k≤f.gas∧e = .returned (.tuple #[])∧E6 E w' own c { f with gas:=f.gas - k } S n∧A0 (fun b=>b=E.fb) w w')∨(¬ k≤f.gas∧e = .panicked [{ v:=A2f 11,recovered:=false }]∧w'=w):=by
 have hg:=h.gas_lt
 by_cases hk:k≤f.gas
 ·refine (B6w f.gas k (B0p h.row) (h.one (by omega)) hk (by omega)).mono ?_
  rintro e w' ⟨rfl,rfl⟩
  exact .inl ⟨hk,rfl,h.gas _ (by omega),C6 _ _ _ _⟩
 ·refine (B0w f.gas k (B0p h.row) hk).mono ?_
  rintro e w' ⟨rfl,rfl⟩
  exact .inr ⟨hk,rfl,rfl⟩
theorem B5Y:((List.range 256).all fun m=>match ofL (m:Int) with | Option.none=>true | some (p,q,g)=>decide (0≤p∧p≤17∧0≤q∧q≤17∧0≤g∧g≤32000))=true:=by kernel_rfl
theorem B4e {m:Nat} {p q g:Int} (hm:m < 256) (h:ofL (m:Int)=some (p,q,g)):0≤p∧p≤17∧0≤q∧q≤17∧0≤g∧g≤32000:=by
 have:=List.all_eq_true.1 B5Y m (List.mem_range.2 hm)
 rw [h] at this
 exact of_decide_eq_true this
theorem B1r (w:World):(w.alloc (.cells (B8 A2X).toArray 341)).free? w.heap.size 0 3=true:=World.free?_alloc_at _ _ rfl (by rw [A2C];omega)
theorem A2c {w:World} {t n:Nat} {z L:List Value} (hz:z.length=n) (hL:Q3 n L=true) :
  Below w.heap.size w ((w.alloc (.cells z.toArray t)).setCells w.heap.size 0 L)∧((w.alloc (.cells z.toArray t)).setCells w.heap.size 0 L).row? w.heap.size 0 n=some L:=
 ⟨((Below.refl _ _).alloc (Nat.le_refl _) _).setCells (Nat.le_refl _) _ _,((Arr.new w n z t hz).setCells L hL).row⟩
def V9 (f:Fr):Int:=f.code[f.next]?.getD 0
def U1 (f:Fr):Fr:={ f with pc:=f.next,next:=f.next+1+(J6 (V9 f)).toNat }
def A0h (f:Fr) (k:Nat):Fr:={ f with stack:=f.stack.take (f.stack.length - k) }
def A0t (f:Fr) (k:Nat):List Nat:=f.stack.reverse.take k
theorem A6y {b g:Nat} {w:World} {v:Value} {l:List Nat} (h:Wds b w v l) (hn:l≠[]) (hg:v.ownBlock=some g):b≤g:=by
 obtain ⟨ad,c,rfl,_,_,h3⟩:=h
 obtain ⟨g',rfl,h4,_⟩:=h3 hn
 simp [Value.ownBlock] at hg;omega
theorem _root_.Go.Mun.Wds.mono {b b':Nat} {w:World} {v:Value} {l:List Nat} (h:Wds b w v l) (hb:b'≤b):Wds b' w v l:=by
 obtain ⟨ad,c,h1,h2,h3,h4⟩:=h
 exact ⟨ad,c,h1,h2,h3,fun hn=>by obtain ⟨g,e1,e2,e3,e4⟩:=h4 hn;exact ⟨g,e1,Nat.le_trans hb e2,e3,e4⟩⟩
theorem _root_.Go.Mun.Wds.only {b:Nat} {w w':World} {R:Nat→Prop} {v:Value} {l:List Nat} (h:Wds b w v l) (ho:A0 R w w') (hR:∀ g,b≤g→g < w.heap.size→¬ R g):Wds b w' v l:=by
 obtain ⟨ad,c,h1,h2,h3,h4⟩:=h
 exact ⟨ad,c,h1,h2,h3,fun hn=>by obtain ⟨g,e1,e2,e3,e4⟩:=h4 hn;exact ⟨g,e1,e2,Nat.lt_of_lt_of_le e3 ho.size,by rw [ho.row? e3 (hR g e2 e3)];exact e4⟩⟩
def W5 (act:Fr→St→Int→List Nat→Res) (turn:Fr→St→Int→Res) (f:Fr) (S:St):Res:=
 match ofL (V9 f) with
 | Option.none => .stop 12 (U1 f) S
 | some (p,q,g) =>
  if ¬ (p.toNat≤f.stack.length∧f.stack.length - p.toNat+q.toNat≤1024) then .stop 10 (U1 f) S
  else if 128≤V9 f∧V9 f < 160 then (if g.toNat≤f.gas then turn { U1 f with gas:=f.gas - g.toNat } S (V9 f) else .stop 11 (U1 f) S)
  else if f.m.static∧A0D (V9 f) (A0t f p.toNat) then .stop 14 (A0h (U1 f) p.toNat) S
  else if g.toNat≤f.gas then act { A0h (U1 f) p.toNat with gas:=f.gas - g.toNat } S (V9 f) (A0t f p.toNat) else .stop 11 (A0h (U1 f) p.toNat) S
theorem A5G {E:Env} {w:World} {own:Own} {c:FV} {f:Fr} {S:St} {n:Nat} (h:E6 E w own c f S n) (hN:E.N≤1099511627776) (hlt:f.next < f.code.length)
  (act:Fr→St→Int→List Nat→Res) (turn:Fr→St→Int→Res) (hr:W5 act turn f S≠.none)
  (hact:∀ w own c f' n v l,E6 E w own c f' S n→act f' S (V9 f) l≠.none→Wds E.w0.heap.size w v l→(∀ x∈l,x < wW)→(∀ g,l≠[]→v.ownBlock=some g→g≠E.fb∧own g=none∧c.mv.ownBlock≠some g∧c.lv.ownBlock≠some g)→(∀ p q g,ofL (V9 f)=some (p,q,g)→n+f'.gas+g.toNat≤E.N)→Calls Tryz.prog 374 #[.pointer (some ⟨E.fb,0,none⟩),.int .u8 (V9 f),v] w (A1E E (act f' S (V9 f) l)))
  (hturn:∀ w own c f' n,E6 E w own c f' S n→turn f' S (V9 f)≠.none→Calls Tryz.prog 371 #[.pointer (some ⟨E.fb,0,none⟩),.int .u8 (V9 f)] w (A1E E (turn f' S (V9 f)))) :
  Calls Tryz.prog 352 #[.pointer (some ⟨E.fb,0,none⟩)] w (A1E E (W5 act turn f S)):=by
 have H:=hid h
 have HA:=hid hact
 have HT:=hid hturn
 have HR:=hid hr
 clear hact hturn hr
 have c135:=A4Q h.row
 have f134:=h.one (i:=134) (by omega)
 have H1:=hid (h.pc f.next h.nxt.1)
 obtain ⟨⟨ca,cc,hcv,hci,hcx⟩,hcb,hcl⟩:=h.code
 obtain ⟨m,hm,hop⟩:∃ m:Nat,m < 256∧V9 f=(m:Int):=by
  have:=hcb (V9 f) (by unfold V9;rw [List.getElem?_eq_getElem hlt];exact List.getElem_mem _)
  exact ⟨(V9 f).toNat,by omega,by omega⟩
 clear hci hcx hcb
 have HM:=hid hop
 have HC:=hid hcv
 clear hop hcv h
 go_enter Tryz.func352,Tryz.ntmps352
 go_wp2_with fail
 generalize w.setCell ⟨E.fb,134,none⟩ (.int .i64 (f.next:Int))=w1 at *
 have h1:=H1.out.below (Below.refl _ _).drew
 have d130:=A2M h1.row
 rw [HC.out] at d130
 have d134:=B1s h1.row
 obtain ⟨⟨ca',cc',hcv',hci,_⟩,_,_⟩:=h1.code
 rw [HC.out] at hcv'
 cases hcv'
 obtain ⟨cb,off,rfl,hcbl,hcell⟩:=hci.at hlt
 have hx:=hcell f.next hlt
 rw [show f.code[f.next]?.getD 0=(m:Int) from HM.out] at hx
 have hnI:(f.next:Int) < (f.code.length:Int):=by omega
 have H2:=hid h1
 clear hci hcell h1 c135 f134
 go_wp2_with fail
 refine F4 (by kernel_rfl) (by kernel_rfl) ?_
 repeat still_step
 refine wpStill_nil ?_
 clear H1 d130 d134 hx hnI hcbl
 generalize w1.drew=w2 at *
 have h2:=H2.out.below (Below.refl _ _).drew
 obtain ⟨T,hT⟩:∃ T:World→Prop,T=fun w'=>w'.cell? ⟨E.fb,134,none⟩=some (.int .i64 (f.next:Nat)):=⟨_,rfl⟩
 have HTT:=hid hT
 have t0:T w2.drew:=by rw [hT];exact B1s h2.row
 have f135:=h2.one (i:=135) (by omega)
 have hnn:=A5m (m:Int) (by omega)
 have hown:((J6 (m:Int)).toNat:Int)=J6 (m:Int):=by omega
 have hw1:IntKind.i64.wrap ((f.next:Int)+1)=((f.next+1:Nat):Int):=by rw [U6 _ (by omega) (by omega)];omega
 obtain ⟨k,hk⟩:∃ k:Nat,k=f.next+1+(J6 (m:Int)).toNat:=⟨_,rfl⟩
 have hw2:IntKind.i64.wrap ((f.next:Int)+1+J6 (m:Int))=(k:Int):=by rw [U6 _ (by omega) (by omega)];omega
 have H3:Hid (E6 E (w2.setCell ⟨E.fb,135,none⟩ (.int .i64 (k:Int))).drew own c (U1 f) S n):=by
  have:=h2.next k (by omega)
  unfold U1;rw [HM.out,← hk];exact this
 clear hk
 clear hT h2 hnn hown H2
 go_wp2_with fail
 refine A7 T [11] (.pure 0 (.pure 1 (.pure 2 (.pure 3 (.take 4 (.pure 5 (.pure 6 (.alt 7 (.pure 8 (.pure 9 (.pure 10 (.alt 11 .fin .stop)))) .stop)))))))) (by kernel_rfl) (by kernel_rfl) ?_
 iterate 7
  first
  |refine A2 ?_ rfl (by rfl) (fun w' hs=>?_) (fun _ _ _ h=>h) ?_
   rotate_left
   ·clear hs
    go_simp
    try rfl
   simp only [Act.put,D7,D6,D5]
  |refine A9 ?_ t0 rfl (by rfl) (fun w' hs=>?_) (fun _ _ _ h=>h) ?_
   rotate_left
   ·rw [HTT.out] at hs
    go_simp
    try rfl
   simp only [Act.put,D7,D6,D5]
 refine A5 rfl (fun K hK=>?_)
 go_simp
 refine (A4M (m:Int) (by omega) (by omega) _).mono ?_
 rintro e w4 ⟨rfl,rfl⟩
 refine hK.out _ _ t0 ?_
 clear hK K
 iterate 3
  refine A2 ?_ rfl (by rfl) (fun w' hs=>?_) (fun _ _ _ h=>h) ?_
  rotate_left
  ·clear hs
   go_simp
   try rfl
  simp only [Act.put,D7,D6,D5]
 refine J8 rfl (by simp) (fun K hK=>?_)
 go_simp
 refine hK.out _ _ ?_
 clear hK K
 refine C2 ?_
 clear t0 f135 HTT hw1 hw2 T
 generalize (w2.setCell ⟨E.fb,135,none⟩ (.int .i64 (k:Int))).drew=w3 at *
 have HO:=hid (B7R m hm)
 cases ho:ofL (m:Int) with
 | none =>
  have hw:W5 act turn f S = .stop 12 (U1 f) S:=by unfold W5;rw [HM.out,ho]
  have HW:=hid hw
  rw [ho] at HO
  have HO2:Hid (∀ w,Calls Tryz.prog 369 #[.int .u8 (m:Int)] w fun e w'=>e = .returned (.tuple #[.agg #[.int .i64 0,.int .i64 0,.int .i64 0],.bool false])∧Below w.heap.size w w'):=HO
  clear HO hw ho
  go_wp2_with fail
  refine (HO2.out _).mono ?_
  rintro e w4 ⟨rfl,hb⟩
  have hf5:=B1r w4
  have hb5:=A2c (w:=w4) (t:=341) (z:=B8 A2X) (n:=3) (L:=[.int .i64 0,.int .i64 0,.int .i64 0]) A2C rfl
  have hok5:Q3 3 [.int .i64 0,.int .i64 0,.int .i64 0]=true:=rfl
  have H5:=hid ((H3.out.below hb).below hb5.1)
  clear hb hb5
  go_wp2_with fail
  refine (A2I 12 _).mono ?_
  rintro e w6 ⟨rfl,rfl⟩
  go_wp2
  refine ⟨rfl,?_⟩
  rw [HW.out]
  exact ⟨rfl,own,c,n,_,S,H5.out,fun h=>absurd h (by decide)⟩
 | some x =>
  obtain ⟨p,q,g⟩:=x
  have hbd:=B4e hm ho
  obtain ⟨p,rfl⟩:∃ p':Nat,p=p':=⟨p.toNat,by omega⟩
  obtain ⟨q,rfl⟩:∃ q':Nat,q=q':=⟨q.toNat,by omega⟩
  obtain ⟨g,rfl⟩:∃ g':Nat,g=g':=⟨g.toNat,by omega⟩
  rw [ho] at HO
  have HO2:Hid (∀ w,Calls Tryz.prog 369 #[.int .u8 (m:Int)] w fun e w'=>e = .returned (.tuple #[.agg #[.int .i64 p,.int .i64 q,.int .i64 g],.bool true])∧Below w.heap.size w w'):=HO
  have HOF:=hid ho
  clear HO ho
  go_wp2_with fail
  refine (HO2.out _).mono ?_
  rintro e w4 ⟨rfl,hb⟩
  have hf5:=B1r w4
  have hb5:=A2c (w:=w4) (t:=341) (z:=B8 A2X) (n:=3) (L:=[.int .i64 p,.int .i64 q,.int .i64 g]) A2C rfl
  have hok5:Q3 3 [.int .i64 p,.int .i64 q,.int .i64 g]=true:=rfl
  have H5:=hid ((H3.out.below hb).below hb5.1)
  have HB:=hid hb5.2
  have hfb:E.fb < w4.heap.size:=Nat.lt_of_lt_of_le H3.out.lt hb.size
  clear hb hb5
  go_wp2_with fail
  generalize ((w4.alloc (.cells (B8 A2X).toArray 341)).setCells w4.heap.size 0 [.int .i64 p,.int .i64 q,.int .i64 g])=w5 at *
  refine (A2H 12 _).mono ?_
  rintro e w6 ⟨rfl,rfl⟩
  clear hf5 hok5
  have h6:=H5.out.below (Below.refl _ _).drew
  have hb6:w6.drew.row? w4.heap.size 0 3=some [.int .i64 p,.int .i64 q,.int .i64 g]:=HB.out
  obtain ⟨sa,sc,hsv⟩:=Q7 h6.stk
  have c132:w6.drew.cell? ⟨E.fb,132,none⟩=some (.slice sa f.stack.length sc):=by
   have:=B4w h6.row
   rw [hsv] at this;exact this
  have H6:=hid h6
  have HSV:=hid hsv
  obtain ⟨T,hT⟩:∃ T:World→Prop,T=fun w'=>w'.cell? ⟨E.fb,132,none⟩=some (.slice sa f.stack.length sc)∧w'.row? w4.heap.size 0 3=some [.int .i64 p,.int .i64 q,.int .i64 g]:=⟨_,rfl⟩
  have HTT:=hid hT
  have t0:T w6.drew:=by rw [hT];exact ⟨c132,hb6⟩
  have HC132:=hid c132
  have hsl:=h6.slen
  replace hsl:f.stack.length≤1024:=hsl
  clear hT h6 hb6 hsv H5
  replace HSV:Hid (c.sv = .slice sa f.stack.length sc):=HSV
  generalize hl:f.stack.length=l at *
  have HL:=hid hl
  clear hl
  by_cases h1:p≤l
  ·have h1I:(p:Int)≤l:=by omega
   have hd1:decide ((p:Int)≤l)=true:=decide_eq_true h1I
   have hw3:IntKind.i64.wrap (IntKind.i64.wrap ((l:Int) - p)+q)=(l:Int) - p+q:=by rw [U6 ((l:Int) - p) (by omega) (by omega),U6 _ (by omega) (by omega)]
   by_cases h2:l - p+q≤1024
   ·have h2I:(l:Int) - p+q≤1024:=by omega
    have hd2:decide ((l:Int) - p+q≤1024)=true:=decide_eq_true h2I
    go_wp2_with fail
    refine A7 T [] (.pure 0 (.pure 1 (.pure 2 (.pure 4 (.take 5 (.alt 3 (.pure 6 (.pure 7 (.pure 8 (.pure 9 (.pure 10 (.pure 12 (.take 13 (.pure 15 (.take 16 (.alt 11 (.pure 14 (.pure 17 (.pure 18 (.pure 19 (.alt 20 .fin .stop))))) .stop)))))))))) .stop)))))) (by kernel_rfl) (by kernel_rfl) ?_
    iterate 5
     first
     |refine A2 ?_ rfl (by rfl) (fun w' hs=>?_) (fun _ _ _ h=>h) ?_
      rotate_left
      ·clear hs
       go_simp
       try rfl
      simp only [Act.put,D7,D6,D5]
     |refine A9 ?_ t0 rfl (by rfl) (fun w' hs=>?_) (fun _ _ _ h=>h) ?_
      rotate_left
      ·rw [HTT.out] at hs
       obtain ⟨q1,q2⟩:=hs;have q3:=World.row?_cell q2 (i:=0) (by omega);have q4:=World.row?_cell q2 (i:=1) (by omega);simp only [Nat.zero_add,List.getElem?_cons_zero,List.getElem?_cons_succ] at q3 q4
       go_simp
       try rfl
      simp only [Act.put,D7,D6,D5]
    refine A5 rfl (fun K hK=>?_)
    go_simp
    refine (A3j HC132.out).mono ?_
    rintro e w8 ⟨rfl,rfl⟩
    refine hK.out _ _ t0 ?_
    clear hK K
    iterate 9
     first
     |refine A2 ?_ rfl (by rfl) (fun w' hs=>?_) (fun _ _ _ h=>h) ?_
      rotate_left
      ·clear hs
       go_simp
       try rfl
      simp only [Act.put,D7,D6,D5]
     |refine A9 ?_ t0 rfl (by rfl) (fun w' hs=>?_) (fun _ _ _ h=>h) ?_
      rotate_left
      ·rw [HTT.out] at hs
       obtain ⟨q1,q2⟩:=hs;have q3:=World.row?_cell q2 (i:=0) (by omega);have q4:=World.row?_cell q2 (i:=1) (by omega);simp only [Nat.zero_add,List.getElem?_cons_zero,List.getElem?_cons_succ] at q3 q4
       go_simp
       try rfl
      simp only [Act.put,D7,D6,D5]
    refine A5 rfl (fun K hK=>?_)
    go_simp
    refine (A3j HC132.out).mono ?_
    rintro e w8 ⟨rfl,rfl⟩
    refine hK.out _ _ t0 ?_
    clear hK K
    iterate 4
     refine A2 ?_ rfl (by rfl) (fun w' hs=>?_) (fun _ _ _ h=>h) ?_
     rotate_left
     ·clear hs
      go_simp
      try rfl
     simp only [Act.put,D7,D6,D5]
    refine A5 rfl (fun K hK=>?_)
    go_simp
    refine (A2H 10 _).mono ?_
    rintro e w9 ⟨rfl,rfl⟩
    refine hK.out _ _ t0 ?_
    clear hK K
    refine C2 ?_
    have H7:=H6
    clear HTT t0 c132 hd1 hd2 hw3 h1I h2I T
    have hb7:w6.drew.row? w4.heap.size 0 3=some [.int .i64 p,.int .i64 q,.int .i64 g]:=HB.out
    have b0:=World.row?_cell hb7 (i:=0) (by omega)
    have b2:=World.row?_cell hb7 (i:=2) (by omega)
    simp only [Nat.zero_add,List.getElem?_cons_zero,List.getElem?_cons_succ] at b0 b2
    clear HB hb7
    generalize w6.drew=w7 at *
    by_cases ht:128≤m∧m < 160
    ·obtain ⟨ht1,ht2⟩:=ht
     have ht1I:(128:Int)≤m:=by omega
     have ht2I:(m:Int) < 160:=by omega
     have HW:Hid (W5 act turn f S=if g≤f.gas then turn { U1 f with gas:=f.gas - g } S (V9 f) else .stop 11 (U1 f) S):=by
      show _=_
      unfold W5;rw [HM.out,HOF.out];simp only [Int.toNat_natCast];rw [if_neg (by rw [HL.out];omega),if_pos ⟨ht1I,ht2I⟩]
     go_wp2_with fail
     refine (A1P g H7.out hN).mono ?_
     rintro e w8 (⟨hgas,rfl,h8,_⟩ | ⟨hgas,rfl,rfl⟩)
     ·replace hgas:g≤f.gas:=hgas
      have H8:=hid h8
      clear h8
      have HW2:Hid (W5 act turn f S=turn { U1 f with gas:=f.gas - g } S (V9 f)):=by
       show _=_
       rw [HW.out,if_pos hgas]
      have hne:=HR.out
      rw [HW2.out] at hne
      have HTU:=HT.out w8 own c _ n H8.out hne
      rw [HM.out] at hne
      have HNE:=hid hne
      clear hne
      rw [HM.out] at HTU
      have HTV:=hid HTU
      clear HTU
      go_wp2_with fail
      refine HTV.out.mono ?_
      intro e w9 hp
      rcases A1E.split HNE.out hp with ⟨rfl,hp⟩ | ⟨x,rfl,hp⟩
      ·have HP:=hid hp
       clear hp
       go_wp2
       refine bodyPost_ret (results_none rfl _ _ _) rfl ?_
       rw [HW2.out,HM.out];exact HP.out
      ·have HP:=hid hp
       clear hp
       go_wp2
       refine ⟨rfl,?_⟩
       rw [HW2.out,HM.out];exact HP.out
     ·replace hgas:¬ g≤f.gas:=hgas
      go_wp2
      refine ⟨rfl,?_⟩
      rw [HW.out,if_neg hgas]
      exact ⟨rfl,own,c,n,_,S,H7.out,fun h=>absurd h (by decide)⟩
    ·have htI:¬ (128≤V9 f∧V9 f < 160):=by rw [HM.out];omega
     have HW:Hid (W5 act turn f S=if f.m.static∧A0D (V9 f) (A0t f p) then .stop 14 (A0h (U1 f) p) S else if g≤f.gas then act { A0h (U1 f) p with gas:=f.gas - g } S (V9 f) (A0t f p) else .stop 11 (A0h (U1 f) p) S):=by
      show _=_
      unfold W5;rw [HM.out,HOF.out];simp only [Int.toNat_natCast];rw [if_neg (by rw [HL.out];omega),if_neg (by rw [← HM.out];exact htI)]
     clear htI
     by_cases ht1:128≤m
     focus
      have ht2:¬ m < 160:=fun h=>ht ⟨ht1,h⟩
     rotate_left
     all_goals
      clear ht
      go_wp2_with fail
      have h7:=H7.out.below (Below.refl _ _).drew
      obtain ⟨T,hT⟩:∃ T:World→Prop,T=fun w'=>w'.cell? ⟨w4.heap.size,0,none⟩=some (.int .i64 (p:Nat)):=⟨_,rfl⟩
      have HTT:=hid hT
      have t0:T w7.drew:=by rw [hT];exact b0
      have hp7:Hid (p≤f.stack.length):=by show _≤_;rw [HL.out];exact h1
      have HPOP:=hid (B5p (w:=w7.drew) (l:=f.stack) p (B4w h7.row) (h7.one (by omega)) (D9 h7.stk (Nat.zero_le _)) hp7.out h7.slen)
      have B2:=hid b2
      have HX7:=hid h7
      clear hT b0 b2 h7 H6 H7 HC132 h1 h2 hsl
      refine A7 T [5] (.pure 0 (.pure 1 (.pure 2 (.pure 3 (.take 4 (.alt 5 (.pure 6 (.pure 7 (.pure 8 (.pure 9 (.pure 10 .fin))))) .stop)))))) (by kernel_rfl) (by kernel_rfl) ?_
      iterate 5
       first
       |refine A2 ?_ rfl (by rfl) (fun w' hs=>?_) (fun _ _ _ h=>h) ?_
        rotate_left
        ·clear hs
         go_simp
         try rfl
        simp only [Act.put,D7,D6,D5]
       |refine A9 ?_ t0 rfl (by rfl) (fun w' hs=>?_) (fun _ _ _ h=>h) ?_
        rotate_left
        ·rw [HTT.out] at hs
         go_simp
         try rfl
        simp only [Act.put,D7,D6,D5]
      refine J8 rfl (by simp) (fun K hK=>?_)
      go_simp
      refine HPOP.out.mono ?_
      rintro e w8 ⟨v,sv',w9,rfl,rfl,hb9,hwd,hro,hsb⟩
      have h8:=HX7.out.stack (A0.of_below_size hb9) hro (fun g hg => .inl (hsb g hg)) (fun x hx=>HX7.out.sval x (List.mem_of_mem_take hx)) (by have:=HX7.out.slen;rw [List.length_take];exact Nat.le_trans (Nat.min_le_right _ _) this)
      have hwd':Wds E.w0.heap.size (w9.setCell ⟨E.fb,132,none⟩ sv') v (A0t f p):=hwd.mono HX7.out.chg.only.size
      have b2:(w9.setCell ⟨E.fb,132,none⟩ sv').cell? ⟨w4.heap.size,2,none⟩=some (.int .i64 (g:Nat)):=by
       rw [World.cell?_setCell_other _ _ _ _ (fun e=>by have:=congrArg Addr.block e;simp at this;omega),hb9.cell (p:=⟨w4.heap.size,2,none⟩) (World.block_lt_of_cell? w7.drew _ B2.out)];exact B2.out
      have H8:=hid h8
      have HWD:=hid hwd'
      have HWD0:Hid (Wds w7.drew.heap.size (w9.setCell ⟨E.fb,132,none⟩ sv') v (A0t f p)):=hwd
      clear h8 hwd' hwd hb9 hro hsb
      refine hK.out _ _ ?_
      clear hK K
      iterate 5
       refine A2 ?_ rfl (by rfl) (fun w' hs=>?_) (fun _ _ _ h=>h) ?_
       rotate_left
       ·clear hs
        go_simp
        try rfl
       simp only [Act.put,D7,D6,D5]
      refine C2 ?_
      generalize w9.setCell ⟨E.fb,132,none⟩ sv'=w10 at *
      clear t0 HTT T HPOP
      have s129:w10.cell? ⟨E.fb,129,none⟩=some (.bool f.m.static):=by
       have:=A5p (B79 H8.out.row)
       exact this
      have hl241:m=241→2 < (A0t f p).length:=by
       rintro rfl
       have e1:ofL ((241:Nat):Int)=some (7,1,700):=by kernel_rfl
       have e2:=HOF.out
       rw [e1] at e2
       have e3:p=7:=by simp only [Option.some.injEq,Prod.mk.injEq] at e2;omega
       have e4:=hp7.out
       unfold A0t;rw [List.length_take,List.length_reverse];omega
      have HCH:=hid (A9j m HWD.out hl241 (fun x hx=>HX7.out.sval x (List.mem_reverse.1 (List.mem_of_mem_take hx))))
      clear hl241
      cases hs:f.m.static with
      | false =>
       rw [hs] at s129
       have HS:=hid hs
       clear hs
       have HW3:Hid (W5 act turn f S=if g≤f.gas then act { A0h (U1 f) p with gas:=f.gas - g } S (V9 f) (A0t f p) else .stop 11 (A0h (U1 f) p) S):=by
        show _=_
        rw [HW.out,HS.out,if_neg (by simp)]
       go_wp2_with fail
       refine (A2H 14 _).mono ?_
       rintro e w11 ⟨rfl,rfl⟩
       go_wp2_with fail
       refine (A1P g H8.out hN).mono ?_
       rintro e w13 (⟨hgas,rfl,h9,ho9⟩ | ⟨hgas,rfl,rfl⟩)
       ·replace hgas:g≤f.gas:=hgas
        have hw13:Hid (Wds E.w0.heap.size w13 v (A0t f p)):=(HWD0.out.only ho9 (fun g hg _ e=>by have:=HX7.out.lt;omega)).mono HX7.out.chg.only.size
        have H9:=hid h9
        clear h9
        have HW2:Hid (W5 act turn f S=act { A0h (U1 f) p with gas:=f.gas - g } S (V9 f) (A0t f p)):=by
         show _=_
         rw [HW3.out,if_pos hgas]
        have hne:=HR.out
        rw [HW2.out] at hne
        have HTU:=HA.out w13 own _ _ n v _ H9.out hne hw13.out (fun x hx=>HX7.out.sval x (List.mem_reverse.1 (List.mem_of_mem_take hx))) (fun gg hn2 hgg=>by have h1:=A6y HWD0.out hn2 hgg;have h2:=HX7.out.lt;exact ⟨by omega,D4 HX7.out.st.lows h1,fun e=>by have:=B0 HX7.out.mem gg e;omega,fun e=>by obtain ⟨cs,hl1,_⟩:=HX7.out.logs;have:=B0 hl1 gg e;omega⟩) (fun p2 q2 g2 he=>by rw [HM.out,HOF.out] at he;cases he;have h2:n+f.gas≤E.N:=HX7.out.cnt;show n+(f.gas - g)+((g:Nat):Int).toNat≤E.N;rw [Int.toNat_natCast];omega)
        rw [HM.out] at hne
        have HNE:=hid hne
        clear hne
        rw [HM.out] at HTU
        have HTV:=hid HTU
        clear HTU
        go_wp2_with fail
        refine HTV.out.mono ?_
        intro e w14 hp
        rcases A1E.split HNE.out hp with ⟨rfl,hp⟩ | ⟨x,rfl,hp⟩
        ·have HP:=hid hp
         clear hp
         go_wp2
         go_end0
         rw [HW2.out,HM.out];exact HP.out
        ·have HP:=hid hp
         clear hp
         go_wp2
         refine ⟨rfl,?_⟩
         rw [HW2.out,HM.out];exact HP.out
       ·replace hgas:¬ g≤f.gas:=hgas
        go_wp2
        refine ⟨rfl,?_⟩
        rw [HW3.out,if_neg hgas]
        exact ⟨rfl,own,_,n,_,S,H8.out,fun h=>absurd h (by decide)⟩
      | true =>
       rw [hs] at s129
       have HS:=hid hs
       clear hs
       cases hc:A0D (m:Int) (A0t f p) with
       | true =>
        rw [hc] at HCH
        have HW3:Hid (W5 act turn f S = .stop 14 (A0h (U1 f) p) S):=by
         show _=_
         rw [HW.out,HS.out,HM.out,hc,if_pos ⟨rfl,rfl⟩]
        clear hc
        go_wp2_with fail
        refine HCH.out.mono ?_
        rintro e w11 ⟨rfl,rfl⟩
        go_wp2_with fail
        refine (A2I 14 _).mono ?_
        rintro e w12 ⟨rfl,rfl⟩
        go_wp2
        refine ⟨rfl,?_⟩
        rw [HW3.out]
        exact ⟨rfl,own,_,n,_,S,H8.out,fun h=>absurd h (by decide)⟩
       | false =>
        rw [hc] at HCH
        have HW3:Hid (W5 act turn f S=if g≤f.gas then act { A0h (U1 f) p with gas:=f.gas - g } S (V9 f) (A0t f p) else .stop 11 (A0h (U1 f) p) S):=by
         show _=_
         rw [HW.out,HS.out,HM.out,hc,if_neg (by simp)]
        clear hc
        go_wp2_with fail
        refine HCH.out.mono ?_
        rintro e w11 ⟨rfl,rfl⟩
        go_wp2_with fail
        refine (A2H 14 _).mono ?_
        rintro e w12 ⟨rfl,rfl⟩
        go_wp2_with fail
        refine (A1P g H8.out hN).mono ?_
        rintro e w13 (⟨hgas,rfl,h9,ho9⟩ | ⟨hgas,rfl,rfl⟩)
        ·replace hgas:g≤f.gas:=hgas
         have hw13:Hid (Wds E.w0.heap.size w13 v (A0t f p)):=(HWD0.out.only ho9 (fun g hg _ e=>by have:=HX7.out.lt;omega)).mono HX7.out.chg.only.size
         have H9:=hid h9
         clear h9
         have HW2:Hid (W5 act turn f S=act { A0h (U1 f) p with gas:=f.gas - g } S (V9 f) (A0t f p)):=by
          show _=_
          rw [HW3.out,if_pos hgas]
         have hne:=HR.out
         rw [HW2.out] at hne
         have HTU:=HA.out w13 own _ _ n v _ H9.out hne hw13.out (fun x hx=>HX7.out.sval x (List.mem_reverse.1 (List.mem_of_mem_take hx))) (fun gg hn2 hgg=>by have h1:=A6y HWD0.out hn2 hgg;have h2:=HX7.out.lt;exact ⟨by omega,D4 HX7.out.st.lows h1,fun e=>by have:=B0 HX7.out.mem gg e;omega,fun e=>by obtain ⟨cs,hl1,_⟩:=HX7.out.logs;have:=B0 hl1 gg e;omega⟩) (fun p2 q2 g2 he=>by rw [HM.out,HOF.out] at he;cases he;have h2:n+f.gas≤E.N:=HX7.out.cnt;show n+(f.gas - g)+((g:Nat):Int).toNat≤E.N;rw [Int.toNat_natCast];omega)
         rw [HM.out] at hne
         have HNE:=hid hne
         clear hne
         rw [HM.out] at HTU
         have HTV:=hid HTU
         clear HTU
         go_wp2_with fail
         refine HTV.out.mono ?_
         intro e w14 hp
         rcases A1E.split HNE.out hp with ⟨rfl,hp⟩ | ⟨x,rfl,hp⟩
         ·have HP:=hid hp
          clear hp
          go_wp2
          go_end0
          rw [HW2.out,HM.out];exact HP.out
         ·have HP:=hid hp
          clear hp
          go_wp2
          refine ⟨rfl,?_⟩
          rw [HW2.out,HM.out];exact HP.out
        ·replace hgas:¬ g≤f.gas:=hgas
         go_wp2
         refine ⟨rfl,?_⟩
         rw [HW3.out,if_neg hgas]
         exact ⟨rfl,own,_,n,_,S,H8.out,fun h=>absurd h (by decide)⟩
   ·have h2I:¬ (l:Int) - p+q≤1024:=by omega
    have hd2:decide ((l:Int) - p+q≤1024)=false:=decide_eq_false h2I
    have HW:Hid (W5 act turn f S = .stop 10 (U1 f) S):=by
     show _=_
     unfold W5;rw [HM.out,HOF.out];simp only [Int.toNat_natCast]
     rw [if_pos (by rw [HL.out];omega)]
    go_wp2_with fail
    refine A7 T [] (.pure 0 (.pure 1 (.pure 2 (.pure 4 (.take 5 (.alt 3 (.pure 6 (.pure 7 (.pure 8 (.pure 9 (.pure 10 (.pure 12 (.take 13 (.pure 15 (.take 16 (.alt 11 (.pure 14 (.pure 17 (.pure 18 (.pure 19 (.alt 20 .fin .stop))))) .stop)))))))))) .stop)))))) (by kernel_rfl) (by kernel_rfl) ?_
    iterate 5
     first
     |refine A2 ?_ rfl (by rfl) (fun w' hs=>?_) (fun _ _ _ h=>h) ?_
      rotate_left
      ·clear hs
       go_simp
       try rfl
      simp only [Act.put,D7,D6,D5]
     |refine A9 ?_ t0 rfl (by rfl) (fun w' hs=>?_) (fun _ _ _ h=>h) ?_
      rotate_left
      ·rw [HTT.out] at hs
       obtain ⟨q1,q2⟩:=hs;have q3:=World.row?_cell q2 (i:=0) (by omega);have q4:=World.row?_cell q2 (i:=1) (by omega);simp only [Nat.zero_add,List.getElem?_cons_zero,List.getElem?_cons_succ] at q3 q4
       go_simp
       try rfl
      simp only [Act.put,D7,D6,D5]
    refine A5 rfl (fun K hK=>?_)
    go_simp
    refine (A3j HC132.out).mono ?_
    rintro e w8 ⟨rfl,rfl⟩
    refine hK.out _ _ t0 ?_
    clear hK K
    iterate 9
     first
     |refine A2 ?_ rfl (by rfl) (fun w' hs=>?_) (fun _ _ _ h=>h) ?_
      rotate_left
      ·clear hs
       go_simp
       try rfl
      simp only [Act.put,D7,D6,D5]
     |refine A9 ?_ t0 rfl (by rfl) (fun w' hs=>?_) (fun _ _ _ h=>h) ?_
      rotate_left
      ·rw [HTT.out] at hs
       obtain ⟨q1,q2⟩:=hs;have q3:=World.row?_cell q2 (i:=0) (by omega);have q4:=World.row?_cell q2 (i:=1) (by omega);simp only [Nat.zero_add,List.getElem?_cons_zero,List.getElem?_cons_succ] at q3 q4
       go_simp
       try rfl
      simp only [Act.put,D7,D6,D5]
    refine A5 rfl (fun K hK=>?_)
    go_simp
    refine (A3j HC132.out).mono ?_
    rintro e w8 ⟨rfl,rfl⟩
    refine hK.out _ _ t0 ?_
    clear hK K
    iterate 4
     refine A2 ?_ rfl (by rfl) (fun w' hs=>?_) (fun _ _ _ h=>h) ?_
     rotate_left
     ·clear hs
      go_simp
      try rfl
     simp only [Act.put,D7,D6,D5]
    refine A5 rfl (fun K hK=>?_)
    go_simp
    refine (A2I 10 _).mono ?_
    rintro e w9 ⟨rfl,rfl⟩
    go_wp2
    refine ⟨rfl,?_⟩
    rw [HW.out]
    exact ⟨rfl,own,c,n,_,S,H6.out,fun h=>absurd h (by decide)⟩
  ·have h1I:¬ (p:Int)≤l:=by omega
   have hd1:decide ((p:Int)≤l)=false:=decide_eq_false h1I
   have HW:Hid (W5 act turn f S = .stop 10 (U1 f) S):=by
    show _=_
    unfold W5;rw [HM.out,HOF.out];simp only [Int.toNat_natCast]
    rw [if_pos (by rw [HL.out];omega)]
   go_wp2_with fail
   refine A7 T [] (.pure 0 (.pure 1 (.pure 2 (.pure 4 (.take 5 (.alt 3 (.pure 6 (.pure 7 (.take 8 (.take 9 (.take 10 (.take 11 (.take 12 (.take 13 (.take 14 (.take 15 (.take 16 (.take 17 (.take 18 (.pure 19 (.alt 20 .fin .stop))))))))))))))) .stop)))))) (by kernel_rfl) (by kernel_rfl) ?_
   iterate 5
    first
    |refine A2 ?_ rfl (by rfl) (fun w' hs=>?_) (fun _ _ _ h=>h) ?_
     rotate_left
     ·clear hs
      go_simp
      try rfl
     simp only [Act.put,D7,D6,D5]
    |refine A9 ?_ t0 rfl (by rfl) (fun w' hs=>?_) (fun _ _ _ h=>h) ?_
     rotate_left
     ·rw [HTT.out] at hs
      obtain ⟨q1,q2⟩:=hs;have q3:=World.row?_cell q2 (i:=0) (by omega);have q4:=World.row?_cell q2 (i:=1) (by omega);simp only [Nat.zero_add,List.getElem?_cons_zero,List.getElem?_cons_succ] at q3 q4
      go_simp
      try rfl
     simp only [Act.put,D7,D6,D5]
   refine A5 rfl (fun K hK=>?_)
   go_simp
   refine (A3j HC132.out).mono ?_
   rintro e w8 ⟨rfl,rfl⟩
   refine hK.out _ _ t0 ?_
   clear hK K
   iterate 2
    refine A2 ?_ rfl (by rfl) (fun w' hs=>?_) (fun _ _ _ h=>h) ?_
    rotate_left
    ·clear hs
     go_simp
     try rfl
    simp only [Act.put,D7,D6,D5]
   iterate 11
    refine A6A t0 rfl (by rfl) (fun _ _ _ h=>h) ?_
    simp only [Act.put,D7,D6,D5]
   refine A2 ?_ rfl (by rfl) (fun w' hs=>?_) (fun _ _ _ h=>h) ?_
   rotate_left
   ·clear hs
    go_simp
    try rfl
   simp only [Act.put,D7,D6,D5]
   refine A5 rfl (fun K hK=>?_)
   go_simp
   refine (A2I 10 _).mono ?_
   rintro e w9 ⟨rfl,rfl⟩
   go_wp2
   refine ⟨rfl,?_⟩
   rw [HW.out]
   exact ⟨rfl,own,c,n,_,S,H6.out,fun h=>absurd h (by decide)⟩
end Go.Proofs.YtfflppedbopdpaaGreat
