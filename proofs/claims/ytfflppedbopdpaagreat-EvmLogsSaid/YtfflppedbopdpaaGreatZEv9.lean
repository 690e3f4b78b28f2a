/- A part of the proof of EvmLogs: ZEv9. -/
import Derived.Test.YtfflppedbopdpaaGreatZEv7
import Derived.Test.YtfflppedbopdpaaGreatZSeg
import Derived.Test.YtfflppedbopdpaaGreatZOps3
set_option linter.unusedVariables false
set_option maxRecDepth 1000000
set_option maxHeartbeats 8000000
set_option linter.unusedSimpArgs false
namespace Go.Proofs.YtfflppedbopdpaaGreat
open Go.RowKit Go.Mun

def U8 (step:Fr→St→Res):Nat→Fr→St→Option (Nat × Fr × St)
 | 0,_,_=>none
 | k+1,f,S=>if f.ended=true∨f.code.length≤f.next then some (0,f,S) else match step f S with
  | .ok f' S'=>U8 step k f' S'
  | .stop x f' S'=>if x=0 then none else some (x,f',S')
  | .none=>none
def A2z (sb rb tb:Nat) (cx:Ctx) (tab:Y2) (step:Fr→St→Res):Prop:=
 ∀ (E:Env) (w:World) (own:Own) (c:FV) (f:Fr) (S:St) (n:Nat),E.sb=sb→E.rb=rb→E.tb=tb→E.cx=cx→E.tab=tab→E.N≤1099511627776→E6 E w own c f S n→f.next < f.code.length→step f S≠.none →
  Calls Tryz.prog 352 #[.pointer (some ⟨E.fb,0,none⟩)] w (A1E E (step f S))
theorem A7W {E:Env} {w:World} {own:Own} {c:FV} {f f':Fr} {S S':St} {n K x:Nat} {step:Fr→St→Res} (hE:E.kp w.heap.size∧E.kw.heap[w.heap.size]? = some (.cells #[.int .i64 0] 38)) (hs:A2z E.sb E.rb E.tb E.cx E.tab step) (hN:E.N≤1099511627776)
  (h:E6 E (w.alloc (.cells #[.int .i64 0] 38)) own c f S n) (hl:U8 step K f S=some (x,f',S')) :
  Calls Tryz.prog 297 #[.pointer (some ⟨E.fb,0,none⟩)] w fun e w'=>e = .returned (.int .i64 x)∧∃ own' c' f'' S'' n' w1,E6 E w1 own' c' f'' S'' n'∧A0 (fun b=>b=w.heap.size) w1 w'∧(x=0→f''=f'∧S''=S')∧(x=15→f''.gas=f'.gas∧f''.out=f'.out):=by
 obtain ⟨he,heo⟩:=hE
 have hkeep:∀ {w1:World} {own c f S n},E6 E w1 own c f S n→w1.cell? ⟨w.heap.size,0,none⟩=some (.int .i64 0)∧w1.free? w.heap.size 0 1=true:=by
  intro w1 own c f S n h1
  have:=(h1.keep _ he).2.1
  rw [heo] at this
  exact ⟨by simp [World.cell?,this],by simp [World.free?,this]⟩
 refine (B2U E.fb K w (fun k w1 => ∃ own c f S n,E6 E w1 own c f S n∧U8 step k f S=some (x,f',S')) (fun y w1=>y=x∧∃ own c f'' S'' n,E6 E w1 own c f'' S'' n∧x≠0∧(x=15→f''.gas=f'.gas∧f''.out=f'.out)) ⟨own,c,f,S,n,h,hl⟩ ?_ ?_ ?_ ?_).mono ?_
 ·rintro k w1 ⟨own,c,f,S,n,h1,h2⟩
  exact ⟨own,c,f,S,n,h1.below (Below.refl _ _).drew,h2⟩
 ·rintro k w1 ⟨own,c,f,S,n,h1,h2⟩
  obtain ⟨k1,k2⟩:=hkeep h1
  obtain ⟨⟨ca,cc,hcv,_,_⟩,_,_⟩:=h1.code
  exact ⟨k1,k2,f.ended,f.next,f.code.length,cc,ca,A5H h1.row,A4Q h1.row,by rw [← hcv];exact A2M h1.row⟩
 ·rintro y w1 ⟨rfl,own,c,f'',S'',n,h1,_⟩
  exact hkeep h1
 ·rintro k w1 nx a nn cc ⟨own,c,f,S,n,h1,h2⟩ c1 c2 c3 hlt
  have e1:=(A5H h1.row).symm.trans c1
  have e2:=(A4Q h1.row).symm.trans c2
  obtain ⟨⟨ca,cc',hcv,_,_⟩,_,_⟩:=h1.code
  have e3:=(A2M h1.row).symm.trans c3
  rw [hcv] at e3
  simp only [Option.some.injEq,Value.bool.injEq,Value.int.injEq,Value.slice.injEq,true_and] at e1 e2 e3
  have hnx:f.next=nx:=by omega
  have hcl:f.code.length=nn:=e3.2.1
  cases k with
  | zero=>simp [U8] at h2
  | succ k =>
   rw [U8,if_neg (by rw [e1];rintro (h | h);exact absurd h (by simp);omega)] at h2
   have hne:step f S≠.none:=by intro e;rw [e] at h2;cases h2
   refine (hs E w1 own c f S n rfl rfl rfl rfl rfl hN h1 (by omega) hne).mono ?_
   intro e w2 hp
   cases hr:step f S with
   | ok f1 S1 =>
    rw [hr] at h2 hp
    obtain ⟨rfl,own1,c1,n1,h3⟩:=hp
    exact .inl ⟨rfl,k,Nat.lt_succ_self k,own1,c1,f1,S1,n1,h3,h2⟩
   | stop y f1 S1 =>
    rw [hr] at h2 hp
    by_cases hy:y=0
    ·simp only [hy,if_true] at h2;cases h2
    simp only [if_neg hy,Option.some.injEq,Prod.mk.injEq] at h2
    obtain ⟨rfl,rfl,rfl⟩:=h2
    obtain ⟨rfl,own1,c1,n1,f2,S2,h3,h4⟩:=hp
    exact .inr ⟨_,rfl,rfl,own1,c1,f2,S2,n1,h3,hy,h4⟩
   | none=>exact absurd hr hne
 ·rintro e w' (⟨rfl,k,w1,⟨own,c,f1,S1,n,h1,h2⟩,hend,rfl⟩ | ⟨y,w1,rfl,⟨rfl,own,c,f1,S1,n,h1,h0,h2⟩,rfl⟩)
  ·obtain ⟨en,nx,nn,cc,a,c1,c2,c3,hd⟩:=hend
   have e1:=(A5H h1.row).symm.trans c1
   have e2:=(A4Q h1.row).symm.trans c2
   obtain ⟨⟨ca,cc',hcv,_,_⟩,_,_⟩:=h1.code
   have e3:=(A2M h1.row).symm.trans c3
   rw [hcv] at e3
   simp only [Option.some.injEq,Value.bool.injEq,Value.int.injEq,Value.slice.injEq,true_and] at e1 e2 e3
   have hcl:f1.code.length=nn:=e3.2.1
   cases k with
   | zero=>simp [U8] at h2
   | succ k =>
    rw [U8,if_pos (by rcases hd with h | h;exact .inl (e1.trans h);exact .inr (by omega))] at h2
    simp only [Option.some.injEq,Prod.mk.injEq] at h2
    obtain ⟨rfl,rfl,rfl⟩:=h2
    exact ⟨rfl,own,c,_,_,n,w1,h1,A0.setCell (S:=fun b=>b=w.heap.size) (A0.refl _ _) (p:=⟨w.heap.size,0,none⟩) (fun _=>rfl) _,fun _=>⟨rfl,rfl⟩,fun _=>⟨rfl,rfl⟩⟩
  ·refine ⟨rfl,own,c,_,_,n,w1,h1,A0.setCell (S:=fun b=>b=w.heap.size) ((A0.refl _ _).alloc _) (p:=⟨w.heap.size,0,none⟩) (fun _=>rfl) _,fun h=>absurd h h0,h2⟩
structure U4 (w:World) (own:Own) (B:Nat) (ov lv:Value) (o:A1q):Prop where
 out:J3 w (fun b=>own b≠none∨b < B) ov o.out
 logs:∃ cs,w.ownsRow 0 58 22 lv o.logs.length cs∧U5 w (fun b=>own b≠none∨b < B) cs o.logs
 lown:∀ g,lv.ownBlock=some g→own g=none∧B≤g
theorem U4.chg {w w':World} {own own':Own} {B:Nat} {ov lv:Value} {o:A1q} (h:U4 w own B ov lv o) (g:T6 w w' own own'):U4 w' own' B ov lv o:=by
 have hX:∀ b,b < w.heap.size→(own' b≠none∨b < B)→(own b≠none∨b < B):=fun b hb hx=>by rw [← g.ext b hb];exact hx
 obtain ⟨cs,h1,h2⟩:=h.logs
 have hl:=B0 h1
 exact ⟨h.out.only g.only (fun _ h => .inl h) hX,⟨cs,A0.own h1 g.only (fun b hb hx=>hx (h.lown b hb).1),h2.only g.only (fun _ h => .inl h) hX⟩,fun b hb=>by rw [g.ext b (hl b hb)];exact h.lown b hb⟩
theorem U4.box {w w':World} {own:Own} {B b:Nat} {ov lv:Value} {o:A1q} (h:U4 w own B ov lv o) (hb:b < B) (ho:A0 (· = b) w w'):U4 w' own B ov lv o:=by
 obtain ⟨cs,h1,h2⟩:=h.logs
 exact ⟨h.out.only ho (fun c hc => .inr (by omega)) (fun _ _ h=>h),⟨cs,A0.own h1 ho (fun c hc e=>by have:=(h.lown c hc).2;omega),h2.only ho (fun c hc => .inr (by omega)) (fun _ _ h=>h)⟩,h.lown⟩
theorem U4.mono {w:World} {own:Own} {B B':Nat} {ov lv:Value} {o:A1q} (h:U4 w own B ov lv o) (hb:B'≤B):U4 w own B' ov lv o:=by
 obtain ⟨cs,h1,h2⟩:=h.logs
 have hX:∀ b,b < w.heap.size→(own b≠none∨b < B')→(own b≠none∨b < B):=fun b _ hx=>hx.imp id (fun h=>by omega)
 exact ⟨h.out.only (R:=fun _=>False) (A0.refl _ _) (fun _ h=>h.elim) hX,⟨cs,h1,h2.only (R:=fun _=>False) (A0.refl _ _) (fun _ h=>h.elim) hX⟩,fun g hg=>⟨(h.lown g hg).1,Nat.le_trans hb (h.lown g hg).2⟩⟩
theorem E6.leave {E:Env} {w w':World} {own:Own} {c:FV} {f:Fr} {S:St} {n:Nat} (h:E6 E w own c f S n) (ho:A0 E.kp w w') (hb:∀ b,E.kp b→E.w0.heap.size≤b) (e:Int) (a:Nat) :
  w'.row? E.fb 0 141=some (B8 (frS E.rb c f))∧StateAt TU w' own E.sb S E.M n∧T6 E.w0 w' E.own0 own∧U4 w' own E.w0.heap.size c.out c.lv ⟨f.gas,e,f.out,f.logs,a⟩:=by
 have hfe:¬ E.kp E.fb:=fun e=>(h.keep _ e).2.2.2 (.inl rfl)
 have hR:∀ b,E.kp b→mn E own c b:=fun b hb => .inl (.inl (.inr hb))
 have hX:∀ b,b < w.heap.size→(own b≠none∨b < E.w0.heap.size)→mn E own c b:=fun b _ hb=>hb.imp (fun h => .inl (.inl h)) id
 obtain ⟨cs,h1,h2⟩:=h.logs
 refine ⟨by rw [ho.row? h.lt hfe];exact h.row,h.st.only ho (fun b hb=>(h.keep b hb).2.2.1),⟨h.chg.ext,h.chg.only.trans ho (fun i hi he=>by have:=hb i hi;omega)⟩,h.out.only ho hR hX,⟨cs,?_,h2.only ho hR hX⟩,fun g hg=>⟨(h.lown g hg).1,E4 h1 g hg⟩⟩
 exact D9 (A0.own h1 ho (fun g hg e=>(h.keep g e).2.2.2 (.inr (.inr (.inr hg))))) (Nat.zero_le _)
def P3 (m:Msg) (code:J1):Fr:=⟨m,code,[],[],0,0,m.gas.toNat,[],[],[],false⟩
theorem B6g:A1n A39 = [1,129,1,1,1,1,1,1,1,1,1,1,1]:=by kernel_rfl
theorem B4V (rb:Nat) (m:Msg) (dv:Value) (a b:Option Addr) (k kc j jc g:Nat) :
  F8 141 (N8 A39) (B8 A39) [(0,.pointer (some ⟨rb,0,none⟩)),(1,.agg (B8 (I0 m dv)).toArray),(2,.slice a k kc),(3,.slice b j jc),(8,.int .i64 g)] =
   some (B8 (frS rb ⟨.slice a k kc,.slice b j jc,.slice none 0 0,.slice none 0 0,.slice none 0 0,.slice none 0 0,.slice none 0 0,dv⟩ ⟨m,[],[],[],0,0,g,[],[],[],false⟩)):=by
 rw [F7 _ _ _ A6u]
 ·rfl
 ·rw [B6g]
  refine C0 rfl (C0 ?_ (C0 rfl (C0 rfl (C0 rfl (L0 _)))))
  show some 129=some (B8 (I0 m dv)).length
  rw [N4]
theorem A7R:A1n L3 = [1,1,1,1,20]:=by kernel_rfl
theorem B6G (g e:Int) (a b:Option Addr) (k kc j jc:Nat) :
  F8 24 (N8 L3) (B8 L3) [(0,.int .i64 g),(1,.int .i64 e),(2,.slice a k kc),(3,.slice b j jc)]=some (B8 (F3 ⟨g,e,[],[],0⟩ (.slice a k kc) (.slice b j jc))):=by
 rw [F7 _ _ _ K1]
 ·rfl
 ·rw [A7R]
  exact C0 rfl (C0 rfl (C0 rfl (C0 rfl (L0 _))))
theorem N7 (o:A1q) (a b:Option Addr) (k kc j jc:Nat):Q3 24 (B8 (F3 o (.slice a k kc) (.slice b j jc)))=true:=by
 refine A0Y (O7 _ _ _) fun s hs=>?_
 simp only [F3,List.mem_cons,List.not_mem_nil,or_false] at hs
 rcases hs with rfl | rfl | rfl | rfl | rfl
 all_goals first | rfl | (rw [C4];exact D2 20 _)
structure B1R (w:World) (own:Own) (sb rb tb:Nat) (cx:Ctx) (tab:Y2) (S:St) (M:List (Nat × St)) (n N:Nat):Prop where
 st:StateAt TU w own sb S M n
 run:A0p w own sb rb tb cx tab
 lim:N≤1099511627776
theorem B55 {w:World} {own:Own} {fb:Nat} {kp:Nat→Prop} {ca ja:Option Addr} {k kc j jc:Nat} {dv:Value} (hf:w.heap.size≤fb) (he:∀ b,kp b→w.heap.size≤b) :
  ∀ b,b < w.heap.size→mu own fb kp ⟨.slice ca k kc,.slice ja j jc,.slice none 0 0,.slice none 0 0,.slice none 0 0,.slice none 0 0,.slice none 0 0,dv⟩ b→own b≠none:=by
 rintro b hb ((h | h) | h | h | h | h)
 ·exact h
 ·have:=he b h;omega
 ·omega
 ·simp [Value.ownBlock] at h
 ·simp [Value.ownBlock] at h
 ·simp [Value.ownBlock] at h
theorem B2V {w w2:World} {own:Own} {sb rb tb:Nat} {cx:Ctx} {tab:Y2} {S:St} {M:List (Nat × St)} {n N g kc jc B:Nat} {m:Msg} {dv:Value} {code:J1} {ca ja:Option Addr}
  (h:B1R w own sb rb tb cx tab S M n N) (hm:A1X m) (hg:m.gas=g) (hd:J3 w (fun b=>own b≠none) dv m.data) (hc:J3 w (fun b=>own b≠none) (.slice ca code.length kc) code) (hn:n+m.gas.toNat≤N) (hb:Below w.heap.size w w2) {kp0:Nat→Prop} (hk0:∀ b,kp0 b→w.heap.size≤b∧b < B) (hBs:B≤w2.heap.size) (hB:w.heap.size≤B)
  (hj:w2.ownsRow B 3 1 (.slice ja (jumps code code.length 0).length jc) (jumps code code.length 0).length ((jumps code code.length 0).map (Value.int .i64))) {w3:World}
  (hw3:w3=w2.alloc (.cells (B8 (frS rb ⟨.slice ca code.length kc,.slice ja (jumps code code.length 0).length jc,.slice none 0 0,.slice none 0 0,.slice none 0 0,.slice none 0 0,.slice none 0 0,dv⟩ ⟨m,[],[],[],0,0,g,[],[],[],false⟩)).toArray 212)) :
  E6 ⟨w,own,sb,rb,tb,w2.heap.size,cx,tab,M,N,fun b=>kp0 b∨b=w3.heap.size,w3.alloc (.cells #[.int .i64 0] 38)⟩ (w3.alloc (.cells #[.int .i64 0] 38)) own
   ⟨.slice ca code.length kc,.slice ja (jumps code code.length 0).length jc,.slice none 0 0,.slice none 0 0,.slice none 0 0,.slice none 0 0,.slice none 0 0,dv⟩ (P3 m code) S n:=by
 have hsz:w3.heap.size=w2.heap.size+1:=by rw [hw3];simp
 have hb3:Below w.heap.size w w3:=by rw [hw3];exact hb.alloc hb.size _
 have hb4:Below w.heap.size w (w3.alloc (.cells #[.int .i64 0] 38)):=hb3.alloc hb3.size _
 have hle:=hb.size
 have hl:=h.st.lows
 have ho:A0 (fun _=>False) w (w3.alloc (.cells #[.int .i64 0] 38)):=A0.of_below_size hb4
 have hmu:=B55 (w:=w) (own:=own) (fb:=w2.heap.size) (kp:=fun b=>kp0 b∨b=w3.heap.size) (ca:=ca) (ja:=ja) (k:=code.length) (kc:=kc) (j:=(jumps code code.length 0).length) (jc:=jc) (dv:=dv) hle (fun b hb=>by rcases hb with hb | hb;exact (hk0 b hb).1;omega)
 have hgn:m.gas.toNat=g:=by omega
 have hnil:∀ gg,(Value.slice none 0 0).ownBlock≠some gg:=fun gg=>by simp [Value.ownBlock]
 refine { row := ?_, free := ?_, base := hle, fown := D4 hl hle, chg := T6.below own hb4, run := h.run, mok := hm, stk := ⟨rfl, .inl ⟨rfl, rfl⟩⟩, sown := fun gg hgg => absurd hgg (hnil gg), sval := fun x hx => (by cases hx), slen := Nat.zero_le _,
          mem:=⟨rfl,.inl ⟨rfl,rfl⟩⟩,mown:=fun gg hgg=>absurd hgg (hnil gg),mbyte:=fun x hx=>(by cases hx),mlen:=⟨Nat.zero_le _,rfl⟩,logs:=⟨[],⟨rfl,.inl ⟨rfl,rfl⟩⟩,.nil⟩,lown:=fun gg hgg=>absurd hgg (hnil gg),llen:=Nat.zero_le _,
          code:=hc.only ho (fun _ h=>h.elim) hmu,jmp:=?_,data:=hd.only ho (fun _ h=>h.elim) hmu,ret:=V1 _ _,out:=V1 _ _,st:=h.st.below hb4,cnt:=hn,nxt:=⟨Nat.zero_le _,Nat.zero_le _⟩,keep:=?_ }
 ·show (w3.alloc _).row? w2.heap.size 0 141=_
  rw [World.row?_alloc_lt _ (by omega),hw3,World.row?_alloc_at _ _ _ rfl (A7X _ _ _)]
  unfold P3 frS
  rw [hgn]
 ·show (w3.alloc _).free? w2.heap.size 0 141=_
  rw [World.free?_alloc_lt _ (by omega),hw3]
  exact World.free?_alloc_at _ _ rfl (by rw [A7X];omega)
 ·obtain ⟨a',c',e1,_,hi⟩:=G9.of_own' hj
  cases e1
  refine ⟨ja,jc,rfl,?_,fun hne p hp hx=>?_⟩
  ·exact hi.below (((Below.refl _ _).alloc (Nat.le_refl _) _).trans (((Below.refl _ _).alloc (Nat.le_refl _) _).mono (by rw [← hw3];omega)) |> fun hh=>by rw [← hw3] at hh;exact hh)
  ·have hblk:∀ gg,(Value.slice ja (jumps code code.length 0).length jc).ownBlock=some gg→B≤gg∧gg < w2.heap.size:=fun gg hgg=>⟨E4 hj gg hgg,B0 hj gg hgg⟩
   have h1:=hblk p.block (by rw [hp];rfl)
   rcases hx with (hx | hx | hx) | hx | hx | hx | hx
   ·exact hx (D4 hl (by omega))
   ·have:=hk0 _ hx;omega
   ·have:p.block=w3.heap.size:=hx;omega
   ·have:p.block=w2.heap.size:=hx;omega
   ·exact absurd hx (hnil _)
   ·exact absurd hx (hnil _)
   ·exact absurd hx (hnil _)
 ·intro b hkb
  have h1:w.heap.size≤b∧b≤w3.heap.size∧b≠w2.heap.size:=by
   rcases hkb with hb' | hb'
   ·have:=hk0 b hb';exact ⟨by omega,by omega,by omega⟩
   ·exact ⟨by omega,by omega,by omega⟩
  refine ⟨by rw [World.size_alloc];omega,rfl,D4 hl h1.1,?_⟩
  rintro (hx | hx | hx | hx)
  ·exact h1.2.2 hx
  ·exact absurd hx (hnil _)
  ·exact absurd hx (hnil _)
  ·exact absurd hx (hnil _)
theorem A5K {w:World} {own:Own} {sb rb tb:Nat} {cx:Ctx} {tab:Y2} {S S':St} {M:List (Nat × St)} {n N K x:Nat} {f':Fr} {m:Msg} {dv cv:Value} {code:J1} {step:Fr→St→Res}
  (h:B1R w own sb rb tb cx tab S M n N) (hm:A1X m) (hg:0≤m.gas) (hd:J3 w (fun b=>own b≠none) dv m.data) (hc:J3 w (fun b=>own b≠none) cv code) (hn:n+m.gas.toNat≤N) (hs:A2z sb rb tb cx tab step)
  (hl:U8 step K (P3 m code) S=some (x,f',S')) :
  Calls Tryz.prog 239 #[.pointer (some ⟨rb,0,none⟩),.agg (B8 (I0 m dv)).toArray,cv] w fun e w' => ∃ o ov lv own' n' S'',e = .returned (.agg (B8 (F3 o ov lv)).toArray)∧StateAt TU w' own' sb S'' M n'∧T6 w w' own own'∧U4 w' own' w.heap.size ov lv o ∧
   0≤o.gas∧n'+o.gas.toNat≤N∧o.err=x∧o.addr=0∧o.logs.length≤n'∧(x=0→o.gas=f'.gas∧o.out=f'.out∧o.logs=f'.logs∧S''=S')∧(x=15→o.gas=f'.gas∧o.out=f'.out):=by
 have hml:=N4 m dv
 obtain ⟨⟨ca,cc,rfl,hci,hcx⟩,hcb,hcl⟩:=hc
 have HCR:Hid (J3 w (fun b=>own b≠none) (.slice ca code.length cc) code):=⟨⟨ca,cc,rfl,hci,hcx⟩,hcb,hcl⟩
 have HD:=hid hd
 have HL:=hid hl
 have HS:=hid hs
 have H:=hid h
 obtain ⟨w1,e1⟩:∃ w1,w1=(w.alloc (.cells (B8 (I0 m dv)).toArray 37)).alloc (.cells (B8 L3).toArray 41):=⟨_,rfl⟩
 have hb1:Below w.heap.size w w1:=by rw [e1];exact ((Below.refl _ _).alloc (Nat.le_refl _) _).alloc (by simp) _
 have hr1:w1.row? w.heap.size 0 129=some (B8 (I0 m dv)):=by rw [e1,World.row?_alloc_lt _ (by simp)];exact World.row?_alloc_at _ _ _ rfl hml
 have hf1:w1.free? (w.heap.size+1) 0 24=true:=by rw [e1];exact World.free?_alloc_at _ _ (by simp) (by rw [K1];omega)
 have hs1:w1.heap.size=w.heap.size+1+1:=by rw [e1];simp
 have HE:=hid e1
 have HB1:=hid hb1
 have HR1:=hid hr1
 have HF1:=hid hf1
 have HS1:=hid hs1
 have HJ:=hid (B2w ca cc code w1.drew (hci.below hb1.drew) (fun i hi=>by
  have:=hcb (code[i]?.getD 0) (by rw [List.getElem?_eq_getElem hi];exact List.getElem_mem _)
  omega) hcl)
 clear hd hl hs h e1 hb1 hr1 hf1 hs1 hci hcx hcb
 obtain ⟨g,hgg⟩:∃ g:Nat,m.gas=g:=⟨m.gas.toNat,by omega⟩
 have HG:=hid hgg
 clear hg hgg
 go_enter Tryz.func239,Tryz.ntmps239
 go_wp2_with fail
 rw [← HE.out]
 obtain ⟨T,hT⟩:∃ T:World→Prop,T=fun w'=>w'.row? w.heap.size 0 129=some (B8 (I0 m dv)):=⟨_,rfl⟩
 have HT:=hid hT
 have t0:T w1.drew:=by rw [hT];exact HR1.out
 have tb:∀ w2 w3,T w2→Below w2.heap.size w2 w3→T w3:=by
  rw [hT];intro w2 w3 h1 hb;exact ((C7 hb).1 _ _ _ (World.row?_lt h1)).trans h1
 have HTB:=hid tb
 clear hT tb hml
 refine A7 T [] (.pure 0 (.take 1 (.pure 2 (.pure 3 (.pure 5 (.take 6 (.alt 4 (.pure 7 (.alt 8 (.pure 9 .fin) .stop)) .stop))))))) (by kernel_rfl) (by kernel_rfl) ?_
 iterate 6
  first
  |refine A2 ?_ rfl (by rfl) (fun w' hs=>?_) (fun _ _ _ h=>h) ?_
   rotate_left
   ·clear hs
    go_simp
    try rfl
   simp only [Act.put,D7,D6,D5]
  |refine A9 ?_ t0 rfl (by rfl) (fun w' hs=>?_) (fun _ _ _ h=>h) ?_
   rotate_left
   ·rw [HT.out] at hs
    have q1:=B56 hs;rw [HG.out] at q1;simp only [Nat.zero_add] at q1
    go_simp
    try rfl
   simp only [Act.put,D7,D6,D5]
 refine A5 rfl (fun K hK=>?_)
 go_simp
 refine HJ.out.mono ?_
 rintro e w2 ⟨v,rfl,ho2,hb2⟩
 obtain ⟨ja,jc,rfl⟩:=Q7 ho2
 have t1:T w2:=HTB.out _ _ t0 hb2
 have hbuild:=B4V rb m dv ca ja code.length cc (jumps code code.length 0).length jc g
 have HO2:=hid ho2
 have HB2:=hid hb2
 clear ho2 hb2 t0
 refine hK.out _ _ t1 ?_
 clear hK K
 refine A2 ?_ rfl (by rfl) (fun w' hs=>?_) (fun _ _ _ h=>h) ?_
 rotate_left
 ·clear hs
  go_simp
  try rfl
 simp only [Act.put,D7,D6,D5]
 refine A5 rfl (fun K hK=>?_)
 go_simp
 have t2:T (w2.alloc (.cells (B8 (frS rb ⟨.slice ca code.length cc,.slice ja (jumps code code.length 0).length jc,.slice none 0 0,.slice none 0 0,.slice none 0 0,.slice none 0 0,.slice none 0 0,dv⟩ ⟨m,[],[],[],0,0,g,[],[],[],false⟩)).toArray 212)):=HTB.out _ _ t1 ((Below.refl _ _).alloc (Nat.le_refl _) _)
 refine hK.out _ _ t2 ?_
 clear hK K
 refine A2 ?_ rfl (by rfl) (fun w' hs=>?_) (fun _ _ _ h=>h) ?_
 rotate_left
 ·clear hs
  go_simp
  try rfl
 simp only [Act.put,D7,D6,D5]
 refine C2 ?_
 have hb12:Below w1.heap.size w1 w2:=((Below.refl _ _).drew).trans HB2.out
 obtain ⟨w3,e3⟩:∃ w3,w3=w2.alloc (.cells (B8 (frS rb ⟨.slice ca code.length cc,.slice ja (jumps code code.length 0).length jc,.slice none 0 0,.slice none 0 0,.slice none 0 0,.slice none 0 0,.slice none 0 0,dv⟩ ⟨m,[],[],[],0,0,g,[],[],[],false⟩)).toArray 212):=⟨_,rfl⟩
 have hbb:Below w.heap.size w w2:=HB1.out.trans (hb12.mono HB1.out.size)
 have hF:=B2V (kp0:=fun b=>b=w.heap.size∨b=w.heap.size+1) H.out hm HG.out HD.out HCR.out hn hbb (B:=w1.drew.heap.size) (fun b hb=>by have:=HS1.out;have e:w1.drew.heap.size=w1.heap.size:=rfl;rw [e,this];rcases hb with hb | hb <;> omega) HB2.out.size HB1.out.size HO2.out e3
 have hRUN:=A7W (E:=⟨w,own,sb,rb,tb,w2.heap.size,cx,tab,M,N,fun b=>(b=w.heap.size∨b=w.heap.size+1)∨b=w3.heap.size,w3.alloc (.cells #[.int .i64 0] 38)⟩) (w:=w3) ⟨.inr rfl,heap_alloc_new w3 _⟩ HS.out H.out.lim hF HL.out
 have HRUN:=hid hRUN
 have hw3:w3.heap.size=w2.heap.size+1:=by rw [e3];simp
 have hx1:=hb12.size
 have HB12:=hid hb12
 have HW3:=hid hw3
 have HX1:=hid hx1
 rw [← e3]
 have HBB:=hid hbb
 have E3:=hid e3
 clear t1 t2 hF hRUN hbb hb12 e3 hbuild HT HTB HB2 HO2 HJ hw3 hx1 T
 go_wp2_with fail
 refine HRUN.out.mono ?_
 rintro e w5 ⟨rfl,own',c',f2,S2,n',w4,h4,ho,hx0,hx15⟩
 have hkp:∀ b,(fun b=>(b=w.heap.size∨b=w.heap.size+1)∨b=w3.heap.size) b→w.heap.size≤b:=by
  have h1:=HW3.out;have h2:=HBB.out.size
  rintro b ((hb | hb) | hb) <;> omega
 have ho5:A0 (fun b=>(b=w.heap.size∨b=w.heap.size+1)∨b=w3.heap.size) w4 w5:=ho.mono (fun b hb => .inr hb)
 obtain ⟨r5,st5,g5,oa5⟩:=h4.leave ho5 hkp x 0
 have hk6:=(h4.keep (w.heap.size+1) (.inl (.inr rfl))).2.1
 have H4:=hid h4
 have HO5:=hid ho5
 have HKP:=hid hkp
 have hcnt:=h4.cnt
 have hll:=h4.llen
 obtain ⟨⟨oa,oc,hov,_,_⟩,_,_⟩:=oa5.out
 obtain ⟨lcs,hlr,_⟩:=oa5.logs
 obtain ⟨la,lc,hlv⟩:=Q7 hlr
 have c136:=B0p r5
 have c138:=B78 r5
 have c139:=B62 r5
 simp only at c136 c138 c139 hov hlv
 rw [hov] at c138 oa5
 rw [hlv] at c139 oa5
 have hf5:w5.free? (w.heap.size+1) 0 24=true:=by
  have n1:¬ w.heap.size+1=w3.heap.size:=by have h1:=HW3.out;have h2:=HX1.out;have h3:=HS1.out;omega
  rw [ho.free? (h4.keep (w.heap.size+1) (.inl (.inr rfl))).1 n1,World.free?_of_block hk6,World.free?_alloc_lt _ (by have h1:=HW3.out;have h2:=HX1.out;have h3:=HS1.out;omega),E3.out,World.free?_alloc_lt _ (by have h2:=HX1.out;have h3:=HS1.out;omega)]
  rw [(C7 HB12.out).2 _ _ _ (by rw [HS1.out];omega)];exact HF1.out
 have hbld:=B6G f2.gas x oa la f2.out.length oc f2.logs.length lc
 have hok:=N7 ⟨f2.gas,x,[],[],0⟩ oa la f2.out.length oc f2.logs.length lc
 have HOV:=hid hov
 have HLV:=hid hlv
 have ST5:=hid st5
 have G5:=hid g5
 have OA5:=hid oa5
 have HX0:=hid hx0
 have HX15:=hid hx15
 have HCNT:=hid hcnt
 have HLL:=hid hll
 obtain ⟨T,hT⟩:∃ T:World→Prop,T=fun w'=>w'.cell? ⟨w2.heap.size,136,none⟩=some (.int .i64 (f2.gas:Nat))∧w'.cell? ⟨w2.heap.size,138,none⟩=some (.slice oa f2.out.length oc)∧w'.cell? ⟨w2.heap.size,139,none⟩=some (.slice la f2.logs.length lc):=⟨_,rfl⟩
 have HT:=hid hT
 have t0:T w5.drew:=by rw [hT];exact ⟨c136,c138,c139⟩
 have HF5:=hid hf5
 clear hT r5 st5 g5 oa5 hx0 hx15 hcnt hll hov hlr hlv h4 ho ho5 hkp hk6 HRUN c136 c138 c139
 go_wp2_with fail
 have hfd:w5.drew.free? (w.heap.size+1) 0 24=true:=hf5
 refine A7 T [14] (.pure 0 (.pure 1 (.pure 2 (.take 3 (.pure 4 (.pure 5 (.pure 6 (.pure 7 (.take 8 (.pure 9 (.pure 10 (.pure 11 (.take 12 (.pure 13 (.alt 14 .fin .stop))))))))))))))) (by kernel_rfl) (by kernel_rfl) ?_
 iterate 14
  first
  |refine A2 ?_ rfl (by rfl) (fun w' hs=>?_) (fun _ _ _ h=>h) ?_
   rotate_left
   ·clear hs
    go_simp
    try rfl
   simp only [Act.put,D7,D6,D5]
  |refine A9 ?_ t0 rfl (by rfl) (fun w' hs=>?_) (fun _ _ _ h=>h) ?_
   rotate_left
   ·rw [HT.out] at hs
    obtain ⟨q1,q2,q3⟩:=hs
    go_simp
    try rfl
   simp only [Act.put,D7,D6,D5]
 refine J8 rfl (by simp) (fun K hK=>?_)
 go_simp
 refine hK.out _ _ ?_
 clear hK K
 refine C2 ?_
 go_wp2
 have ho6:A0 (fun b=>(b=w.heap.size∨b=w.heap.size+1)∨b=w3.heap.size) w4 (w5.drew.setCells (w.heap.size+1) 0 (B8 (F3 ⟨f2.gas,x,[],[],0⟩ (.slice oa f2.out.length oc) (.slice la f2.logs.length lc)))):=HO5.out.drew.setCells (fun _ => .inl (.inr rfl)) _ _
 obtain ⟨_,st6,g6,oa6⟩:=H4.out.leave ho6 HKP.out x 0
 exact I2 A2T rfl _ rfl rfl hfd hok ⟨⟨f2.gas,x,f2.out,f2.logs,0⟩,_,_,own',n',S2,rfl,st6,g6,by rw [HOV.out,HLV.out] at oa6;exact oa6,Int.natCast_nonneg _,by simpa using HCNT.out,rfl,rfl,HLL.out,fun h=>(by obtain ⟨rfl,rfl⟩:=HX0.out h;exact ⟨rfl,rfl,rfl,rfl⟩),fun h=>(by obtain ⟨h1,h2⟩:=HX15.out h;exact ⟨by simp only [h1],h2⟩)⟩
theorem A0p.sp {w:World} {own:Own} {sb rb tb:Nat} {cx:Ctx} {tab:Y2} (h:A0p w own sb rb tb cx tab):w.cell? ⟨rb,0,none⟩=some (.pointer (some ⟨sb,0,none⟩)):=C8 h.row (i:=0) rfl rfl
theorem A15 {w:World} {b o:Nat} {oc:A1q} {ov lv:Value} (h:w.row? b o 24=some (B8 (F3 oc ov lv))):w.cell? ⟨b,o,none⟩=some (.int .i64 oc.gas):=C8 h (i:=0) rfl (by simp [F3,A4])
theorem A0i {w:World} {b o:Nat} {oc:A1q} {ov lv:Value} (h:w.row? b o 24=some (B8 (F3 oc ov lv))):w.cell? ⟨b,o+1,none⟩=some (.int .i64 oc.err):=C8 h (i:=1) rfl (by simp [F3,A8,A4])
theorem U4.forms {w:World} {own:Own} {ov lv:Value} {o:A1q} {B:Nat} (h:U4 w own B ov lv o):∃ a k b j,ov = .slice a o.out.length k∧lv = .slice b o.logs.length j:=by
 obtain ⟨⟨a,k,h1,_⟩,_,_⟩:=h.out
 obtain ⟨cs,h2,_⟩:=h.logs
 obtain ⟨b,j,h3⟩:=Q7 h2
 exact ⟨a,k,b,j,h1,h3⟩
theorem B0x {w:World} {own:Own} {sb rb tb:Nat} {cx:Ctx} {tab:Y2} {S S0:St} {M:List (Nat × St)} {n x:Nat} {o:A1q} {ov lv:Value} {B:Nat} (hst:StateAt TU w own sb S (M++[(x,S0)]) n) (hr:A0p w own sb rb tb cx tab) (ho:U4 w own B ov lv o) (he:o.err=0) (hn:n≤1099511627776) :
  Calls Tryz.prog 241 #[.pointer (some ⟨rb,0,none⟩),.int .i64 x,.agg (B8 (F3 o ov lv)).toArray] w fun e w'=>e = .returned (.agg (B8 (F3 o ov lv)).toArray)∧StateAt TU w' own sb S M n∧T6 w w' own own∧U4 w' own B ov lv o:=by
 obtain ⟨a,k,b,j,rfl,rfl⟩:=ho.forms
 have hol:=O7 o (.slice a o.out.length k) (.slice b o.logs.length j)
 have hok:=N7 o a b o.out.length k o.logs.length j
 obtain ⟨w1,e1⟩:∃ w1,w1=(w.alloc (.cells (B8 (F3 o (.slice a o.out.length k) (.slice b o.logs.length j))).toArray 41)).alloc (.cells (B8 L3).toArray 41):=⟨_,rfl⟩
 have hb1:Below w.heap.size w w1:=by rw [e1];exact ((Below.refl _ _).alloc (Nat.le_refl _) _).alloc (by simp) _
 have hr1:w1.row? w.heap.size 0 24=some (B8 (F3 o (.slice a o.out.length k) (.slice b o.logs.length j))):=by rw [e1,World.row?_alloc_lt _ (by simp)];exact World.row?_alloc_at _ _ _ rfl hol
 have hf1:w1.free? (w.heap.size+1) 0 24=true:=by rw [e1];exact World.free?_alloc_at _ _ (by simp) (by rw [K1];omega)
 have hs1:w1.heap.size=w.heap.size+1+1:=by rw [e1];simp
 have hx1:(B8 (F3 o (.slice a o.out.length k) (.slice b o.logs.length j)))[1]'(by rw [O7];omega) = .int .i64 0:=by rw [← he];rfl
 have hx2:((B8 (F3 o (.slice a o.out.length k) (.slice b o.logs.length j)))[1]? : Option Value)=some (.int .i64 0):=by rw [← he];rfl
 have s1:=(hr.chg (T6.below own hb1)).sp
 have s0:=hr.sp
 have s2:=s1
 rw [e1] at s2
 have hrb:=World.row?_lt hr.row
 have HK:=hid (B5w (hst.below hb1) hn)
 have hg1:=T6.below own hb1
 have HST:=hid hst
 have HO:=hid ho
 have HE:=hid e1
 have HB1:=hid hb1
 have HR1:=hid hr1
 have HF1:=hid hf1
 have HS1:=hid hs1
 clear hst hr ho e1 hb1 hr1 hf1 hs1 hg1 hol
 go_enter Tryz.func241,Tryz.ntmps241
 go_wp2_with fail
 rw [← HE.out]
 refine HK.out.mono ?_
 rintro e w2 ⟨rfl,hst2,g2⟩
 have hp0:own w.heap.size=none:=D4 HST.out.lows (Nat.le_refl _)
 have hp1:own (w.heap.size+1)=none:=D4 HST.out.lows (Nat.le_succ _)
 have r2:w2.row? w.heap.size 0 24=some (B8 (F3 o (.slice a o.out.length k) (.slice b o.logs.length j))):=K5 HR1.out hp0 g2
 have f2:w2.free? (w.heap.size+1) 0 24=true:=by rw [g2.only.free? (by rw [HS1.out];omega) (fun e=>e hp1)];exact HF1.out
 have HST2:=hid hst2
 have HG2:=hid g2
 clear hst2 g2
 go_wp2
 refine I2 A2T rfl _ rfl rfl f2 hok ?_
 have g3:T6 w (w2.setCells (w.heap.size+1) 0 (B8 (F3 o (.slice a o.out.length k) (.slice b o.logs.length j)))) own own:=
  ⟨fun _ _=>rfl,((T6.below own HB1.out).trans HG2.out).only.setCells (fun hh=>by omega) _ _⟩
 exact ⟨rfl,HST2.out.only (R:=fun b=>b=w.heap.size+1) (A0.setCells (S:=fun b=>b=w.heap.size+1) (A0.refl _ _) (fun _=>rfl) _ _) (fun b hb=>by rw [hb];exact hp1),g3,HO.out.chg g3⟩
theorem A69 (m:Msg) (dv:Value) (w:World):Calls Tryz.prog 158 #[.agg (B8 (I0 m dv)).toArray] w fun e w'=>e = .returned (.bool (decide (m.kind=3∨m.kind=4)))∧Below w.heap.size w w':=by
 have hml:=N4 m dv
 obtain ⟨w1,e1⟩:∃ w1,w1=w.alloc (.cells (B8 (I0 m dv)).toArray 37):=⟨_,rfl⟩
 have hb1:Below w.heap.size w w1:=by rw [e1];exact (Below.refl _ _).alloc (Nat.le_refl _) _
 have hr1:w1.row? w.heap.size 0 129=some (B8 (I0 m dv)):=by rw [e1];exact World.row?_alloc_at _ _ _ rfl hml
 have c0:(B8 (I0 m dv))[0]'(by rw [N4];omega) = .int .i64 m.kind:=rfl
 have HE:=hid e1
 clear e1 hr1
 by_cases h3:m.kind=3
 ·rw [h3] at c0 ⊢
  go_enter Tryz.func158,Tryz.ntmps158
  go_wp2
  rw [← HE.out]
  go_ret
  exact ⟨rfl,hb1⟩
 ·by_cases h4:m.kind=4
  ·rw [h4] at c0 ⊢
   go_enter Tryz.func158,Tryz.ntmps158
   go_wp2
   rw [← HE.out]
   go_ret
   exact ⟨rfl,hb1⟩
  ·have hd:decide (m.kind=3∨m.kind=4)=false:=by simp [h3,h4]
   rw [hd]
   generalize m.kind=kd at *
   go_enter Tryz.func158,Tryz.ntmps158
   go_wp2
   rw [← HE.out]
   go_ret
   exact ⟨A5h (by simp [h3,h4]),hb1⟩
end Go.Proofs.YtfflppedbopdpaaGreat
