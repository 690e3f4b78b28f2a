/- A part of the proof of EvmLogs: ZEv16. -/
import Derived.Test.YtfflppedbopdpaaGreatZEv12
import Derived.Laws.CopyOwn
import Derived.Test.YtfflppedbopdpaaGreatZSt7
set_option linter.unusedVariables false
set_option maxRecDepth 1000000
set_option maxHeartbeats 8000000
set_option linter.unusedSimpArgs false
namespace Go.Mun
open Go.RowKit
def beN:List Int→Nat
 | []=>0
 | x :: l=>x.toNat*256 ^ l.length+beN l
theorem A37:∀ l:List Int,Byt l→beN l < 256 ^ l.length
 | [],_=>by simp [beN]
 | x :: l,h=>by
  have h1:=h x (by simp)
  have h2:=A37 l (fun y hy=>h y (List.mem_cons_of_mem _ hy))
  have h3:x.toNat≤255:=by omega
  have h4:x.toNat*256 ^ l.length≤255*256 ^ l.length:=Nat.mul_le_mul_right _ h3
  simp only [beN,List.length_cons,Nat.pow_succ]
  omega
theorem A5R:∀ l:List Int,Byt l→be l.length (beN l)=l
 | [],_=>by simp [beN,be]
 | x :: l,h=>by
  have h1:=h x (by simp)
  have hl:Byt l:=fun y hy=>h y (List.mem_cons_of_mem _ hy)
  have h2:=A37 l hl
  rw [List.length_cons,A4T]
  have e1:beN (x :: l) / 256 ^ l.length=x.toNat:=by
   simp only [beN]
   rw [Nat.mul_comm,Nat.mul_add_div (by exact Nat.pow_pos (by decide)),Nat.div_eq_of_lt h2,Nat.add_zero]
  have e2:beN (x :: l) % 256 ^ l.length=beN l:=by
   simp only [beN]
   rw [Nat.mul_comm,Nat.mul_add_mod,Nat.mod_eq_of_lt h2]
  rw [e1,← A74 l.length (beN (x :: l)),e2,A5R l hl]
  congr 1
  have:x.toNat < 256:=by omega
  omega
theorem A73 {a b:List Int} (ha:Byt a) (hb:Byt b):Byt (a++b):=fun x hx=>(List.mem_append.1 hx).elim (ha x) (hb x)
theorem A34 (k:Nat):Byt (List.replicate k 0):=fun x hx=>by rw [List.eq_of_mem_replicate hx];decide
theorem A36 (k:Nat) (l:List Int):beN (List.replicate k 0++l)=beN l:=by
 induction k with
 | zero=>simp
 | succ k ih=>rw [List.replicate_succ,List.cons_append,beN];simp [ih]
end Go.Mun
namespace Go.Proofs.YtfflppedbopdpaaGreat
open Go.RowKit Go.Mun
theorem B05 (b j:Nat) (hj:j < 32) (w:World):(Instr.sliceAt 25 (.pointer (some ⟨b,0,none⟩)) (some (.int .i64 (j:Int))) none none).run Tryz.prog w = .ok (.slice (some ⟨b,j,none⟩) (32 - j) (32 - j)) w:=by
 have hl:Tryz.prog.arrayLen 25=32:=by kernel_rfl
 have he:Tryz.prog.elem 25=5:=by kernel_rfl
 have hs:(sizeOf 5).run Tryz.prog w = .ok 1 w:=by kernel_rfl
 rw [run_sliceAt_array_l w 25 ⟨b,0,none⟩ (by rw [hl,he];exact Tryz.underlying25) .i64 (j:Int) (by omega) (by rw [hl];omega),he,hs,hl]
 simp only [Result.andThen,slicedAt,Int.toNat_natCast,Nat.mul_one]
 rw [if_neg (by omega),U9 rfl,Nat.zero_add]
theorem B5y (b off p q len cc:Nat) (h1:p≤q) (h2:q≤cc) (h3:p < cc) (w:World):(Instr.slice 26 (.slice (some ⟨b,off,none⟩) len cc) (some (.int .i64 (p:Int))) (some (.int .i64 (q:Int))) none).run Tryz.prog w = .ok (.slice (some ⟨b,off+p,none⟩) (q - p) (cc - p)) w:=by
 have he:Tryz.prog.elem 26=5:=by kernel_rfl
 have hs:(sizeOf 5).run Tryz.prog w = .ok 1 w:=by kernel_rfl
 rw [run_slice_lh w 26 (some ⟨b,off,none⟩) len cc (by rw [he];exact Tryz.underlying26) .i64 .i64 (p:Int) (q:Int) (by omega) (by omega) (by omega),he,hs]
 simp only [Result.andThen,sliced,Int.toNat_natCast,Nat.mul_one]
 rw [if_neg (by omega),Option.map_some,U9 rfl]
def A4D (f:Fr) (k:Nat):Nat:=beN ((f.code.drop (f.pc+1)).take k)
theorem B6x {E:Env} {w:World} {own:Own} {c:FV} {f:Fr} {S:St} {n:Nat} (k:Nat) (hk1:1≤k) (hk:k≤32) (h:E6 E w own c f S n) (hfit:f.pc+1+k≤f.code.length) :
  Calls Tryz.prog 382 #[.pointer (some ⟨E.fb,0,none⟩),.int .i64 k] w fun e w'=>e = .returned (.agg (A3 32 (A4D f k)).toArray)∧Below w.heap.size w w':=by
 obtain ⟨w1,e1⟩:∃ w1,w1=(w.alloc (.cells (J4 32).toArray 25)).alloc (.cells (J4 32).toArray 25):=⟨_,rfl⟩
 have hb1:Below w.heap.size w w1:=by rw [e1];exact ((Below.refl _ _).alloc (Nat.le_refl _) _).alloc (by simp) _
 have h1:=(h.below hb1).below (Below.refl _ _).drew
 have c130:=A2M h1.row
 have c134:=B1s h1.row
 obtain ⟨⟨ca,cc,hcv,hci,_⟩,hcb,hcl⟩:=h1.code
 rw [hcv] at c130
 obtain ⟨cb,off,rfl,hcbl,hcell⟩:=hci.at (i:=0) (by omega)
 have hcc:=hci.len
 have hnx:=h.nxt.2
 have hi1:IntKind.i64.wrap (32 - (k:Int))=((32 - k:Nat):Int):=by rw [U6 _ (by omega) (by omega)];omega
 have hi2:IntKind.i64.wrap ((f.pc:Int)+1)=((f.pc+1:Nat):Int):=by rw [U6 _ (by omega) (by omega)];omega
 obtain ⟨q,hq⟩:∃ q,q=f.pc+1+k:=⟨_,rfl⟩
 have hi3:IntKind.i64.wrap (((f.pc+1:Nat):Int)+k)=(q:Int):=by rw [U6 _ (by omega) (by omega)];omega
 have hs25:=B05 (w.heap.size+1) (32 - k) (by omega)
 have hs26:=B5y cb off (f.pc+1) q f.code.length cc (by omega) (by omega) (by omega)
 obtain ⟨T,hT⟩:∃ T:World→Prop,T=fun w'=>w'.cell? ⟨E.fb,130,none⟩=some (.slice (some ⟨cb,off,none⟩) f.code.length cc)∧w'.cell? ⟨E.fb,134,none⟩=some (.int .i64 (f.pc:Nat)):=⟨_,rfl⟩
 have HT:=hid hT
 have t0:T w1.drew:=by rw [hT];exact ⟨c130,c134⟩
 have HE1:=hid e1
 have HB1:=hid hb1
 have HCB:=hid hcb
 have HC:=hid hcell
 have d130:=A2M h.row
 rw [hcv] at d130
 have d134:=B1s h.row
 have hlt0:=h.lt
 have tb:∀ w',Below w.heap.size w w'→T w':=by
  rw [hT];intro w' hb
  exact ⟨(hb.cell (p:=⟨E.fb,130,none⟩) hlt0).trans d130,(hb.cell (p:=⟨E.fb,134,none⟩) hlt0).trans d134⟩
 have HTB:=hid tb
 clear tb d130 d134
 clear hT c130 c134 hcv hci hcb e1 hb1 h h1 hcell
 have HQ:=hid hq
 have HFIT:=hid hfit
 have hql:q≤f.code.length:=by omega
 have HJ:Hid (32 - (32 - k)=k):=by show _=_;omega
 have HK1:=hid hk1
 have HK:=hid hk
 have HPQ:Hid (q - (f.pc+1)=k):=by show _=_;omega
 have HQL:=hid hql
 clear hq hfit hk1 hk hcc hnx
 generalize hj:32 - k=j at *
 generalize hpn:f.pc+1=p at *
 have HPN:=hid hpn
 have HJN:=hid hj
 clear hj hpn
 have hmin:(if q < f.code.length then (q:Int) else (f.code.length:Int))=q:=by split <;> omega
 clear hql
 go_enter Tryz.func382,Tryz.ntmps382
 go_wp2_with fail
 rw [← HE1.out]
 have HHP:Hid (w1.drew.heap[w.heap.size+1]? = some (.cells (J4 32).toArray 25 (0,0))):=by
  show w1.heap[w.heap.size+1]? = _
  rw [HE1.out]
  have:=heap_alloc_new (w.alloc (.cells (J4 32).toArray 25)) (.cells (J4 32).toArray 25)
  rw [World.size_alloc] at this;exact this
 have HLN:Hid ((K2 ((f.code.drop p).take k)).length=Nat.min (q - p) (32 - j)):=by
  show _=_
  rw [HPQ.out,HJ.out];simp [K2];have:=HFIT.out;omega
 have HSRC:Hid (∀ i v,(K2 ((f.code.drop p).take k))[i]? = some v→w1.drew.cell? ((⟨cb,off+p,none⟩:Addr).add i)=some v):=by
  intro i v hv
  rw [U9 rfl]
  unfold K2 at hv
  rw [List.getElem?_map,List.getElem?_take] at hv
  split at hv
  ·rename_i hik
   rw [List.getElem?_drop] at hv
   have hlt:p+i < f.code.length:=by have:=HFIT.out;omega
   have:=HC.out (p+i) hlt
   rw [List.getElem?_eq_getElem hlt] at hv this
   rw [show off+p+i=off+(p+i) by omega,this]
   simpa using hv
  ·simp at hv
 have HFF:Hid (j+(K2 ((f.code.drop p).take k)).length≤(J4 32).length):=by
  show _≤_
  simp [K2,J4];have:=HJ.out;have:=HK.out;have:=HK1.out;omega
 have HO1:Hid (∀ v∈K2 ((f.code.drop p).take k),v.oneCell'=true):=fun v hv=>by obtain ⟨x,_,rfl⟩:=List.mem_map.1 hv;rfl
 have HBD:Hid (Below w.heap.size w w1.drew):=HB1.out.drew
 refine A7 T [] (.pure 0 (.pure 1 (.pure 2 (.pure 3 (.pure 4 (.pure 5 (.take 6 (.pure 7 (.pure 8 (.pure 9 (.take 10 (.pure 11 (.pure 12 (.pure 13 (.pure 14 (.take 15 (.pure 16 (.pure 17 (.pure 18 (.pure 19 (.take 20 (.pure 21 (.pure 22 (.pure 23 (.pure 24 (.pure 25 (.alt 26 .fin .stop))))))))))))))))))))))))))) (by kernel_rfl) (by kernel_rfl) ?_
 iterate 26
  first
  |refine A2 ?_ rfl (by rfl) (fun w' hs=>?_) (fun _ _ _ h=>h) ?_
   rotate_left
   ·clear hs
    go_simp
    try rfl
   simp only [Act.put,D7,D6,D5]
  |refine A9 ?_ t0 rfl (by rfl) (fun w' hs=>?_) (fun _ _ _ h=>h) ?_
   rotate_left
   ·rw [HT.out] at hs
    obtain ⟨q1,q2⟩:=hs
    go_simp
    try rfl
   simp only [Act.put,D7,D6,D5]
 refine A5 rfl (fun K hK=>?_)
 refine step_copy_splice rfl _ _ 26 26 rfl 5 Tryz.underlying26 (by kernel_rfl) (some ⟨w.heap.size+1,j,none⟩) (some ⟨cb,off+p,none⟩) (32 - j) (32 - j) (q - p) (cc - p) rfl rfl (w.heap.size+1) j (J4 32) 25 HHP.out (K2 ((f.code.drop p).take k)) HLN.out (fun _=>⟨rfl,_,rfl,HSRC.out⟩) HFF.out HO1.out (w.heap.size+1) w1.drew ((Below.refl _ _).mono (Nat.le_refl _)) (Nat.le_refl _) ?_
 intro w5 hg5 hb5
 have HBX:=hid hb5
 replace hb5:Below w.heap.size w w5:=HB1.out.drew.trans (hb5.mono (Nat.le_succ _))
 have t5:T w5:=HTB.out _ hb5
 have HG5:=hid hg5
 have HB5:=hid hb5
 clear hg5 hb5
 refine hK.out _ _ t5 ?_
 clear hK K
 refine C2 ?_
 have hcells:splice (J4 32) j (K2 ((f.code.drop p).take k))=A3 32 (A4D f k):=by
  have hb:Byt ((f.code.drop p).take k):=fun x hx=>HCB.out x (List.mem_of_mem_drop (List.mem_of_mem_take hx))
  have hl:((f.code.drop p).take k).length=k:=by simp;have:=HFIT.out;omega
  have hz:Byt (List.replicate j 0++(f.code.drop p).take k):=A73 (A34 j) hb
  have h32:(List.replicate j (0:Int)++(f.code.drop p).take k).length=32:=by rw [List.length_append,List.length_replicate,hl];have:=HJN.out;have:=HK.out;omega
  have e:=A5R _ hz
  rw [h32,A36] at e
  unfold A4D A3
  rw [HPN.out,e]
  unfold splice J4 K2
  rw [List.map_append,List.map_replicate]
  have hj32:j+k=32:=by have:=HJN.out;have:=HK.out;omega
  have hd:List.drop 32 (List.replicate 32 (Value.int IntKind.u8 0)) = []:=rfl
  rw [List.take_replicate,List.length_map,hl,hj32,hd,List.append_nil,Nat.min_eq_left (by omega)]
 have hr5:w5.row? (w.heap.size+1) 0 32=some (A3 32 (A4D f k)):=by
  have:=HG5.out
  rw [hcells] at this
  unfold World.row?
  rw [show w5.heap[w.heap.size+1]? = _ from this]
  simp
  exact List.take_of_length_le (by simp)
 have hf5:w5.free? w.heap.size 0 32=true:=by
  rw [World.free?_of_block (HBX.out.block _ (Nat.lt_succ_self _))]
  show w1.free? w.heap.size 0 32=true
  rw [HE1.out,World.free?_alloc_lt _ (by simp)];exact World.free?_alloc_at _ _ rfl (by simp)
 have hok5:=D2 32 (A4D f k)
 clear hcells t5
 go_wp2
 exact I2 A28 rfl _ rfl rfl hf5 hok5 ⟨rfl,HB5.out.setCells (Nat.le_refl _) _ _⟩
theorem E6.state {E:Env} {w w':World} {own own':Own} {c:FV} {f:Fr} {S S':St} {n n':Nat} (h:E6 E w own c f S n) (g:T6 w w' own own') (hs:StateAt TU w' own' E.sb S' E.M n') (hn:n'+f.gas≤E.N) (hnn:n≤n'):E6 E w' own' c f S' n':=by
 have hx:∀ b,b < w.heap.size→own' b=own b:=g.ext
 have hR:∀ b,own b≠none→mu own E.fb E.kp c b:=fun _ h => .inl (.inl h)
 have hmu:∀ b,b < w.heap.size→mu own' E.fb E.kp c b→mu own E.fb E.kp c b:=fun b hb hm=>hm.imp (fun h=>h.imp (fun h=>by rw [← hx b hb];exact h) id) id
 have hmn:∀ b,b < w.heap.size→mn E own' c b→mn E own c b:=fun b hb hm=>hm.imp (hmu b hb) id
 have hRn:∀ b,own b≠none→mn E own c b:=fun b h => .inl (hR b h)
 obtain ⟨cs,hl1,hl2⟩:=h.logs
 obtain ⟨ja,jc,hj1,hj2,hj3⟩:=h.jmp
 have hkeepb:∀ b,b < w.heap.size→own b=none→own' b=none:=fun b hb ho=>by rw [hx b hb];exact ho
 refine { row := ?_, free := ?_, base := h.base, fown := hkeepb _ h.lt h.fown, chg := h.chg.trans g, run := h.run, mok := h.mok, stk := A0.own h.stk g.only (fun b hb hh => hh (h.sown b hb).1), sown := fun b hb => ⟨hkeepb _ (B0 h.stk b hb) (h.sown b hb).1, (h.sown b hb).2⟩, sval := h.sval, slen := h.slen,
          mem:=A0.own h.mem g.only (fun b hb hh=>hh (h.mown b hb).1),mown:=fun b hb=>⟨hkeepb _ (B0 h.mem b hb) (h.mown b hb).1,(h.mown b hb).2⟩,mbyte:=h.mbyte,mlen:=h.mlen,
          logs:=⟨cs,A0.own hl1 g.only (fun b hb hh=>hh (h.lown b hb).1),hl2.only g.only hRn hmn⟩,lown:=fun b hb=>⟨hkeepb _ (B0 hl1 b hb) (h.lown b hb).1,(h.lown b hb).2⟩,llen:=Nat.le_trans h.llen hnn,
          code:=h.code.only g.only hR hmu,jmp:=?_,data:=h.data.only g.only hR hmu,ret:=h.ret.only g.only hRn hmn,out:=h.out.only g.only hRn hmn,st:=hs,cnt:=hn,nxt:=h.nxt,
          keep:=fun b hk=>⟨Nat.lt_of_lt_of_le (h.keep b hk).1 g.only.size,by rw [g.only.block _ (h.keep b hk).1 (fun hh=>hh (h.keep b hk).2.2.1)];exact (h.keep b hk).2.1,hkeepb _ (h.keep b hk).1 (h.keep b hk).2.2.1,(h.keep b hk).2.2.2⟩ }
 ·rw [g.only.row? h.lt (fun hh=>hh h.fown)];exact h.row
 ·rw [g.only.free? h.lt (fun hh=>hh h.fown)];exact h.free
 ·refine ⟨ja,jc,hj1,⟨fun hn=>?_,hj2.nil,hj2.len,hj2.cap⟩,fun hn p hp hx'=>?_⟩
  ·obtain ⟨b,off,ha,hlt,hcl⟩:=hj2.at (i:=0) (List.length_pos_iff.2 hn)
   exact ⟨b,off,ha,fun i hi=>by rw [g.only.cell? hlt (fun hr=>hj3 hn _ ha (hR _ hr))];exact hcl i hi⟩
  ·obtain ⟨b,off,ha,hlt,hcl⟩:=hj2.at (i:=0) (List.length_pos_iff.2 hn)
   rw [ha] at hp;cases hp
   exact hj3 hn _ ha (hmu _ hlt hx')
theorem B5Q {E:Env} {w:World} {own:Own} {c:FV} {f:Fr} {S:St} {n:Nat} (x:Nat) (hx:x < wW) (hl:f.stack.length < 1024) (h:E6 E w own c f S n) :
  Calls Tryz.prog 190 #[.pointer (some ⟨E.fb,0,none⟩),.agg (A3 32 x).toArray] w fun e w'=>e = .returned (.tuple #[])∧∃ c',E6 E w' own c' { f with stack:=f.stack++[x] } S n:=by
 refine (B4A x (B4w h.row) (h.one (by omega)) (D9 h.stk (Nat.zero_le _)) (fun g hg=>(h.sown g hg).2) hl).mono ?_
 rintro e w' ⟨rfl,w1,sv',ho,rfl,hr,hb⟩
 refine ⟨rfl,_,h.stack ho hr hb (fun y hy=>?_) (by simp;omega)⟩
 rcases List.mem_append.1 hy with hy | hy
 ·exact h.sval y hy
 ·obtain rfl:=List.mem_singleton.1 hy;exact hx
def A0I (f:Fr) (S:St) (k x:Nat):Res:=if V6 ((S f.m.to).slots k) x≤f.gas then .ok { f with gas:=f.gas - V6 ((S f.m.to).slots k) x } (S.setSlot f.m.to k x) else .stop 11 f S
theorem A59 (a b:Nat):1≤V6 a b:=by unfold V6;split <;> omega
def A9B (E:Env) (a g k x:Nat) (w:World):Prop:=
 w.cell? ⟨E.fb,0,none⟩=some (.pointer (some ⟨E.rb,0,none⟩))∧w.cell? ⟨E.rb,0,none⟩=some (.pointer (some ⟨E.sb,0,none⟩))∧w.row? E.fb 22 20=some (A3 20 a)∧w.row? g 0 32=some (A3 32 k)∧w.row? g 32 32=some (A3 32 x)
theorem B3L {E:Env} {own:Own} {c:FV} {f:Fr} {S:St} {n g k x:Nat} {w:World} (h:E6 E w own c f S n) (h1:w.row? g 0 32=some (A3 32 k)) (h2:w.row? g 32 32=some (A3 32 x)):A9B E f.m.to g k x w:=
 ⟨A3b h.row,(h.run.chg h.chg).sp,A2s (B79 h.row),h1,h2⟩
theorem A9B.next {E:Env} {a g k x:Nat} {w w':World} (h:A9B E a g k x w) (hb:Below w.heap.size w w'):A9B E a g k x w':=by
 obtain ⟨h1,h2,h3,h4,h5⟩:=h
 exact ⟨(hb.cell (World.block_lt_of_cell? w _ h1)).trans h1,(hb.cell (World.block_lt_of_cell? w _ h2)).trans h2,((C7 hb).1 _ _ _ (World.row?_lt h3)).trans h3,((C7 hb).1 _ _ _ (World.row?_lt h4)).trans h4,((C7 hb).1 _ _ _ (World.row?_lt h5)).trans h5⟩
theorem StateAt.slot {w:World} {own:Own} {sb:Nat} {S:St} {M:List (Nat × St)} {n:Nat} (h:StateAt TU w own sb S M n) (a k:Nat):(S a).slots k < wW:=by
 obtain ⟨mb,uv,mv,last,E,U,mk,h,_⟩:=h
 cases e:I3 a E with
 | none=>rw [h.out a e];show (0:Nat) < wW;decide
 | some p =>
  obtain ⟨cv,q,sl,_,_,_,_,h5⟩:=(h.acc (a,p) (L7 e)).cells
  show (S a).slots k < wW
  rw [h5.get k]
  cases e2:I3 k sl with
  | none=>show (0:Nat) < wW;decide
  | some y=>exact (h5.val (k,y) (L7 e2)).2
theorem A9g {E:Env} {w:World} {own:Own} {c:FV} {f:Fr} {S:St} {n:Nat} {v:Value} (k x:Nat) (h:E6 E w own c f S n) (hN:E.N≤1099511627776) (hw:Wds E.w0.heap.size w v [k,x]) (hgf:∀ g,v.ownBlock=some g→g≠E.fb∧own g=none) (hk:k < wW) (hx:x < wW) :
  Calls Tryz.prog 142 #[.pointer (some ⟨E.fb,0,none⟩),v] w (A1E E (A0I f S k x)):=by
 obtain ⟨g,cc,rfl,hgb,hgl,hc1,hc2,hrow⟩:=hw.at (by simp)
 have hg0:=hrow 0 (by simp)
 have hg1:=hrow 1 (by simp)
 simp only [Nat.zero_mul,Nat.one_mul,List.getElem?_cons_zero,List.getElem?_cons_succ,Option.getD_some] at hg0 hg1
 have hgne:g≠E.fb:=(hgf g rfl).1
 have HOG:=hid (hgf g rfl).2
 have hto:=h.mok.to
 have hsl:=StateAt.slot h.st f.m.to k
 have H:=hid h
 obtain ⟨T,hT⟩:∃ T:World→Prop,T=A9B E f.m.to g k x:=⟨_,rfl⟩
 have HT:=hid hT
 have tb:∀ w1 w2,T w1→Below w1.heap.size w1 w2→T w2:=by rw [hT];intro w1 w2 h1 hb;exact h1.next hb
 have HTB:=hid tb
 have t0:T w.drew:=by rw [hT];exact B3L (h.below (Below.refl _ _).drew) hg0 hg1
 have HG0:=hid hg0
 have HG1:=hid hg1
 clear hT tb h hw hrow hgb hgl hc1 hc2 hgf hg0 hg1
 have hcx:([k,x]:List Nat).length=2:=rfl
 rw [hcx]
 clear hcx
 go_enter Tryz.func142,Tryz.ntmps142
 go_wp2_with fail
 have H0:=hid (H.out.below (Below.refl _ _).drew)
 have G0:Hid (w.drew.row? g 0 32=some (A3 32 k)∧w.drew.row? g 32 32=some (A3 32 x)):=⟨HG0.out,HG1.out⟩
 refine A7 T [] (.pure 0 (.pure 1 (.pure 2 (.pure 3 (.take 4 (.pure 5 (.pure 6 (.take 7 (.pure 8 (.pure 9 (.pure 10 (.pure 11 (.take 12 (.pure 13 (.pure 14 (.take 15 (.pure 17 (.pure 18 (.take 19 (.alt 16 (.alt 20 (.alt 21 .fin .stop) .stop) .stop)))))))))))))))))))) (by kernel_rfl) (by kernel_rfl) ?_
 iterate 19
  first
  |refine A2 ?_ rfl (by rfl) (fun w' hs=>?_) (fun _ _ _ h=>h) ?_
   rotate_left
   ·clear hs
    go_simp
    try rfl
   simp only [Act.put,D7,D6,D5]
  |refine A9 ?_ t0 rfl (by rfl) (fun w' hs=>?_) (fun _ _ _ h=>h) ?_
   rotate_left
   ·rw [HT.out] at hs
    obtain ⟨q0,q1,q2,ka,kb⟩:=hs
    go_simp
    try rfl
   simp only [Act.put,D7,D6,D5]
 refine A5 rfl (fun K hK=>?_)
 go_simp
 refine (A7p H0.out.st f.m.to k hto hk).mono ?_
 rintro e w1 ⟨rfl,hb1⟩
 have t1:T w1:=HTB.out _ _ t0 hb1
 have H1:=hid (H0.out.below hb1)
 have G1:Hid (w1.row? g 0 32=some (A3 32 k)∧w1.row? g 32 32=some (A3 32 x)):=⟨((C7 hb1).1 _ _ _ (World.row?_lt G0.out.1)).trans G0.out.1,((C7 hb1).1 _ _ _ (World.row?_lt G0.out.2)).trans G0.out.2⟩
 clear hb1 t0
 refine hK.out _ _ t1 ?_
 clear hK K
 refine A5 rfl (fun K hK=>?_)
 go_simp
 refine (B2T ((S f.m.to).slots k) x hsl hx _).mono ?_
 rintro e w2 ⟨rfl,hb2⟩
 have t2:T w2:=HTB.out _ _ t1 hb2
 have H2:=hid (H1.out.below hb2)
 have G2:Hid (w2.row? g 0 32=some (A3 32 k)∧w2.row? g 32 32=some (A3 32 x)):=⟨((C7 hb2).1 _ _ _ (World.row?_lt G1.out.1)).trans G1.out.1,((C7 hb2).1 _ _ _ (World.row?_lt G1.out.2)).trans G1.out.2⟩
 clear hb2 t1
 refine hK.out _ _ t2 ?_
 clear hK K
 refine A5 rfl (fun K hK=>?_)
 go_simp
 refine (A1P (V6 ((S f.m.to).slots k) x) H2.out hN).mono ?_
 rintro e w3 (⟨hgas,rfl,h3,ho3⟩ | ⟨hgas,rfl,rfl⟩)
 rotate_left
 ·have HW:Hid (A0I f S k x = .stop 11 f S):=by
   show _=_
   unfold A0I;rw [if_neg hgas]
  go_wp2
  refine ⟨rfl,?_⟩
  rw [HW.out]
  exact ⟨rfl,own,c,n,f,S,H2.out,fun h=>absurd h (by decide)⟩
 have g3:w3.row? g 0 32=some (A3 32 k)∧w3.row? g 32 32=some (A3 32 x):=⟨by rw [ho3.row? (World.row?_lt G2.out.1) hgne];exact G2.out.1,by rw [ho3.row? (World.row?_lt G2.out.2) hgne];exact G2.out.2⟩
 have t3:T w3:=by rw [HT.out];have h33:=B3L h3 g3.1 g3.2;exact h33
 have H3:=hid h3
 have G3:=hid g3
 clear h3 ho3 t2 g3
 refine hK.out _ _ t3 ?_
 clear hK K
 refine C2 ?_
 have t4:T w3.drew:=HTB.out _ _ t3 (Below.refl _ _).drew
 have H4:=hid (H3.out.below (Below.refl _ _).drew)
 have G4:Hid (w3.drew.row? g 0 32=some (A3 32 k)∧w3.drew.row? g 32 32=some (A3 32 x)):=G3.out
 have hgo:own g=none∨own g≠none:=by cases own g <;> simp
 have HGN:Hid (own g=none):=by show _=_;exact HOG.out
 clear t3 hgo
 go_wp2_with fail
 refine A7 T [] (.pure 0 (.pure 1 (.pure 2 (.take 3 (.pure 4 (.pure 5 (.take 6 (.pure 7 (.pure 8 (.pure 9 (.pure 10 (.take 11 (.pure 12 (.pure 13 (.take 14 (.pure 15 (.pure 16 (.take 17 (.alt 18 .fin .stop))))))))))))))))))) (by kernel_rfl) (by kernel_rfl) ?_
 iterate 18
  first
  |refine A2 ?_ rfl (by rfl) (fun w' hs=>?_) (fun _ _ _ h=>h) ?_
   rotate_left
   ·clear hs
    go_simp
    try rfl
   simp only [Act.put,D7,D6,D5]
  |refine A9 ?_ t4 rfl (by rfl) (fun w' hs=>?_) (fun _ _ _ h=>h) ?_
   rotate_left
   ·rw [HT.out] at hs
    obtain ⟨q0,q1,q2,ka,kb⟩:=hs
    go_simp
    try rfl
   simp only [Act.put,D7,D6,D5]
 refine A5 rfl (fun K hK=>?_)
 go_simp
 refine (A9N H4.out.st f.m.to k x hto hk hx (by have:=H4.out.cnt;omega)).mono ?_
 rintro e w5 ⟨rfl,own5,st5,g5⟩
 have hcp:=A59 ((S f.m.to).slots k) x
 have hc4:=H.out.cnt
 have h5:=H4.out.state g5 st5 (by simp only;omega) (Nat.le_succ _)
 have t5:T w5:=by rw [HT.out];have h55:=B3L h5 (K5 G4.out.1 HGN.out g5) (K5 G4.out.2 HGN.out g5);exact h55
 have H5:=hid h5
 clear st5 g5 hcp hc4 h5
 refine hK.out _ _ t5 ?_
 clear hK K
 refine C2 ?_
 go_wp2
 go_end0
 have hw:A0I f S k x = .ok { f with gas:=f.gas - V6 ((S f.m.to).slots k) x } (S.setSlot f.m.to k x):=by unfold A0I;rw [if_pos hgas]
 rw [hw]
 exact ⟨rfl,own5,c,_,H5.out⟩
def B8C (f:Fr) (S:St) (op:Int) (v:List Nat):Res:=
 if 96≤op∧op≤127 then (if f.pc+1+(op - 95).toNat≤f.code.length∧f.stack.length < 1024 then .ok { f with stack:=f.stack++[A4D f (op - 95).toNat] } S else .none)
 else if op=85 then (match v with | [k,x]=>A0I f S k x | _ => .none)
 else .none
def A6z (_:Fr) (_:St) (_:Int):Res:=.none
def B00:Fr→St→Res:=W5 B8C A6z
theorem B5W {E:Env} {w:World} {own:Own} {c:FV} {f:Fr} {S:St} {n:Nat} (h:E6 E w own c f S n) (k:Nat) (hk:k≤32):A4D f k < wW:=by
 obtain ⟨_,hb,_⟩:=h.code
 have h1:=A37 ((f.code.drop (f.pc+1)).take k) (fun x hx=>hb x (List.mem_of_mem_drop (List.mem_of_mem_take hx)))
 have h2:((f.code.drop (f.pc+1)).take k).length≤32:=by rw [List.length_take];omega
 have h3:256 ^ ((f.code.drop (f.pc+1)).take k).length≤256 ^ 32:=Nat.pow_le_pow_right (by decide) h2
 unfold A4D
 rw [← A2Z];omega
theorem B5h (w:World):(zeroValue 166).run Tryz.prog w = .ok .nilFunc w:=by kernel_rfl
theorem B1y {E:Env} {w:World} {own:Own} {c:FV} {f:Fr} {S:St} {n:Nat} {v:Value} (m:Nat) (hm:96≤m∧m≤127) (h:E6 E w own c f S n) (hfit:f.pc+1+(m - 95)≤f.code.length) (hl:f.stack.length < 1024) :
  Calls Tryz.prog 374 #[.pointer (some ⟨E.fb,0,none⟩),.int .u8 (m:Int),v] w (A1E E (.ok { f with stack:=f.stack++[A4D f (m - 95)] } S)):=by
 obtain ⟨hm1,hm2⟩:=hm
 have hlt:=B5W h (m - 95) (by omega)
 have HO:=hid (B6x (m - 95) (by omega) (by omega) h hfit)
 have H:=hid h
 have h1:(95:Int)≤m:=by omega
 have h2:(m:Int)≤127:=by omega
 have hd1:decide ((95:Int)≤m)=true:=decide_eq_true h1
 have hd2:decide ((m:Int)≤127)=true:=decide_eq_true h2
 obtain ⟨j,hj⟩:∃ j:Nat,j=m - 95:=⟨_,rfl⟩
 have hw:IntKind.u8.wrap ((m:Int) - 95)=(j:Int):=by rw [wr8 _ (by omega) (by omega)];omega
 have hw2:IntKind.i64.wrap (j:Int)=(j:Int):=U6 _ (by omega) (by omega)
 rw [← hj] at HO hlt ⊢
 have HL:=hid hl
 clear h hfit hm1 hm2 hj hl
 go_enter Tryz.func374,Tryz.ntmps374
 go_wp2_with fail
 refine HO.out.mono ?_
 rintro e w1 ⟨rfl,hb⟩
 have HP:=hid (B5Q (A4D f j) hlt HL.out (H.out.below hb))
 clear hb
 go_wp2_with fail
 refine HP.out.mono ?_
 rintro e w2 ⟨rfl,c',h2⟩
 have H2:=hid h2
 clear h2
 go_wp2
 go_end0
 exact ⟨rfl,own,c',n,H2.out⟩
theorem A0p.tp {w:World} {own:Own} {sb rb tb:Nat} {cx:Ctx} {tab:Y2} (h:A0p w own sb rb tb cx tab):w.cell? ⟨rb,44,none⟩=some (.map (some tb)):=C8 h.row (i:=2) rfl (by simp [A5d,A8,A4])
theorem A8n {w:World} {own:Own} {sb rb tb:Nat} {cx:Ctx} {tab:Y2} (h:A0p w own sb rb tb cx tab) (ht:A3Q tab) {k f:Nat} (z:Int) (hz:z=k) (hk:k < 256) (hm:(k,f,Option.none)∈B04) :
  (Instr.lookup 100 (.map (some tb)) (.int .u8 z) false).run Tryz.prog w = .ok (.func (.func f) #[] #[]) w:=by
 subst hz
 have h1:I3 k tab.ents=some (fnV f):=ht _ hm
 have:=h.map.look B72 Tryz.underlying100 (B5h w) hk
 rw [h1] at this
 exact this
theorem B22 {E:Env} {w:World} {own:Own} {c:FV} {f:Fr} {S:St} {n:Nat} {v:Value} (k x:Nat) (ht:A3Q E.tab) (h:E6 E w own c f S n) (hN:E.N≤1099511627776) (hw:Wds E.w0.heap.size w v [k,x]) (hgf:∀ g,v.ownBlock=some g→g≠E.fb∧own g=none) (hk:k < wW) (hx:x < wW) :
  Calls Tryz.prog 374 #[.pointer (some ⟨E.fb,0,none⟩),.int .u8 85,v] w (A1E E (A0I f S k x)):=by
 have hr:=h.run.chg h.chg
 have c0:=A3b h.row
 have c1:=hr.tp
 have hlk:=A8n hr ht (k:=85) (f:=142) 85 rfl (by decide) (by decide)
 have HS:=hid (A9g k x h hN hw hgf hk hx)
 clear hr ht h hw hgf
 go_enter Tryz.func374,Tryz.ntmps374
 go_wp2_with fail
 refine HS.out.mono ?_
 intro e w2 hp
 rcases A1E.split (by unfold A0I;split <;> simp) hp with ⟨rfl,hp⟩ | ⟨y,rfl,hp⟩
 ·have HP:=hid hp
  clear hp
  go_wp2
  go_end0
  exact HP.out
 ·have HP:=hid hp
  clear hp
  go_wp2
  exact ⟨rfl,HP.out⟩
theorem B3E {sb rb tb:Nat} {cx:Ctx} {tab:Y2} (ht:A3Q tab):A2z sb rb tb cx tab B00:=by
 intro E w own c f S n h1 h2 h3 h4 h5 hN h hlt hne
 refine A5G h hN hlt B8C A6z hne ?_ (fun w own c f' n _ hh=>absurd rfl hh)
 intro w' own' c' f' n' v l hf hn2 hw hv hb _
 unfold B8C at hn2 ⊢
 split at hn2
 ·rename_i hc
  rw [if_pos hc]
  split at hn2
  ·rename_i hd
   rw [if_pos hd]
   obtain ⟨m,hm⟩:∃ m:Nat,V9 f=m:=⟨(V9 f).toNat,by omega⟩
   rw [hm] at hc hd ⊢
   have e:((m:Int) - 95).toNat=m - 95:=by omega
   rw [e] at hd ⊢
   exact B1y m ⟨by omega,by omega⟩ hf hd.1 hd.2
  ·exact absurd rfl hn2
 ·rename_i hc
  rw [if_neg hc]
  split at hn2
  ·rename_i hd
   rw [if_pos hd,hd]
   match l,hw,hv,hb,hn2 with
   | [k,x],hw,hv,hb,_=>exact B22 k x (by rw [h5];exact ht) hf hN hw (fun g hg=>⟨(hb g (by simp) hg).1,(hb g (by simp) hg).2.1⟩) (hv k (by simp)) (hv x (by simp))
   | [],_,_,_,hn2=>exact absurd rfl hn2
   | [_],_,_,_,hn2=>exact absurd rfl hn2
   | _ :: _ :: _ :: _,_,_,_,hn2=>exact absurd rfl hn2
  ·exact absurd rfl hn2
end Go.Proofs.YtfflppedbopdpaaGreat
