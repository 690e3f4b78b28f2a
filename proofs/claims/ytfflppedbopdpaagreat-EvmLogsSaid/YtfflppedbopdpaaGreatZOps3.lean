/- A part of the proof of EvmLogs: ZOps3. -/
import Derived.Test.YtfflppedbopdpaaGreatZEv1
import Derived.Test.YtfflppedbopdpaaGreatZSeg
import Derived.Test.YtfflppedbopdpaaGreatZWrd4
import Derived.Test.YtfflppedbopdpaaGreatZPlain
import Derived.Test.YtfflppedbopdpaaGreatZSt2
set_option linter.unusedVariables false
set_option maxRecDepth 1000000
set_option maxHeartbeats 8000000
set_option linter.unusedSimpArgs false
namespace Go.Proofs.YtfflppedbopdpaaGreat
open Go.RowKit Go.Mun

def J6 (x:Int):Int:=if 96≤x∧x≤127 then x - 95 else 0

theorem A4M (x:Int) (h0:0≤x) (h1:x≤255) (w:World) :
  Calls Tryz.prog 350 #[.int .u8 x] w fun e w'=>e = .returned (.int .i64 (J6 x))∧w=w':=by
 by_cases h:x < 96
 ·go_enter Tryz.func350,Tryz.ntmps350
  go_wp2
  go_ret
  exact ⟨Mun.ret_int (by unfold J6;rw [if_neg (by omega)]),rfl⟩
 by_cases h':127 < x
 ·go_enter Tryz.func350,Tryz.ntmps350
  go_wp2
  go_ret
  exact ⟨Mun.ret_int (by unfold J6;rw [if_neg (by omega)]),rfl⟩
 ·go_enter Tryz.func350,Tryz.ntmps350
  go_wp2
  go_ret
  exact ⟨Mun.ret_int (by unfold J6;rw [if_pos (by omega)]),rfl⟩
def jumps (l:List Int):Nat→Nat→List Int
 | 0,_ => []
 | n+1,i=>if i < l.length then (if l[i]?.getD 0=91 then [(i:Int)] else [])++jumps l n (i+1+(J6 (l[i]?.getD 0)).toNat) else []

theorem A6Z (l:List Int) (n i:Nat) (h:l.length≤i):jumps l n i = []:=by
 cases n with
 | zero=>rfl
 | succ n=>rw [jumps,if_neg (by omega)]

theorem A5m (x:Int) (h1:x≤255):0≤J6 x∧J6 x≤32:=by
 unfold J6;split <;> omega

structure A9D (l:List Int) (B:Nat) (w wr:World) (v:Value) (i:Nat) (done:List Int) (n:Nat):Prop where
 tot:done++jumps l n i=jumps l l.length 0
 fuel:l.length≤i+n
 ile:i≤l.length+32
 dlen:done.length+n≤l.length
 own:wr.ownsRow B 3 1 v done.length (done.map (Value.int .i64))
 below:Below B w wr

theorem A2O:P4 Tryz.prog 192 3 (.int .i64 0) 1 8:=.mk' Tryz.underlying192 (by kernel_rfl) rfl (by decide)

theorem A9D.step_no {l:List Int} {B:Nat} {w wr:World} {v:Value} {i n:Nat} {done:List Int} (h:A9D l B w wr v i done n) (hlt:i < l.length) (hx:¬ l[i]?.getD 0=91) (hb:l[i]?.getD 0≤255) :
  A9D l B w wr v (i+1+(J6 (l[i]?.getD 0)).toNat) done (n - 1):=by
 obtain ⟨h1,h2,h3,h4,h5,h6⟩:=h
 have:=A5m _ hb
 obtain ⟨n,rfl⟩:∃ m,n=m+1:=⟨n - 1,by omega⟩
 rw [jumps,if_pos hlt,if_neg hx] at h1
 exact ⟨by simpa using h1,by simp;omega,by omega,by simp;omega,h5,h6⟩

theorem A9D.step_yes {l:List Int} {B:Nat} {w wr w1:World} {v v':Value} {i n:Nat} {done:List Int} (h:A9D l B w wr v i done n) (hlt:i < l.length) (hx:l[i]?.getD 0=91)
  (ho:w1.ownsRow B 3 1 v' (done.length+1) (done.map (Value.int .i64)++[.int .i64 (i:Int)])) (hg:wr.grownBy w1 v.ownBlock) (hB:B≤wr.heap.size) :
  A9D l B w w1 v' (i+1+(J6 (l[i]?.getD 0)).toNat) (done++[(i:Int)]) (n - 1):=by
 obtain ⟨h1,h2,h3,h4,h5,h6⟩:=h
 have:=A5m (l[i]?.getD 0) (by omega)
 obtain ⟨n,rfl⟩:∃ m,n=m+1:=⟨n - 1,by omega⟩
 rw [jumps,if_pos hlt,if_pos hx] at h1
 exact ⟨by simpa using h1,by simp;omega,by omega,by simp;omega,by simpa using ho,h6.grown hg hB (fun k hk=>(h5.lt k hk).1)⟩

theorem B2w (a:Option Addr) (cap:Nat) (l:List Int) (w:World) (hi:G9 w .u8 a cap l) (hb:∀ i,i < l.length→0≤l[i]?.getD 0∧l[i]?.getD 0≤255) (hlen:l.length≤1099511627776) :
  Calls Tryz.prog 296 #[.slice a l.length cap] w fun e w' => ∃ v,e = .returned v∧w'.ownsRow w.heap.size 3 1 v (jumps l l.length 0).length ((jumps l l.length 0).map (Value.int .i64))∧Below w.heap.size w w':=by
 have HB:=hid hb
 have HI:=hid hi
 clear hb hi
 go_enter Tryz.func296,Tryz.ntmps296
 go_wp2
 go_loopw [3,4] (fun v i wr => ∃ (k n:Nat) (done:List Int),k≤l.length+32∧i = .int .i64 k∧A9D l w.heap.size w wr v k done n) (fun _ i _=>l.length+32 - (intOf i).toNat)
 case atStart=>exact ⟨0,l.length,[],by omega,rfl,⟨rfl,by omega,by omega,by simp,World.ownsRow_nil _ _ _ _,Below.refl _ _⟩⟩
 case round =>
  obtain ⟨k,n,done,hk,rfl,hr⟩:=hrel
  by_cases hlt:k < l.length
  ·obtain ⟨b,off,rfl,hbl,hc⟩:=HI.out.at hlt
   have hck:wr.cell? ⟨b,off+k,none⟩=some (.int .u8 (l[k]?.getD 0)):=(hr.below.cell (p:=⟨b,off+k,none⟩) hbl).trans (hc k hlt)
   clear hc
   have hr0:=(HB.out k hlt).1
   have hr1:=(HB.out k hlt).2
   have hob:=A5m _ hr1
   have hd:=hr.dlen
   have hsz:=hr.below.size
   have HR:=hid hr
   clear hr
   generalize hx:l[k]?.getD 0=x at *
   by_cases h91:x=91
   ·have h91':(x == 91)=true:=by simpa using h91
    have HX:=hid h91
    clear h91
    go_wp2_with (first | (go_at_call 350;refine (A4M _ hr0 hr1 _).mono ?_;rintro e w' ⟨rfl,rfl⟩) | (at_builtin;refine M3 A2O rfl _ _ rfl HR.out.own rfl 1 rfl rfl ?c1 ?c2 ?c3 ?c4 ?_))
    case c1=>simp [Value.oneCell']
    case c2=>unfold maxLen;omega
    case c3=>omega
    case c4=>exact hsz
    intro v' w1 ho hg _
    have hck1:w1.cell? ⟨b,off+k,none⟩=some (.int .u8 x):=hg.cell hck (fun e=>by have:=(HR.out.own.lt b e.symm).1;omega)
    go_wp2_with (go_at_call 350;refine (A4M _ hr0 hr1 _).mono ?_;rintro e w' ⟨rfl,rfl⟩)
    go_roundw
    case rel=>exact ⟨k+1+(J6 x).toNat,n - 1,done++[(k:Int)],by omega,by go_num,by have:=HR.out.step_yes hlt (by rw [hx];exact HX.out) ho hg hsz;rw [hx] at this;exact this⟩
    case measure=>simp [intOf];omega
   ·have h91':(x == 91)=false:=by simpa using h91
    go_wp2_with (go_at_call 350;refine (A4M _ hr0 hr1 _).mono ?_;rintro e w' ⟨rfl,rfl⟩)
    go_roundw
    case rel=>exact ⟨k+1+(J6 x).toNat,n - 1,done,by omega,by go_num,by have:=HR.out.step_no hlt (by rw [hx];exact h91) (by rw [hx];exact hr1);rw [hx] at this;exact this⟩
    case measure=>simp [intOf];omega
  ·go_wp2
   go_ret
   have:=hr.tot
   rw [A6Z _ _ _ (by omega),List.append_nil] at this
   rw [← this]
   exact ⟨_,rfl,hr.own,hr.below⟩
structure Msg where
 (kind:Int) (frm to code value salt:Nat) (data:J1) (gas depth:Int) (static:Bool)
structure Ctx where
 (number time limit:Int) (coinbase origin:Nat)
structure Lg where
 (addr:Nat) (topics:List Nat) (data:J1)
structure A1q where
 (gas err:Int) (out:J1) (logs:List Lg) (addr:Nat)
structure Fr where
 (m:Msg) (code:J1) (stack:List Nat) (mem:J1) (pc next gas:Nat) (ret out:J1) (logs:List Lg) (ended:Bool)

def I0 (m:Msg) (dv:Value):List (List Value):=
 [[.int .i64 m.kind],A3 20 m.frm,A3 20 m.to,A3 20 m.code,A3 32 m.value,A3 32 m.salt,[dv],[.int .i64 m.gas],[.int .i64 m.depth],[.bool m.static]]
def A1o (c:Ctx):List (List Value):=[[.int .i64 c.number],[.int .i64 c.time],[.int .i64 c.limit],A3 20 c.coinbase,A3 20 c.origin]
def F3 (o:A1q) (ov lv:Value):List (List Value):=[[.int .i64 o.gas],[.int .i64 o.err],[ov],[lv],A3 20 o.addr]
theorem N4 (m:Msg) (dv:Value):(B8 (I0 m dv)).length=129:=by simp only [I0,G7,N9];simp
theorem A1T (c:Ctx):(B8 (A1o c)).length=43:=by simp only [A1o,G7,N9];simp
theorem O7 (o:A1q) (ov lv:Value):(B8 (F3 o ov lv)).length=24:=by simp only [F3,G7,N9];simp
attribute [go_sem,simp] N4 A1T O7
structure A1X (m:Msg):Prop where
 frm:m.frm < wA
 to:m.to < wA
 code:m.code < wA
 value:m.value < wW
 salt:m.salt < wW
 gas : -9223372036854775808≤m.gas∧m.gas≤9223372036854775807
 depth : -9223372036854775808≤m.depth∧m.depth≤9223372036854775807

structure J3 (w:World) (X:Nat→Prop) (v:Value) (l:J1):Prop where
 read:∃ a c,v = .slice a l.length c∧G9 w .u8 a c l∧(l≠[]→∀ p,a=some p→¬ X p.block)
 byte:Byt l
 len:l.length≤1099511627776
theorem J3.only {w w':World} {X X' R:Nat→Prop} {v:Value} {l:J1} (h:J3 w X v l) (ho:A0 R w w') (hR:∀ b,R b→X b) (hX:∀ b,b < w.heap.size→X' b→X b):J3 w' X' v l:=by
 obtain ⟨⟨a,c,h1,h2,h3⟩,hb,hl⟩:=h
 refine ⟨⟨a,c,h1,⟨fun hn=>?_,h2.nil,h2.len,h2.cap⟩,fun hn p hp hx=>?_⟩,hb,hl⟩
 ·obtain ⟨b,off,ha,hlt,hc⟩:=h2.at (i:=0) (List.length_pos_iff.2 hn)
  refine ⟨b,off,ha,fun i hi=>?_⟩
  rw [ho.cell? hlt (fun hr=>h3 hn _ ha (hR _ hr))];exact hc i hi
 ·obtain ⟨b,off,ha,hlt,hc⟩:=h2.at (i:=0) (List.length_pos_iff.2 hn)
  rw [ha] at hp;cases hp
  exact h3 hn _ ha (hX _ hlt hx)
theorem J3.below {w w':World} {X:Nat→Prop} {v:Value} {l:J1} (h:J3 w X v l) (hb:Below w.heap.size w w'):J3 w' X v l:=
 h.only (R:=fun _=>False) (A0.of_below_size hb) (fun _ h=>h.elim) (fun _ _ h=>h)
theorem V1 (w:World) (X:Nat→Prop):J3 w X (.slice none 0 0) []:=
 ⟨⟨none,0,rfl,⟨fun h=>absurd rfl h,fun _=>rfl,Nat.le_refl _,Nat.zero_le _⟩,fun h=>absurd rfl h⟩,fun x hx=>(by cases hx),Nat.zero_le _⟩
theorem J3.one {w:World} {X:Nat→Prop} {v:Value} {l:J1} (h:J3 w X v l):v.oneCell'=true:=by
 obtain ⟨⟨a,c,rfl,_⟩,_,_⟩:=h;rfl

structure FV where
 (code jumps sv mv ret out lv dv:Value)
def frS (rb:Nat) (c:FV) (f:Fr):List (List Value):=
 [[.pointer (some ⟨rb,0,none⟩)],B8 (I0 f.m c.dv),[c.code],[c.jumps],[c.sv],[c.mv],[.int .i64 f.pc],[.int .i64 f.next],[.int .i64 f.gas],[c.ret],[c.out],[c.lv],[.bool f.ended]]
theorem A7X (rb:Nat) (c:FV) (f:Fr):(B8 (frS rb c f)).length=141:=by simp only [frS,G7,N9];simp
attribute [go_sem,simp] A7X
def mu (own:Own) (fb:Nat) (kp:Nat→Prop) (c:FV) (b:Nat):Prop:=(own b≠none∨kp b)∨b=fb∨c.sv.ownBlock=some b∨c.mv.ownBlock=some b∨c.lv.ownBlock=some b
def A2B (w:World) (X:Nat→Prop) (cs:List Value) (g:Lg):Prop:=
 ∃ tv dv,cs=B8 [A3 20 g.addr,[tv],[dv]]∧J3 w X dv g.data∧g.addr < wA∧∃ a c,tv = .slice a g.topics.length c∧g.topics.length≤c∧c≤maxLen∧(∀ t∈g.topics,t < wW) ∧
  (g.topics≠[]→∃ b off,a=some ⟨b,off,none⟩∧¬ X b∧w.row? b off (g.topics.length*32)=some (D3 g.topics))
theorem A2B.only {w w':World} {X X' R:Nat→Prop} {cs:List Value} {g:Lg} (h:A2B w X cs g) (ho:A0 R w w') (hR:∀ b,R b→X b) (hX:∀ b,b < w.heap.size→X' b→X b):A2B w' X' cs g:=by
 obtain ⟨tv,dv,h1,h2,h3,a,c,h4,h5,h6,h7,h8⟩:=h
 refine ⟨tv,dv,h1,h2.only ho hR hX,h3,a,c,h4,h5,h6,h7,fun hn=>?_⟩
 obtain ⟨b,off,e1,e2,e3⟩:=h8 hn
 have hlt:=World.row?_lt e3
 exact ⟨b,off,e1,fun hx=>e2 (hX _ hlt hx),by rw [ho.row? hlt (fun hr=>e2 (hR _ hr))];exact e3⟩
inductive U5 (w:World) (X:Nat→Prop):List Value→List Lg→Prop
 | nil:U5 w X [] []
 | cons {cs ds:List Value} {g:Lg} {l:List Lg}:A2B w X cs g→U5 w X ds l→U5 w X (cs++ds) (g :: l)
theorem U5.only {w w':World} {X X' R:Nat→Prop} {cs:List Value} {l:List Lg} (h:U5 w X cs l) (ho:A0 R w w') (hR:∀ b,R b→X b) (hX:∀ b,b < w.heap.size→X' b→X b):U5 w' X' cs l:=by
 induction h with
 | nil=>exact .nil
 | cons h1 _ ih=>exact .cons (h1.only ho hR hX) ih
def A5d (sb tb:Nat) (c:Ctx):List (List Value):=[[.pointer (some ⟨sb,0,none⟩)],B8 (A1o c),[.map (some tb)]]
theorem A8E (sb tb:Nat) (c:Ctx):(B8 (A5d sb tb c)).length=45:=by simp only [A5d,G7,N9];simp
attribute [go_sem,simp] A8E
structure Y2 where
 (ents bx:List (Nat × Value))
structure A0p (w:World) (own:Own) (sb rb tb:Nat) (cx:Ctx) (tab:Y2):Prop where
 row:w.row? rb 0 45=some (B8 (A5d sb tb cx))
 rown:own rb=none
 map:E1 (fun a => .int .u8 a) 256 (fun v:Value=>v) w tb tab.ents
 town:own tb=none
 boxes:∀ q∈tab.bx,w.cell? ⟨q.1,0,none⟩=some q.2∧own q.1=none
theorem A0p.chg {w w':World} {own own':Own} {sb rb tb:Nat} {cx:Ctx} {tab:Y2} (h:A0p w own sb rb tb cx tab) (g:T6 w w' own own'):A0p w' own' sb rb tb cx tab:=by
 have h1:=World.row?_lt h.row
 have h2:=h.map.lt
 exact ⟨by rw [g.only.row? h1 (fun hh=>hh h.rown)];exact h.row,by rw [g.ext _ h1];exact h.rown,h.map.only g.only (fun hh=>hh h.town),by rw [g.ext _ h2];exact h.town,fun q hq=>by
  obtain ⟨k1,k2⟩:=h.boxes q hq
  have hlt:=World.block_lt_of_cell? w _ k1
  exact ⟨by rw [g.only.cell? hlt (fun hh=>hh k2)];exact k1,by rw [g.ext _ hlt];exact k2⟩⟩

structure Env where
 (w0:World) (own0:Own) (sb rb tb fb:Nat) (cx:Ctx) (tab:Y2) (M:List (Nat × St)) (N:Nat) (kp:Nat→Prop) (kw:World)
def mn (E:Env) (own:Own) (c:FV) (b:Nat):Prop:=mu own E.fb E.kp c b∨b < E.w0.heap.size
structure E6 (E:Env) (w:World) (own:Own) (c:FV) (f:Fr) (S:St) (n:Nat):Prop where
 row:w.row? E.fb 0 141=some (B8 (frS E.rb c f))
 free:w.free? E.fb 0 141=true
 base:E.w0.heap.size≤E.fb
 fown:own E.fb=none
 chg:T6 E.w0 w E.own0 own
 run:A0p E.w0 E.own0 E.sb E.rb E.tb E.cx E.tab
 mok:A1X f.m
 stk:w.ownsRow E.w0.heap.size 25 32 c.sv f.stack.length (D3 f.stack)
 sown:∀ g,c.sv.ownBlock=some g→own g=none∧g≠E.fb
 sval:∀ x∈f.stack,x < wW
 slen:f.stack.length≤1024
 mem:w.ownsRow E.w0.heap.size 5 1 c.mv f.mem.length (f.mem.map (Value.int .u8))
 mown:∀ g,c.mv.ownBlock=some g→own g=none∧g≠E.fb∧c.sv.ownBlock≠some g
 mbyte:Byt f.mem
 mlen:f.mem.length≤1048576∧f.mem.length % 32=0
 logs:∃ cs,w.ownsRow E.w0.heap.size 58 22 c.lv f.logs.length cs∧U5 w (mn E own c) cs f.logs
 lown:∀ g,c.lv.ownBlock=some g→own g=none∧g≠E.fb∧c.sv.ownBlock≠some g∧c.mv.ownBlock≠some g
 llen:f.logs.length≤n
 code:J3 w (mu own E.fb E.kp c) c.code f.code
 jmp:∃ ja jc,c.jumps = .slice ja (jumps f.code f.code.length 0).length jc∧G9 w .i64 ja jc (jumps f.code f.code.length 0)∧(jumps f.code f.code.length 0≠[]→∀ p,ja=some p→¬ mu own E.fb E.kp c p.block)
 data:J3 w (mu own E.fb E.kp c) c.dv f.m.data
 ret:J3 w (mn E own c) c.ret f.ret
 out:J3 w (mn E own c) c.out f.out
 st:StateAt TU w own E.sb S E.M n
 cnt:n+f.gas≤E.N
 nxt:f.next≤2199023255552∧f.pc≤2199023255552
 keep:∀ b,E.kp b→b < w.heap.size∧w.heap[b]? = E.kw.heap[b]?∧own b=none∧¬ (b=E.fb∨c.sv.ownBlock=some b∨c.mv.ownBlock=some b∨c.lv.ownBlock=some b)

section
variable {E:Env} {w:World} {own:Own} {c:FV} {f:Fr} {S:St} {n:Nat}
theorem E6.lt (h:E6 E w own c f S n):E.fb < w.heap.size:=World.row?_lt h.row
theorem E6.below {w':World} (h:E6 E w own c f S n) (hb:Below w.heap.size w w'):E6 E w' own c f S n:=by
 have ho:A0 (fun _=>False) w w':=A0.of_below_size hb
 have hF:∀ b,(fun _:Nat=>False) b→mu own E.fb E.kp c b:=fun _ h=>h.elim
 have hI:∀ b,b < w.heap.size→mu own E.fb E.kp c b→mu own E.fb E.kp c b:=fun _ _ h=>h
 obtain ⟨cs,hl1,hl2⟩:=h.logs
 obtain ⟨ja,jc,hj1,hj2,hj3⟩:=h.jmp
 exact { h with
  row:=by rw [ho.row? h.lt (fun h=>h)];exact h.row
  free:=by rw [ho.free? h.lt (fun h=>h)];exact h.free
  chg:=h.chg.trans (T6.below own hb)
  stk:=A0.own h.stk ho (fun _ _ h=>h)
  mem:=A0.own h.mem ho (fun _ _ h=>h)
  logs:=⟨cs,A0.own hl1 ho (fun _ _ h=>h),hl2.only ho (fun _ h=>h.elim) (fun _ _ h=>h)⟩
  code:=h.code.below hb
  jmp:=⟨ja,jc,hj1,hj2.below hb,hj3⟩
  data:=h.data.below hb
  ret:=h.ret.below hb
  out:=h.out.below hb
  st:=h.st.below hb
  keep:=fun b hk=>⟨Nat.lt_of_lt_of_le (h.keep b hk).1 hb.size,by rw [hb.block _ (h.keep b hk).1];exact (h.keep b hk).2.1,(h.keep b hk).2.2⟩ }
theorem E6.cells {w':World} {f':Fr} (h:E6 E w own c f S n) (ho:A0 (fun b=>b=E.fb) w w') (hr:w'.row? E.fb 0 141=some (B8 (frS E.rb c f'))) (hfr:w'.free? E.fb 0 141=true)
  (h1:f'.m=f.m) (h2:f'.code=f.code) (h3:f'.stack=f.stack) (h4:f'.mem=f.mem) (h5:f'.ret=f.ret) (h6:f'.out=f.out) (h7:f'.logs=f.logs) (hg:f'.gas≤f.gas) (hx:f'.next≤2199023255552∧f'.pc≤2199023255552) :
  E6 E w' own c f' S n:=by
 have hF:∀ b,b=E.fb→mu own E.fb E.kp c b:=fun _ h => .inr (.inl h)
 have hI:∀ b,b < w.heap.size→mu own E.fb E.kp c b→mu own E.fb E.kp c b:=fun _ _ h=>h
 obtain ⟨cs,hl1,hl2⟩:=h.logs
 obtain ⟨ja,jc,hj1,hj2,hj3⟩:=h.jmp
 have hO:A0 (fun b=>E.own0 b≠none) E.w0 w':=h.chg.only.trans ho (fun i hi he=>by have:=h.base;omega)
 refine { row := hr, free := hfr, base := h.base, fown := h.fown, chg := ⟨h.chg.ext, hO⟩, run := h.run, mok := by rw [h1]; exact h.mok, stk := ?_, sown := h.sown, sval := by rw [h3]; exact h.sval, slen := by rw [h3]; exact h.slen, mem := ?_, mown := h.mown,
          mbyte:=by rw [h4];exact h.mbyte,mlen:=by rw [h4];exact h.mlen,logs:=⟨cs,?_,?_⟩,lown:=h.lown,llen:=by rw [h7];exact h.llen,code:=?_,jmp:=?_,data:=?_,ret:=?_,out:=?_,st:=h.st.only ho (fun b hb=>by rw [hb];exact h.fown),cnt:=by have:=h.cnt;omega,nxt:=hx,keep:=fun b hk=>⟨Nat.lt_of_lt_of_le (h.keep b hk).1 ho.size,by rw [ho.block _ (h.keep b hk).1 (fun e=>(h.keep b hk).2.2.2 (.inl e))];exact (h.keep b hk).2.1,(h.keep b hk).2.2⟩ }
 ·rw [h3];exact A0.own h.stk ho (fun g hg=>(h.sown g hg).2)
 ·rw [h4];exact A0.own h.mem ho (fun g hg=>(h.mown g hg).2.1)
 ·rw [h7];exact A0.own hl1 ho (fun g hg=>(h.lown g hg).2.1)
 ·rw [h7];exact hl2.only ho (fun b h => .inl (hF b h)) (fun _ _ h=>h)
 ·rw [h2];exact h.code.only ho hF hI
 ·rw [h2]
  refine ⟨ja,jc,hj1,⟨fun hn=>?_,hj2.nil,hj2.len,hj2.cap⟩,hj3⟩
  obtain ⟨b,off,ha,hlt,hc⟩:=hj2.at (i:=0) (List.length_pos_iff.2 hn)
  exact ⟨b,off,ha,fun i hi=>by rw [ho.cell? hlt (fun hr=>hj3 hn _ ha (hF _ hr))];exact hc i hi⟩
 ·rw [h1];exact h.data.only ho hF hI
 ·rw [h5];exact h.ret.only ho (fun b h => .inl (hF b h)) (fun _ _ h=>h)
 ·rw [h6];exact h.out.only ho (fun b h => .inl (hF b h)) (fun _ _ h=>h)
end
end Go.Proofs.YtfflppedbopdpaaGreat
namespace Go.Proofs.YtfflppedbopdpaaGreat
open Go.RowKit Go.Mun
def B04:List (Nat × Nat × Option Nat):=[(0,84,Option.none),(1,189,some 86),(2,189,some 87),(3,189,some 88),(4,189,some 89),(5,189,some 90),(6,189,some 91),(7,189,some 92),(8,199,some 94),(9,199,some 95),(10,96,Option.none),(11,189,some 97),(16,204,some 99),(17,204,some 101),(18,204,some 102),(19,204,some 104),(20,204,some 105),(21,106,Option.none),(22,189,some 107),(23,189,some 108),(24,189,some 109),(25,110,Option.none),(26,189,some 111),(27,189,some 112),(28,189,some 113),(29,189,some 114),(32,115,Option.none),(48,116,Option.none),(49,117,Option.none),(50,118,Option.none),(51,119,Option.none),(52,120,Option.none),(53,121,Option.none),(54,122,Option.none),(55,123,Option.none),(56,124,Option.none),(57,125,Option.none),(59,126,Option.none),(60,127,Option.none),(61,128,Option.none),(62,129,Option.none),(63,130,Option.none),(65,131,Option.none),(66,132,Option.none),(67,133,Option.none),(69,134,Option.none),(70,135,Option.none),(71,136,Option.none),(80,137,Option.none),(81,138,Option.none),(82,139,Option.none),(83,140,Option.none),(84,141,Option.none),(85,142,Option.none),(86,143,Option.none),(87,144,Option.none),(88,145,Option.none),(89,146,Option.none),(90,147,Option.none),(91,137,Option.none),(240,148,Option.none),(241,149,Option.none),(243,150,Option.none),(244,151,Option.none),(245,152,Option.none),(250,153,Option.none),(253,154,Option.none),(255,155,Option.none)]
def fnV (f:Nat):Value:=.func (.func f) #[] #[]
def O4 (f b:Nat):Value:=.func (.func f) #[] #[.pointer (some ⟨b,0,none⟩)]
def A7h (tab:Y2):Nat × Nat × Option Nat→Prop
 | (k,f,Option.none)=>I3 k tab.ents=some (fnV f)
 | (k,f,some g) => ∃ b,I3 k tab.ents=some (O4 f b)∧(b,fnV g)∈tab.bx
def A0o (w0 w:World) (tb:Nat) (done:List (Nat × Nat × Option Nat)):Prop:=
 ∃ tab:Y2,Below w0.heap.size w0 w∧w0.heap.size≤tb∧E1 (fun a => .int .u8 a) 256 (fun v:Value=>v) w tb tab.ents∧(∀ q∈tab.bx,w.cell? ⟨q.1,0,none⟩=some q.2∧w0.heap.size≤q.1∧q.1≠tb) ∧
  (∀ e∈done,A7h tab e)∧∀ k,(∀ e∈done,e.1≠k)→I3 k tab.ents=none
def B8H (w0 w:World) (tb f g:Nat) (v:Value):Prop:=∃ b,v=O4 f b∧w.cell? ⟨b,0,none⟩=some (fnV g)∧w0.heap.size≤b∧b≠tb
theorem A9K (w:World):A0o w (w.alloc (.map #[] 0)) w.heap.size []:=
 ⟨⟨[],[]⟩,(Below.refl _ _).alloc (Nat.le_refl _) _,Nat.le_refl _,E1.new w _ _ _,fun q hq=>(by cases hq),fun e he=>(by cases he),fun k _=>rfl⟩
theorem B20 {tab:Y2} {e:Nat × Nat × Option Nat} {k:Nat} {v:Value} {bx:List (Nat × Value)} (h:A7h tab e) (hk:e.1≠k) (hb:∀ q∈tab.bx,q∈bx):A7h ⟨N0 k v tab.ents,bx⟩ e:=by
 obtain ⟨k',f,o⟩:=e
 cases o with
 | none=>show I3 k' (N0 k v tab.ents)=_;rw [O8,if_neg hk];exact h
 | some g=>obtain ⟨b,h1,h2⟩:=h;exact ⟨b,by show I3 k' (N0 k v tab.ents)=_;rw [O8,if_neg hk];exact h1,hb _ h2⟩
theorem A45 {w0 w w':World} {tb:Nat} {done:List (Nat × Nat × Option Nat)} {tab:Y2} {k:Nat} {v:Value} {bx:List (Nat × Value)} {e0:Nat × Nat × Option Nat} (hb:Below w0.heap.size w0 w) (ht:w0.heap.size≤tb) (hm:E1 (fun a => .int .u8 a) 256 (fun v:Value=>v) w' tb (N0 k v tab.ents))
  (ho:A0 (· = tb) w w') (hq:∀ q∈bx,w.cell? ⟨q.1,0,none⟩=some q.2∧w0.heap.size≤q.1∧q.1≠tb) (hsub:∀ q∈tab.bx,q∈bx) (hd:∀ e∈done,A7h tab e) (hn:∀ k,(∀ e∈done,e.1≠k)→I3 k tab.ents=none)
  (hk:∀ e∈done,e.1≠k) (he:e0.1=k) (h0:A7h ⟨N0 k v tab.ents,bx⟩ e0):A0o w0 w' tb (done++[e0]):=by
 refine ⟨⟨N0 k v tab.ents,bx⟩,hb.trans (ho.below hb.size (fun i hi=>by rw [hi];exact ht)),ht,hm,fun q hq'=>?_,fun e he'=>?_,fun j hj=>?_⟩
 ·obtain ⟨h1,h2,h3⟩:=hq q hq'
  exact ⟨by rw [ho.cell? (World.block_lt_of_cell? w _ h1) h3];exact h1,h2,h3⟩
 ·rcases List.mem_append.1 he' with he' | he'
  ·exact B20 (hd e he') (hk e he') hsub
  ·obtain rfl:=List.mem_singleton.1 he'
   exact h0
 ·show I3 j (N0 k v tab.ents)=none
  rw [O8,if_neg (by have:=hj e0 (by simp);omega)]
  exact hn j (fun e he'=>hj e (List.mem_append_left _ he'))
section
variable {w w0:World} {tb:Nat} {done:List (Nat × Nat × Option Nat)}
theorem F0 (R:A0o w0 w tb done) (k f:Nat) (z:Int) (hz:z=k) (hk:(k < 256∧∀ e∈done,e.1≠k)) :
  ∃ w',(Instr.mapUpdate 100 (.map (some tb)) (.int .u8 z) (.func (.func f) #[] #[])).run Tryz.prog w = .ok () w'∧A0o w0 w' tb (done++[(k,f,Option.none)]):=by
 subst hz
 obtain ⟨tab,h1,h2,h3,h4,h5,h6⟩:=R
 obtain ⟨w',hrun,h7,h8⟩:=h3.store B72 Tryz.underlying100 hk.1 (fnV f)
 exact ⟨w',hrun,A45 (bx:=tab.bx) h1 h2 h7 h8 h4 (fun q hq=>hq) h5 h6 hk.2 rfl (by show I3 k (N0 k _ _)=_;rw [O8,if_pos rfl])⟩
theorem K3 (R:A0o w0 w tb done) (k f g:Nat) (z:Int) (hz:z=k) (hk:(k < 256∧∀ e∈done,e.1≠k)) {b:Nat} (hp:B8H w0 w tb f g (O4 f b)) :
  ∃ w',(Instr.mapUpdate 100 (.map (some tb)) (.int .u8 z) (.func (.func f) #[] #[.pointer (some ⟨b,0,none⟩)])).run Tryz.prog w = .ok () w'∧A0o w0 w' tb (done++[(k,f,some g)]):=by
 subst hz
 obtain ⟨tab,h1,h2,h3,h4,h5,h6⟩:=R
 obtain ⟨b',e,c1,c2,c3⟩:=hp
 obtain rfl:b=b':=by simpa [O4] using e
 obtain ⟨w',hrun,h7,h8⟩:=h3.store B72 Tryz.underlying100 hk.1 (O4 f b)
 refine ⟨w',hrun,A45 (bx:=(b,fnV g) :: tab.bx) h1 h2 h7 h8 (fun q hq=>?_) (fun q hq=>List.mem_cons_of_mem _ hq) h5 h6 hk.2 rfl ⟨b,by show I3 k (N0 k _ _)=_;rw [O8,if_pos rfl],by simp⟩⟩
 rcases List.mem_cons.1 hq with rfl | hq
 ·exact ⟨c1,c2,c3⟩
 ·exact h4 q hq
theorem E5 (R:A0o w0 w tb done) (f g:Nat) (t:TypeId):A0o w0 (w.alloc (.cells #[fnV g] t)) tb done∧B8H w0 (w.alloc (.cells #[fnV g] t)) tb f g (O4 f w.heap.size):=by
 obtain ⟨tab,h1,h2,h3,h4,h5,h6⟩:=R
 have hb:Below w.heap.size w (w.alloc (.cells #[fnV g] t)):=(Below.refl _ _).alloc (Nat.le_refl _) _
 refine ⟨⟨tab,h1.trans (hb.mono h1.size),h2,h3.below hb,fun q hq=>?_,h5,h6⟩,w.heap.size,rfl,?_,h1.size,by have:=h3.lt;omega⟩
 ·obtain ⟨k1,k2,k3⟩:=h4 q hq
  exact ⟨by rw [hb.cell (World.block_lt_of_cell? w _ k1)];exact k1,k2,k3⟩
 ·rw [cell_of_row _ w.heap.size 0 _ t (0,0) (heap_alloc_new w _)];rfl
end
theorem N6 (g:Nat) (w:World):Calls Tryz.prog 85 #[fnV g] w fun e w'=>e = .returned (O4 189 w.heap.size)∧w'=w.alloc (.cells #[fnV g] 168):=by
 have hmf:∀ (fn:Fn) (first cap:Array Value) (w:World),(Instr.makeFunc fn first cap).run Tryz.prog w = .ok (.func fn first cap) w:=fun _ _ _ _=>rfl
 unfold fnV O4
 go_enter Tryz.func85,Tryz.ntmps85
 go_wp2
 go_ret
 exact ⟨rfl,rfl⟩
theorem A4c (g:Nat) (w:World):Calls Tryz.prog 93 #[fnV g] w fun e w'=>e = .returned (O4 199 w.heap.size)∧w'=w.alloc (.cells #[fnV g] 170):=by
 have hmf:∀ (fn:Fn) (first cap:Array Value) (w:World),(Instr.makeFunc fn first cap).run Tryz.prog w = .ok (.func fn first cap) w:=fun _ _ _ _=>rfl
 unfold fnV O4
 go_enter Tryz.func93,Tryz.ntmps93
 go_wp2
 go_ret
 exact ⟨rfl,rfl⟩
theorem A1V (g:Nat) (w:World):Calls Tryz.prog 98 #[fnV g] w fun e w'=>e = .returned (O4 204 w.heap.size)∧w'=w.alloc (.cells #[fnV g] 172):=by
 have hmf:∀ (fn:Fn) (first cap:Array Value) (w:World),(Instr.makeFunc fn first cap).run Tryz.prog w = .ok (.func fn first cap) w:=fun _ _ _ _=>rfl
 unfold fnV O4
 go_enter Tryz.func98,Tryz.ntmps98
 go_wp2
 go_ret
 exact ⟨rfl,rfl⟩
attribute [local irreducible] A0o B8H
theorem B2X (w:World):Calls Tryz.prog 47 #[] w fun e w' => ∃ tb,e = .returned (.map (some tb))∧A0o w w' tb B04:=by
 have HN:=hid (A9K w)
 go_enter Tryz.func47,Tryz.ntmps47
 have hmk:=A6V 100 w
 obtain ⟨w1,hrun,r1⟩:=F0 HN.out 0 84 0 rfl (by decide)
 have R0:=hid r1
 clear r1 HN
 skip
 go_wp2_with fail
 skip
 skip
 refine (N6 86 _).mono ?_
 rintro e w2 ⟨rfl,rfl⟩
 have rm:=E5 R0.out 189 86 168
 obtain ⟨w1,hrun,r1⟩:=K3 rm.1 1 189 86 1 rfl (by decide) rm.2
 have R1:=hid r1
 clear r1 R0 rm
 simp only [O4,fnV] at hrun ⊢
 go_wp2_with fail
 refine (N6 87 _).mono ?_
 rintro e w2 ⟨rfl,rfl⟩
 have rm:=E5 R1.out 189 87 168
 obtain ⟨w1,hrun,r1⟩:=K3 rm.1 2 189 87 2 rfl (by decide) rm.2
 have R2:=hid r1
 clear r1 R1 rm
 simp only [O4,fnV] at hrun ⊢
 go_wp2_with fail
 refine (N6 88 _).mono ?_
 rintro e w2 ⟨rfl,rfl⟩
 have rm:=E5 R2.out 189 88 168
 obtain ⟨w1,hrun,r1⟩:=K3 rm.1 3 189 88 3 rfl (by decide) rm.2
 have R3:=hid r1
 clear r1 R2 rm
 simp only [O4,fnV] at hrun ⊢
 go_wp2_with fail
 refine (N6 89 _).mono ?_
 rintro e w2 ⟨rfl,rfl⟩
 have rm:=E5 R3.out 189 89 168
 obtain ⟨w1,hrun,r1⟩:=K3 rm.1 4 189 89 4 rfl (by decide) rm.2
 have R4:=hid r1
 clear r1 R3 rm
 simp only [O4,fnV] at hrun ⊢
 go_wp2_with fail
 refine (N6 90 _).mono ?_
 rintro e w2 ⟨rfl,rfl⟩
 have rm:=E5 R4.out 189 90 168
 obtain ⟨w1,hrun,r1⟩:=K3 rm.1 5 189 90 5 rfl (by decide) rm.2
 have R5:=hid r1
 clear r1 R4 rm
 simp only [O4,fnV] at hrun ⊢
 go_wp2_with fail
 refine (N6 91 _).mono ?_
 rintro e w2 ⟨rfl,rfl⟩
 have rm:=E5 R5.out 189 91 168
 obtain ⟨w1,hrun,r1⟩:=K3 rm.1 6 189 91 6 rfl (by decide) rm.2
 have R6:=hid r1
 clear r1 R5 rm
 simp only [O4,fnV] at hrun ⊢
 go_wp2_with fail
 refine (N6 92 _).mono ?_
 rintro e w2 ⟨rfl,rfl⟩
 have rm:=E5 R6.out 189 92 168
 obtain ⟨w1,hrun,r1⟩:=K3 rm.1 7 189 92 7 rfl (by decide) rm.2
 have R7:=hid r1
 clear r1 R6 rm
 simp only [O4,fnV] at hrun ⊢
 go_wp2_with fail
 refine (A4c 94 _).mono ?_
 rintro e w2 ⟨rfl,rfl⟩
 have rm:=E5 R7.out 199 94 170
 obtain ⟨w1,hrun,r1⟩:=K3 rm.1 8 199 94 8 rfl (by decide) rm.2
 have R8:=hid r1
 clear r1 R7 rm
 simp only [O4,fnV] at hrun ⊢
 go_wp2_with fail
 refine (A4c 95 _).mono ?_
 rintro e w2 ⟨rfl,rfl⟩
 have rm:=E5 R8.out 199 95 170
 obtain ⟨w1,hrun,r1⟩:=K3 rm.1 9 199 95 9 rfl (by decide) rm.2
 have R9:=hid r1
 clear r1 R8 rm
 simp only [O4,fnV] at hrun ⊢
 go_wp2_with fail
 obtain ⟨w1,hrun,r1⟩:=F0 R9.out 10 96 10 rfl (by decide)
 have R10:=hid r1
 clear r1 R9
 rw [hrun]
 go_wp2_with fail
 skip
 skip
 refine (N6 97 _).mono ?_
 rintro e w2 ⟨rfl,rfl⟩
 have rm:=E5 R10.out 189 97 168
 obtain ⟨w1,hrun,r1⟩:=K3 rm.1 11 189 97 11 rfl (by decide) rm.2
 have R11:=hid r1
 clear r1 R10 rm
 simp only [O4,fnV] at hrun ⊢
 go_wp2_with fail
 refine (A1V 99 _).mono ?_
 rintro e w2 ⟨rfl,rfl⟩
 have rm:=E5 R11.out 204 99 172
 obtain ⟨w1,hrun,r1⟩:=K3 rm.1 16 204 99 16 rfl (by decide) rm.2
 have R12:=hid r1
 clear r1 R11 rm
 simp only [O4,fnV] at hrun ⊢
 go_wp2_with fail
 refine (A1V 101 _).mono ?_
 rintro e w2 ⟨rfl,rfl⟩
 have rm:=E5 R12.out 204 101 172
 obtain ⟨w1,hrun,r1⟩:=K3 rm.1 17 204 101 17 rfl (by decide) rm.2
 have R13:=hid r1
 clear r1 R12 rm
 simp only [O4,fnV] at hrun ⊢
 go_wp2_with fail
 refine (A1V 102 _).mono ?_
 rintro e w2 ⟨rfl,rfl⟩
 have rm:=E5 R13.out 204 102 172
 obtain ⟨w1,hrun,r1⟩:=K3 rm.1 18 204 102 18 rfl (by decide) rm.2
 have R14:=hid r1
 clear r1 R13 rm
 simp only [O4,fnV] at hrun ⊢
 go_wp2_with fail
 refine (A1V 104 _).mono ?_
 rintro e w2 ⟨rfl,rfl⟩
 have rm:=E5 R14.out 204 104 172
 obtain ⟨w1,hrun,r1⟩:=K3 rm.1 19 204 104 19 rfl (by decide) rm.2
 have R15:=hid r1
 clear r1 R14 rm
 simp only [O4,fnV] at hrun ⊢
 go_wp2_with fail
 refine (A1V 105 _).mono ?_
 rintro e w2 ⟨rfl,rfl⟩
 have rm:=E5 R15.out 204 105 172
 obtain ⟨w1,hrun,r1⟩:=K3 rm.1 20 204 105 20 rfl (by decide) rm.2
 have R16:=hid r1
 clear r1 R15 rm
 simp only [O4,fnV] at hrun ⊢
 go_wp2_with fail
 obtain ⟨w1,hrun,r1⟩:=F0 R16.out 21 106 21 rfl (by decide)
 have R17:=hid r1
 clear r1 R16
 rw [hrun]
 go_wp2_with fail
 skip
 skip
 refine (N6 107 _).mono ?_
 rintro e w2 ⟨rfl,rfl⟩
 have rm:=E5 R17.out 189 107 168
 obtain ⟨w1,hrun,r1⟩:=K3 rm.1 22 189 107 22 rfl (by decide) rm.2
 have R18:=hid r1
 clear r1 R17 rm
 simp only [O4,fnV] at hrun ⊢
 go_wp2_with fail
 refine (N6 108 _).mono ?_
 rintro e w2 ⟨rfl,rfl⟩
 have rm:=E5 R18.out 189 108 168
 obtain ⟨w1,hrun,r1⟩:=K3 rm.1 23 189 108 23 rfl (by decide) rm.2
 have R19:=hid r1
 clear r1 R18 rm
 simp only [O4,fnV] at hrun ⊢
 go_wp2_with fail
 refine (N6 109 _).mono ?_
 rintro e w2 ⟨rfl,rfl⟩
 have rm:=E5 R19.out 189 109 168
 obtain ⟨w1,hrun,r1⟩:=K3 rm.1 24 189 109 24 rfl (by decide) rm.2
 have R20:=hid r1
 clear r1 R19 rm
 simp only [O4,fnV] at hrun ⊢
 go_wp2_with fail
 obtain ⟨w1,hrun,r1⟩:=F0 R20.out 25 110 25 rfl (by decide)
 have R21:=hid r1
 clear r1 R20
 rw [hrun]
 go_wp2_with fail
 skip
 skip
 refine (N6 111 _).mono ?_
 rintro e w2 ⟨rfl,rfl⟩
 have rm:=E5 R21.out 189 111 168
 obtain ⟨w1,hrun,r1⟩:=K3 rm.1 26 189 111 26 rfl (by decide) rm.2
 have R22:=hid r1
 clear r1 R21 rm
 simp only [O4,fnV] at hrun ⊢
 go_wp2_with fail
 refine (N6 112 _).mono ?_
 rintro e w2 ⟨rfl,rfl⟩
 have rm:=E5 R22.out 189 112 168
 obtain ⟨w1,hrun,r1⟩:=K3 rm.1 27 189 112 27 rfl (by decide) rm.2
 have R23:=hid r1
 clear r1 R22 rm
 simp only [O4,fnV] at hrun ⊢
 go_wp2_with fail
 refine (N6 113 _).mono ?_
 rintro e w2 ⟨rfl,rfl⟩
 have rm:=E5 R23.out 189 113 168
 obtain ⟨w1,hrun,r1⟩:=K3 rm.1 28 189 113 28 rfl (by decide) rm.2
 have R24:=hid r1
 clear r1 R23 rm
 simp only [O4,fnV] at hrun ⊢
 go_wp2_with fail
 refine (N6 114 _).mono ?_
 rintro e w2 ⟨rfl,rfl⟩
 have rm:=E5 R24.out 189 114 168
 obtain ⟨w1,hrun,r1⟩:=K3 rm.1 29 189 114 29 rfl (by decide) rm.2
 have R25:=hid r1
 clear r1 R24 rm
 simp only [O4,fnV] at hrun ⊢
 go_wp2_with fail
 obtain ⟨w1,hrun,r1⟩:=F0 R25.out 32 115 32 rfl (by decide)
 have R26:=hid r1
 clear r1 R25
 rw [hrun]
 obtain ⟨w1,hrun,r1⟩:=F0 R26.out 48 116 48 rfl (by decide)
 have R27:=hid r1
 clear r1 R26
 skip
 obtain ⟨w1,hrun,r1⟩:=F0 R27.out 49 117 49 rfl (by decide)
 have R28:=hid r1
 clear r1 R27
 skip
 obtain ⟨w1,hrun,r1⟩:=F0 R28.out 50 118 50 rfl (by decide)
 have R29:=hid r1
 clear r1 R28
 skip
 obtain ⟨w1,hrun,r1⟩:=F0 R29.out 51 119 51 rfl (by decide)
 have R30:=hid r1
 clear r1 R29
 skip
 obtain ⟨w1,hrun,r1⟩:=F0 R30.out 52 120 52 rfl (by decide)
 have R31:=hid r1
 clear r1 R30
 skip
 obtain ⟨w1,hrun,r1⟩:=F0 R31.out 53 121 53 rfl (by decide)
 have R32:=hid r1
 clear r1 R31
 skip
 obtain ⟨w1,hrun,r1⟩:=F0 R32.out 54 122 54 rfl (by decide)
 have R33:=hid r1
 clear r1 R32
 skip
 obtain ⟨w1,hrun,r1⟩:=F0 R33.out 55 123 55 rfl (by decide)
 have R34:=hid r1
 clear r1 R33
 skip
 obtain ⟨w1,hrun,r1⟩:=F0 R34.out 56 124 56 rfl (by decide)
 have R35:=hid r1
 clear r1 R34
 skip
 obtain ⟨w1,hrun,r1⟩:=F0 R35.out 57 125 57 rfl (by decide)
 have R36:=hid r1
 clear r1 R35
 skip
 obtain ⟨w1,hrun,r1⟩:=F0 R36.out 59 126 59 rfl (by decide)
 have R37:=hid r1
 clear r1 R36
 skip
 obtain ⟨w1,hrun,r1⟩:=F0 R37.out 60 127 60 rfl (by decide)
 have R38:=hid r1
 clear r1 R37
 skip
 obtain ⟨w1,hrun,r1⟩:=F0 R38.out 61 128 61 rfl (by decide)
 have R39:=hid r1
 clear r1 R38
 skip
 obtain ⟨w1,hrun,r1⟩:=F0 R39.out 62 129 62 rfl (by decide)
 have R40:=hid r1
 clear r1 R39
 skip
 obtain ⟨w1,hrun,r1⟩:=F0 R40.out 63 130 63 rfl (by decide)
 have R41:=hid r1
 clear r1 R40
 skip
 obtain ⟨w1,hrun,r1⟩:=F0 R41.out 65 131 65 rfl (by decide)
 have R42:=hid r1
 clear r1 R41
 skip
 obtain ⟨w1,hrun,r1⟩:=F0 R42.out 66 132 66 rfl (by decide)
 have R43:=hid r1
 clear r1 R42
 skip
 obtain ⟨w1,hrun,r1⟩:=F0 R43.out 67 133 67 rfl (by decide)
 have R44:=hid r1
 clear r1 R43
 skip
 obtain ⟨w1,hrun,r1⟩:=F0 R44.out 69 134 69 rfl (by decide)
 have R45:=hid r1
 clear r1 R44
 skip
 obtain ⟨w1,hrun,r1⟩:=F0 R45.out 70 135 70 rfl (by decide)
 have R46:=hid r1
 clear r1 R45
 skip
 obtain ⟨w1,hrun,r1⟩:=F0 R46.out 71 136 71 rfl (by decide)
 have R47:=hid r1
 clear r1 R46
 skip
 obtain ⟨w1,hrun,r1⟩:=F0 R47.out 80 137 80 rfl (by decide)
 have R48:=hid r1
 clear r1 R47
 skip
 obtain ⟨w1,hrun,r1⟩:=F0 R48.out 81 138 81 rfl (by decide)
 have R49:=hid r1
 clear r1 R48
 skip
 obtain ⟨w1,hrun,r1⟩:=F0 R49.out 82 139 82 rfl (by decide)
 have R50:=hid r1
 clear r1 R49
 skip
 obtain ⟨w1,hrun,r1⟩:=F0 R50.out 83 140 83 rfl (by decide)
 have R51:=hid r1
 clear r1 R50
 skip
 obtain ⟨w1,hrun,r1⟩:=F0 R51.out 84 141 84 rfl (by decide)
 have R52:=hid r1
 clear r1 R51
 skip
 obtain ⟨w1,hrun,r1⟩:=F0 R52.out 85 142 85 rfl (by decide)
 have R53:=hid r1
 clear r1 R52
 skip
 obtain ⟨w1,hrun,r1⟩:=F0 R53.out 86 143 86 rfl (by decide)
 have R54:=hid r1
 clear r1 R53
 skip
 obtain ⟨w1,hrun,r1⟩:=F0 R54.out 87 144 87 rfl (by decide)
 have R55:=hid r1
 clear r1 R54
 skip
 obtain ⟨w1,hrun,r1⟩:=F0 R55.out 88 145 88 rfl (by decide)
 have R56:=hid r1
 clear r1 R55
 skip
 obtain ⟨w1,hrun,r1⟩:=F0 R56.out 89 146 89 rfl (by decide)
 have R57:=hid r1
 clear r1 R56
 skip
 obtain ⟨w1,hrun,r1⟩:=F0 R57.out 90 147 90 rfl (by decide)
 have R58:=hid r1
 clear r1 R57
 skip
 obtain ⟨w1,hrun,r1⟩:=F0 R58.out 91 137 91 rfl (by decide)
 have R59:=hid r1
 clear r1 R58
 skip
 obtain ⟨w1,hrun,r1⟩:=F0 R59.out 240 148 240 rfl (by decide)
 have R60:=hid r1
 clear r1 R59
 skip
 obtain ⟨w1,hrun,r1⟩:=F0 R60.out 241 149 241 rfl (by decide)
 have R61:=hid r1
 clear r1 R60
 skip
 obtain ⟨w1,hrun,r1⟩:=F0 R61.out 243 150 243 rfl (by decide)
 have R62:=hid r1
 clear r1 R61
 skip
 obtain ⟨w1,hrun,r1⟩:=F0 R62.out 244 151 244 rfl (by decide)
 have R63:=hid r1
 clear r1 R62
 skip
 obtain ⟨w1,hrun,r1⟩:=F0 R63.out 245 152 245 rfl (by decide)
 have R64:=hid r1
 clear r1 R63
 skip
 obtain ⟨w1,hrun,r1⟩:=F0 R64.out 250 153 250 rfl (by decide)
 have R65:=hid r1
 clear r1 R64
 skip
 obtain ⟨w1,hrun,r1⟩:=F0 R65.out 253 154 253 rfl (by decide)
 have R66:=hid r1
 clear r1 R65
 skip
 obtain ⟨w1,hrun,r1⟩:=F0 R66.out 255 155 255 rfl (by decide)
 have R67:=hid r1
 clear r1 R66
 skip
 go_wp2_with fail
 skip
 go_ret
 exact ⟨_,rfl,R67.out⟩
end Go.Proofs.YtfflppedbopdpaaGreat
