/- A part of the proof of EvmLogs: ZLg2. -/
import Derived.Test.YtfflppedbopdpaaGreatZRf9
import Derived.Test.YtfflppedbopdpaaGreatZMm3
import Derived.Test.YtfflppedbopdpaaGreatZWrd4
import Derived.Test.YtfflppedbopdpaaGreatZKs
import Derived.Test.YtfflppedbopdpaaGreatZSt2
import Derived.Test.YtfflppedbopdpaaGreatZSeg
import Derived.Test.YtfflppedbopdpaaGreatZSt9
import Derived.Test.YtfflppedbopdpaaGreatZEv1
import Derived.Deep.LoopGhost
set_option linter.unusedVariables false
set_option maxRecDepth 1000000
set_option maxHeartbeats 8000000
set_option linter.unusedSimpArgs false
namespace Go.Proofs.YtfflppedbopdpaaGreat
open Go.RowKit Go.Mun

theorem B6i:A1n A1r = [20,1,1]:=by kernel_rfl
def lgC (a:Nat) (tv dv:Value):List Value:=B8 [A3 20 a,[tv],[dv]]
@[go_sem,simp] theorem B6d (a:Nat) (tv dv:Value):(lgC a tv dv).length=22:=by simp [lgC,B8]
theorem B4O (a:Nat) (t d:Option Addr) (n m k j:Nat):F8 22 (N8 A1r) (B8 A1r) [(0,.agg (A3 20 a).toArray),(1,.slice t n m),(2,.slice d k j)]=some (lgC a (.slice t n m) (.slice d k j)):=by
 rw [F7 _ _ _ A6w]
 ·rfl
 ·rw [B6i]
  refine C0 ?_ (C0 rfl (C0 rfl (L0 _)))
  show some 20=some (A3 20 a).length;rw [C4]
theorem C0l:A1l Tryz.prog 39 58 22 1 (B8 [B8 A1r]):=⟨Tryz.underlying39,⟨_,.agg (B8 A1r).toArray,rfl,by kernel_rfl,by kernel_rfl,by kernel_rfl⟩,by decide,by kernel_rfl,by decide⟩
def B0r (p:List (Nat × Value)):Option (List Value):=F8 (1*22) ((List.range 1).map fun i=>(i*22,22)) (B8 [B8 A1r]) p
theorem C0H (ρ:Operand→Value) (dst:Option Tmp) (x:Operand) (t:TypeId) (pos:String) (after:Array Edge) (gd:Option (Nat × Bool)) (w:World) :
  (execOp ρ ⟨dst,.buildSlice 39 1 #[(0,x)],t,pos,after,gd⟩).run Tryz.prog w=E7 (A4w Tryz.prog 39 58 1 [(0,ρ x)] w (B0r [(0,ρ x)])):=
 A05 ρ dst t pos after gd w C0l [(0,x)]
@[go_sem] theorem B8a (c:List Value) (h:c.length=22):B0r [(0,.agg c.toArray)]=some c:=by
 unfold B0r
 have h1:A1n [B8 A1r] = [22]:=by kernel_rfl
 have h3:N8 [B8 A1r]=(List.range 1).map fun i=>(i*22,22):=by kernel_rfl
 rw [← h3,F7 _ _ _ (by kernel_rfl)]
 ·show some (B8 [c])=some c
  simp [B8]
 ·rw [h1]
  refine C0 ?_ (L0 _)
  show some 22=some c.length;rw [h]
theorem B63:P4 Tryz.prog 39 58 (.agg (B8 A1r).toArray) 22 72:=.mk' Tryz.underlying39 (by kernel_rfl) (by kernel_rfl) (by decide)
theorem B4p (a:Nat) (t d:Option Addr) (n m k j:Nat):Q3 22 (lgC a (.slice t n m) (.slice d k j))=true:=by
 refine A0Y (B6d _ _ _) fun s hs=>?_
 simp only [List.mem_cons,List.not_mem_nil,or_false] at hs
 rcases hs with rfl | rfl | rfl
 ·rw [C4];exact D2 _ _
 ·rfl
 ·rfl
section
variable {E:Env} {w w1:World} {own:Go.Mun.Own} {c:FV} {f:Fr} {S:St} {n:Nat}
theorem _root_.Go.Mun.FrOk_up {m:Nat} (h:E6 E w own c f S n) (hm:n≤m) (hN:m+f.gas≤E.N):E6 E w own c f S m:=
 { h with llen:=Nat.le_trans h.llen hm,st:=h.st.mono hm,cnt:=hN }
theorem _root_.Go.Mun.FrOk_log {lv':Value} {g:Lg} {cs ds:List Value} (h:E6 E w own c f S n) (ho:A0 (fun b=>c.lv.ownBlock=some b) w w1) (hcs:U5 w (mn E own c) cs f.logs) (hds:A2B w (mn E own c) ds g) (hr:w1.ownsRow 0 58 22 lv' (f.logs.length+1) (cs++ds))
  (hl:∀ b,lv'.ownBlock=some b→c.lv.ownBlock=some b∨w.heap.size≤b) (hln:f.logs.length+1≤n) :
  E6 E (w1.setCell ⟨E.fb,139,none⟩ lv') own { c with lv:=lv' } { f with logs:=f.logs++[g] } S n:=by
 have hfl:=h.lt
 have hsf:¬ c.lv.ownBlock=some E.fb:=fun e=>(h.lown _ e).2.1 rfl
 have hrow1:w1.row? E.fb 0 141=some (B8 (frS E.rb c f)):=by rw [ho.row? hfl hsf];exact h.row
 have hfree1:w1.free? E.fb 0 141=true:=by rw [ho.free? hfl hsf];exact h.free
 have ho2:A0 (fun b=>b=E.fb∨c.sv.ownBlock=some b∨c.mv.ownBlock=some b∨c.lv.ownBlock=some b) w (w1.setCell ⟨E.fb,139,none⟩ lv'):=
  (ho.mono fun b hb => .inr (.inr (.inr hb))).trans (C6 w1 E.fb 139 lv') (fun i hi _ => .inl hi)
 have hR:∀ b,(b=E.fb∨c.sv.ownBlock=some b∨c.mv.ownBlock=some b∨c.lv.ownBlock=some b)→mu own E.fb E.kp c b:=fun _ h => .inr h
 obtain ⟨lcs,hlo1,_⟩:=h.logs
 have hkb:∀ b,b < w.heap.size→(b=E.fb∨c.sv.ownBlock=some b∨c.mv.ownBlock=some b∨lv'.ownBlock=some b)→(b=E.fb∨c.sv.ownBlock=some b∨c.mv.ownBlock=some b∨c.lv.ownBlock=some b):=by
  rintro b hb (h1 | h1 | h1 | h1)
  ·exact .inl h1
  ·exact .inr (.inl h1)
  ·exact .inr (.inr (.inl h1))
  ·rcases hl b h1 with h2 | h2
   ·exact .inr (.inr (.inr h2))
   ·omega
 have hmu:∀ b,b < w.heap.size→mu own E.fb E.kp { c with lv:=lv' } b→mu own E.fb E.kp c b:=fun b hb hx=>hx.imp id (hkb b hb)
 have ho3:A0 (fun b=>b=E.fb∨c.lv.ownBlock=some b) w (w1.setCell ⟨E.fb,139,none⟩ lv'):=
  (ho.mono fun b hb => .inr hb).trans (C6 w1 E.fb 139 lv') (fun i hi _ => .inl hi)
 have hown:∀ g,lv'.ownBlock=some g→own g=none∧g≠E.fb∧c.sv.ownBlock≠some g∧c.mv.ownBlock≠some g:=fun g hg=>by
  rcases hl g hg with h1 | h1
  ·exact h.lown g h1
  ·exact ⟨D4 h.st.lows h1,by omega,fun e=>by have:=B0 h.stk g e;omega,fun e=>by have:=B0 h.mem g e;omega⟩
 have hbase:∀ g,lv'.ownBlock=some g→E.w0.heap.size≤g:=fun g hg=>by
  rcases hl g hg with h1 | h1
  ·exact E4 hlo1 g h1
  ·have:=h.chg.only.size;omega
 refine h.turn ho2 (B7E lv' (f:={ f with logs:=f.logs++[g] }) (by exact hrow1)) (by rw [D1 _ (World.free?_sub hfree1 (by omega))];exact hfree1) ⟨rfl,rfl,rfl⟩ rfl rfl hkb ?_ h.sown h.sval h.slen ?_ h.mown h.mbyte h.mlen ⟨cs++ds,?_,?_⟩ hown (by simpa using hln) ?_ ?_ (Nat.le_refl _) h.nxt
 ·exact A0.own h.stk ho3 (fun g hg he=>he.elim (h.sown g hg).2 (fun e=>(h.lown g e).2.2.1 hg))
 ·exact A0.own h.mem ho3 (fun g hg he=>he.elim (h.mown g hg).2.1 (fun e=>(h.lown g e).2.2.2 hg))
 ·rw [List.length_append];exact A0.own (M7 hr hbase) (C6 w1 E.fb 139 lv') (fun g hg=>(hown g hg).2.1)
 ·exact (A4q hcs hds).only ho2 (fun b h => .inl (hR b h)) (fun b hb h=>h.imp (hmu b hb) id)
 ·exact h.ret.only ho2 (fun b h => .inl (hR b h)) (fun b hb h=>h.imp (hmu b hb) id)
 ·exact h.out.only ho2 (fun b h => .inl (hR b h)) (fun b hb h=>h.imp (hmu b hb) id)
theorem B7U (h:E6 E w own c f S n) {b:Nat} (hb:w.heap.size≤b):¬ mn E own c b:=by
 intro hx
 obtain ⟨cs,hl1,_⟩:=h.logs
 have hlt:=h.lt
 have hbase:=h.base
 have hs:=h.chg.only.size
 rcases hx with ((hx | hx) | hx | hx | hx | hx) | hx
 ·have:=h.st.lows _ hx;omega
 ·have:=(h.keep _ hx).1;omega
 ·omega
 ·have:=B0 h.stk _ hx;omega
 ·have:=B0 h.mem _ hx;omega
 ·have:=B0 hl1 _ hx;omega
 ·omega
theorem B2F {X:Nat→Prop} {w2:World} {tv dv:Value} {g:Lg} (ht:w1.ownsRow 0 25 32 tv g.topics.length (D3 g.topics)) (hl:∀ b,tv.ownBlock=some b→¬ X b) (hb:Below w1.heap.size w1 w2) (ha:g.addr < wA) (hv:∀ t∈g.topics,t < wW) (hd:J3 w2 X dv g.data) :
  A2B w2 X (lgC g.addr tv dv) g:=by
 obtain ⟨a,k,rfl⟩:=Q7 ht
 refine ⟨_,dv,rfl,hd,ha,a,k,rfl,?_,?_,hv,fun hn=>?_⟩
 ·rcases ht.2 with ⟨e,h0⟩ | ⟨g',cap,cur,e,_,_,hnc,_⟩
  ·simp only [Value.slice.injEq] at e;omega
  ·cases e;exact hnc
 ·rcases ht.2 with ⟨e,h0⟩ | ⟨g',cap,cur,e,_,_,_,hcm,_⟩
  ·simp only [Value.slice.injEq] at e;unfold maxLen;omega
  ·cases e;exact hcm
 ·obtain ⟨b,cc,e,_,_,_,hr,_⟩:=J5 ht (List.length_pos_iff.2 hn)
  cases e
  exact ⟨b,0,rfl,hl b rfl,by rw [(A0.of_below_size hb:A0 (fun _=>False) w1 w2).row? (World.row?_lt hr) (fun h=>h)];exact hr⟩
end
end Go.Proofs.YtfflppedbopdpaaGreat
namespace Go.Proofs.YtfflppedbopdpaaGreat
open Go.RowKit Go.Mun
attribute [go_sem ↓] C0H

theorem A6J (g k cc:Nat) (hk:k+2≤cc):∃ ad c',(∀ w',(Instr.slice 56 (.slice (some ⟨g,0,none⟩) (k+2) cc) (some (.int .i64 2)) none none).run Tryz.prog w' = .ok (.slice (some ad) k c') w')∧k≤c'∧c'≤cc∧(k≠0→ad=⟨g,64,none⟩):=by
 have he:Tryz.prog.elem 56=25:=by kernel_rfl
 have hs:∀ w',(sizeOf 25).run Tryz.prog w' = .ok 32 w':=fun w'=>by kernel_rfl
 have key:∀ w',(Instr.slice 56 (.slice (some ⟨g,0,none⟩) (k+2) cc) (some (.int .i64 2)) none none).run Tryz.prog w'=((sizeOf (Tryz.prog.elem 56)).run Tryz.prog w').andThen fun s w => .ok (sliced (some ⟨g,0,none⟩) ((2:Int).toNat) (k+2) cc s) w:=fun w' =>
  run_slice_l w' 56 (some ⟨g,0,none⟩) (k+2) cc (by rw [he];exact Tryz.underlying56) .i64 2 (by omega) (by omega)
 by_cases hc:cc=2
 ·subst hc
  obtain rfl:k=0:=by omega
  refine ⟨⟨g,0,none⟩,0,fun w'=>?_,Nat.le_refl _,by omega,fun h=>absurd rfl h⟩
  rw [key,he,hs];rfl
 ·refine ⟨⟨g,64,none⟩,cc - 2,fun w'=>?_,by omega,by omega,fun _=>rfl⟩
  rw [key,he,hs]
  simp only [Result.andThen,sliced]
  show Result.ok (Value.slice (if cc=2 then some (⟨g,0,none⟩:Addr) else Option.map (fun x:Addr=>x.add 64) (some (⟨g,0,none⟩:Addr))) (k+2 - 2) (cc - 2)) w'=_
  rw [if_neg hc,Nat.add_sub_cancel,Option.map_some,U9 rfl,Nat.zero_add]
end Go.Proofs.YtfflppedbopdpaaGreat
namespace Go.Proofs.YtfflppedbopdpaaGreat
open Go.RowKit Go.Mun
theorem A5J {P:Program} (ρ:Operand→Value) (dst:Option Tmp) (x y:Operand) (t t2 ty:TypeId) (pos:String) (after:Array Edge) (gd:Option (Nat × Bool)) (w:World) {xs ys:Array Value} {r:Bool} (hm:P.eqGuardType P.depth t=false) (hx:ρ x = .agg xs) (hy:ρ y = .agg ys)
  (h:(binOp .neq t (.agg xs) (.agg ys)).run P w = .ok (.bool r) w):(execOp ρ ⟨dst,.binOp .neq t x y t2,ty,pos,after,gd⟩).run P w = .ok (.value (.bool r)) w:=by
 simp [execOp,hx,hy,Sem.run_bind,run_eqGuard_agg (hm:=hm),h]
theorem B64:Tryz.prog.eqGuardType Tryz.prog.depth 25=false:=by kernel_rfl
def A9z (w:World) (a:Option Addr) (l:List Nat):Prop:=l≠[]→∃ b o,a=some ⟨b,o,none⟩∧w.row? b o (l.length*32)=some (D3 l)
theorem A9z.below {w w':World} {a:Option Addr} {l:List Nat} (h:A9z w a l) (hb:Below w.heap.size w w'):A9z w' a l:=fun hn=>by
 obtain ⟨b,o,e,hr⟩:=h hn
 exact ⟨b,o,e,((C7 hb).1 _ _ _ (World.row?_lt hr)).trans hr⟩
theorem A9z.at {w:World} {a:Option Addr} {l:List Nat} (h:A9z w a l) {q:Nat} (hq:q < l.length):∃ b o,a=some ⟨b,o,none⟩∧w.row? b (o+q*32) 32=some (A3 32 l[q]):=by
 obtain ⟨b,o,e,hr⟩:=h (by intro e;rw [e] at hq;cases hq)
 refine ⟨b,o,e,?_⟩
 rw [World.row?_sub hr (by omega) (by omega),show o+q*32 - o=q*32 by omega,stkC_at l q hq,List.getElem?_eq_getElem hq]
 rfl
theorem A9S (ts:List Nat) (n:Nat) (hn:n=ts.length) (hv:∀ t∈ts,t < wW) (hk:n≤1000000) (a1 a2:Option Addr) (c1 c2:Nat) (w:World) (h1:A9z w a1 ts) (h2:A9z w a2 ts) :
  Calls Tryz.prog 181 #[.slice a1 n c1,.slice a2 n c2] w fun e w'=>e = .returned (.bool true)∧Below w.heap.size w w':=by
 have HN:=hid hn
 have HV:=hid hv
 have H1:=hid h1
 have H2:=hid h2
 have hne:((n:Int) != (n:Int))=false:=by simp
 clear hn hv h1 h2
 go_enter Tryz.func181,Tryz.ntmps181
 go_wp2_with fail
 clear hne
 go_loopw [5] (fun ix wz => ∃ q:Nat,q≤n∧ix = .int .i64 (q:Int)∧Below w.heap.size w wz) (fun ix _=>n - (intOf ix).toNat)
 case atStart=>exact ⟨0,by omega,rfl,Below.refl _ _⟩
 case round =>
  obtain ⟨q,hq,rfl,hbz⟩:=hrel
  by_cases hlt:q < n
  ·have hqs:q < ts.length:=by rw [← HN.out];exact hlt
   obtain ⟨b1,o1,rfl,r1⟩:=(H1.out.below (hbz.trans ((Below.refl _ _).drew.mono hbz.size))).at hqs
   obtain ⟨b2,o2,rfl,r2⟩:=(H2.out.below (hbz.trans ((Below.refl _ _).drew.mono hbz.size))).at hqs
   have htw:=HV.out ts[q] (List.getElem_mem hqs)
   have hneq:∀ w,(binOp .neq 25 (.agg (A3 32 ts[q]).toArray) (.agg (A3 32 ts[q]).toArray)).run Tryz.prog w = .ok (.bool false) w:=fun w=>by
    have:=A5o (fun d=>A7a (a:=ts[q]) (b:=ts[q]) htw htw w d)
    simpa using this
   obtain ⟨t,ht⟩:∃ t,t=ts[q]:=⟨_,rfl⟩
   rw [← ht] at r1 r2 hneq
   have HNQ:=hid hneq
   have HBZ:=hid hbz
   have hqI:(q:Int) < n:=by omega
   clear hneq hbz ht htw
   obtain ⟨T,hT⟩:∃ T:World→Prop,T=fun W=>W.row? b1 (o1+q*32) 32=some (A3 32 t)∧W.row? b2 (o2+q*32) 32=some (A3 32 t):=⟨_,rfl⟩
   have HT:=hid hT
   have t0:T wr.drew:=by rw [hT];exact ⟨r1,r2⟩
   clear hT r1 r2
   go_wp2_with fail
   refine A7 T [] (.pure 0 (.pure 1 (.pure 2 (.take 3 (.pure 4 (.pure 5 (.pure 6 (.take 7 (.pure 8 .fin))))))))) (by kernel_rfl) (by kernel_rfl) ?_
   iterate 8
    first
    |refine A2 ?_ rfl (by rfl) (fun w' hs=>?_) (fun _ _ _ h=>h) ?_
     rotate_left
     ·clear hs
      go_simp
      try rfl
     simp only [Act.put,D7,D6,D5]
    |refine A9 ?_ t0 rfl (by rfl) (fun w' hs=>?_) (fun _ _ _ h=>h) ?_
     rotate_left
     ·rw [HT.out] at hs
      obtain ⟨r1,r2⟩:=hs
      go_simp
      try rfl
     simp only [Act.put,D7,D6,D5]
   refine A2 (.bool false) rfl (by rfl) (fun w' hs=>?_) (fun _ _ _ h=>h) ?_
   ·clear hs
    exact A5J _ _ _ _ _ _ _ _ _ _ _ B64 rfl rfl (HNQ.out _)
   simp only [Act.put,D7,D6,D5]
   refine C2 ?_
   go_wp2_with fail
   have hk1:IntKind.i64.wrap ((q:Int)+1)=((q+1:Nat):Int):=by rw [U6 _ (by omega) (by omega)];omega
   go_roundw
   case rel=>exact ⟨q+1,by omega,by go_num,HBZ.out.drew⟩
   case measure=>simp [intOf];omega
  ·obtain rfl:q=n:=by omega
   have HBZ:=hid hbz
   clear hbz
   go_wp2
   go_ret
   exact ⟨rfl,HBZ.out⟩
def A0M (w:World) (X:Nat→Prop) (v:Value) (l:List Lg):Prop:=∃ la lc cs,v = .slice la l.length lc∧U5 w X cs l∧(l≠[]→∃ b o,la=some ⟨b,o,none⟩∧¬ X b∧w.row? b o (l.length*22)=some cs)
theorem A0M.only {w w':World} {X X' R:Nat→Prop} {v:Value} {l:List Lg} (h:A0M w X v l) (ho:A0 R w w') (hR:∀ b,R b→X b) (hX:∀ b,b < w.heap.size→X' b→X b):A0M w' X' v l:=by
 obtain ⟨la,lc,cs,e,h1,h2⟩:=h
 refine ⟨la,lc,cs,e,h1.only ho hR hX,fun hn=>?_⟩
 obtain ⟨b,o,e,hx,hr⟩:=h2 hn
 have hlt:=World.row?_lt hr
 exact ⟨b,o,e,fun h=>hx (hX _ hlt h),(ho.row? hlt (fun h=>hx (hR _ h))).trans hr⟩
theorem A0M.below {w w':World} {X:Nat→Prop} {v:Value} {l:List Lg} (h:A0M w X v l) (hb:Below w.heap.size w w'):A0M w' X v l:=h.only (R:=fun _=>False) (A0.of_below_size hb) (fun _ h=>h.elim) (fun _ _ h=>h)
theorem A0M.of {w:World} {base:Nat} {v:Value} {X:Nat→Prop} {cs:List Value} {l:List Lg} (h:w.ownsRow base 58 22 v l.length cs) (h2:U5 w X cs l) (hX:∀ b,v.ownBlock=some b→¬ X b):A0M w X v l:=by
 obtain ⟨a,c,rfl⟩:=E9 h
 refine ⟨a,c,cs,rfl,h2,fun hn=>?_⟩
 obtain ⟨g,c',e,_,_,_,hr,_⟩:=J5 h (List.length_pos_iff.2 hn)
 cases e
 exact ⟨g,0,rfl,hX g rfl,hr⟩
theorem B2G {w:World} {X:Nat→Prop} {cs:List Value} {g:Lg} (h:A2B w X cs g):cs.length=22:=by
 obtain ⟨tv,dv,rfl,_⟩:=h
 simp [B8]
theorem B2D {w:World} {X:Nat→Prop} {cs:List Value} {l:List Lg} (h:U5 w X cs l):∀ i (hi:i < l.length),∃ c,A2B w X c l[i]∧(cs.drop (i*22)).take 22=c:=by
 induction h with
 | nil=>intro i hi;cases hi
 | cons h1 h2 ih =>
  intro i hi
  have hl:=B2G h1
  match i,hi with
  | 0,_=>exact ⟨_,h1,by rw [Nat.zero_mul,List.drop_zero,List.take_left' hl]⟩
  | i+1,hi =>
   obtain ⟨c,hc,e⟩:=ih i (by simpa using hi)
   refine ⟨c,hc,?_⟩
   rw [show (i+1)*22=22+i*22 by omega,← List.drop_drop,List.drop_left' hl]
   exact e
structure B3m (w:World) (b o:Nat) (g:Lg) (ta:Option Addr) (tc:Nat) (da:Option Addr) (dc:Nat):Prop where
 addr:w.row? b o 20=some (A3 20 g.addr)
 topics:w.cell? ⟨b,o+20,none⟩=some (.slice ta g.topics.length tc)
 data:w.cell? ⟨b,o+21,none⟩=some (.slice da g.data.length dc)
 words:A9z w ta g.topics
 ints:G9 w .u8 da dc g.data
theorem B3m.below {w w':World} {b o:Nat} {g:Lg} {ta da:Option Addr} {tc dc:Nat} (h:B3m w b o g ta tc da dc) (hb:Below w.heap.size w w'):B3m w' b o g ta tc da dc:=
 ⟨((C7 hb).1 _ _ _ (World.row?_lt h.addr)).trans h.addr,(hb.cell (World.block_lt_of_cell? w _ h.topics)).trans h.topics,(hb.cell (World.block_lt_of_cell? w _ h.data)).trans h.data,h.words.below hb,h.ints.below hb⟩
theorem A0M.at {w:World} {X:Nat→Prop} {la:Option Addr} {lc n:Nat} {l:List Lg} (h:A0M w X (.slice la n lc) l) {i:Nat} (hi:i < l.length):∃ b o ta tc da dc,la=some ⟨b,o,none⟩∧B3m w b (o+i*22) l[i] ta tc da dc∧l[i].addr < wA∧(∀ t∈l[i].topics,t < wW)∧l[i].topics.length≤maxLen:=by
 obtain ⟨la',lc',cs,e,h1,h2⟩:=h
 cases e
 obtain ⟨b,o,rfl,_,hr⟩:=h2 (by intro e;rw [e] at hi;cases hi)
 obtain ⟨c,⟨tv,dv,hc,hd,ha,ta,tc,rfl,ht1,ht2,htw,hto⟩,e⟩:=B2D h1 i hi
 obtain ⟨⟨da,dc,rfl,hdi,_⟩,_,_⟩:=hd
 have hrow:w.row? b (o+i*22) 22=some c:=by
  rw [World.row?_sub hr (by omega) (by omega),show o+i*22 - o=i*22 by omega,e]
 rw [hc] at hrow
 refine ⟨b,o,ta,tc,da,dc,rfl,⟨?_,?_,?_,fun hn=>?_,hdi⟩,ha,htw,Nat.le_trans ht1 ht2⟩
 ·exact I5 hrow (i:=0) rfl (by simp [A4]) (by simp)
 ·exact C8 hrow (i:=1) rfl (by simp [A8,A4])
 ·exact C8 hrow (i:=2) rfl (by simp [A8,A4])
 ·obtain ⟨b2,o2,e2,_,hr2⟩:=hto hn
  exact ⟨b2,o2,e2,hr2⟩
theorem B19 (l:List Lg) (n:Nat) (hn:n=l.length) (hk:n≤1000000) (hts:∀ g∈l,g.topics.length≤1000000∧g.data.length≤1099511627776) {X1 X2:Nat→Prop} (a1 a2:Option Addr) (c1 c2:Nat) (w:World) (h1:A0M w X1 (.slice a1 n c1) l) (h2:A0M w X2 (.slice a2 n c2) l) :
  Calls Tryz.prog 73 #[.slice a1 n c1,.slice a2 n c2] w fun e w'=>e = .returned (.bool true)∧Below w.heap.size w w':=by
 have HN:=hid hn
 have HTS:=hid hts
 have H1:=hid h1
 have H2:=hid h2
 have hne:((n:Int) != (n:Int))=false:=by simp
 clear hn h1 h2 hts
 go_enter Tryz.func73,Tryz.ntmps73
 go_wp2_with fail
 clear hne
 go_loopw [5] (fun ix wz => ∃ q:Nat,q≤n∧ix = .int .i64 (q:Int)∧Below w.heap.size w wz) (fun ix _=>n - (intOf ix).toNat)
 case atStart=>exact ⟨0,by omega,rfl,Below.refl _ _⟩
 case round =>
  obtain ⟨q,hq,rfl,hbz⟩:=hrel
  by_cases hlt:q < n
  ·have hqs:q < l.length:=by rw [← HN.out];exact hlt
   have hbd:Below w.heap.size w wr.drew:=hbz.trans ((Below.refl _ _).drew.mono hbz.size)
   obtain ⟨b1,o1,ta1,tc1,da1,dc1,rfl,g1,ha,htw,_⟩:=(H1.out.below hbd).at hqs
   obtain ⟨b2,o2,ta2,tc2,da2,dc2,rfl,g2,_,_,_⟩:=(H2.out.below hbd).at hqs
   have hlen:=HTS.out l[q] (List.getElem_mem hqs)
   obtain ⟨G,hG⟩:∃ G,G=l[q]:=⟨_,rfl⟩
   rw [← hG] at g1 g2 ha htw hlen
   have hneq:∀ w,(binOp .neq 23 (.agg (A3 20 G.addr).toArray) (.agg (A3 20 G.addr).toArray)).run Tryz.prog w = .ok (.bool false) w:=fun w=>by
    have:=A5o (fun d=>B1w (a:=G.addr) (b:=G.addr) ha ha w d)
    simpa using this
   have HSW:=hid (A9S G.topics G.topics.length rfl htw hlen.1 ta1 ta2 tc1 tc2 wr.drew g1.words g2.words)
   have HNQ:=hid hneq
   have HBZ:=hid hbd
   have hqI:(q:Int) < n:=by omega
   obtain ⟨T,hT⟩:∃ T:World→Prop,T=fun W=>B3m W b1 (o1+q*22) G ta1 tc1 da1 dc1∧B3m W b2 (o2+q*22) G ta2 tc2 da2 dc2:=⟨_,rfl⟩
   have HT:=hid hT
   have HTB:Hid (∀ W W',T W→Below W.heap.size W W'→T W'):=by
    show ∀ W W',T W→Below W.heap.size W W'→T W'
    rw [hT]
    exact fun W W' ⟨x1,x2⟩ hb=>⟨x1.below hb,x2.below hb⟩
   have t0:T wr.drew:=by rw [hT];exact ⟨g1,g2⟩
   clear hneq hbz hbd hG htw ha hT g1 g2 hlen
   go_wp2_with fail
   refine A7 T [] (.pure 0 (.pure 1 (.pure 2 (.pure 3 (.take 4 (.pure 5 (.pure 6 (.pure 7 (.pure 8 (.take 9 (.pure 10 (.pure 11 (.pure 12 (.pure 13 (.pure 14 (.pure 15 (.take 16 (.take 17 (.pure 18 (.pure 19 (.pure 20 (.pure 21 (.take 22 (.take 23 (.pure 24 (.pure 25 (.pure 26 (.pure 27 (.pure 28 (.pure 29 (.pure 30 (.take 31 (.pure 32 (.pure 33 (.pure 34 (.pure 35 (.take 36 (.alt 37 (.pure 38 (.pure 39 .fin)) .stop)))))))))))))))))))))))))))))))))))))) (by kernel_rfl) (by kernel_rfl) ?_
   iterate 10
    first
    |refine A2 ?_ rfl (by rfl) (fun w' hs=>?_) (fun _ _ _ h=>h) ?_
     rotate_left
     ·clear hs
      go_simp
      try rfl
     simp only [Act.put,D7,D6,D5]
    |refine A9 ?_ t0 rfl (by rfl) (fun w' hs=>?_) (fun _ _ _ h=>h) ?_
     rotate_left
     ·rw [HT.out] at hs
      obtain ⟨g1,g2⟩:=hs;have u1:=g1.addr;have u2:=g1.topics;have u3:=g1.data;have v1:=g2.addr;have v2:=g2.topics;have v3:=g2.data;have s1:=D8 (P:=Tryz.prog) Tryz.underlying26 Tryz.underlying5 Tryz.underlying9 rfl g1.ints;have s2:=D8 (P:=Tryz.prog) Tryz.underlying26 Tryz.underlying5 Tryz.underlying9 rfl g2.ints;clear g1 g2
      go_simp
      try rfl
     simp only [Act.put,D7,D6,D5]
   refine A2 (.bool false) rfl (by rfl) (fun w' hs=>?_) (fun _ _ _ h=>h) ?_
   ·clear hs
    exact A5J _ _ _ _ _ _ _ _ _ _ _ B4D rfl rfl (HNQ.out _)
   simp only [Act.put,D7,D6,D5]
   iterate 26
    first
    |refine A2 ?_ rfl (by rfl) (fun w' hs=>?_) (fun _ _ _ h=>h) ?_
     rotate_left
     ·clear hs
      go_simp
      try rfl
     simp only [Act.put,D7,D6,D5]
    |refine A9 ?_ t0 rfl (by rfl) (fun w' hs=>?_) (fun _ _ _ h=>h) ?_
     rotate_left
     ·rw [HT.out] at hs
      obtain ⟨g1,g2⟩:=hs;have u1:=g1.addr;have u2:=g1.topics;have u3:=g1.data;have v1:=g2.addr;have v2:=g2.topics;have v3:=g2.data;have s1:=D8 (P:=Tryz.prog) Tryz.underlying26 Tryz.underlying5 Tryz.underlying9 rfl g1.ints;have s2:=D8 (P:=Tryz.prog) Tryz.underlying26 Tryz.underlying5 Tryz.underlying9 rfl g2.ints;clear g1 g2
      go_simp
      try rfl
     simp only [Act.put,D7,D6,D5]
   refine A5 rfl (fun K hK=>?_)
   go_simp
   refine HSW.out.mono ?_
   rintro e wv ⟨rfl,hbv⟩
   have t1:T wv:=HTB.out _ _ t0 hbv
   have HBV:=hid hbv
   clear hbv
   refine hK.out _ _ t1 ?_
   clear hK K
   iterate 2
    refine A2 ?_ rfl (by rfl) (fun w' hs=>?_) (fun _ _ _ h=>h) ?_
    rotate_left
    ·clear hs
     go_simp
     try rfl
    simp only [Act.put,D7,D6,D5]
   refine C2 ?_
   go_wp2_with fail
   have hk1:IntKind.i64.wrap ((q:Int)+1)=((q+1:Nat):Int):=by rw [U6 _ (by omega) (by omega)];omega
   go_roundw
   case rel=>exact ⟨q+1,by omega,by go_num,HBZ.out.trans (HBV.out.mono HBZ.out.size)⟩
   case measure=>simp [intOf];omega
  ·obtain rfl:q=n:=by omega
   have HBZ:=hid hbz
   clear hbz
   go_wp2
   go_ret
   exact ⟨rfl,HBZ.out⟩
theorem A6d {w:World} (g e:Int) (d:J1) (ad:Nat) (L:List Lg) (hLn:L.length≤1000000) (hLt:∀ g∈L,g.topics.length≤1000000∧g.data.length≤1099511627776) (a1 a2 l1 l2:Option Addr) (c1 c2 j1 j2:Nat) (had:ad < wA) (h1:G9 w .u8 a1 c1 d) (h2:G9 w .u8 a2 c2 d) {X1 X2:Nat→Prop} (h3:A0M w X1 (.slice l1 L.length j1) L) (h4:A0M w X2 (.slice l2 L.length j2) L) :
  Calls Tryz.prog 39 #[.agg (B8 (F3 ⟨g,e,[],L,ad⟩ (.slice a1 d.length c1) (.slice l1 L.length j1))).toArray,.agg (B8 (F3 ⟨g,e,[],L,ad⟩ (.slice a2 d.length c2) (.slice l2 L.length j2))).toArray] w fun r w'=>r = .returned (.bool true)∧Below w.heap.size w w':=by
 obtain ⟨X,hX⟩:∃ X,X=B8 (F3 ⟨g,e,[],L,ad⟩ (.slice a1 d.length c1) (.slice l1 L.length j1)):=⟨_,rfl⟩
 obtain ⟨Y,hY⟩:∃ Y,Y=B8 (F3 ⟨g,e,[],L,ad⟩ (.slice a2 d.length c2) (.slice l2 L.length j2)):=⟨_,rfl⟩
 have lX:X.length=24:=by rw [hX];exact O7 _ _ _
 have lY:Y.length=24:=by rw [hY];exact O7 _ _ _
 rw [← hX,← hY]
 obtain ⟨w0,e0⟩:∃ w0,w0=(w.alloc (.cells X.toArray 41)).alloc (.cells Y.toArray 41):=⟨_,rfl⟩
 have hb0:Below w.heap.size w w0:=by rw [e0];exact ((Below.refl _ _).alloc (Nat.le_refl _) _).alloc (by simp) _
 have hr:w0.row? w.heap.size 0 24=some X:=by rw [e0,World.row?_alloc_lt _ (by simp)];exact World.row?_alloc_at X 41 _ rfl lX
 have hs:w0.row? (w.heap.size+1) 0 24=some Y:=by rw [e0];exact World.row?_alloc_at Y 41 _ (by simp) lY
 rw [hX] at hr
 rw [hY] at hs
 have hq:∀ w,(binOp .eql 23 (.agg (A3 20 ad).toArray) (.agg (A3 20 ad).toArray)).run Tryz.prog w = .ok (.bool true) w:=fun w=>by have:=B0A (fun d=>B1w (a:=ad) (b:=ad) had had w d);simpa using this
 obtain ⟨T,hT⟩:∃ T:World→Prop,T=fun W=>Below w.heap.size w W∧W.row? w.heap.size 0 24=some (B8 (F3 ⟨g,e,[],L,ad⟩ (.slice a1 d.length c1) (.slice l1 L.length j1)))∧W.row? (w.heap.size+1) 0 24=some (B8 (F3 ⟨g,e,[],L,ad⟩ (.slice a2 d.length c2) (.slice l2 L.length j2)))∧G9 W .u8 a1 c1 d∧G9 W .u8 a2 c2 d∧A0M W X1 (.slice l1 L.length j1) L∧A0M W X2 (.slice l2 L.length j2) L:=⟨_,rfl⟩
 have HT:=hid hT
 have HTB:Hid (∀ w2 w3,T w2→Below w2.heap.size w2 w3→T w3):=by
  show ∀ w2 w3,T w2→Below w2.heap.size w2 w3→T w3
  rw [hT]
  rintro w2 w3 ⟨g0,g1,g2,g3,g4,g5,g6⟩ hb
  exact ⟨g0.trans (hb.mono g0.size),((C7 hb).1 _ _ _ (World.row?_lt g1)).trans g1,((C7 hb).1 _ _ _ (World.row?_lt g2)).trans g2,g3.below hb,g4.below hb,g5.below hb,g6.below hb⟩
 have HTG:Hid (∀ w2,T w2→Below w.heap.size w w2):=by show ∀ w2,T w2→_;rw [hT];intro w2 h;exact h.1
 have t0:T w0.drew:=HTB.out w0 _ (by rw [hT];exact ⟨hb0,hr,hs,h1.below hb0,h2.below hb0,h3.below hb0,h4.below hb0⟩) (Below.refl _ _).drew
 have HQ:=hid hq
 have HE:=hid e0
 have HLN:=hid (fun w=>A7V e w)
 have HSL:Hid (∀ W,T W→Calls Tryz.prog 73 #[.slice l1 L.length j1,.slice l2 L.length j2] W fun e w'=>e = .returned (.bool true)∧Below W.heap.size W w'):=by
  show ∀ W,T W→_
  rw [hT]
  exact fun W ⟨_,_,_,_,_,g5,g6⟩=>B19 L L.length rfl hLn hLt l1 l2 j1 j2 W g5 g6
 clear hT h1 h2 h3 h4 hLt hLn hb0 hr hs e0 hX hY hq
 go_enter Tryz.func39,Tryz.ntmps39
 go_wp2_with fail
 rw [← HE.out]
 refine A7 T [] (.pure 0 (.take 1 (.pure 2 (.take 3 (.pure 4 (.pure 5 (.pure 6 (.take 7 (.pure 9 (.take 10 (.alt 8 (.alt 11 (.pure 12 (.pure 13 (.pure 14 (.pure 15 (.take 16 (.take 17 (.pure 18 (.take 19 (.take 20 (.pure 21 (.pure 22 (.pure 23 (.pure 24 (.take 25 (.pure 26 (.take 27 (.pure 28 (.pure 29 (.pure 30 (.pure 31 (.take 32 (.pure 33 (.take 34 (.alt 35 (.pure 36 (.pure 37 .fin)) .stop)))))))))))))))))))))))) .stop) .stop))))))))))) (by kernel_rfl) (by kernel_rfl) ?_
 iterate 10
  first
  |refine A2 ?_ rfl (by rfl) (fun w' hs=>?_) (fun _ _ _ h=>h) ?_
   rotate_left
   ·clear hs
    go_simp
    try rfl
   simp only [Act.put,D7,D6,D5]
  |refine A9 ?_ t0 rfl (by rfl) (fun w' hs=>?_) (fun _ _ _ h=>h) ?_
   rotate_left
   ·rw [HT.out] at hs
    obtain ⟨_,g1,g2,i1,i2,_,_⟩:=hs;have u0:=A15 g1;have u1:=A0i g1;have u2:=A2G g1;have u3:=W6 g1;have u4:=A1K g1;have v0:=A15 g2;have v1:=A0i g2;have v2:=A2G g2;have v3:=W6 g2;have v4:=A1K g2;have s1:=D8 (P:=Tryz.prog) Tryz.underlying26 Tryz.underlying5 Tryz.underlying9 rfl i1;have s2:=D8 (P:=Tryz.prog) Tryz.underlying26 Tryz.underlying5 Tryz.underlying9 rfl i2;simp only [Nat.zero_add] at u0 u1 u2 u3 u4 v0 v1 v2 v3 v4
    go_simp
    try rfl
   simp only [Act.put,D7,D6,D5]
 refine A5 rfl (fun K hK=>?_)
 go_simp
 refine (HLN.out _).mono ?_
 rintro e wa ⟨rfl,rfl⟩
 have t1:=t0
 refine hK.out _ _ t1 ?_
 clear hK K
 refine A5 rfl (fun K hK=>?_)
 go_simp
 refine (HLN.out _).mono ?_
 rintro e wb ⟨rfl,rfl⟩
 have t2:=t1
 refine hK.out _ _ t2 ?_
 clear hK K
 iterate 16
  first
  |refine A2 ?_ rfl (by rfl) (fun w' hs=>?_) (fun _ _ _ h=>h) ?_
   rotate_left
   ·clear hs
    go_simp
    try rfl
   simp only [Act.put,D7,D6,D5]
  |refine A9 ?_ t2 rfl (by rfl) (fun w' hs=>?_) (fun _ _ _ h=>h) ?_
   rotate_left
   ·rw [HT.out] at hs
    obtain ⟨_,g1,g2,i1,i2,_,_⟩:=hs;have u0:=A15 g1;have u1:=A0i g1;have u2:=A2G g1;have u3:=W6 g1;have u4:=A1K g1;have v0:=A15 g2;have v1:=A0i g2;have v2:=A2G g2;have v3:=W6 g2;have v4:=A1K g2;have s1:=D8 (P:=Tryz.prog) Tryz.underlying26 Tryz.underlying5 Tryz.underlying9 rfl i1;have s2:=D8 (P:=Tryz.prog) Tryz.underlying26 Tryz.underlying5 Tryz.underlying9 rfl i2;simp only [Nat.zero_add] at u0 u1 u2 u3 u4 v0 v1 v2 v3 v4
    go_simp
    try rfl
   simp only [Act.put,D7,D6,D5]
 refine A2 (.bool true) rfl (by rfl) (fun w' hs=>?_) (fun _ _ _ h=>h) ?_
 ·clear hs
  exact B1v _ _ _ _ _ _ _ _ _ _ _ B4D rfl rfl (HQ.out _)
 simp only [Act.put,D7,D6,D5]
 iterate 6
  first
  |refine A2 ?_ rfl (by rfl) (fun w' hs=>?_) (fun _ _ _ h=>h) ?_
   rotate_left
   ·clear hs
    go_simp
    try rfl
   simp only [Act.put,D7,D6,D5]
  |refine A9 ?_ t2 rfl (by rfl) (fun w' hs=>?_) (fun _ _ _ h=>h) ?_
   rotate_left
   ·rw [HT.out] at hs
    obtain ⟨_,g1,g2,i1,i2,_,_⟩:=hs;have u0:=A15 g1;have u1:=A0i g1;have u2:=A2G g1;have u3:=W6 g1;have u4:=A1K g1;have v0:=A15 g2;have v1:=A0i g2;have v2:=A2G g2;have v3:=W6 g2;have v4:=A1K g2;have s1:=D8 (P:=Tryz.prog) Tryz.underlying26 Tryz.underlying5 Tryz.underlying9 rfl i1;have s2:=D8 (P:=Tryz.prog) Tryz.underlying26 Tryz.underlying5 Tryz.underlying9 rfl i2;simp only [Nat.zero_add] at u0 u1 u2 u3 u4 v0 v1 v2 v3 v4
    go_simp
    try rfl
   simp only [Act.put,D7,D6,D5]
 refine A5 rfl (fun K hK=>?_)
 go_simp
 refine (HSL.out _ t2).mono ?_
 rintro e wc ⟨rfl,hbw⟩
 have t3:T wc:=HTB.out _ _ t2 hbw
 clear hbw
 refine hK.out _ _ t3 ?_
 clear hK K
 iterate 2
  refine A2 ?_ rfl (by rfl) (fun w' hs=>?_) (fun _ _ _ h=>h) ?_
  rotate_left
  ·clear hs
   go_simp
   try rfl
  simp only [Act.put,D7,D6,D5]
 refine C2 ?_
 go_wp2
 go_ret
 exact ⟨rfl,HTG.out _ t3⟩
end Go.Proofs.YtfflppedbopdpaaGreat
namespace Go.Mun
open Go.RowKit

theorem B3G {T:UTy} {w w2:World} {own own2:Go.Mun.Own} {sb mb:Nat} {uv mv:Value} {last:Nat} {E:List (Nat × Nat)} {U:List Y8} {mk:List (Nat × Nat)} {S:St} {a p2:Nat} {x:Acc} (h:StaCore T w own sb mb uv mv last E U mk S)
  (hm:E1 adV wA ptV w2 mb (N0 a p2 E)) (ho:A0 (fun b=>b=mb) w w2) (hle:own.le own2) (hlow:∀ b,own2 b≠none→b < w2.heap.size) (hacc:L5 w2 own2 p2 x):StaCore T w2 own2 sb mb uv mv last (N0 a p2 E) U mk (Z9 S a x):=by
 have hB:∀ b,b=mb→own b=none∨own b=some .st∨own b=some .undos∨own b=some .marks∨own b=some .amap:=fun b hb=>by rw [hb,h.mlab];simp
 have hno:∀ {b:Nat} {l:Lab},own b=some l→l≠.amap→¬ b=mb:=fun hb hl e=>by rw [e,h.mlab] at hb;cases hb;exact hl rfl
 have hlt:=World.row?_lt h.row
 have hsm:=hno h.lab (by simp)
 exact {
  lab:=hle _ _ h.lab
  row:=by rw [ho.row? hlt hsm];exact h.row
  free:=by rw [ho.free? hlt hsm];exact h.free
  mlab:=hle _ _ h.mlab
  map:=hm
  acc:=fun p hp=>by
   by_cases e:p.1=a
   ·have h1:I3 a (N0 a p2 E)=some p.2:=by
     obtain ⟨j,hj⟩:=List.mem_iff_getElem?.1 hp
     exact A3J hm.nodup (by rw [hj,← e])
    rw [O8,if_pos rfl] at h1
    cases h1
    rw [e,A1a]
    exact hacc
   ·rw [Z8 _ _ e]
    rcases A1M hp with rfl | hp2
    ·exact absurd rfl e
    ·exact ((h.acc p hp2).but ho hB).le hle
  out:=fun b hb=>by
   rw [O8] at hb
   split at hb
   ·cases hb
   ·rename_i e
    rw [Z8 _ _ e]
    exact h.out b hb
  urow:=A0.own h.urow ho fun g hg=>hno (h.ulab g hg) (by simp)
  ulab:=fun g hg=>hle _ _ (h.ulab g hg)
  und:=fun u hu=>((h.und u hu).but ho hB).le hle
  mrow:=A0.own h.mrow ho fun g hg=>hno (h.mklab g hg) (by simp)
  mklab:=fun g hg=>hle _ _ (h.mklab g hg)
  mks:=h.mks
  mkle:=h.mkle
  low:=hlow }
theorem A6R {a q p2:Nat}:∀ {E:List (Nat × Nat)},I3 a E=some q→((N0 a p2 E).map Prod.snd++[q]).Perm (p2 :: E.map Prod.snd)
 | [],h=>by simp [I3] at h
 | (b,y) :: l,h=>by
  simp only [I3] at h
  by_cases e:b=a
  ·rw [if_pos e] at h
   cases h
   simp only [N0,if_pos e,List.map_cons,List.cons_append]
   exact List.Perm.cons _ (List.perm_append_singleton _ _)
  ·rw [if_neg e] at h
   simp only [N0,if_neg e,List.map_cons,List.cons_append]
   exact ((A6R h).cons y).trans (List.Perm.swap _ _ _)
end Go.Mun
namespace Go.Mun
open Go.RowKit

def V0 (T:UTy) (w:World) (own:Go.Mun.Own) (sb mb:Nat) (uv mv:Value) (last:Nat) (E:List (Nat × Nat)) (u:Y8) (U:List Y8) (mk:List (Nat × Nat)) (S:St) (w':World):Prop:=
 ∃ E',StaCore T w' own sb mb uv mv last E' (u :: U) mk (A20 S u)∧A1h (fun a=>a∈E'.map Prod.fst) U∧(E'.map Prod.snd++M8 U).Nodup∧E'.length≤E.length∧T6 w w' own own
theorem A5x {U:List Y8} {u:Y8} {K:Nat→Prop} (hu:∀ a,u≠.all a none) (h:A1h K (u :: U)):K u.addr∧A1h K U:=by
 match u,hu,h with
 | .nonce _ _,_,h=>exact h
 | .bal _ _,_,h=>exact h
 | .code _ _ _,_,h=>exact h
 | .slot _ _ _,_,h=>exact h
 | .all a none,hu,_=>exact absurd rfl (hu a)
 | .all _ (some (_,_)),_,h=>exact h
theorem A2d {T:UTy} {w:World} {own:Go.Mun.Own} {sb mb:Nat} {uv mv:Value} {last:Nat} {E:List (Nat × Nat)} {U:List Y8} {mk:List (Nat × Nat)} {S:St} {w2:World} {R:Nat→Prop} {p:Nat} {x:Acc} {u:Y8} (h:O6 T w own sb mb uv mv last E (u :: U) mk S) (hu:∀ a y,u≠.all a y) (hp:I3 u.addr E=some p) (ho:A0 R w w2) (hR:∀ b,R b→b=p∨own b=some (.smap p)) (hx:L5 w2 own p x) (hb:A20 S u=Z9 S u.addr x) :
  V0 T w own sb mb uv mv last E u U mk S w2:=by
 have hpU:M8 (u :: U)=M8 U:=A5i u U (fun a p x=>hu a _)
 have hlp:=(h.acc _ (L7 hp)).lab
 refine ⟨E,?_,(A5x (fun a=>hu a _) h.keys).2,by rw [← hpU];exact h.nodup,Nat.le_refl _,⟨fun _ _=>rfl,ho.mono fun b hb=>?_⟩⟩
 ·rw [hb]
  exact A7o h.toStaCore h.nodup h.map.nodup hp ho (fun b hb=>(hR b hb).elim .inl (fun e => .inr (.inl e))) hx
 ·rcases hR b hb with rfl | e
  ·rw [hlp];simp
  ·rw [e];simp
theorem V0.frm {T:UTy} {w:World} {own:Go.Mun.Own} {sb mb:Nat} {uv mv:Value} {last:Nat} {E:List (Nat × Nat)} {U:List Y8} {mk:List (Nat × Nat)} {S:St} {w0 w2:World} {u:Y8} (h:V0 T w own sb mb uv mv last E u U mk S w2) (hb:Below w0.heap.size w0 w):V0 T w0 own sb mb uv mv last E u U mk S w2:=by
 obtain ⟨E',h1,h2,h3,h4,h5⟩:=h
 exact ⟨E',h1,h2,h3,h4,(T6.below own hb).trans h5⟩
theorem A3E {T:UTy} {w:World} {own:Go.Mun.Own} {sb mb:Nat} {uv mv:Value} {last:Nat} {E:List (Nat × Nat)} {U:List Y8} {mk:List (Nat × Nat)} {S:St} {u:Y8} (h:O6 T w own sb mb uv mv last E (u :: U) mk S) (hu:∀ a,u≠.all a none):∃ p,I3 u.addr E=some p:=by
 have h1:=(A5x hu h.keys).1
 cases e:I3 u.addr E with
 | some p=>exact ⟨p,rfl⟩
 | none =>
  obtain ⟨q,hq,he⟩:=List.mem_map.1 h1
  exact absurd he (J7 e q hq)
end Go.Mun
namespace Go.Proofs.YtfflppedbopdpaaGreat
open Go.RowKit Go.Mun

theorem B7c:V3 Tryz.prog 292 21:=⟨⟨_,Tryz.underlying292,rfl⟩,by kernel_rfl⟩
section
variable (ρ:Operand→Value) (dst:Option Tmp) (x y z:Operand) (parts:List (Nat × Operand)) (t:TypeId) (pos:String) (after:Array Edge) (gd:Option (Nat × Bool)) (w:World)
theorem B8z:(execOp ρ ⟨dst,.alloc 292,t,pos,after,gd⟩).run Tryz.prog w = .ok (.value (.pointer (some ⟨w.heap.size,0,none⟩))) (w.alloc (.cells A54.toArray 292)):=P0 ρ dst t pos after gd w (fun _=>by kernel_rfl)
theorem B7v:(execOp ρ ⟨dst,.store 292 x y,t,pos,after,gd⟩).run Tryz.prog w=J9 (Y4 Tryz.prog 292 21 (ρ x) (ρ y) w):=O9 ρ dst x y t pos after gd w B7c
theorem B7b:V3 Tryz.prog 324 52:=⟨⟨_,Tryz.underlying324,rfl⟩,by kernel_rfl⟩
theorem B8y:(execOp ρ ⟨dst,.alloc 324,t,pos,after,gd⟩).run Tryz.prog w = .ok (.value (.pointer (some ⟨w.heap.size,0,none⟩))) (w.alloc (.cells A4z.toArray 324)):=P0 ρ dst t pos after gd w (fun _=>by kernel_rfl)
theorem B7u:(execOp ρ ⟨dst,.store 324 x y,t,pos,after,gd⟩).run Tryz.prog w=J9 (Y4 Tryz.prog 324 52 (ρ x) (ρ y) w):=O9 ρ dst x y t pos after gd w B7b
theorem B7a:V3 Tryz.prog 326 21:=⟨⟨_,Tryz.underlying326,rfl⟩,by kernel_rfl⟩
theorem B8x:(execOp ρ ⟨dst,.alloc 326,t,pos,after,gd⟩).run Tryz.prog w = .ok (.value (.pointer (some ⟨w.heap.size,0,none⟩))) (w.alloc (.cells A8f.toArray 326)):=P0 ρ dst t pos after gd w (fun _=>by kernel_rfl)
theorem B7t:(execOp ρ ⟨dst,.store 326 x y,t,pos,after,gd⟩).run Tryz.prog w=J9 (Y4 Tryz.prog 326 21 (ρ x) (ρ y) w):=O9 ρ dst x y t pos after gd w B7a
theorem B7e:V3 Tryz.prog 286 84:=⟨⟨_,Tryz.underlying286,rfl⟩,by kernel_rfl⟩
theorem B8B:(execOp ρ ⟨dst,.alloc 286,t,pos,after,gd⟩).run Tryz.prog w = .ok (.value (.pointer (some ⟨w.heap.size,0,none⟩))) (w.alloc (.cells A55.toArray 286)):=P0 ρ dst t pos after gd w (fun _=>by kernel_rfl)
theorem B7x:(execOp ρ ⟨dst,.store 286 x y,t,pos,after,gd⟩).run Tryz.prog w=J9 (Y4 Tryz.prog 286 84 (ρ x) (ρ y) w):=O9 ρ dst x y t pos after gd w B7e
theorem B7d:V3 Tryz.prog 290 21:=⟨⟨_,Tryz.underlying290,rfl⟩,by kernel_rfl⟩
theorem B8A:(execOp ρ ⟨dst,.alloc 290,t,pos,after,gd⟩).run Tryz.prog w = .ok (.value (.pointer (some ⟨w.heap.size,0,none⟩))) (w.alloc (.cells A9H.toArray 290)):=P0 ρ dst t pos after gd w (fun _=>by kernel_rfl)
theorem B7w:(execOp ρ ⟨dst,.store 290 x y,t,pos,after,gd⟩).run Tryz.prog w=J9 (Y4 Tryz.prog 290 21 (ρ x) (ρ y) w):=O9 ρ dst x y t pos after gd w B7d
end
attribute [go_sem ↓] B8z B7v B8y B7u B8x B7t B8B B7x B8A B7w
theorem A9I {a m:Nat}:Q3 21 (A3 20 a++[Value.int .i64 m])=true:=A0j (by simp) (fun v hv=>by
 simp only [List.mem_append,List.mem_cons,List.not_mem_nil,or_false] at hv
 rcases hv with hv | rfl
 ·exact M9 (D2 20 a) v hv
 ·rfl)
theorem B3v {a m:Nat}:Q3 52 (A3 20 a++A3 32 m)=true:=A0j (by simp) (fun v hv=>by
 simp only [List.mem_append,List.mem_cons,List.not_mem_nil,or_false] at hv
 rcases hv with hv | hv
 ·exact M9 (D2 20 a) v hv
 ·exact M9 (D2 32 m) v hv)
theorem B11 {a:Nat} {cv:Value} (h:cv.oneCell'=true):Q3 21 (A3 20 a++[cv])=true:=A0j (by simp) (fun v hv=>by
 simp only [List.mem_append,List.mem_cons,List.not_mem_nil,or_false] at hv
 rcases hv with hv | rfl
 ·exact M9 (D2 20 a) v hv
 ·exact h)
theorem B1Z {a k x:Nat}:Q3 84 (A3 20 a++(A3 32 k++A3 32 x))=true:=A0j (by simp) (fun v hv=>by
 simp only [List.mem_append,List.mem_cons,List.not_mem_nil,or_false] at hv
 rcases hv with hv | hv | hv
 ·exact M9 (D2 20 a) v hv
 ·exact M9 (D2 32 k) v hv
 ·exact M9 (D2 32 x) v hv)
theorem A8l {a:Nat} {q:Option Addr}:Q3 21 (A3 20 a++[Value.pointer q])=true:=A0j (by simp) (fun v hv=>by
 simp only [List.mem_append,List.mem_cons,List.not_mem_nil,or_false] at hv
 rcases hv with hv | rfl
 ·exact M9 (D2 20 a) v hv
 ·rfl)
theorem A1H {w:World} {b n m:Nat} {A B:List Value} (h:w.row? b 0 n=some (A++B)) (hA:A.length=m):w.row? b 0 m=some A:=by
 have h1:A++B=B8 [A,B]:=by simp [B8]
 rw [h1] at h
 exact I5 h (i:=0) rfl (by simp [A4]) hA.symm
theorem A1G {w:World} {b n m k:Nat} {A B:List Value} (h:w.row? b 0 n=some (A++B)) (hA:A.length=m) (hB:B.length=k):w.row? b m k=some B:=by
 have h1:A++B=B8 [A,B]:=by simp [B8]
 rw [h1] at h
 exact I5 h (i:=1) rfl (by simp [A8,A4,hA]) hB.symm
theorem A8a {w:World} {own:Go.Mun.Own} {p m:Nat} {x:Acc} (hx:L5 w own p x) (hm:m≤9223372036854775807):A0 (· = p) w (w.setCell ⟨p,0,none⟩ (.int .i64 m))∧L5 (w.setCell ⟨p,0,none⟩ (.int .i64 m)) own p { x with nonce:=m }:=by
 obtain ⟨cv,q,sl,h1,h2,h3,h4,h5⟩:=hx.cells
 have hpl:=hx.lab
 have ho:A0 (· = p) w (w.setCell ⟨p,0,none⟩ (.int .i64 m)):=(A0.refl (· = p) w).setCell (p:=⟨p,0,none⟩) (fun _=>rfl) _
 have hqp:¬ q=p:=fun e=>by rw [e,hpl] at h3;cases h3
 refine ⟨ho,hpl,by rw [D0];exact hx.free,⟨cv,q,sl,?_,h2.only ho (fun b hb=>by rw [hb,hpl];simp),h3,h4.only ho hqp,h5⟩,hm,hx.bal⟩
 rw [G6 _ h1 (Nat.zero_le _) (by omega),Nat.sub_zero,Z2 _ _ _ (by rw [V2];omega)];rfl
theorem A9y {w:World} {own:Go.Mun.Own} {p:Nat} {x:Acc} {cv:Value} {l:J1} (hx:L5 w own p x) (hc:Q2 w own cv l):A0 (· = p) w (w.setCell ⟨p,33,none⟩ cv)∧L5 (w.setCell ⟨p,33,none⟩ cv) own p { x with code:=l }:=by
 obtain ⟨cv0,q,sl,h1,h2,h3,h4,h5⟩:=hx.cells
 have hpl:=hx.lab
 have ho:A0 (· = p) w (w.setCell ⟨p,33,none⟩ cv):=(A0.refl (· = p) w).setCell (p:=⟨p,33,none⟩) (fun _=>rfl) _
 have hqp:¬ q=p:=fun e=>by rw [e,hpl] at h3;cases h3
 refine ⟨ho,hpl,by rw [D0];exact hx.free,⟨cv,q,sl,?_,hc.only ho (fun b hb=>by rw [hb,hpl];simp),h3,h4.only ho hqp,h5⟩,hx.nonce,hx.bal⟩
 rw [G6 _ h1 (Nat.zero_le _) (by omega),Nat.sub_zero,Z2 _ _ _ (by rw [V2];omega)]
 unfold X4
 rw [List.set_cons_succ,List.set_append_right _ _ (by simp)]
 simp
theorem B0O {w:World} {own:Go.Mun.Own} {p m:Nat} {x:Acc} (hx:L5 w own p x) (hm:m < wW):A0 (· = p) w (w.setCells p 1 (A3 32 m))∧L5 (w.setCells p 1 (A3 32 m)) own p { x with bal:=m }:=by
 obtain ⟨cv,q,sl,h1,h2,h3,h4,h5⟩:=hx.cells
 have hpl:=hx.lab
 have ho:A0 (· = p) w (w.setCells p 1 (A3 32 m)):=A0.setCells (S:=(· = p)) (A0.refl _ _) (fun _=>rfl) _ _
 have hqp:¬ q=p:=fun e=>by rw [e,hpl] at h3;cases h3
 refine ⟨ho,hpl,by rw [World.free?_setCells'];exact hx.free,⟨cv,q,sl,?_,h2.only ho (fun b hb=>by rw [hb,hpl];simp),h3,h4.only ho hqp,h5⟩,hx.nonce,hm⟩
 rw [World.row?_setCells_in 1 _ h1 (Nat.zero_le _) (by simp)]
 exact congrArg some (B1P _ _ _ _ _)
theorem A6b {w:World} {own:Go.Mun.Own} {sb mb:Nat} {uv mv:Value} {last:Nat} {E:List (Nat × Nat)} {U:List Y8} {mk:List (Nat × Nat)} {S:St} (a m:Nat) (h:O6 TU w own sb mb uv mv last E (.nonce a m :: U) mk S) :
  Calls Tryz.prog 295 #[.pointer (some ⟨sb,0,none⟩),A0s TU (.nonce a m)] w fun e w'=>e = .returned (.tuple #[])∧V0 TU w own sb mb uv mv last E (.nonce a m) U mk S w':=by
 obtain ⟨p,hp0⟩:=A3E h (by simp)
 have hp:I3 a E=some p:=hp0
 clear hp0
 have hok:=h.und _ (List.mem_cons_self)
 have ha:a < wA:=hok.1
 obtain ⟨C,hC⟩:∃ C,C=A3 20 a++[Value.int .i64 m]:=⟨_,rfl⟩
 have lC:C.length=21:=by rw [hC];simp
 have kC:Q3 21 C=true:=by rw [hC];exact A9I
 have hUV:A0s TU (.nonce a m) = .iface 292 (.agg C.toArray):=by rw [hC];rfl
 rw [hUV]
 have fb:=Y7 w A54 292 21 A8g
 obtain ⟨B,hB⟩:∃ B,B=w.heap.size:=⟨_,rfl⟩
 obtain ⟨w1,e1⟩:∃ w1,w1=(w.alloc (.cells A54.toArray 292)).setCells w.heap.size 0 C:=⟨_,rfl⟩
 have hb1:Below w.heap.size w w1:=by rw [e1];exact ((Below.refl _ _).alloc (Nat.le_refl _) _).setCells (Nat.le_refl _) _ _
 have s1:O6 TU w1.drew own sb mb uv mv last E (.nonce a m :: U) mk S:=h.only (R:=fun _=>False) (A0.of_below_size hb1.drew) (fun _ h=>h.elim)
 have rC:w1.drew.row? B 0 21=some C:=by show w1.row? B 0 21=some C;rw [e1,hB];exact B7 C fb kC
 rw [hC] at rC
 have rA:=A1H rC (C4 20 a)
 have rB:=World.row?_cell (A1G rC (C4 20 a) (k:=1) rfl) (i:=0) (by omega)
 simp only [List.getElem_cons_zero,Nat.add_zero] at rB
 have hx:=s1.acc _ (L7 hp)
 have c0:=s1.cells.1
 have l1:=s1.map.look A0Z Tryz.underlying90 (A0N _) ha
 rw [hp] at l1
 have l1':(Instr.lookup 90 (.map (some mb)) (.agg (A3 20 a).toArray) false).run Tryz.prog w1.drew = .ok (.pointer (some ⟨p,0,none⟩)) w1.drew:=l1
 obtain ⟨hO,hA⟩:=A8a hx hok.2
 have fp:w1.drew.free? p 0 1=true:=World.free?_sub hx.free (by omega)
 have HF:Hid (V0 TU w1.drew own sb mb uv mv last E (.nonce a m) U mk S (w1.drew.setCell ⟨p,0,none⟩ (.int .i64 m))):=A2d s1 (by simp) hp hO (fun b hb => .inl hb) hA rfl
 have HC:=hid hC
 have HE:=hid e1
 have HB:=hid hB
 have HB1:=hid hb1
 have ta292:∀ w,(Instr.typeAssert (.iface 292 (.agg C.toArray)) 298 292 true).run Tryz.prog w = .ok (.tuple #[.agg C.toArray,.bool true]) w:=fun w=>by kernel_rfl
 clear hC e1 hB hb1 h hp ha s1 l1 hx rC hUV hO hA hok
 go_enter Tryz.func295,Tryz.ntmps295
 go_wp2_with fail
 rw [← HE.out]
 rw [← HB.out]
 go_still_tail 11,(by kernel_rfl)
 go_wp2
 go_end0
 exact ⟨rfl,HF.out.frm HB1.out.drew⟩
theorem A8s {w:World} {own:Go.Mun.Own} {sb mb:Nat} {uv mv:Value} {last:Nat} {E:List (Nat × Nat)} {U:List Y8} {mk:List (Nat × Nat)} {S:St} (a m:Nat) (h:O6 TU w own sb mb uv mv last E (.bal a m :: U) mk S) :
  Calls Tryz.prog 295 #[.pointer (some ⟨sb,0,none⟩),A0s TU (.bal a m)] w fun e w'=>e = .returned (.tuple #[])∧V0 TU w own sb mb uv mv last E (.bal a m) U mk S w':=by
 obtain ⟨p,hp0⟩:=A3E h (by simp)
 have hp:I3 a E=some p:=hp0
 clear hp0
 have hok:=h.und _ (List.mem_cons_self)
 have ha:a < wA:=hok.1
 obtain ⟨C,hC⟩:∃ C,C=A3 20 a++A3 32 m:=⟨_,rfl⟩
 have lC:C.length=52:=by rw [hC];simp
 have kC:Q3 52 C=true:=by rw [hC];exact B3v
 have hUV:A0s TU (.bal a m) = .iface 324 (.agg C.toArray):=by rw [hC];rfl
 rw [hUV]
 have fb:=Y7 w A4z 324 52 A4U
 obtain ⟨B,hB⟩:∃ B,B=w.heap.size:=⟨_,rfl⟩
 obtain ⟨w1,e1⟩:∃ w1,w1=(w.alloc (.cells A4z.toArray 324)).setCells w.heap.size 0 C:=⟨_,rfl⟩
 have hb1:Below w.heap.size w w1:=by rw [e1];exact ((Below.refl _ _).alloc (Nat.le_refl _) _).setCells (Nat.le_refl _) _ _
 have s1:O6 TU w1.drew own sb mb uv mv last E (.bal a m :: U) mk S:=h.only (R:=fun _=>False) (A0.of_below_size hb1.drew) (fun _ h=>h.elim)
 have rC:w1.drew.row? B 0 52=some C:=by show w1.row? B 0 52=some C;rw [e1,hB];exact B7 C fb kC
 rw [hC] at rC
 have rA:=A1H rC (C4 20 a)
 have rB:=A1G rC (C4 20 a) (C4 32 m)
 have lm:=C4 32 m
 have km:=D2 32 m
 have hx:=s1.acc _ (L7 hp)
 have c0:=s1.cells.1
 have l1:=s1.map.look A0Z Tryz.underlying90 (A0N _) ha
 rw [hp] at l1
 have l1':(Instr.lookup 90 (.map (some mb)) (.agg (A3 20 a).toArray) false).run Tryz.prog w1.drew = .ok (.pointer (some ⟨p,0,none⟩)) w1.drew:=l1
 obtain ⟨hO,hA⟩:=B0O hx hok.2
 have fp:w1.drew.free? p 1 32=true:=World.free?_sub hx.free (by omega)
 have HF:Hid (V0 TU w1.drew own sb mb uv mv last E (.bal a m) U mk S (w1.drew.setCells p 1 (A3 32 m))):=A2d s1 (by simp) hp hO (fun b hb => .inl hb) hA rfl
 have HC:=hid hC
 have HE:=hid e1
 have HB:=hid hB
 have HB1:=hid hb1
 have ta292:∀ w,(Instr.typeAssert (.iface 324 (.agg C.toArray)) 298 292 true).run Tryz.prog w = .ok (.tuple #[.agg A54.toArray,.bool false]) w:=fun w=>by kernel_rfl
 have ta324:∀ w,(Instr.typeAssert (.iface 324 (.agg C.toArray)) 298 324 true).run Tryz.prog w = .ok (.tuple #[.agg C.toArray,.bool true]) w:=fun w=>by kernel_rfl
 clear hC e1 hB hb1 h hp ha s1 l1 hx rC hUV hO hA hok
 go_enter Tryz.func295,Tryz.ntmps295
 go_wp2_with fail
 rw [← HE.out]
 rw [← HB.out]
 go_still_tail 11,(by kernel_rfl)
 go_wp2
 go_end0
 exact ⟨rfl,HF.out.frm HB1.out.drew⟩
theorem A7s {w:World} {own:Go.Mun.Own} {sb mb:Nat} {uv mv:Value} {last:Nat} {E:List (Nat × Nat)} {U:List Y8} {mk:List (Nat × Nat)} {S:St} (a:Nat) (cv:Value) (l:J1) (h:O6 TU w own sb mb uv mv last E (.code a cv l :: U) mk S) :
  Calls Tryz.prog 295 #[.pointer (some ⟨sb,0,none⟩),A0s TU (.code a cv l)] w fun e w'=>e = .returned (.tuple #[])∧V0 TU w own sb mb uv mv last E (.code a cv l) U mk S w':=by
 obtain ⟨p,hp0⟩:=A3E h (by simp)
 have hp:I3 a E=some p:=hp0
 clear hp0
 have hok:=h.und _ (List.mem_cons_self)
 have ha:a < wA:=hok.1
 have hcv1:cv.oneCell'=true:=by obtain ⟨⟨aa,cc,hh,_⟩,_⟩:=hok.2;rw [hh];rfl
 obtain ⟨C,hC⟩:∃ C,C=A3 20 a++[cv]:=⟨_,rfl⟩
 have lC:C.length=21:=by rw [hC];simp
 have kC:Q3 21 C=true:=by rw [hC];exact B11 hcv1
 have hUV:A0s TU (.code a cv l) = .iface 326 (.agg C.toArray):=by rw [hC];rfl
 rw [hUV]
 have fb:=Y7 w A8f 326 21 A8e
 obtain ⟨B,hB⟩:∃ B,B=w.heap.size:=⟨_,rfl⟩
 obtain ⟨w1,e1⟩:∃ w1,w1=(w.alloc (.cells A8f.toArray 326)).setCells w.heap.size 0 C:=⟨_,rfl⟩
 have hb1:Below w.heap.size w w1:=by rw [e1];exact ((Below.refl _ _).alloc (Nat.le_refl _) _).setCells (Nat.le_refl _) _ _
 have s1:O6 TU w1.drew own sb mb uv mv last E (.code a cv l :: U) mk S:=h.only (R:=fun _=>False) (A0.of_below_size hb1.drew) (fun _ h=>h.elim)
 have rC:w1.drew.row? B 0 21=some C:=by show w1.row? B 0 21=some C;rw [e1,hB];exact B7 C fb kC
 rw [hC] at rC
 have rA:=A1H rC (C4 20 a)
 have rB:=World.row?_cell (A1G rC (C4 20 a) (k:=1) rfl) (i:=0) (by omega)
 simp only [List.getElem_cons_zero,Nat.add_zero] at rB
 have hx:=s1.acc _ (L7 hp)
 have c0:=s1.cells.1
 have l1:=s1.map.look A0Z Tryz.underlying90 (A0N _) ha
 rw [hp] at l1
 have l1':(Instr.lookup 90 (.map (some mb)) (.agg (A3 20 a).toArray) false).run Tryz.prog w1.drew = .ok (.pointer (some ⟨p,0,none⟩)) w1.drew:=l1
 have hok1:Q2 w1.drew own cv l:=hok.2.only (R:=fun _=>False) (A0.of_below_size hb1.drew) (fun _ h=>h.elim)
 obtain ⟨hO,hA⟩:=A9y hx hok1
 have fp:w1.drew.free? p 33 1=true:=World.free?_sub hx.free (by omega)
 have HF:Hid (V0 TU w1.drew own sb mb uv mv last E (.code a cv l) U mk S (w1.drew.setCell ⟨p,33,none⟩ cv)):=A2d s1 (by simp) hp hO (fun b hb => .inl hb) hA rfl
 have HC:=hid hC
 have HE:=hid e1
 have HB:=hid hB
 have HB1:=hid hb1
 have ta292:∀ w,(Instr.typeAssert (.iface 326 (.agg C.toArray)) 298 292 true).run Tryz.prog w = .ok (.tuple #[.agg A54.toArray,.bool false]) w:=fun w=>by kernel_rfl
 have ta324:∀ w,(Instr.typeAssert (.iface 326 (.agg C.toArray)) 298 324 true).run Tryz.prog w = .ok (.tuple #[.agg A4z.toArray,.bool false]) w:=fun w=>by kernel_rfl
 have ta326:∀ w,(Instr.typeAssert (.iface 326 (.agg C.toArray)) 298 326 true).run Tryz.prog w = .ok (.tuple #[.agg C.toArray,.bool true]) w:=fun w=>by kernel_rfl
 clear hC e1 hB hb1 h hp ha s1 l1 hx rC hUV hO hA hok hok1
 go_enter Tryz.func295,Tryz.ntmps295
 go_wp2_with fail
 rw [← HE.out]
 rw [← HB.out]
 go_still_tail 11,(by kernel_rfl)
 go_wp2
 go_end0
 exact ⟨rfl,HF.out.frm HB1.out.drew⟩
theorem A7q {w:World} {own:Go.Mun.Own} {sb mb:Nat} {uv mv:Value} {last:Nat} {E:List (Nat × Nat)} {U:List Y8} {mk:List (Nat × Nat)} {S:St} (a k x:Nat) (h:O6 TU w own sb mb uv mv last E (.slot a k x :: U) mk S) :
  Calls Tryz.prog 295 #[.pointer (some ⟨sb,0,none⟩),A0s TU (.slot a k x)] w fun e w'=>e = .returned (.tuple #[])∧V0 TU w own sb mb uv mv last E (.slot a k x) U mk S w':=by
 obtain ⟨p,hp0⟩:=A3E h (by simp)
 have hp:I3 a E=some p:=hp0
 clear hp0
 have hok:=h.und _ (List.mem_cons_self)
 have ha:a < wA:=hok.1
 obtain ⟨C,hC⟩:∃ C,C=A3 20 a++(A3 32 k++A3 32 x):=⟨_,rfl⟩
 have lC:C.length=84:=by rw [hC];simp
 have kC:Q3 84 C=true:=by rw [hC];exact B1Z
 have hUV:A0s TU (.slot a k x) = .iface 286 (.agg C.toArray):=by rw [hC];rfl
 rw [hUV]
 have fb:=Y7 w A55 286 84 A4W
 obtain ⟨B,hB⟩:∃ B,B=w.heap.size:=⟨_,rfl⟩
 obtain ⟨w1,e1⟩:∃ w1,w1=(w.alloc (.cells A55.toArray 286)).setCells w.heap.size 0 C:=⟨_,rfl⟩
 have hb1:Below w.heap.size w w1:=by rw [e1];exact ((Below.refl _ _).alloc (Nat.le_refl _) _).setCells (Nat.le_refl _) _ _
 have s1:O6 TU w1.drew own sb mb uv mv last E (.slot a k x :: U) mk S:=h.only (R:=fun _=>False) (A0.of_below_size hb1.drew) (fun _ h=>h.elim)
 have rC:w1.drew.row? B 0 84=some C:=by show w1.row? B 0 84=some C;rw [e1,hB];exact B7 C fb kC
 rw [hC] at rC
 have rA:=A1H rC (C4 20 a)
 have e3:A3 20 a++(A3 32 k++A3 32 x)=B8 [A3 20 a,A3 32 k,A3 32 x]:=by simp [B8]
 rw [e3] at rC
 have rK:w1.drew.row? B 20 32=some (A3 32 k):=I5 rC (i:=1) rfl (by simp [A8,A4]) (by simp)
 have rX:w1.drew.row? B 52 32=some (A3 32 x):=I5 rC (i:=2) rfl (by simp [A8,A4]) (by simp)
 have hx:=s1.acc _ (L7 hp)
 have c0:=s1.cells.1
 have l1:=s1.map.look A0Z Tryz.underlying90 (A0N _) ha
 rw [hp] at l1
 have l1':(Instr.lookup 90 (.map (some mb)) (.agg (A3 20 a).toArray) false).run Tryz.prog w1.drew = .ok (.pointer (some ⟨p,0,none⟩)) w1.drew:=l1
 have HAS:=hid (B1O hx k x hok.2.1 hok.2.2)
 have HS1:=hid s1
 have HP:=hid hp
 clear e3 hok
 have HC:=hid hC
 have HE:=hid e1
 have HB:=hid hB
 have HB1:=hid hb1
 have ta292:∀ w,(Instr.typeAssert (.iface 286 (.agg C.toArray)) 298 292 true).run Tryz.prog w = .ok (.tuple #[.agg A54.toArray,.bool false]) w:=fun w=>by kernel_rfl
 have ta324:∀ w,(Instr.typeAssert (.iface 286 (.agg C.toArray)) 298 324 true).run Tryz.prog w = .ok (.tuple #[.agg A4z.toArray,.bool false]) w:=fun w=>by kernel_rfl
 have ta326:∀ w,(Instr.typeAssert (.iface 286 (.agg C.toArray)) 298 326 true).run Tryz.prog w = .ok (.tuple #[.agg A8f.toArray,.bool false]) w:=fun w=>by kernel_rfl
 have ta286:∀ w,(Instr.typeAssert (.iface 286 (.agg C.toArray)) 298 286 true).run Tryz.prog w = .ok (.tuple #[.agg C.toArray,.bool true]) w:=fun w=>by kernel_rfl
 clear hC e1 hB hb1 h hp ha s1 l1 hx rC hUV 
 go_enter Tryz.func295,Tryz.ntmps295
 go_wp2_with fail
 rw [← HE.out]
 rw [← HB.out]
 go_still_tail 11,(by kernel_rfl)
 go_wp2_with fail
 refine HAS.out.mono ?_
 rintro e w3 ⟨rfl,hA,hO⟩
 have HF:Hid (V0 TU w1.drew own sb mb uv mv last E (.slot a k x) U mk S w3):=A2d HS1.out (by simp) HP.out hO (fun b hb => .inr hb) hA rfl
 clear hA hO
 go_wp2
 go_end0
 exact ⟨rfl,HF.out.frm HB1.out.drew⟩
end Go.Proofs.YtfflppedbopdpaaGreat
namespace Go.Mun
open Go.RowKit

def ptO:Option Nat→Value
 | none => .pointer none
 | some p=>ptV p
theorem E1.opt {w:World} {b:Nat} {E:List (Nat × Nat)} (h:E1 adV wA ptV w b E):E1 adV wA ptO w b (E.map fun p=>(p.1,some p.2)):=by
 obtain ⟨es,c,h1,h2,h3,h4⟩:=h
 refine ⟨es,c,h1,by rw [h2,List.map_map];rfl,fun p hp=>?_,h4⟩
 obtain ⟨q,hq,rfl⟩:=List.mem_map.1 hp
 exact h3 q hq
theorem E1.unopt {w:World} {b:Nat} {E:List (Nat × Nat)} (h:E1 adV wA ptO w b (E.map fun p=>(p.1,some p.2))):E1 adV wA ptV w b E:=by
 obtain ⟨es,c,h1,h2,h3,h4⟩:=h
 exact ⟨es,c,h1,by rw [h2,List.map_map];rfl,fun p hp=>h3 (p.1,some p.2) (List.mem_map.2 ⟨p,hp,rfl⟩),h4⟩
theorem A9m {β:Type} (a:Nat) (x:β):∀ L:List (Nat × β),A1j a (N0 a x L)=A1j a L
 | []=>by simp [N0,A1j]
 | (b,y) :: l=>by
  simp only [N0]
  split
  ·rename_i e
   simp [A1j,e]
  ·have ih:=A9m a x l
   unfold A1j at ih ⊢
   simp only [List.filter_cons,ih]
theorem B4H {β γ:Type} (a:Nat) (f:β→γ) (L:List (Nat × β)):A1j a (L.map fun p=>(p.1,f p.2))=(A1j a L).map fun p=>(p.1,f p.2):=by
 unfold A1j
 rw [List.filter_map]
 rfl
theorem B5s {T:UTy} {w:World} {own:Go.Mun.Own} {sb mb:Nat} {uv mv:Value} {last:Nat} {E:List (Nat × Nat)} {U:List Y8} {mk:List (Nat × Nat)} {S:St} {w2:World} {a:Nat} (h:StaCore T w own sb mb uv mv last E U mk S) (hm:E1 adV wA ptV w2 mb (A1j a E)) (ho:A0 (fun b=>b=mb) w w2):StaCore T w2 own sb mb uv mv last (A1j a E) U mk (Z9 S a Acc.none):=by
 have hB:∀ b,b=mb→own b=none∨own b=some .st∨own b=some .undos∨own b=some .marks∨own b=some .amap:=fun b hb=>by rw [hb,h.mlab];simp
 have hno:∀ {b:Nat} {l:Lab},own b=some l→l≠.amap→¬ b=mb:=fun hb hl e=>by rw [e,h.mlab] at hb;cases hb;exact hl rfl
 have hlt:=World.row?_lt h.row
 have hsm:=hno h.lab (by simp)
 exact { h with
  row:=by rw [ho.row? hlt hsm];exact h.row
  free:=by rw [ho.free? hlt hsm];exact h.free
  map:=hm
  acc:=fun p hp=>by
   obtain ⟨h1,h2⟩:=List.mem_filter.1 hp
   rw [Z8 _ _ (by simpa using h2)]
   exact (h.acc p h1).but ho hB
  out:=fun b hb=>by
   by_cases e:b=a
   ·rw [e,A1a]
   ·rw [Z8 _ _ e]
    rw [A9d,if_neg e] at hb
    exact h.out b hb
  urow:=A0.own h.urow ho fun g hg=>hno (h.ulab g hg) (by simp)
  und:=fun u hu=>(h.und u hu).but ho hB
  mrow:=A0.own h.mrow ho fun g hg=>hno (h.mklab g hg) (by simp)
  low:=fun b hb=>Nat.lt_of_lt_of_le (h.low b hb) ho.size }
theorem B0K {T:UTy} {w:World} {own:Go.Mun.Own} {sb mb:Nat} {uv mv:Value} {last:Nat} {E:List (Nat × Nat)} {U:List Y8} {mk:List (Nat × Nat)} {S:St} {w2:World} {a q:Nat} {y:Acc} (h:O6 T w own sb mb uv mv last E (.all a (some (q,y)) :: U) mk S) (hm:E1 adV wA ptV w2 mb (N0 a q E)) (ho:A0 (fun b=>b=mb) w w2) :
  V0 T w own sb mb uv mv last E (.all a (some (q,y))) U mk S w2:=by
 have hk:a∈E.map Prod.fst∧A1h (fun b=>b∈E.map Prod.fst) U:=h.keys
 obtain ⟨p,hp⟩:∃ p,I3 a E=some p:=by
  cases e:I3 a E with
  | some p=>exact ⟨p,rfl⟩
  | none =>
   obtain ⟨r,hr,he⟩:=List.mem_map.1 hk.1
   exact absurd he (J7 e r hr)
 have hu:=h.und _ (List.mem_cons_self)
 have hB:∀ b,b=mb→own b=none∨own b=some .st∨own b=some .undos∨own b=some .marks∨own b=some .amap:=fun b hb=>by rw [hb,h.mlab];simp
 have hperm:=A6R (p2:=q) hp
 have hkE:∀ b,b∈E.map Prod.fst→b∈(N0 a q E).map Prod.fst:=fun b hb=>by
  cases e:I3 b (N0 a q E) with
  | some v=>exact List.mem_map.2 ⟨_,L7 e,rfl⟩
  | none =>
   rw [O8] at e
   split at e
   ·cases e
   ·obtain ⟨r,hr,rfl⟩:=List.mem_map.1 hb
    exact absurd rfl (J7 e r hr)
 refine ⟨N0 a q E,B3G h.toStaCore hm ho (fun _ _ h=>h) (fun b hb=>Nat.lt_of_lt_of_le (h.low b hb) ho.size) (hu.2.but ho hB),K7 U hkE hk.2,?_,?_,⟨fun _ _=>rfl,ho.mono fun b hb=>by rw [hb,h.mlab];simp⟩⟩
 ·have hn:=h.nodup
  have hbig:(((N0 a q E).map Prod.snd++[p])++M8 U).Nodup:=by
   refine ((hperm.append_right (M8 U)).nodup_iff).2 ?_
   show (q :: (E.map Prod.snd++M8 U)).Nodup
   exact (List.perm_middle.nodup_iff).1 hn
  exact hbig.sublist (List.Sublist.append_right (List.sublist_append_left _ _) _)
 ·have e1:=hperm.length_eq
  simp only [List.length_append,List.length_map,List.length_cons,List.length_nil] at e1
  omega
theorem A9v {T:UTy} {w:World} {own:Go.Mun.Own} {sb mb:Nat} {uv mv:Value} {last:Nat} {E:List (Nat × Nat)} {U:List Y8} {mk:List (Nat × Nat)} {S:St} {w2:World} {a:Nat} (h:O6 T w own sb mb uv mv last E (.all a none :: U) mk S) (hm:E1 adV wA ptV w2 mb (A1j a E)) (ho:A0 (fun b=>b=mb) w w2) :
  V0 T w own sb mb uv mv last E (.all a none) U mk S w2:=by
 have hk:a∈E.map Prod.fst∧A1h (fun b=>b∈E.map Prod.fst∧b≠a) U:=h.keys
 refine ⟨A1j a E,B5s h.toStaCore hm ho,K7 U (fun b hb=>?_) hk.2,?_,List.length_filter_le _ _,⟨fun _ _=>rfl,ho.mono fun b hb=>by rw [hb,h.mlab];simp⟩⟩
 ·obtain ⟨r,hr,rfl⟩:=List.mem_map.1 hb.1
  exact List.mem_map.2 ⟨r,List.mem_filter.2 ⟨hr,by simpa using hb.2⟩,rfl⟩
 ·exact List.Nodup.sublist (List.Sublist.append_right (List.Sublist.map _ List.filter_sublist) _) h.nodup
end Go.Mun
namespace Go.Proofs.YtfflppedbopdpaaGreat
open Go.RowKit Go.Mun

theorem A8t {w:World} {own:Go.Mun.Own} {sb mb:Nat} {uv mv:Value} {last:Nat} {E:List (Nat × Nat)} {U:List Y8} {mk:List (Nat × Nat)} {S:St} (a q:Nat) (y:Acc) (h:O6 TU w own sb mb uv mv last E (.all a (some (q,y)) :: U) mk S) :
  Calls Tryz.prog 295 #[.pointer (some ⟨sb,0,none⟩),A0s TU (.all a (some (q,y)))] w fun e w'=>e = .returned (.tuple #[])∧V0 TU w own sb mb uv mv last E (.all a (some (q,y))) U mk S w':=by
 have hok:=h.und _ (List.mem_cons_self)
 have ha:a < wA:=hok.1
 obtain ⟨C,hC⟩:∃ C,C=A3 20 a++[Value.pointer (some ⟨q,0,none⟩)]:=⟨_,rfl⟩
 have lC:C.length=21:=by rw [hC];simp
 have kC:Q3 21 C=true:=by rw [hC];exact A8l
 have hUV:A0s TU (.all a (some (q,y))) = .iface 290 (.agg C.toArray):=by rw [hC];rfl
 rw [hUV]
 have fb:=Y7 w A9H 290 21 A4V
 obtain ⟨B,hB⟩:∃ B,B=w.heap.size:=⟨_,rfl⟩
 obtain ⟨w1,e1⟩:∃ w1,w1=(w.alloc (.cells A9H.toArray 290)).setCells w.heap.size 0 C:=⟨_,rfl⟩
 have hb1:Below w.heap.size w w1:=by rw [e1];exact ((Below.refl _ _).alloc (Nat.le_refl _) _).setCells (Nat.le_refl _) _ _
 have s1:O6 TU w1.drew own sb mb uv mv last E (.all a (some (q,y)) :: U) mk S:=h.only (R:=fun _=>False) (A0.of_below_size hb1.drew) (fun _ h=>h.elim)
 have rC:w1.drew.row? B 0 21=some C:=by show w1.row? B 0 21=some C;rw [e1,hB];exact B7 C fb kC
 rw [hC] at rC
 have rA:=A1H rC (C4 20 a)
 have rB:=World.row?_cell (A1G rC (C4 20 a) (k:=1) rfl) (i:=0) (by omega)
 simp only [List.getElem_cons_zero,Nat.add_zero] at rB
 have c0:=s1.cells.1
 have HMB:Hid (¬ B=mb):=by show ¬ B=mb;intro e;have h1:=h.map.lt;rw [← e,hB] at h1;omega
 have HBL:=hid (World.row?_lt rA)
 have HSB:Hid (¬ sb=mb∧sb < w1.drew.heap.size):=⟨fun e=>(by have:=s1.lab;rw [e,s1.mlab] at this;cases this),World.row?_lt s1.row⟩
 have HM:=hid (E1.opt s1.map)
 have HMV:=hid s1.map
 have HA:=hid ha
 have HS1:=hid s1
 have HC:=hid hC
 have HE:=hid e1
 have HB:=hid hB
 have HB1:=hid hb1
 have HRA:=hid rA
 have HRB:=hid rB
 have HC0:=hid c0
 have ta292:∀ w,(Instr.typeAssert (.iface 290 (.agg C.toArray)) 298 292 true).run Tryz.prog w = .ok (.tuple #[.agg A54.toArray,.bool false]) w:=fun w=>by kernel_rfl
 have ta324:∀ w,(Instr.typeAssert (.iface 290 (.agg C.toArray)) 298 324 true).run Tryz.prog w = .ok (.tuple #[.agg A4z.toArray,.bool false]) w:=fun w=>by kernel_rfl
 have ta326:∀ w,(Instr.typeAssert (.iface 290 (.agg C.toArray)) 298 326 true).run Tryz.prog w = .ok (.tuple #[.agg A8f.toArray,.bool false]) w:=fun w=>by kernel_rfl
 have ta286:∀ w,(Instr.typeAssert (.iface 290 (.agg C.toArray)) 298 286 true).run Tryz.prog w = .ok (.tuple #[.agg A55.toArray,.bool false]) w:=fun w=>by kernel_rfl
 have ta290:∀ w,(Instr.typeAssert (.iface 290 (.agg C.toArray)) 298 290 true).run Tryz.prog w = .ok (.tuple #[.agg C.toArray,.bool true]) w:=fun w=>by kernel_rfl
 clear hC e1 hB hb1 h ha s1 rC hUV hok
 go_enter Tryz.func295,Tryz.ntmps295
 go_wp2_with fail
 rw [← HE.out]
 rw [← HB.out]
 go_still_tail 8,(by kernel_rfl)
 go_wp2_with (refine A26 rfl _ _ _ 90 rfl A0Z Tryz.underlying90 HMV.out rfl (n:=a) rfl HA.out q rfl ?_)
 intro w3 hm3 ho3
 have rB3:w3.cell? ⟨B,20,none⟩=some (.pointer (some ⟨q,0,none⟩)):=by rw [ho3.cell? HBL.out HMB.out];exact HRB.out
 have HF:Hid (V0 TU w1.drew own sb mb uv mv last E (.all a (some (q,y))) U mk S w3):=B0K HS1.out hm3 ho3
 clear hm3 ho3
 go_wp2
 go_end0
 exact ⟨rfl,HF.out.frm HB1.out.drew⟩
theorem A7r {w:World} {own:Go.Mun.Own} {sb mb:Nat} {uv mv:Value} {last:Nat} {E:List (Nat × Nat)} {U:List Y8} {mk:List (Nat × Nat)} {S:St} (a:Nat) (h:O6 TU w own sb mb uv mv last E (.all a none :: U) mk S) :
  Calls Tryz.prog 295 #[.pointer (some ⟨sb,0,none⟩),A0s TU (.all a none)] w fun e w'=>e = .returned (.tuple #[])∧V0 TU w own sb mb uv mv last E (.all a none) U mk S w':=by
 have hok:=h.und _ (List.mem_cons_self)
 have ha:a < wA:=hok
 obtain ⟨C,hC⟩:∃ C,C=A3 20 a++[Value.pointer none]:=⟨_,rfl⟩
 have lC:C.length=21:=by rw [hC];simp
 have kC:Q3 21 C=true:=by rw [hC];exact A8l
 have hUV:A0s TU (.all a none) = .iface 290 (.agg C.toArray):=by rw [hC];rfl
 rw [hUV]
 have fb:=Y7 w A9H 290 21 A4V
 obtain ⟨B,hB⟩:∃ B,B=w.heap.size:=⟨_,rfl⟩
 obtain ⟨w1,e1⟩:∃ w1,w1=(w.alloc (.cells A9H.toArray 290)).setCells w.heap.size 0 C:=⟨_,rfl⟩
 have hb1:Below w.heap.size w w1:=by rw [e1];exact ((Below.refl _ _).alloc (Nat.le_refl _) _).setCells (Nat.le_refl _) _ _
 have s1:O6 TU w1.drew own sb mb uv mv last E (.all a none :: U) mk S:=h.only (R:=fun _=>False) (A0.of_below_size hb1.drew) (fun _ h=>h.elim)
 have rC:w1.drew.row? B 0 21=some C:=by show w1.row? B 0 21=some C;rw [e1,hB];exact B7 C fb kC
 rw [hC] at rC
 have rA:=A1H rC (C4 20 a)
 have rB:=World.row?_cell (A1G rC (C4 20 a) (k:=1) rfl) (i:=0) (by omega)
 simp only [List.getElem_cons_zero,Nat.add_zero] at rB
 have c0:=s1.cells.1
 have HMB:Hid (¬ B=mb):=by show ¬ B=mb;intro e;have h1:=h.map.lt;rw [← e,hB] at h1;omega
 have HBL:=hid (World.row?_lt rA)
 have HSB:Hid (¬ sb=mb∧sb < w1.drew.heap.size):=⟨fun e=>(by have:=s1.lab;rw [e,s1.mlab] at this;cases this),World.row?_lt s1.row⟩
 have HM:=hid (E1.opt s1.map)
 have HMV:=hid s1.map
 have HA:=hid ha
 have HS1:=hid s1
 have HC:=hid hC
 have HE:=hid e1
 have HB:=hid hB
 have HB1:=hid hb1
 have HRA:=hid rA
 have HRB:=hid rB
 have HC0:=hid c0
 have ta292:∀ w,(Instr.typeAssert (.iface 290 (.agg C.toArray)) 298 292 true).run Tryz.prog w = .ok (.tuple #[.agg A54.toArray,.bool false]) w:=fun w=>by kernel_rfl
 have ta324:∀ w,(Instr.typeAssert (.iface 290 (.agg C.toArray)) 298 324 true).run Tryz.prog w = .ok (.tuple #[.agg A4z.toArray,.bool false]) w:=fun w=>by kernel_rfl
 have ta326:∀ w,(Instr.typeAssert (.iface 290 (.agg C.toArray)) 298 326 true).run Tryz.prog w = .ok (.tuple #[.agg A8f.toArray,.bool false]) w:=fun w=>by kernel_rfl
 have ta286:∀ w,(Instr.typeAssert (.iface 290 (.agg C.toArray)) 298 286 true).run Tryz.prog w = .ok (.tuple #[.agg A55.toArray,.bool false]) w:=fun w=>by kernel_rfl
 have ta290:∀ w,(Instr.typeAssert (.iface 290 (.agg C.toArray)) 298 290 true).run Tryz.prog w = .ok (.tuple #[.agg C.toArray,.bool true]) w:=fun w=>by kernel_rfl
 clear hC e1 hB hb1 h ha s1 rC hUV hok
 go_enter Tryz.func295,Tryz.ntmps295
 go_wp2_with fail
 rw [← HE.out]
 rw [← HB.out]
 go_still_tail 8,(by kernel_rfl)
 go_wp2_with (refine A26 rfl _ _ _ 90 rfl A0Z Tryz.underlying90 HM.out rfl (n:=a) rfl HA.out Option.none rfl ?_)
 intro w3 hm3 ho3
 have rB3:w3.cell? ⟨B,20,none⟩=some (.pointer none):=by rw [ho3.cell? HBL.out HMB.out];exact HRB.out
 have HM3:=hid hm3
 have HO3:=hid ho3
 clear hm3 ho3
 go_wp2_with fail
 have rA4:w3.drew.row? B 0 20=some (A3 20 a):=by show w3.row? B 0 20=_;rw [HO3.out.row? HBL.out HMB.out];exact HRA.out
 have c04:w3.drew.cell? ⟨sb,0,none⟩=some (.map (some mb)):=by show w3.cell? _=_;rw [HO3.out.cell? HSB.out.2 HSB.out.1];exact HC0.out
 have HM4:Hid (E1 adV wA ptO w3.drew mb (N0 a Option.none (E.map fun p=>(p.1,some p.2)))):=HM3.out.of_block rfl
 go_still_tail 6,(by kernel_rfl)
 go_wp2_with (refine A4X rfl _ _ 90 rfl A0Z Tryz.underlying90 HM4.out rfl (n:=a) rfl HA.out ?_)
 intro w5 hm5 ho5
 rw [A9m,B4H] at hm5
 have HF:Hid (V0 TU w1.drew own sb mb uv mv last E (.all a none) U mk S w5):=A9v HS1.out (E1.unopt hm5) ((HO3.out.drew).trans ho5 (fun i hi _=>hi))
 clear hm5 ho5
 go_wp2
 go_end0
 exact ⟨rfl,HF.out.frm HB1.out.drew⟩
theorem B3J {w:World} {own:Go.Mun.Own} {sb mb:Nat} {uv mv:Value} {last:Nat} {E:List (Nat × Nat)} {U:List Y8} {mk:List (Nat × Nat)} {S:St} (u:Y8) (h:O6 TU w own sb mb uv mv last E (u :: U) mk S) :
  Calls Tryz.prog 295 #[.pointer (some ⟨sb,0,none⟩),A0s TU u] w fun e w'=>e = .returned (.tuple #[])∧V0 TU w own sb mb uv mv last E u U mk S w':=by
 match u,h with
 | .nonce a m,h=>exact A6b a m h
 | .bal a m,h=>exact A8s a m h
 | .code a cv l,h=>exact A7s a cv l h
 | .slot a k x,h=>exact A7q a k x h
 | .all a (some (q,y)),h=>exact A8t a q y h
 | .all a none,h=>exact A7r a h
end Go.Proofs.YtfflppedbopdpaaGreat
namespace Go.Mun
open Go.RowKit

theorem B5r {T:UTy} {w:World} {own:Go.Mun.Own} {sb mb b c last:Nat} {mv:Value} {E:List (Nat × Nat)} {u:Y8} {U:List Y8} {mk:List (Nat × Nat)} {S:St} (h:StaCore T w own sb mb (.slice (some ⟨b,0,none⟩) (U.length+1) c) mv last E (u :: U) mk S) (hm:∀ m∈mk,m.2≤U.length) :
  StaCore T (w.setCell ⟨sb,1,none⟩ (.slice (some ⟨b,0,none⟩) U.length c)) own sb mb (.slice (some ⟨b,0,none⟩) U.length c) mv last E U mk S:=by
 have ho:A0 (· = sb) w (w.setCell ⟨sb,1,none⟩ (.slice (some ⟨b,0,none⟩) U.length c)):=(A0.refl (· = sb) w).setCell (p:=⟨sb,1,none⟩) (fun _=>rfl) _
 have hR:∀ b,b=sb→own b=none∨own b=some .st∨own b=some .undos∨own b=some .marks∨own b=some .amap:=fun b hb=>by rw [hb,h.lab];simp
 have hbs:¬ b=sb:=fun e=>by have:=h.ulab b rfl;rw [e,h.lab] at this;cases this
 have hur:w.ownsRow 0 T.u 1 (.slice (some ⟨b,0,none⟩) U.length c) U.length (U.reverse.map (A0s T)):=by
  have h0:w.ownsRow 0 T.u 1 (.slice (some ⟨b,0,none⟩) (U.length+1) c) (U.length+1) ((u :: U).reverse.map (A0s T)):=h.urow
  have h1:=Go.Proofs.YtfflppedbopdpaaGreat.own_take h0 (show U.length≤U.length+1 by omega)
  rw [List.reverse_cons,List.map_append,List.take_left' (by simp)] at h1
  exact h1
 exact { h with
  row:=by rw [A1c h.row (by omega)];rfl
  free:=by rw [D0];exact h.free
  map:=h.map.only ho (fun e=>by have:=h.mlab;rw [e,h.lab] at this;cases this)
  acc:=fun p hp=>(h.acc p hp).but ho hR
  urow:=A0.own hur ho (fun g hg=>by cases hg;exact hbs)
  ulab:=fun g hg=>h.ulab g (by cases hg;rfl)
  und:=fun v hv=>(h.und v (List.mem_cons_of_mem _ hv)).but ho hR
  mrow:=A0.own h.mrow ho (fun g hg e=>by have:=h.mklab g hg;rw [e,h.lab] at this;cases this)
  mkle:=fun m hm'=>⟨(h.mkle m hm').1,hm m hm'⟩
  low:=fun b hb=>by rw [World.size_setCell];exact h.low b hb }
structure B5g (T:UTy) (w0 w:World) (own:Go.Mun.Own) (sb mb:Nat) (mv:Value) (last n y:Nat) (mk:List (Nat × Nat)) (U0:List Y8) (S0:St) (E0:Nat) (j:Nat):Prop where
 ex:∃ uv E U S,O6 T w own sb mb uv mv last E U mk S∧U.length=j∧y≤j∧(∀ k,k≤y→A10 (U.take (U.length - k)) S=A10 (U0.take (U0.length - k)) S0)∧E.length≤E0
 le:j≤U0.length
 chg:T6 w0 w own own
end Go.Mun
namespace Go.Proofs.YtfflppedbopdpaaGreat
open Go.RowKit Go.Mun

theorem B5U {w:World} {base e n:Nat} {v:Value} {xs:List Value} (h:w.ownsRow base e 1 v n xs) (hn:0 < n):∃ b c,v = .slice (some ⟨b,0,none⟩) n c∧n≤c∧b < w.heap.size∧w.row? b 0 n=some xs:=by
 obtain ⟨g,c,h1,_,h3,_,h5,_⟩:=J5 h hn
 rw [Nat.mul_one] at h5
 exact ⟨g,c,h1,h3,World.row?_lt h5,h5⟩
theorem B03 {w:World} {own:Go.Mun.Own} {sb:Nat} {S S0:St} {M:List (Nat × St)} {n x:Nat} (h:StateAt TU w own sb S (M++[(x,S0)]) n) (hn:n≤1099511627776) :
  Calls Tryz.prog 238 #[.pointer (some ⟨sb,0,none⟩),.int .i64 x] w fun e w'=>e = .returned (.bool true)∧StateAt TU w' own sb S0 M n∧T6 w w' own own:=by
 obtain ⟨mb,uv,mv,last,E,U,mk,s,hM,hb1,hb2,hb3⟩:=h
 obtain ⟨mk1,y,rfl,hM1,hS0⟩:=A4o hM
 have hb0:Below w.heap.size w (w.alloc (.cells #[.int .i64 x] 3)):=(Below.refl _ _).alloc (Nat.le_refl _) _
 have s0:=s.only (R:=fun _=>False) (A0.of_below_size hb0) (fun _ h=>h.elim)
 have hmr:=A5r s.mrow
 obtain ⟨g,c,rfl,hmr⟩:=hmr
 obtain ⟨b,rfl,hbl,hcells⟩:=hmr (by simp)
 obtain ⟨c0,c1,c2,c3⟩:=s.cells
 have hlen:(mk1++[(x,y)]).length=mk1.length+1:=by simp
 have hcap:mk1.length+1≤c:=by
  rcases s.mrow.2 with ⟨he,_⟩ | ⟨_,cap,_,he,_,_,hn,_⟩
  ·cases he
  ·cases he;rw [hlen] at hn;exact hn
 have HW:Hid (∃ w0,w0=w.alloc (.cells #[.int .i64 x] 3)∧Below w.heap.size w w0∧O6 TU w0 own sb mb uv (.slice (some ⟨b,0,none⟩) (mk1++[(x,y)]).length c) last E U (mk1++[(x,y)]) S∧w0.cell? ⟨w.heap.size,0,none⟩=some (.int .i64 x)):=
  ⟨_,rfl,hb0,s0,by rw [World.cell?_alloc_new];rfl⟩
 obtain ⟨w0,e0,b0,s0,x0⟩:=HW.out
 have HE0:=hid e0
 have HB0:=hid b0
 have HSA:=hid s0
 have HX0:=hid x0
 have hidx:=A16 x y mk1 s.mks
 have HI:=hid hidx
 have HC:Hid (∀ i m,(mk1++[(x,y)])[i]? = some m→w0.cell? ⟨b,i*2,none⟩=some (.int .i64 m.1)∧w0.cell? ⟨b,i*2+1,none⟩=some (.int .i64 m.2)):=fun i m hm=>by
  obtain ⟨h1,h2⟩:=hcells i m hm
  exact ⟨(b0.cell (p:=⟨b,i*2,none⟩) hbl).trans h1,(b0.cell (p:=⟨b,i*2+1,none⟩) hbl).trans h2⟩
 have hbl0:b < w0.heap.size:=Nat.lt_of_lt_of_le hbl b0.size
 have hsb0:sb < w.heap.size:=s.low _ (by rw [s.lab];simp)
 have HM1:=hid hM1
 have HN:Hid (last≤n∧U.length≤n∧(mk1++[(x,y)]).length≤n∧E.length≤n+1000000):=⟨hb1,hb2,hb3⟩
 have hk2:mk1.length+1≤1099511627776:=by rw [hlen] at hb3;omega
 have hmf:∀ (fn:Fn) (first cap:Array Value) (w:World),(Instr.makeFunc fn first cap).run Tryz.prog w = .ok (.func fn first cap) w:=fun _ _ _ _=>rfl
 have hE:∀ args w,(callFunc 294 args).run Tryz.prog w = .ok (.enter 294 args) w:=fun _ _=>by kernel_rfl
 have HEn:=hid hE
 have HL:=hid hlen
 rw [hlen] at c2
 have HS0:=hid hS0
 have HYU:Hid (y≤U.length∧∀ m∈mk1,m.2≤y):=⟨(s.mkle (x,y) (by simp)).2,fun m hm=>((List.pairwise_append.1 s.mks).2.2 m hm (x,y) (by simp)).2⟩
 clear hS0 hM s hmr hcells s0 x0 b0 e0 HW hb0 hidx hM1 hb1 hb2 hb3 hE hlen c3
 generalize hk:mk1.length=k at *
 have HK:=hid hk
 clear hk
 go_enter Tryz.func238,Tryz.ntmps238
 go_wp2_with fail
 rw [← HE0.out]
 refine (A5A 294 x w.heap.size HEn.out (fun n1 a1 w1 hc=>B6K n1 a1 x w.heap.size w1 hc) (some ⟨b,0,none⟩) (k+1) c (mk1++[(x,y)]) (by rw [HL.out]) hk2 w0 (fun _=>⟨b,rfl,hbl0,HC.out⟩) HX0.out).mono ?_
 rintro e w1 ⟨rfl,hb1⟩
 rw [HI.out]
 have s1:=HSA.out.only (R:=fun _=>False) (A0.of_below_size hb1) (fun _ h=>h.elim)
 obtain ⟨d0,d1,d2,d3⟩:=s1.cells
 rw [HL.out] at d2
 have HS1:=hid s1
 have HB1:Hid (Below w.heap.size w w1):=HB0.out.trans (hb1.mono HB0.out.size)
 have hy:=(HC.out k (x,y) (by rw [← HK.out,List.getElem?_append_right (Nat.le_refl _),Nat.sub_self];rfl)).2
 have hy1:w1.cell? ⟨b,k*2+1,none⟩=some (.int .i64 y):=(hb1.cell (p:=⟨b,k*2+1,none⟩) hbl0).trans hy
 have b1:decide ((k:Int) < 0)=false:=decide_eq_false (by omega)
 have hki:(k:Int) < ((k+1:Nat):Int):=by omega
 have HBA:Hid (B5g TU w w1 own sb mb (.slice (some ⟨b,0,none⟩) (mk1++[(x,y)]).length c) last n y (mk1++[(x,y)]) U S E.length U.length):=
  ⟨⟨uv,E,U,S,s1,rfl,HYU.out.1,fun _ _=>rfl,Nat.le_refl _⟩,Nat.le_refl _,T6.below own HB1.out⟩
 clear hb1 s1 d0 d1 d3 hy
 have HMO:Hid (∀ g,(Value.slice (some ⟨b,0,none⟩) (mk1++[(x,y)]).length c).ownBlock=some g→¬ g=sb):=fun g hg e=>by have:=HS1.out.mklab g hg;rw [e,HS1.out.lab] at this;cases this
 have HYB:Hid (y≤1099511627776):=by show y≤_;have:=HYU.out.1;have:=HN.out.2.1;omega
 have HHN:Hid (n≤1099511627776):=hn
 clear hn
 go_wp2_with fail
 go_loopg [] (U.length) (fun j wr=>B5g TU w wr own sb mb (.slice (some ⟨b,0,none⟩) (mk1++[(x,y)]).length c) last n y (mk1++[(x,y)]) U S E.length j)
 case atStart=>exact HBA.out
 case round =>
  obtain ⟨⟨uvi,Ei,Ui,Si,st,hlen,hyj,hund,hEi⟩,hle,hchg⟩:=hrel
  obtain ⟨e0,e1,e2,_⟩:=st.cells
  rw [HL.out] at e2
  have HUN:=hid hund
  have HEI:=hid hEi
  have HLE:=hid hle
  have HCH:=hid hchg
  have hjn:gk≤1099511627776:=by have:=HN.out.2.1;have:=HHN.out;omega
  by_cases hlt:y < gk
  ·obtain ⟨j,rfl⟩:∃ j,gk=j+1:=⟨gk - 1,by omega⟩
   match Ui,hlen,st,hund with
   | u :: U',hlen,st,hund =>
    have hj:U'.length=j:=by simpa using hlen
    obtain ⟨ub,uc,rfl,huc,hubl,hur⟩:=B5U st.urow (by simp)
    have hul:(u :: U').length=j+1:=hlen
    rw [hul] at e1 huc hur
    have hcu:wr.cell? ⟨ub,j,none⟩=some (A0s TU u):=by
     have h1:=World.row?_cell hur (i:=j) (by omega)
     rw [Nat.zero_add] at h1
     rw [h1]
     simp only [List.reverse_cons,List.map_append,List.map_cons,List.map_nil]
     rw [List.getElem?_append_right (by simp [hj])]
     simp [hj]
    obtain ⟨V,hV⟩:∃ V,V=A0s TU u:=⟨_,rfl⟩
    rw [← hV] at hcu
    have HBK:=hid (B3J u st)
    rw [← hV] at HBK
    have dI:decide ((y:Int) < ((j+1:Nat):Int))=true:=decide_eq_true (by omega)
    have dJ:decide ((y:Int) < (j:Int)+1)=true:=decide_eq_true (by omega)
    have hw2:IntKind.i64.wrap ((j:Int)+1 - 1)=(j:Int):=by rw [U6 _ (by omega) (by omega)];omega
    have hjj:(j:Int) < (j:Int)+1:=by omega
    have hw1:IntKind.i64.wrap (((j+1:Nat):Int) - 1)=(j:Int):=by rw [U6 _ (by omega) (by omega)];omega
    have hji:(j:Int) < ((j+1:Nat):Int):=by omega
    have HJ:=hid hj
    have HYJ:Hid (y≤j):=by show y≤j;omega
    have hjc:(j:Int)≤(uc:Int):=by omega
    have HST:=hid st
    have hone:V.oneCell'=true:=by rw [hV];exact A8k TU u
    clear hV st hlen hund hyj hlt hul hur hchg hle hEi
    go_wp2_with fail
    refine HBK.out.mono ?_
    rintro e w2 ⟨rfl,E2,s2,hk2,hn2,hl2,hc2⟩
    have f1:=s2.cells.2.1
    rw [show (u :: U').length=j+1 by rw [List.length_cons,HJ.out]] at f1
    have ff:w2.free? sb 1 1=true:=World.free?_sub s2.free (by omega)
    have hp:=B5r (U:=U') s2 (fun m hm=>by
     rw [HJ.out]
     rcases List.mem_append.1 hm with h | h
     ·exact Nat.le_trans (HYU.out.2 m h) HYJ.out
     ·rw [List.mem_singleton.1 h];exact HYJ.out)
    rw [HJ.out] at hp
    have HP:=hid hp
    have HK2:=hid hk2
    have HN2:=hid hn2
    have HL2:=hid hl2
    have HC2:=hid hc2
    have HLB:=hid s2.lab
    clear s2 hk2 hn2 hl2 hc2 hp e0 e1 e2
    go_wp2_with fail
    go_roundg j
    case rel =>
     refine ⟨⟨_,E2,U',A20 Si u,⟨HP.out,HK2.out,HN2.out⟩,HJ.out,HYJ.out,fun q hq=>?_,Nat.le_trans HL2.out HEI.out⟩,by have:=HLE.out;omega,(HCH.out.trans HC2.out).trans ⟨fun _ _=>rfl,((A0.refl (· = sb) _).setCell (p:=⟨sb,1,none⟩) (fun _=>rfl) _).mono fun b hb=>by rw [hb,HLB.out];simp⟩⟩
     have h1:=HUN.out q hq
     rw [A3h u U' q (by rw [HJ.out];exact Nat.le_trans hq HYJ.out)] at h1
     exact h1
    case measure=>omega
  ·have hyk:gk=y:=by omega
   subst hyk
   obtain ⟨au,cu,rfl⟩:=Q7 st.urow
   rw [hlen] at e1
   have dI:decide ((gk:Int) < (gk:Int))=false:=decide_eq_false (by omega)
   have HST:=hid st
   have HLN:=hid hlen
   have hkc:(k:Int)≤(c:Int):=by omega
   have ff:wr.free? sb 2 1=true:=World.free?_sub st.free (by omega)
   clear st hlen hund hyj hlt hchg hle hEi
   go_wp2
   go_ret
   have ho2:A0 (· = sb) wr (wr.setCell ⟨sb,2,none⟩ (.slice (some ⟨b,0,none⟩) k c)):=(A0.refl (· = sb) wr).setCell (p:=⟨sb,2,none⟩) (fun _=>rfl) _
   have hrow2:(wr.setCell ⟨sb,2,none⟩ (.slice (some ⟨b,0,none⟩) k c)).row? sb 0 4=some [.map (some mb),.slice au Ui.length cu,.slice (some ⟨b,0,none⟩) k c,.int .i64 last]:=by rw [A1c HST.out.row (by omega)];rfl
   have hmrow:wr.ownsRow 0 294 2 (.slice (some ⟨b,0,none⟩) k c) mk1.length (Q5 mk1):=by
    have h0:=HST.out.mrow
    have h1:wr.ownsRow 0 294 2 (.slice (some ⟨b,0,none⟩) (k+1) c) (k+1) (Q5 (mk1++[(x,gk)])):=by
     rw [HL.out] at h0;exact h0
    have:=own_take h1 (show k≤k+1 by omega)
    rw [A3a _ _ (by rw [HL.out];omega),← HK.out,List.take_left' rfl] at this
    rw [← HK.out];exact this
   have hcore:=A3T HST.out.toStaCore (fun _ _ h=>h) (fun b hb=>Nat.lt_of_lt_of_le (HST.out.low b hb) ho2.size) (ho2.mono fun _ h => .inr h) hrow2 (by rw [D0];exact HST.out.free)
    (A0.own hmrow ho2 (fun g hg=>by cases hg;exact HMO.out b rfl)) (fun g hg=>HST.out.mklab g (by cases hg;rfl)) (List.pairwise_append.1 HST.out.mks).1 (fun m hm=>HST.out.mkle m (List.mem_append_left _ hm))
   have hS:Si=S0:=by
    have h1:=HUN.out gk (Nat.le_refl _)
    rw [HLN.out,Nat.sub_self] at h1
    rw [HS0.out]
    exact h1
   rw [← hS]
   refine ⟨rfl,⟨mb,_,_,last,Ei,Ui,mk1,⟨hcore,HST.out.keys,HST.out.nodup⟩,?_,HN.out.1,by have:=HN.out.2.1;have:=HLE.out;rw [HLN.out];omega,by have:=HN.out.2.2.1;rw [HL.out] at this;have:=HK.out;omega,Nat.le_trans HEI.out HN.out.2.2.2⟩,HCH.out.trans ⟨fun _ _=>rfl,ho2.mono fun b hb=>by rw [hb,HST.out.lab];simp⟩⟩
   rw [HM1.out]
   refine List.map_congr_left fun m hm=>?_
   rw [HUN.out m.2 (HYU.out.2 m hm)]
end Go.Proofs.YtfflppedbopdpaaGreat
