/- A part of the proof of EvmLogs: ZRs12. -/
import Derived.Test.YtfflppedbopdpaaGreatZRs8
import Derived.Test.YtfflppedbopdpaaGreatZKs
import Derived.Test.YtfflppedbopdpaaGreatZNw1
import Derived.Test.YtfflppedbopdpaaGreatZOps1
import Derived.Deep.RegionHeld3
set_option linter.unusedVariables false
set_option maxRecDepth 1000000
set_option maxHeartbeats 8000000
set_option linter.unusedSimpArgs false
namespace Go.Proofs.YtfflppedbopdpaaGreat
open Go.RowKit Go.Mun

structure B6Q (x:I7):Prop where
 addr:x.ac.addr < wA
 bal:x.ac.bal < wW
 nonce:0≤x.ac.nonce∧x.ac.nonce≤9223372036854775807
 byte:Byt x.ac.code
 clen:x.ac.code.length≤1099511627776
 val:∀ p∈x.slots,p.1 < wW∧p.2 < wW
 slen:x.slots.length≤1000000
theorem B6V {w:World} {own:Go.Mun.Own} {p:I7 × Value × Value} (h:X5 w own p):B6Q p.1:=⟨h.addr,h.bal,h.nonce,h.code.byte,h.code.len,h.slots.val,h.slots.len⟩
theorem B7J {w:World} {own:Go.Mun.Own} {ps ds:List (I7 × Value × Value)} (h:∀ p∈ps,X5 w own p) (he:I1 ds=I1 ps):∀ p∈ds,B6Q p.1:=by
 intro p hp
 have:p.1∈I1 ds:=List.mem_map.2 ⟨p,hp,rfl⟩
 rw [he] at this
 obtain ⟨q,hq,e⟩:=List.mem_map.1 this
 rw [← e];exact B6V (h q hq)
open Classical in
theorem B25 {v0 w:World} {own:Go.Mun.Own} {v:Value} {ds:List (I7 × Value × Value)} (hlow:∀ b,own b≠none→b < v0.heap.size) (hc:A2V v0 w v ds) (hb:∀ p∈ds,B6Q p.1) :
  ∃ own':Go.Mun.Own,(∀ b,b < v0.heap.size→own' b=own b)∧(∀ b,own' b≠none→b < w.heap.size)∧RArr w own' v ds∧own.le own':=by
 let own':Go.Mun.Own:=fun b=>if v.ownBlock=some b then some .acc else if (∃ p∈ds,p.2.1.ownBlock=some b) then some .code else if (∃ p∈ds,p.2.2.ownBlock=some b) then some (.smap 0) else own b
 have hx:∀ b,b < v0.heap.size→own' b=own b:=by
  intro b hlt
  show (if v.ownBlock=some b then some Lab.acc else if (∃ p∈ds,p.2.1.ownBlock=some b) then some Lab.code else if (∃ p∈ds,p.2.2.ownBlock=some b) then some (Lab.smap 0) else own b)=own b
  rw [if_neg (fun e=>by have:=E4 hc.own b e;omega),if_neg (by rintro ⟨p,hp,e⟩;have:=E4 (hc.code p hp) b e;omega),if_neg (by rintro ⟨p,hp,e⟩;have:=E4 (hc.slots p hp) b e;omega)]
 have hle:own.le own':=fun b l h=>by
  have hlt:=hlow b (by rw [h];simp)
  rw [hx b hlt];exact h
 have hs:=hc.below.size
 refine ⟨own',hx,?_,⟨D9 hc.own (Nat.zero_le _),?_,?_⟩,hle⟩
 ·intro b hne
  by_cases h1:v.ownBlock=some b
  ·exact B0 hc.own b h1
  by_cases h2:∃ p∈ds,p.2.1.ownBlock=some b
  ·obtain ⟨p,hp,e⟩:=h2;exact B0 (hc.code p hp) b e
  by_cases h3:∃ p∈ds,p.2.2.ownBlock=some b
  ·obtain ⟨p,hp,e⟩:=h3;exact B0 (hc.slots p hp) b e
  have hne2:(if v.ownBlock=some b then some Lab.acc else if (∃ p∈ds,p.2.1.ownBlock=some b) then some Lab.code else if (∃ p∈ds,p.2.2.ownBlock=some b) then some (Lab.smap 0) else own b)≠none:=hne
  rw [if_neg h1,if_neg h2,if_neg h3] at hne2
  exact Nat.lt_of_lt_of_le (hlow b hne2) hs
 ·intro g hg
  show (if v.ownBlock=some g then some Lab.acc else _)=some Lab.acc
  rw [if_pos hg]
 ·intro p hp
  have B:=hb p hp
  have hv5:=hc.code p hp
  have hv6:=hc.slots p hp
  obtain ⟨a,c,e1,_,i1⟩:=G9.of_own' hv5
  refine ⟨⟨⟨a,c,e1,i1,fun _ q hq=>?_⟩,B.byte,B.clen⟩,⟨D9 hv6 (Nat.zero_le _),fun g hg=>?_,B.val,B.slen⟩,B.addr,B.bal,B.nonce⟩
  ·have hob:p.2.1.ownBlock=some q.block:=by rw [e1,hq];rfl
   show (if v.ownBlock=some q.block then some Lab.acc else if (∃ p∈ds,p.2.1.ownBlock=some q.block) then some Lab.code else _)=some Lab.code
   rw [if_neg (fun e=>by
    rcases A0y hc.own hv5 (by decide) with h | h
    ·rw [h] at e;cases e
    ·exact h (by rw [e,hob])),if_pos ⟨p,hp,hob⟩]
  ·show (if v.ownBlock=some g then some Lab.acc else if (∃ p∈ds,p.2.1.ownBlock=some g) then some Lab.code else if (∃ p∈ds,p.2.2.ownBlock=some g) then some (Lab.smap 0) else own g)=some (Lab.smap 0)
   rw [if_neg (fun e=>by
    rcases A0y hc.own hv6 (by decide) with h | h
    ·rw [h] at e;cases e
    ·exact h (by rw [e,hg])),if_neg (by
    rintro ⟨q,hq,e⟩
    rcases A0y (hc.code q hq) hv6 (by decide) with h | h
    ·rw [h] at e;cases e
    ·exact h (by rw [e,hg])),if_pos ⟨p,hp,hg⟩]
section
variable {w w':World} {own own':Go.Mun.Own} {sb n:Nat} {lv mv:Value} {ps:List (I7 × Value × Value)} {ms:List (Nat × Value × List (I7 × Value × Value))}
theorem _root_.Go.Mun.RStC.le (h:RStC w own sb lv mv ps ms n) (hle:own.le own') (hlow:∀ b,own' b≠none→b < w.heap.size):RStC w own' sb lv mv ps ms n:=
 { h with
  lab:=hle _ _ h.lab
  arr:=h.arr.le hle
  mlab:=fun g hg=>hle _ _ (h.mlab g hg)
  each:=fun m hm=>⟨(h.each m hm).1.le hle,(h.each m hm).2⟩
  low:=hlow }
theorem _root_.Go.Mun.RStC.tick (h:RStC w own sb lv mv ps ms n):RStC (w.setCell ⟨sb,2,none⟩ (.int .i64 ((n+1:Nat):Int))) own sb lv mv ps ms (n+1)∧K8 w (w.setCell ⟨sb,2,none⟩ (.int .i64 ((n+1:Nat):Int))) own own:=by
 have hO:A0 (· = sb) w (w.setCell ⟨sb,2,none⟩ (.int .i64 ((n+1:Nat):Int))):=C6 _ _ _ _
 have hS:∀ b,b=sb→own b≠some .code∧own b≠some (.smap 0):=fun b hb=>by rw [hb,h.lab];simp
 have hno:∀ {u:Value} {l:Lab},l≠.st→(∀ g,u.ownBlock=some g→own g=some l)→∀ g,u.ownBlock=some g→¬ g=sb:=fun hl hv g hg e=>by
  have:=hv g hg
  rw [e,h.lab] at this
  cases this;exact hl rfl
 refine ⟨{
  lab:=h.lab
  row:=by rw [G6 _ h.row (Nat.zero_le _) (by omega)];rfl
  free:=by rw [D0];exact h.free
  arr:=h.arr.only hO hS (hno (by simp) h.arr.lab)
  up:=h.up
  marks:=A0.own h.marks hO (hno (by simp) h.mlab)
  mlab:=h.mlab
  each:=fun m hm=>⟨(h.each m hm).1.only hO hS (hno (by simp) (h.each m hm).1.lab),(h.each m hm).2⟩
  apart:=h.apart
  low:=fun b hb=>Nat.lt_of_lt_of_le (h.low b hb) hO.size
  count:=⟨Nat.le_succ_of_le h.count.1,fun m hm=>Nat.le_succ_of_le (h.count.2 m hm)⟩ },⟨fun _ _=>rfl,hO.mono fun b hb=>by
   have hb':b=sb:=hb
   exact A2L (l:=.st) (by rw [hb'];exact h.lab) (by simp) (by simp)⟩⟩
def B7T (ms:List (Nat × Value × List (I7 × Value × Value))):List Value:=ms.flatMap fun m => [.int .i64 m.1,m.2.1]
theorem _root_.Go.Mun.RStC.addMark {w3:World} {v mv':Value} {ds:List (I7 × Value × Value)} (h:RStC w own sb lv mv ps ms n) (hm:ms.length+1≤n) (harr:RArr w own v ds) (hup:Q1 (I1 ds))
  (hap:∀ u∈lv :: ms.map (fun m=>m.2.1),u.ownBlock=none∨u.ownBlock≠v.ownBlock) (ho:A0 (fun g=>mv.ownBlock=some g) w w3) (hr:w3.ownsRow 0 195 2 mv' (ms.length+1) (B7T ms++[.int .i64 (n:Int),v]))
  (hl:∀ g,mv'.ownBlock=some g→mv.ownBlock=some g∨w.heap.size≤g) :
  ∃ own',RStC (w3.setCell ⟨sb,1,none⟩ mv') own' sb lv mv' ps (ms++[(n,v,ds)]) n∧K8 w (w3.setCell ⟨sb,1,none⟩ mv') own own':=by
 obtain ⟨hext,hle⟩:=Own.mark_le (l:=.marks) hl h.mlab h.low
 have hmv:∀ {u:Value} {l:Lab},l≠.marks→(∀ g,u.ownBlock=some g→own g=some l)→∀ g,u.ownBlock=some g→¬ mv.ownBlock=some g:=fun hl hv g hg e=>by
  have h1:=hv g hg
  rw [h.mlab g e] at h1
  cases h1;exact hl rfl
 have hsbn:¬ mv.ownBlock=some sb:=fun e=>by have:=h.mlab sb e;rw [h.lab] at this;cases this
 have hlt:=World.row?_lt h.row
 have hO:A0 (fun g=>mv.ownBlock=some g∨g=sb) w (w3.setCell ⟨sb,1,none⟩ mv'):=(ho.mono fun _ h => .inl h).setCell (p:=⟨sb,1,none⟩) (fun _ => .inr rfl) _
 have hS:∀ b,(mv.ownBlock=some b∨b=sb)→own b≠some .code∧own b≠some (.smap 0):=fun b hb=>by
  rcases hb with hb | hb
  ·rw [h.mlab b hb];simp
  ·rw [hb,h.lab];simp
 have hno:∀ {u:Value} {l:Lab},l≠.st→l≠.marks→(∀ g,u.ownBlock=some g→own g=some l)→∀ g,u.ownBlock=some g→¬ (mv.ownBlock=some g∨g=sb):=fun h1 h2 hv g hg e=>by
  rcases e with e | e
  ·exact hmv h2 hv g hg e
  ·have:=hv g hg;rw [e,h.lab] at this;cases this;exact h1 rfl
 have hrow3:w3.row? sb 0 3=some [lv,mv,.int .i64 n]:=by rw [ho.row? hlt hsbn];exact h.row
 have hfree3:w3.free? sb 0 3=true:=by rw [ho.free? hlt hsbn];exact h.free
 have hmvs:∀ g,mv'.ownBlock=some g→¬ g=sb:=fun g hg e=>by
  rcases hl g hg with h1 | h1
  ·exact hsbn (by rw [← e];exact h1)
  ·omega
 refine ⟨_,{
  lab:=hle _ _ h.lab
  row:=by rw [G6 _ hrow3 (Nat.zero_le _) (by omega)];rfl
  free:=by rw [D0];exact hfree3
  arr:=(h.arr.only hO hS (hno (by simp) (by simp) h.arr.lab)).le hle
  up:=h.up
  marks:=?_
  mlab:=fun g hg=>by show (if _ then _ else _)=_;rw [if_pos hg]
  each:=fun m hm2=>?_
  apart:=?_
  low:=?_
  count:=⟨by rw [List.length_append];exact hm,fun m hm2=>?_⟩ },⟨hext,hO.mono fun b hb=>?_⟩⟩
 ·have:=A0.own hr (C6 w3 sb 1 mv') hmvs
  rw [List.length_append]
  have e:(ms++[(n,v,ds)]).flatMap (fun m => [Value.int .i64 m.1,m.2.1])=B7T ms++[.int .i64 (n:Int),v]:=by
   rw [List.flatMap_append];rfl
  rw [e];exact this
 ·rcases List.mem_append.1 hm2 with h2 | h2
  ·exact ⟨((h.each m h2).1.only hO hS (hno (by simp) (by simp) (h.each m h2).1.lab)).le hle,(h.each m h2).2⟩
  ·rw [List.mem_singleton.1 h2]
   exact ⟨(harr.only hO hS (hno (by simp) (by simp) harr.lab)).le hle,hup⟩
 ·have e:lv :: (ms++[(n,v,ds)]).map (fun m=>m.2.1)=(lv :: ms.map fun m=>m.2.1)++[v]:=by simp
  rw [e,List.pairwise_append]
  exact ⟨h.apart,List.pairwise_singleton _ _,fun a ha b hb=>by rw [List.mem_singleton.1 hb];exact hap a ha⟩
 ·intro b hb
  by_cases e:mv'.ownBlock=some b
  ·rw [World.size_setCell];exact B0 hr b e
  ·have hb2:(if mv'.ownBlock=some b then some Lab.marks else own b)≠none:=hb
   rw [if_neg e] at hb2
   exact Nat.lt_of_lt_of_le (h.low b hb2) hO.size
 ·rcases List.mem_append.1 hm2 with h2 | h2
  ·exact h.count.2 m h2
  ·rw [List.mem_singleton.1 h2];exact Nat.le_refl _
 ·rcases hb with hb | hb
  ·exact A2L (l:=.marks) (h.mlab b hb) (by simp) (by simp)
  ·exact A2L (l:=.st) (by rw [hb];exact h.lab) (by simp) (by simp)
end
end Go.Proofs.YtfflppedbopdpaaGreat
namespace Go.Proofs.YtfflppedbopdpaaGreat
open Go.RowKit Go.Mun
theorem B9B:P4 Tryz.prog 123 195 (.agg #[.int .i64 0,.slice none 0 0]) 2 32:=.mk' Tryz.underlying123 (by kernel_rfl) (by rfl) (by decide)
theorem B7G (ρ:Operand→Value) (dst:Option Tmp) (x y:Operand) (t:TypeId) (pos:String) (after:Array Edge) (gd:Option (Nat × Bool)) (w:World):(execOp ρ ⟨dst,.store 123 x y,t,pos,after,gd⟩).run Tryz.prog w=J9 (A0G Tryz.prog 123 (ρ x) (ρ y) w):=O3 ρ dst x y t pos after gd w (by kernel_rfl)
attribute [go_sem ↓] B7G
theorem B7N {w:World} {own:Go.Mun.Own} {sb n:Nat} {S:St} {M:List (Nat × St)} (h:RState w own sb S M n) (hn:n≤1000000) :
  Calls Tryz.prog 68 #[.pointer (some ⟨sb,0,none⟩)] w fun e w' => ∃ x:Nat,e = .returned (.int .i64 (x:Int))∧(∀ m∈M,m.1 < x)∧∃ own',RState w' own' sb S (M++[(x,S)]) (n+1)∧K8 w w' own own':=by
 obtain ⟨lv,mv,ps,ms,k,h1,hS,hM,hw,hwm,hkn⟩:=h
 obtain ⟨t1,g1⟩:=h1.tick
 have hf2:=World.free?_sub h1.free (o':=2) (n':=1) (by omega)
 have c2:=World.row?_cell h1.row (i:=2) (by omega)
 simp only [Nat.zero_add,List.getElem?_cons_succ,List.getElem?_cons_zero] at c2
 obtain ⟨w1,e1⟩:∃ w1,w1=w.setCell ⟨sb,2,none⟩ (.int .i64 ((k+1:Nat):Int)):=⟨_,rfl⟩
 rw [← e1] at t1 g1
 have t1d:RStC w1.drew own sb lv mv ps ms (k+1):=t1.only (S:=fun _=>False) (A0.of_below_size (Below.refl _ _).drew) (fun _ h=>h.elim)
 have hsrc:=A49 t1d.arr.cells t1d.arr.ok (Nat.le_succ_of_le (Nat.le_trans hw.len hn))
 obtain ⟨ma,mc,emv⟩:=E9 h1.marks
 obtain ⟨la,lc,elv⟩:=E9 h1.arr.cells
 have hck:IntKind.i64.wrap ((k:Int)+1)=((k+1:Nat):Int):=by rw [U6 _ (by omega) (by omega)];omega
 have hcnt:=h1.count
 obtain ⟨y,hy⟩:∃ y,y=k+1:=⟨_,rfl⟩
 obtain ⟨q,hq⟩:∃ q,q=ms.length:=⟨_,rfl⟩
 have hq1:q≤1000000:=by have:=hcnt.1;omega
 rw [← hy] at e1 t1 t1d hck
 have HE:=hid e1
 have H1:=hid t1d
 have HSRC:=hid hsrc
 have HG:Hid (K8 w w1.drew own own):=g1.trans (K8.below own (Below.refl _ _).drew)
 have HY:=hid hy
 have HQ:=hid hq
 have HC:=hid hcnt
 obtain ⟨T,hT⟩:∃ T:World→Prop,T=fun W=>W.row? sb 0 3=some [lv,mv,.int .i64 (y:Int)]∧W.free? sb 0 3=true:=⟨_,rfl⟩
 have HT:=hid hT
 have t0:T w1.drew:=by rw [hT];exact ⟨t1d.row,t1d.free⟩
 have HWELL:Hid (S=rst (I1 ps)∧M=ms.map (fun m=>(m.1,rst (I1 m.2.2)))∧A0r ps n∧(∀ m∈ms,A0r m.2.2 n)∧k≤n):=⟨hS,hM,hw,hwm,hkn⟩
 have hrow1:=t1d.row
 have r0:=World.row?_cell hrow1 (i:=2) (by omega)
 simp only [Nat.zero_add,List.getElem?_cons_succ,List.getElem?_cons_zero] at r0
 have HMV:=hid emv
 clear h1 t1 t1d g1 hS hM hw hwm hkn hsrc hcnt hT hrow1 e1 hy hq r0 emv elv
 go_enter Tryz.func68,Tryz.ntmps68
 go_wp2_with fail
 rw [← HE.out]
 refine A7 T [19] (.pure 0 (.pure 1 (.pure 2 (.pure 3 (.take 4 (.pure 5 (.pure 6 (.pure 7 (.take 8 (.pure 9 (.pure 10 (.pure 11 (.take 12 (.alt 13 (.pure 14 (.alt 15 (.alt 16 (.pure 17 (.pure 18 (.alt 19 .fin .stop))) .stop) .stop)) .stop)))))))))))))) (by kernel_rfl) (by kernel_rfl) ?_
 iterate 4
  refine A2 ?_ rfl (by rfl) (fun w' hs=>?_) (fun _ _ _ h=>h) ?_
  rotate_left
  ·clear hs
   go_simp
   try rfl
  simp only [Act.put,D7,D6,D5]
 refine A9 (mv) t0 rfl (by rfl) (fun w' hs=>?_) (fun _ _ _ h=>h) ?_
 ·rw [HT.out] at hs
  obtain ⟨s1,s2⟩:=hs;have q0:=World.row?_cell s1 (i:=0) (by omega);have q1:=World.row?_cell s1 (i:=1) (by omega);have q2:=World.row?_cell s1 (i:=2) (by omega);simp only [Nat.zero_add,List.getElem?_cons_succ,List.getElem?_cons_zero] at q0 q1 q2
  go_simp
 simp only [Act.put,D7,D6,D5]
 iterate 7
  first
  |refine A2 ?_ rfl (by rfl) (fun w' hs=>?_) (fun _ _ _ h=>h) ?_
   rotate_left
   ·clear hs
    go_simp
    try rfl
   simp only [Act.put,D7,D6,D5]
  |refine A9 ?_ t0 rfl (by rfl) (fun w' hs=>?_) (fun _ _ _ h=>h) ?_
   rotate_left
   ·rw [HT.out] at hs
    obtain ⟨s1,s2⟩:=hs;have q0:=World.row?_cell s1 (i:=0) (by omega);have q1:=World.row?_cell s1 (i:=1) (by omega);have q2:=World.row?_cell s1 (i:=2) (by omega);simp only [Nat.zero_add,List.getElem?_cons_succ,List.getElem?_cons_zero] at q0 q1 q2
    go_simp
    try rfl
   simp only [Act.put,D7,D6,D5]
 refine A9 (lv) t0 rfl (by rfl) (fun w' hs=>?_) (fun _ _ _ h=>h) ?_
 ·rw [HT.out] at hs
  obtain ⟨s1,s2⟩:=hs;have q0:=World.row?_cell s1 (i:=0) (by omega);have q1:=World.row?_cell s1 (i:=1) (by omega);have q2:=World.row?_cell s1 (i:=2) (by omega);simp only [Nat.zero_add,List.getElem?_cons_succ,List.getElem?_cons_zero] at q0 q1 q2
  go_simp
 simp only [Act.put,D7,D6,D5]
 refine A5 rfl (fun K hK=>?_)
 go_simp
 refine (A8R HSRC.out).mono ?_
 rintro e w2 ⟨v,ds,rfl,hc,hf⟩
 obtain ⟨va,vc,ev⟩:=E9 hc.own
 obtain ⟨vn,hvn⟩:∃ vn,vn=ds.length:=⟨_,rfl⟩
 rw [← hvn] at ev
 subst ev
 have t2:T w2:=by rw [HT.out] at t0 ⊢;exact ⟨((C7 hc.below).1 _ _ _ (World.row?_lt t0.1)).trans t0.1,((C7 hc.below).2 _ _ _ (World.row?_lt t0.1)).trans t0.2⟩
 obtain ⟨own2,x1,x2,x3,x4⟩:=B25 H1.out.low hc (B7J H1.out.arr.ok hf)
 have h2:=(H1.out.only (S:=fun _=>False) (A0.of_below_size hc.below) (fun _ h=>h.elim)).le x4 x2
 have HG2:Hid (K8 w w2 own own2):=HG.out.trans ⟨x1,A0.of_below_size hc.below⟩
 have HAP:Hid (∀ u∈lv :: ms.map (fun m=>m.2.1),u.ownBlock=none∨u.ownBlock≠(Value.slice va vn vc).ownBlock):=by
  intro u hu
  cases hub:u.ownBlock with
  | none=>exact .inl rfl
  | some g =>
   refine .inr fun e=>?_
   have h3:=E4 hc.own g e.symm
   have h4:own g=some .acc:=by
    rcases List.mem_cons.1 hu with rfl | hu
    ·exact H1.out.arr.lab g hub
    ·obtain ⟨m,hm,rfl⟩:=List.mem_map.1 hu
     exact (H1.out.each m hm).1.lab g hub
   have h5:=H1.out.low g (by rw [h4];simp)
   omega
 have H2:=hid h2
 have HAR:=hid x3
 have HF:=hid hf
 clear hc hf x1 x2 x3 x4 h2 hvn
 refine hK.out _ _ t2 ?_
 clear hK K
 refine A2 ?_ rfl (by rfl) (fun w' hs=>?_) (fun _ _ _ h=>h) ?_
 rotate_left
 ·clear hs
  go_simp
  try rfl
 simp only [Act.put,D7,D6,D5]
 refine A5 rfl (fun K hK=>?_)
 go_simp
 have t3:T (w2.alloc (.cells #[.int .i64 (y:Int),.slice va vn vc] 195)):=by rw [HT.out] at t2 ⊢;exact ⟨(World.row?_alloc_lt _ (World.row?_lt t2.1)).trans t2.1,(World.free?_alloc_lt _ (World.row?_lt t2.1)).trans t2.2⟩
 have HMR:Hid ((w2.alloc (.cells #[.int .i64 (y:Int),.slice va vn vc] 195)).ownsRow 0 195 2 mv q (B7T ms)):=by have h3:=H2.out.marks;rw [← HQ.out] at h3;exact C3 h3 ((Below.refl _ _).alloc (Nat.le_refl _) _)
 refine hK.out _ _ t3 ?_
 clear hK K
 refine A5 rfl (fun K hK=>?_)
 refine K9 B9B rfl _ _ rfl HMR.out rfl (G8.new w2 (m:=1) (size:=2) (cs:=[.int .i64 (y:Int),.slice va vn vc]) 195 (0,0) rfl 1) rfl (by unfold maxLen;omega) (by omega) ?_
 intro mv' w4 hr4 ho4 hl4
 have ho24:A0 (fun g=>mv.ownBlock=some g) w2 w4:=((A0.refl _ _).alloc _).trans ho4 (fun i hi _=>hi)
 have hsbn:¬ mv.ownBlock=some sb:=fun e=>by have:=H2.out.mlab sb e;rw [H2.out.lab] at this;cases this
 have t4:T w4:=by rw [HT.out] at t2 ⊢;exact ⟨(ho24.row? (World.row?_lt t2.1) hsbn).trans t2.1,(ho24.free? (World.row?_lt t2.1) hsbn).trans t2.2⟩
 have hl4':∀ g,mv'.ownBlock=some g→mv.ownBlock=some g∨w2.heap.size≤g:=fun g hg=>by
  rcases hl4 g hg with h | h
  ·exact .inl h
  ·have h':w2.heap.size+1≤g:=by first | exact h | simpa using h
   exact .inr (by omega)
 have HADD:=hid (H2.out.addMark (v:=.slice va vn vc) (ds:=ds) (by have:=HC.out.1;have:=HY.out;omega) HAR.out (by have:=H2.out.up;unfold Q1 at this ⊢;rw [HF.out];exact this) HAP.out ho24 (by rw [← HQ.out];exact hr4) hl4')
 have hmo:mv'.oneCell'=true:=by obtain ⟨_,_,rfl⟩:=E9 hr4;rfl
 have hf1:w4.free? sb 1 1=true:=by have h3:=t4;rw [HT.out] at h3;exact World.free?_sub h3.2 (by omega)
 clear hr4 ho4 hl4 hl4' ho24
 refine hK.out _ _ t4 ?_
 clear hK K
 iterate 2
  refine A2 ?_ rfl (by rfl) (fun w' hs=>?_) (fun _ _ _ h=>h) ?_
  rotate_left
  ·clear hs
   go_simp
   try rfl
  simp only [Act.put,D7,D6,D5]
 refine J8 rfl (by simp) (fun K hK=>?_)
 go_simp
 refine hK.out _ _ ?_
 clear hK K
 refine C2 ?_
 obtain ⟨own5,k5,g5⟩:=HADD.out
 have r5:=World.row?_cell k5.row (i:=2) (by omega)
 simp only [Nat.zero_add,List.getElem?_cons_succ,List.getElem?_cons_zero] at r5
 have H5:=hid k5
 have HG5:=hid g5
 clear k5 g5 t0 t2 t3 t4 hf1
 go_wp2
 go_ret
 obtain ⟨z1,z2,z3,z4,z5⟩:=HWELL.out
 refine ⟨y,rfl,?_,own5,⟨lv,mv',ps,_,y,H5.out,z1,?_,z3.mono (Nat.le_succ n),?_,by have:=HY.out;omega⟩,HG2.out.trans HG5.out⟩
 ·intro m hm
  rw [z2] at hm
  obtain ⟨m',hm',rfl⟩:=List.mem_map.1 hm
  have h1:m'.1≤k:=HC.out.2 m' hm'
  have h2:=HY.out
  show m'.1 < y
  omega
 ·rw [z2,List.map_append,z1,← HF.out];rfl
 ·intro m hm
  rcases List.mem_append.1 hm with h | h
  ·exact (z4 m h).mono (Nat.le_succ n)
  ·rw [List.mem_singleton.1 h]
   have e:ds.length=ps.length:=by have:=congrArg List.length HF.out;simpa [I1] using this
   refine ⟨by rw [e];exact Nat.le_succ_of_le z3.len,fun p hp=>?_⟩
   have:p.1∈I1 ds:=List.mem_map.2 ⟨p,hp,rfl⟩
   rw [HF.out] at this
   obtain ⟨p',hp',e'⟩:=List.mem_map.1 this
   rw [← e']
   have:=z3.slots p' hp'
   exact ⟨Nat.le_succ_of_le this.1,this.2⟩
end Go.Proofs.YtfflppedbopdpaaGreat
namespace Go.Proofs.YtfflppedbopdpaaGreat
open Go.RowKit Go.Mun
def A0Q (x:I7):Bool:=decide (x.ac.nonce=0) && decide (x.ac.bal=0) && decide (x.ac.code = []) && decide (x.slots = [])
theorem A8N {p:I7 × Value × Value} {ca sa:Option Addr} {n1 n2 cc sc:Nat} (e1:p.2.1 = .slice ca n1 cc) (e2:p.2.2 = .slice sa n2 sc):Q3 55 (I8 p)=true:=by
 unfold I8;rw [e1,e2]
 exact A0Y (K0 _ _ _) fun s hs=>by
  simp only [Q8,List.mem_cons,List.not_mem_nil,or_false] at hs
  rcases hs with rfl | rfl | rfl | rfl | rfl
  all_goals first | rfl | (rw [C4];exact D2 _ _)
theorem B2o {p:I7 × Value × Value} {ca sa:Option Addr} {cc sc:Nat} (ec:p.2.1 = .slice ca p.1.ac.code.length cc) (es:p.2.2 = .slice sa p.1.slots.length sc) (hb:p.1.ac.bal < wW) (w:World) :
  Calls Tryz.prog 82 #[.agg (I8 p).toArray] w fun e w'=>e = .returned (.bool (A0Q p.1))∧Below w.heap.size w w':=by
 have hok:=A8N ec es
 obtain ⟨w0,e0⟩:∃ w0,w0=w.alloc (.cells (I8 p).toArray 35):=⟨_,rfl⟩
 have hr:w0.row? w.heap.size 0 55=some (I8 p):=by rw [e0];exact World.row?_alloc_at _ _ _ rfl (S5 p)
 have hB:Below w.heap.size w w0:=by rw [e0];exact (Below.refl _ _).alloc (Nat.le_refl _) _
 have c20:w0.cell? ⟨w.heap.size,20,none⟩=some (.int .i64 p.1.ac.nonce):=C8 hr (i:=1) rfl (by simp [Q8,A8,A4])
 have r21:w0.row? w.heap.size 21 32=some (A3 32 p.1.ac.bal):=I5 hr (i:=2) rfl (by simp [Q8,A8,A4]) (by simp)
 have c53:=B1F hr
 have c54:=B1E hr
 rw [Nat.zero_add,ec] at c53
 rw [Nat.zero_add,es] at c54
 have HX:Hid (A0Q p.1=(decide (p.1.ac.nonce=0) && decide (p.1.ac.bal=0) && decide (p.1.ac.code.length=0) && decide (p.1.slots.length=0))):=by
  show _=_
  unfold A0Q
  simp [List.length_eq_zero_iff]
 have HB:=hid hB
 have HE:=hid e0
 generalize A0Q p.1=E at *
 generalize p.1.ac.nonce=nn at *
 generalize p.1.ac.bal=bl at *
 generalize p.1.ac.code.length=n1 at *
 generalize p.1.slots.length=n2 at *
 have hl2:(A3 32 bl).length=32:=by simp
 obtain ⟨C,hC⟩:∃ C,C=I8 p:=⟨_,rfl⟩
 have hcl:C.length=55:=by rw [hC];exact S5 p
 have gc:∀ i (hi:i < C.length) u,w0.cell? ⟨w.heap.size,i,none⟩=some u→C[i]=u:=by
  intro i hi u h
  have h2:=World.row?_cell hr (i:=i) (by omega)
  rw [Nat.zero_add,h,← hC,List.getElem?_eq_getElem hi] at h2
  exact (Option.some.inj h2).symm
 have g20:C[20]'(by omega) = .int .i64 nn:=gc _ _ _ c20
 have g53:C[53]'(by omega) = .slice ca n1 cc:=gc _ _ _ c53
 have g54:C[54]'(by omega) = .slice sa n2 sc:=gc _ _ _ c54
 rw [← hC] at HE hok ⊢
 rw [e0,← hC] at r21
 have z25:=B46
 have heq:=eqW (a:=bl) (b:=0) hb (show (0:Nat) < wW by decide)
 clear e0 hr hB ec es hC gc c20 c53 c54
 by_cases h1:nn=0
 ·subst h1
  by_cases h2:bl=0
  ·have hd2:decide (bl=0)=true:=by simp [h2]
   rw [hd2] at heq
   by_cases h3:n1=0
   ·subst h3
    have HR:Hid (E=decide (n2=0)):=by show _=_;rw [HX.out];simp [h2]
    clear HX h2 hd2
    go_enter Tryz.func82,Tryz.ntmps82
    go_wp2_with fail
    by_cases h4:n2=0
    ·subst h4
     go_wp2
     go_ret
     exact ⟨by rw [HR.out];rfl,HE.out ▸ HB.out⟩
    ·have h4I:((n2:Int) == 0)=false:=by simp [h4]
     have HN:=hid h4
     clear h4
     go_wp2
     go_ret
     exact ⟨by rw [HR.out];simp [HN.out],HE.out ▸ HB.out⟩
   ·have h3I:((n1:Int) == 0)=false:=by simp [h3]
    have HR:Hid (E=false):=by show _=_;rw [HX.out];simp [h3]
    clear HX h2 hd2 h3
    go_enter Tryz.func82,Tryz.ntmps82
    go_wp2
    go_ret
    exact ⟨by rw [HR.out];rfl,HE.out ▸ HB.out⟩
  ·have hd2:decide (bl=0)=false:=by simp [h2]
   rw [hd2] at heq
   have HR:Hid (E=false):=by show _=_;rw [HX.out];simp [h2]
   clear HX h2 hd2
   go_enter Tryz.func82,Tryz.ntmps82
   go_wp2
   go_ret
   exact ⟨by rw [HR.out];rfl,HE.out ▸ HB.out⟩
 ·have h1I:(nn == 0)=false:=by simp [h1]
  have HR:Hid (E=false):=by show _=_;rw [HX.out];simp [h1]
  clear HX h1
  go_enter Tryz.func82,Tryz.ntmps82
  go_wp2
  go_ret
  exact ⟨by rw [HR.out];rfl,HE.out ▸ HB.out⟩
end Go.Proofs.YtfflppedbopdpaaGreat
namespace Go.Proofs.YtfflppedbopdpaaGreat
open Go.RowKit Go.Mun
theorem B4C (x:Nat) (w:World):(Op.equalIn 10000 23 (.agg (A3 20 x).toArray) (.agg (A3 20 x).toArray)).run Tryz.prog w = .ok true w:=by
 have h:∀ d,(Op.equalIn (d+3) 23 (.agg (A3 20 x).toArray) (.agg (A3 20 x).toArray)).run Tryz.prog w = .ok true w:=fun d=>by
  have:=A11 (n:=20) Tryz.underlying23 Tryz.underlying5 (by kernel_rfl) (d+1) x x w
  simpa [B44] using this
 exact A2Q h
theorem B4B (x:Nat) (w:World):(Op.equalIn 10000 25 (.agg (A3 32 x).toArray) (.agg (A3 32 x).toArray)).run Tryz.prog w = .ok true w:=by
 have h:∀ d,(Op.equalIn (d+3) 25 (.agg (A3 32 x).toArray) (.agg (A3 32 x).toArray)).run Tryz.prog w = .ok true w:=fun d=>by
  have:=A11 (n:=32) Tryz.underlying25 Tryz.underlying5 (by kernel_rfl) (d+1) x x w
  simpa [B44] using this
 exact A2Q h
end Go.Proofs.YtfflppedbopdpaaGreat
namespace Go.Proofs.YtfflppedbopdpaaGreat
open Go.RowKit Go.Mun
def A5Z (w:World) (p:I7 × Value × Value):Prop:=∃ a k s j,p.2.1 = .slice a p.1.ac.code.length k∧G9 w .u8 a k p.1.ac.code∧p.2.2 = .slice s 0 j
theorem B2a (a:Nat) (n:Int) (b:Nat) (d:J1) (a1 a2 s1 s2:Option Addr) (c1 c2 j1 j2:Nat) (w:World) (h1:G9 w .u8 a1 c1 d) (h2:G9 w .u8 a2 c2 d) :
  Calls Tryz.prog 74 #[.agg (B8 (Q8 ⟨a,n,b,d⟩ (.slice a1 d.length c1) (.slice s1 0 j1))).toArray,.agg (B8 (Q8 ⟨a,n,b,d⟩ (.slice a2 d.length c2) (.slice s2 0 j2))).toArray] w fun e w'=>e = .returned (.bool true)∧Below w.heap.size w w':=by
 have ha:=B4C a
 have hw:=B4B b
 obtain ⟨X,hX⟩:∃ X,X=B8 (Q8 ⟨a,n,b,d⟩ (.slice a1 d.length c1) (.slice s1 0 j1)):=⟨_,rfl⟩
 obtain ⟨Y,hY⟩:∃ Y,Y=B8 (Q8 ⟨a,n,b,d⟩ (.slice a2 d.length c2) (.slice s2 0 j2)):=⟨_,rfl⟩
 have lX:X.length=55:=by rw [hX];exact K0 _ _ _
 have lY:Y.length=55:=by rw [hY];exact K0 _ _ _
 rw [← hX,← hY]
 obtain ⟨w0,e0⟩:∃ w0,w0=(w.alloc (.cells X.toArray 35)).alloc (.cells Y.toArray 35):=⟨_,rfl⟩
 have hb0:Below w.heap.size w w0:=by rw [e0];exact ((Below.refl _ _).alloc (Nat.le_refl _) _).alloc (by simp) _
 have hr:w0.row? w.heap.size 0 55=some X:=by rw [e0,World.row?_alloc_lt _ (by simp)];exact World.row?_alloc_at X 35 _ rfl lX
 have hs:w0.row? (w.heap.size+1) 0 55=some Y:=by rw [e0];exact World.row?_alloc_at Y 35 _ (by simp) lY
 rw [hX] at hr
 rw [hY] at hs
 have x0:w0.row? w.heap.size 0 20=some (A3 20 a):=I5 hr (i:=0) rfl (by simp [Q8,A8,A4]) (by simp)
 have x1:w0.cell? ⟨w.heap.size,20,none⟩=some (.int .i64 n):=C8 hr (i:=1) rfl (by simp [Q8,A8,A4])
 have x2:w0.row? w.heap.size 21 32=some (A3 32 b):=I5 hr (i:=2) rfl (by simp [Q8,A8,A4]) (by simp)
 have x3:w0.cell? ⟨w.heap.size,53,none⟩=some (.slice a1 d.length c1):=C8 hr (i:=3) rfl (by simp [Q8,A8,A4])
 have x4:w0.cell? ⟨w.heap.size,54,none⟩=some (.slice s1 0 j1):=C8 hr (i:=4) rfl (by simp [Q8,A8,A4])
 have y0:w0.row? (w.heap.size+1) 0 20=some (A3 20 a):=I5 hs (i:=0) rfl (by simp [Q8,A8,A4]) (by simp)
 have y1:w0.cell? ⟨(w.heap.size+1),20,none⟩=some (.int .i64 n):=C8 hs (i:=1) rfl (by simp [Q8,A8,A4])
 have y2:w0.row? (w.heap.size+1) 21 32=some (A3 32 b):=I5 hs (i:=2) rfl (by simp [Q8,A8,A4]) (by simp)
 have y3:w0.cell? ⟨(w.heap.size+1),53,none⟩=some (.slice a2 d.length c2):=C8 hs (i:=3) rfl (by simp [Q8,A8,A4])
 have y4:w0.cell? ⟨(w.heap.size+1),54,none⟩=some (.slice s2 0 j2):=C8 hs (i:=4) rfl (by simp [Q8,A8,A4])
 have q1:=D8 (P:=Tryz.prog) Tryz.underlying26 Tryz.underlying5 Tryz.underlying9 rfl (h1.below hb0)
 have q2:=D8 (P:=Tryz.prog) Tryz.underlying26 Tryz.underlying5 Tryz.underlying9 rfl (h2.below hb0)
 have HB:=hid hb0
 have HE:=hid e0
 generalize A1u d=S at *
 generalize d.length=m at *
 rw [e0] at x0 x1 x2 x3 x4 y0 y1 y2 y3 y4 q1 q2
 clear hX hY hr hs e0 hb0 h1 h2 lX lY
 go_enter Tryz.func74,Tryz.ntmps74
 go_wp2_with fail
 rw [← HE.out]
 rw [← HE.out] at x0 x1 x2 x3 x4 y0 y1 y2 y3 y4 q1 q2
 go_loopw [5] (fun ix wz=>ix = .int .i64 0∧wz=w0) (fun _ _=>0)
 case atStart=>exact ⟨rfl,rfl⟩
 case round =>
  obtain ⟨rfl,rfl⟩:=hrel
  go_wp2
  go_ret
  exact ⟨rfl,HB.out⟩
theorem A9T {w:World} {v1 v2:Value} {B1 B2:Nat} {ds1 ds2:List (I7 × Value × Value)} (ho1:w.ownsRow B1 35 55 v1 ds1.length (F6 ds1)) (ho2:w.ownsRow B2 35 55 v2 ds2.length (F6 ds2)) (h1:∀ p∈ds1,A5Z w p) (h2:∀ p∈ds2,A5Z w p) (hL:I1 ds1=I1 ds2) (hm9:ds1.length≤4000000) :
  Calls Tryz.prog 40 #[v1,v2] w fun e w'=>e = .returned (.bool true)∧Below w.heap.size w w':=by
 have hlen:ds2.length=ds1.length:=by have:=congrArg List.length hL;simpa [I1] using this.symm
 rw [hlen] at ho2
 obtain ⟨m,hm⟩:∃ m,m=ds1.length:=⟨_,rfl⟩
 rw [← hm] at ho1 ho2 hlen hm9
 have hbn:((m:Int) != (m:Int))=false:=by simp
 by_cases hz:m=0
 ·obtain ⟨ad1,c1,rfl⟩:=A1d ho1
  obtain ⟨ad2,c2,rfl⟩:=A1d ho2
  subst hz
  clear h1 h2 hL hlen ho1 ho2 hm
  go_enter Tryz.func40,Tryz.ntmps40
  go_wp2_with fail
  go_loopw [5] (fun ix wz=>ix = .int .i64 0∧wz=w) (fun _ _=>0)
  case atStart=>exact ⟨rfl,rfl⟩
  case round =>
   obtain ⟨rfl,rfl⟩:=hrel
   go_wp2
   go_ret
   exact ⟨rfl,Below.refl _ _⟩
 ·obtain ⟨b,c,rfl,_,hc,hcm,hrow,_⟩:=J5 ho1 (by omega)
  obtain ⟨b',c',rfl,_,hc',hcm',hrow',_⟩:=J5 ho2 (by omega)
  have HAT:Hid (∀ q,q < m→∃ a n bl d a1 a2 k1 k2 s1 s2 j1 j2,w.row? b (q*55) 55=some (B8 (Q8 ⟨a,n,bl,d⟩ (.slice a1 d.length k1) (.slice s1 0 j1)))∧w.row? b' (q*55) 55=some (B8 (Q8 ⟨a,n,bl,d⟩ (.slice a2 d.length k2) (.slice s2 0 j2)))∧G9 w .u8 a1 k1 d∧G9 w .u8 a2 k2 d):=by
   intro q hq
   have hq1:q < ds1.length:=by omega
   have hq2:q < ds2.length:=by omega
   have e:(ds1[q]'hq1).1=(ds2[q]'hq2).1:=by
    have:=congrArg (fun l=>l[q]?) hL
    simpa [I1,hq1,hq2] using this
   have r1:=World.row?_sub hrow (o':=0+q*55) (n':=55) (by omega) (by omega)
   have r2:=World.row?_sub hrow' (o':=0+q*55) (n':=55) (by omega) (by omega)
   rw [Nat.zero_add,Nat.sub_zero,A3t ds1 q hq1] at r1
   rw [Nat.zero_add,Nat.sub_zero,A3t ds2 q hq2] at r2
   obtain ⟨a1,k1,s1,j1,e1,i1,f1⟩:=h1 _ (List.getElem_mem hq1)
   obtain ⟨a2,k2,s2,j2,e2,i2,f2⟩:=h2 _ (List.getElem_mem hq2)
   unfold I8 at r1 r2
   rw [e1,f1] at r1
   rw [e2,f2,← e] at r2
   rw [← e] at i2
   exact ⟨_,_,_,_,a1,a2,k1,k2,s1,s2,j1,j2,r1,r2,i1,i2⟩
  have HLT:=hid (World.row?_lt hrow)
  have HLT':=hid (World.row?_lt hrow')
  clear h1 h2 hL hrow hrow' hm ho1 ho2 hlen
  go_enter Tryz.func40,Tryz.ntmps40
  go_wp2_with fail
  go_loopw [5] (fun i wr => ∃ q:Nat,q≤m∧i = .int .i64 q∧Below w.heap.size w wr) (fun i _=>m - (intOf i).toNat)
  case atStart=>exact ⟨0,by omega,rfl,Below.refl _ _⟩
  case round =>
   obtain ⟨q,hq,rfl,hbw⟩:=hrel
   have HBW:=hid hbw
   clear hbw
   by_cases hlt:q < m
   ·obtain ⟨a,n,bl,d,a1,a2,k1,k2,s1,s2,j1,j2,r1,r2,i1,i2⟩:=HAT.out q hlt
    obtain ⟨X,hX⟩:∃ X,X=B8 (Q8 ⟨a,n,bl,d⟩ (.slice a1 d.length k1) (.slice s1 0 j1)):=⟨_,rfl⟩
    obtain ⟨Y,hY⟩:∃ Y,Y=B8 (Q8 ⟨a,n,bl,d⟩ (.slice a2 d.length k2) (.slice s2 0 j2)):=⟨_,rfl⟩
    have HC:=hid (fun (W:World) (hW:Below w.heap.size w W)=>B2a a n bl d a1 a2 s1 s2 k1 k2 j1 j2 W (i1.below hW) (i2.below hW))
    rw [← hX,← hY] at HC
    rw [← hX] at r1
    rw [← hY] at r2
    have hx:X.length=55:=by rw [hX];exact K0 _ _ _
    have hy:Y.length=55:=by rw [hY];exact K0 _ _ _
    obtain ⟨T,hT⟩:∃ T:World→Prop,T=fun W=>W.row? b (q*55) 55=some X∧W.row? b' (q*55) 55=some Y:=⟨_,rfl⟩
    have HT:=hid hT
    have HTB:Hid (∀ W,Below w.heap.size w W→T W):=by
     intro W hW
     rw [hT]
     exact ⟨((C7 hW).1 _ _ _ HLT.out).trans r1,((C7 hW).1 _ _ _ HLT'.out).trans r2⟩
    have hql:(q:Int) < (m:Int):=by omega
    have dql:decide ((q:Int) < (m:Int))=true:=decide_eq_true hql
    have dqn:(q < m)=True:=eq_true hlt
    have t0:T wr.drew:=HTB.out _ HBW.out.drew
    clear hT r1 r2 i1 i2 HAT hX hY
    go_wp2_with fail
    refine A7 T [] (.pure 0 (.pure 1 (.pure 2 (.take 3 (.pure 4 (.pure 5 (.pure 6 (.take 7 (.alt 8 (.pure 9 .fin) .stop))))))))) (by kernel_rfl) (by kernel_rfl) ?_
    iterate 8
     first
     |refine A2 ?_ rfl (by rfl) (fun w' hs=>?_) (fun _ _ _ h=>h) ?_
      rotate_left
      ·clear hs
       go_simp
       try rfl
      simp only [Act.put,D7,D6,D5]
     |refine A9 ?_ t0 rfl (by rfl) (fun w' hs=>?_) (fun _ _ _ h=>h) ?_
      rotate_left
      ·rw [HT.out] at hs
       obtain ⟨g1,g2⟩:=hs
       go_simp
       try rfl
      simp only [Act.put,D7,D6,D5]
    refine A5 rfl (fun K hK=>?_)
    go_simp
    refine (HC.out _ HBW.out.drew).mono ?_
    rintro e w9 ⟨rfl,hb9⟩
    have HB9:Hid (Below w.heap.size w w9):=HBW.out.drew.trans (hb9.mono HBW.out.drew.size)
    have t9:T w9:=HTB.out _ HB9.out
    clear hb9
    refine hK.out _ _ t9 ?_
    clear hK K
    refine A2 ?_ rfl (by rfl) (fun w' hs=>?_) (fun _ _ _ h=>h) ?_
    rotate_left
    ·clear hs
     go_simp
     try rfl
    simp only [Act.put,D7,D6,D5]
    refine C2 ?_
    go_wp2_with fail
    have hk1:IntKind.i64.wrap ((q:Int)+1)=((q+1:Nat):Int):=by rw [U6 _ (by omega) (by omega)];omega
    go_roundw
    case rel=>exact ⟨q+1,by omega,by go_num,HB9.out⟩
    case measure=>simp [intOf];omega
   ·obtain rfl:q=m:=by omega
    go_wp2_with fail
    go_ret
    exact ⟨rfl,HBW.out⟩
theorem A5Z.below {w w':World} {p:I7 × Value × Value} (h:A5Z w p) (hb:Below w.heap.size w w'):A5Z w' p:=by
 obtain ⟨a,k,s,j,e1,i1,f1⟩:=h
 exact ⟨a,k,s,j,e1,i1.below hb,f1⟩
theorem B4J {w0 w:World} {v:Value} {ds:List (I7 × Value × Value)} (h:A2V w0 w v ds) (hs:∀ p∈ds,p.1.slots = []):∀ p∈ds,A5Z w p:=by
 intro p hp
 obtain ⟨a,k,e1,_,i1⟩:=G9.of_own' (h.code p hp)
 obtain ⟨s,j,f1⟩:=E9 (h.slots p hp)
 rw [hs p hp] at f1
 exact ⟨a,k,s,j,e1,i1,f1⟩
def B49 (S:St) (p:Nat × Value):I7 × Value × Value:=(⟨A6q p.1 (S p.1),[]⟩,p.2,.slice none 0 0)
theorem B3l {w0 w:World} {S:St} {v:Value} {cs:List (Nat × Value)} (h:A1B w0 w S v cs):w.ownsRow w0.heap.size 35 55 v (cs.map (B49 S)).length (F6 (cs.map (B49 S)))∧∀ p∈cs.map (B49 S),A5Z w p:=by
 refine ⟨?_,fun p hp=>?_⟩
 ·rw [List.length_map]
  have:F6 (cs.map (B49 S))=A6p S cs:=by
   unfold F6 A6p
   rw [List.flatMap_map];rfl
  rw [this];exact h.own
 ·obtain ⟨q,hq,rfl⟩:=List.mem_map.1 hp
  obtain ⟨a,k,e1,_,i1⟩:=G9.of_own' (h.code q hq)
  exact ⟨a,k,none,0,e1,i1,rfl⟩
end Go.Proofs.YtfflppedbopdpaaGreat
namespace Go.Proofs.YtfflppedbopdpaaGreat
open Go.RowKit Go.Mun
structure B1U (S:St) (n:Nat) (L:List I7):Prop where
 up:Q1 L
 acc:∀ x∈L,x.acc=S x.ac.addr∧¬ (S x.ac.addr).empty
 all:∀ a,¬ (S a).empty→∃ x∈L,x.ac.addr=a
 well:∀ x∈L,B6Q x∧x.slots.length≤n∧(x.slots.map Prod.fst).Pairwise (· < ·)∧∀ q∈x.slots,q.2≠0
 len:L.length≤n
theorem A5L {x:I7} (h0:0≤x.ac.nonce) (hp:(x.slots.map Prod.fst).Pairwise (· < ·)) (hz:∀ q∈x.slots,q.2≠0):A0Q x=true↔x.acc.empty:=by
 unfold A0Q Acc.empty I7.acc
 simp only [Bool.and_eq_true,decide_eq_true_eq]
 constructor
 ·rintro ⟨⟨⟨h1,h2⟩,h3⟩,h4⟩
  exact ⟨by rw [h1];rfl,h2,h3,fun k=>by rw [h4];rfl⟩
 ·rintro ⟨h1,h2,h3,h4⟩
  refine ⟨⟨⟨by omega,h2⟩,h3⟩,?_⟩
  match hs:x.slots with
  | []=>rfl
  | q :: r =>
   have h5:=h4 q.1
   rw [hs] at h5
   have h6:=hz q (by rw [hs];simp)
   simp [I3] at h5
   exact absurd h5 h6
def A1f (ps:List (I7 × Value × Value)):List (I7 × Value × Value):=ps.filter fun p => !A0Q p.1
theorem B2H {w:World} {own:Go.Mun.Own} {ps:List (I7 × Value × Value)} {n:Nat} (hu:Q1 (I1 ps)) (hok:∀ p∈ps,X5 w own p) (hw:A0r ps n) {L:List I7} (hL:L=I1 (A1f ps)):B1U (rst (I1 ps)) n L:=by
 subst hL
 have hmem:∀ x∈I1 (A1f ps),∃ p∈ps,p.1=x∧A0Q x=false:=by
  intro x hx
  obtain ⟨p,hp,rfl⟩:=List.mem_map.1 hx
  obtain ⟨h1,h2⟩:=List.mem_filter.1 hp
  exact ⟨p,h1,rfl,by simpa using h2⟩
 have hacc:∀ p∈ps,p.1.acc=rst (I1 ps) p.1.ac.addr:=by
  intro p hp
  obtain ⟨i,hi⟩:=List.mem_iff_getElem?.1 hp
  exact (A3q hu (i:=i) (x:=p.1) (by unfold I1;rw [List.getElem?_map,hi];rfl)).symm
 refine ⟨?_,fun x hx=>?_,fun a ha=>?_,fun x hx=>?_,?_⟩
 ·unfold Q1 I1 A1f at *
  exact hu.sublist (List.Sublist.map _ (List.Sublist.map _ List.filter_sublist))
 ·obtain ⟨p,hp,rfl,he⟩:=hmem x hx
  have h1:=hacc p hp
  refine ⟨h1,fun h=>?_⟩
  rw [← h1] at h
  have:=(A5L (hok p hp).nonce.1 (hw.slots p hp).2.1 (hw.slots p hp).2.2).2 h
  rw [he] at this;cases this
 ·by_cases hx:∃ p∈ps,p.1.ac.addr=a
  ·obtain ⟨p,hp,rfl⟩:=hx
   refine ⟨p.1,List.mem_map.2 ⟨p,List.mem_filter.2 ⟨hp,?_⟩,rfl⟩,rfl⟩
   cases he:A0Q p.1 with
   | false=>rfl
   | true =>
    have:=(A5L (hok p hp).nonce.1 (hw.slots p hp).2.1 (hw.slots p hp).2.2).1 he
    rw [hacc p hp] at this
    exact absurd this ha
  ·exfalso
   apply ha
   rw [A3r (fun x hx2 e=>by obtain ⟨p,hp,rfl⟩:=List.mem_map.1 hx2;exact hx ⟨p,hp,e⟩)]
   exact ⟨rfl,rfl,rfl,fun _=>rfl⟩
 ·obtain ⟨p,hp,rfl,_⟩:=hmem x hx
  exact ⟨B6V (hok p hp),hw.slots p hp⟩
 ·have h1:(I1 (A1f ps)).length≤ps.length:=by unfold I1 A1f;rw [List.length_map];exact List.length_filter_le _ _
  exact Nat.le_trans h1 hw.len
theorem A97 {w:World} {own:Go.Mun.Own} {sb n:Nat} {S:St} {M:List (Nat × St)} (h:RState w own sb S M n) (hn:n≤1000000) :
  Calls Tryz.prog 42 #[.pointer (some ⟨sb,0,none⟩)] w fun e w' => ∃ v ds,e = .returned v∧A2V w w' v ds∧B1U S n (I1 ds):=by
 obtain ⟨lv,mv,ps,ms,x0,h1,rfl,_,hw,_,_⟩:=h
 have hpl:ps.length≤1000000:=Nat.le_trans hw.len hn
 obtain ⟨la,lc,rfl⟩:=h1.arr.form
 have HLIVE:Hid (∀ {L:List I7},L=I1 (A1f ps)→B1U (rst (I1 ps)) n L):=fun hL=>B2H h1.up h1.arr.ok hw hL
 obtain ⟨m,hm⟩:∃ m,m=ps.length:=⟨_,rfl⟩
 have H1:=hid h1
 have HM:=hid hm
 rw [← hm] at hpl
 clear h1 hm hw
 go_enter Tryz.func42,Tryz.ntmps42
 go_wp2_with fail
 go_loopw [3,4] (fun u ix wr => ∃ (k:Nat) (os:List (I7 × Value × Value)),k≤m∧ix = .int .i64 (k:Int)∧Hid (Below w.heap.size w wr∧os=A1f (ps.take k)∧wr.ownsRow w.heap.size 35 55 u os.length (F6 os))) (fun _ ix _=>m - (intOf ix).toNat)
 case atStart=>exact ⟨0,[],by omega,rfl,Below.refl _ _,by simp [A1f],World.ownsRow_nil _ _ _ _⟩
 case round =>
  obtain ⟨k,os,hk,rfl,HR⟩:=hrel
  have hw2:RStC wr own sb (.slice la ps.length lc) mv ps ms x0:=H1.out.only (S:=fun _=>False) (A0.of_below_size HR.out.1) (fun _ h=>h.elim)
  have c0:=World.row?_cell hw2.row (i:=0) (by omega)
  simp only [Nat.zero_add,List.getElem?_cons_zero] at c0
  rw [← HM.out] at c0
  have HW2:=hid hw2
  clear hw2
  by_cases hkm:k < m
  ·have hkp:k < ps.length:=by have:=HM.out;omega
   have hI:(k:Int) < m:=by omega
   have hdk:decide ((k:Int) < (m:Int))=true:=decide_eq_true hI
   have hdn:(k < m)=True:=eq_true hkm
   obtain ⟨g,c',hlv,hgo,hrow,hfr⟩:=HW2.out.arr.row hkp
   cases hlv
   obtain ⟨P,hP⟩:∃ P,P=ps[k]'hkp:=⟨_,rfl⟩
   have hPm:P∈ps:=by rw [hP];exact List.getElem_mem hkp
   have hPo:=HW2.out.arr.ok P hPm
   obtain ⟨⟨⟨ca,cc,ecv,_⟩,_⟩,⟨⟨sa,sc,esv,_⟩,_⟩⟩:=A7D hPo
   have HEM:=hid (fun W=>B2o ecv esv hPo.bal W)
   have hol:os.length≤1000000:=by
    rw [HR.out.2.1]
    have h1:(A1f (ps.take k)).length≤(ps.take k).length:=List.length_filter_le _ _
    rw [List.length_take] at h1
    omega
   have HTK:Hid (ps.take (k+1)=ps.take k++[P]):=by
    show _=_
    rw [List.take_add_one,List.getElem?_eq_getElem hkp,hP];rfl
   have hr1:wr.row? g (k*55) 55=some (I8 P):=by rw [hP];exact hrow
   have hokc:=A8N ecv esv
   obtain ⟨C,hC⟩:∃ C,C=I8 P:=⟨_,rfl⟩
   rw [← hC] at hr1 hokc HEM
   have hcl:=K6 hokc
   have HC:=hid hC
   have hglt:=World.row?_lt hr1
   have hsbl:=World.block_lt_of_cell? _ _ c0
   clear hrow hfr hC hP hPo ecv esv hgo
   cases hem:A0Q P.1 with
   | true =>
    rw [hem] at HEM
    have HN:Hid (os=A1f (ps.take (k+1))):=by
     show _=_
     rw [HTK.out];unfold A1f;rw [List.filter_append]
     have : [P].filter (fun p => !A0Q p.1) = []:=by simp [hem]
     rw [this,List.append_nil];exact HR.out.2.1
    go_wp2_with fail
    refine (HEM.out _).mono ?_
    rintro e w3 ⟨rfl,hb3⟩
    have HB3:Hid (Below w.heap.size w w3∧w3.ownsRow w.heap.size 35 55 _ os.length (F6 os)):=⟨HR.out.1.trans (hb3.mono HR.out.1.size),C3 HR.out.2.2 hb3⟩
    clear hb3 hr1
    go_wp2
    go_roundw
    case rel=>exact ⟨k+1,os,by omega,by go_num,HB3.out.1,HN.out,HB3.out.2⟩
    case measure=>simp [intOf];omega
   | false =>
    rw [hem] at HEM
    go_wp2_with fail
    refine (HEM.out _).mono ?_
    rintro e w3 ⟨rfl,hb3⟩
    have HB3:Hid (Below w.heap.size w w3∧w3.ownsRow w.heap.size 35 55 _ os.length (F6 os)):=⟨HR.out.1.trans (hb3.mono HR.out.1.size),C3 HR.out.2.2 hb3⟩
    have hr3:w3.row? g (k*55) 55=some C:=((C7 hb3).1 _ _ _ hglt).trans hr1
    have c3:=(hb3.cell (p:=⟨sb,0,none⟩) hsbl).trans c0
    have hszw:=HB3.out.1.size
    clear hb3 hr1
    go_wp2_with (at_builtin;go_must (refine X7 (base:=w.heap.size) (n:=os.length) (xs:=F6 os) A0V rfl _ _ rfl rfl rfl HB3.out.2 rfl (by simpa using hokc) ?f1 ?f2 ?f3 ?_))
    case f1=>unfold maxLen;omega
    case f2=>omega
    case f3=>exact hszw
    intro v9 w9 hv9 hg9 _
    have HN9:Hid (Below w.heap.size w w9∧os++[P]=A1f (ps.take (k+1))∧w9.ownsRow w.heap.size 35 55 v9 (os++[P]).length (F6 (os++[P]))):=by
     refine ⟨HB3.out.1.grown hg9 hszw (fun k hk=>(HB3.out.2.lt k hk).1),?_,?_⟩
     ·rw [HTK.out,HR.out.2.1];unfold A1f;rw [List.filter_append]
      have : [P].filter (fun p => !A0Q p.1) = [P]:=by simp [hem]
      rw [this]
     ·rw [List.length_append,A12]
      have:F6 [P]=C:=by rw [HC.out];simp [F6]
      rw [this];exact hv9
    clear hv9 hg9
    go_wp2
    go_roundw
    case rel=>exact ⟨k+1,_,by omega,by go_num,HN9⟩
    case measure=>simp [intOf];omega
  ·obtain rfl:k=m:=by omega
   have hI:¬ (k:Int) < k:=by omega
   have hos:os=A1f ps:=by rw [HR.out.2.1,List.take_of_length_le (by have:=HM.out;omega)]
   have hol:os.length≤1000001:=by
    rw [hos]
    have h1:(A1f ps).length≤ps.length:=List.length_filter_le _ _
    have:=HM.out
    omega
   have HSR:=hid (A49 HR.out.2.2 (fun p hp=>HW2.out.arr.ok p (List.mem_filter.1 (by rw [hos] at hp;exact hp)).1) hol)
   have HOS:=hid hos
   have hdk:decide ((k:Int) < (k:Int))=false:=decide_eq_false hI
   have hdn:(k < k)=False:=eq_false hkm
   clear hkm hos
   go_wp2_with fail
   refine (A8R HSR.out).mono ?_
   rintro e w3 ⟨v,ds,rfl,hc,hf⟩
   have HCP:Hid (A2V w w3 v ds):=⟨HR.out.1.trans (hc.below.mono HR.out.1.size),D9 hc.own HR.out.1.size,fun p hp=>D9 (hc.code p hp) HR.out.1.size,fun p hp=>D9 (hc.slots p hp) HR.out.1.size⟩
   have HF:=hid hf
   clear hc hf
   go_wp2
   go_ret
   exact ⟨v,ds,rfl,HCP.out,HLIVE.out (by rw [HF.out,HOS.out])⟩
end Go.Proofs.YtfflppedbopdpaaGreat
namespace Go.Proofs.YtfflppedbopdpaaGreat
open Go.RowKit Go.Mun
theorem A7Y (p:I7 × Value × Value) (W:World):(Instr.field 35 (.agg (I8 p).toArray) 2).run Tryz.prog W = .ok (.agg (A3 32 p.1.ac.bal).toArray) W:=by
 have h:∀ C:List Value,(Instr.field 35 (.agg C.toArray) 2).run Tryz.prog W = .ok (.agg (C.toArray.extract 21 (21+32))) W:=fun C=>by kernel_rfl
 rw [h]
 have e:(I8 p).toArray.extract 21 (21+32)=(A3 32 p.1.ac.bal).toArray:=by
  rw [List.extract_toArray,List.extract_eq_take_drop]
  have hs:=X9 (l:=Q8 p.1.ac p.2.1 p.2.2) (i:=2) rfl
  have h1:(B8 ((Q8 p.1.ac p.2.1 p.2.2).take 2)).length=21:=by simp [Q8,G7,N9]
  unfold I8
  rw [hs,← h1,List.drop_left,h1,show 21+32 - 21=(A3 32 p.1.ac.bal).length by simp,List.take_left]
 rw [e]
theorem B1t (p:I7 × Value × Value) (W:World):(Instr.field 35 (.agg (I8 p).toArray) 3).run Tryz.prog W = .ok p.2.1 W:=by
 have h:∀ C:List Value,(Instr.field 35 (.agg C.toArray) 3).run Tryz.prog W=((match C.toArray[53]? with | some v=>pure v | none=>stuck "part: no such cell"):Sem Value).run Tryz.prog W:=fun C=>by kernel_rfl
 rw [h]
 have e:(I8 p).toArray[53]? = some p.2.1:=by
  rw [List.getElem?_toArray]
  have hs:=X9 (l:=Q8 p.1.ac p.2.1 p.2.2) (i:=3) rfl
  have h1:(B8 ((Q8 p.1.ac p.2.1 p.2.2).take 3)).length=53:=by simp [Q8,G7,N9]
  unfold I8
  rw [hs,List.getElem?_append_right (by omega),h1];rfl
 rw [e];rfl
theorem A3H {w:World} {own:Go.Mun.Own} {S:St} {n a:Nat} {p:I7 × Value × Value} (h:B8I w own S n a p):p.1.ac.bal=(S a).bal:=by rw [← h.acc];rfl
theorem B1C (n m:Nat):decide (T5 n m < 0)=decide (n < m):=by
 unfold T5
 by_cases h:n < m
 ·rw [if_pos h];simp [h]
 ·rw [if_neg h];split <;> simp [h]
theorem B4Z (W:World) (C:List Value) (h:Q3 32 C=true):Below W.heap.size W ((W.alloc (.cells (J4 32).toArray 25)).setCells W.heap.size 0 C)∧((W.alloc (.cells (J4 32).toArray 25)).setCells W.heap.size 0 C).row? W.heap.size 0 32=some C:=by
 have hf:(W.alloc (.cells (J4 32).toArray 25)).free? W.heap.size 0 32=true:=World.free?_alloc_at _ _ rfl (by simp)
 exact ⟨((Below.refl _ _).alloc (Nat.le_refl _) _).setCells (Nat.le_refl _) _ _,B7 C hf h⟩
structure MvR (w:World) (a b v:Nat) (W:World):Prop where
 t5:W.row? w.heap.size 0 20=some (A3 20 a)
 t6:W.row? (w.heap.size+1) 0 20=some (A3 20 b)
 t7:W.row? (w.heap.size+1+1) 0 32=some (A3 32 v)
theorem MvR.next {w W W':World} {a b v:Nat} (h:MvR w a b v W) (hb:Below W.heap.size W W'):MvR w a b v W':=
 ⟨((C7 hb).1 _ _ _ (World.row?_lt h.t5)).trans h.t5,((C7 hb).1 _ _ _ (World.row?_lt h.t6)).trans h.t6,((C7 hb).1 _ _ _ (World.row?_lt h.t7)).trans h.t7⟩
theorem MvR.start (w:World) (a b v:Nat):MvR w a b v (((w.alloc (.cells (A3 20 a).toArray 23)).alloc (.cells (A3 20 b).toArray 23)).alloc (.cells (A3 32 v).toArray 25)):=by
 refine ⟨?_,?_,?_⟩
 ·rw [World.row?_alloc_lt _ (by simp;omega),World.row?_alloc_lt _ (by simp)];exact World.row?_alloc_at _ _ _ rfl (by simp)
 ·rw [World.row?_alloc_lt _ (by simp)];exact World.row?_alloc_at _ _ _ (by simp) (by simp)
 ·exact World.row?_alloc_at _ _ _ (by simp) (by simp)
theorem B54 {x y v:Nat} (hy:y < wW) (hv:v < wW):(wW≤y+v→T5 ((y+v) % wW) y = -1)∧(¬ wW≤y+v→¬ T5 ((y+v) % wW) y < 0):=by
 constructor
 ·intro h
  have e:(y+v) % wW=y+v - wW:=by rw [Nat.mod_eq_sub_mod h,Nat.mod_eq_of_lt (by omega)]
  rw [e];exact A4R (by omega)
 ·intro h
  rw [Nat.mod_eq_of_lt (by omega)]
  unfold T5;rw [if_neg (by omega)];split <;> omega
def B9Y (w:World) (own:Go.Mun.Own) (sb:Nat) (S:St) (M:List (Nat × St)) (n:Nat) (r:Option St) (e:Ending) (w':World):Prop:=
 match r with
 | none=>e = .returned (.bool false)∧∃ own',RState w' own' sb S M n∧K8 w w' own own'
 | some S1=>e = .returned (.bool true)∧∃ own',RState w' own' sb S1 M n∧K8 w w' own own'
theorem B7M {w:World} {own:Go.Mun.Own} {sb a b v n:Nat} {S:St} {M:List (Nat × St)} (h:RState w own sb S M n) (ha:a < wA) (hbw:b < wA) (hv:v < wW) (hn:n≤999990) :
  Calls Tryz.prog 69 #[.pointer (some ⟨sb,0,none⟩),.agg (A3 20 a).toArray,.agg (A3 20 b).toArray,.agg (A3 32 v).toArray] w (B9Y w own sb S M (n+4) (S.move a b v)):=by
 obtain ⟨w0,e0⟩:∃ w0,w0=((w.alloc (.cells (A3 20 a).toArray 23)).alloc (.cells (A3 20 b).toArray 23)).alloc (.cells (A3 32 v).toArray 25):=⟨_,rfl⟩
 have hb0:Below w.heap.size w w0:=by rw [e0];exact (((Below.refl _ _).alloc (Nat.le_refl _) _).alloc (by simp) _).alloc (by simp;omega) _
 have hm0:MvR w a b v w0:=by rw [e0];exact MvR.start w a b v
 have q5:=hm0.t5
 have hst:=h.below hb0
 have HST:=hid hst
 have HM0:=hid hm0
 have HE:=hid e0
 have HB0:=hid hb0
 have HA:=hid ha
 have HBW:=hid hbw
 have HV:=hid hv
 have HN:=hid hn
 have h0:=hid h
 have hla:=C4 20 a
 have hlb:=C4 20 b
 have hlv:=C4 32 v
 rw [e0] at q5
 clear e0 hb0 hm0 hst h hn
 go_enter Tryz.func69,Tryz.ntmps69
 go_wp2_with fail
 rw [← HE.out]
 refine (A8Q HST.out ha (by have:=HN.out;omega)).mono ?_
 rintro e w1 ⟨p,rfl,hb1,hg1⟩
 obtain ⟨x,hx⟩:∃ x,x=(S a).bal:=⟨_,rfl⟩
 have hfp:∀ W,(Instr.field 35 (.agg (I8 p).toArray) 2).run Tryz.prog W = .ok (.agg (A3 32 x).toArray) W:=fun W=>by rw [A7Y,A3H hg1,hx]
 have hxW:x < wW:=by rw [hx,← A3H hg1];exact hg1.ok.bal
 obtain ⟨C,hC⟩:∃ C,C=I8 p:=⟨_,rfl⟩
 rw [← hC] at hfp ⊢
 have hlx:=C4 32 x
 have hokx:=D2 32 x
 obtain ⟨g2,r2⟩:=B4Z w1 (A3 32 x) hokx
 obtain ⟨w2,e2⟩:∃ w2,w2=(w1.alloc (.cells (J4 32).toArray 25)).setCells w1.heap.size 0 (A3 32 x):=⟨_,rfl⟩
 rw [← e2] at g2 r2
 obtain ⟨B1,hB1⟩:∃ B1,B1=w1.heap.size:=⟨_,rfl⟩
 have hm2:MvR w a b v w2:=(HM0.out.next hb1).next g2
 have HB2:Hid (Below w0.heap.size w0 w2):=hb1.trans (g2.mono hb1.size)
 have HST2:=hid ((HST.out.below hb1).below g2)
 have q6:=hm2.t6
 rw [e2] at q6
 have HM2:=hid hm2
 have HE2:=hid e2
 have HX:=hid hx
 have R1:Hid (w2.row? B1 0 32=some (A3 32 x)):=by rw [hB1];exact r2
 have HB1:=hid hB1
 have HOB1:Hid (own B1=none):=X8 h0.out (by rw [hB1];have:=HB0.out.size;have:=hb1.size;omega)
 clear hb1 hg1 hx hC g2 r2 e2 hm2 hB1 q5
 go_wp2_with fail
 rw [← HE2.out]
 rw [← HB1.out]
 refine (A8Q HST2.out hbw (by have:=HN.out;omega)).mono ?_
 rintro e w3 ⟨p2,rfl,hb3,hg3⟩
 obtain ⟨y,hy⟩:∃ y,y=(S b).bal:=⟨_,rfl⟩
 have hfp2:∀ W,(Instr.field 35 (.agg (I8 p2).toArray) 2).run Tryz.prog W = .ok (.agg (A3 32 y).toArray) W:=fun W=>by rw [A7Y,A3H hg3,hy]
 have hyW:y < wW:=by rw [hy,← A3H hg3];exact hg3.ok.bal
 obtain ⟨D,hD⟩:∃ D,D=I8 p2:=⟨_,rfl⟩
 rw [← hD] at hfp2 ⊢
 have hly:=C4 32 y
 have hoky:=D2 32 y
 obtain ⟨g4,r4⟩:=B4Z w3 (A3 32 y) hoky
 obtain ⟨w4,e4⟩:∃ w4,w4=(w3.alloc (.cells (J4 32).toArray 25)).setCells w3.heap.size 0 (A3 32 y):=⟨_,rfl⟩
 rw [← e4] at g4 r4
 obtain ⟨B2,hB2⟩:∃ B2,B2=w3.heap.size:=⟨_,rfl⟩
 have hm4:MvR w a b v w4:=(HM2.out.next hb3).next g4
 have hb24:Below w2.heap.size w2 w4:=hb3.trans (g4.mono hb3.size)
 have HB4:Hid (Below w0.heap.size w0 w4):=HB2.out.trans (hb24.mono HB2.out.size)
 have HST4:=hid (HST2.out.below hb24)
 have s1:w4.row? B1 0 32=some (A3 32 x):=((C7 hb24).1 _ _ _ (World.row?_lt R1.out)).trans R1.out
 have s7:=hm4.t7
 have HM4:=hid hm4
 have HE4:=hid e4
 have HY:=hid hy
 have R1b:=hid s1
 have R2:Hid (w4.row? B2 0 32=some (A3 32 y)):=by rw [hB2];exact r4
 have HB2b:=hid hB2
 rw [e4] at s1 s7
 clear hb3 hg3 hy hD g4 r4 e4 hm4 hb24 hB2 hfp q6
 go_wp2_with fail
 rw [← HE4.out]
 rw [← HB2b.out]
 refine (A7B x v hxW hv _).mono ?_
 rintro e w5 ⟨rfl,hb5⟩
 have hm5:=HM4.out.next hb5
 have HST5:=hid (HST4.out.below hb5)
 have HB5:Hid (Below w0.heap.size w0 w5):=HB4.out.trans (hb5.mono HB4.out.size)
 have R15:Hid (w5.row? B1 0 32=some (A3 32 x)):=((C7 hb5).1 _ _ _ (World.row?_lt R1b.out)).trans R1b.out
 have R25:Hid (w5.row? B2 0 32=some (A3 32 y)):=((C7 hb5).1 _ _ _ (World.row?_lt R2.out)).trans R2.out
 have u5:=hm5.t5
 have u6:=hm5.t6
 have u7:=hm5.t7
 have u2:=R25.out
 have HM5:=hid hm5
 clear hb5 hm5 s1 s7 hfp2
 by_cases hlt:x < v
 ·have hd:decide (T5 x v < 0)=true:=by rw [B1C];exact decide_eq_true hlt
  have hcI:T5 x v = -1:=A4R hlt
  have HR:Hid (S.move a b v=none):=by show _=_;unfold St.move;rw [if_pos (by rw [← HX.out];exact hlt)]
  rw [hcI]
  clear hlt hd hcI
  go_wp2
  go_ret
  rw [HR.out]
  exact ⟨rfl,own,HST5.out.mono (by omega),K8.below own (HB0.out.trans (HB5.out.mono HB0.out.size))⟩
 have hge:¬ T5 x v < 0:=by have:=B1C x v;intro h;rw [decide_eq_true h] at this;exact hlt (of_decide_eq_true this.symm)
 have hd:decide (T5 x v < 0)=false:=decide_eq_false hge
 generalize hcv:T5 x v=cv at *
 have heq:=eqA (a:=a) (b:=b) HA.out HBW.out w5
 have HLT:=hid hlt
 clear hlt hcv
 by_cases hab:a=b
 ·have hda:decide (a=b)=true:=decide_eq_true hab
  rw [hda] at heq
  have HR:Hid (S.move a b v=some S):=by show _=_;unfold St.move;rw [if_neg (by rw [← HX.out];exact HLT.out),if_pos hab]
  clear hab hda
  go_wp2
  go_ret
  rw [HR.out]
  exact ⟨rfl,own,HST5.out.mono (by omega),K8.below own (HB0.out.trans (HB5.out.mono HB0.out.size))⟩
 have hda:decide (a=b)=false:=decide_eq_false hab
 rw [hda] at heq
 have HAB:=hid hab
 clear hab hda
 go_wp2_with fail
 obtain ⟨z,hz⟩:∃ z,z=(y+v) % wW:=⟨_,rfl⟩
 have hzW:z < wW:=by rw [hz];exact Nat.mod_lt _ (by decide)
 have hzb:A3 32 (y+v)=A3 32 z:=A5T 32 _ _ (by rw [hz,A2Z,Nat.mod_mod])
 have hadd:=fun W=>B5N y v hyW hv W
 rw [hzb] at hadd
 refine (hadd _).mono ?_
 rintro e w6 ⟨rfl,hb6⟩
 have hlz:=C4 32 z
 have hokz:=D2 32 z
 obtain ⟨g7,r7⟩:=B4Z w6 (A3 32 z) hokz
 obtain ⟨w7,e7⟩:∃ w7,w7=(w6.alloc (.cells (J4 32).toArray 25)).setCells w6.heap.size 0 (A3 32 z):=⟨_,rfl⟩
 rw [← e7] at g7 r7
 obtain ⟨B3,hB3⟩:∃ B3,B3=w6.heap.size:=⟨_,rfl⟩
 have hb57:Below w5.heap.size w5 w7:=hb6.trans (g7.mono hb6.size)
 have hm7:=HM5.out.next hb57
 have HB7:Hid (Below w0.heap.size w0 w7):=HB5.out.trans (hb57.mono HB5.out.size)
 have HST7:=hid (HST5.out.below hb57)
 have k1:w7.row? B1 0 32=some (A3 32 x):=((C7 hb57).1 _ _ _ (World.row?_lt R15.out)).trans R15.out
 have k2:w7.row? B2 0 32=some (A3 32 y):=((C7 hb57).1 _ _ _ (World.row?_lt R25.out)).trans R25.out
 have R17:=hid k1
 have R37:Hid (w7.row? B3 0 32=some (A3 32 z)):=by rw [hB3];exact r7
 have HM7:=hid hm7
 have HE7:=hid e7
 have HB3b:=hid hB3
 have HB6:Hid (w5.heap.size≤B3):=by show _≤_;rw [hB3];exact hb6.size
 have HZ:=hid hz
 have k3:=r7
 rw [e7] at k2 k3
 clear hb6 hzb hadd g7 r7 e7 hb57 hm7 hB3 hz u5 u6 u7 u2 k1 heq hd hge
 go_wp2_with fail
 rw [← HE7.out]
 rw [← HB3b.out]
 refine (A7B z y hzW hyW _).mono ?_
 rintro e w8 ⟨rfl,hb8⟩
 have hm8:=HM7.out.next hb8
 have HST8:=hid (HST7.out.below hb8.drew)
 have HST8b:=hid (HST7.out.below hb8)
 have HB8:Hid (Below w0.heap.size w0 w8):=HB7.out.trans (hb8.mono HB7.out.size)
 have R18:Hid (w8.row? B1 0 32=some (A3 32 x)):=((C7 hb8).1 _ _ _ (World.row?_lt R17.out)).trans R17.out
 have R38:Hid (w8.row? B3 0 32=some (A3 32 z)):=((C7 hb8).1 _ _ _ (World.row?_lt R37.out)).trans R37.out
 have HM8:=hid hm8
 clear hb8 hm8 k2 k3
 have hwrap:=B54 (x:=x) hyW hv
 rw [← HZ.out] at hwrap
 by_cases how:wW≤y+v
 ·have hcI:=hwrap.1 how
  have HR:Hid (S.move a b v=none):=by
   show _=_;unfold St.move
   rw [if_neg (by rw [← HX.out];exact HLT.out),if_neg HAB.out,if_pos (by rw [← HY.out];exact how)]
  rw [hcI]
  clear how hcI hwrap
  go_wp2
  go_ret
  rw [HR.out]
  exact ⟨rfl,own,HST8b.out.mono (by omega),K8.below own (HB0.out.trans (HB8.out.mono HB0.out.size))⟩
 have hge2:=hwrap.2 how
 have hd2:decide (T5 z y < 0)=false:=decide_eq_false hge2
 generalize T5 z y=cz at *
 have HZ2:Hid (z=y+v):=by show _=_;rw [HZ.out,Nat.mod_eq_of_lt (by omega)]
 have HR:Hid (S.move a b v=some (Z9 (Z9 S a { S a with bal:=x - v }) b { Z9 S a { S a with bal:=x - v } b with bal:=z })):=by
  show _=_;unfold St.move
  rw [if_neg (by rw [← HX.out];exact HLT.out),if_neg HAB.out,if_neg (by rw [← HY.out];exact how),← HX.out,← HY.out,HZ2.out]
  rfl
 have hxv:v≤x:=Nat.le_of_not_lt HLT.out
 have HSB:Hid (∀ W,Calls Tryz.prog 174 #[.agg (A3 32 x).toArray,.agg (A3 32 v).toArray] W fun e w'=>e = .returned (.agg (A3 32 (x - v)).toArray)∧Below W.heap.size W w'):=by
  intro W
  have h:=B5K x v hxW hv W
  have e:A3 32 (x+wW - v)=A3 32 (x - v):=by
   refine A5T 32 _ _ ?_
   rw [show x+wW - v=(x - v)+wW by omega,A2Z,Nat.add_mod_right]
  rw [e] at h;exact h
 have hxvW:x - v < wW:=by omega
 generalize x - v=xv at *
 have hlxv:=C4 32 xv
 have ho1:own w.heap.size=none:=X8 h0.out (Nat.le_refl _)
 have ho2:own (w.heap.size+1)=none:=X8 h0.out (Nat.le_succ _)
 have HOB3:Hid (own B3=none):=X8 h0.out (by have:=HB0.out.size;have:=HB5.out.size;have h2:=HB6.out;omega)
 have HO:=hid (And.intro ho1 ho2)
 obtain ⟨T,hT⟩:∃ T:World→Prop,T=fun W=>MvR w a b v W∧W.row? B1 0 32=some (A3 32 x)∧W.row? B3 0 32=some (A3 32 z):=⟨_,rfl⟩
 have HT:=hid hT
 have t0:T w8.drew:=by rw [hT];exact ⟨⟨HM8.out.t5,HM8.out.t6,HM8.out.t7⟩,R18.out,R38.out⟩
 clear hT how hwrap hge2 ho1 ho2 hxv
 go_wp2_with fail
 refine A7 T [] (.pure 0 (.take 1 (.take 2 (.take 3 (.alt 4 (.alt 5 .fin .stop) .stop))))) (by kernel_rfl) (by kernel_rfl) ?_
 iterate 4
  first
  |refine A2 ?_ rfl (by rfl) (fun w' hs=>?_) (fun _ _ _ h=>h) ?_
   rotate_left
   ·clear hs
    go_simp
    try rfl
   simp only [Act.put,D7,D6,D5]
  |refine A9 ?_ t0 rfl (by rfl) (fun w' hs=>?_) (fun _ _ _ h=>h) ?_
   rotate_left
   ·rw [HT.out] at hs
    obtain ⟨⟨g5,g6,g7⟩,g1,g3⟩:=hs
    go_simp
    try rfl
   simp only [Act.put,D7,D6,D5]
 refine A5 rfl (fun K hK=>?_)
 go_simp
 refine (HSB.out _).mono ?_
 rintro e w9 ⟨rfl,hb9⟩
 have t9:T w9:=by rw [HT.out] at t0 ⊢;exact ⟨t0.1.next hb9,((C7 hb9).1 _ _ _ (World.row?_lt t0.2.1)).trans t0.2.1,((C7 hb9).1 _ _ _ (World.row?_lt t0.2.2)).trans t0.2.2⟩
 have HST9:=hid (HST8.out.below hb9)
 have HB9:Hid (Below w0.heap.size w0 w9):=HB8.out.drew.trans (hb9.mono HB8.out.drew.size)
 clear hb9
 refine hK.out _ _ t9 ?_
 clear hK K
 refine A5 rfl (fun K hK=>?_)
 go_simp
 refine (A14 HST9.out HA.out hxvW (by have:=HN.out;omega)).mono ?_
 rintro e w10 ⟨rfl,own2,st2,c2⟩
 have t10:T w10:=by
  rw [HT.out] at t9 ⊢
  have hk:=fun (i:Nat) (hi:own i=none) (h2:hot own i)=>h2.1 hi
  exact ⟨⟨(c2.only.row? (World.row?_lt t9.1.t5) (hk _ HO.out.1)).trans t9.1.t5,(c2.only.row? (World.row?_lt t9.1.t6) (hk _ HO.out.2)).trans t9.1.t6,(c2.only.row? (World.row?_lt t9.1.t7) (hk _ (X8 h0.out (by omega)))).trans t9.1.t7⟩,(c2.only.row? (World.row?_lt t9.2.1) (hk _ HOB1.out)).trans t9.2.1,(c2.only.row? (World.row?_lt t9.2.2) (hk _ HOB3.out)).trans t9.2.2⟩
 have HC2:=hid ((K8.below own (HB0.out.trans (HB9.out.mono HB0.out.size))).trans c2)
 have HS2:=hid st2
 clear st2 c2
 refine hK.out _ _ t10 ?_
 clear hK K
 refine C2 ?_
 rw [HT.out] at t10
 have v6:=t10.1.t6
 have v3:=t10.2.2
 have HT10:=hid t10
 clear t0 t9 t10
 go_wp2_with fail
 refine (A14 HS2.out HBW.out hzW (by have:=HN.out;omega)).mono ?_
 rintro e w11 ⟨rfl,own3,st3,c3⟩
 have HS3:=hid st3
 have HC3:=hid c3
 clear st3 c3 v6 v3
 go_wp2
 go_ret
 rw [HR.out]
 exact ⟨rfl,own3,HS3.out,HC2.out.trans HC3.out⟩
end Go.Proofs.YtfflppedbopdpaaGreat
namespace Go.Proofs.YtfflppedbopdpaaGreat
open Go.RowKit Go.Mun
structure NwS (w wr:World) (own:Go.Mun.Own) (sb:Nat) (S:St) (n:Nat):Prop where
 st:RState wr own sb S [] n
 ge:∀ b,own b≠none→w.heap.size≤b
 below:Below w.heap.size w wr
theorem NwS.step {w wr w':World} {own own':Go.Mun.Own} {sb n n':Nat} {S S':St} (h:NwS w wr own sb S n) (st:RState w' own' sb S' [] n') (c:K8 wr w' own own'):NwS w w' own' sb S' n':=
 ⟨st,fun b hb=>by
  by_cases hlt:b < wr.heap.size
  ·rw [c.ext b hlt] at hb;exact h.ge b hb
  ·have:=h.below.size;omega,h.below.trans (c.only.below h.below.size fun i hi=>h.ge i hi.1)⟩
theorem NwS.next {w wr w':World} {own:Go.Mun.Own} {sb n:Nat} {S:St} (h:NwS w wr own sb S n) (hb:Below wr.heap.size wr w'):NwS w w' own sb S n:=h.step (h.st.below hb) (K8.below own hb)
theorem B2x (w:World):∃ own,NwS w (w.alloc (.cells #[.slice none 0 0,.slice none 0 0,.int .i64 0] 125)) own w.heap.size (fun _=>Acc.none) 0:=by
 refine ⟨fun b=>if b=w.heap.size then some .st else none,⟨⟨.slice none 0 0,.slice none 0 0,[],[],0,{
   lab:=by simp
   row:=World.row?_alloc_at [.slice none 0 0,.slice none 0 0,.int .i64 0] 125 (0,0) rfl rfl
   free:=World.free?_alloc_at [.slice none 0 0,.slice none 0 0,.int .i64 0] 125 rfl (by simp)
   arr:=⟨World.ownsRow_nil _ _ _ _,fun g hg=>by simp [Value.ownBlock] at hg,fun p hp=>by cases hp⟩
   up:=List.Pairwise.nil
   marks:=World.ownsRow_nil _ _ _ _
   mlab:=fun g hg=>by simp [Value.ownBlock] at hg
   each:=fun m hm=>by cases hm
   apart:=List.pairwise_singleton _ _
   low:=fun b hb=>by
    by_cases e:b=w.heap.size
    ·rw [e];simp
    ·simp [e] at hb
   count:=⟨Nat.zero_le _,fun m hm=>by cases hm⟩ },rfl,rfl,⟨Nat.zero_le _,fun p hp=>(by cases hp)⟩,fun m hm=>(by cases hm),Nat.zero_le _⟩,fun b hb=>?_,(Below.refl _ _).alloc (Nat.le_refl _) _⟩⟩
 by_cases e:b=w.heap.size
 ·omega
 ·simp [e] at hb
theorem B5A (S:St) (a:Nat) (nn bl:Nat) (cd:J1) :
  (let S1:=Z9 S a Acc.none;let S2:=Z9 S1 a { S1 a with nonce:=nn };let S3:=Z9 S2 a { S2 a with bal:=bl };Z9 S3 a { S3 a with code:=cd })=Z9 S a ⟨nn,bl,cd,fun _=>0⟩:=by
 funext b
 by_cases e:b=a
 ·subst e;simp [Z9,Acc.none]
 ·simp [Z9,e]
theorem B5F {w wr:World} {own:Go.Mun.Own} {v:Value} {l:J1} (h:J3 w (fun _=>False) v l) (hb:Below w.heap.size w wr) (hg:∀ b,own b≠none→w.heap.size≤b):J3 wr (fun b=>own b≠none) v l:=
 h.only (R:=fun _=>False) (A0.of_below_size hb) (fun _ h=>h.elim) fun b hlt hx=>by have:=hg b hx;omega
theorem B9m (b o c:Nat) (l:List Ac) (hl:l.length≤100) (w:World) (h:∀ i (hi:i < l.length),A6t w b (o+i*55) l[i]) (hnn:∀ x∈l,0≤x.nonce) :
  Calls Tryz.prog 37 #[.slice (some ⟨b,o,none⟩) l.length c] w fun e w' => ∃ sb own,e = .returned (.pointer (some ⟨sb,0,none⟩))∧NwS w w' own sb (A1m l) (8*l.length):=by
 obtain ⟨m,hm⟩:∃ m,m=l.length:=⟨_,rfl⟩
 have hm1:m≤100:=by omega
 have H0:=hid (B2x w)
 have H:=hid h
 have HNN:=hid hnn
 have HM:=hid hm
 rw [← hm]
 clear h hnn hl hm
 go_enter Tryz.func37,Tryz.ntmps37
 go_wp2_with fail
 obtain ⟨sb,hsb⟩:∃ sb,sb=w.heap.size:=⟨_,rfl⟩
 rw [← hsb]
 rw [← hsb] at H0
 have HSB:=hid hsb
 clear hsb
 go_loopw [4] (fun ix wr => ∃ (k:Nat),k≤m∧ix = .int .i64 (k:Int)∧Hid (∃ own,NwS w wr own sb (A1m (l.take k)) (8*k))) (fun ix _=>m - (intOf ix).toNat)
 case atStart=>exact ⟨0,by omega,rfl,by obtain ⟨own,h⟩:=H0.out;exact ⟨own,h⟩⟩
 case round =>
  obtain ⟨k,hk,rfl,HR⟩:=hrel
  obtain ⟨own,hown⟩:=HR.out
  have HO:=hid hown
  clear hown HR
  by_cases hkm:k < m
  ·have hI:(k:Int) < m:=by omega
   have hkl:k < l.length:=by have:=HM.out;omega
   obtain ⟨X,hX⟩:∃ X,X=l[k]'hkl:=⟨_,rfl⟩
   have hat:=H.out k hkl
   rw [← hX] at hat
   obtain ⟨⟨cv,hr,hro⟩,hadr,hbal,hnon⟩:=hat
   have hn0:0≤X.nonce:=HNN.out X (by rw [hX];exact List.getElem_mem hkl)
   have HNS:Hid (A1m (l.take (k+1))=Z9 (A1m (l.take k)) X.addr ⟨X.nonce.toNat,X.bal,X.code,fun _=>0⟩):=by
    show _=_
    rw [A6T l k hkl,← hX]
    unfold A5W
    rw [show max 0 X.nonce=X.nonce by omega]
   obtain ⟨nn,hnn⟩:∃ nn:Nat,X.nonce=nn:=⟨X.nonce.toNat,by omega⟩
   have hnn2:nn≤9223372036854775807:=by omega
   have hnt:X.nonce.toNat=nn:=by omega
   rw [hnt] at HNS
   obtain ⟨C,hC⟩:∃ C,C=B8 (Q8 X cv (.slice none 0 0)):=⟨_,rfl⟩
   have HAT:Hid (∀ W,Below w.heap.size w W→W.row? b (o+k*55) 20=some (A3 20 X.addr)∧W.cell? ⟨b,o+k*55+20,none⟩=some (.int .i64 (nn:Int))∧W.row? b (o+k*55+21) 32=some (A3 32 X.bal)∧W.cell? ⟨b,o+k*55+53,none⟩=some cv∧W.cell? ⟨b,o+k*55+54,none⟩=some (.slice none 0 0)):=by
    intro W hW
    have hrW:=((C7 hW).1 _ _ _ (World.row?_lt hr)).trans hr
    exact ⟨I5 hrW (i:=0) rfl (by simp [Q8,A4]) (by simp),by rw [← hnn];exact C8 hrW (i:=1) rfl (by simp [Q8,A8,A4]),I5 hrW (i:=2) rfl (by simp [Q8,A8,A4]) (by simp),C8 hrW (i:=3) rfl (by simp [Q8,A8,A4]),C8 hrW (i:=4) rfl (by simp [Q8,A8,A4])⟩
   have HRO:=hid hro
   have HCO:Hid (cv.oneCell'=true):=J3.one hro
   obtain ⟨A,hA⟩:∃ A,A=X.addr:=⟨_,rfl⟩
   obtain ⟨BL,hBL⟩:∃ BL,BL=X.bal:=⟨_,rfl⟩
   obtain ⟨CD,hCD⟩:∃ CD,CD=X.code:=⟨_,rfl⟩
   rw [← hA] at hadr HAT HNS
   rw [← hBL] at hbal HAT HNS
   rw [← hCD] at HRO HNS
   have hlA:=C4 20 A
   have hlB:=C4 32 BL
   obtain ⟨p0,p1,p2,p3,p4⟩:=HAT.out wr HO.out.below
   obtain ⟨T,hT⟩:∃ T:World→Prop,T=fun W=>W.row? b (o+k*55) 20=some (A3 20 A)∧W.cell? ⟨b,o+k*55+20,none⟩=some (.int .i64 (nn:Int))∧W.row? b (o+k*55+21) 32=some (A3 32 BL)∧W.cell? ⟨b,o+k*55+53,none⟩=some cv∧W.cell? ⟨b,o+k*55+54,none⟩=some (.slice none 0 0):=⟨_,rfl⟩
   have HT:=hid hT
   have HAT2:Hid (∀ W,Below w.heap.size w W→T W):=by rw [hT];exact HAT.out
   clear hr hro hn0 hnn hnt hC hnon hX hA hBL hCD hT p1 p2 p3 p4 HAT hkm
   go_wp2_with fail
   refine (B7O HO.out.st hadr (by omega)).mono ?_
   rintro e w1 ⟨rfl,own1,st1,c1⟩
   have HO1:=hid (HO.out.step st1 c1)
   have t1:=HAT2.out _ (HO1.out.below.drew)
   clear st1 c1 p0
   go_wp2_with fail
   refine A7 T [] (.pure 0 (.pure 1 (.pure 2 (.pure 3 (.pure 4 (.take 5 (.pure 6 (.pure 7 (.pure 8 (.pure 9 (.take 10 (.alt 11 .fin .stop)))))))))))) (by kernel_rfl) (by kernel_rfl) ?_
   iterate 11
    first
    |refine A2 ?_ rfl (by rfl) (fun w' hs=>?_) (fun _ _ _ h=>h) ?_
     rotate_left
     ·clear hs
      go_simp
      try rfl
     simp only [Act.put,D7,D6,D5]
    |refine A9 ?_ t1 rfl (by rfl) (fun w' hs=>?_) (fun _ _ _ h=>h) ?_
     rotate_left
     ·rw [HT.out] at hs
      obtain ⟨p0,p1,p2,p3,p4⟩:=hs
      go_simp
      try rfl
     simp only [Act.put,D7,D6,D5]
   refine A5 rfl (fun K hK=>?_)
   go_simp
   refine (A95 nn (HO1.out.next (Below.refl _ _).drew).st hadr hnn2 (by omega)).mono ?_
   rintro e w2 ⟨rfl,own2,st2,c2⟩
   have HO2:=hid ((HO1.out.next (Below.refl _ _).drew).step st2 c2)
   have t2:=HAT2.out _ HO2.out.below
   clear st2 c2
   refine hK.out _ _ t2 ?_
   clear hK K
   refine C2 ?_
   have t2d:=HAT2.out _ (HO2.out.below.drew)
   clear t1 t2
   go_wp2_with fail
   refine A7 T [] (.pure 0 (.pure 1 (.pure 2 (.pure 3 (.pure 4 (.take 5 (.pure 6 (.pure 7 (.pure 8 (.pure 9 (.take 10 (.alt 11 .fin .stop)))))))))))) (by kernel_rfl) (by kernel_rfl) ?_
   iterate 11
    first
    |refine A2 ?_ rfl (by rfl) (fun w' hs=>?_) (fun _ _ _ h=>h) ?_
     rotate_left
     ·clear hs
      go_simp
      try rfl
     simp only [Act.put,D7,D6,D5]
    |refine A9 ?_ t2d rfl (by rfl) (fun w' hs=>?_) (fun _ _ _ h=>h) ?_
     rotate_left
     ·rw [HT.out] at hs
      obtain ⟨p0,p1,p2,p3,p4⟩:=hs
      go_simp
      try rfl
     simp only [Act.put,D7,D6,D5]
   refine A5 rfl (fun K hK=>?_)
   go_simp
   refine (A14 (HO2.out.next (Below.refl _ _).drew).st hadr hbal (by omega)).mono ?_
   rintro e w3 ⟨rfl,own3,st3,c3⟩
   have HO3:=hid ((HO2.out.next (Below.refl _ _).drew).step st3 c3)
   have t3:=HAT2.out _ HO3.out.below
   clear st3 c3
   refine hK.out _ _ t3 ?_
   clear hK K
   refine C2 ?_
   have t3d:=HAT2.out _ (HO3.out.below.drew)
   clear t2d t3
   go_wp2_with fail
   refine A7 T [] (.pure 0 (.pure 1 (.pure 2 (.pure 3 (.pure 4 (.take 5 (.pure 6 (.pure 7 (.pure 8 (.pure 9 (.take 10 (.alt 11 .fin .stop)))))))))))) (by kernel_rfl) (by kernel_rfl) ?_
   iterate 11
    first
    |refine A2 ?_ rfl (by rfl) (fun w' hs=>?_) (fun _ _ _ h=>h) ?_
     rotate_left
     ·clear hs
      go_simp
      try rfl
     simp only [Act.put,D7,D6,D5]
    |refine A9 ?_ t3d rfl (by rfl) (fun w' hs=>?_) (fun _ _ _ h=>h) ?_
     rotate_left
     ·rw [HT.out] at hs
      obtain ⟨p0,p1,p2,p3,p4⟩:=hs
      go_simp
      try rfl
     simp only [Act.put,D7,D6,D5]
   refine A5 rfl (fun K hK=>?_)
   go_simp
   refine (B2r (HO3.out.next (Below.refl _ _).drew).st hadr (B5F HRO.out HO3.out.below.drew HO3.out.ge) (by omega)).mono ?_
   rintro e w4 ⟨rfl,own4,st4,c4⟩
   have HO4:=hid ((HO3.out.next (Below.refl _ _).drew).step st4 c4)
   have t4:=HAT2.out _ HO4.out.below
   clear st4 c4
   refine hK.out _ _ t4 ?_
   clear hK K
   refine C2 ?_
   have HN:Hid (∃ own,NwS w w4 own sb (A1m (l.take (k+1))) (8*(k+1))):=by
    rw [HNS.out,← B5A]
    exact ⟨own4,by rw [show 8*(k+1)=8*k+2+2+2+2 by omega];exact HO4.out⟩
   rw [HT.out] at t4
   have p4:=t4.2.2.2.2
   clear t3d t4
   go_wp2_with fail
   go_loopw [5] (fun iy wz=>iy = .int .i64 0∧wz=w4) (fun _ _=>0)
   case atStart=>exact ⟨rfl,rfl⟩
   case round =>
    obtain ⟨rfl,rfl⟩:=hrel
    go_wp2
    go_roundw
    case rel=>exact ⟨k+1,by omega,by go_num,HN⟩
    case measure=>simp [intOf];omega
  ·obtain rfl:k=m:=by omega
   have hI:¬ (k:Int) < k:=by omega
   clear hkm
   go_wp2
   go_ret
   have h:=HO.out
   rw [List.take_of_length_le (by have:=HM.out;omega)] at h
   exact ⟨sb,rfl,own,h⟩
end Go.Proofs.YtfflppedbopdpaaGreat
namespace Go.Mun
open Go.RowKit
def str (l:List UInt8):ByteArray:=⟨l.toArray⟩
theorem A8p (l:List UInt8):(str l).size=l.length:=by simp [str,ByteArray.size]
theorem A1b (l m:List UInt8):str l++str m=str (l++m):=by apply ByteArray.ext;simp [str]
theorem A56 {P:Program} {w:World} {ops:Array Oper} {rest:List Oper} {o:Oper} {a:Act} {Q:Exit→Act→World→Prop} (hgd:o.guard=none) {t len e:Nat} {parts:Array (Nat × Operand)}
  (ho:o.op = .buildSlice t len parts) (cs:List Value) (hrun:∀ w,(Instr.buildSlice t len (parts.map fun p=>(p.1,a.eval p.2))).run P w = .ok (.slice (some ⟨w.heap.size,0,none⟩) len len) (w.alloc (.cells cs.toArray e)))
  (h:wpList P ops Q rest (a.put o.dst (.slice (some ⟨w.heap.size,0,none⟩) len len)) (w.alloc (.cells cs.toArray e))):wpList P ops Q (o :: rest) a w:=by
 refine wpList_plain hgd fun K hK=>?_
 unfold Oper.wp
 have e1:(execOp a.eval o).run P w = .ok (.value (.slice (some ⟨w.heap.size,0,none⟩) len len)) (w.alloc (.cells cs.toArray e)):=by
  unfold execOp
  rw [ho]
  simp only [Sem.run_bind,hrun]
  rfl
 simp [e1]
 exact hK _ _ h
theorem A4u {B:Nat} {w w':World} (hb:Below B w w') {b o n:Nat} (hlt:b < B) (h:w.free? b o n=true):w'.free? b o n=true:=by
 rw [World.free?_of_block (hb.block b hlt)];exact h
def dU (n:Nat):UInt8:=UInt8.ofNat (48+n)
def Y0 (n:Nat):List UInt8:=(if 9 < n then [dU (n / 10)] else [])++[dU (n % 10)]
structure Inf where
 op:Int
 name:List UInt8
 pops:Int
 pushes:Int
 gas:Int

def Inf.c (x:Inf):List Value:=[.int .u8 x.op,.string (str x.name),.int .i64 x.pops,.int .i64 x.pushes,.int .i64 x.gas]
def A32:Inf:=⟨0,[],0,0,0⟩
def L6 (l:List Inf):List Value:=l.flatMap Inf.c
theorem A1O (l:List Inf):(L6 l).length=5*l.length:=by
 induction l with
 | nil=>rfl
 | cons x l ih=>simp [L6,Inf.c] at ih ⊢;omega
theorem A89 (l:List Inf):Q3 (5*l.length) (L6 l)=true:=by
 refine A0j (A1O l) fun v hv=>?_
 unfold L6 at hv
 rw [List.mem_flatMap] at hv
 obtain ⟨x,_,hx⟩:=hv
 simp only [Inf.c,List.mem_cons,List.mem_nil_iff,or_false] at hx
 rcases hx with rfl | rfl | rfl | rfl | rfl <;> simp [Value.oneCell']
theorem A5y:∀ (l:List Inf) (i:Nat) (x:Inf),l[i]? = some x→((L6 l).drop (5*i)).take 5=x.c
 | y :: l,0,x,h=>by simp at h;subst h;rfl
 | y :: l,i+1,x,h=>by
  have:=A5y l i x (by simpa using h)
  rw [← this]
  show ((y.c++L6 l).drop (5*(i+1))).take 5=_
  rw [show 5*(i+1)=y.c.length+5*i by simp [Inf.c];omega,← List.drop_drop,List.drop_left]
theorem A61:∀ (l:List Inf) (i:Nat) (x:Inf),i < l.length→splice (L6 l) (5*i) x.c=L6 (l.set i x)
 | y :: l,0,x,_=>by
  show splice (y.c++L6 l) 0 x.c=x.c++L6 l
  unfold splice
  rw [List.take_zero,List.nil_append,Nat.zero_add,show x.c.length=y.c.length from rfl,List.drop_left]
 | y :: l,i+1,x,h=>by
  have ih:=A61 l i x (by simpa using h)
  show splice (y.c++L6 l) (5*(i+1)) x.c=y.c++L6 (l.set i x)
  rw [← ih]
  unfold splice
  rw [show 5*(i+1)=y.c.length+5*i by simp [Inf.c];omega,List.take_length_add_append,show y.c.length+5*i+x.c.length=y.c.length+(5*i+x.c.length) by omega,← List.drop_drop,List.drop_left]
  simp
def A0f:List Inf:=[
 ⟨0,[83,84,79,80],0,0,0⟩,
 ⟨1,[65,68,68],2,1,3⟩,
 ⟨2,[77,85,76],2,1,5⟩,
 ⟨3,[83,85,66],2,1,3⟩,
 ⟨4,[68,73,86],2,1,5⟩,
 ⟨5,[83,68,73,86],2,1,5⟩,
 ⟨6,[77,79,68],2,1,5⟩,
 ⟨7,[83,77,79,68],2,1,5⟩,
 ⟨8,[65,68,68,77,79,68],3,1,8⟩,
 ⟨9,[77,85,76,77,79,68],3,1,8⟩,
 ⟨10,[69,88,80],2,1,10⟩,
 ⟨11,[83,73,71,78,69,88,84,69,78,68],2,1,5⟩,
 ⟨16,[76,84],2,1,3⟩,
 ⟨17,[71,84],2,1,3⟩,
 ⟨18,[83,76,84],2,1,3⟩,
 ⟨19,[83,71,84],2,1,3⟩,
 ⟨20,[69,81],2,1,3⟩,
 ⟨21,[73,83,90,69,82,79],1,1,3⟩,
 ⟨22,[65,78,68],2,1,3⟩,
 ⟨23,[79,82],2,1,3⟩,
 ⟨24,[88,79,82],2,1,3⟩,
 ⟨25,[78,79,84],1,1,3⟩,
 ⟨26,[66,89,84,69],2,1,3⟩,
 ⟨27,[83,72,76],2,1,3⟩,
 ⟨28,[83,72,82],2,1,3⟩,
 ⟨29,[83,65,82],2,1,3⟩,
 ⟨32,[75,69,67,67,65,75,50,53,54],2,1,30⟩,
 ⟨48,[65,68,68,82,69,83,83],0,1,2⟩,
 ⟨49,[66,65,76,65,78,67,69],1,1,700⟩,
 ⟨50,[79,82,73,71,73,78],0,1,2⟩,
 ⟨51,[67,65,76,76,69,82],0,1,2⟩,
 ⟨52,[67,65,76,76,86,65,76,85,69],0,1,2⟩,
 ⟨53,[67,65,76,76,68,65,84,65,76,79,65,68],1,1,3⟩,
 ⟨54,[67,65,76,76,68,65,84,65,83,73,90,69],0,1,2⟩,
 ⟨55,[67,65,76,76,68,65,84,65,67,79,80,89],3,0,3⟩,
 ⟨56,[67,79,68,69,83,73,90,69],0,1,2⟩,
 ⟨57,[67,79,68,69,67,79,80,89],3,0,3⟩,
 ⟨59,[69,88,84,67,79,68,69,83,73,90,69],1,1,700⟩,
 ⟨60,[69,88,84,67,79,68,69,67,79,80,89],4,0,700⟩,
 ⟨61,[82,69,84,85,82,78,68,65,84,65,83,73,90,69],0,1,2⟩,
 ⟨62,[82,69,84,85,82,78,68,65,84,65,67,79,80,89],3,0,3⟩,
 ⟨63,[69,88,84,67,79,68,69,72,65,83,72],1,1,700⟩,
 ⟨65,[67,79,73,78,66,65,83,69],0,1,2⟩,
 ⟨66,[84,73,77,69,83,84,65,77,80],0,1,2⟩,
 ⟨67,[78,85,77,66,69,82],0,1,2⟩,
 ⟨69,[71,65,83,76,73,77,73,84],0,1,2⟩,
 ⟨70,[67,72,65,73,78,73,68],0,1,2⟩,
 ⟨71,[83,69,76,70,66,65,76,65,78,67,69],0,1,5⟩,
 ⟨80,[80,79,80],1,0,2⟩,
 ⟨81,[77,76,79,65,68],1,1,3⟩,
 ⟨82,[77,83,84,79,82,69],2,0,3⟩,
 ⟨83,[77,83,84,79,82,69,56],2,0,3⟩,
 ⟨84,[83,76,79,65,68],1,1,800⟩,
 ⟨85,[83,83,84,79,82,69],2,0,0⟩,
 ⟨86,[74,85,77,80],1,0,8⟩,
 ⟨87,[74,85,77,80,73],2,0,10⟩,
 ⟨88,[80,67],0,1,2⟩,
 ⟨89,[77,83,73,90,69],0,1,2⟩,
 ⟨90,[71,65,83],0,1,2⟩,
 ⟨91,[74,85,77,80,68,69,83,84],0,0,1⟩,
 ⟨95,[80,85,83,72,48],0,1,2⟩,
 ⟨240,[67,82,69,65,84,69],3,1,32000⟩,
 ⟨241,[67,65,76,76],7,1,700⟩,
 ⟨243,[82,69,84,85,82,78],2,0,0⟩,
 ⟨244,[68,69,76,69,71,65,84,69,67,65,76,76],6,1,700⟩,
 ⟨245,[67,82,69,65,84,69,50],4,1,32000⟩,
 ⟨250,[83,84,65,84,73,67,67,65,76,76],6,1,700⟩,
 ⟨253,[82,69,86,69,82,84],2,0,0⟩,
 ⟨255,[83,69,76,70,68,69,83,84,82,85,67,84],1,0,5000⟩]
def T7 (m:Nat):Inf:=
 if 96≤m∧m < 128 then ⟨m,[80,85,83,72]++Y0 (m - 95),0,1,3⟩ else
 if 128≤m∧m < 144 then ⟨m,[68,85,80]++Y0 (m - 127),m - 127,m - 126,3⟩ else
 if 144≤m∧m < 160 then ⟨m,[83,87,65,80]++Y0 (m - 143),m - 142,m - 142,3⟩ else
 if 160≤m∧m < 165 then ⟨m,[76,79,71]++Y0 (m - 160),m - 158,0,375*(m - 159)⟩ else A32
def A0A (k:Nat):List Inf:=(List.range 256).map fun i=>if i < k then T7 i else A32
def A2t (k:Nat):List Inf:=(A0f.take k).foldl (fun l x=>l.set x.op.toNat x) (A0A 256)
def A0P:List Inf:=A2t 69
theorem A3F:A0P.length=256:=by decide +kernel
theorem B6q:((List.range 256).all fun m=>let x:=A0P[m]?.getD A32;match ofL (m:Int) with | none=>decide (x.name = []) | some (p,q,g)=>decide (x.name≠[]) && decide (x.pops=p) && decide (x.pushes=q) && decide (x.gas=g))=true:=by decide +kernel
end Go.Mun
namespace Go.Proofs.YtfflppedbopdpaaGreat
open Go.RowKit Go.Mun
theorem B2m (w:World):Calls Tryz.prog 248 #[] w fun e w'=>e = .returned (.slice (some ⟨w.heap.size,0,none⟩) 69 69)∧w.alloc (.cells (L6 A0f).toArray 142)=w':=by
 obtain ⟨cs,hcs⟩:∃ cs,cs=L6 A0f:=⟨_,rfl⟩
 go_enter Tryz.func248,Tryz.ntmps248
 go_wp2_with (with_reducible refine A56 (o:=⟨some 70,_,_,_,_,_⟩) (e:=142) rfl rfl (L6 A0f) ?h1 ?_)
 case h1=>intro wx;kernel_rfl
 go_ret
 exact ⟨rfl,rfl⟩
end Go.Proofs.YtfflppedbopdpaaGreat
