/- A part of the proof of EvmLogs: ZSt2. -/
import Derived.Test.YtfflppedbopdpaaGreatZSt1
import Derived.Test.YtfflppedbopdpaaGreatZRlp1
import Derived.StillTailTactics
import Derived.Test.YtfflppedbopdpaaGreatZSta
set_option linter.unusedVariables false
set_option maxRecDepth 1000000
set_option maxHeartbeats 8000000
set_option linter.unusedSimpArgs false
namespace Go.Proofs.YtfflppedbopdpaaGreat
open Go.RowKit Go.Mun

theorem A6H (n c:Nat) (p:Addr) (w:World):(binOp .eql 26 (.slice (some p) n c) (.slice none 0 0)).run Tryz.prog w = .ok (.bool false) w:=by kernel_rfl
theorem A5b (w:World):(binOp .eql 26 (.slice none 0 0) (.slice none 0 0)).run Tryz.prog w = .ok (.bool true) w:=by kernel_rfl
theorem A2x (a:Option Addr) (n c:Nat) (l:List Int) (hn:n=l.length) (hn2:n≤70000000000000) (w:World) (hI:G9 w .u8 a c l) :
  Calls Tryz.prog 45 #[.slice a n c] w fun e w' => ∃ v,e = .returned v∧A3d w w' v l:=by
 cases a with
 | none =>
  have hc:=hI.nil rfl
  have hl:=hI.len
  subst hc
  have:l = []:=List.eq_nil_of_length_eq_zero (by omega)
  subst this
  subst hn
  have hq:=A5b w
  go_enter Tryz.func45,Tryz.ntmps45
  go_wp2
  go_ret
  exact ⟨_,rfl,⟨none,0,rfl,⟨fun h=>absurd rfl h,fun _=>rfl,Nat.le_refl _,Nat.zero_le _⟩,fun p hp=>by cases hp⟩,Below.refl _ _⟩
 | some p =>
  have HI:=hid hI
  have HN:=hid hn
  have hq:=A6H n c p w
  have hm:n≤maxLen:=by unfold maxLen;omega
  have hs:=HI.out.below ((Below.refl _ _).alloc (Nat.le_refl _) (.cells #[] 5))
  have HS:=hid (G8.ints hs)
  have HO:Hid ((w.alloc (.cells #[] 5)).ownsRow w.heap.size 5 1 (.slice (some ⟨w.heap.size,0,none⟩) 0 0) 0 []):=World.ownsRow_lit (e:=5) (size:=1) w #[] 0 (Nat.le_refl _) (by decide) rfl
  clear hI hn hs
  go_enter Tryz.func45,Tryz.ntmps45
  go_wp2_with (at_builtin;go_must (refine A0S (base:=w.heap.size) (n:=0) (xs:=[]) A0n rfl _ _ rfl HO.out rfl rfl HN.out (HI.out.below ((Below.refl _ _).alloc (Nat.le_refl _) (.cells #[] 5))) ?c3 ?c4 ?c5 ?_))
  case c3=>omega
  case c4=>omega
  case c5=>simp
  intro v3 w3 ho3 hg3
  have H3:Hid (B5c w w3 v3 l):=by
   refine ⟨?_,((Below.refl _ _).alloc (Nat.le_refl _) _).grown hg3 (by simp) (fun k hk=>by simp [Value.ownBlock] at hk;omega)⟩
   rw [← HN.out];exact ho3
  clear ho3 hg3
  go_wp2
  go_ret
  exact ⟨_,rfl,H3.out.new⟩
theorem B02 {w:World} {own:Own} {sb:Nat} {S:St} {M:List (Nat × St)} {n:Nat} (h:StateAt TU w own sb S M n) (a:Nat) (ha:a < wA) :
  Calls Tryz.prog 224 #[.pointer (some ⟨sb,0,none⟩),.agg (A3 20 a).toArray] w fun e w' => ∃ v,e = .returned v∧A3d w w' v (S a).code:=by
 have H1:=hid (h.below ((Below.refl _ _).alloc (Nat.le_refl _) (.cells (A3 20 a).toArray 23)))
 have hk:(A3 20 a).length=20:=by simp
 clear h
 go_enter Tryz.func224,Tryz.ntmps224
 go_wp2_with fail
 refine (B3I H1.out a ha).mono ?_
 rintro e w1 ⟨p,rfl,hr,hb⟩
 obtain ⟨cv,qv,h1,⟨ad,c,rfl,h3⟩,_⟩:=hr.cells
 obtain ⟨_,_,c33,_⟩:=X3 h1
 have hlen:=hr.clen
 have HB:=hid hb
 have HI:=hid h3
 clear hb h1 hr h3
 go_wp2_with fail
 refine (A2x ad _ c (S a).code rfl (by omega) _ HI.out).mono ?_
 rintro e w2 ⟨v,rfl,hn⟩
 have HN:=hid hn
 clear hn
 go_wp2
 go_ret
 exact ⟨v,rfl,HN.out.up (((Below.refl _ _).alloc (Nat.le_refl _) _).trans (HB.out.mono (by simp)))⟩
noncomputable def _root_.Go.Mun.Acc.emptyB (x:Acc):Bool := @decide x.empty (Classical.propDecidable _)
theorem A2N {x:Acc} (h:¬ x.empty):x.emptyB=false:=by unfold Acc.emptyB;simp [h]
theorem B0B {x:Acc} (h:x.empty):x.emptyB=true:=by unfold Acc.emptyB;simp [h]
theorem A9Q {sl:List (Nat × Nat)} {f:Nat→Nat} (h:A0E sl f):sl.length=0↔∀ k,f k=0:=by
 constructor
 ·intro hl k
  rw [h.get,List.eq_nil_of_length_eq_zero hl];rfl
 ·intro hz
  match sl,h with
  | [],_=>rfl
  | (k,v) :: l,h =>
   have:=hz k
   rw [h.get] at this
   simp only [I3,if_true,Option.getD_some] at this
   exact absurd this (h.val (k,v) (by simp)).1
theorem A9l {w:World} {p:Nat} {x:Acc} (h:A53 w p x) :
  Calls Tryz.prog 44 #[.pointer (some ⟨p,0,none⟩)] w fun e w'=>e = .returned (.bool x.emptyB)∧w=w':=by
 obtain ⟨cv,qv,h1,⟨ad,c,rfl,h3⟩,h4⟩:=h.cells
 obtain ⟨c0,c1,c33,c34⟩:=X3 h1
 have hq:=eqW h.bal (show 0 < wW by decide) w
 have HM:Hid (∃ k:Nat,(∀ ty,(Builtin.len_ #[84] ty #[qv]).run Tryz.prog w = .ok (.int .i64 k) w)∧(k=0↔∀ j,x.slots j=0)):=by
  rcases h4 with ⟨rfl,h4⟩ | ⟨q,sl,rfl,hm,hs⟩
  ·exact ⟨0,fun ty=>Maps.len_nil Tryz.underlying84 ty,by rw [h4];simp⟩
  ·exact ⟨sl.length,fun ty=>hm.len (P:=Tryz.prog) (k:=25) Tryz.underlying84 ty,A9Q hs⟩
 obtain ⟨k,hml,hk⟩:=HM.out
 have HML:=hid hml
 have HK:=hid hk
 generalize hl:x.code.length=cl at *
 have HL:Hid (cl=0↔x.code = []):=by unfold Hid;rw [← hl];simp
 clear h1 h3 HM h h4 hl hml hk
 by_cases n0:x.nonce=0
 ·have b0:((x.nonce:Int) == 0)=true:=by simp [n0]
  by_cases n1:x.bal=0
  ·rw [decide_eq_true n1] at hq
   by_cases n2:cl=0
   ·have b2:((cl:Int) == 0)=true:=by simp [n2]
    by_cases n3:k=0
    focus
     have b3:((k:Int) == 0)=true:=by simp [n3]
     have H:=hid (B0B (x:=x) ⟨n0,n1,HL.out.1 n2,HK.out.1 n3⟩)
    rotate_left
    focus
     have b3:((k:Int) == 0)=false:=by simp [n3]
     have H:=hid (A2N (x:=x) (fun e=>n3 (HK.out.2 e.2.2.2)))
    all_goals
     clear n0 n1 n2 n3
     go_enter Tryz.func44,Tryz.ntmps44
     go_wp2_with (at_len;refine A8i _ 84 rfl (by rfl) rfl HML.out ?_)
     go_wp2
     go_ret
     exact ⟨by rw [H.out];rfl,rfl⟩
   ·have b2:((cl:Int) == 0)=false:=by simp [n2]
    have H:=hid (A2N (x:=x) (fun e=>n2 (HL.out.2 e.2.2.1)))
    clear n0 n1 n2
    go_enter Tryz.func44,Tryz.ntmps44
    go_wp2
    go_ret
    exact ⟨by rw [H.out];rfl,rfl⟩
  ·rw [decide_eq_false n1] at hq
   have H:=hid (A2N (x:=x) (fun e=>n1 e.2.1))
   clear n0 n1
   go_enter Tryz.func44,Tryz.ntmps44
   go_wp2
   go_ret
   exact ⟨by rw [H.out];rfl,rfl⟩
 ·have b0:((x.nonce:Int) == 0)=false:=by simp [n0]
  have H:=hid (A2N (x:=x) (fun e=>n0 e.1))
  clear n0
  go_enter Tryz.func44,Tryz.ntmps44
  go_wp2
  go_ret
  exact ⟨by rw [H.out];rfl,rfl⟩
theorem A8y {sl:List (Nat × Nat)} {f:Nat→Nat} (h:A0E sl f) (k:Nat):A0E (A1j k sl) (A7w f k 0):=by
 refine ⟨fun j=>?_,fun p hp=>h.val p (List.mem_filter.1 hp).1⟩
 rw [A9d]
 unfold A7w
 split
 ·rfl
 ·exact h.get j
theorem A8x {sl:List (Nat × Nat)} {f:Nat→Nat} (h:A0E sl f) (k v:Nat) (hv:v≠0) (hv2:v < wW):A0E (N0 k v sl) (A7w f k v):=by
 refine ⟨fun j=>?_,fun p hp=>?_⟩
 ·rw [O8]
  unfold A7w
  split
  ·rfl
  ·exact h.get j
 ·rcases A1M hp with rfl | hp
  ·exact ⟨hv,hv2⟩
  ·exact h.val p hp

theorem B1O {w:World} {own:Own} {p:Nat} {x:Acc} (h:L5 w own p x) (k v:Nat) (hk:k < wW) (hv:v < wW) :
  Calls Tryz.prog 46 #[.pointer (some ⟨p,0,none⟩),.agg (A3 32 k).toArray,.agg (A3 32 v).toArray] w fun e w'=>e = .returned (.tuple #[]) ∧
   L5 w' own p { x with slots:=A7w x.slots k v }∧A0 (fun b=>own b=some (.smap p)) w w':=by
 obtain ⟨cv,q,sl,h1,h2,h3,h4,h5⟩:=h.cells
 have hl1:(A3 32 k).length=32:=by simp
 have hl2:(A3 32 v).length=32:=by simp
 have HW:Hid (∃ w0,w0=(w.alloc (.cells (A3 32 k).toArray 25)).alloc (.cells (A3 32 v).toArray 25)∧A0 (fun b=>own b=some (.smap p)) w w0 ∧
   w0.row? w.heap.size 0 32=some (A3 32 k)∧w0.row? (w.heap.size+1) 0 32=some (A3 32 v)∧w0.row? p 0 35=some (X4 x.nonce x.bal cv (.map (some q)))∧E1 wdV wW wdV w0 q sl):=by
  have ho:A0 (fun _=>False) w ((w.alloc (.cells (A3 32 k).toArray 25)).alloc (.cells (A3 32 v).toArray 25)):=((A0.refl _ _).alloc _).alloc _
  refine ⟨_,rfl,ho.mono (fun _ h=>h.elim),?_,?_,by rw [ho.row? (World.row?_lt h1) id];exact h1,h4.only ho id⟩
  ·rw [World.row?_alloc_lt _ (by simp)];exact World.row?_alloc_at _ _ _ rfl hl1
  ·exact World.row?_alloc_at _ _ _ (by simp) hl2
 obtain ⟨w0,e0,o0,r1,r2,r3,m0⟩:=HW.out
 have hq:=eqW hv (show 0 < wW by decide)
 obtain ⟨_,_,_,c34⟩:=X3 r3
 have HE:=hid e0
 have d1:w0.drew.row? w.heap.size 0 32=some (A3 32 k):=r1
 have d2:w0.drew.row? (w.heap.size+1) 0 32=some (A3 32 v):=r2
 have d3:w0.drew.cell? ⟨p,34,none⟩=some (.map (some q)):=c34
 have o0:=o0.drew
 have m0:E1 wdV wW wdV w0.drew q sl:=m0
 have fin:∀ w1 f,E1 wdV wW wdV w1 q f→A0 (· = q) w0.drew w1→∀ g,A0E f g→L5 w1 own p { x with slots:=g }∧A0 (fun b=>own b=some (.smap p)) w w1:=by
  intro w1 f hm ho g hg
  have ho1:A0 (fun b=>own b=some (.smap p)) w w1:=o0.trans ho (fun i hi _=>by rw [hi];exact h3)
  have hp:¬ own p=some (.smap p):=by rw [h.lab];simp
  refine ⟨⟨h.lab,by rw [ho1.free? (World.row?_lt h1) hp];exact h.free,⟨cv,q,f,by rw [ho1.row? (World.row?_lt h1) hp];exact h1,h2.only ho1 (fun b hb=>by rw [hb];simp),h3,hm,hg⟩,h.nonce,h.bal⟩,ho1⟩
 have HF:=hid fin
 have HS:=hid h5
 have HM:=hid m0
 clear HW e0 o0 fin h5 h4 h3 h2 h1 h r3 m0
 by_cases hz:v=0
 ·have hb:=fun w'=>(hq w').trans (by rw [decide_eq_true hz])
  have HZ:=hid hz
  clear hq hz
  go_enter Tryz.func46,Tryz.ntmps46
  go_wp2_with fail
  rw [← HE.out]
  refine A7j 5 (by kernel_rfl) (by kernel_rfl) ?_
  simp only [List.take_succ_cons,List.take_zero,List.drop_succ_cons,List.drop_zero]
  repeat still_step
  refine wpStill_nil ?_
  go_wp2_with (refine A4X rfl _ _ 84 rfl A6i Tryz.underlying84 HM.out rfl (n:=k) rfl hk ?_)
  intro w1 hm1 ho1
  have H:=hid (HF.out w1 _ hm1 ho1 _ (A8y HS.out k))
  clear hm1 ho1
  go_wp2
  refine bodyPost_ret (results_none rfl _ _ _) rfl ?_
  exact ⟨rfl,by rw [HZ.out];exact H.out.1,H.out.2⟩
 ·have hb:=fun w'=>(hq w').trans (by rw [decide_eq_false hz])
  have HZ:=hid (A8x HS.out k v hz hv)
  clear hq hz
  go_enter Tryz.func46,Tryz.ntmps46
  go_wp2_with fail
  rw [← HE.out]
  refine A7j 6 (by kernel_rfl) (by kernel_rfl) ?_
  simp only [List.take_succ_cons,List.take_zero,List.drop_succ_cons,List.drop_zero]
  repeat still_step
  refine wpStill_nil ?_
  go_wp2_with (refine A26 rfl _ _ _ 84 rfl A6i Tryz.underlying84 HM.out rfl (n:=k) rfl hk v rfl ?_)
  intro w1 hm1 ho1
  have H:=hid (HF.out w1 _ hm1 ho1 _ HZ.out)
  clear hm1 ho1
  go_wp2
  go_end0
  exact ⟨rfl,H.out.1,H.out.2⟩
theorem B8g:P4 Tryz.prog 91 298 .nilIface 1 16:=.mk' Tryz.underlying91 (by kernel_rfl) (by rfl) (by decide)

theorem A85 (x:Value):lay B0P 34 [x]=X4 0 0 (.slice none 0 0) x:=by kernel_rfl
theorem A6V (ty:TypeId) (w:World):(Instr.makeMap ty none).run Tryz.prog w = .ok (.map (some w.heap.size)) (w.alloc (.map #[] 0)):=by
 first | exact run_makeMap | exact run_makeMap _ | exact run_makeMap _ _ | simp [run_makeMap]
def B6R (w:World) (own:Own) (sb mb:Nat) (mv:Value) (last:Nat) (E:List (Nat × Nat)) (U':List Y8) (mk:List (Nat × Nat)) (S:St) (a:Nat) (e:Ending) (w':World):Prop:=
 ∃ p uv' E' own',e = .returned (.pointer (some ⟨p,0,none⟩))∧StaCore TU w' own' sb mb uv' mv last E' U' mk S∧I3 a E'=some p∧L5 w' own' p (S a) ∧
  (E'=E∨(I3 a E=none∧E'=N0 a p E∧w.heap.size≤p))∧T6 w w' own own'

theorem A6F {w:World} {own:Own} {sb mb:Nat} {uv mv:Value} {last:Nat} {E:List (Nat × Nat)} {U:List Y8} {mk:List (Nat × Nat)} {S:St} (h:StaCore TU w own sb mb uv mv last E U mk S) (a:Nat) (ha:a < wA)
  (u:Y8) (hok:A1W w own u) (hU:U.length≤1099511627776) :
  Calls Tryz.prog 286 #[.pointer (some ⟨sb,0,none⟩),.agg (A3 20 a).toArray,A0s TU u] w (B6R w own sb mb mv last E (A0g mk u U) mk S a):=by
 have hl1:(A3 20 a).length=20:=by simp
 have hb0:Below w.heap.size w (w.alloc (.cells (A3 20 a).toArray 23)):=(Below.refl _ _).alloc (Nat.le_refl _) _
 have HW:Hid (∃ w0,w0=w.alloc (.cells (A3 20 a).toArray 23)∧Below w.heap.size w w0∧w0.row? w.heap.size 0 20=some (A3 20 a)∧StaCore TU w0 own sb mb uv mv last E U mk S∧A1W w0 own u∧w0.heap.size=w.heap.size+1):=
  ⟨_,rfl,hb0,World.row?_alloc_at _ _ _ rfl hl1,h.only (R:=fun _=>False) (A0.of_below_size hb0) (fun _ h=>h.elim),hok.only (R:=fun _=>False) (A0.of_below_size hb0) (fun _ h=>h.elim),by simp⟩
 obtain ⟨w0,e0,b0,r0,s0,k0,z0⟩:=HW.out
 have HE0:=hid e0
 have HB0:=hid b0
 have HS0:=hid s0
 have HK0:=hid k0
 have hnl:w.heap.size < w0.heap.size:=by omega
 have HZ:=hid z0
 have hown:own w.heap.size=none:=by
  cases ho:own w.heap.size with
  | none=>rfl
  | some l=>have:=h.low w.heap.size (by rw [ho];simp);omega
 have HOW:=hid hown
 obtain ⟨c0,c1,c2,c3⟩:=h.cells
 obtain ⟨am,cm,rfl⟩:=Q7 h.mrow
 obtain ⟨au,cu,rfl⟩:=Q7 h.urow
 have hu1:=A8k TU u
 have hsbl:sb < w.heap.size:=h.low _ (by rw [h.lab];simp)
 -- the rest of the function, from any world in which the state stands with U'
 have rest:∀ (U':List Y8) (uv':Value) (own1:Own) (w1:World),StaCore TU w1 own1 sb mb uv' (.slice am mk.length cm) last E U' mk S→T6 w0 w1 own own1→True:=fun _ _ _ _ _ _=>trivial
 clear HW h hok hb0 e0 b0 s0 k0 z0 hown rest
 by_cases hmk:mk = []
 ·have b1:decide ((0:Int) < (mk.length:Int))=false:=by simp [hmk]
  have b1':decide (0 < mk.length)=false:=by simp [hmk]
  have HU:Hid (A0g mk u U=U):=by unfold Hid A0g;rw [if_pos hmk]
  rw [HU.out]
  have HMK:=hid hmk
  clear hmk
  generalize hk:mk.length=k at *
  have HKK:=hid hk
  clear hk
  obtain ⟨ti,vi,hV⟩:∃ t v,A0s TU u = .iface t v:=by cases u <;> exact ⟨_,_,rfl⟩
  rw [hV] at hu1 ⊢
  have HV:=hid hV
  clear hV
  generalize hUL:U.length=ul at *
  have HLen:=hid hUL
  clear hUL
  obtain ⟨w2,e2⟩:∃ w2,w2=w0:=⟨_,rfl⟩
  obtain ⟨own1,eo⟩:∃ o,o=own:=⟨_,rfl⟩
  obtain ⟨uv',eu⟩:∃ v,v=Value.slice au ul cu:=⟨_,rfl⟩
  have HS2:Hid (StaCore TU w2 own1 sb mb uv' (.slice am k cm) last E U mk S):=by rw [e2,eo,eu];exact HS0
  have HG2:Hid (T6 w0 w2 own own1):=by rw [e2,eo];exact T6.refl _ _
  have hr2:w2.row? w.heap.size 0 20=some (A3 20 a):=by rw [e2];exact r0
  have HE2:Hid (w2=w.alloc (.cells (A3 20 a).toArray 23)):=e2.trans HE0.out
  clear e2 eo eu
  go_enter Tryz.func286,Tryz.ntmps286
  go_wp2_with fail
  rw [← HE2.out]
  obtain ⟨c0,_⟩:=HS2.out.cells
  have d0:w2.drew.cell? ⟨sb,0,none⟩=some (.map (some mb)):=c0
  have d1:w2.drew.row? w.heap.size 0 20=some (A3 20 a):=hr2
  have hmap:=HS2.out.map
  have l1:=(hmap.of_block (w':=w2.drew) rfl).look A0Z Tryz.underlying90 (A0N _) ha
  cases hg:I3 a E with
  | some p =>
   rw [hg] at l1
   have l1':(Instr.lookup 90 (.map (some mb)) (.agg (A3 20 a).toArray) false).run Tryz.prog w2.drew = .ok (.pointer (some ⟨p,0,none⟩)) w2.drew:=l1
   have d0':w2.drew.drew.cell? ⟨sb,0,none⟩=some (.map (some mb)):=c0
   have d1':w2.drew.drew.row? w.heap.size 0 20=some (A3 20 a):=hr2
   have l2:=(hmap.of_block (w':=w2.drew.drew) rfl).look A0Z Tryz.underlying90 (A0N _) ha
   rw [hg] at l2
   have l2':(Instr.lookup 90 (.map (some mb)) (.agg (A3 20 a).toArray) false).run Tryz.prog w2.drew.drew = .ok (.pointer (some ⟨p,0,none⟩)) w2.drew.drew:=l2
   have HG:=hid hg
   clear l1 l2 hmap c0 hr2 hg
   refine F4 (by kernel_rfl) (by kernel_rfl) ?_
   repeat still_step
   refine wpStill_nil ?_
   go_wp2_with fail
   refine F4 (by kernel_rfl) (by kernel_rfl) ?_
   repeat still_step
   refine wpStill_nil ?_
   go_wp2
   go_ret
   have ho:A0 (fun _=>False) w2 w2.drew.drew:=(A0.refl _ _).drew.drew
   have hf:∀ b,False→own1 b=none:=fun _ h=>h.elim
   exact ⟨p,uv',E,own1,rfl,HS2.out.only ho hf,HG.out,(HS2.out.acc (a,p) (L7 HG.out)).only_out ho hf,.inl rfl,((T6.below own HB0.out).trans HG2.out).trans (T6.below own1 ((Below.refl _ _).drew.drew))⟩
  | none =>
   rw [hg] at l1
   have l1':(Instr.lookup 90 (.map (some mb)) (.agg (A3 20 a).toArray) false).run Tryz.prog w2.drew = .ok (.pointer none) w2.drew:=l1
   have d0':w2.drew.drew.cell? ⟨sb,0,none⟩=some (.map (some mb)):=c0
   have d1':w2.drew.drew.row? w.heap.size 0 20=some (A3 20 a):=hr2
   have HG:=hid hg
   clear l1 hmap c0 hr2 hg
   refine F4 (by kernel_rfl) (by kernel_rfl) ?_
   repeat still_step
   refine wpStill_nil ?_
   go_wp2_with fail
   generalize hw3:w2.drew.drew=w3 at *
   have o23:A0 (fun _=>False) w2 w3:=by rw [← hw3];exact (A0.refl _ _).drew.drew
   have b23:Below w2.heap.size w2 w3:=by rw [← hw3];exact (Below.refl _ _).drew.drew
   have HS3:Hid (StaCore TU w3 own1 sb mb uv' (.slice am k cm) last E U mk S):=HS2.out.only o23 (fun _ h=>h.elim)
   have HG3:Hid (T6 w0 w3 own own1):=HG2.out.trans (T6.below own1 b23)
   have hsb3:sb < w3.heap.size:=HS3.out.low _ (by rw [HS3.out.lab];simp)
   have hmb3:=HS3.out.map.lt
   have hnl3:w.heap.size < w3.heap.size:=World.row?_lt d1'
   obtain ⟨T,hT⟩:∃ T:World→Prop,T=fun w'=>w'.cell? ⟨sb,0,none⟩=some (.map (some mb))∧w'.row? w.heap.size 0 20=some (A3 20 a):=⟨_,rfl⟩
   have HT:=hid hT
   have t0:T w3:=by rw [hT];exact ⟨d0',d1'⟩
   have tl:∀ w',Below w3.heap.size w3 w'→T w':=by
    intro w' hb
    rw [hT]
    exact ⟨(hb.cell (p:=⟨sb,0,none⟩) hsb3).trans d0',((C7 hb).1 _ _ _ hnl3).trans d1'⟩
   have HTL:=hid tl
   have t1:=tl _ ((Below.refl _ _).alloc (Nat.le_refl _) (.map #[] 0))
   have t2:=tl _ (((Below.refl _ _).alloc (Nat.le_refl _) (.map #[] 0)).alloc (by simp) (.cells (X4 0 0 (.slice none 0 0) (.map (some w3.heap.size))).toArray 86))
   have hla:=A85 (.map (some w3.heap.size))
   have t0':T w2.drew.drew:=by rw [hw3];exact t0
   have HW3:=hid hw3
   clear hT tl hw3
   refine S8 T [0,1,2,3,4] [5,6,7,8] (by kernel_rfl) (by kernel_rfl) t0' ?_
   rw [HW3.out]
   refine A6 (.pointer (some ⟨sb,0,none⟩)) rfl (by rfl) (fun w' hs=>?_) (fun _ _ _ h=>h) ?_
   ·go_simp
   refine A6 (.pointer (some ⟨sb,0,none⟩)) rfl (by rfl) (fun w' hs=>?_) (fun _ _ _ h=>h) ?_
   ·go_simp
   refine A6 (.pointer (some ⟨sb,0,none⟩)) rfl (by rfl) (fun w' hs=>?_) (fun _ _ _ h=>h) ?_
   ·go_simp
   refine A6 (.map (some mb)) rfl (by rfl) (fun w' hs=>?_) (fun _ _ _ h=>h) ?_
   ·rw [HT.out] at hs
    obtain ⟨s1,s2⟩:=hs
    go_simp
   refine A6 (.agg (A3 20 a).toArray) rfl (by rfl) (fun w' hs=>?_) (fun _ _ _ h=>h) ?_
   ·rw [HT.out] at hs
    obtain ⟨s1,s2⟩:=hs
    go_simp
   refine P5 ?_
   simp only [Act.put,D7,D6,D5]
   have hmm:=A6V 84 w3
   refine C5 rfl (fun K hK=>?_)
   go_simp
   refine hK.out _ _ t1 ?_
   clear hK K
   refine C5 rfl (fun K hK=>?_)
   go_simp
   refine hK.out _ _ t1 ?_
   clear hK K
   refine C5 rfl (fun K hK=>?_)
   go_simp
   refine hK.out _ _ t2 ?_
   clear hK K
   have hm3:=HS3.out.map.below (((Below.refl _ _).alloc (Nat.le_refl _) (.map #[] 0)).alloc (by simp) (.cells (X4 0 0 (.slice none 0 0) (.map (some w3.heap.size))).toArray 86))
   refine C5 rfl (fun K hK=>?_)
   refine A3k rfl _ _ _ 90 rfl A0Z Tryz.underlying90 hm3 rfl (n:=a) rfl ha (w3.heap.size+1) rfl ?_
   intro w4 hm4 ho4
   obtain ⟨own2,s4,g4,acc4⟩:=B01 (t2:=86) HS3.out a HG.out hm4 ho4
   have hnm:¬ sb=mb:=fun e=>by have:=HS3.out.lab;rw [e,HS3.out.mlab] at this;cases this
   have hnw:¬ w.heap.size=mb:=fun e=>by have:=HS3.out.mlab;rw [← e,HG3.out.ext _ hnl,HOW.out] at this;cases this
   have t4:T w4:=by
    rw [HT.out] at t2 ⊢
    exact ⟨by rw [ho4.cell? (by simp;omega) hnm];exact t2.1,by rw [ho4.row? (by simp;omega) hnw];exact t2.2⟩
   have d4:w4.drew.cell? ⟨sb,0,none⟩=some (.map (some mb)):=by rw [HT.out] at t4;exact t4.1
   have d4':w4.drew.row? w.heap.size 0 20=some (A3 20 a):=by rw [HT.out] at t4;exact t4.2
   have l4:=(hm4.of_block (w':=w4.drew) rfl).look A0Z Tryz.underlying90 (A0N _) ha
   rw [O8,if_pos rfl] at l4
   have l4':(Instr.lookup 90 (.map (some mb)) (.agg (A3 20 a).toArray) false).run Tryz.prog w4.drew = .ok (.pointer (some ⟨w3.heap.size+1,0,none⟩)) w4.drew:=l4
   have HS4:=hid s4
   have HG4:=hid g4
   have HA4:=hid acc4
   have hsz3:w.heap.size≤w3.heap.size+1:=by omega
   clear s4 g4 acc4 hm4 ho4 l4 hm3 d0' d1' l1' d0 d1
   refine hK.out _ _ t4 (V4 ?_)
   clear hK K t0 t1 t2 t4 hla hmm hnm hnw hsb3 hmb3 hnl3
   go_wp2_with fail
   refine F4 (by kernel_rfl) (by kernel_rfl) ?_
   repeat still_step
   refine wpStill_nil ?_
   go_wp2
   go_ret
   have ho:A0 (fun _=>False) w4 w4.drew:=(A0.refl _ _).drew
   have hf:∀ b,False→own2 b=none:=fun _ h=>h.elim
   exact ⟨w3.heap.size+1,uv',_,own2,rfl,HS4.out.only ho hf,by rw [O8,if_pos rfl],by rw [HS0.out.out a HG.out];exact HA4.out.only_out ho hf,.inr ⟨HG.out,rfl,hsz3⟩,
    (((T6.below own HB0.out).trans HG3.out).trans HG4.out).trans (T6.below own2 ((Below.refl _ _).drew))⟩
 ·have b1:decide ((0:Int) < (mk.length:Int))=true:=by
   have:=List.length_pos_iff.2 hmk
   simp;omega
  have b1':decide (0 < mk.length)=true:=by simpa using b1
  have HU:Hid (A0g mk u U=u :: U):=by unfold Hid A0g;rw [if_neg hmk]
  rw [HU.out]
  have HMK:=hid hmk
  clear hmk
  have HR:Hid (w0.ownsRow 0 298 1 (.slice au U.length cu) U.length (U.reverse.map (A0s TU))):=HS0.out.urow
  have HUL:=hid HS0.out.ulab
  generalize hk:mk.length=k at *
  have HKK:=hid hk
  clear hk
  obtain ⟨ti,vi,hV⟩:∃ t v,A0s TU u = .iface t v:=by cases u <;> exact ⟨_,_,rfl⟩
  rw [hV] at hu1 ⊢
  have HV:=hid hV
  clear hV
  generalize hUL:U.length=ul at *
  have HLen:=hid hUL
  clear hUL
  generalize hL:U.reverse.map (A0s TU)=L at *
  have HL:=hid hL
  clear hL
  have HR1:Hid ((w0.alloc (.cells #[.iface ti vi] 298)).ownsRow 0 298 1 (.slice au ul cu) ul L):=
   A0.own (S:=fun _=>False) HR.out ((A0.refl _ _).alloc _) (fun _ _ h=>h)
  have HSrc:Hid (G8 (w0.alloc (.cells #[.iface ti vi] 298)) (some ⟨w.heap.size+1,0,none⟩) 1 1 1 [.iface ti vi]):=by
   rw [← HZ.out];exact G8.new w0 (m:=1) (size:=1) (cs:=[.iface ti vi]) 298 (0,0) (A0j rfl (fun v hv=>by rw [List.mem_singleton.1 hv];exact hu1)) 1
  go_enter Tryz.func286,Tryz.ntmps286
  go_wp2_with (at_builtin;rw [← HE0.out];go_must (refine Z0 B8g rfl _ _ rfl HR1.out rfl HSrc.out rfl ?c3 ?c4 ?_))
  case c3=>unfold maxLen;omega
  case c4=>omega
  intro uv' w1 ho1 hon hloc
  obtain ⟨own1,s2,g2⟩:=B3H (V:=.iface ti vi) (t:=298) HS0.out u HK0.out (by rw [HLen.out,HV.out];show w1.ownsRow 0 TU.u 1 uv' (ul+1) (U.reverse.map (A0s TU)++_);rw [HL.out];exact ho1) hon (fun g hg=>by
   rcases hloc g hg with h | h
   ·exact .inl h
   ·exact .inr (by first | omega | (simp at h;omega)))
  have hf1:w1.free? sb 1 1=true:=by
   have:=World.free?_sub s2.free (show 1+1≤0+4 by omega)
   rwa [D0] at this
  have hr2:(w1.setCell ⟨sb,1,none⟩ uv').row? w.heap.size 0 20=some (A3 20 a):=by
   rw [g2.only.row? hnl (fun hh=>hh HOW.out)];exact r0
  have hu2:uv'.oneCell'=true:=by obtain ⟨_,_,rfl⟩:=Q7 ho1;rfl
  have HS2:=hid s2
  have HG2:=hid g2
  clear s2 g2 hloc hon ho1
  go_wp2_with fail
  generalize w1.setCell ⟨sb,1,none⟩ uv'=w2 at *
  clear hf1
  obtain ⟨c0,_⟩:=HS2.out.cells
  have d0:w2.drew.cell? ⟨sb,0,none⟩=some (.map (some mb)):=c0
  have d1:w2.drew.row? w.heap.size 0 20=some (A3 20 a):=hr2
  have hmap:=HS2.out.map
  have l1:=(hmap.of_block (w':=w2.drew) rfl).look A0Z Tryz.underlying90 (A0N _) ha
  cases hg:I3 a E with
  | some p =>
   rw [hg] at l1
   have l1':(Instr.lookup 90 (.map (some mb)) (.agg (A3 20 a).toArray) false).run Tryz.prog w2.drew = .ok (.pointer (some ⟨p,0,none⟩)) w2.drew:=l1
   have d0':w2.drew.drew.cell? ⟨sb,0,none⟩=some (.map (some mb)):=c0
   have d1':w2.drew.drew.row? w.heap.size 0 20=some (A3 20 a):=hr2
   have l2:=(hmap.of_block (w':=w2.drew.drew) rfl).look A0Z Tryz.underlying90 (A0N _) ha
   rw [hg] at l2
   have l2':(Instr.lookup 90 (.map (some mb)) (.agg (A3 20 a).toArray) false).run Tryz.prog w2.drew.drew = .ok (.pointer (some ⟨p,0,none⟩)) w2.drew.drew:=l2
   have HG:=hid hg
   clear l1 l2 hmap c0 hr2 hg
   refine F4 (by kernel_rfl) (by kernel_rfl) ?_
   repeat still_step
   refine wpStill_nil ?_
   go_wp2_with fail
   refine F4 (by kernel_rfl) (by kernel_rfl) ?_
   repeat still_step
   refine wpStill_nil ?_
   go_wp2
   go_ret
   have ho:A0 (fun _=>False) w2 w2.drew.drew:=(A0.refl _ _).drew.drew
   have hf:∀ b,False→own1 b=none:=fun _ h=>h.elim
   exact ⟨p,uv',E,own1,rfl,HS2.out.only ho hf,HG.out,(HS2.out.acc (a,p) (L7 HG.out)).only_out ho hf,.inl rfl,((T6.below own HB0.out).trans HG2.out).trans (T6.below own1 ((Below.refl _ _).drew.drew))⟩
  | none =>
   rw [hg] at l1
   have l1':(Instr.lookup 90 (.map (some mb)) (.agg (A3 20 a).toArray) false).run Tryz.prog w2.drew = .ok (.pointer none) w2.drew:=l1
   have d0':w2.drew.drew.cell? ⟨sb,0,none⟩=some (.map (some mb)):=c0
   have d1':w2.drew.drew.row? w.heap.size 0 20=some (A3 20 a):=hr2
   have HG:=hid hg
   clear l1 hmap c0 hr2 hg
   refine F4 (by kernel_rfl) (by kernel_rfl) ?_
   repeat still_step
   refine wpStill_nil ?_
   go_wp2_with fail
   generalize hw3:w2.drew.drew=w3 at *
   have o23:A0 (fun _=>False) w2 w3:=by rw [← hw3];exact (A0.refl _ _).drew.drew
   have b23:Below w2.heap.size w2 w3:=by rw [← hw3];exact (Below.refl _ _).drew.drew
   have HS3:Hid (StaCore TU w3 own1 sb mb uv' (.slice am k cm) last E (u :: U) mk S):=HS2.out.only o23 (fun _ h=>h.elim)
   have HG3:Hid (T6 w0 w3 own own1):=HG2.out.trans (T6.below own1 b23)
   have hsb3:sb < w3.heap.size:=HS3.out.low _ (by rw [HS3.out.lab];simp)
   have hmb3:=HS3.out.map.lt
   have hnl3:w.heap.size < w3.heap.size:=World.row?_lt d1'
   obtain ⟨T,hT⟩:∃ T:World→Prop,T=fun w'=>w'.cell? ⟨sb,0,none⟩=some (.map (some mb))∧w'.row? w.heap.size 0 20=some (A3 20 a):=⟨_,rfl⟩
   have HT:=hid hT
   have t0:T w3:=by rw [hT];exact ⟨d0',d1'⟩
   have tl:∀ w',Below w3.heap.size w3 w'→T w':=by
    intro w' hb
    rw [hT]
    exact ⟨(hb.cell (p:=⟨sb,0,none⟩) hsb3).trans d0',((C7 hb).1 _ _ _ hnl3).trans d1'⟩
   have HTL:=hid tl
   have t1:=tl _ ((Below.refl _ _).alloc (Nat.le_refl _) (.map #[] 0))
   have t2:=tl _ (((Below.refl _ _).alloc (Nat.le_refl _) (.map #[] 0)).alloc (by simp) (.cells (X4 0 0 (.slice none 0 0) (.map (some w3.heap.size))).toArray 86))
   have hla:=A85 (.map (some w3.heap.size))
   have t0':T w2.drew.drew:=by rw [hw3];exact t0
   have HW3:=hid hw3
   clear hT tl hw3
   refine S8 T [0,1,2,3,4] [5,6,7,8] (by kernel_rfl) (by kernel_rfl) t0' ?_
   rw [HW3.out]
   refine A6 (.pointer (some ⟨sb,0,none⟩)) rfl (by rfl) (fun w' hs=>?_) (fun _ _ _ h=>h) ?_
   ·go_simp
   refine A6 (.pointer (some ⟨sb,0,none⟩)) rfl (by rfl) (fun w' hs=>?_) (fun _ _ _ h=>h) ?_
   ·go_simp
   refine A6 (.pointer (some ⟨sb,0,none⟩)) rfl (by rfl) (fun w' hs=>?_) (fun _ _ _ h=>h) ?_
   ·go_simp
   refine A6 (.map (some mb)) rfl (by rfl) (fun w' hs=>?_) (fun _ _ _ h=>h) ?_
   ·rw [HT.out] at hs
    obtain ⟨s1,s2⟩:=hs
    go_simp
   refine A6 (.agg (A3 20 a).toArray) rfl (by rfl) (fun w' hs=>?_) (fun _ _ _ h=>h) ?_
   ·rw [HT.out] at hs
    obtain ⟨s1,s2⟩:=hs
    go_simp
   refine P5 ?_
   simp only [Act.put,D7,D6,D5]
   have hmm:=A6V 84 w3
   refine C5 rfl (fun K hK=>?_)
   go_simp
   refine hK.out _ _ t1 ?_
   clear hK K
   refine C5 rfl (fun K hK=>?_)
   go_simp
   refine hK.out _ _ t1 ?_
   clear hK K
   refine C5 rfl (fun K hK=>?_)
   go_simp
   refine hK.out _ _ t2 ?_
   clear hK K
   have hm3:=HS3.out.map.below (((Below.refl _ _).alloc (Nat.le_refl _) (.map #[] 0)).alloc (by simp) (.cells (X4 0 0 (.slice none 0 0) (.map (some w3.heap.size))).toArray 86))
   refine C5 rfl (fun K hK=>?_)
   refine A3k rfl _ _ _ 90 rfl A0Z Tryz.underlying90 hm3 rfl (n:=a) rfl ha (w3.heap.size+1) rfl ?_
   intro w4 hm4 ho4
   obtain ⟨own2,s4,g4,acc4⟩:=B01 (t2:=86) HS3.out a HG.out hm4 ho4
   have hnm:¬ sb=mb:=fun e=>by have:=HS3.out.lab;rw [e,HS3.out.mlab] at this;cases this
   have hnw:¬ w.heap.size=mb:=fun e=>by have:=HS3.out.mlab;rw [← e,HG3.out.ext _ hnl,HOW.out] at this;cases this
   have t4:T w4:=by
    rw [HT.out] at t2 ⊢
    exact ⟨by rw [ho4.cell? (by simp;omega) hnm];exact t2.1,by rw [ho4.row? (by simp;omega) hnw];exact t2.2⟩
   have d4:w4.drew.cell? ⟨sb,0,none⟩=some (.map (some mb)):=by rw [HT.out] at t4;exact t4.1
   have d4':w4.drew.row? w.heap.size 0 20=some (A3 20 a):=by rw [HT.out] at t4;exact t4.2
   have l4:=(hm4.of_block (w':=w4.drew) rfl).look A0Z Tryz.underlying90 (A0N _) ha
   rw [O8,if_pos rfl] at l4
   have l4':(Instr.lookup 90 (.map (some mb)) (.agg (A3 20 a).toArray) false).run Tryz.prog w4.drew = .ok (.pointer (some ⟨w3.heap.size+1,0,none⟩)) w4.drew:=l4
   have HS4:=hid s4
   have HG4:=hid g4
   have HA4:=hid acc4
   have hsz3:w.heap.size≤w3.heap.size+1:=by omega
   clear s4 g4 acc4 hm4 ho4 l4 hm3 d0' d1' l1' d0 d1
   refine hK.out _ _ t4 (V4 ?_)
   clear hK K t0 t1 t2 t4 hla hmm hnm hnw hsb3 hmb3 hnl3
   go_wp2_with fail
   refine F4 (by kernel_rfl) (by kernel_rfl) ?_
   repeat still_step
   refine wpStill_nil ?_
   go_wp2
   go_ret
   have ho:A0 (fun _=>False) w4 w4.drew:=(A0.refl _ _).drew
   have hf:∀ b,False→own2 b=none:=fun _ h=>h.elim
   exact ⟨w3.heap.size+1,uv',_,own2,rfl,HS4.out.only ho hf,by rw [O8,if_pos rfl],by rw [HS0.out.out a HG.out];exact HA4.out.only_out ho hf,.inr ⟨HG.out,rfl,hsz3⟩,
    (((T6.below own HB0.out).trans HG3.out).trans HG4.out).trans (T6.below own2 ((Below.refl _ _).drew))⟩
theorem K5 {w w0:World} {own own1:Own} {b o n:Nat} {L:List Value} (h:w0.row? b o n=some L) (hl:own b=none) (g:T6 w0 w own own1):w.row? b o n=some L:=by
 rw [g.only.row? (World.row?_lt h) (fun hh=>hh hl)];exact h
theorem D4 {w:World} {own:Own} {b:Nat} (h:∀ b,own b≠none→b < w.heap.size) (hb:w.heap.size≤b):own b=none:=by
 cases e:own b with
 | none=>rfl
 | some l=>have:=h b (by rw [e];simp);omega

theorem B1P (n b v:Nat) (cv qv:Value):splice (X4 n b cv qv) 1 (A3 32 v)=X4 n v cv qv:=by
 have h1:(A3 32 b).length=32:=by simp
 have h2:(A3 32 v).length=32:=by simp
 unfold X4 splice
 rw [List.take_succ_cons,List.take_zero,h2,show 1+32=32+1 from rfl,List.drop_succ_cons,List.drop_append_of_le_length (by omega),List.drop_of_length_le (by omega)]
 rfl
theorem A21 {w:World} {own:Own} {sb:Nat} {S:St} {M:List (Nat × St)} {n:Nat} (h:StateAt TU w own sb S M n) (a v:Nat) (ha:a < wA) (hv:v < wW) (hn:n≤1099511627776) :
  Calls Tryz.prog 292 #[.pointer (some ⟨sb,0,none⟩),.agg (A3 20 a).toArray,.agg (A3 32 v).toArray] w fun e w'=>e = .returned (.tuple #[])∧∃ own',StateAt TU w' own' sb (S.setBal a v) M (n+1)∧T6 w w' own own':=by
 obtain ⟨mb,uv,mv,last,E,U,mk,s,hM,hb1,hb2,hb3⟩:=h
 have hl0:(A3 20 a).length=20:=by simp
 have hl1:(A3 32 v).length=32:=by simp
 have hb0:Below w.heap.size w ((w.alloc (.cells (A3 20 a).toArray 23)).alloc (.cells (A3 32 v).toArray 25)):=(((Below.refl _ _).alloc (Nat.le_refl _) _).alloc (by simp) _)
 have HW:Hid (∃ w0,w0=((w.alloc (.cells (A3 20 a).toArray 23)).alloc (.cells (A3 32 v).toArray 25))∧Below w.heap.size w w0∧(w0.row? (w.heap.size) 0 20=some (A3 20 a)∧w0.row? (w.heap.size+1) 0 32=some (A3 32 v))∧O6 TU w0 own sb mb uv mv last E U mk S):=by
  refine ⟨_,rfl,hb0,⟨?_,?_⟩,s.only (R:=fun _=>False) (A0.of_below_size hb0) (fun _ h=>h.elim)⟩
  ·rw [World.row?_alloc_lt _ (by simp)];exact World.row?_alloc_at _ _ _ (by simp) hl0
  ·exact World.row?_alloc_at _ _ _ (by simp) hl1
 obtain ⟨w0,e0,b0,⟨r0,r1⟩,s0⟩:=HW.out
 have HE0:=hid e0
 have HB0:=hid b0
 have hol0:=D4 s.low (show w.heap.size≤w.heap.size by omega)
 have HOL0:=hid hol0
 have hnl0:w.heap.size < w0.heap.size:=World.row?_lt r0
 have hol1:=D4 s.low (show w.heap.size≤w.heap.size+1 by omega)
 have HOL1:=hid hol1
 have hnl1:w.heap.size+1 < w0.heap.size:=World.row?_lt r1
 have s0d:=s0.only (R:=fun _=>False) (A0.refl _ _).drew (fun _ h=>h.elim)
 have HS:=hid s0d
 have HSt:Hid (StateAt TU w0.drew own sb S M n):=⟨mb,uv,mv,last,E,U,mk,s0d,hM,hb1,hb2,hb3⟩
 have HM:=hid hM
 have HN:Hid (last≤n∧U.length≤n∧mk.length≤n∧E.length≤n+1000000):=⟨hb1,hb2,hb3⟩
 have hlay:=C0E A4z (A3 20 0) (A3 20 a) (A3 32 0) (A3 32 (S a).bal) 20 rfl (by simp) (by simp) (by simp)
 have HSn:Hid ((S a).bal < wW):=by
  rcases A3l s a with ⟨p,_,hx⟩ | ⟨_,hx⟩
  ·exact hx.bal
  ·show (S a).bal < wW
   rw [hx];show 0 < wW;decide
 generalize hnn:(S a).bal=old at *
 have HOld:=hid hnn
 clear hnn
 obtain ⟨T,hT⟩:∃ T:World→Prop,T=fun w'=>w'.row? (w.heap.size) 0 20=some (A3 20 a)∧w'.row? (w.heap.size+1) 0 32=some (A3 32 v):=⟨_,rfl⟩
 have HT:=hid hT
 have t0:T w0.drew:=by rw [hT];exact ⟨r0,r1⟩
 clear HW s hM hb1 hb2 hb3 hb0 e0 b0 s0 s0d hT hol0 hol1
 go_enter Tryz.func292,Tryz.ntmps292
 go_wp2_with fail
 rw [← HE0.out]
 refine S8 T [0,1,2,3,4,9] [5,6,7,8,10,11,12] (by kernel_rfl) (by kernel_rfl) t0 ?_
 refine A6 (.pointer (some ⟨sb,0,none⟩)) rfl (by rfl) (fun w' hs=>?_) (fun _ _ _ h=>h) ?_
 ·go_simp
 refine A6 (.agg (A3 20 a).toArray) rfl (by rfl) (fun w' hs=>?_) (fun _ _ _ h=>h) ?_
 ·rw [HT.out] at hs
  obtain ⟨s0,s1⟩:=hs
  go_simp
 refine A6 (.agg (A3 20 a).toArray) rfl (by rfl) (fun w' hs=>?_) (fun _ _ _ h=>h) ?_
 ·rw [HT.out] at hs
  obtain ⟨s0,s1⟩:=hs
  go_simp
 refine A6 (.pointer (some ⟨sb,0,none⟩)) rfl (by rfl) (fun w' hs=>?_) (fun _ _ _ h=>h) ?_
 ·go_simp
 refine A6 (.agg (A3 20 a).toArray) rfl (by rfl) (fun w' hs=>?_) (fun _ _ _ h=>h) ?_
 ·rw [HT.out] at hs
  obtain ⟨s0,s1⟩:=hs
  go_simp
 refine A6 (.agg (A3 32 v).toArray) rfl (by rfl) (fun w' hs=>?_) (fun _ _ _ h=>h) ?_
 ·rw [HT.out] at hs
  obtain ⟨s0,s1⟩:=hs
  go_simp
 refine P5 ?_
 simp only [Act.put,D7,D6,D5]
 refine C5 rfl (fun K hK=>?_)
 go_simp
 refine (A0v HSt.out a ha).mono ?_
 rintro e w1 ⟨rfl,hb⟩
 rw [HOld.out]
 have o1:A0 (fun _=>False) w0.drew w1:=A0.of_below_size hb
 have t1:T w1:=by rw [HT.out] at t0 ⊢;exact ⟨(o1.row? hnl0 id).trans t0.1,(o1.row? hnl1 id).trans t0.2⟩
 have HS1:=hid (HS.out.only o1 (fun _ h=>h.elim))
 have HB1:Hid (Below w.heap.size w w1):=(HB0.out.drew).trans (hb.mono HB0.out.size)
 clear hb o1
 refine hK.out _ _ t1 ?_
 clear hK K
 refine C5 rfl (fun K hK=>?_)
 go_simp
 refine hK.out _ _ t1 ?_
 clear hK K
 refine C5 rfl (fun K hK=>?_)
 go_simp
 refine hK.out _ _ t1 ?_
 clear hK K
 refine C5 rfl (fun K hK=>?_)
 go_simp
 refine (A6F HS1.out.toStaCore a ha (.bal a old) ⟨ha,HSn.out⟩ (by have:=HN.out;omega)).mono ?_
 rintro e w2 ⟨p,uv2,E2,own2,rfl,s2,hp,hx,hE,g2⟩
 have hlt0:w.heap.size < w1.heap.size:=by rw [HT.out] at t1;exact World.row?_lt t1.1
 have hlt1:w.heap.size+1 < w1.heap.size:=by rw [HT.out] at t1;exact World.row?_lt t1.2
 have t2:T w2:=by rw [HT.out] at t1 ⊢;exact ⟨K5 t1.1 HOL0.out g2,K5 t1.2 HOL1.out g2⟩
 have hnd:=A2v (U:=U) HS1.out.nodup (fun q hq=>HS1.out.low q (by rw [HS1.out.ptr_lab q hq];simp)) hE J7
 have hnd2:(E2.map Prod.snd++M8 (A0g mk (.bal a old) U)).Nodup:=by rw [show M8 (A0g mk (.bal a old) U)=M8 U by unfold A0g;split <;> rfl];exact hnd
 have HCl:Hid (∀ wm w3 own3 x R,A0 (fun _=>False) w2 wm→own2.le own3→(∀ b,own3 b≠none→b < wm.heap.size)→(∀ b,b < w2.heap.size→own3 b=own2 b)→L5 w3 own3 p x→A0 R wm w3 →
   (∀ b,R b→b=p∨own3 b=some (.smap p)∨own3 b=none)→(∀ b,R b→b < w2.heap.size→own2 b≠none)→A20 (Z9 S a x) (.bal a old)=S→StateAt TU w3 own3 sb (Z9 S a x) M (n+1)∧T6 w w3 own own3):=by
  intro wm w3 own3 x R hom hle hlow hext hx' ho hR hRo hu
  have s3:=A7o ((s2.only hom (fun _ h=>h.elim)).le hle hlow) hnd2 s2.map.nodup hp ho hR hx'
  exact ⟨A6E HS1.out HM.out HN.out hE hp rfl (by simp) (by simp) hu s3,((T6.below own HB1.out).trans g2).trans ⟨hext,(hom.mono (fun _ h=>h.elim)).trans ho fun i hi hlt=>hRo i hi hlt⟩⟩
 have HX:=hid hx
 have HG2:=hid g2
 have HLow2:=hid s2.low
 have hpl:own2 p=some .acc:=hx.lab
 have hpw0:¬ w.heap.size=p:=fun e=>by
  have:=g2.ext (w.heap.size) hlt0
  rw [HOL0.out,e,hpl] at this;cases this
 have hpw1:¬ w.heap.size+1=p:=fun e=>by
  have:=g2.ext (w.heap.size+1) hlt1
  rw [HOL1.out,e,hpl] at this;cases this
 clear s2 hp hx hE g2 hnd hnd2
 obtain ⟨cv,q,sl,h1,h2,h3,h4,h5⟩:=HX.out.cells
 have hf:w2.free? p 1 32=true:=World.free?_sub HX.out.free (by omega)
 have hok:=D2 32 v
 have HA:Hid (∀ w3,w3=w2.setCells p 1 (A3 32 v)→∃ own',StateAt TU w3 own' sb (S.setBal a v) M (n+1)∧T6 w w3 own own'):=by
  rintro w3 rfl
  have ho:A0 (· = p) w2 (w2.setCells p 1 (A3 32 v)):=(A0.refl (· = p) w2).setCells (fun _=>rfl) _ _
  have hx':L5 (w2.setCells p 1 (A3 32 v)) own2 p { S a with bal:=v }:=by
   have hqp:¬ q=p:=fun e=>by rw [e,hpl] at h3;cases h3
   refine ⟨hpl,by rw [World.free?_setCells'];exact HX.out.free,⟨cv,q,sl,?_,h2.only ho (fun b hb=>by rw [hb,hpl];simp),h3,h4.only ho hqp,h5⟩,HX.out.nonce,hv⟩
   rw [World.row?_setCells_in 1 _ h1 (Nat.zero_le _) (by simp)]
   exact congrArg some (B1P _ _ _ _ _)
  obtain ⟨c1,c2⟩:=HCl.out w2 _ own2 _ _ (A0.refl _ _) (fun _ _ h=>h) HLow2.out (fun _ _=>rfl) hx' ho (fun b hb => .inl hb) (fun b hb _=>by rw [hb,hpl];simp) (by
   simp only [A20,St.setBal,A1a,B0V];rw [← HOld.out];exact A8j S a)
  exact ⟨own2,c1,c2⟩
 clear h1 h2 h3 h4 h5 hpl HX
 refine hK.out _ _ t2 ?_
 clear hK K
 refine C5 rfl (fun K hK=>?_)
 go_simp
 refine hK.out _ _ t2 ?_
 clear hK K
 refine C5 rfl (fun K hK=>?_)
 go_simp
 refine hK.out _ _ t2 ?_
 clear hK K
 refine C5 rfl (fun K hK=>?_)
 go_simp
 refine hK.out _ _ (by rw [HT.out] at t2 ⊢;exact ⟨(World.row?_setCells_other _ _ _ hpw0).trans t2.1,(World.row?_setCells_other _ _ _ hpw1).trans t2.2⟩) (V4 ?_)
 clear hK K
 go_wp2
 go_end0
 exact ⟨rfl,HA.out _ rfl⟩
end Go.Proofs.YtfflppedbopdpaaGreat
