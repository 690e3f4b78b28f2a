/- A part of the proof of EvmLoops: XRs4. -/
import Derived.Test.YtfflppedbopdpaaGreatXCx0
set_option linter.unusedVariables false
set_option maxRecDepth 1000000
set_option maxHeartbeats 8000000
set_option linter.unusedSimpArgs false
namespace Go.Proofs.YtfflppedbopdpaaGreat
open Go.RowKit Go.Mun

end Go.Proofs.YtfflppedbopdpaaGreat
namespace Go.Mun
open Go.RowKit
def hot (own:Own) (b:Nat):Prop:=own b≠none∧own b≠some .code∧own b≠some (.smap 0)
structure K1 (w w':World) (own own':Own):Prop where
 ext:∀ b,b < w.heap.size→own' b=own b
 only:A2 (hot own) w w'
theorem K1.refl (w:World) (own:Own):K1 w w own own:=⟨fun _ _=>rfl,A2.refl _ _⟩
theorem K1.below {w w':World} (own:Own) (h:Below w.heap.size w w'):K1 w w' own own:=⟨fun _ _=>rfl,A2.of_below_size h⟩
theorem K1.trans {w w1 w2:World} {own own1 own2:Own} (h:K1 w w1 own own1) (k:K1 w1 w2 own1 own2):K1 w w2 own own2:=
 ⟨fun b hb=>(k.ext b (Nat.lt_of_lt_of_le hb h.only.size)).trans (h.ext b hb),h.only.trans k.only fun i hi hb=>by unfold hot at *;rw [← h.ext i hb];exact hi⟩
theorem K1.chg {w w':World} {own own':Own} (h:K1 w w' own own'):T6 w w' own own':=⟨h.ext,h.only.mono fun b hb=>hb.1⟩
theorem A2P {own:Own} {b:Nat} {l:Lab} (h:own b=some l) (h1:l≠.code) (h2:l≠.smap 0):hot own b:=⟨by rw [h];simp,by rw [h];simpa using h1,by rw [h];simpa using h2⟩
end Go.Mun
namespace Go.Proofs.YtfflppedbopdpaaGreat
open Go.RowKit Go.Mun

theorem _root_.Go.Mun.RStC.newArr {w w':World} {own:Go.Mun.Own} {sb:Nat} {lv mv v':Value} {ps ps':List (J3 × Value × Value)} {ms:List (Nat × Value × List (J3 × Value × Value))} {n:Nat} (h:RStC w own sb lv mv ps ms n) (ho:A2 (· = sb) w w')
  (hrow:w'.row? sb 0 3=some [v',mv,.int .i64 n]) (hfree:w'.free? sb 0 3=true) (hc:w'.ownsRow 0 35 55 v' ps'.length (G8 ps')) (hnew:∀ g,v'.ownBlock=some g→w.heap.size≤g) (hup:Q1 (ps'.map fun p=>p.1))
  (hok:∀ p∈ps',U4 w own p):RStC w' (fun b=>if v'.ownBlock=some b then some .acc else own b) sb v' mv ps' ms n∧K1 w w' own (fun b=>if v'.ownBlock=some b then some .acc else own b):=by
 have hle:own.le (fun b=>if v'.ownBlock=some b then some .acc else own b):=by
  intro b l hb
  have hlt:=h.low b (by rw [hb];simp)
  show (if v'.ownBlock=some b then some Lab.acc else own b)=some l
  rw [if_neg (fun e=>by have:=hnew b e;omega)]
  exact hb
 have hS:∀ b,(fun b=>b=sb) b→own b≠some .code∧own b≠some (.smap 0):=fun b hb=>by
  have:b=sb:=hb
  rw [this,h.lab];simp
 have hsb:∀ {v:Value} {l:Lab},l≠.st→(∀ g,v.ownBlock=some g→own g=some l)→∀ g,v.ownBlock=some g→¬ (g=sb):=fun hl hv g hg e=>by
  have:=hv g hg
  rw [e,h.lab] at this
  cases this
  exact hl rfl
 refine ⟨{
  lab:=hle _ _ h.lab
  row:=hrow
  free:=hfree
  arr:=⟨hc,fun g hg=>by show (if v'.ownBlock=some g then some Lab.acc else own g)=_;rw [if_pos hg],fun p hp=>((hok p hp).only ho hS).le hle⟩
  up:=hup
  marks:=A2.own h.marks ho fun g hg=>hsb (by simp) h.mlab g hg
  mlab:=fun g hg=>hle _ _ (h.mlab g hg)
  each:=fun m hm=>⟨((h.each m hm).1.only ho hS (hsb (by simp) (h.each m hm).1.lab)).le hle,(h.each m hm).2⟩
  apart:=?_
  low:=?_
  count:=h.count },⟨?_,?_⟩⟩
 ·refine List.pairwise_cons.2 ⟨fun b hb=>?_,(List.pairwise_cons.1 h.apart).2⟩
  obtain ⟨m,hm,rfl⟩:=List.mem_map.1 hb
  cases hg:v'.ownBlock with
  | none=>exact .inl rfl
  | some g =>
   refine .inr fun e=>?_
   have h1:=hnew g hg
   have h2:=h.low g (by rw [(h.each m hm).1.lab g e.symm];simp)
   omega
 ·intro b hb
  by_cases e:v'.ownBlock=some b
  ·exact C8 hc b e
  ·have hb2:own b≠none:=by
    intro hn
    apply hb
    show (if v'.ownBlock=some b then some Lab.acc else own b)=none
    rw [if_neg e];exact hn
   exact Nat.lt_of_lt_of_le (h.low b hb2) ho.size
 ·intro b hb
  show (if v'.ownBlock=some b then some Lab.acc else own b)=own b
  rw [if_neg (fun e=>by have:=hnew b e;omega)]
 ·exact ho.mono fun b hb=>by
   have:b=sb:=hb
   exact A2P (by rw [this];exact h.lab) (by simp) (by simp)
theorem A3a {w:World} {own:Go.Mun.Own} {a:Nat} (ha:a < wA):U4 w own (J3.new a,.slice none 0 0,.slice none 0 0):=
 ⟨⟨⟨none,0,rfl,⟨fun h=>absurd rfl h,fun _=>rfl,Nat.le_refl _,Nat.zero_le _⟩,fun h=>absurd rfl h⟩,fun x hx=>(by cases hx),Nat.zero_le _⟩,⟨World.ownsRow_nil _ _ _ _,fun g hg=>(by simp [Value.ownBlock] at hg),fun p hp=>(by cases hp),Nat.zero_le _⟩,ha,(show 0 < wW by decide),⟨Int.le_refl _,(show (0:Int)≤9223372036854775807 by decide)⟩⟩
theorem B9c (ρ:Operand→Value) (dst:Option Tmp) (x y:Operand) (t:TypeId) (pos:String) (after:Array Edge) (gd:Option (Nat × Bool)) (w:World):(execOp ρ ⟨dst,.store 45 x y,t,pos,after,gd⟩).run Tryz.prog w=L1 (A0S Tryz.prog 45 (ρ x) (ρ y) w):=N9 ρ dst x y t pos after gd w (by kernel_rfl)
attribute [go_sem ↓] B9c
theorem E1 {w:World} {b e s n:Nat} {v:Value} {xs:List Value} (h:w.ownsRow b e s v n xs):∃ ad c,v = .slice ad n c:=by
 rcases h.2 with ⟨rfl,rfl⟩ | ⟨g,cap,cur,rfl,_⟩
 ·exact ⟨none,0,rfl⟩
 ·exact ⟨_,_,rfl⟩
theorem A4O {w:World} {a:Option Addr} {n c size e base:Nat} {cs:List Value} (h:w.ownsRow base e size (.slice a n c) n cs) (hok:P0 (n*size) cs=true):F0 w a c n size cs:=by
 refine ⟨hok,fun hm=>?_,fun e=>?_⟩
 ·obtain ⟨g,c',hv,_,hc,_,hr,_⟩:=I3 h (by omega)
  cases hv
  refine ⟨g,0,rfl,fun j u hu=>?_⟩
  have hj:=(List.getElem?_eq_some_iff.1 hu).1
  rw [L2 hok] at hj
  have:=World.row?_cell hr (i:=j) hj
  rw [this];exact hu
 ·subst e
  rcases h.2 with ⟨h1,h2⟩ | ⟨g,cap,cur,h1,h2,h3,h4⟩
  ·injection h1 with e1 e2 e3;omega
  ·injection h1 with e1 e2 e3;cases e1
theorem B15 {v w w':World} {own:Go.Mun.Own} {sb a n:Nat} {lv mv v':Value} {ps:List (J3 × Value × Value)} {ms:List (Nat × Value × List (J3 × Value × Value))} {k N:Nat} (h:RStC v own sb lv mv ps ms n) (hb:Below v.heap.size v w) (ha:a < wA) (hk:k=T4 (ps.map fun p=>p.1) a) (hnot:¬ A5Q (ps.map fun p=>p.1) a)
  (hN:N=k+1+(ps.length - k)) (hv:w.ownsRow 0 35 55 v' N ((([]++G8 (ps.take k))++I5 (J3.new a,.slice none 0 0,.slice none 0 0))++G8 (ps.drop k))) (hnew:∀ g,v'.ownBlock=some g→v.heap.size≤g) (hw':w'=w.setCell ⟨sb,0,none⟩ v') :
  ∃ own',N=(ps.take k++(J3.new a,.slice none 0 0,.slice none 0 0) :: ps.drop k).length∧RStC w' own' sb v' mv (ps.take k++(J3.new a,.slice none 0 0,.slice none 0 0) :: ps.drop k) ms n∧K1 v w' own own'∧w'.cell? ⟨sb,0,none⟩=some v':=by
 have hkl:k≤ps.length:=by rw [hk];have:=A4P (ps.map fun p=>p.1) a;rwa [List.length_map] at this
 have hlen:(ps.take k++(J3.new a,.slice none 0 0,.slice none 0 0) :: ps.drop k:List (J3 × Value × Value)).length=k+1+(ps.length - k):=by
  rw [List.length_append,List.length_take,Nat.min_eq_left hkl,List.length_cons,List.length_drop];omega
 have hcells:(([]++G8 (ps.take k))++I5 (J3.new a,.slice none 0 0,.slice none 0 0))++G8 (ps.drop k)=G8 (ps.take k++(J3.new a,.slice none 0 0,.slice none 0 0) :: ps.drop k):=by
  rw [A19,T3,List.nil_append,List.append_assoc]
 rw [← hN] at hlen
 rw [hcells,← hlen] at hv
 obtain ⟨g,c,e,_,_,_,_,_⟩:=I3 hv (by rw [hlen,hN];omega)
 have hsz:=hb.size
 have hsl:=World.row?_lt h.row
 have hgs:g≠sb:=fun e2=>by have:=hnew g (by rw [e];rfl);omega
 have ho:A2 (· = sb) w w':=by rw [hw'];exact E5 _ _ _ _
 have hoV:A2 (· = sb) v w':=(A2.of_below_size hb).trans ho (fun i h _=>h)
 have hwr:w.row? sb 0 3=some [lv,mv,.int .i64 n]:=((D2 hb).1 _ _ _ hsl).trans h.row
 have hwf:w.free? sb 0 3=true:=((D2 hb).2 _ _ _ hsl).trans h.free
 have hrow:w'.row? sb 0 3=some [v',mv,.int .i64 n]:=by
  rw [hw',G9 v' hwr (Nat.zero_le _) (by omega)]
  rfl
 have hup:Q1 ((ps.take k++(J3.new a,.slice none 0 0,.slice none 0 0) :: ps.drop k:List (J3 × Value × Value)).map fun p=>p.1):=by
  have:=B0i h.up hnot
  unfold atR at this
  rw [← hk] at this
  simpa [List.map_append,List.map_take,List.map_drop] using this
 obtain ⟨h1,h2⟩:=h.newArr (v':=v') hoV hrow (by rw [hw',D0];exact hwf) (A2.own hv ho fun g2 hg2 e2=>by rw [e] at hg2;simp [Value.ownBlock] at hg2;omega) hnew hup (fun p hp=>by
  rcases List.mem_append.1 hp with h3 | h3
  ·exact h.arr.ok p (List.mem_of_mem_take h3)
  ·rcases List.mem_cons.1 h3 with rfl | h3
   ·exact A3a ha
   ·exact h.arr.ok p (List.mem_of_mem_drop h3))
 have hc:=World.row?_cell hrow (i:=0) (by omega)
 exact ⟨_,hlen.symm,h1,h2,hc⟩
def AtR (a:Nat) (ps ps':List (J3 × Value × Value)):Prop:=
 (A5Q (ps.map fun p=>p.1) a∧ps'=ps)∨(¬ A5Q (ps.map fun p=>p.1) a∧ps'=ps.take (T4 (ps.map fun p=>p.1) a)++(J3.new a,.slice none 0 0,.slice none 0 0) :: ps.drop (T4 (ps.map fun p=>p.1) a))
theorem A30 (a:Nat):I1 55 (O7 L9) (B7 L9) [(0,.agg (A3 20 a).toArray)]=some (I5 (J3.new a,.slice none 0 0,.slice none 0 0)):=by
 rw [G7 _ _ _ X1]
 ·rfl
 ·rw [B62]
  refine C1 ?_ (L4 _)
  show some 20=some (A3 20 a).length;rw [B0]
attribute [local irreducible] wpStill
theorem C0s {w:World} {own:Go.Mun.Own} {sb a n:Nat} {lv mv:Value} {ps:List (J3 × Value × Value)} {ms:List (Nat × Value × List (J3 × Value × Value))} (h:RStC w own sb lv mv ps ms n) (ha:a < wA) (hl:ps.length≤1000000) :
  Calls Tryz.prog 169 #[.pointer (some ⟨sb,0,none⟩),.agg (A3 20 a).toArray] w fun e w' => ∃ own' g c ps',e = .returned (.pointer (some ⟨g,T4 (ps.map fun p=>p.1) a*55,none⟩))∧RStC w' own' sb (.slice (some ⟨g,0,none⟩) ps'.length c) mv ps' ms n∧K1 w w' own own'∧AtR a ps ps':=by
 obtain ⟨la,lc,rfl⟩:=h.arr.form
 obtain ⟨w1,e1⟩:∃ w1,w1=w.alloc (.cells (A3 20 a).toArray 23):=⟨_,rfl⟩
 have hb1:Below w.heap.size w w1:=by rw [e1];exact (Below.refl _ _).alloc (Nat.le_refl _) _
 have r1:w1.row? w.heap.size 0 20=some (A3 20 a):=by rw [e1];exact World.row?_alloc_at _ _ _ rfl (B0 _ _)
 have h1:RStC w1 own sb (.slice la ps.length lc) mv ps ms n:=h.only (S:=fun _=>False) (A2.of_below_size hb1) (fun _ h=>h.elim)
 obtain ⟨m,hm⟩:∃ m,m=ps.length:=⟨_,rfl⟩
 obtain ⟨k9,hk9⟩:∃ k9,k9=T4 (ps.map fun p=>p.1) a:=⟨_,rfl⟩
 have hpl:k9≤m:=by rw [hk9,hm];have:=A4P (ps.map fun p=>p.1) a;rwa [List.length_map] at this
 have HBL:Hid (∀ i (hi:i < ps.length),i < k9→ps[i].1.ac.addr < a):=by
  intro i hi hik
  obtain ⟨x,hx,hlt⟩:=A7H (ps.map fun p=>p.1) a i (by rw [← hk9];exact hik)
  rw [List.getElem?_map,List.getElem?_eq_getElem hi] at hx
  simp at hx;rw [hx];exact hlt
 have HGE:Hid (∀ (hi:k9 < ps.length),a≤ps[k9].1.ac.addr):=by
  intro hi
  have:=A7I (ps.map fun p=>p.1) a (ps[k9].1) (by rw [← hk9,List.getElem?_map,List.getElem?_eq_getElem hi];rfl)
  exact this
 have HHAS:Hid (A5Q (ps.map fun p=>p.1) a↔∃ (hi:k9 < ps.length),ps[k9].1.ac.addr=a):=by
  unfold A5Q
  rw [← hk9]
  constructor
  ·rintro ⟨x,hx,hxa⟩
   rw [List.getElem?_map] at hx
   cases hg:ps[k9]? with
   | none=>rw [hg] at hx;cases hx
   | some y =>
    rw [hg] at hx
    obtain ⟨hi,he⟩:=List.getElem?_eq_some_iff.1 hg
    refine ⟨hi,?_⟩
    simp at hx
    rw [he,hx];exact hxa
  ·rintro ⟨hi,he⟩
   exact ⟨ps[k9].1,by rw [List.getElem?_map,List.getElem?_eq_getElem hi];rfl,he⟩
 have H1:=hid h1
 have HE:=hid e1
 have HB1:=hid hb1
 have HR1:=hid r1
 have HM:=hid hm
 have HK:=hid hk9
 rw [← hk9]
 rw [← hm] at hl
 have hla:=B0 20 a
 clear h h1 e1 hb1 r1 hk9
 go_enter Tryz.func169,Tryz.ntmps169
 go_wp2_with fail
 rw [← HE.out]
 go_loopw [5] (fun ix wr => ∃ k:Nat,k≤k9∧ix = .int .i64 (k:Int)∧Below w1.heap.size w1 wr) (fun ix _=>k9+1 - (intOf ix).toNat)
 case atStart=>exact ⟨0,by omega,rfl,Below.refl _ _⟩
 case round =>
  obtain ⟨k,hk,rfl,hbw⟩:=hrel
  have hw2:RStC wr.drew own sb (.slice la ps.length lc) mv ps ms n:=H1.out.only (S:=fun _=>False) (A2.of_below_size hbw.drew) (fun _ h=>h.elim)
  have c0:=World.row?_cell hw2.row (i:=0) (by omega)
  simp only [Nat.zero_add,List.getElem?_cons_zero] at c0
  rw [← hm] at c0
  have r2:wr.drew.row? w.heap.size 0 20=some (A3 20 a):=((D2 hbw.drew).1 _ _ _ (World.row?_lt HR1.out)).trans HR1.out
  have HBW:=hid hbw
  have HW2:=hid hw2
  clear hbw hw2
  by_cases hkm:k < m
  ·have hkp:k < ps.length:=by omega
   obtain ⟨g,c',hlv,hgo,hrow,hfr⟩:=HW2.out.arr.row hkp
   cases hlv
   have hxa:=(HW2.out.arr.ok _ (List.getElem_mem hkp)).addr
   have hb:=HBL.out k hkp
   obtain ⟨x,hx⟩:∃ x,x=ps[k].1.ac.addr:=⟨_,rfl⟩
   have r3:wr.drew.row? g (k*55) 20=some (A3 20 x):=by rw [hx];exact J5 hrow (i:=0) rfl (by simp [P4,A5]) (by simp)
   have q1:=A53 r3
   have q2:=A53 r2
   have s1:=A8J g (k*55) wr.drew
   have s2:=A8J w.heap.size 0 wr.drew
   have hless:=B1E 20 x a (by rw [B3D,hx];exact hxa) (by rw [B3D];exact ha)
   have HX:=hid hx
   have hkI:(k:Int) < m:=by omega
   have dk:decide ((k:Int) < (m:Int))=true:=decide_eq_true hkI
   have dn:(k < m)=True:=eq_true hkm
   by_cases hkk:k < k9
   ·have dlt:decide (x < a)=true:=decide_eq_true (by rw [hx];exact hb hkk)
    rw [dlt] at hless
    clear hx hb hrow hfr
    generalize A0R (be 20 x)=sx at *
    generalize A0R (be 20 a)=sa at *
    go_wp2_with fail
    refine wp_region_still_lit (by kernel_rfl) (by kernel_rfl) ?_
    change wpStill _ _ (World.drew _) _ _ _
    repeat still_step
    refine wpStill_nil ?_
    have hk1:IntKind.i64.wrap ((k:Int)+1)=((k+1:Nat):Int):=by rw [V3 _ (by omega) (by omega)];omega
    go_wp2_with fail
    go_roundw
    case rel=>exact ⟨k+1,by omega,by go_num,HBW.out.drew⟩
    case measure=>simp [intOf];omega
   ·obtain rfl:k=k9:=by omega
    have hge:a≤x:=by rw [hx];exact HGE.out hkp
    have dlt:decide (x < a)=false:=decide_eq_false (by omega)
    rw [dlt] at hless
    have hhas:=HHAS.out
    have hxx:ps[k].1.ac.addr=x:=hx.symm
    have HH:Hid (A5Q (ps.map fun p=>p.1) a↔x=a):=⟨fun h=>by obtain ⟨_,h2⟩:=hhas.1 h;rw [hxx] at h2;exact h2,fun h=>hhas.2 ⟨hkp,by rw [hxx];exact h⟩⟩
    have c0':wr.drew.drew.cell? ⟨sb,0,none⟩=some (.slice (some ⟨g,0,none⟩) m lc):=c0
    have r3':wr.drew.drew.row? g (k*55) 20=some (A3 20 x):=r3
    have r2':wr.drew.drew.row? w.heap.size 0 20=some (A3 20 a):=r2
    have heq:=eqA (a:=x) (b:=a) (by rw [hx];exact hxa) ha wr.drew.drew
    have HW3:=hid (HW2.out.only (S:=fun _=>False) (A2.of_below_size (Below.refl _ _).drew) (fun _ h=>h.elim))
    have HB3:Hid (Below w.heap.size w wr.drew.drew):=HB1.out.trans (HBW.out.drew.drew.mono HB1.out.size)
    have hknm:((k:Int) == (ps.length:Int))=false:=by simp;omega
    have hknd:decide ((k:Int)=(ps.length:Int))=false:=decide_eq_false (by omega)
    clear hx hb hrow hfr hhas hxx hge hxa
    generalize A0R (be 20 x)=sx at *
    generalize A0R (be 20 a)=sa at *
    go_wp2_with fail
    refine wp_region_still_lit (by kernel_rfl) (by kernel_rfl) ?_
    change wpStill _ _ (World.drew _) _ _ _
    repeat still_step
    refine wpStill_nil ?_
    change Exit.then _ _ _ _ wr.drew
    by_cases hxa:x=a
    ·have deq:decide (x=a)=true:=decide_eq_true hxa
     rw [deq] at heq
     have HP:Hid (AtR a ps ps):=.inl ⟨HH.out.2 hxa,rfl⟩
     clear hxa deq dlt
     go_wp2_with fail
     refine wp_region_still_lit (by kernel_rfl) (by kernel_rfl) ?_
     change wpStill _ _ (World.drew _) _ _ _
     repeat still_step
     refine wpStill_nil ?_
     change Exit.then _ _ _ _ wr.drew.drew
     go_wp2
     go_ret
     exact ⟨own,g,lc,ps,rfl,HW3.out,K1.below own HB3.out,HP.out⟩
    ·have deq:decide (x=a)=false:=decide_eq_false hxa
     rw [deq] at heq
     have HNOT:Hid (¬ A5Q (ps.map fun p=>p.1) a):=fun h=>hxa (HH.out.1 h)
     clear hxa deq dlt
     go_wp2_with fail
     refine wp_region_still_lit (by kernel_rfl) (by kernel_rfl) ?_
     change wpStill _ _ (World.drew _) _ _ _
     repeat still_step
     refine wpStill_nil ?_
     change Exit.then _ _ _ _ wr.drew.drew
     have HV:=HW3
     have RV:Hid (wr.drew.drew.row? w.heap.size 0 20=some (A3 20 a)):=r2'
     clear r2' r3' c0' heq r2 r3 c0 q1 q2 s1 s2 hless dk dn hknm hknd
     generalize wr.drew.drew=V at *
     have hlcap:k≤lc:=by
      rcases HV.out.arr.cells.2 with ⟨h1,h2⟩ | ⟨g2,cap,cur,h1,_,_,h3,_⟩
      ·injection h1 with e1 e2 e3;omega
      ·injection h1 with e1 e2 e3;omega
     obtain ⟨tn,htn⟩:∃ tn,tn=ps.length - k:=⟨_,rfl⟩
     obtain ⟨ta,hta⟩:∃ ta,ta=A6E (some ⟨g,0,none⟩) ps.length lc k:=⟨_,rfl⟩
     obtain ⟨tc,htc⟩:∃ tc,tc=lc - k:=⟨_,rfl⟩
     have hsl:=A3x (some ⟨g,0,none⟩) ps.length lc k (by omega)
     have hsh:=A3y (some ⟨g,0,none⟩) ps.length lc k hlcap
     have hst:=HV.out.arr.src_tail k (by omega)
     rw [← htn,← hta,← htc] at hsl hst
     have HSH:Hid (∀ W,Below V.heap.size V W→F0 W (some ⟨g,0,none⟩) lc k 55 (G8 (ps.take k))):=fun W hW=>(HV.out.only (S:=fun _=>False) (A2.of_below_size hW) (fun _ h=>h.elim)).arr.src_head k (by omega)
     have cv:=World.row?_cell HV.out.row (i:=0) (by omega)
     simp only [Nat.zero_add,List.getElem?_cons_zero] at cv
     have HST:=hid hst
     have htn2:tn≤1000000:=by omega
     have HTN:=hid htn
     clear hst hta htc htn
     go_wp2_with (at_builtin;go_must (refine G6 A1s rfl _ _ rfl (World.ownsRow_nil _ _ _ _) rfl HST.out rfl ?c1 ?c2 ?_))
     case c1=>unfold maxLen;omega
     case c2=>omega
     intro v6 w6 hv6 ho6 hn6
     obtain ⟨a6,c6,rfl⟩:=E1 hv6
     have hb6:Below V.heap.size V w6:=ho6.below (Nat.le_refl _) (fun i hi=>by simp [Value.ownBlock] at hi)
     have HV6:=hid hv6
     have HB6:=hid hb6
     have hrow6:=((D2 hb6).1 _ _ _ (World.row?_lt HV.out.row)).trans HV.out.row
     have hfree6:=((D2 hb6).2 _ _ _ (World.row?_lt HV.out.row)).trans HV.out.free
     have hbx6:=((D2 hb6).1 _ _ _ (World.row?_lt RV.out)).trans RV.out
     have HOK6:Hid (P0 (tn*55) (G8 (ps.drop k))=true):=by
      have:=A3C (ps:=ps.drop k) (fun p hp=>HV.out.arr.ok p (List.mem_of_mem_drop hp))
      rwa [List.length_drop,← HTN.out] at this
     obtain ⟨T,hT⟩:∃ T:World→Prop,T=fun W=>W.row? sb 0 3=some [.slice (some ⟨g,0,none⟩) ps.length lc,mv,.int .i64 n]∧W.free? sb 0 3=true∧W.row? w.heap.size 0 20=some (A3 20 a):=⟨_,rfl⟩
     have HT:=hid hT
     have HTB:Hid (∀ W W',T W→Below W.heap.size W W'→T W'):=by
      rw [hT];intro W W' hW hb
      exact ⟨((D2 hb).1 _ _ _ (World.row?_lt hW.1)).trans hW.1,((D2 hb).2 _ _ _ (World.row?_lt hW.1)).trans hW.2.1,((D2 hb).1 _ _ _ (World.row?_lt hW.2.2)).trans hW.2.2⟩
     have t0:T w6.drew:=by rw [hT];exact ⟨hrow6,hfree6,hbx6⟩
     obtain ⟨C,hC⟩:∃ C,C=I5 (J3.new a,Value.slice none 0 0,Value.slice none 0 0):=⟨_,rfl⟩
     have hbuild:=A30 a
     rw [← hC] at hbuild
     have hCl:C.length=55:=by rw [hC];exact P5 _
     have HCK:Hid (P0 55 C=true):=by show _=_;rw [hC];exact A2L (A3a (w:=V) (own:=own) ha)
     have HC:=hid hC
     have hb60:Below V.heap.size V w6.drew:=hb6.drew
     have HB60:=hid hb60
     have hv60:w6.drew.ownsRow 0 35 55 (.slice a6 tn c6) tn (G8 (ps.drop k)):=hv6
     have HV60:=hid hv60
     clear hT hC cv hv6 ho6 hn6 hb6 hrow6 hfree6 hbx6 hb60 hv60
     go_wp2_with fail
     refine A6 T [16] (.pure 0 (.pure 1 (.pure 2 (.pure 3 (.take 4 (.pure 5 (.pure 6 (.take 8 (.pure 9 (.pure 12 (.alt 7 (.alt 10 (.alt 11 (.alt 13 (.pure 14 (.pure 15 (.alt 16 .fin .stop))) .stop) .stop) .stop) (.alt 10 (.alt 7 (.alt 11 (.alt 13 (.pure 14 (.pure 15 (.alt 16 .fin .stop))) .stop) .stop) .stop) .stop)))))))))))) (by kernel_rfl) (by kernel_rfl) ?_
     generalize w6.drew=w60 at *
     iterate 6
      first
      |refine A0 ?_ rfl (by rfl) (fun w' hs=>?_) (fun _ _ _ h=>h) ?_
       rotate_left
       ·clear hs
        go_simp
        try rfl
       simp only [Act.put,D6,D5,D4]
      |refine A9 ?_ t0 rfl (by rfl) (fun w' hs=>?_) (fun _ _ _ h=>h) ?_
       rotate_left
       ·rw [HT.out] at hs
        obtain ⟨q1,q2,q3⟩:=hs;have q0:=World.row?_cell q1 (i:=0) (by omega);simp only [Nat.zero_add,List.getElem?_cons_zero] at q0
        go_simp
        try rfl
       simp only [Act.put,D6,D5,D4]
     refine A0 (.slice (some ⟨g,0,none⟩) k lc) rfl (by rfl) (fun w' hs=>?_) (fun _ _ _ h=>h) ?_
     ·clear hs
      go_simp
     simp only [Act.put,D6,D5,D4]
     refine A9 ?_ t0 rfl (by rfl) (fun w' hs=>?_) (fun _ _ _ h=>h) ?_
     rotate_left
     ·rw [HT.out] at hs
      obtain ⟨q1,q2,q3⟩:=hs;have q0:=World.row?_cell q1 (i:=0) (by omega);simp only [Nat.zero_add,List.getElem?_cons_zero] at q0
      go_simp
      try rfl
     simp only [Act.put,D6,D5,D4]
     refine A0 ?_ rfl (by rfl) (fun w' hs=>?_) (fun _ _ _ h=>h) ?_
     rotate_left
     ·clear hs
      refine (B3o _ _ _ _ _ _ _ _).trans ?_
      refine (congrArg (fun r=>F7 (Y0 Tryz.prog 35 _ _ r)) hbuild).trans ?_
      rfl
     simp only [Act.put,D6,D5,D4]
     refine A0 ?_ rfl (by rfl) (fun w' hs=>?_) (fun _ _ _ h=>h) ?_
     rotate_left
     ·clear hs
      go_simp
      try rfl
     simp only [Act.put,D6,D5,D4]
     refine V4 rfl (fun K hK=>?_) ?_
     focus
      refine O6 A1s rfl _ _ rfl (World.ownsRow_nil _ _ _ _) rfl (HSH.out _ HB60.out) rfl (by unfold maxLen;omega) (by omega) ?_
      intro v7 w7 hv7 ho7 hn7
      have hb:Below w60.heap.size w60 w7:=ho7.below (Nat.le_refl _) (fun i hi=>by simp [Value.ownBlock] at hi)
      have t7:T w7:=HTB.out _ _ t0 hb
      have HB7:Hid (Below V.heap.size V w7):=HB60.out.trans (hb.mono HB60.out.size)
      have HV67:=hid (C2 HV60.out hb)
      have HV7:=hid hv7
      have HN7:Hid (∀ g,v7.ownBlock=some g→w60.heap.size≤g):=fun g hg=>(hn7 g hg).resolve_left (by simp [Value.ownBlock])
      clear hb hv7 ho7 hn7
      refine hK.out _ _ t7 ?_
      clear hK K
      refine A8 rfl (fun K hK=>?_)
      go_simp
      have hb:Below w7.heap.size w7 (World.alloc w7 (.cells C.toArray 35)):=(Below.refl _ _).alloc (Nat.le_refl _) _
      have tA:T (World.alloc w7 (.cells C.toArray 35)):=HTB.out _ _ t7 hb
      have HBA:Hid (Below V.heap.size V (World.alloc w7 (.cells C.toArray 35))):=HB7.out.trans (hb.mono HB7.out.size)
      have HV6A:=hid (C2 HV67.out hb)
      have HRA:Hid (((World.alloc w7 (.cells C.toArray 35))).row? w7.heap.size 0 55=some C):=World.row?_alloc_at _ _ _ rfl hCl
      have HV7A:=hid (C2 HV7.out hb)
      clear hb
      refine hK.out _ _ tA ?_
      clear hK K
      refine A8 rfl (fun K hK=>?_)
      refine O6 A1s rfl _ _ rfl HV7A.out rfl (F0.row (m:=1) (size:=55) HRA.out HCK.out 1) rfl (by unfold maxLen;omega) (by omega) ?_
      intro v11 w11 hv11 ho11 hn11
      have hx7:∀ i,v7.ownBlock=some i→V.heap.size≤i:=fun i hi=>by have h1:=HN7.out i hi;have h2:=HB60.out.size;(try simp at h1);omega
      have HB11:Hid (Below V.heap.size V w11):=HBA.out.trans (ho11.below HBA.out.size (fun i hi=>hx7 i hi))
      have t11:T w11:=by have h1:=tA;rw [HT.out] at h1 ⊢;exact ⟨(ho11.row? (World.row?_lt h1.1) (fun hh=>by have:=hx7 _ hh;have:=World.row?_lt HV.out.row;omega)).trans h1.1,(ho11.free? (World.row?_lt h1.1) (fun hh=>by have:=hx7 _ hh;have:=World.row?_lt HV.out.row;omega)).trans h1.2.1,(ho11.row? (World.row?_lt h1.2.2) (fun hh=>by have:=hx7 _ hh;have:=World.row?_lt RV.out;omega)).trans h1.2.2⟩
      have HV611:Hid (w11.ownsRow 0 35 55 (.slice a6 tn c6) tn (G8 (ps.drop k))):=A2.own HV6A.out ho11 (fun g2 hg2 hh=>by have h1:=HN7.out g2 hh;have h2:=C8 HV60.out g2 hg2;(try simp at h1);omega)
      have HN11:Hid (∀ g,v11.ownBlock=some g→V.heap.size≤g):=fun g2 hg2=>by
       rcases hn11 g2 hg2 with h1 | h1
       ·exact hx7 _ h1
       ·have:=HBA.out.size;omega
     rotate_left
     focus
      refine A8 rfl (fun K hK=>?_)
      go_simp
      have hb:Below w60.heap.size w60 (World.alloc w60 (.cells C.toArray 35)):=(Below.refl _ _).alloc (Nat.le_refl _) _
      have tA:T (World.alloc w60 (.cells C.toArray 35)):=HTB.out _ _ t0 hb
      have HBA:Hid (Below V.heap.size V (World.alloc w60 (.cells C.toArray 35))):=HB60.out.trans (hb.mono HB60.out.size)
      have HV6A:=hid (C2 HV60.out hb)
      have HRA:Hid (((World.alloc w60 (.cells C.toArray 35))).row? w60.heap.size 0 55=some C):=World.row?_alloc_at _ _ _ rfl hCl
      clear hb
      refine hK.out _ _ tA ?_
      clear hK K
      refine A8 rfl (fun K hK=>?_)
      refine O6 A1s rfl _ _ rfl (World.ownsRow_nil _ _ _ _) rfl (HSH.out _ HBA.out) rfl (by unfold maxLen;omega) (by omega) ?_
      intro v7 w7 hv7 ho7 hn7
      have hb:Below (World.alloc w60 (.cells C.toArray 35)).heap.size (World.alloc w60 (.cells C.toArray 35)) w7:=ho7.below (Nat.le_refl _) (fun i hi=>by simp [Value.ownBlock] at hi)
      have t7:T w7:=HTB.out _ _ tA hb
      have HB7:Hid (Below V.heap.size V w7):=HBA.out.trans (hb.mono HBA.out.size)
      have HV67:=hid (C2 HV6A.out hb)
      have HV7:=hid hv7
      have HN7:Hid (∀ g,v7.ownBlock=some g→(World.alloc w60 (.cells C.toArray 35)).heap.size≤g):=fun g hg=>(hn7 g hg).resolve_left (by simp [Value.ownBlock])
      have HRA7:=hid (((D2 hb).1 _ _ _ (World.row?_lt HRA.out)).trans HRA.out)
      clear hb hv7 ho7 hn7
      refine hK.out _ _ t7 ?_
      clear hK K
      refine A8 rfl (fun K hK=>?_)
      refine O6 A1s rfl _ _ rfl HV7.out rfl (F0.row (m:=1) (size:=55) HRA7.out HCK.out 1) rfl (by unfold maxLen;omega) (by omega) ?_
      intro v11 w11 hv11 ho11 hn11
      have hx7:∀ i,v7.ownBlock=some i→V.heap.size≤i:=fun i hi=>by have h1:=HN7.out i hi;have h2:=HB60.out.size;(try simp at h1);omega
      have HB11:Hid (Below V.heap.size V w11):=HB7.out.trans (ho11.below HB7.out.size (fun i hi=>hx7 i hi))
      have t11:T w11:=by have h1:=t7;rw [HT.out] at h1 ⊢;exact ⟨(ho11.row? (World.row?_lt h1.1) (fun hh=>by have:=hx7 _ hh;have:=World.row?_lt HV.out.row;omega)).trans h1.1,(ho11.free? (World.row?_lt h1.1) (fun hh=>by have:=hx7 _ hh;have:=World.row?_lt HV.out.row;omega)).trans h1.2.1,(ho11.row? (World.row?_lt h1.2.2) (fun hh=>by have:=hx7 _ hh;have:=World.row?_lt RV.out;omega)).trans h1.2.2⟩
      have HV611:Hid (w11.ownsRow 0 35 55 (.slice a6 tn c6) tn (G8 (ps.drop k))):=A2.own HV67.out ho11 (fun g2 hg2 hh=>by have h1:=HN7.out g2 hh;have h2:=C8 HV60.out g2 hg2;(try simp at h1);omega)
      have HN11:Hid (∀ g,v11.ownBlock=some g→V.heap.size≤g):=fun g2 hg2=>by
       rcases hn11 g2 hg2 with h1 | h1
       ·exact hx7 _ h1
       ·have:=HB7.out.size;omega
     all_goals
      have HV11:=hid hv11
      clear hv11 ho11 hn11 hx7
      refine hK.out _ _ t11 ?_
      clear hK K
      refine A8 rfl (fun K hK=>?_)
      refine O6 A1s rfl _ _ rfl HV11.out rfl (A4O HV611.out HOK6.out) rfl (by unfold maxLen;omega) (by omega) ?_
      intro v13 w13 hv13 ho13 hn13
      have HB13:Hid (Below V.heap.size V w13):=HB11.out.trans (ho13.below HB11.out.size (fun i hi=>HN11.out i hi))
      have t13:T w13:=by have h1:=t11;rw [HT.out] at h1 ⊢;exact ⟨(ho13.row? (World.row?_lt h1.1) (fun hh=>by have:=HN11.out _ hh;have:=World.row?_lt HV.out.row;omega)).trans h1.1,(ho13.free? (World.row?_lt h1.1) (fun hh=>by have:=HN11.out _ hh;have:=World.row?_lt HV.out.row;omega)).trans h1.2.1,(ho13.row? (World.row?_lt h1.2.2) (fun hh=>by have:=HN11.out _ hh;have:=World.row?_lt RV.out;omega)).trans h1.2.2⟩
      have HN13:Hid (∀ g,v13.ownBlock=some g→V.heap.size≤g):=fun g2 hg2=>by
       rcases hn13 g2 hg2 with h1 | h1
       ·exact HN11.out _ h1
       ·have:=HB11.out.size;omega
      obtain ⟨NN,hNN⟩:∃ NN,NN=k+1+(ps.length - k):=⟨_,rfl⟩
      have hv13':w13.ownsRow 0 35 55 v13 NN ((([]++G8 (ps.take k))++I5 (J3.new a,Value.slice none 0 0,Value.slice none 0 0))++G8 (ps.drop k)):=by
       rw [← HC.out,hNN,← HTN.out];simpa using hv13
      have HV13:=hid hv13'
      have HNN:=hid hNN
      have hNk:k < NN:=by omega
      clear hv13 hv13' ho13 hn13 hNN
      refine hK.out _ _ t13 ?_
      clear hK K
      iterate 2
       refine A0 ?_ rfl (by rfl) (fun w' hs=>?_) (fun _ _ _ h=>h) ?_
       rotate_left
       ·clear hs
        go_simp
        try rfl
       simp only [Act.put,D6,D5,D4]
      refine L0 rfl (by simp) (fun K hK=>?_)
      have f16:=t13
      rw [HT.out] at f16
      have f17:=World.free?_sub f16.2.1 (o':=0) (n':=1) (by omega)
      obtain ⟨g13,c13,rfl,_⟩:=I3 HV13.out (by omega)
      clear f16
      go_simp
      obtain ⟨w16,e16⟩:∃ w16,w16=w13.setCell ⟨sb,0,none⟩ (.slice (some ⟨g13,0,none⟩) NN c13):=⟨_,rfl⟩
      obtain ⟨own',e13,hst,hcg,hce⟩:=B15 HV.out HB13.out ha HK.out HNOT.out HNN.out HV13.out HN13.out e16
      have HSTF:=hid hst
      have HCGF:=hid hcg
      have HEL:=hid e13
      rw [← e16]
      clear e16 hst hcg e13
      refine hK.out _ _ ?_
      clear hK K
      refine C3 ?_
      clear t0 t7 tA t11 t13 f17
      have hNI:(k:Int) < (NN:Int):=by omega
      go_wp2
      go_ret
      exact ⟨own',g13,c13,_,rfl,by rw [← HEL.out];exact HSTF.out,(K1.below own HB3.out).trans HCGF.out,.inr ⟨HNOT.out,by rw [← HK.out]⟩⟩
  ·obtain rfl:k=k9:=by omega
   have hkn:k=ps.length:=by omega
   have HNOT:Hid (¬ A5Q (ps.map fun p=>p.1) a):=fun h=>by obtain ⟨h2,_⟩:=HHAS.out.1 h;omega
   have hknd:decide ((k:Int) < (m:Int))=false:=decide_eq_false (by omega)
   have hkne:decide ((k:Int)=(m:Int))=true:=decide_eq_true (by omega)
   have hknn:(k < m)=False:=eq_false hkm
   have hkeN:((k:Int) == (m:Int))=true:=by rw [beq_iff_eq];omega
   have c0':wr.drew.drew.cell? ⟨sb,0,none⟩=some (.slice la m lc):=c0
   have HW3:=hid (HW2.out.only (S:=fun _=>False) (A2.of_below_size (Below.refl _ _).drew) (fun _ h=>h.elim))
   have HB3:Hid (Below w.heap.size w wr.drew.drew):=HB1.out.trans (HBW.out.drew.drew.mono HB1.out.size)
   have HKM:=hid hkm
   have HKN:=hid hkn
   have r2':wr.drew.drew.row? w.heap.size 0 20=some (A3 20 a):=r2
   clear hkm hkn hm
   go_wp2_with fail
   refine F8 (by kernel_rfl) (by kernel_rfl) ?_
   repeat still_step
   refine wpStill_nil ?_
   change Exit.then _ _ _ _ wr.drew
   go_wp2_with fail
   refine F8 (by kernel_rfl) (by kernel_rfl) ?_
   repeat still_step
   refine wpStill_nil ?_
   change Exit.then _ _ _ _ wr.drew.drew
   have HV:=HW3
   have RV:Hid (wr.drew.drew.row? w.heap.size 0 20=some (A3 20 a)):=r2'
   have hkp:k≤ps.length:=by have:=HKN.out;omega
   have hpl0:ps.length≤1000000:=by have:=HM.out;omega
   clear r2' c0' r2 c0 hknd hkne hknn hkeN
   generalize wr.drew.drew=V at *
   have hlcap:k≤lc:=by
    rcases HV.out.arr.cells.2 with ⟨h1,h2⟩ | ⟨g2,cap,cur,h1,_,_,h3,_⟩
    ·injection h1 with e1 e2 e3;omega
    ·injection h1 with e1 e2 e3;omega
   obtain ⟨tn,htn⟩:∃ tn,tn=ps.length - k:=⟨_,rfl⟩
   obtain ⟨ta,hta⟩:∃ ta,ta=A6E la ps.length lc k:=⟨_,rfl⟩
   obtain ⟨tc,htc⟩:∃ tc,tc=lc - k:=⟨_,rfl⟩
   have hsl:=A3x la ps.length lc k (by omega)
   have hsh:=A3y la ps.length lc k hlcap
   have hst:=HV.out.arr.src_tail k (by omega)
   rw [← htn,← hta,← htc] at hsl hst
   have HSH:Hid (∀ W,Below V.heap.size V W→F0 W la lc k 55 (G8 (ps.take k))):=fun W hW=>(HV.out.only (S:=fun _=>False) (A2.of_below_size hW) (fun _ h=>h.elim)).arr.src_head k (by omega)
   have cv:=World.row?_cell HV.out.row (i:=0) (by omega)
   simp only [Nat.zero_add,List.getElem?_cons_zero] at cv
   have HST:=hid hst
   have htn2:tn≤1000000:=by omega
   have HTN:=hid htn
   clear hst hta htc htn
   go_wp2_with (at_builtin;go_must (refine G6 A1s rfl _ _ rfl (World.ownsRow_nil _ _ _ _) rfl HST.out rfl ?c1 ?c2 ?_))
   case c1=>unfold maxLen;omega
   case c2=>omega
   intro v6 w6 hv6 ho6 hn6
   obtain ⟨a6,c6,rfl⟩:=E1 hv6
   have hb6:Below V.heap.size V w6:=ho6.below (Nat.le_refl _) (fun i hi=>by simp [Value.ownBlock] at hi)
   have HV6:=hid hv6
   have HB6:=hid hb6
   have hrow6:=((D2 hb6).1 _ _ _ (World.row?_lt HV.out.row)).trans HV.out.row
   have hfree6:=((D2 hb6).2 _ _ _ (World.row?_lt HV.out.row)).trans HV.out.free
   have hbx6:=((D2 hb6).1 _ _ _ (World.row?_lt RV.out)).trans RV.out
   have HOK6:Hid (P0 (tn*55) (G8 (ps.drop k))=true):=by
    have:=A3C (ps:=ps.drop k) (fun p hp=>HV.out.arr.ok p (List.mem_of_mem_drop hp))
    rwa [List.length_drop,← HTN.out] at this
   obtain ⟨T,hT⟩:∃ T:World→Prop,T=fun W=>W.row? sb 0 3=some [.slice la ps.length lc,mv,.int .i64 n]∧W.free? sb 0 3=true∧W.row? w.heap.size 0 20=some (A3 20 a):=⟨_,rfl⟩
   have HT:=hid hT
   have HTB:Hid (∀ W W',T W→Below W.heap.size W W'→T W'):=by
    rw [hT];intro W W' hW hb
    exact ⟨((D2 hb).1 _ _ _ (World.row?_lt hW.1)).trans hW.1,((D2 hb).2 _ _ _ (World.row?_lt hW.1)).trans hW.2.1,((D2 hb).1 _ _ _ (World.row?_lt hW.2.2)).trans hW.2.2⟩
   have t0:T w6.drew:=by rw [hT];exact ⟨hrow6,hfree6,hbx6⟩
   obtain ⟨C,hC⟩:∃ C,C=I5 (J3.new a,Value.slice none 0 0,Value.slice none 0 0):=⟨_,rfl⟩
   have hbuild:=A30 a
   rw [← hC] at hbuild
   have hCl:C.length=55:=by rw [hC];exact P5 _
   have HCK:Hid (P0 55 C=true):=by show _=_;rw [hC];exact A2L (A3a (w:=V) (own:=own) ha)
   have HC:=hid hC
   have hb60:Below V.heap.size V w6.drew:=hb6.drew
   have HB60:=hid hb60
   have hv60:w6.drew.ownsRow 0 35 55 (.slice a6 tn c6) tn (G8 (ps.drop k)):=hv6
   have HV60:=hid hv60
   clear hT hC cv hv6 ho6 hn6 hb6 hrow6 hfree6 hbx6 hb60 hv60
   go_wp2_with fail
   refine A6 T [16] (.pure 0 (.pure 1 (.pure 2 (.pure 3 (.take 4 (.pure 5 (.pure 6 (.take 8 (.pure 9 (.pure 12 (.alt 7 (.alt 10 (.alt 11 (.alt 13 (.pure 14 (.pure 15 (.alt 16 .fin .stop))) .stop) .stop) .stop) (.alt 10 (.alt 7 (.alt 11 (.alt 13 (.pure 14 (.pure 15 (.alt 16 .fin .stop))) .stop) .stop) .stop) .stop)))))))))))) (by kernel_rfl) (by kernel_rfl) ?_
   generalize w6.drew=w60 at *
   iterate 6
    first
    |refine A0 ?_ rfl (by rfl) (fun w' hs=>?_) (fun _ _ _ h=>h) ?_
     rotate_left
     ·clear hs
      go_simp
      try rfl
     simp only [Act.put,D6,D5,D4]
    |refine A9 ?_ t0 rfl (by rfl) (fun w' hs=>?_) (fun _ _ _ h=>h) ?_
     rotate_left
     ·rw [HT.out] at hs
      obtain ⟨q1,q2,q3⟩:=hs;have q0:=World.row?_cell q1 (i:=0) (by omega);simp only [Nat.zero_add,List.getElem?_cons_zero] at q0
      go_simp
      try rfl
     simp only [Act.put,D6,D5,D4]
   refine A0 (.slice la k lc) rfl (by rfl) (fun w' hs=>?_) (fun _ _ _ h=>h) ?_
   ·clear hs
    go_simp
   simp only [Act.put,D6,D5,D4]
   refine A9 ?_ t0 rfl (by rfl) (fun w' hs=>?_) (fun _ _ _ h=>h) ?_
   rotate_left
   ·rw [HT.out] at hs
    obtain ⟨q1,q2,q3⟩:=hs;have q0:=World.row?_cell q1 (i:=0) (by omega);simp only [Nat.zero_add,List.getElem?_cons_zero] at q0
    go_simp
    try rfl
   simp only [Act.put,D6,D5,D4]
   refine A0 ?_ rfl (by rfl) (fun w' hs=>?_) (fun _ _ _ h=>h) ?_
   rotate_left
   ·clear hs
    refine (B3o _ _ _ _ _ _ _ _).trans ?_
    refine (congrArg (fun r=>F7 (Y0 Tryz.prog 35 _ _ r)) hbuild).trans ?_
    rfl
   simp only [Act.put,D6,D5,D4]
   refine A0 ?_ rfl (by rfl) (fun w' hs=>?_) (fun _ _ _ h=>h) ?_
   rotate_left
   ·clear hs
    go_simp
    try rfl
   simp only [Act.put,D6,D5,D4]
   refine V4 rfl (fun K hK=>?_) ?_
   focus
    refine O6 A1s rfl _ _ rfl (World.ownsRow_nil _ _ _ _) rfl (HSH.out _ HB60.out) rfl (by unfold maxLen;omega) (by omega) ?_
    intro v7 w7 hv7 ho7 hn7
    have hb:Below w60.heap.size w60 w7:=ho7.below (Nat.le_refl _) (fun i hi=>by simp [Value.ownBlock] at hi)
    have t7:T w7:=HTB.out _ _ t0 hb
    have HB7:Hid (Below V.heap.size V w7):=HB60.out.trans (hb.mono HB60.out.size)
    have HV67:=hid (C2 HV60.out hb)
    have HV7:=hid hv7
    have HN7:Hid (∀ g,v7.ownBlock=some g→w60.heap.size≤g):=fun g hg=>(hn7 g hg).resolve_left (by simp [Value.ownBlock])
    clear hb hv7 ho7 hn7
    refine hK.out _ _ t7 ?_
    clear hK K
    refine A8 rfl (fun K hK=>?_)
    go_simp
    have hb:Below w7.heap.size w7 (World.alloc w7 (.cells C.toArray 35)):=(Below.refl _ _).alloc (Nat.le_refl _) _
    have tA:T (World.alloc w7 (.cells C.toArray 35)):=HTB.out _ _ t7 hb
    have HBA:Hid (Below V.heap.size V (World.alloc w7 (.cells C.toArray 35))):=HB7.out.trans (hb.mono HB7.out.size)
    have HV6A:=hid (C2 HV67.out hb)
    have HRA:Hid (((World.alloc w7 (.cells C.toArray 35))).row? w7.heap.size 0 55=some C):=World.row?_alloc_at _ _ _ rfl hCl
    have HV7A:=hid (C2 HV7.out hb)
    clear hb
    refine hK.out _ _ tA ?_
    clear hK K
    refine A8 rfl (fun K hK=>?_)
    refine O6 A1s rfl _ _ rfl HV7A.out rfl (F0.row (m:=1) (size:=55) HRA.out HCK.out 1) rfl (by unfold maxLen;omega) (by omega) ?_
    intro v11 w11 hv11 ho11 hn11
    have hx7:∀ i,v7.ownBlock=some i→V.heap.size≤i:=fun i hi=>by have h1:=HN7.out i hi;have h2:=HB60.out.size;(try simp at h1);omega
    have HB11:Hid (Below V.heap.size V w11):=HBA.out.trans (ho11.below HBA.out.size (fun i hi=>hx7 i hi))
    have t11:T w11:=by have h1:=tA;rw [HT.out] at h1 ⊢;exact ⟨(ho11.row? (World.row?_lt h1.1) (fun hh=>by have:=hx7 _ hh;have:=World.row?_lt HV.out.row;omega)).trans h1.1,(ho11.free? (World.row?_lt h1.1) (fun hh=>by have:=hx7 _ hh;have:=World.row?_lt HV.out.row;omega)).trans h1.2.1,(ho11.row? (World.row?_lt h1.2.2) (fun hh=>by have:=hx7 _ hh;have:=World.row?_lt RV.out;omega)).trans h1.2.2⟩
    have HV611:Hid (w11.ownsRow 0 35 55 (.slice a6 tn c6) tn (G8 (ps.drop k))):=A2.own HV6A.out ho11 (fun g2 hg2 hh=>by have h1:=HN7.out g2 hh;have h2:=C8 HV60.out g2 hg2;(try simp at h1);omega)
    have HN11:Hid (∀ g,v11.ownBlock=some g→V.heap.size≤g):=fun g2 hg2=>by
     rcases hn11 g2 hg2 with h1 | h1
     ·exact hx7 _ h1
     ·have:=HBA.out.size;omega
   rotate_left
   focus
    refine A8 rfl (fun K hK=>?_)
    go_simp
    have hb:Below w60.heap.size w60 (World.alloc w60 (.cells C.toArray 35)):=(Below.refl _ _).alloc (Nat.le_refl _) _
    have tA:T (World.alloc w60 (.cells C.toArray 35)):=HTB.out _ _ t0 hb
    have HBA:Hid (Below V.heap.size V (World.alloc w60 (.cells C.toArray 35))):=HB60.out.trans (hb.mono HB60.out.size)
    have HV6A:=hid (C2 HV60.out hb)
    have HRA:Hid (((World.alloc w60 (.cells C.toArray 35))).row? w60.heap.size 0 55=some C):=World.row?_alloc_at _ _ _ rfl hCl
    clear hb
    refine hK.out _ _ tA ?_
    clear hK K
    refine A8 rfl (fun K hK=>?_)
    refine O6 A1s rfl _ _ rfl (World.ownsRow_nil _ _ _ _) rfl (HSH.out _ HBA.out) rfl (by unfold maxLen;omega) (by omega) ?_
    intro v7 w7 hv7 ho7 hn7
    have hb:Below (World.alloc w60 (.cells C.toArray 35)).heap.size (World.alloc w60 (.cells C.toArray 35)) w7:=ho7.below (Nat.le_refl _) (fun i hi=>by simp [Value.ownBlock] at hi)
    have t7:T w7:=HTB.out _ _ tA hb
    have HB7:Hid (Below V.heap.size V w7):=HBA.out.trans (hb.mono HBA.out.size)
    have HV67:=hid (C2 HV6A.out hb)
    have HV7:=hid hv7
    have HN7:Hid (∀ g,v7.ownBlock=some g→(World.alloc w60 (.cells C.toArray 35)).heap.size≤g):=fun g hg=>(hn7 g hg).resolve_left (by simp [Value.ownBlock])
    have HRA7:=hid (((D2 hb).1 _ _ _ (World.row?_lt HRA.out)).trans HRA.out)
    clear hb hv7 ho7 hn7
    refine hK.out _ _ t7 ?_
    clear hK K
    refine A8 rfl (fun K hK=>?_)
    refine O6 A1s rfl _ _ rfl HV7.out rfl (F0.row (m:=1) (size:=55) HRA7.out HCK.out 1) rfl (by unfold maxLen;omega) (by omega) ?_
    intro v11 w11 hv11 ho11 hn11
    have hx7:∀ i,v7.ownBlock=some i→V.heap.size≤i:=fun i hi=>by have h1:=HN7.out i hi;have h2:=HB60.out.size;(try simp at h1);omega
    have HB11:Hid (Below V.heap.size V w11):=HB7.out.trans (ho11.below HB7.out.size (fun i hi=>hx7 i hi))
    have t11:T w11:=by have h1:=t7;rw [HT.out] at h1 ⊢;exact ⟨(ho11.row? (World.row?_lt h1.1) (fun hh=>by have:=hx7 _ hh;have:=World.row?_lt HV.out.row;omega)).trans h1.1,(ho11.free? (World.row?_lt h1.1) (fun hh=>by have:=hx7 _ hh;have:=World.row?_lt HV.out.row;omega)).trans h1.2.1,(ho11.row? (World.row?_lt h1.2.2) (fun hh=>by have:=hx7 _ hh;have:=World.row?_lt RV.out;omega)).trans h1.2.2⟩
    have HV611:Hid (w11.ownsRow 0 35 55 (.slice a6 tn c6) tn (G8 (ps.drop k))):=A2.own HV67.out ho11 (fun g2 hg2 hh=>by have h1:=HN7.out g2 hh;have h2:=C8 HV60.out g2 hg2;(try simp at h1);omega)
    have HN11:Hid (∀ g,v11.ownBlock=some g→V.heap.size≤g):=fun g2 hg2=>by
     rcases hn11 g2 hg2 with h1 | h1
     ·exact hx7 _ h1
     ·have:=HB7.out.size;omega
   all_goals
    have HV11:=hid hv11
    clear hv11 ho11 hn11 hx7
    refine hK.out _ _ t11 ?_
    clear hK K
    refine A8 rfl (fun K hK=>?_)
    refine O6 A1s rfl _ _ rfl HV11.out rfl (A4O HV611.out HOK6.out) rfl (by unfold maxLen;omega) (by omega) ?_
    intro v13 w13 hv13 ho13 hn13
    have HB13:Hid (Below V.heap.size V w13):=HB11.out.trans (ho13.below HB11.out.size (fun i hi=>HN11.out i hi))
    have t13:T w13:=by have h1:=t11;rw [HT.out] at h1 ⊢;exact ⟨(ho13.row? (World.row?_lt h1.1) (fun hh=>by have:=HN11.out _ hh;have:=World.row?_lt HV.out.row;omega)).trans h1.1,(ho13.free? (World.row?_lt h1.1) (fun hh=>by have:=HN11.out _ hh;have:=World.row?_lt HV.out.row;omega)).trans h1.2.1,(ho13.row? (World.row?_lt h1.2.2) (fun hh=>by have:=HN11.out _ hh;have:=World.row?_lt RV.out;omega)).trans h1.2.2⟩
    have HN13:Hid (∀ g,v13.ownBlock=some g→V.heap.size≤g):=fun g2 hg2=>by
     rcases hn13 g2 hg2 with h1 | h1
     ·exact HN11.out _ h1
     ·have:=HB11.out.size;omega
    obtain ⟨NN,hNN⟩:∃ NN,NN=k+1+(ps.length - k):=⟨_,rfl⟩
    have hv13':w13.ownsRow 0 35 55 v13 NN ((([]++G8 (ps.take k))++I5 (J3.new a,Value.slice none 0 0,Value.slice none 0 0))++G8 (ps.drop k)):=by
     rw [← HC.out,hNN,← HTN.out];simpa using hv13
    have HV13:=hid hv13'
    have HNN:=hid hNN
    have hNk:k < NN:=by omega
    clear hv13 hv13' ho13 hn13 hNN
    refine hK.out _ _ t13 ?_
    clear hK K
    iterate 2
     refine A0 ?_ rfl (by rfl) (fun w' hs=>?_) (fun _ _ _ h=>h) ?_
     rotate_left
     ·clear hs
      go_simp
      try rfl
     simp only [Act.put,D6,D5,D4]
    refine L0 rfl (by simp) (fun K hK=>?_)
    have f16:=t13
    rw [HT.out] at f16
    have f17:=World.free?_sub f16.2.1 (o':=0) (n':=1) (by omega)
    obtain ⟨g13,c13,rfl,_⟩:=I3 HV13.out (by omega)
    clear f16
    go_simp
    obtain ⟨w16,e16⟩:∃ w16,w16=w13.setCell ⟨sb,0,none⟩ (.slice (some ⟨g13,0,none⟩) NN c13):=⟨_,rfl⟩
    obtain ⟨own',e13,hst,hcg,hce⟩:=B15 HV.out HB13.out ha HK.out HNOT.out HNN.out HV13.out HN13.out e16
    have HSTF:=hid hst
    have HCGF:=hid hcg
    have HEL:=hid e13
    rw [← e16]
    clear e16 hst hcg e13
    refine hK.out _ _ ?_
    clear hK K
    refine C3 ?_
    clear t0 t7 tA t11 t13 f17
    have hNI:(k:Int) < (NN:Int):=by omega
    go_wp2
    go_ret
    exact ⟨own',g13,c13,_,rfl,by rw [← HEL.out];exact HSTF.out,(K1.below own HB3.out).trans HCGF.out,.inr ⟨HNOT.out,by rw [← HK.out]⟩⟩
end Go.Proofs.YtfflppedbopdpaaGreat
namespace Go.Mun
open Go.RowKit
open Go.Proofs.YtfflppedbopdpaaGreat (Ac P4 L8 AtR A3a)

theorem A8D {α:Type} (L:List α) (o:Nat) (vs:List α) (k:Nat) (h:o+vs.length≤k) (hk:k≤L.length):(splice L o vs).take k=splice (L.take k) o vs:=by
 unfold splice
 rw [List.take_append,List.take_append,List.length_take,Nat.min_eq_left (by omega:o≤L.length),List.take_take,List.take_take,Nat.min_eq_right (by omega:o≤k),Nat.min_eq_left (by omega:o≤k),List.take_of_length_le (by omega:vs.length≤k - o),List.drop_take,Nat.sub_add_eq]
theorem A0n {w:World} {base e size g n c:Nat} {xs:List Value} (h:w.ownsRow base e size (.slice (some ⟨g,0,none⟩) n c) n xs) (o:Nat) (vs:List Value) (ho:o+vs.length≤n*size) :
  (w.setCells g o vs).ownsRow base e size (.slice (some ⟨g,0,none⟩) n c) n (splice xs o vs):=by
 have hl:=h.1
 refine ⟨by unfold splice;simp;omega,?_⟩
 rcases h.2 with ⟨h1,h2⟩ | ⟨g',cap,cur,h1,h2,h3,h4,h5,h6,h7⟩
 ·injection h1 with e1;cases e1
 ·injection h1 with e1 e2 e3
  cases e1
  subst e3
  have hm:=Nat.mul_le_mul_right size h4
  refine .inr ⟨g,c,(splice cur.toList o vs).toArray,rfl,h2,?_,h4,h5,?_,?_⟩
  ·exact P7 e (0,0) vs o cur.toList w (by simpa using h3) (by simp;omega)
  ·unfold splice;simp;omega
  ·rw [← h7]
   exact A8D _ _ _ _ ho (by simp;omega)
theorem A8E {α:Type} (A B:List α) (o:Nat) (vs:List α) (h:o+vs.length≤A.length):splice (A++B) o vs=splice A o vs++B:=by
 unfold splice
 rw [List.take_append_of_le_length (by omega),List.drop_append_of_le_length (by omega)]
 simp
theorem A7t {α:Type} (A B:List α) (o:Nat) (vs:List α):splice (A++B) (A.length+o) vs=A++splice B o vs:=by
 unfold splice
 rw [List.take_length_add_append,show A.length+o+vs.length=A.length+(o+vs.length) by omega,← List.drop_drop,List.drop_left]
 simp
theorem A6Q:∀ (ps:List (J3 × Value × Value)) (k off:Nat) (vs:List Value) (p':J3 × Value × Value) (hk:k < ps.length),off+vs.length≤55→I5 p'=splice (I5 ps[k]) off vs→splice (G8 ps) (k*55+off) vs=G8 (ps.set k p')
 | [],_,_,_,_,hk,_,_=>by simp at hk
 | p :: ps,0,off,vs,p',_,h1,h2=>by
  rw [T3,Nat.zero_mul,Nat.zero_add,A8E _ _ _ _ (by rw [P5];omega),List.set_cons_zero,T3,h2]
  rfl
 | p :: ps,k+1,off,vs,p',hk,h1,h2=>by
  have hk':k < ps.length:=by simpa using hk
  have ih:=A6Q ps k off vs p' hk' h1 (by simpa using h2)
  rw [T3,show (k+1)*55+off=(I5 p).length+(k*55+off) by rw [P5];omega,A7t,ih,List.set_cons_succ,T3]
section
variable {w:World} {own:Own} {sb n:Nat} {lv mv:Value} {ps:List (J3 × Value × Value)} {ms:List (Nat × Value × List (J3 × Value × Value))}
theorem RStC.label (h:RStC w own sb lv mv ps ms n) {b0:Nat} (l:Lab) (h0:own b0=none) (hl:b0 < w.heap.size):RStC w (fun b=>if b=b0 then some l else own b) sb lv mv ps ms n∧own.le (fun b=>if b=b0 then some l else own b):=by
 have hle:own.le (fun b=>if b=b0 then some l else own b):=by
  intro b l' hb
  show (if b=b0 then some l else own b)=some l'
  rw [if_neg (fun e=>by rw [e,h0] at hb;cases hb)];exact hb
 refine ⟨{ h with
  lab:=hle _ _ h.lab
  arr:=h.arr.le hle
  mlab:=fun g hg=>hle _ _ (h.mlab g hg)
  each:=fun m hm=>⟨(h.each m hm).1.le hle,(h.each m hm).2⟩
  low:=fun b hb=>?_ },hle⟩
 by_cases e:b=b0
 ·rw [e];exact hl
 ·have:(if b=b0 then some l else own b)≠none:=hb
  rw [if_neg e] at this
  exact h.low b this
theorem RStC.putAt {g c k off:Nat} {vs:List Value} {p':J3 × Value × Value} (h:RStC w own sb (.slice (some ⟨g,0,none⟩) ps.length c) mv ps ms n) (hk:k < ps.length) (ho:off+vs.length≤55) (hp:I5 p'=splice (I5 ps[k]) off vs) (ha:p'.1.ac.addr=ps[k].1.ac.addr) (hok:U4 w own p') :
  RStC (w.setCells g (k*55+off) vs) own sb (.slice (some ⟨g,0,none⟩) ps.length c) mv (ps.set k p') ms n∧K1 w (w.setCells g (k*55+off) vs) own own:=by
 have hg:own g=some .acc:=h.arr.lab g rfl
 have hO:A2 (· = g) w (w.setCells g (k*55+off) vs):=A2.setCells (S:=fun b=>b=g) (A2.refl _ _) (fun _=>rfl) _ _
 have hS:∀ b,b=g→own b≠some .code∧own b≠some (.smap 0):=fun b hb=>by rw [hb,hg];simp
 have hlt:=World.row?_lt h.row
 have hsg:sb≠g:=fun e=>by have:=h.lab;rw [e,hg] at this;cases this
 refine ⟨{
  lab:=h.lab
  row:=by rw [hO.row? hlt hsg];exact h.row
  free:=by rw [hO.free? hlt hsg];exact h.free
  arr:=⟨?_,h.arr.lab,fun p hp2=>?_⟩
  up:=?_
  marks:=A2.own h.marks hO fun g2 hg2 e=>by have:=h.mlab g2 hg2;rw [e,hg] at this;cases this
  mlab:=h.mlab
  each:=fun m hm=>⟨(h.each m hm).1.only hO hS fun g2 hg2 e=>?_,(h.each m hm).2⟩
  apart:=h.apart
  low:=fun b hb=>Nat.lt_of_lt_of_le (h.low b hb) hO.size
  count:=h.count },⟨fun _ _=>rfl,hO.mono fun b hb=>A2P (l:=.acc) (by have e:b=g:=hb;rw [e];exact hg) (by simp) (by simp)⟩⟩
 ·have:=A0n h.arr.cells (k*55+off) vs (by omega)
  rw [A6Q ps k off vs p' hk ho hp] at this
  rw [List.length_set];exact this
 ·rcases List.mem_or_eq_of_mem_set hp2 with h2 | rfl
  ·exact (h.arr.ok p h2).only hO hS
  ·exact hok.only hO hS
 ·rw [List.map_set]
  exact B0h h.up (i:=k) (x:=ps[k].1) (by rw [List.getElem?_map,List.getElem?_eq_getElem hk];rfl) ha
 ·have:=(List.pairwise_cons.1 h.apart).1 m.2.1 (List.mem_map.2 ⟨m,hm,rfl⟩)
  rcases this with h1 | h1
  ·simp [Value.ownBlock] at h1
  ·exact h1 (by rw [hg2,e];rfl)
end
structure A0u (ps:List (J3 × Value × Value)) (n:Nat):Prop where
 len:ps.length≤n
 slots:∀ p∈ps,p.1.slots.length≤n∧(p.1.slots.map Prod.fst).Pairwise (· < ·)∧∀ q∈p.1.slots,q.2≠0
theorem A0u.mono {ps:List (J3 × Value × Value)} {n n':Nat} (h:A0u ps n) (hn:n≤n'):A0u ps n':=
 ⟨Nat.le_trans h.len hn,fun p hp=>⟨Nat.le_trans (h.slots p hp).1 hn,(h.slots p hp).2⟩⟩
theorem A0u.set {ps:List (J3 × Value × Value)} {n k:Nat} {p':J3 × Value × Value} (h:A0u ps n) (hp:p'.1.slots.length≤n∧(p'.1.slots.map Prod.fst).Pairwise (· < ·)∧∀ q∈p'.1.slots,q.2≠0):A0u (ps.set k p') n:=
 ⟨by rw [List.length_set];exact h.len,fun p hp2=>by
  rcases List.mem_or_eq_of_mem_set hp2 with h2 | rfl
  ·exact h.slots p h2
  ·exact hp⟩
def F6 (ps:List (J3 × Value × Value)):List J3:=ps.map fun p=>p.1
def RState (w:World) (own:Own) (sb:Nat) (S:St) (M:List (Nat × St)) (n:Nat):Prop:=
 ∃ lv mv ps ms k,RStC w own sb lv mv ps ms k∧S=rst (F6 ps)∧M=ms.map (fun m=>(m.1,rst (F6 m.2.2)))∧A0u ps n∧(∀ m∈ms,A0u m.2.2 n)∧k≤n
section
variable {w w':World} {own:Own} {sb n:Nat} {S:St} {M:List (Nat × St)}
theorem RState.only {R:Nat→Prop} (h:RState w own sb S M n) (ho:A2 R w w') (hS:∀ b,R b→own b=none):RState w' own sb S M n:=by
 obtain ⟨lv,mv,ps,ms,k,h1,h2⟩:=h
 exact ⟨lv,mv,ps,ms,k,h1.only ho hS,h2⟩
theorem RState.below (h:RState w own sb S M n) (hb:Below w.heap.size w w'):RState w' own sb S M n:=h.only (R:=fun _=>False) (A2.of_below_size hb) (fun _ h=>h.elim)
theorem RState.lows (h:RState w own sb S M n):∀ b,own b≠none→b < w.heap.size:=by
 obtain ⟨lv,mv,ps,ms,k,h1,_⟩:=h
 exact h1.low
theorem RState.mono {n':Nat} (h:RState w own sb S M n) (hn:n≤n'):RState w own sb S M n':=by
 obtain ⟨lv,mv,ps,ms,k,h1,h2,h3,h4,h5,h6⟩:=h
 exact ⟨lv,mv,ps,ms,k,h1,h2,h3,h4.mono hn,fun m hm=>(h5 m hm).mono hn,Nat.le_trans h6 hn⟩
end
theorem AtR.spec {a n:Nat} {ps ps':List (J3 × Value × Value)} (h:AtR a ps ps') (hr:Q1 (F6 ps)) (hw:A0u ps n) (hs:∀ p∈ps,p.1.slots.length≤n) :
  (∃ hk:T4 (F6 ps) a < ps'.length,(ps'[T4 (F6 ps) a]'hk).1.ac.addr=a∧(ps'[T4 (F6 ps) a]'hk).1.acc=rst (F6 ps) a)∧rst (F6 ps')=rst (F6 ps)∧A0u ps' (n+1):=by
 have hm:F6 ps=ps.map fun p=>p.1:=rfl
 rcases h with ⟨⟨x,h1,h2⟩,rfl⟩ | ⟨h1,h2⟩
 ·have hm:F6 ps'=ps'.map fun p=>p.1:=rfl
  obtain ⟨hl,he⟩:=List.getElem?_eq_some_iff.1 h1
  have hl':T4 (F6 ps') a < ps'.length:=by rw [hm];simpa using hl
  have hx:(ps'[T4 (F6 ps') a]'hl').1=x:=by simpa [F6] using he
  refine ⟨⟨hl',by rw [hx];exact h2,?_⟩,rfl,hw.mono (Nat.le_succ _)⟩
  rw [hx]
  have:=A2t hr (i:=T4 (F6 ps') a) (x:=x) (by rw [hm];exact h1)
  rw [h2] at this;exact this.symm
 ·have hf:F6 ps'=atR (F6 ps) a:=by
   unfold F6 atR
   rw [h2]
   simp [List.map_append,List.map_take,List.map_drop]
  have hle:=A4P (F6 ps) a
  have hlen:(F6 ps).length=ps.length:=by simp [F6]
  have hkl:T4 (F6 ps) a < ps'.length:=by
   rw [h2,List.length_append,List.length_take,List.length_cons,List.length_drop]
   have:T4 (ps.map fun p=>p.1) a=T4 (F6 ps) a:=rfl
   rw [this];omega
  have hel:(ps'[T4 (F6 ps) a]'hkl).1=J3.new a:=by
   have h3:=B4t (F6 ps) a
   rw [← hf] at h3
   have h4:(F6 ps')[T4 (F6 ps) a]? = some (ps'[T4 (F6 ps) a]'hkl).1:=by
    show (ps'.map fun p=>p.1)[T4 (F6 ps) a]? = _
    rw [List.getElem?_map,List.getElem?_eq_getElem hkl];rfl
   rw [h4] at h3
   exact Option.some.inj h3
  have hno:∀ x∈F6 ps,x.ac.addr≠a:=fun x hx e=>h1 ((A5P hr).2 ⟨x,hx,e⟩)
  refine ⟨⟨hkl,by rw [hel];rfl,?_⟩,by rw [hf];exact B5B hr h1,?_,?_⟩
  ·rw [hel,A3B hno];rfl
  ·have:=hw.len
   rw [h2,List.length_append,List.length_take,List.length_cons,List.length_drop];omega
  ·intro p hp
   rw [h2] at hp
   rcases List.mem_append.1 hp with h3 | h3
   ·have:=hw.slots p (List.mem_of_mem_take h3);exact ⟨Nat.le_succ_of_le this.1,this.2⟩
   ·rcases List.mem_cons.1 h3 with rfl | h3
    ·exact ⟨Nat.zero_le _,List.Pairwise.nil,fun q hq=>by cases hq⟩
    ·have:=hw.slots p (List.mem_of_mem_drop h3);exact ⟨Nat.le_succ_of_le this.1,this.2⟩
theorem B1q {ps:List (J3 × Value × Value)} {k:Nat} (hr:Q1 (F6 ps)) (hk:k < ps.length) (p':J3 × Value × Value) (ha:p'.1.ac.addr=ps[k].1.ac.addr):rst (F6 (ps.set k p'))=Z8 (rst (F6 ps)) ps[k].1.ac.addr p'.1.acc:=by
 unfold F6 at hr ⊢
 rw [List.map_set]
 exact B5A hr (i:=k) (x:=ps[k].1) (by rw [List.getElem?_map,List.getElem?_eq_getElem hk];rfl) ha
end Go.Mun
namespace Go.Mun
open Go.RowKit
open Go.Proofs.YtfflppedbopdpaaGreat (Ac P4 L8 AtR A3a)

def A4d (a:Nat):J3 × Value × Value:=(J3.new a,.slice none 0 0,.slice none 0 0)
def A2g:List (J3 × Value × Value)→Nat→J3 × Value × Value
 | [],a=>A4d a
 | p :: ps,a=>if p.1.ac.addr=a then p else A2g ps a
theorem B4v (ps:List (J3 × Value × Value)) (a:Nat):(A2g ps a).1.acc=rst (F6 ps) a:=by
 induction ps with
 | nil=>rfl
 | cons p ps ih =>
  simp only [A2g,F6,List.map_cons,rst]
  split
  ·rfl
  ·exact ih
theorem B26 (ps:List (J3 × Value × Value)) (a:Nat):(A2g ps a).1.ac.addr=a:=by
 induction ps with
 | nil=>rfl
 | cons p ps ih =>
  simp only [A2g]
  split
  ·assumption
  ·exact ih
theorem A9k (ps:List (J3 × Value × Value)) (a:Nat):A2g ps a∈ps∨A2g ps a=A4d a:=by
 induction ps with
 | nil=>exact .inr rfl
 | cons p ps ih =>
  simp only [A2g]
  split
  ·exact .inl (by simp)
  ·rcases ih with h | h
   ·exact .inl (by simp [h])
   ·exact .inr h
theorem B1L:∀ (ps:List (J3 × Value × Value)) (a i:Nat) (hi:i < ps.length),(∀ j (hj:j < ps.length),j < i→ps[j].1.ac.addr≠a)→ps[i].1.ac.addr=a→A2g ps a=ps[i]
 | [],_,_,hi,_,_=>by simp at hi
 | p :: ps,a,0,_,_,h=>by
  have h':p.1.ac.addr=a:=h
  simp only [A2g];rw [if_pos h'];rfl
 | p :: ps,a,i+1,hi,hl,h=>by
  have h':¬ p.1.ac.addr=a:=hl 0 (by simp) (by omega)
  simp only [A2g]
  rw [if_neg h']
  exact B1L ps a i (by simpa using hi) (fun j hj hji=>hl (j+1) (by simpa using hj) (by omega)) (by simpa using h)
theorem B1K:∀ (ps:List (J3 × Value × Value)) (a:Nat),(∀ j (hj:j < ps.length),ps[j].1.ac.addr≠a)→A2g ps a=A4d a
 | [],_,_=>rfl
 | p :: ps,a,hl=>by
  have h':¬ p.1.ac.addr=a:=hl 0 (by simp)
  simp only [A2g]
  rw [if_neg h']
  exact B1K ps a fun j hj=>hl (j+1) (by simpa using hj)
theorem B6u {w:World} {own:Own} {ps:List (J3 × Value × Value)} {a:Nat} (h:∀ p∈ps,U4 w own p) (ha:a < wA):U4 w own (A2g ps a):=by
 rcases A9k ps a with h1 | h1
 ·exact h _ h1
 ·rw [h1];exact A3a ha
def M7:List (Nat × Nat)→Nat→Nat
 | [],_=>0
 | x :: l,k=>if x.1 < k then M7 l k+1 else 0
def U6:List (Nat × Nat)→Nat→Nat→List (Nat × Nat)
 | [],k,v=>if v=0 then [] else [(k,v)]
 | x :: l,k,v=>if x.1 < k then x :: U6 l k v else (if v=0 then [] else [(k,v)])++(if x.1=k then l else x :: l)
theorem B1v (l:List (Nat × Nat)) (k:Nat):M7 l k≤l.length:=by
 induction l with
 | nil=>exact Nat.le_refl _
 | cons x l ih=>simp only [M7];split <;> simp <;> omega
theorem B5S (l:List (Nat × Nat)) (k:Nat):∀ i (hi:i < l.length),i < M7 l k→l[i].1 < k:=by
 induction l with
 | nil=>intro i hi;simp at hi
 | cons x l ih =>
  intro i hi hp
  simp only [M7] at hp
  split at hp
  ·cases i with
   | zero=>assumption
   | succ i=>exact ih i (by simpa using hi) (by omega)
  ·omega
theorem B5T (l:List (Nat × Nat)) (k:Nat):∀ (hi:M7 l k < l.length),k≤(l[M7 l k]'hi).1:=by
 induction l with
 | nil=>intro hi;simp at hi
 | cons x l ih =>
  by_cases h:x.1 < k
  ·have e:M7 (x :: l) k=M7 l k+1:=by simp only [M7];rw [if_pos h]
   intro hi
   have hi':M7 l k < l.length:=by rw [e] at hi;simpa using hi
   have:=ih hi'
   simpa [e] using this
  ·have e:M7 (x :: l) k=0:=by simp only [M7];rw [if_neg h]
   intro hi
   simp only [e]
   exact Nat.le_of_not_lt h
theorem A5j (l:List (Nat × Nat)) (k v:Nat):U6 l k v=l.take (M7 l k)++(if v=0 then [] else [(k,v)])++l.drop (if (∃ (h:M7 l k < l.length),(l[M7 l k]'h).1=k) then M7 l k+1 else M7 l k):=by
 induction l with
 | nil=>simp [U6,M7]
 | cons x l ih =>
  by_cases h:x.1 < k
  ·have e:M7 (x :: l) k=M7 l k+1:=by simp only [M7];rw [if_pos h]
   simp only [U6]
   rw [if_pos h,ih]
   simp only [e,List.take_succ_cons,List.cons_append,List.length_cons,List.getElem_cons_succ,Nat.add_lt_add_iff_right]
   congr 1
   congr 1
   split <;> simp
  ·have e:M7 (x :: l) k=0:=by simp only [M7];rw [if_neg h]
   simp only [U6]
   rw [if_neg h]
   simp only [e]
   by_cases hk:x.1=k
   ·simp [hk]
   ·simp [hk]
theorem A1f (l:List (Nat × Nat)) (k v:Nat):(U6 l k v).length≤l.length+1:=by
 induction l with
 | nil=>simp only [U6];split <;> simp
 | cons x l ih =>
  simp only [U6]
  split
  ·simp;omega
  ·split <;> split <;> simp <;> omega
theorem A6M:∀ (l:List (Nat × Nat)) (k v j:Nat),(l.map Prod.fst).Pairwise (· < ·)→(E6 j (U6 l k v)).getD 0=if j=k then v else (E6 j l).getD 0
 | [],k,v,j,_=>by
  simp only [U6]
  by_cases hv:v=0
  ·rw [if_pos hv];subst hv;split <;> simp [E6]
  ·rw [if_neg hv]
   by_cases hj:j=k
   ·subst hj;simp [E6]
   ·rw [if_neg hj]
    have:¬ k=j:=fun e=>hj e.symm
    simp [E6,this]
 | x :: l,k,v,j,hp=>by
  rw [List.map_cons,List.pairwise_cons] at hp
  have ih:=A6M l k v j hp.2
  have hno:∀ y,y≤x.1→E6 y l=none:=by
   intro y hy
   have:∀ (l:List (Nat × Nat)),(∀ b∈l.map Prod.fst,y < b)→E6 y l=none:=by
    intro l
    induction l with
    | nil=>intro _;rfl
    | cons z l ih =>
     intro hb
     have h1:=hb z.1 (by simp)
     simp only [E6]
     rw [if_neg (by omega)]
     exact ih fun b hb2=>hb b (by simp at hb2 ⊢;exact .inr hb2)
   exact this l fun b hb=>Nat.lt_of_le_of_lt hy (hp.1 b hb)
  simp only [U6]
  by_cases h:x.1 < k
  ·rw [if_pos h]
   simp only [E6]
   by_cases hj:x.1=j
   ·rw [if_pos hj,if_pos hj,if_neg (by omega)]
   ·rw [if_neg hj,if_neg hj];exact ih
  ·rw [if_neg h]
   by_cases hv:v=0
   ·rw [if_pos hv,List.nil_append]
    subst hv
    by_cases hk:x.1=k
    ·rw [if_pos hk]
     by_cases hj:j=k
     ·rw [if_pos hj,hno j (by omega)];rfl
     ·rw [if_neg hj];simp only [E6];rw [if_neg (by omega)]
    ·rw [if_neg hk]
     by_cases hj:j=k
     ·rw [if_pos hj];simp only [E6];rw [if_neg (by omega),hno j (by omega)];rfl
     ·rw [if_neg hj]
   ·rw [if_neg hv]
    simp only [List.cons_append,List.nil_append]
    by_cases hj:j=k
    ·rw [if_pos hj];simp only [E6];rw [if_pos hj.symm];rfl
    ·rw [if_neg hj]
     have:¬ k=j:=fun e=>hj e.symm
     by_cases hk:x.1=k
     ·rw [if_pos hk];simp only [E6];rw [if_neg this,if_neg (by omega)]
     ·rw [if_neg hk];simp only [E6];rw [if_neg this]
theorem A3z:∀ (l:List (Nat × Nat)) (k v:Nat),(l.map Prod.fst).Pairwise (· < ·)→((U6 l k v).map Prod.fst).Pairwise (· < ·)∧∀ b∈(U6 l k v).map Prod.fst,b=k∨b∈l.map Prod.fst
 | [],k,v,_=>by
  simp only [U6]
  split <;> simp
 | x :: l,k,v,hp=>by
  rw [List.map_cons,List.pairwise_cons] at hp
  obtain ⟨i1,i2⟩:=A3z l k v hp.2
  simp only [U6]
  by_cases h:x.1 < k
  ·rw [if_pos h]
   refine ⟨?_,fun b hb=>?_⟩
   ·rw [List.map_cons,List.pairwise_cons]
    refine ⟨fun b hb=>?_,i1⟩
    rcases i2 b hb with rfl | h2
    ·exact h
    ·exact hp.1 b h2
   ·rw [List.map_cons] at hb
    rcases List.mem_cons.1 hb with rfl | hb
    ·exact .inr (by simp)
    ·rcases i2 b hb with rfl | h2
     ·exact .inl rfl
     ·exact .inr (by rw [List.map_cons];exact List.mem_cons_of_mem _ h2)
  ·rw [if_neg h]
   have hkx:k≤x.1:=Nat.le_of_not_lt h
   have hfin:∀ (t:List (Nat × Nat)),(t.map Prod.fst).Pairwise (· < ·)→(∀ b∈t.map Prod.fst,k < b∧b∈(x :: l).map Prod.fst)→(((if v=0 then [] else [(k,v)])++t).map Prod.fst).Pairwise (· < ·)∧∀ b∈((if v=0 then [] else [(k,v)])++t).map Prod.fst,b=k∨b∈(x :: l).map Prod.fst:=by
    intro t h1 h2
    split
    ·exact ⟨by simpa using h1,fun b hb => .inr (h2 b (by simpa using hb)).2⟩
    ·refine ⟨?_,fun b hb=>?_⟩
     ·simp only [List.cons_append,List.nil_append,List.map_cons,List.pairwise_cons]
      exact ⟨fun b hb=>(h2 b hb).1,h1⟩
     ·simp only [List.cons_append,List.nil_append,List.map_cons,List.mem_cons] at hb
      rcases hb with rfl | hb
      ·exact .inl rfl
      ·exact .inr (h2 b hb).2
   by_cases hk:x.1=k
   ·rw [if_pos hk]
    exact hfin l hp.2 fun b hb=>⟨by rw [← hk];exact hp.1 b hb,by rw [List.map_cons];exact List.mem_cons_of_mem _ hb⟩
   ·rw [if_neg hk]
    refine hfin (x :: l) (by rw [List.map_cons,List.pairwise_cons];exact hp) fun b hb=>⟨?_,hb⟩
    rw [List.map_cons] at hb
    rcases List.mem_cons.1 hb with rfl | hb
    ·omega
    ·have:=hp.1 b hb;omega
theorem A5i (l:List (Nat × Nat)) (k v:Nat) (h:∀ q∈l,q.2≠0):∀ q∈U6 l k v,q.2≠0:=by
 induction l with
 | nil =>
  intro q hq
  simp only [U6] at hq
  split at hq
  ·cases hq
  ·simp at hq;rw [hq];assumption
 | cons x l ih =>
  intro q hq
  simp only [U6] at hq
  split at hq
  ·rcases List.mem_cons.1 hq with rfl | hq
   ·exact h _ (by simp)
   ·exact ih (fun q hq=>h q (by simp [hq])) q hq
  ·rcases List.mem_append.1 hq with hq | hq
   ·split at hq
    ·cases hq
    ·simp at hq;rw [hq];assumption
   ·split at hq
    ·exact h q (by simp [hq])
    ·exact h q hq
end Go.Mun
namespace Go.Mun
open Go.RowKit
open Go.Proofs.YtfflppedbopdpaaGreat (Ac P4 L8 AtR A3a C8)

theorem X3 {l:List (List Value)} {i:Nat} {s:List Value} (hs:l[i]? = some s) {v:List Value} (hv:v.length=s.length) {p:Nat} (hp:p=A04 l i):splice (B7 l) p v=B7 (l.set i v):=by
 have h1:=A5B hs
 rw [hp,← A2f _ _ _ (by omega),A7P hs hv]
def RHeld (w:World) (own:Own) (sb:Nat) (S:St) (M:List (Nat × St)) (n a g k:Nat):Prop:=
 ∃ c mv ps ms x,RStC w own sb (.slice (some ⟨g,0,none⟩) ps.length c) mv ps ms x∧(∃ hk:k < ps.length,(ps[k]'hk).1.ac.addr=a)∧S=rst (F6 ps)∧M=ms.map (fun m=>(m.1,rst (F6 m.2.2)))∧A0u ps n∧(∀ m∈ms,A0u m.2.2 n)∧x≤n
section
variable {w w':World} {own:Own} {sb n a g k:Nat} {S:St} {M:List (Nat × St)}
theorem RHeld.state (h:RHeld w own sb S M n a g k):RState w own sb S M n:=by
 obtain ⟨c,mv,ps,ms,x,h1,_,h3⟩:=h
 exact ⟨_,mv,ps,ms,x,h1,h3⟩
theorem RHeld.only {R:Nat→Prop} (h:RHeld w own sb S M n a g k) (ho:A2 R w w') (hS:∀ b,R b→own b=none):RHeld w' own sb S M n a g k:=by
 obtain ⟨c,mv,ps,ms,x,h1,h2⟩:=h
 exact ⟨c,mv,ps,ms,x,h1.only ho hS,h2⟩
theorem RHeld.below (h:RHeld w own sb S M n a g k) (hb:Below w.heap.size w w'):RHeld w' own sb S M n a g k:=h.only (R:=fun _=>False) (A2.of_below_size hb) (fun _ h=>h.elim)
theorem RHeld.lt (h:RHeld w own sb S M n a g k):g < w.heap.size:=by
 obtain ⟨c,mv,ps,ms,x,h1,⟨hk,_⟩,_⟩:=h
 obtain ⟨g',c',e,_,hr,_⟩:=h1.arr.row hk
 cases e
 exact World.row?_lt hr
theorem RHeld.free (h:RHeld w own sb S M n a g k):w.free? g (k*55) 55=true:=by
 obtain ⟨c,mv,ps,ms,x,h1,⟨hk,_⟩,_⟩:=h
 obtain ⟨g',c',e,_,_,hf⟩:=h1.arr.row hk
 cases e
 exact hf
theorem RHeld.label (h:RHeld w own sb S M n a g k) {b0:Nat} (l:Lab) (h0:own b0=none) (hl:b0 < w.heap.size):RHeld w (fun b=>if b=b0 then some l else own b) sb S M n a g k:=by
 obtain ⟨c,mv,ps,ms,x,h1,h2⟩:=h
 exact ⟨c,mv,ps,ms,x,(h1.label l h0 hl).1,h2⟩
theorem RHeld.put {off:Nat} {vs:List Value} (X:Acc→Acc) (h:RHeld w own sb S M n a g k) (ho:off+vs.length≤55)
  (hp:∀ p:J3 × Value × Value,U4 w own p→p.1.ac.addr=a→p.1.slots.length≤n→(p.1.slots.map Prod.fst).Pairwise (· < ·)→(∀ q∈p.1.slots,q.2≠0) →
   ∃ p':J3 × Value × Value,I5 p'=splice (I5 p) off vs∧p'.1.ac.addr=a∧U4 w own p'∧(p'.1.slots.length≤n+1∧(p'.1.slots.map Prod.fst).Pairwise (· < ·)∧∀ q∈p'.1.slots,q.2≠0)∧p'.1.acc=X p.1.acc) :
  RState (w.setCells g (k*55+off) vs) own sb (Z8 S a (X (S a))) M (n+1)∧K1 w (w.setCells g (k*55+off) vs) own own:=by
 obtain ⟨c,mv,ps,ms,x,h1,⟨hk,ha⟩,h3,h4,h5,h6,h7⟩:=h
 have hmem:ps[k]∈ps:=List.getElem_mem hk
 obtain ⟨p',e1,e2,e3,e4,e5⟩:=hp ps[k] (h1.arr.ok _ hmem) ha (h5.slots _ hmem).1 (h5.slots _ hmem).2.1 (h5.slots _ hmem).2.2
 obtain ⟨k1,k2⟩:=h1.putAt hk ho e1 (e2.trans ha.symm) e3
 have hS:rst (F6 ps) a=ps[k].1.acc:=by
  have:=A2t h1.up (i:=k) (x:=ps[k].1) (by rw [List.getElem?_map,List.getElem?_eq_getElem hk];rfl)
  rw [ha] at this;exact this
 have hlen:(ps.set k p').length=ps.length:=List.length_set
 refine ⟨⟨.slice (some ⟨g,0,none⟩) ps.length c,mv,ps.set k p',ms,x,k1,?_,h4,(h5.mono (Nat.le_succ n)).set e4,fun m hm=>(h6 m hm).mono (Nat.le_succ n),Nat.le_succ_of_le h7⟩,k2⟩
 have:=B1q h1.up hk p' (e2.trans ha.symm)
 rw [this,ha,e5,h3,hS]
theorem RHeld.bal (h:RHeld w own sb S M n a g k) (v:Nat) (hv:v < wW):RState (w.setCells g (k*55+21) (A3 32 v)) own sb (Z8 S a { S a with bal:=v }) M (n+1)∧K1 w (w.setCells g (k*55+21) (A3 32 v)) own own:=by
 refine h.put (fun x=>{ x with bal:=v }) (by rw [B0];omega) ?_
 intro p hok ha hl h1 h2
 refine ⟨(⟨{ p.1.ac with bal:=v },p.1.slots⟩,p.2),?_,ha,⟨hok.code,hok.slots,hok.addr,hv,hok.nonce⟩,⟨Nat.le_succ_of_le hl,h1,h2⟩,rfl⟩
 unfold I5
 rw [X3 (i:=2) (s:=A3 32 p.1.ac.bal) rfl (by simp) (by simp [P4,A7,A5])]
 rfl
theorem RHeld.nonce (h:RHeld w own sb S M n a g k) (x:Int) (hx:0≤x∧x≤9223372036854775807):RState (w.setCells g (k*55+20) [.int .i64 x]) own sb (Z8 S a { S a with nonce:=x.toNat }) M (n+1)∧K1 w (w.setCells g (k*55+20) [.int .i64 x]) own own:=by
 refine h.put (fun y=>{ y with nonce:=x.toNat }) (by simp) ?_
 intro p hok ha hl h1 h2
 refine ⟨(⟨{ p.1.ac with nonce:=x },p.1.slots⟩,p.2),?_,ha,⟨hok.code,hok.slots,hok.addr,hok.bal,hx⟩,⟨Nat.le_succ_of_le hl,h1,h2⟩,rfl⟩
 unfold I5
 rw [X3 (i:=1) (s:=[.int .i64 p.1.ac.nonce]) rfl (by simp) (by simp [P4,A7,A5])]
 rfl
theorem RHeld.code (h:RHeld w own sb S M n a g k) {cv:Value} {l:V1} (hc:Q2 w own cv l):RState (w.setCells g (k*55+53) [cv]) own sb (Z8 S a { S a with code:=l }) M (n+1)∧K1 w (w.setCells g (k*55+53) [cv]) own own:=by
 refine h.put (fun y=>{ y with code:=l }) (by simp) ?_
 intro p hok ha hl h1 h2
 refine ⟨(⟨{ p.1.ac with code:=l },p.1.slots⟩,cv,p.2.2),?_,ha,⟨hc,hok.slots,hok.addr,hok.bal,hok.nonce⟩,⟨Nat.le_succ_of_le hl,h1,h2⟩,rfl⟩
 unfold I5
 rw [X3 (i:=3) (s:=[p.2.1]) rfl (by simp) (by simp [P4,A7,A5])]
 rfl
theorem RHeld.kill (h:RHeld w own sb S M n a g k) (haw:a < wA):RState (w.setCells g (k*55+0) (I5 (A4d a))) own sb (Z8 S a Acc.none) M (n+1)∧K1 w (w.setCells g (k*55+0) (I5 (A4d a))) own own:=by
 refine h.put (fun _=>Acc.none) (by rw [P5];omega) ?_
 intro p hok ha hl h1 h2
 refine ⟨A4d a,?_,rfl,A3a haw,⟨Nat.zero_le _,List.Pairwise.nil,fun q hq=>by cases hq⟩,rfl⟩
 unfold splice
 rw [List.take_zero,List.nil_append,List.drop_eq_nil_of_le (by rw [P5,P5];omega),List.append_nil]
theorem RHeld.newCode {v:World} {cv:Value} {l:V1} (h:RHeld v own sb S M n a g k) (hb:Below v.heap.size v w) (hv:w.ownsRow 0 5 1 cv l.length (l.map (Value.int .u8))) (hnew:∀ g,cv.ownBlock=some g→v.heap.size≤g) (hby:Byt l) (hl:l.length≤1099511627776) :
  ∃ own',RState (w.setCells g (k*55+53) [cv]) own' sb (Z8 S a { S a with code:=l }) M (n+1)∧K1 v (w.setCells g (k*55+53) [cv]) own own':=by
 have hw:=h.below hb
 obtain ⟨ad,c,e,_,hI⟩:=I7.of_own' hv
 subst e
 cases ad with
 | none =>
  have hc:Q2 w own (.slice none l.length c) l:=⟨⟨none,c,rfl,hI,fun _ p hp=>by cases hp⟩,hby,hl⟩
  obtain ⟨k1,k2⟩:=hw.code hc
  exact ⟨own,k1,(K1.below own hb).trans k2⟩
 | some p =>
  have h1:=hnew p.block rfl
  have h2:=C8 hv p.block rfl
  have h3:own p.block=none:=by
   cases e:own p.block with
   | none=>rfl
   | some x=>have:=h.state.lows p.block (by rw [e];simp);omega
  have hc:Q2 w (fun b=>if b=p.block then some .code else own b) (.slice (some p) l.length c) l:=⟨⟨some p,c,rfl,hI,fun _ q hq=>by cases hq;simp⟩,hby,hl⟩
  obtain ⟨k1,k2⟩:=(hw.label .code h3 h2).code hc
  refine ⟨_,k1,⟨fun b hbv=>?_,?_⟩⟩
  ·show (if b=p.block then some Lab.code else own b)=own b
   rw [if_neg (by omega)]
  ·refine (A2.of_below_size (S:=hot own) hb).trans k2.only fun i hx hi=>?_
   have hx2:hot _ i:=hx
   unfold hot at hx2 ⊢
   simp only [if_neg (show ¬ i=p.block by omega)] at hx2
   exact hx2
end
end Go.Mun
namespace Go.Proofs.YtfflppedbopdpaaGreat
open Go.RowKit Go.Mun

theorem A5u {w:World} {own:Go.Mun.Own} {sb a n:Nat} {S:St} {M:List (Nat × St)} (h:RState w own sb S M n) (ha:a < wA) (hn:n≤1000000) :
  Calls Tryz.prog 169 #[.pointer (some ⟨sb,0,none⟩),.agg (A3 20 a).toArray] w fun e w' => ∃ own' g k,e = .returned (.pointer (some ⟨g,k*55,none⟩))∧RHeld w' own' sb S M (n+1) a g k∧K1 w w' own own':=by
 obtain ⟨lv,mv,ps,ms,x,h1,h2,h3,h4,h5,h6⟩:=h
 refine (C0s h1 ha (Nat.le_trans h4.len hn)).mono ?_
 rintro e w' ⟨own',g,c,ps',rfl,k1,k2,k3⟩
 obtain ⟨⟨i1,i2,i3⟩,i4,i5⟩:=AtR.spec k3 h1.up h4 (fun p hp=>(h4.slots p hp).1)
 exact ⟨own',g,_,rfl,⟨c,mv,ps',ms,x,k1,⟨i1,i2⟩,h2.trans i4.symm,h3,i5,fun m hm=>(h5 m hm).mono (Nat.le_succ n),Nat.le_succ_of_le h6⟩,k2⟩
theorem U9 {w:World} {own:Go.Mun.Own} {sb n:Nat} {S:St} {M:List (Nat × St)} (h:RState w own sb S M n) {b:Nat} (hb:w.heap.size≤b):own b=none:=E4 h.lows hb
def B48 (w:World) (own:Go.Mun.Own) (sb:Nat) (S:St) (M:List (Nat × St)) (n:Nat) (e:Ending) (w':World):Prop:=
 e = .returned (.tuple #[])∧∃ own',RState w' own' sb S M n∧K1 w w' own own'
theorem A2b {w:World} {own:Go.Mun.Own} {sb a v n:Nat} {S:St} {M:List (Nat × St)} (h:RState w own sb S M n) (ha:a < wA) (hv:v < wW) (hn:n≤1000000) :
  Calls Tryz.prog 61 #[.pointer (some ⟨sb,0,none⟩),.agg (A3 20 a).toArray,.agg (A3 32 v).toArray] w (B48 w own sb (Z8 S a { S a with bal:=v }) M (n+2)):=by
 obtain ⟨w0,e0⟩:∃ w0,w0=(w.alloc (.cells (A3 20 a).toArray 23)).alloc (.cells (A3 32 v).toArray 25):=⟨_,rfl⟩
 have hb0:Below w.heap.size w w0:=by rw [e0];exact ((Below.refl _ _).alloc (Nat.le_refl _) _).alloc (by simp) _
 have hx0:w0.row? w.heap.size 0 20=some (A3 20 a):=by rw [e0,World.row?_alloc_lt _ (by simp)];exact World.row?_alloc_at _ _ _ rfl (by simp)
 have hx:w0.drew.row? w.heap.size 0 20=some (A3 20 a):=hx0
 have hy:w0.drew.row? (w.heap.size+1) 0 32=some (A3 32 v):=by rw [e0];exact World.row?_alloc_at _ _ _ (by simp) (by simp)
 have hl1:(A3 20 a).length=20:=by simp
 have hl2:(A3 32 v).length=32:=by simp
 have hok:=C7 32 v
 have ho1:=U9 h (Nat.le_refl _)
 have ho2:=U9 h (Nat.le_succ w.heap.size)
 have HST:=hid (h.below hb0.drew)
 have HB:=hid hb0.drew
 have HE:=hid e0
 obtain ⟨T,hT⟩:∃ T:World→Prop,T=fun W=>W.row? w.heap.size 0 20=some (A3 20 a)∧W.row? (w.heap.size+1) 0 32=some (A3 32 v):=⟨_,rfl⟩
 have HT:=hid hT
 have t0:T w0.drew:=by rw [hT];exact ⟨hx,hy⟩
 clear e0 hb0 hx hy hT h
 go_enter Tryz.func61,Tryz.ntmps61
 go_wp2_with fail
 rw [← HE.out]
 refine A6 T [6] (.pure 0 (.take 1 (.take 3 (.alt 2 (.pure 4 (.pure 5 (.alt 6 .fin .stop))) .stop)))) (by kernel_rfl) (by kernel_rfl) ?_
 refine A0 ?_ rfl (by rfl) (fun w' hs=>?_) (fun _ _ _ h=>h) ?_
 rotate_left
 ·clear hs
  go_simp
  try rfl
 simp only [Act.put,D6,D5,D4]
 iterate 2
  refine A9 ?_ t0 rfl (by rfl) (fun w' hs=>?_) (fun _ _ _ h=>h) ?_
  rotate_left
  ·rw [HT.out] at hs
   obtain ⟨q1,q2⟩:=hs
   go_simp
   try rfl
  simp only [Act.put,D6,D5,D4]
 refine A8 rfl (fun K hK=>?_)
 go_simp
 refine (A5u HST.out ha hn).mono ?_
 rintro e w2 ⟨own',g,k,rfl,hh,hc⟩
 have t2:T w2:=by rw [HT.out] at t0 ⊢;exact ⟨(hc.only.row? (World.row?_lt t0.1) (fun h2=>h2.1 ho1)).trans t0.1,(hc.only.row? (World.row?_lt t0.2) (fun h2=>h2.1 ho2)).trans t0.2⟩
 have hf:=World.free?_sub hh.free (o':=k*55+21) (n':=32) (by omega)
 have HH:=hid hh
 have HC:=hid ((K1.below own HB.out).trans hc)
 clear hh hc
 refine hK.out _ _ t2 ?_
 clear hK K
 iterate 2
  refine A0 ?_ rfl (by rfl) (fun w' hs=>?_) (fun _ _ _ h=>h) ?_
  rotate_left
  ·clear hs
   go_simp
   try rfl
  simp only [Act.put,D6,D5,D4]
 refine L0 rfl (by simp) (fun K hK=>?_)
 go_simp
 refine hK.out _ _ ?_
 clear hK K
 refine C3 ?_
 go_wp2
 go_end0
 obtain ⟨k1,k2⟩:=HH.out.bal v hv
 exact ⟨rfl,own',k1,HC.out.trans k2⟩
theorem B0p {w:World} {own:Go.Mun.Own} {sb a n:Nat} {S:St} {M:List (Nat × St)} (x:Nat) (h:RState w own sb S M n) (ha:a < wA) (hx:x≤9223372036854775807) (hn:n≤1000000) :
  Calls Tryz.prog 60 #[.pointer (some ⟨sb,0,none⟩),.agg (A3 20 a).toArray,.int .i64 (x:Int)] w (B48 w own sb (Z8 S a { S a with nonce:=x }) M (n+2)):=by
 obtain ⟨w0,e0⟩:∃ w0,w0=w.alloc (.cells (A3 20 a).toArray 23):=⟨_,rfl⟩
 have hb0:Below w.heap.size w w0:=by rw [e0];exact (Below.refl _ _).alloc (Nat.le_refl _) _
 have hl1:(A3 20 a).length=20:=by simp
 have hx1:¬ (x:Int) < 0:=by omega
 have hxd:decide ((x:Int) < 0)=false:=decide_eq_false hx1
 have q1:w0.row? w.heap.size 0 20=some (A3 20 a):=by rw [e0];exact World.row?_alloc_at _ _ _ rfl (by simp)
 have HST:=hid (h.below hb0)
 have HB:=hid hb0
 have HE:=hid e0
 have HX:=hid hx
 clear e0 hb0 h hx hx1
 go_enter Tryz.func60,Tryz.ntmps60
 go_wp2_with fail
 rw [← HE.out]
 refine (A5u HST.out ha hn).mono ?_
 rintro e w2 ⟨own',g,k,rfl,hh,hc⟩
 have hf:=World.free?_sub hh.free (o':=k*55+20) (n':=1) (by omega)
 have HH:=hid hh
 have HC:=hid ((K1.below own HB.out).trans hc)
 clear hh hc q1
 go_wp2
 go_end0
 obtain ⟨k1,k2⟩:=HH.out.nonce (x:Int) ⟨by omega,by have:=HX.out;omega⟩
 exact ⟨rfl,own',k1,HC.out.trans k2⟩
theorem B2L {w:World} {own:Go.Mun.Own} {sb a n:Nat} {S:St} {M:List (Nat × St)} {dv:Value} {l:V1} (h:RState w own sb S M n) (ha:a < wA) (hd:K8 w (fun b=>own b≠none) dv l) (hn:n≤1000000) :
  Calls Tryz.prog 62 #[.pointer (some ⟨sb,0,none⟩),.agg (A3 20 a).toArray,dv] w (B48 w own sb (Z8 S a { S a with code:=l }) M (n+2)):=by
 obtain ⟨w0,e0⟩:∃ w0,w0=w.alloc (.cells (A3 20 a).toArray 23):=⟨_,rfl⟩
 have hb0:Below w.heap.size w w0:=by rw [e0];exact (Below.refl _ _).alloc (Nat.le_refl _) _
 have hl1:(A3 20 a).length=20:=by simp
 have q1:w0.row? w.heap.size 0 20=some (A3 20 a):=by rw [e0];exact World.row?_alloc_at _ _ _ rfl (by simp)
 have hd0:=hd
 obtain ⟨⟨da,dc,rfl,_,_⟩,hby,hln⟩:=hd0
 have HD:=hid (K8.below hd hb0)
 have HST:=hid (h.below hb0)
 have HB:=hid hb0
 have HE:=hid e0
 have hln2:l.length≤maxLen:=by unfold maxLen;omega
 have HBY:=hid hby
 clear e0 hb0 h hd hby
 go_enter Tryz.func62,Tryz.ntmps62
 go_wp2_with fail
 rw [← HE.out]
 refine (A5u HST.out ha hn).mono ?_
 rintro e w2 ⟨own',g,k,rfl,hh,hc⟩
 have hd2:=K8.chg HD.out hc.chg
 obtain ⟨⟨da2,dc2,ed,hI,_⟩,_,_⟩:=hd2
 cases ed
 have HI:=hid hI
 have HH:=hid hh
 have HC:=hid ((K1.below own HB.out).trans hc)
 clear hh hc q1 hI
 go_wp2_with (at_builtin;go_must (refine G6 A5Y rfl _ _ rfl (World.ownsRow_nil _ _ _ _) rfl (F0.ints HI.out) rfl ?c1 ?c2 ?_))
 case c1=>omega
 case c2=>omega
 intro v3 w3 hv3 ho3 hn3
 have hb3:Below w2.heap.size w2 w3:=ho3.below (Nat.le_refl _) (fun i hi=>by simp [Value.ownBlock] at hi)
 have hv3':w3.ownsRow 0 5 1 v3 l.length (l.map (Value.int .u8)):=by simpa using hv3
 have hone:v3.oneCell'=true:=by obtain ⟨_,_,rfl⟩:=E1 hv3';rfl
 have hf:=World.free?_sub (HH.out.below hb3).free (o':=k*55+53) (n':=1) (by omega)
 have HB3:=hid hb3
 have HV3:=hid hv3'
 have HN3:Hid (∀ g,v3.ownBlock=some g→w2.heap.size≤g):=fun g hg=>(hn3 g hg).resolve_left (by simp [Value.ownBlock])
 clear hv3 ho3 hn3 hb3 hv3'
 go_wp2
 go_end0
 obtain ⟨own2,k1,k2⟩:=HH.out.newCode HB3.out HV3.out HN3.out HBY.out hln
 exact ⟨rfl,own2,k1,HC.out.trans k2⟩
theorem B7M {w:World} {own:Go.Mun.Own} {sb a n:Nat} {S:St} {M:List (Nat × St)} (h:RState w own sb S M n) (ha:a < wA) (hn:n≤1000000) :
  Calls Tryz.prog 59 #[.pointer (some ⟨sb,0,none⟩),.agg (A3 20 a).toArray] w (B48 w own sb (Z8 S a Acc.none) M (n+2)):=by
 obtain ⟨w0,e0⟩:∃ w0,w0=w.alloc (.cells (A3 20 a).toArray 23):=⟨_,rfl⟩
 have hb0:Below w.heap.size w w0:=by rw [e0];exact (Below.refl _ _).alloc (Nat.le_refl _) _
 have hl1:(A3 20 a).length=20:=by simp
 have hx:w0.drew.row? w.heap.size 0 20=some (A3 20 a):=by rw [e0];exact World.row?_alloc_at _ _ _ rfl (by simp)
 have ho1:=U9 h (Nat.le_refl _)
 have HST:=hid (h.below hb0.drew)
 have HB:=hid hb0.drew
 have HE:=hid e0
 have hbuild:=A30 a
 have hz:I5 (A4d a)=I5 (J3.new a,.slice none 0 0,.slice none 0 0):=rfl
 rw [← hz] at hbuild
 have hok:P0 55 (I5 (A4d a))=true:=A2L (A3a (w:=w) (own:=own) ha)
 obtain ⟨C,hC⟩:∃ C,C=I5 (A4d a):=⟨_,rfl⟩
 rw [← hC] at hbuild hok
 have HC0:=hid hC
 obtain ⟨T,hT⟩:∃ T:World→Prop,T=fun W=>W.row? w.heap.size 0 20=some (A3 20 a):=⟨_,rfl⟩
 have HT:=hid hT
 have t0:T w0.drew:=by rw [hT];exact hx
 clear e0 hb0 hx hT h hz hC
 go_enter Tryz.func59,Tryz.ntmps59
 go_wp2_with fail
 rw [← HE.out]
 refine A6 T [6] (.pure 0 (.take 1 (.take 3 (.pure 4 (.alt 2 (.pure 5 (.alt 6 .fin .stop)) .stop))))) (by kernel_rfl) (by kernel_rfl) ?_
 refine A0 ?_ rfl (by rfl) (fun w' hs=>?_) (fun _ _ _ h=>h) ?_
 rotate_left
 ·clear hs
  go_simp
  try rfl
 simp only [Act.put,D6,D5,D4]
 iterate 2
  refine A9 ?_ t0 rfl (by rfl) (fun w' hs=>?_) (fun _ _ _ h=>h) ?_
  rotate_left
  ·rw [HT.out] at hs
   have q1:=hs
   go_simp
   try rfl
  simp only [Act.put,D6,D5,D4]
 refine A0 ?_ rfl (by rfl) (fun w' hs=>?_) (fun _ _ _ h=>h) ?_
 rotate_left
 ·clear hs
  refine (B3o _ _ _ _ _ _ _ _).trans ?_
  refine (congrArg (fun r=>F7 (Y0 Tryz.prog 35 _ _ r)) hbuild).trans ?_
  rfl
 simp only [Act.put,D6,D5,D4]
 refine A8 rfl (fun K hK=>?_)
 go_simp
 refine (A5u HST.out ha hn).mono ?_
 rintro e w2 ⟨own',g,k,rfl,hh,hc⟩
 have t2:T w2:=by rw [HT.out] at t0 ⊢;exact (hc.only.row? (World.row?_lt t0) (fun h2=>h2.1 ho1)).trans t0
 have hf:=hh.free
 have HH:=hid hh
 have HC:=hid ((K1.below own HB.out).trans hc)
 clear hh hc
 refine hK.out _ _ t2 ?_
 clear hK K
 refine A0 ?_ rfl (by rfl) (fun w' hs=>?_) (fun _ _ _ h=>h) ?_
 rotate_left
 ·clear hs
  go_simp
  try rfl
 simp only [Act.put,D6,D5,D4]
 refine L0 rfl (by simp) (fun K hK=>?_)
 go_simp
 refine hK.out _ _ ?_
 clear hK K
 refine C3 ?_
 go_wp2
 go_end0
 obtain ⟨k1,k2⟩:=HH.out.kill ha
 rw [← HC0.out,Nat.add_zero] at k1 k2
 exact ⟨rfl,own',k1,HC.out.trans k2⟩
end Go.Proofs.YtfflppedbopdpaaGreat
namespace Go.Proofs.YtfflppedbopdpaaGreat
open Go.RowKit Go.Mun
structure B8B (w:World) (own:Go.Mun.Own) (S:St) (n a:Nat) (p:J3 × Value × Value):Prop where
 ok:U4 w own p
 addr:p.1.ac.addr=a
 acc:p.1.acc=S a
 slots:p.1.slots.length≤n∧(p.1.slots.map Prod.fst).Pairwise (· < ·)∧∀ q∈p.1.slots,q.2≠0
theorem B4u {w:World} {own:Go.Mun.Own} {a n:Nat} {ps:List (J3 × Value × Value)} (h:∀ p∈ps,U4 w own p) (ha:a < wA) (hw:A0u ps n):B8B w own (rst (F6 ps)) n a (A2g ps a):=by
 refine ⟨B6u h ha,B26 ps a,B4v ps a,?_⟩
 rcases A9k ps a with h1 | h1
 ·exact hw.slots _ h1
 ·rw [h1];exact ⟨Nat.zero_le _,List.Pairwise.nil,fun q hq=>by cases hq⟩
theorem B71 (w:World) (t:List Value) (ty:TypeId):((w.alloc (.cells t.toArray ty)).alloc (.cells (B7 L9).toArray 35)).free? (w.heap.size+1) 0 55=true:=World.free?_alloc_at _ _ (by simp) (by rw [X1];omega)
attribute [local irreducible] wpStill
theorem A6S {w:World} {own:Go.Mun.Own} {sb a n:Nat} {S:St} {M:List (Nat × St)} (h:RState w own sb S M n) (ha:a < wA) (hn:n≤1000000) :
  Calls Tryz.prog 66 #[.pointer (some ⟨sb,0,none⟩),.agg (A3 20 a).toArray] w fun e w' => ∃ p,e = .returned (.agg (I5 p).toArray)∧Below w.heap.size w w'∧B8B w own S n a p:=by
 obtain ⟨lv,mv,ps,ms,x0,h1,rfl,_,hw,_,_⟩:=h
 have hpl:ps.length≤1000000:=Nat.le_trans hw.len hn
 obtain ⟨la,lc,rfl⟩:=h1.arr.form
 have hgot:=B4u h1.arr.ok ha hw
 obtain ⟨w1,e1⟩:∃ w1,w1=(w.alloc (.cells (A3 20 a).toArray 23)).alloc (.cells (B7 L9).toArray 35):=⟨_,rfl⟩
 have hb1:Below w.heap.size w w1:=by rw [e1];exact ((Below.refl _ _).alloc (Nat.le_refl _) _).alloc (by simp) _
 have r1:w1.row? w.heap.size 0 20=some (A3 20 a):=by rw [e1,World.row?_alloc_lt _ (by simp)];exact World.row?_alloc_at _ _ _ rfl (B0 _ _)
 have f1:w1.free? (w.heap.size+1) 0 55=true:=by rw [e1];exact B71 w _ _
 have h2:RStC w1 own sb (.slice la ps.length lc) mv ps ms x0:=h1.only (S:=fun _=>False) (A2.of_below_size hb1) (fun _ h=>h.elim)
 obtain ⟨m,hm⟩:∃ m,m=ps.length:=⟨_,rfl⟩
 have H1:=hid h2
 have HE:=hid e1
 have HB1:=hid hb1
 have HR1:=hid r1
 have HF1:=hid f1
 have HM:=hid hm
 have HG:=hid hgot
 have hla:=B0 20 a
 rw [← hm] at hpl
 clear h1 h2 e1 hb1 r1 f1 hm hgot
 go_enter Tryz.func66,Tryz.ntmps66
 go_wp2_with fail
 rw [← HE.out]
 go_loopw [5] (fun ix wr => ∃ k:Nat,k≤m∧ix = .int .i64 (k:Int)∧Below w1.heap.size w1 wr∧Hid (∀ j (hj:j < ps.length),j < k→ps[j].1.ac.addr≠a)) (fun ix _=>m - (intOf ix).toNat)
 case atStart=>exact ⟨0,by omega,rfl,Below.refl _ _,fun j _ hj=>by omega⟩
 case round =>
  obtain ⟨k,hk,rfl,hbw,HNO⟩:=hrel
  have hw2:RStC wr own sb (.slice la ps.length lc) mv ps ms x0:=H1.out.only (S:=fun _=>False) (A2.of_below_size hbw) (fun _ h=>h.elim)
  have c0:=World.row?_cell hw2.row (i:=0) (by omega)
  simp only [Nat.zero_add,List.getElem?_cons_zero] at c0
  rw [← HM.out] at c0
  have r2:wr.row? w.heap.size 0 20=some (A3 20 a):=((D2 hbw).1 _ _ _ (World.row?_lt HR1.out)).trans HR1.out
  have f2:wr.free? (w.heap.size+1) 0 55=true:=((D2 hbw).2 _ _ _ (C4 HF1.out)).trans HF1.out
  have HBW:=hid hbw
  have HW2:=hid hw2
  clear hbw hw2
  by_cases hkm:k < m
  ·have hkp:k < ps.length:=by have:=HM.out;omega
   obtain ⟨g,c',hlv,hgo,hrow,hfr⟩:=HW2.out.arr.row hkp
   cases hlv
   have hxa:=(HW2.out.arr.ok _ (List.getElem_mem hkp)).addr
   obtain ⟨x,hx⟩:∃ x,x=ps[k].1.ac.addr:=⟨_,rfl⟩
   have r3:wr.drew.row? g (k*55) 20=some (A3 20 x):=by rw [hx];exact J5 hrow (i:=0) rfl (by simp [P4,A5]) (by simp)
   have r2':wr.drew.row? w.heap.size 0 20=some (A3 20 a):=r2
   have c0':wr.drew.cell? ⟨sb,0,none⟩=some (.slice (some ⟨g,0,none⟩) m lc):=c0
   have f2':wr.drew.free? (w.heap.size+1) 0 55=true:=f2
   have hlx:=B0 20 x
   have heq:=eqA (a:=x) (b:=a) (by rw [hx];exact hxa) ha wr.drew
   have hkI:(k:Int) < m:=by omega
   have dk:decide ((k:Int) < (m:Int))=true:=decide_eq_true hkI
   have dn:(k < m)=True:=eq_true hkm
   have HXX:Hid (ps[k].1.ac.addr=x):=hx.symm
   obtain ⟨C,hC⟩:∃ C,C=I5 (ps[k]'hkp):=⟨_,rfl⟩
   have r4:wr.drew.row? g (k*55) 55=some C:=by rw [hC];exact hrow
   have hpo:P0 55 C=true:=by rw [hC];exact A2L (HW2.out.arr.ok _ (List.getElem_mem hkp))
   have HC:=hid hC
   have hcl:=L2 hpo
   clear hx hrow hfr r3 hxa hC
   have r3:wr.drew.row? g (k*55) 20=some (A3 20 x):=by rw [← HXX.out];exact J5 ((show wr.drew.row? g (k*55) 55=some (I5 ps[k]) from by rw [← HC.out];exact r4)) (i:=0) rfl (by simp [P4,A5]) (by simp)
   by_cases hxa:x=a
   ·have deq:decide (x=a)=true:=decide_eq_true hxa
    rw [deq] at heq
    have HP:Hid (A2g ps a=ps[k]):=B1L ps a k hkp HNO.out (HXX.out.trans hxa)
    clear hxa deq
    go_wp2_with fail
    refine F8 (by kernel_rfl) (by kernel_rfl) ?_
    repeat still_step
    refine wpStill_nil ?_
    go_wp2_with fail
    refine F2 B5j rfl _ rfl rfl f2' hpo ?_
    refine ⟨A2g ps a,by rw [HP.out,HC.out],?_,HG.out⟩
    exact (HB1.out.trans (HBW.out.drew.mono HB1.out.size)).setCells (Nat.le_succ _) _ _
   ·have deq:decide (x=a)=false:=decide_eq_false hxa
    rw [deq] at heq
    have HN2:Hid (∀ j (hj:j < ps.length),j < k+1→ps[j].1.ac.addr≠a):=by
     intro j hj hjk
     by_cases e:j=k
     ·subst e;rw [HXX.out];exact hxa
     ·exact HNO.out j hj (by omega)
    have hk1:IntKind.i64.wrap ((k:Int)+1)=((k+1:Nat):Int):=by rw [V3 _ (by omega) (by omega)];omega
    clear hxa deq
    go_wp2_with fail
    refine F8 (by kernel_rfl) (by kernel_rfl) ?_
    repeat still_step
    refine wpStill_nil ?_
    go_wp2_with fail
    go_roundw
    case rel=>exact ⟨k+1,by omega,by go_num,HBW.out.drew,HN2⟩
    case measure=>simp [intOf];omega
  ·have hkd:decide ((k:Int) < (m:Int))=false:=decide_eq_false (by omega)
   have hkn:(k < m)=False:=eq_false hkm
   have HP:Hid (A2g ps a=A4d a):=B1K ps a (fun j hj=>HNO.out j hj (by have:=HM.out;omega))
   have hbuild:=A30 a
   have hok:P0 55 (I5 (A4d a))=true:=A2L (A3a (w:=w) (own:=own) ha)
   have hz:I5 (A4d a)=I5 (J3.new a,.slice none 0 0,.slice none 0 0):=rfl
   rw [← hz] at hbuild
   obtain ⟨C,hC⟩:∃ C,C=I5 (A4d a):=⟨_,rfl⟩
   rw [← hC] at hbuild hok
   have HC:=hid hC
   have hcl:=L2 hok
   clear hkm hz hC
   go_wp2
   refine F2 B5j rfl _ rfl rfl f2 hok ?_
   refine ⟨A2g ps a,by rw [HP.out,HC.out],?_,HG.out⟩
   exact (HB1.out.trans (HBW.out.mono HB1.out.size)).setCells (Nat.le_succ _) _ _
end Go.Proofs.YtfflppedbopdpaaGreat
