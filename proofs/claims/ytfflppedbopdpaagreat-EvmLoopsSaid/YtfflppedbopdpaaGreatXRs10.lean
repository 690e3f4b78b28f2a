/- A part of the proof of EvmLoops: XRs10. -/
import Derived.Test.YtfflppedbopdpaaGreatXRs4
import Derived.Test.YtfflppedbopdpaaGreatXRw0
import Derived.Test.YtfflppedbopdpaaGreatXNw1
import Derived.Test.YtfflppedbopdpaaGreatXOps1
import Derived.Deep.RegionHeld3
set_option linter.unusedVariables false
set_option maxRecDepth 1000000
set_option maxHeartbeats 8000000
set_option linter.unusedSimpArgs false
namespace Go.Proofs.YtfflppedbopdpaaGreat
open Go.RowKit Go.Mun

theorem A0W:V0 Tryz.prog 33 97 (.agg (K0 64).toArray) 64 64:=.mk' Tryz.underlying33 (by kernel_rfl) (by kernel_rfl) (by decide)
theorem B86 (ρ:Operand→Value) (dst:Option Tmp) (x y:Operand) (t:TypeId) (pos:String) (after:Array Edge) (gd:Option (Nat × Bool)) (w:World):(execOp ρ ⟨dst,.store 33 x y,t,pos,after,gd⟩).run Tryz.prog w=L1 (A0S Tryz.prog 33 (ρ x) (ρ y) w):=N9 ρ dst x y t pos after gd w (by kernel_rfl)
attribute [go_sem ↓] B86
theorem A0T (sl:List (Nat × Nat)):P0 (sl.length*64) (D9 sl)=true:=by
 refine A0q (A1e sl) fun v hv=>?_
 obtain ⟨p,_,hp⟩:=List.mem_flatMap.1 hv
 rcases List.mem_append.1 hp with h | h
 ·exact M8 (C7 32 p.1) v h
 ·exact M8 (C7 32 p.2) v h
structure A1K (w0 w:World) (v:Value) (ds:List (J3 × Value × Value)):Prop where
 below:Below w0.heap.size w0 w
 own:w.ownsRow w0.heap.size 35 55 v ds.length (G8 ds)
 code:∀ p∈ds,w.ownsRow w0.heap.size 5 1 p.2.1 p.1.ac.code.length (p.1.ac.code.map (Value.int .u8))
 slots:∀ p∈ds,w.ownsRow w0.heap.size 97 64 p.2.2 p.1.slots.length (D9 p.1.slots)
theorem A1K.start (w:World):A1K w w (.slice none 0 0) []:=⟨Below.refl _ _,World.ownsRow_nil _ _ _ _,fun p hp=>(by cases hp),fun p hp=>(by cases hp)⟩
theorem A1K.next {w0 w w':World} {v:Value} {ds:List (J3 × Value × Value)} (h:A1K w0 w v ds) (hb:Below w.heap.size w w'):A1K w0 w' v ds:=
 ⟨h.below.trans (hb.mono h.below.size),C2 h.own hb,fun p hp=>C2 (h.code p hp) hb,fun p hp=>C2 (h.slots p hp) hb⟩
theorem B0F {w w':World} {row:Option Nat} (hg:w.grownBy w' row):A2 (fun g=>row=some g) w w':=A2.of_grown hg
theorem A1K.app {w0 w w':World} {v v':Value} {ds:List (J3 × Value × Value)} {p:J3 × Value × Value} (h:A1K w0 w v ds) (ho:w'.ownsRow w0.heap.size 35 55 v' (ds.length+1) (G8 ds++I5 p))
  (hg:w.grownBy w' v.ownBlock) (hc:w.ownsRow w0.heap.size 5 1 p.2.1 p.1.ac.code.length (p.1.ac.code.map (Value.int .u8))) (hs:w.ownsRow w0.heap.size 97 64 p.2.2 p.1.slots.length (D9 p.1.slots)):A1K w0 w' v' (ds++[p]):=by
 have hO:=B0F hg
 have hk:∀ {e s n:Nat} {u:Value} {xs:List Value},w.ownsRow w0.heap.size e s u n xs→e≠35→w'.ownsRow w0.heap.size e s u n xs:=fun hu he=>A2.own hu hO fun g hg2 e2=>by
  rcases A1R h.own hu (fun e3=>he e3.symm) with e4 | e4
  ·rw [e4] at e2;cases e2
  ·exact e4 (by rw [e2,hg2])
 refine ⟨h.below.grown hg h.below.size (fun k hk=>(h.own.lt k hk).1),?_,fun q hq=>?_,fun q hq=>?_⟩
 ·rw [List.length_append,A19]
  have:G8 [p]=I5 p:=by simp [G8]
  rw [this];exact ho
 ·rcases List.mem_append.1 hq with hq | hq
  ·exact hk (h.code q hq) (by decide)
  ·rw [List.mem_singleton.1 hq];exact hk hc (by decide)
 ·rcases List.mem_append.1 hq with hq | hq
  ·exact hk (h.slots q hq) (by decide)
  ·rw [List.mem_singleton.1 hq];exact hk hs (by decide)
structure B47 (w:World) (v:Value) (ps:List (J3 × Value × Value)):Prop where
 form:∃ ad c,v = .slice ad ps.length c∧∀ i (hi:i < ps.length),∃ g off,ad=some ⟨g,off,none⟩∧w.row? g (off+i*55) 55=some (I5 ps[i])
 code:∀ p∈ps,(∃ a c,p.2.1 = .slice a p.1.ac.code.length c∧I7 w .u8 a c p.1.ac.code)∧p.1.ac.code.length≤1099511627776
 slots:∀ p∈ps,(∃ a c,p.2.2 = .slice a p.1.slots.length c∧F0 w a c p.1.slots.length 64 (D9 p.1.slots))∧p.1.slots.length≤1000000
 len:ps.length≤1000001
theorem B47.next {w w':World} {v:Value} {ps:List (J3 × Value × Value)} (h:B47 w v ps) (hb:Below w.heap.size w w'):B47 w' v ps:=by
 obtain ⟨⟨ad,c,h1,h2⟩,h3,h4,h5⟩:=h
 refine ⟨⟨ad,c,h1,fun i hi=>?_⟩,fun p hp=>?_,fun p hp=>?_,h5⟩
 ·obtain ⟨g,off,e1,e2⟩:=h2 i hi
  exact ⟨g,off,e1,((D2 hb).1 _ _ _ (World.row?_lt e2)).trans e2⟩
 ·obtain ⟨⟨a,c,e1,e2⟩,e3⟩:=h3 p hp
  exact ⟨⟨a,c,e1,e2.below hb⟩,e3⟩
 ·obtain ⟨⟨a,c,e1,e2⟩,e3⟩:=h4 p hp
  exact ⟨⟨a,c,e1,e2.below hb⟩,e3⟩
theorem A7C {w:World} {own:Go.Mun.Own} {p:J3 × Value × Value} (h:U4 w own p):((∃ a c,p.2.1 = .slice a p.1.ac.code.length c∧I7 w .u8 a c p.1.ac.code)∧p.1.ac.code.length≤1099511627776)∧((∃ a c,p.2.2 = .slice a p.1.slots.length c∧F0 w a c p.1.slots.length 64 (D9 p.1.slots))∧p.1.slots.length≤1000000):=by
 obtain ⟨a,c,e1,e2,_⟩:=h.code.read
 obtain ⟨a2,c2,e3⟩:=E1 h.slots.read
 refine ⟨⟨⟨a,c,e1,e2⟩,h.code.len⟩,⟨⟨a2,c2,e3,?_⟩,h.slots.len⟩⟩
 have:=h.slots.read
 rw [e3] at this
 exact A4O this (A0T _)
theorem A5f {w:World} {own:Go.Mun.Own} {base:Nat} {v:Value} {ps:List (J3 × Value × Value)} (h:w.ownsRow base 35 55 v ps.length (G8 ps)) (hok:∀ p∈ps,U4 w own p) (hl:ps.length≤1000001):B47 w v ps:=by
 refine ⟨?_,fun p hp=>(A7C (hok p hp)).1,fun p hp=>(A7C (hok p hp)).2,hl⟩
 obtain ⟨ad,c,e⟩:=E1 h
 refine ⟨ad,c,e,fun i hi=>?_⟩
 obtain ⟨g,c',e2,_,_,_,hr,_⟩:=I3 h (by omega)
 rw [e] at e2
 cases e2
 refine ⟨g,0,rfl,?_⟩
 have h1:=World.row?_sub hr (o':=0+i*55) (n':=55) (by omega) (by omega)
 rw [h1,Nat.zero_add,Nat.sub_zero,A3D ps i hi]
theorem B2J (p:J3 × Value × Value) (u v:Value):I5 (p.1,u,v)=splice (splice (I5 p) 53 [u]) 54 [v]:=by
 unfold I5
 rw [X3 (i:=3) (s:=[p.2.1]) rfl (by simp) (by simp [P4,A7,A5])]
 rw [X3 (i:=4) (s:=[p.2.2]) rfl (by simp) (by simp [P4,A7,A5])]
 rfl
theorem B1Y {w:World} {g o:Nat} {p:J3 × Value × Value} (h:w.row? g o 55=some (I5 p)):w.cell? ⟨g,o+53,none⟩=some p.2.1:=D1 h (i:=3) rfl (by simp [P4,A7,A5])
theorem A4Y {w:World} {g o:Nat} {p:J3 × Value × Value} (h:w.row? g o 55=some (I5 p)):w.cell? ⟨g,o+54,none⟩=some p.2.2:=D1 h (i:=4) rfl (by simp [P4,A7,A5])
def C1y (w:World) (ps:List (J3 × Value × Value)) (e:Ending) (w':World):Prop:=
 ∃ v ds,e = .returned v∧A1K w w' v ds∧F6 ds=F6 ps
theorem A81 {w:World} {v:Value} {ps:List (J3 × Value × Value)} (h:B47 w v ps):Calls Tryz.prog 83 #[v] w (C1y w ps):=by
 obtain ⟨ad,cp,rfl,hrow⟩:=h.form
 obtain ⟨m,hm⟩:∃ m,m=ps.length:=⟨_,rfl⟩
 have hml:m≤1000001:=by rw [hm];exact h.len
 have HM:=hid hm
 have HS:=hid h
 have HROW:=hid hrow
 rw [← hm]
 clear h hm hrow
 go_enter Tryz.func83,Tryz.ntmps83
 go_wp2_with fail
 go_loopw [3,4] (fun u ix wr => ∃ (k:Nat) (ds:List (J3 × Value × Value)),k≤m∧ix = .int .i64 (k:Int)∧Hid (A1K w wr u ds∧F6 ds=(F6 ps).take k)) (fun _ ix _=>m - (intOf ix).toNat)
 case atStart=>exact ⟨0,[],by omega,rfl,A1K.start w,by simp [F6]⟩
 case round =>
  obtain ⟨k,ds,hk,rfl,HR⟩:=hrel
  by_cases hlt:k < m
  ·have hI:(k:Int) < m:=by omega
   have hkp:k < ps.length:=by have:=HM.out;omega
   have hdl:ds.length=k:=by
    have:=congrArg List.length HR.out.2
    simpa [F6,List.length_take,Nat.min_eq_left (Nat.le_of_lt hkp)] using this
   obtain ⟨g,off,rfl,hr0⟩:=HROW.out k hkp
   have hglt:=World.row?_lt hr0
   obtain ⟨P,hP⟩:∃ P,P=ps[k]'hkp:=⟨_,rfl⟩
   have hPm:P∈ps:=by rw [hP];exact List.getElem_mem hkp
   obtain ⟨⟨ca,cc,ecv,_⟩,hcl⟩:=HS.out.code P hPm
   obtain ⟨⟨sa,sc,esv,_⟩,hsl⟩:=HS.out.slots P hPm
   have HTK:Hid ((F6 ps).take (k+1)=(F6 ps).take k++[P.1]):=by
    have:(F6 ps)[k]? = some P.1:=by unfold F6;rw [List.getElem?_map,List.getElem?_eq_getElem hkp,hP];rfl
    show (F6 ps).take (k+1)=_
    rw [List.take_add_one,this];rfl
   have hr1:wr.row? g (off+k*55) 55=some (I5 P):=by rw [hP];exact ((D2 HR.out.1.below).1 _ _ _ hglt).trans hr0
   obtain ⟨C,hC⟩:∃ C,C=I5 P:=⟨_,rfl⟩
   have hok:P0 55 C=true:=by
    rw [hC];unfold I5;rw [ecv,esv]
    exact A1a (L8 _ _ _) fun s hs=>by
     simp only [P4,List.mem_cons,List.not_mem_nil,or_false] at hs
     rcases hs with rfl | rfl | rfl | rfl | rfl
     all_goals first | rfl | (rw [B0];exact C7 _ _)
   obtain ⟨n1,hn1⟩:∃ n1,n1=P.1.ac.code.length:=⟨_,rfl⟩
   obtain ⟨n2,hn2⟩:∃ n2,n2=P.1.slots.length:=⟨_,rfl⟩
   have c53:=B1Y hr1
   have c54:=A4Y hr1
   rw [ecv,← hn1] at c53
   rw [esv,← hn2] at c54
   rw [← hC] at hr1
   -- the box
   obtain ⟨b,hb⟩:∃ b,b=wr.heap.size:=⟨_,rfl⟩
   have hgb:g < b:=by rw [hb];exact Nat.lt_of_lt_of_le hglt HR.out.1.below.size
   have hz:=X1
   obtain ⟨w5,e5⟩:∃ w5,w5=(wr.alloc (.cells (B7 L9).toArray 35)).setCells wr.heap.size 0 C:=⟨_,rfl⟩
   have hfz:(wr.alloc (.cells (B7 L9).toArray 35)).free? wr.heap.size 0 55=true:=World.free?_alloc_at _ _ rfl (by rw [hz];omega)
   have hb5:Below wr.heap.size wr w5:=by rw [e5];exact ((Below.refl _ _).alloc (Nat.le_refl _) _).setCells (Nat.le_refl _) _ _
   have a5:Arr w5 b 55 C:=by
    rw [e5,hb]
    exact ⟨B8 C hfz hok,by rw [World.free?_setCells'];exact hfz⟩
   have q53:w5.cell? ⟨g,off+k*55+53,none⟩=some (.slice ca n1 cc):=by rw [hb5.cell (p:=⟨g,off+k*55+53,none⟩) (by rw [← hb];exact hgb)];exact c53
   have q54:w5.cell? ⟨g,off+k*55+54,none⟩=some (.slice sa n2 sc):=by rw [hb5.cell (p:=⟨g,off+k*55+54,none⟩) (by rw [← hb];exact hgb)];exact c54
   have HI5:Hid (I7 w5 .u8 ca cc P.1.ac.code∧F0 w5 sa sc n2 64 (D9 P.1.slots)):=by
    have hx:=HS.out.next (HR.out.1.below.trans (hb5.mono HR.out.1.below.size))
    obtain ⟨⟨ca',cc',e1,i1⟩,_⟩:=hx.code P hPm
    obtain ⟨⟨sa',sc',e2,i2⟩,_⟩:=hx.slots P hPm
    rw [ecv] at e1;rw [esv] at e2
    cases e1;cases e2
    rw [hn2];exact ⟨i1,i2⟩
   have HR5:=hid (HR.out.1.next hb5)
   have HB5:=hid hb5
   have HA5:=hid a5
   have HE5:=hid e5
   have HC:=hid hC
   have HN1:=hid hn1
   have HN2:=hid hn2
   have HBS:=hid hb
   have HQ54:=hid q54
   have HESV:=hid esv
   have HECV:=hid ecv
   have hn1l:n1≤1099511627776:=by omega
   have hn2l:n2≤1000000:=by omega
   rw [e5] at q53
   clear hb5 a5 e5 c53 c54 hC hn1 hn2 hr0 hP q54 hb esv ecv
   go_wp2_with (rw [← HE5.out];rw [← HBS.out];at_builtin;go_must (refine G6 A5Y rfl _ _ rfl (World.ownsRow_nil _ _ _ _) rfl (by rw [HN1.out];exact F0.ints HI5.out.1) rfl ?c1 ?c2 ?_))
   case c1=>unfold maxLen;omega
   case c2=>omega
   intro v6 w6 hv6 ho6 hn6
   obtain ⟨a6,c6,ev6⟩:=E1 hv6
   have hb6:Below w5.heap.size w5 w6:=ho6.below (Nat.le_refl _) (fun i hi=>by simp [Value.ownBlock] at hi)
   have hsz5:=HB5.out.size
   have hv6':w6.ownsRow w.heap.size 5 1 v6 P.1.ac.code.length (P.1.ac.code.map (Value.int .u8)):=by
    have:=Y8 (base:=w.heap.size) hv6 (fun g hg=>by
     have h1:=(hn6 g hg).resolve_left (by simp [Value.ownBlock])
     have h2:=HR.out.1.below.size
     omega)
    rw [HN1.out] at this
    simpa using this
   have hA6:Arr w6 b 55 C:=HA5.out.below hb6
   have hf53:=World.free?_sub hA6.free (o':=53) (n':=1) (by omega)
   have hone6:v6.oneCell'=true:=by rw [ev6];rfl
   have hA6s:=hA6.set (i:=53) (by omega) v6
   have hbl5:b < w5.heap.size:=HA5.out.lt
   have hb6w:Below wr.heap.size wr (w6.setCell ⟨b,53,none⟩ v6):=(HB5.out.trans (hb6.mono hsz5)).setCell (p:=⟨b,53,none⟩) (by rw [← HBS.out];exact Nat.le_refl _) _
   have q54:(w6.setCell ⟨b,53,none⟩ v6).cell? ⟨g,off+k*55+54,none⟩=some (.slice sa n2 sc):=by
    have h1:w6.cell? ⟨g,off+k*55+54,none⟩=some (.slice sa n2 sc):=(hb6.cell (p:=⟨g,off+k*55+54,none⟩) (by show g < w5.heap.size;omega)).trans HQ54.out
    exact (World.cell?_setCells_block (w:=w6) b 53 ⟨g,off+k*55+54,none⟩ [v6] (by show g≠b;omega)).trans h1
   have HV6:=hid hv6'
   have HW6:=hid hb6w
   have HA6:=hid hA6s
   have HEV6:=hid ev6
   have HNW6:Hid (∀ g,v6.ownBlock=some g→w5.heap.size≤g):=fun g hg=>(hn6 g hg).resolve_left (by simp [Value.ownBlock])
   obtain ⟨W7,hW7⟩:∃ W7,W7=w6.setCell ⟨b,53,none⟩ v6:=⟨_,rfl⟩
   have HW7:=hid hW7
   have HSA:Hid (F0 W7 sa sc n2 64 (D9 P.1.slots)):=by
    rw [hW7]
    have hx:=HS.out.next (HR.out.1.below.trans (hb6w.mono HR.out.1.below.size))
    obtain ⟨⟨sa',sc',e2,i2⟩,_⟩:=hx.slots P hPm
    have e3:=HESV.out
    rw [e3] at e2
    cases e2
    rw [HN2.out];exact i2
   clear hv6 ho6 hn6 hb6 hv6' hA6 hA6s hb6w ev6 hW7
   go_wp2_with (rw [← HW7.out];at_builtin;go_must (refine G6 A0W rfl _ _ rfl (World.ownsRow_nil _ _ _ _) rfl HSA.out rfl ?e1 ?e2 ?_))
   case e1=>unfold maxLen;omega
   case e2=>omega
   intro v7 w7 hv7 ho7 hn7
   obtain ⟨a7,c7,ev7⟩:=E1 hv7
   have hb7:Below W7.heap.size W7 w7:=ho7.below (Nat.le_refl _) (fun i hi=>by simp [Value.ownBlock] at hi)
   have hW7w:Below wr.heap.size wr W7:=by rw [HW7.out];exact HW6.out
   have hv7':w7.ownsRow w.heap.size 97 64 v7 P.1.slots.length (D9 P.1.slots):=by
    have:=Y8 (base:=w.heap.size) hv7 (fun g hg=>by
     have h1:=(hn7 g hg).resolve_left (by simp [Value.ownBlock])
     have h2:=HR.out.1.below.size
     have h3:=hW7w.size
     omega)
    rw [HN2.out] at this
    simpa using this
   have hA7:Arr w7 b 55 (C.set 53 v6):=Arr.below (by rw [HW7.out];exact HA6.out) hb7
   have hf54:=World.free?_sub hA7.free (o':=54) (n':=1) (by omega)
   have hone7:v7.oneCell'=true:=by rw [ev7];rfl
   have hA8:=hA7.set (i:=54) (by omega) v7
   obtain ⟨D,hD⟩:∃ D,D=I5 (P.1,v6,v7):=⟨_,rfl⟩
   have eD:(C.set 53 v6).set 54 v7=D:=by
    have hl:=L2 hok
    rw [hD,B2J,← HC.out,A0a C 53 v6 (by omega),A0a (C.set 53 v6) 54 v7 (by simp;omega)]
   rw [eD] at hA8
   have r8:=hA8.row
   have hDl:D.length=55:=by rw [hD];exact P5 _
   have HDK:Hid (P0 (1*55) D=true):=by
    show _=_
    rw [hD];unfold I5
    rw [show (P.1,v6,v7).2.1=v6 from rfl,show (P.1,v6,v7).2.2=v7 from rfl,HEV6.out,ev7]
    exact A1a (L8 _ _ _) fun s hs=>by
     simp only [P4,List.mem_cons,List.not_mem_nil,or_false] at hs
     rcases hs with rfl | rfl | rfl | rfl | rfl
     all_goals first | rfl | (rw [B0];exact C7 _ _)
   obtain ⟨W8,hW8⟩:∃ W8,W8=w7.setCell ⟨b,54,none⟩ v7:=⟨_,rfl⟩
   have hb8:Below wr.heap.size wr W8:=by
    rw [hW8];exact (hW7w.trans (hb7.mono hW7w.size)).setCell (p:=⟨b,54,none⟩) (by rw [← HBS.out];exact Nat.le_refl _) _
   have HR8:=hid (HR.out.1.next hb8)
   -- the two new rows there
   have hbb6:∀ g,v6.ownBlock=some g→g≠b:=fun g hg e=>by
    have:=HNW6.out g hg
    have:=HA5.out.lt
    omega
   have hbb7:∀ g,v7.ownBlock=some g→g≠b:=fun g hg e=>by
    have h1:=(hn7 g hg).resolve_left (by simp [Value.ownBlock])
    have h2:b < W7.heap.size:=by rw [HW7.out];exact HA6.out.lt
    omega
   have HV6':Hid (W8.ownsRow w.heap.size 5 1 v6 P.1.ac.code.length (P.1.ac.code.map (Value.int .u8))):=by
    have h1:W7.ownsRow w.heap.size 5 1 v6 P.1.ac.code.length (P.1.ac.code.map (Value.int .u8)):=by
     rw [HW7.out];exact A2.own HV6.out (E5 w6 b 53 v6) (fun g hg e=>hbb6 g hg e)
    rw [hW8]
    exact A2.own (C2 h1 hb7) (E5 w7 b 54 v7) (fun g hg e=>hbb6 g hg e)
   have HV7':Hid (W8.ownsRow w.heap.size 97 64 v7 P.1.slots.length (D9 P.1.slots)):=by
    rw [hW8]
    exact A2.own hv7' (E5 w7 b 54 v7) (fun g hg e=>hbb7 g hg e)
   have HSZ:Hid (w7.heap.size=W8.heap.size):=by
    show _=_
    rw [hW8];simp
   have HW8:=hid hW8
   have HD:=hid hD
   have hsz8:=hb8.size
   have hszw:=HR.out.1.below.size
   clear hv7 ho7 hn7 ev7 hb7 hW7w hv7' hA7 hA8 hD hW8 hb8 hbb6 hbb7 eD q54
   go_wp2_with (rw [← HW8.out];at_builtin;go_must (refine A0w (base:=w.heap.size) (n:=ds.length) (xs:=G8 ds) A1s rfl _ _ rfl rfl rfl HR8.out.own HSZ.out HDK.out ?f1 ?f2 ?f3 ?_))
   case f1=>unfold maxLen;omega
   case f2=>omega
   case f3=>have:=hsz8;omega
   intro v9 w9 hv9 hg9 _
   have HN9:Hid (A1K w w9 v9 (ds++[(P.1,v6,v7)])∧F6 (ds++[(P.1,v6,v7)])=(F6 ps).take (k+1)):=by
    refine ⟨HR8.out.app (p:=(P.1,v6,v7)) (by rw [← HD.out];simpa [hdl] using hv9) hg9 HV6'.out HV7'.out,?_⟩
    rw [HTK.out,← HR.out.2]
    simp [F6]
   clear hv9 hg9
   go_wp2
   go_roundw
   case rel=>exact ⟨k+1,_,by omega,by go_num,HN9⟩
   case measure=>simp [intOf];omega
  ·obtain rfl:k=m:=by omega
   have hI:¬ (k:Int) < k:=by omega
   clear hlt
   go_wp2
   go_ret
   obtain ⟨h1,h2⟩:=HR.out
   exact ⟨_,ds,rfl,h1,by rw [h2];exact List.take_of_length_le (by simp [F6];have:=HM.out;omega)⟩
structure B6U (x:J3):Prop where
 addr:x.ac.addr < wA
 bal:x.ac.bal < wW
 nonce:0≤x.ac.nonce∧x.ac.nonce≤9223372036854775807
 byte:Byt x.ac.code
 clen:x.ac.code.length≤1099511627776
 val:∀ p∈x.slots,p.1 < wW∧p.2 < wW
 slen:x.slots.length≤1000000
theorem B6Z {w:World} {own:Go.Mun.Own} {p:J3 × Value × Value} (h:U4 w own p):B6U p.1:=⟨h.addr,h.bal,h.nonce,h.code.byte,h.code.len,h.slots.val,h.slots.len⟩
theorem B7H {w:World} {own:Go.Mun.Own} {ps ds:List (J3 × Value × Value)} (h:∀ p∈ps,U4 w own p) (he:F6 ds=F6 ps):∀ p∈ds,B6U p.1:=by
 intro p hp
 have:p.1∈F6 ds:=List.mem_map.2 ⟨p,hp,rfl⟩
 rw [he] at this
 obtain ⟨q,hq,e⟩:=List.mem_map.1 this
 rw [← e];exact B6Z (h q hq)
open Classical in
theorem B3j {v0 w:World} {own:Go.Mun.Own} {v:Value} {ds:List (J3 × Value × Value)} (hlow:∀ b,own b≠none→b < v0.heap.size) (hc:A1K v0 w v ds) (hb:∀ p∈ds,B6U p.1) :
  ∃ own':Go.Mun.Own,(∀ b,b < v0.heap.size→own' b=own b)∧(∀ b,own' b≠none→b < w.heap.size)∧RArr w own' v ds∧own.le own':=by
 let own':Go.Mun.Own:=fun b=>if v.ownBlock=some b then some .acc else if (∃ p∈ds,p.2.1.ownBlock=some b) then some .code else if (∃ p∈ds,p.2.2.ownBlock=some b) then some (.smap 0) else own b
 have hx:∀ b,b < v0.heap.size→own' b=own b:=by
  intro b hlt
  show (if v.ownBlock=some b then some Lab.acc else if (∃ p∈ds,p.2.1.ownBlock=some b) then some Lab.code else if (∃ p∈ds,p.2.2.ownBlock=some b) then some (Lab.smap 0) else own b)=own b
  rw [if_neg (fun e=>by have:=L7 hc.own b e;omega),if_neg (by rintro ⟨p,hp,e⟩;have:=L7 (hc.code p hp) b e;omega),if_neg (by rintro ⟨p,hp,e⟩;have:=L7 (hc.slots p hp) b e;omega)]
 have hle:own.le own':=fun b l h=>by
  have hlt:=hlow b (by rw [h];simp)
  rw [hx b hlt];exact h
 have hs:=hc.below.size
 refine ⟨own',hx,?_,⟨E8 hc.own (Nat.zero_le _),?_,?_⟩,hle⟩
 ·intro b hne
  by_cases h1:v.ownBlock=some b
  ·exact C8 hc.own b h1
  by_cases h2:∃ p∈ds,p.2.1.ownBlock=some b
  ·obtain ⟨p,hp,e⟩:=h2;exact C8 (hc.code p hp) b e
  by_cases h3:∃ p∈ds,p.2.2.ownBlock=some b
  ·obtain ⟨p,hp,e⟩:=h3;exact C8 (hc.slots p hp) b e
  have hne2:(if v.ownBlock=some b then some Lab.acc else if (∃ p∈ds,p.2.1.ownBlock=some b) then some Lab.code else if (∃ p∈ds,p.2.2.ownBlock=some b) then some (Lab.smap 0) else own b)≠none:=hne
  rw [if_neg h1,if_neg h2,if_neg h3] at hne2
  exact Nat.lt_of_lt_of_le (hlow b hne2) hs
 ·intro g hg
  show (if v.ownBlock=some g then some Lab.acc else _)=some Lab.acc
  rw [if_pos hg]
 ·intro p hp
  have B:=hb p hp
  have hv5:=hc.code p hp
  have hv6:=hc.slots p hp
  obtain ⟨a,c,e1,_,i1⟩:=I7.of_own' hv5
  refine ⟨⟨⟨a,c,e1,i1,fun _ q hq=>?_⟩,B.byte,B.clen⟩,⟨E8 hv6 (Nat.zero_le _),fun g hg=>?_,B.val,B.slen⟩,B.addr,B.bal,B.nonce⟩
  ·have hob:p.2.1.ownBlock=some q.block:=by rw [e1,hq];rfl
   show (if v.ownBlock=some q.block then some Lab.acc else if (∃ p∈ds,p.2.1.ownBlock=some q.block) then some Lab.code else _)=some Lab.code
   rw [if_neg (fun e=>by
    rcases A1R hc.own hv5 (by decide) with h | h
    ·rw [h] at e;cases e
    ·exact h (by rw [e,hob])),if_pos ⟨p,hp,hob⟩]
  ·show (if v.ownBlock=some g then some Lab.acc else if (∃ p∈ds,p.2.1.ownBlock=some g) then some Lab.code else if (∃ p∈ds,p.2.2.ownBlock=some g) then some (Lab.smap 0) else own g)=some (Lab.smap 0)
   rw [if_neg (fun e=>by
    rcases A1R hc.own hv6 (by decide) with h | h
    ·rw [h] at e;cases e
    ·exact h (by rw [e,hg])),if_neg (by
    rintro ⟨q,hq,e⟩
    rcases A1R (hc.code q hq) hv6 (by decide) with h | h
    ·rw [h] at e;cases e
    ·exact h (by rw [e,hg])),if_pos ⟨p,hp,hg⟩]
section
variable {w w':World} {own own':Go.Mun.Own} {sb n:Nat} {lv mv:Value} {ps:List (J3 × Value × Value)} {ms:List (Nat × Value × List (J3 × Value × Value))}
theorem _root_.Go.Mun.RStC.le (h:RStC w own sb lv mv ps ms n) (hle:own.le own') (hlow:∀ b,own' b≠none→b < w.heap.size):RStC w own' sb lv mv ps ms n:=
 { h with
  lab:=hle _ _ h.lab
  arr:=h.arr.le hle
  mlab:=fun g hg=>hle _ _ (h.mlab g hg)
  each:=fun m hm=>⟨(h.each m hm).1.le hle,(h.each m hm).2⟩
  low:=hlow }
theorem _root_.Go.Mun.RStC.tick (h:RStC w own sb lv mv ps ms n):RStC (w.setCell ⟨sb,2,none⟩ (.int .i64 ((n+1:Nat):Int))) own sb lv mv ps ms (n+1)∧K1 w (w.setCell ⟨sb,2,none⟩ (.int .i64 ((n+1:Nat):Int))) own own:=by
 have hO:A2 (· = sb) w (w.setCell ⟨sb,2,none⟩ (.int .i64 ((n+1:Nat):Int))):=E5 _ _ _ _
 have hS:∀ b,b=sb→own b≠some .code∧own b≠some (.smap 0):=fun b hb=>by rw [hb,h.lab];simp
 have hno:∀ {u:Value} {l:Lab},l≠.st→(∀ g,u.ownBlock=some g→own g=some l)→∀ g,u.ownBlock=some g→¬ g=sb:=fun hl hv g hg e=>by
  have:=hv g hg
  rw [e,h.lab] at this
  cases this;exact hl rfl
 refine ⟨{
  lab:=h.lab
  row:=by rw [G9 _ h.row (Nat.zero_le _) (by omega)];rfl
  free:=by rw [D0];exact h.free
  arr:=h.arr.only hO hS (hno (by simp) h.arr.lab)
  up:=h.up
  marks:=A2.own h.marks hO (hno (by simp) h.mlab)
  mlab:=h.mlab
  each:=fun m hm=>⟨(h.each m hm).1.only hO hS (hno (by simp) (h.each m hm).1.lab),(h.each m hm).2⟩
  apart:=h.apart
  low:=fun b hb=>Nat.lt_of_lt_of_le (h.low b hb) hO.size
  count:=⟨Nat.le_succ_of_le h.count.1,fun m hm=>Nat.le_succ_of_le (h.count.2 m hm)⟩ },⟨fun _ _=>rfl,hO.mono fun b hb=>by
   have hb':b=sb:=hb
   exact A2P (l:=.st) (by rw [hb'];exact h.lab) (by simp) (by simp)⟩⟩
def B7S (ms:List (Nat × Value × List (J3 × Value × Value))):List Value:=ms.flatMap fun m => [.int .i64 m.1,m.2.1]
theorem _root_.Go.Mun.RStC.addMark {w3:World} {v mv':Value} {ds:List (J3 × Value × Value)} (h:RStC w own sb lv mv ps ms n) (hm:ms.length+1≤n) (harr:RArr w own v ds) (hup:Q1 (F6 ds))
  (hap:∀ u∈lv :: ms.map (fun m=>m.2.1),u.ownBlock=none∨u.ownBlock≠v.ownBlock) (ho:A2 (fun g=>mv.ownBlock=some g) w w3) (hr:w3.ownsRow 0 195 2 mv' (ms.length+1) (B7S ms++[.int .i64 (n:Int),v]))
  (hl:∀ g,mv'.ownBlock=some g→mv.ownBlock=some g∨w.heap.size≤g) :
  ∃ own',RStC (w3.setCell ⟨sb,1,none⟩ mv') own' sb lv mv' ps (ms++[(n,v,ds)]) n∧K1 w (w3.setCell ⟨sb,1,none⟩ mv') own own':=by
 obtain ⟨hext,hle⟩:=Own.mark_le (l:=.marks) hl h.mlab h.low
 have hmv:∀ {u:Value} {l:Lab},l≠.marks→(∀ g,u.ownBlock=some g→own g=some l)→∀ g,u.ownBlock=some g→¬ mv.ownBlock=some g:=fun hl hv g hg e=>by
  have h1:=hv g hg
  rw [h.mlab g e] at h1
  cases h1;exact hl rfl
 have hsbn:¬ mv.ownBlock=some sb:=fun e=>by have:=h.mlab sb e;rw [h.lab] at this;cases this
 have hlt:=World.row?_lt h.row
 have hO:A2 (fun g=>mv.ownBlock=some g∨g=sb) w (w3.setCell ⟨sb,1,none⟩ mv'):=(ho.mono fun _ h => .inl h).setCell (p:=⟨sb,1,none⟩) (fun _ => .inr rfl) _
 have hS:∀ b,(mv.ownBlock=some b∨b=sb)→own b≠some .code∧own b≠some (.smap 0):=fun b hb=>by
  rcases hb with hb | hb
  ·rw [h.mlab b hb];simp
  ·rw [hb,h.lab];simp
 have hno:∀ {u:Value} {l:Lab},l≠.st→l≠.marks→(∀ g,u.ownBlock=some g→own g=some l)→∀ g,u.ownBlock=some g→¬ (mv.ownBlock=some g∨g=sb):=fun h1 h2 hv g hg e=>by
  rcases e with e | e
  ·exact hmv h2 hv g hg e
  ·have:=hv g hg;rw [e,h.lab] at this;cases this;exact h1 rfl
 have hrow3:w3.row? sb 0 3=some [lv,mv,.int .i64 n]:=by rw [ho.row? hlt hsbn];exact h.row
 have hfree3:w3.free? sb 0 3=true:=by rw [ho.free? hlt hsbn];exact h.free
 have hmvs:∀ g,mv'.ownBlock=some g→¬ g=sb:=fun g hg e=>by
  rcases hl g hg with h1 | h1
  ·exact hsbn (by rw [← e];exact h1)
  ·omega
 refine ⟨_,{
  lab:=hle _ _ h.lab
  row:=by rw [G9 _ hrow3 (Nat.zero_le _) (by omega)];rfl
  free:=by rw [D0];exact hfree3
  arr:=(h.arr.only hO hS (hno (by simp) (by simp) h.arr.lab)).le hle
  up:=h.up
  marks:=?_
  mlab:=fun g hg=>by show (if _ then _ else _)=_;rw [if_pos hg]
  each:=fun m hm2=>?_
  apart:=?_
  low:=?_
  count:=⟨by rw [List.length_append];exact hm,fun m hm2=>?_⟩ },⟨hext,hO.mono fun b hb=>?_⟩⟩
 ·have:=A2.own hr (E5 w3 sb 1 mv') hmvs
  rw [List.length_append]
  have e:(ms++[(n,v,ds)]).flatMap (fun m => [Value.int .i64 m.1,m.2.1])=B7S ms++[.int .i64 (n:Int),v]:=by
   rw [List.flatMap_append];rfl
  rw [e];exact this
 ·rcases List.mem_append.1 hm2 with h2 | h2
  ·exact ⟨((h.each m h2).1.only hO hS (hno (by simp) (by simp) (h.each m h2).1.lab)).le hle,(h.each m h2).2⟩
  ·rw [List.mem_singleton.1 h2]
   exact ⟨(harr.only hO hS (hno (by simp) (by simp) harr.lab)).le hle,hup⟩
 ·have e:lv :: (ms++[(n,v,ds)]).map (fun m=>m.2.1)=(lv :: ms.map fun m=>m.2.1)++[v]:=by simp
  rw [e,List.pairwise_append]
  exact ⟨h.apart,List.pairwise_singleton _ _,fun a ha b hb=>by rw [List.mem_singleton.1 hb];exact hap a ha⟩
 ·intro b hb
  by_cases e:mv'.ownBlock=some b
  ·rw [World.size_setCell];exact C8 hr b e
  ·have hb2:(if mv'.ownBlock=some b then some Lab.marks else own b)≠none:=hb
   rw [if_neg e] at hb2
   exact Nat.lt_of_lt_of_le (h.low b hb2) hO.size
 ·rcases List.mem_append.1 hm2 with h2 | h2
  ·exact h.count.2 m h2
  ·rw [List.mem_singleton.1 h2];exact Nat.le_refl _
 ·rcases hb with hb | hb
  ·exact A2P (l:=.marks) (h.mlab b hb) (by simp) (by simp)
  ·exact A2P (l:=.st) (by rw [hb];exact h.lab) (by simp) (by simp)
end
end Go.Proofs.YtfflppedbopdpaaGreat
namespace Go.Proofs.YtfflppedbopdpaaGreat
open Go.RowKit Go.Mun
theorem B9B:V0 Tryz.prog 123 195 (.agg #[.int .i64 0,.slice none 0 0]) 2 32:=.mk' Tryz.underlying123 (by kernel_rfl) (by rfl) (by decide)
theorem B7F (ρ:Operand→Value) (dst:Option Tmp) (x y:Operand) (t:TypeId) (pos:String) (after:Array Edge) (gd:Option (Nat × Bool)) (w:World):(execOp ρ ⟨dst,.store 123 x y,t,pos,after,gd⟩).run Tryz.prog w=L1 (A0S Tryz.prog 123 (ρ x) (ρ y) w):=N9 ρ dst x y t pos after gd w (by kernel_rfl)
attribute [go_sem ↓] B7F
theorem B7L {w:World} {own:Go.Mun.Own} {sb n:Nat} {S:St} {M:List (Nat × St)} (h:RState w own sb S M n) (hn:n≤1000000) :
  Calls Tryz.prog 68 #[.pointer (some ⟨sb,0,none⟩)] w fun e w' => ∃ x:Nat,e = .returned (.int .i64 (x:Int))∧(∀ m∈M,m.1 < x)∧∃ own',RState w' own' sb S (M++[(x,S)]) (n+1)∧K1 w w' own own':=by
 obtain ⟨lv,mv,ps,ms,k,h1,hS,hM,hw,hwm,hkn⟩:=h
 obtain ⟨t1,g1⟩:=h1.tick
 have hf2:=World.free?_sub h1.free (o':=2) (n':=1) (by omega)
 have c2:=World.row?_cell h1.row (i:=2) (by omega)
 simp only [Nat.zero_add,List.getElem?_cons_succ,List.getElem?_cons_zero] at c2
 obtain ⟨w1,e1⟩:∃ w1,w1=w.setCell ⟨sb,2,none⟩ (.int .i64 ((k+1:Nat):Int)):=⟨_,rfl⟩
 rw [← e1] at t1 g1
 have t1d:RStC w1.drew own sb lv mv ps ms (k+1):=t1.only (S:=fun _=>False) (A2.of_below_size (Below.refl _ _).drew) (fun _ h=>h.elim)
 have hsrc:=A5f t1d.arr.cells t1d.arr.ok (Nat.le_succ_of_le (Nat.le_trans hw.len hn))
 obtain ⟨ma,mc,emv⟩:=E1 h1.marks
 obtain ⟨la,lc,elv⟩:=E1 h1.arr.cells
 have hck:IntKind.i64.wrap ((k:Int)+1)=((k+1:Nat):Int):=by rw [V3 _ (by omega) (by omega)];omega
 have hcnt:=h1.count
 obtain ⟨y,hy⟩:∃ y,y=k+1:=⟨_,rfl⟩
 obtain ⟨q,hq⟩:∃ q,q=ms.length:=⟨_,rfl⟩
 have hq1:q≤1000000:=by have:=hcnt.1;omega
 rw [← hy] at e1 t1 t1d hck
 have HE:=hid e1
 have H1:=hid t1d
 have HSRC:=hid hsrc
 have HG:Hid (K1 w w1.drew own own):=g1.trans (K1.below own (Below.refl _ _).drew)
 have HY:=hid hy
 have HQ:=hid hq
 have HC:=hid hcnt
 obtain ⟨T,hT⟩:∃ T:World→Prop,T=fun W=>W.row? sb 0 3=some [lv,mv,.int .i64 (y:Int)]∧W.free? sb 0 3=true:=⟨_,rfl⟩
 have HT:=hid hT
 have t0:T w1.drew:=by rw [hT];exact ⟨t1d.row,t1d.free⟩
 have HWELL:Hid (S=rst (F6 ps)∧M=ms.map (fun m=>(m.1,rst (F6 m.2.2)))∧A0u ps n∧(∀ m∈ms,A0u m.2.2 n)∧k≤n):=⟨hS,hM,hw,hwm,hkn⟩
 have hrow1:=t1d.row
 have r0:=World.row?_cell hrow1 (i:=2) (by omega)
 simp only [Nat.zero_add,List.getElem?_cons_succ,List.getElem?_cons_zero] at r0
 have HMV:=hid emv
 clear h1 t1 t1d g1 hS hM hw hwm hkn hsrc hcnt hT hrow1 e1 hy hq r0 emv elv
 go_enter Tryz.func68,Tryz.ntmps68
 go_wp2_with fail
 rw [← HE.out]
 refine A6 T [19] (.pure 0 (.pure 1 (.pure 2 (.pure 3 (.take 4 (.pure 5 (.pure 6 (.pure 7 (.take 8 (.pure 9 (.pure 10 (.pure 11 (.take 12 (.alt 13 (.pure 14 (.alt 15 (.alt 16 (.pure 17 (.pure 18 (.alt 19 .fin .stop))) .stop) .stop)) .stop)))))))))))))) (by kernel_rfl) (by kernel_rfl) ?_
 iterate 4
  refine A0 ?_ rfl (by rfl) (fun w' hs=>?_) (fun _ _ _ h=>h) ?_
  rotate_left
  ·clear hs
   go_simp
   try rfl
  simp only [Act.put,D6,D5,D4]
 refine A9 (mv) t0 rfl (by rfl) (fun w' hs=>?_) (fun _ _ _ h=>h) ?_
 ·rw [HT.out] at hs
  obtain ⟨s1,s2⟩:=hs;have q0:=World.row?_cell s1 (i:=0) (by omega);have q1:=World.row?_cell s1 (i:=1) (by omega);have q2:=World.row?_cell s1 (i:=2) (by omega);simp only [Nat.zero_add,List.getElem?_cons_succ,List.getElem?_cons_zero] at q0 q1 q2
  go_simp
 simp only [Act.put,D6,D5,D4]
 iterate 7
  first
  |refine A0 ?_ rfl (by rfl) (fun w' hs=>?_) (fun _ _ _ h=>h) ?_
   rotate_left
   ·clear hs
    go_simp
    try rfl
   simp only [Act.put,D6,D5,D4]
  |refine A9 ?_ t0 rfl (by rfl) (fun w' hs=>?_) (fun _ _ _ h=>h) ?_
   rotate_left
   ·rw [HT.out] at hs
    obtain ⟨s1,s2⟩:=hs;have q0:=World.row?_cell s1 (i:=0) (by omega);have q1:=World.row?_cell s1 (i:=1) (by omega);have q2:=World.row?_cell s1 (i:=2) (by omega);simp only [Nat.zero_add,List.getElem?_cons_succ,List.getElem?_cons_zero] at q0 q1 q2
    go_simp
    try rfl
   simp only [Act.put,D6,D5,D4]
 refine A9 (lv) t0 rfl (by rfl) (fun w' hs=>?_) (fun _ _ _ h=>h) ?_
 ·rw [HT.out] at hs
  obtain ⟨s1,s2⟩:=hs;have q0:=World.row?_cell s1 (i:=0) (by omega);have q1:=World.row?_cell s1 (i:=1) (by omega);have q2:=World.row?_cell s1 (i:=2) (by omega);simp only [Nat.zero_add,List.getElem?_cons_succ,List.getElem?_cons_zero] at q0 q1 q2
  go_simp
 simp only [Act.put,D6,D5,D4]
 refine A8 rfl (fun K hK=>?_)
 go_simp
 refine (A81 HSRC.out).mono ?_
 rintro e w2 ⟨v,ds,rfl,hc,hf⟩
 obtain ⟨va,vc,ev⟩:=E1 hc.own
 obtain ⟨vn,hvn⟩:∃ vn,vn=ds.length:=⟨_,rfl⟩
 rw [← hvn] at ev
 subst ev
 have t2:T w2:=by rw [HT.out] at t0 ⊢;exact ⟨((D2 hc.below).1 _ _ _ (World.row?_lt t0.1)).trans t0.1,((D2 hc.below).2 _ _ _ (World.row?_lt t0.1)).trans t0.2⟩
 obtain ⟨own2,x1,x2,x3,x4⟩:=B3j H1.out.low hc (B7H H1.out.arr.ok hf)
 have h2:=(H1.out.only (S:=fun _=>False) (A2.of_below_size hc.below) (fun _ h=>h.elim)).le x4 x2
 have HG2:Hid (K1 w w2 own own2):=HG.out.trans ⟨x1,A2.of_below_size hc.below⟩
 have HAP:Hid (∀ u∈lv :: ms.map (fun m=>m.2.1),u.ownBlock=none∨u.ownBlock≠(Value.slice va vn vc).ownBlock):=by
  intro u hu
  cases hub:u.ownBlock with
  | none=>exact .inl rfl
  | some g =>
   refine .inr fun e=>?_
   have h3:=L7 hc.own g e.symm
   have h4:own g=some .acc:=by
    rcases List.mem_cons.1 hu with rfl | hu
    ·exact H1.out.arr.lab g hub
    ·obtain ⟨m,hm,rfl⟩:=List.mem_map.1 hu
     exact (H1.out.each m hm).1.lab g hub
   have h5:=H1.out.low g (by rw [h4];simp)
   omega
 have H2:=hid h2
 have HAR:=hid x3
 have HF:=hid hf
 clear hc hf x1 x2 x3 x4 h2 hvn
 refine hK.out _ _ t2 ?_
 clear hK K
 refine A0 ?_ rfl (by rfl) (fun w' hs=>?_) (fun _ _ _ h=>h) ?_
 rotate_left
 ·clear hs
  go_simp
  try rfl
 simp only [Act.put,D6,D5,D4]
 refine A8 rfl (fun K hK=>?_)
 go_simp
 have t3:T (w2.alloc (.cells #[.int .i64 (y:Int),.slice va vn vc] 195)):=by rw [HT.out] at t2 ⊢;exact ⟨(World.row?_alloc_lt _ (World.row?_lt t2.1)).trans t2.1,(World.free?_alloc_lt _ (World.row?_lt t2.1)).trans t2.2⟩
 have HMR:Hid ((w2.alloc (.cells #[.int .i64 (y:Int),.slice va vn vc] 195)).ownsRow 0 195 2 mv q (B7S ms)):=by have h3:=H2.out.marks;rw [← HQ.out] at h3;exact C2 h3 ((Below.refl _ _).alloc (Nat.le_refl _) _)
 refine hK.out _ _ t3 ?_
 clear hK K
 refine A8 rfl (fun K hK=>?_)
 refine O6 B9B rfl _ _ rfl HMR.out rfl (F0.new w2 (m:=1) (size:=2) (cs:=[.int .i64 (y:Int),.slice va vn vc]) 195 (0,0) rfl 1) rfl (by unfold maxLen;omega) (by omega) ?_
 intro mv' w4 hr4 ho4 hl4
 have ho24:A2 (fun g=>mv.ownBlock=some g) w2 w4:=((A2.refl _ _).alloc _).trans ho4 (fun i hi _=>hi)
 have hsbn:¬ mv.ownBlock=some sb:=fun e=>by have:=H2.out.mlab sb e;rw [H2.out.lab] at this;cases this
 have t4:T w4:=by rw [HT.out] at t2 ⊢;exact ⟨(ho24.row? (World.row?_lt t2.1) hsbn).trans t2.1,(ho24.free? (World.row?_lt t2.1) hsbn).trans t2.2⟩
 have hl4':∀ g,mv'.ownBlock=some g→mv.ownBlock=some g∨w2.heap.size≤g:=fun g hg=>by
  rcases hl4 g hg with h | h
  ·exact .inl h
  ·have h':w2.heap.size+1≤g:=by first | exact h | simpa using h
   exact .inr (by omega)
 have HADD:=hid (H2.out.addMark (v:=.slice va vn vc) (ds:=ds) (by have:=HC.out.1;have:=HY.out;omega) HAR.out (by have:=H2.out.up;unfold Q1 at this ⊢;rw [HF.out];exact this) HAP.out ho24 (by rw [← HQ.out];exact hr4) hl4')
 have hmo:mv'.oneCell'=true:=by obtain ⟨_,_,rfl⟩:=E1 hr4;rfl
 have hf1:w4.free? sb 1 1=true:=by have h3:=t4;rw [HT.out] at h3;exact World.free?_sub h3.2 (by omega)
 clear hr4 ho4 hl4 hl4' ho24
 refine hK.out _ _ t4 ?_
 clear hK K
 iterate 2
  refine A0 ?_ rfl (by rfl) (fun w' hs=>?_) (fun _ _ _ h=>h) ?_
  rotate_left
  ·clear hs
   go_simp
   try rfl
  simp only [Act.put,D6,D5,D4]
 refine L0 rfl (by simp) (fun K hK=>?_)
 go_simp
 refine hK.out _ _ ?_
 clear hK K
 refine C3 ?_
 obtain ⟨own5,k5,g5⟩:=HADD.out
 have r5:=World.row?_cell k5.row (i:=2) (by omega)
 simp only [Nat.zero_add,List.getElem?_cons_succ,List.getElem?_cons_zero] at r5
 have H5:=hid k5
 have HG5:=hid g5
 clear k5 g5 t0 t2 t3 t4 hf1
 go_wp2
 go_ret
 obtain ⟨z1,z2,z3,z4,z5⟩:=HWELL.out
 refine ⟨y,rfl,?_,own5,⟨lv,mv',ps,_,y,H5.out,z1,?_,z3.mono (Nat.le_succ n),?_,by have:=HY.out;omega⟩,HG2.out.trans HG5.out⟩
 ·intro m hm
  rw [z2] at hm
  obtain ⟨m',hm',rfl⟩:=List.mem_map.1 hm
  have h1:m'.1≤k:=HC.out.2 m' hm'
  have h2:=HY.out
  show m'.1 < y
  omega
 ·rw [z2,List.map_append,z1,← HF.out];rfl
 ·intro m hm
  rcases List.mem_append.1 hm with h | h
  ·exact (z4 m h).mono (Nat.le_succ n)
  ·rw [List.mem_singleton.1 h]
   have e:ds.length=ps.length:=by have:=congrArg List.length HF.out;simpa [F6] using this
   refine ⟨by rw [e];exact Nat.le_succ_of_le z3.len,fun p hp=>?_⟩
   have:p.1∈F6 ds:=List.mem_map.2 ⟨p,hp,rfl⟩
   rw [HF.out] at this
   obtain ⟨p',hp',e'⟩:=List.mem_map.1 this
   rw [← e']
   have:=z3.slots p' hp'
   exact ⟨Nat.le_succ_of_le this.1,this.2⟩
end Go.Proofs.YtfflppedbopdpaaGreat
namespace Go.Proofs.YtfflppedbopdpaaGreat
open Go.RowKit Go.Mun
def A00 (x:J3):Bool:=decide (x.ac.nonce=0) && decide (x.ac.bal=0) && decide (x.ac.code = []) && decide (x.slots = [])
theorem A8Z {p:J3 × Value × Value} {ca sa:Option Addr} {n1 n2 cc sc:Nat} (e1:p.2.1 = .slice ca n1 cc) (e2:p.2.2 = .slice sa n2 sc):P0 55 (I5 p)=true:=by
 unfold I5;rw [e1,e2]
 exact A1a (L8 _ _ _) fun s hs=>by
  simp only [P4,List.mem_cons,List.not_mem_nil,or_false] at hs
  rcases hs with rfl | rfl | rfl | rfl | rfl
  all_goals first | rfl | (rw [B0];exact C7 _ _)
theorem B2I {p:J3 × Value × Value} {ca sa:Option Addr} {cc sc:Nat} (ec:p.2.1 = .slice ca p.1.ac.code.length cc) (es:p.2.2 = .slice sa p.1.slots.length sc) (hb:p.1.ac.bal < wW) (w:World) :
  Calls Tryz.prog 82 #[.agg (I5 p).toArray] w fun e w'=>e = .returned (.bool (A00 p.1))∧Below w.heap.size w w':=by
 have hok:=A8Z ec es
 obtain ⟨w0,e0⟩:∃ w0,w0=w.alloc (.cells (I5 p).toArray 35):=⟨_,rfl⟩
 have hr:w0.row? w.heap.size 0 55=some (I5 p):=by rw [e0];exact World.row?_alloc_at _ _ _ rfl (P5 p)
 have hB:Below w.heap.size w w0:=by rw [e0];exact (Below.refl _ _).alloc (Nat.le_refl _) _
 have c20:w0.cell? ⟨w.heap.size,20,none⟩=some (.int .i64 p.1.ac.nonce):=D1 hr (i:=1) rfl (by simp [P4,A7,A5])
 have r21:w0.row? w.heap.size 21 32=some (A3 32 p.1.ac.bal):=J5 hr (i:=2) rfl (by simp [P4,A7,A5]) (by simp)
 have c53:=B1Y hr
 have c54:=A4Y hr
 rw [Nat.zero_add,ec] at c53
 rw [Nat.zero_add,es] at c54
 have HX:Hid (A00 p.1=(decide (p.1.ac.nonce=0) && decide (p.1.ac.bal=0) && decide (p.1.ac.code.length=0) && decide (p.1.slots.length=0))):=by
  show _=_
  unfold A00
  simp [List.length_eq_zero_iff]
 have HB:=hid hB
 have HE:=hid e0
 generalize A00 p.1=E at *
 generalize p.1.ac.nonce=nn at *
 generalize p.1.ac.bal=bl at *
 generalize p.1.ac.code.length=n1 at *
 generalize p.1.slots.length=n2 at *
 have hl2:(A3 32 bl).length=32:=by simp
 obtain ⟨C,hC⟩:∃ C,C=I5 p:=⟨_,rfl⟩
 have hcl:C.length=55:=by rw [hC];exact P5 p
 have gc:∀ i (hi:i < C.length) u,w0.cell? ⟨w.heap.size,i,none⟩=some u→C[i]=u:=by
  intro i hi u h
  have h2:=World.row?_cell hr (i:=i) (by omega)
  rw [Nat.zero_add,h,← hC,List.getElem?_eq_getElem hi] at h2
  exact (Option.some.inj h2).symm
 have g20:C[20]'(by omega) = .int .i64 nn:=gc _ _ _ c20
 have g53:C[53]'(by omega) = .slice ca n1 cc:=gc _ _ _ c53
 have g54:C[54]'(by omega) = .slice sa n2 sc:=gc _ _ _ c54
 rw [← hC] at HE hok ⊢
 rw [e0,← hC] at r21
 have z25:=A7d
 have heq:=eqW (a:=bl) (b:=0) hb (show (0:Nat) < wW by decide)
 clear e0 hr hB ec es hC gc c20 c53 c54
 by_cases h1:nn=0
 ·subst h1
  by_cases h2:bl=0
  ·have hd2:decide (bl=0)=true:=by simp [h2]
   rw [hd2] at heq
   by_cases h3:n1=0
   ·subst h3
    have HR:Hid (E=decide (n2=0)):=by show _=_;rw [HX.out];simp [h2]
    clear HX h2 hd2
    go_enter Tryz.func82,Tryz.ntmps82
    go_wp2_with fail
    by_cases h4:n2=0
    ·subst h4
     go_wp2
     go_ret
     exact ⟨by rw [HR.out];rfl,HE.out ▸ HB.out⟩
    ·have h4I:((n2:Int) == 0)=false:=by simp [h4]
     have HN:=hid h4
     clear h4
     go_wp2
     go_ret
     exact ⟨by rw [HR.out];simp [HN.out],HE.out ▸ HB.out⟩
   ·have h3I:((n1:Int) == 0)=false:=by simp [h3]
    have HR:Hid (E=false):=by show _=_;rw [HX.out];simp [h3]
    clear HX h2 hd2 h3
    go_enter Tryz.func82,Tryz.ntmps82
    go_wp2
    go_ret
    exact ⟨by rw [HR.out];rfl,HE.out ▸ HB.out⟩
  ·have hd2:decide (bl=0)=false:=by simp [h2]
   rw [hd2] at heq
   have HR:Hid (E=false):=by show _=_;rw [HX.out];simp [h2]
   clear HX h2 hd2
   go_enter Tryz.func82,Tryz.ntmps82
   go_wp2
   go_ret
   exact ⟨by rw [HR.out];rfl,HE.out ▸ HB.out⟩
 ·have h1I:(nn == 0)=false:=by simp [h1]
  have HR:Hid (E=false):=by show _=_;rw [HX.out];simp [h1]
  clear HX h1
  go_enter Tryz.func82,Tryz.ntmps82
  go_wp2
  go_ret
  exact ⟨by rw [HR.out];rfl,HE.out ▸ HB.out⟩
end Go.Proofs.YtfflppedbopdpaaGreat
namespace Go.Proofs.YtfflppedbopdpaaGreat
open Go.RowKit Go.Mun
theorem B4F (x:Nat) (w:World):(Op.equalIn 10000 23 (.agg (A3 20 x).toArray) (.agg (A3 20 x).toArray)).run Tryz.prog w = .ok true w:=by
 have h:∀ d,(Op.equalIn (d+3) 23 (.agg (A3 20 x).toArray) (.agg (A3 20 x).toArray)).run Tryz.prog w = .ok true w:=fun d=>by
  have:=A0D (n:=20) Tryz.underlying23 Tryz.underlying5 (by kernel_rfl) (d+1) x x w
  simpa [B06] using this
 exact A2V h
theorem A9v (x:Nat) (w:World):(Op.equalIn 10000 25 (.agg (A3 32 x).toArray) (.agg (A3 32 x).toArray)).run Tryz.prog w = .ok true w:=by
 have h:∀ d,(Op.equalIn (d+3) 25 (.agg (A3 32 x).toArray) (.agg (A3 32 x).toArray)).run Tryz.prog w = .ok true w:=fun d=>by
  have:=A0D (n:=32) Tryz.underlying25 Tryz.underlying5 (by kernel_rfl) (d+1) x x w
  simpa [B06] using this
 exact A2V h
end Go.Proofs.YtfflppedbopdpaaGreat
namespace Go.Proofs.YtfflppedbopdpaaGreat
open Go.RowKit Go.Mun
structure B2e (S:St) (n:Nat) (L:List J3):Prop where
 up:Q1 L
 acc:∀ x∈L,x.acc=S x.ac.addr∧¬ (S x.ac.addr).empty
 all:∀ a,¬ (S a).empty→∃ x∈L,x.ac.addr=a
 well:∀ x∈L,B6U x∧x.slots.length≤n∧(x.slots.map Prod.fst).Pairwise (· < ·)∧∀ q∈x.slots,q.2≠0
 len:L.length≤n
theorem A5W {x:J3} (h0:0≤x.ac.nonce) (hp:(x.slots.map Prod.fst).Pairwise (· < ·)) (hz:∀ q∈x.slots,q.2≠0):A00 x=true↔x.acc.empty:=by
 unfold A00 Acc.empty J3.acc
 simp only [Bool.and_eq_true,decide_eq_true_eq]
 constructor
 ·rintro ⟨⟨⟨h1,h2⟩,h3⟩,h4⟩
  exact ⟨by rw [h1];rfl,h2,h3,fun k=>by rw [h4];rfl⟩
 ·rintro ⟨h1,h2,h3,h4⟩
  refine ⟨⟨⟨by omega,h2⟩,h3⟩,?_⟩
  match hs:x.slots with
  | []=>rfl
  | q :: r =>
   have h5:=h4 q.1
   rw [hs] at h5
   have h6:=hz q (by rw [hs];simp)
   simp [E6] at h5
   exact absurd h5 h6
def A1p (ps:List (J3 × Value × Value)):List (J3 × Value × Value):=ps.filter fun p => !A00 p.1
theorem B2W {w:World} {own:Go.Mun.Own} {ps:List (J3 × Value × Value)} {n:Nat} (hu:Q1 (F6 ps)) (hok:∀ p∈ps,U4 w own p) (hw:A0u ps n) {L:List J3} (hL:L=F6 (A1p ps)):B2e (rst (F6 ps)) n L:=by
 subst hL
 have hmem:∀ x∈F6 (A1p ps),∃ p∈ps,p.1=x∧A00 x=false:=by
  intro x hx
  obtain ⟨p,hp,rfl⟩:=List.mem_map.1 hx
  obtain ⟨h1,h2⟩:=List.mem_filter.1 hp
  exact ⟨p,h1,rfl,by simpa using h2⟩
 have hacc:∀ p∈ps,p.1.acc=rst (F6 ps) p.1.ac.addr:=by
  intro p hp
  obtain ⟨i,hi⟩:=List.mem_iff_getElem?.1 hp
  exact (A2t hu (i:=i) (x:=p.1) (by unfold F6;rw [List.getElem?_map,hi];rfl)).symm
 refine ⟨?_,fun x hx=>?_,fun a ha=>?_,fun x hx=>?_,?_⟩
 ·unfold Q1 F6 A1p at *
  exact hu.sublist (List.Sublist.map _ (List.Sublist.map _ List.filter_sublist))
 ·obtain ⟨p,hp,rfl,he⟩:=hmem x hx
  have h1:=hacc p hp
  refine ⟨h1,fun h=>?_⟩
  rw [← h1] at h
  have:=(A5W (hok p hp).nonce.1 (hw.slots p hp).2.1 (hw.slots p hp).2.2).2 h
  rw [he] at this;cases this
 ·by_cases hx:∃ p∈ps,p.1.ac.addr=a
  ·obtain ⟨p,hp,rfl⟩:=hx
   refine ⟨p.1,List.mem_map.2 ⟨p,List.mem_filter.2 ⟨hp,?_⟩,rfl⟩,rfl⟩
   cases he:A00 p.1 with
   | false=>rfl
   | true =>
    have:=(A5W (hok p hp).nonce.1 (hw.slots p hp).2.1 (hw.slots p hp).2.2).1 he
    rw [hacc p hp] at this
    exact absurd this ha
  ·exfalso
   apply ha
   rw [A3B (fun x hx2 e=>by obtain ⟨p,hp,rfl⟩:=List.mem_map.1 hx2;exact hx ⟨p,hp,e⟩)]
   exact ⟨rfl,rfl,rfl,fun _=>rfl⟩
 ·obtain ⟨p,hp,rfl,_⟩:=hmem x hx
  exact ⟨B6Z (hok p hp),hw.slots p hp⟩
 ·have h1:(F6 (A1p ps)).length≤ps.length:=by unfold F6 A1p;rw [List.length_map];exact List.length_filter_le _ _
  exact Nat.le_trans h1 hw.len
theorem B0q {w:World} {own:Go.Mun.Own} {sb n:Nat} {S:St} {M:List (Nat × St)} (h:RState w own sb S M n) (hn:n≤1000000) :
  Calls Tryz.prog 42 #[.pointer (some ⟨sb,0,none⟩)] w fun e w' => ∃ v ds,e = .returned v∧A1K w w' v ds∧B2e S n (F6 ds):=by
 obtain ⟨lv,mv,ps,ms,x0,h1,rfl,_,hw,_,_⟩:=h
 have hpl:ps.length≤1000000:=Nat.le_trans hw.len hn
 obtain ⟨la,lc,rfl⟩:=h1.arr.form
 have HLIVE:Hid (∀ {L:List J3},L=F6 (A1p ps)→B2e (rst (F6 ps)) n L):=fun hL=>B2W h1.up h1.arr.ok hw hL
 obtain ⟨m,hm⟩:∃ m,m=ps.length:=⟨_,rfl⟩
 have H1:=hid h1
 have HM:=hid hm
 rw [← hm] at hpl
 clear h1 hm hw
 go_enter Tryz.func42,Tryz.ntmps42
 go_wp2_with fail
 go_loopw [3,4] (fun u ix wr => ∃ (k:Nat) (os:List (J3 × Value × Value)),k≤m∧ix = .int .i64 (k:Int)∧Hid (Below w.heap.size w wr∧os=A1p (ps.take k)∧wr.ownsRow w.heap.size 35 55 u os.length (G8 os))) (fun _ ix _=>m - (intOf ix).toNat)
 case atStart=>exact ⟨0,[],by omega,rfl,Below.refl _ _,by simp [A1p],World.ownsRow_nil _ _ _ _⟩
 case round =>
  obtain ⟨k,os,hk,rfl,HR⟩:=hrel
  have hw2:RStC wr own sb (.slice la ps.length lc) mv ps ms x0:=H1.out.only (S:=fun _=>False) (A2.of_below_size HR.out.1) (fun _ h=>h.elim)
  have c0:=World.row?_cell hw2.row (i:=0) (by omega)
  simp only [Nat.zero_add,List.getElem?_cons_zero] at c0
  rw [← HM.out] at c0
  have HW2:=hid hw2
  clear hw2
  by_cases hkm:k < m
  ·have hkp:k < ps.length:=by have:=HM.out;omega
   have hI:(k:Int) < m:=by omega
   have hdk:decide ((k:Int) < (m:Int))=true:=decide_eq_true hI
   have hdn:(k < m)=True:=eq_true hkm
   obtain ⟨g,c',hlv,hgo,hrow,hfr⟩:=HW2.out.arr.row hkp
   cases hlv
   obtain ⟨P,hP⟩:∃ P,P=ps[k]'hkp:=⟨_,rfl⟩
   have hPm:P∈ps:=by rw [hP];exact List.getElem_mem hkp
   have hPo:=HW2.out.arr.ok P hPm
   obtain ⟨⟨⟨ca,cc,ecv,_⟩,_⟩,⟨⟨sa,sc,esv,_⟩,_⟩⟩:=A7C hPo
   have HEM:=hid (fun W=>B2I ecv esv hPo.bal W)
   have hol:os.length≤1000000:=by
    rw [HR.out.2.1]
    have h1:(A1p (ps.take k)).length≤(ps.take k).length:=List.length_filter_le _ _
    rw [List.length_take] at h1
    omega
   have HTK:Hid (ps.take (k+1)=ps.take k++[P]):=by
    show _=_
    rw [List.take_add_one,List.getElem?_eq_getElem hkp,hP];rfl
   have hr1:wr.row? g (k*55) 55=some (I5 P):=by rw [hP];exact hrow
   have hokc:=A8Z ecv esv
   obtain ⟨C,hC⟩:∃ C,C=I5 P:=⟨_,rfl⟩
   rw [← hC] at hr1 hokc HEM
   have hcl:=L2 hokc
   have HC:=hid hC
   have hglt:=World.row?_lt hr1
   have hsbl:=World.block_lt_of_cell? _ _ c0
   clear hrow hfr hC hP hPo ecv esv hgo
   cases hem:A00 P.1 with
   | true =>
    rw [hem] at HEM
    have HN:Hid (os=A1p (ps.take (k+1))):=by
     show _=_
     rw [HTK.out];unfold A1p;rw [List.filter_append]
     have : [P].filter (fun p => !A00 p.1) = []:=by simp [hem]
     rw [this,List.append_nil];exact HR.out.2.1
    go_wp2_with fail
    refine (HEM.out _).mono ?_
    rintro e w3 ⟨rfl,hb3⟩
    have HB3:Hid (Below w.heap.size w w3∧w3.ownsRow w.heap.size 35 55 _ os.length (G8 os)):=⟨HR.out.1.trans (hb3.mono HR.out.1.size),C2 HR.out.2.2 hb3⟩
    clear hb3 hr1
    go_wp2
    go_roundw
    case rel=>exact ⟨k+1,os,by omega,by go_num,HB3.out.1,HN.out,HB3.out.2⟩
    case measure=>simp [intOf];omega
   | false =>
    rw [hem] at HEM
    go_wp2_with fail
    refine (HEM.out _).mono ?_
    rintro e w3 ⟨rfl,hb3⟩
    have HB3:Hid (Below w.heap.size w w3∧w3.ownsRow w.heap.size 35 55 _ os.length (G8 os)):=⟨HR.out.1.trans (hb3.mono HR.out.1.size),C2 HR.out.2.2 hb3⟩
    have hr3:w3.row? g (k*55) 55=some C:=((D2 hb3).1 _ _ _ hglt).trans hr1
    have c3:=(hb3.cell (p:=⟨sb,0,none⟩) hsbl).trans c0
    have hszw:=HB3.out.1.size
    clear hb3 hr1
    go_wp2_with (at_builtin;go_must (refine A0w (base:=w.heap.size) (n:=os.length) (xs:=G8 os) A1s rfl _ _ rfl rfl rfl HB3.out.2 rfl (by simpa using hokc) ?f1 ?f2 ?f3 ?_))
    case f1=>unfold maxLen;omega
    case f2=>omega
    case f3=>exact hszw
    intro v9 w9 hv9 hg9 _
    have HN9:Hid (Below w.heap.size w w9∧os++[P]=A1p (ps.take (k+1))∧w9.ownsRow w.heap.size 35 55 v9 (os++[P]).length (G8 (os++[P]))):=by
     refine ⟨HB3.out.1.grown hg9 hszw (fun k hk=>(HB3.out.2.lt k hk).1),?_,?_⟩
     ·rw [HTK.out,HR.out.2.1];unfold A1p;rw [List.filter_append]
      have : [P].filter (fun p => !A00 p.1) = [P]:=by simp [hem]
      rw [this]
     ·rw [List.length_append,A19]
      have:G8 [P]=C:=by rw [HC.out];simp [G8]
      rw [this];exact hv9
    clear hv9 hg9
    go_wp2
    go_roundw
    case rel=>exact ⟨k+1,_,by omega,by go_num,HN9⟩
    case measure=>simp [intOf];omega
  ·obtain rfl:k=m:=by omega
   have hI:¬ (k:Int) < k:=by omega
   have hos:os=A1p ps:=by rw [HR.out.2.1,List.take_of_length_le (by have:=HM.out;omega)]
   have hol:os.length≤1000001:=by
    rw [hos]
    have h1:(A1p ps).length≤ps.length:=List.length_filter_le _ _
    have:=HM.out
    omega
   have HSR:=hid (A5f HR.out.2.2 (fun p hp=>HW2.out.arr.ok p (List.mem_filter.1 (by rw [hos] at hp;exact hp)).1) hol)
   have HOS:=hid hos
   have hdk:decide ((k:Int) < (k:Int))=false:=decide_eq_false hI
   have hdn:(k < k)=False:=eq_false hkm
   clear hkm hos
   go_wp2_with fail
   refine (A81 HSR.out).mono ?_
   rintro e w3 ⟨v,ds,rfl,hc,hf⟩
   have HCP:Hid (A1K w w3 v ds):=⟨HR.out.1.trans (hc.below.mono HR.out.1.size),E8 hc.own HR.out.1.size,fun p hp=>E8 (hc.code p hp) HR.out.1.size,fun p hp=>E8 (hc.slots p hp) HR.out.1.size⟩
   have HF:=hid hf
   clear hc hf
   go_wp2
   go_ret
   exact ⟨v,ds,rfl,HCP.out,HLIVE.out (by rw [HF.out,HOS.out])⟩
end Go.Proofs.YtfflppedbopdpaaGreat
namespace Go.Proofs.YtfflppedbopdpaaGreat
open Go.RowKit Go.Mun
theorem A7U (p:J3 × Value × Value) (W:World):(Instr.field 35 (.agg (I5 p).toArray) 2).run Tryz.prog W = .ok (.agg (A3 32 p.1.ac.bal).toArray) W:=by
 have h:∀ C:List Value,(Instr.field 35 (.agg C.toArray) 2).run Tryz.prog W = .ok (.agg (C.toArray.extract 21 (21+32))) W:=fun C=>by kernel_rfl
 rw [h]
 have e:(I5 p).toArray.extract 21 (21+32)=(A3 32 p.1.ac.bal).toArray:=by
  rw [List.extract_toArray,List.extract_eq_take_drop]
  have hs:=Y9 (l:=P4 p.1.ac p.2.1 p.2.2) (i:=2) rfl
  have h1:(B7 ((P4 p.1.ac p.2.1 p.2.2).take 2)).length=21:=by simp [P4,I0,N8]
  unfold I5
  rw [hs,← h1,List.drop_left,h1,show 21+32 - 21=(A3 32 p.1.ac.bal).length by simp,List.take_left]
 rw [e]
theorem B1P (p:J3 × Value × Value) (W:World):(Instr.field 35 (.agg (I5 p).toArray) 3).run Tryz.prog W = .ok p.2.1 W:=by
 have h:∀ C:List Value,(Instr.field 35 (.agg C.toArray) 3).run Tryz.prog W=((match C.toArray[53]? with | some v=>pure v | none=>stuck "part: no such cell"):Sem Value).run Tryz.prog W:=fun C=>by kernel_rfl
 rw [h]
 have e:(I5 p).toArray[53]? = some p.2.1:=by
  rw [List.getElem?_toArray]
  have hs:=Y9 (l:=P4 p.1.ac p.2.1 p.2.2) (i:=3) rfl
  have h1:(B7 ((P4 p.1.ac p.2.1 p.2.2).take 3)).length=53:=by simp [P4,I0,N8]
  unfold I5
  rw [hs,List.getElem?_append_right (by omega),h1];rfl
 rw [e];rfl
theorem A3S {w:World} {own:Go.Mun.Own} {S:St} {n a:Nat} {p:J3 × Value × Value} (h:B8B w own S n a p):p.1.ac.bal=(S a).bal:=by rw [← h.acc];rfl
theorem B1W (n m:Nat):decide (T5 n m < 0)=decide (n < m):=by
 unfold T5
 by_cases h:n < m
 ·rw [if_pos h];simp [h]
 ·rw [if_neg h];split <;> simp [h]
theorem B40 (W:World) (C:List Value) (h:P0 32 C=true):Below W.heap.size W ((W.alloc (.cells (K0 32).toArray 25)).setCells W.heap.size 0 C)∧((W.alloc (.cells (K0 32).toArray 25)).setCells W.heap.size 0 C).row? W.heap.size 0 32=some C:=by
 have hf:(W.alloc (.cells (K0 32).toArray 25)).free? W.heap.size 0 32=true:=World.free?_alloc_at _ _ rfl (by simp)
 exact ⟨((Below.refl _ _).alloc (Nat.le_refl _) _).setCells (Nat.le_refl _) _ _,B8 C hf h⟩
structure MvR (w:World) (a b v:Nat) (W:World):Prop where
 t5:W.row? w.heap.size 0 20=some (A3 20 a)
 t6:W.row? (w.heap.size+1) 0 20=some (A3 20 b)
 t7:W.row? (w.heap.size+1+1) 0 32=some (A3 32 v)
theorem MvR.next {w W W':World} {a b v:Nat} (h:MvR w a b v W) (hb:Below W.heap.size W W'):MvR w a b v W':=
 ⟨((D2 hb).1 _ _ _ (World.row?_lt h.t5)).trans h.t5,((D2 hb).1 _ _ _ (World.row?_lt h.t6)).trans h.t6,((D2 hb).1 _ _ _ (World.row?_lt h.t7)).trans h.t7⟩
theorem MvR.start (w:World) (a b v:Nat):MvR w a b v (((w.alloc (.cells (A3 20 a).toArray 23)).alloc (.cells (A3 20 b).toArray 23)).alloc (.cells (A3 32 v).toArray 25)):=by
 refine ⟨?_,?_,?_⟩
 ·rw [World.row?_alloc_lt _ (by simp;omega),World.row?_alloc_lt _ (by simp)];exact World.row?_alloc_at _ _ _ rfl (by simp)
 ·rw [World.row?_alloc_lt _ (by simp)];exact World.row?_alloc_at _ _ _ (by simp) (by simp)
 ·exact World.row?_alloc_at _ _ _ (by simp) (by simp)
theorem B57 {x y v:Nat} (hy:y < wW) (hv:v < wW):(wW≤y+v→T5 ((y+v) % wW) y = -1)∧(¬ wW≤y+v→¬ T5 ((y+v) % wW) y < 0):=by
 constructor
 ·intro h
  have e:(y+v) % wW=y+v - wW:=by rw [Nat.mod_eq_sub_mod h,Nat.mod_eq_of_lt (by omega)]
  rw [e];exact A4W (by omega)
 ·intro h
  rw [Nat.mod_eq_of_lt (by omega)]
  unfold T5;rw [if_neg (by omega)];split <;> omega
def B9Z (w:World) (own:Go.Mun.Own) (sb:Nat) (S:St) (M:List (Nat × St)) (n:Nat) (r:Option St) (e:Ending) (w':World):Prop:=
 match r with
 | none=>e = .returned (.bool false)∧∃ own',RState w' own' sb S M n∧K1 w w' own own'
 | some S1=>e = .returned (.bool true)∧∃ own',RState w' own' sb S1 M n∧K1 w w' own own'
theorem B7K {w:World} {own:Go.Mun.Own} {sb a b v n:Nat} {S:St} {M:List (Nat × St)} (h:RState w own sb S M n) (ha:a < wA) (hbw:b < wA) (hv:v < wW) (hn:n≤999990) :
  Calls Tryz.prog 69 #[.pointer (some ⟨sb,0,none⟩),.agg (A3 20 a).toArray,.agg (A3 20 b).toArray,.agg (A3 32 v).toArray] w (B9Z w own sb S M (n+4) (S.move a b v)):=by
 obtain ⟨w0,e0⟩:∃ w0,w0=((w.alloc (.cells (A3 20 a).toArray 23)).alloc (.cells (A3 20 b).toArray 23)).alloc (.cells (A3 32 v).toArray 25):=⟨_,rfl⟩
 have hb0:Below w.heap.size w w0:=by rw [e0];exact (((Below.refl _ _).alloc (Nat.le_refl _) _).alloc (by simp) _).alloc (by simp;omega) _
 have hm0:MvR w a b v w0:=by rw [e0];exact MvR.start w a b v
 have q5:=hm0.t5
 have hst:=h.below hb0
 have HST:=hid hst
 have HM0:=hid hm0
 have HE:=hid e0
 have HB0:=hid hb0
 have HA:=hid ha
 have HBW:=hid hbw
 have HV:=hid hv
 have HN:=hid hn
 have h0:=hid h
 have hla:=B0 20 a
 have hlb:=B0 20 b
 have hlv:=B0 32 v
 rw [e0] at q5
 clear e0 hb0 hm0 hst h hn
 go_enter Tryz.func69,Tryz.ntmps69
 go_wp2_with fail
 rw [← HE.out]
 refine (A6S HST.out ha (by have:=HN.out;omega)).mono ?_
 rintro e w1 ⟨p,rfl,hb1,hg1⟩
 obtain ⟨x,hx⟩:∃ x,x=(S a).bal:=⟨_,rfl⟩
 have hfp:∀ W,(Instr.field 35 (.agg (I5 p).toArray) 2).run Tryz.prog W = .ok (.agg (A3 32 x).toArray) W:=fun W=>by rw [A7U,A3S hg1,hx]
 have hxW:x < wW:=by rw [hx,← A3S hg1];exact hg1.ok.bal
 obtain ⟨C,hC⟩:∃ C,C=I5 p:=⟨_,rfl⟩
 rw [← hC] at hfp ⊢
 have hlx:=B0 32 x
 have hokx:=C7 32 x
 obtain ⟨g2,r2⟩:=B40 w1 (A3 32 x) hokx
 obtain ⟨w2,e2⟩:∃ w2,w2=(w1.alloc (.cells (K0 32).toArray 25)).setCells w1.heap.size 0 (A3 32 x):=⟨_,rfl⟩
 rw [← e2] at g2 r2
 obtain ⟨B1,hB1⟩:∃ B1,B1=w1.heap.size:=⟨_,rfl⟩
 have hm2:MvR w a b v w2:=(HM0.out.next hb1).next g2
 have HB2:Hid (Below w0.heap.size w0 w2):=hb1.trans (g2.mono hb1.size)
 have HST2:=hid ((HST.out.below hb1).below g2)
 have q6:=hm2.t6
 rw [e2] at q6
 have HM2:=hid hm2
 have HE2:=hid e2
 have HX:=hid hx
 have R1:Hid (w2.row? B1 0 32=some (A3 32 x)):=by rw [hB1];exact r2
 have HB1:=hid hB1
 have HOB1:Hid (own B1=none):=U9 h0.out (by rw [hB1];have:=HB0.out.size;have:=hb1.size;omega)
 clear hb1 hg1 hx hC g2 r2 e2 hm2 hB1 q5
 go_wp2_with fail
 rw [← HE2.out]
 rw [← HB1.out]
 refine (A6S HST2.out hbw (by have:=HN.out;omega)).mono ?_
 rintro e w3 ⟨p2,rfl,hb3,hg3⟩
 obtain ⟨y,hy⟩:∃ y,y=(S b).bal:=⟨_,rfl⟩
 have hfp2:∀ W,(Instr.field 35 (.agg (I5 p2).toArray) 2).run Tryz.prog W = .ok (.agg (A3 32 y).toArray) W:=fun W=>by rw [A7U,A3S hg3,hy]
 have hyW:y < wW:=by rw [hy,← A3S hg3];exact hg3.ok.bal
 obtain ⟨D,hD⟩:∃ D,D=I5 p2:=⟨_,rfl⟩
 rw [← hD] at hfp2 ⊢
 have hly:=B0 32 y
 have hoky:=C7 32 y
 obtain ⟨g4,r4⟩:=B40 w3 (A3 32 y) hoky
 obtain ⟨w4,e4⟩:∃ w4,w4=(w3.alloc (.cells (K0 32).toArray 25)).setCells w3.heap.size 0 (A3 32 y):=⟨_,rfl⟩
 rw [← e4] at g4 r4
 obtain ⟨B2,hB2⟩:∃ B2,B2=w3.heap.size:=⟨_,rfl⟩
 have hm4:MvR w a b v w4:=(HM2.out.next hb3).next g4
 have hb24:Below w2.heap.size w2 w4:=hb3.trans (g4.mono hb3.size)
 have HB4:Hid (Below w0.heap.size w0 w4):=HB2.out.trans (hb24.mono HB2.out.size)
 have HST4:=hid (HST2.out.below hb24)
 have s1:w4.row? B1 0 32=some (A3 32 x):=((D2 hb24).1 _ _ _ (World.row?_lt R1.out)).trans R1.out
 have s7:=hm4.t7
 have HM4:=hid hm4
 have HE4:=hid e4
 have HY:=hid hy
 have R1b:=hid s1
 have R2:Hid (w4.row? B2 0 32=some (A3 32 y)):=by rw [hB2];exact r4
 have HB2b:=hid hB2
 rw [e4] at s1 s7
 clear hb3 hg3 hy hD g4 r4 e4 hm4 hb24 hB2 hfp q6
 go_wp2_with fail
 rw [← HE4.out]
 rw [← HB2b.out]
 refine (A7A x v hxW hv _).mono ?_
 rintro e w5 ⟨rfl,hb5⟩
 have hm5:=HM4.out.next hb5
 have HST5:=hid (HST4.out.below hb5)
 have HB5:Hid (Below w0.heap.size w0 w5):=HB4.out.trans (hb5.mono HB4.out.size)
 have R15:Hid (w5.row? B1 0 32=some (A3 32 x)):=((D2 hb5).1 _ _ _ (World.row?_lt R1b.out)).trans R1b.out
 have R25:Hid (w5.row? B2 0 32=some (A3 32 y)):=((D2 hb5).1 _ _ _ (World.row?_lt R2.out)).trans R2.out
 have u5:=hm5.t5
 have u6:=hm5.t6
 have u7:=hm5.t7
 have u2:=R25.out
 have HM5:=hid hm5
 clear hb5 hm5 s1 s7 hfp2
 by_cases hlt:x < v
 ·have hd:decide (T5 x v < 0)=true:=by rw [B1W];exact decide_eq_true hlt
  have hcI:T5 x v = -1:=A4W hlt
  have HR:Hid (S.move a b v=none):=by show _=_;unfold St.move;rw [if_pos (by rw [← HX.out];exact hlt)]
  rw [hcI]
  clear hlt hd hcI
  go_wp2
  go_ret
  rw [HR.out]
  exact ⟨rfl,own,HST5.out.mono (by omega),K1.below own (HB0.out.trans (HB5.out.mono HB0.out.size))⟩
 have hge:¬ T5 x v < 0:=by have:=B1W x v;intro h;rw [decide_eq_true h] at this;exact hlt (of_decide_eq_true this.symm)
 have hd:decide (T5 x v < 0)=false:=decide_eq_false hge
 generalize hcv:T5 x v=cv at *
 have heq:=eqA (a:=a) (b:=b) HA.out HBW.out w5
 have HLT:=hid hlt
 clear hlt hcv
 by_cases hab:a=b
 ·have hda:decide (a=b)=true:=decide_eq_true hab
  rw [hda] at heq
  have HR:Hid (S.move a b v=some S):=by show _=_;unfold St.move;rw [if_neg (by rw [← HX.out];exact HLT.out),if_pos hab]
  clear hab hda
  go_wp2
  go_ret
  rw [HR.out]
  exact ⟨rfl,own,HST5.out.mono (by omega),K1.below own (HB0.out.trans (HB5.out.mono HB0.out.size))⟩
 have hda:decide (a=b)=false:=decide_eq_false hab
 rw [hda] at heq
 have HAB:=hid hab
 clear hab hda
 go_wp2_with fail
 obtain ⟨z,hz⟩:∃ z,z=(y+v) % wW:=⟨_,rfl⟩
 have hzW:z < wW:=by rw [hz];exact Nat.mod_lt _ (by decide)
 have hzb:A3 32 (y+v)=A3 32 z:=A52 32 _ _ (by rw [hz,A23,Nat.mod_mod])
 have hadd:=fun W=>B5O y v hyW hv W
 rw [hzb] at hadd
 refine (hadd _).mono ?_
 rintro e w6 ⟨rfl,hb6⟩
 have hlz:=B0 32 z
 have hokz:=C7 32 z
 obtain ⟨g7,r7⟩:=B40 w6 (A3 32 z) hokz
 obtain ⟨w7,e7⟩:∃ w7,w7=(w6.alloc (.cells (K0 32).toArray 25)).setCells w6.heap.size 0 (A3 32 z):=⟨_,rfl⟩
 rw [← e7] at g7 r7
 obtain ⟨B3,hB3⟩:∃ B3,B3=w6.heap.size:=⟨_,rfl⟩
 have hb57:Below w5.heap.size w5 w7:=hb6.trans (g7.mono hb6.size)
 have hm7:=HM5.out.next hb57
 have HB7:Hid (Below w0.heap.size w0 w7):=HB5.out.trans (hb57.mono HB5.out.size)
 have HST7:=hid (HST5.out.below hb57)
 have k1:w7.row? B1 0 32=some (A3 32 x):=((D2 hb57).1 _ _ _ (World.row?_lt R15.out)).trans R15.out
 have k2:w7.row? B2 0 32=some (A3 32 y):=((D2 hb57).1 _ _ _ (World.row?_lt R25.out)).trans R25.out
 have R17:=hid k1
 have R37:Hid (w7.row? B3 0 32=some (A3 32 z)):=by rw [hB3];exact r7
 have HM7:=hid hm7
 have HE7:=hid e7
 have HB3b:=hid hB3
 have HB6:Hid (w5.heap.size≤B3):=by show _≤_;rw [hB3];exact hb6.size
 have HZ:=hid hz
 have k3:=r7
 rw [e7] at k2 k3
 clear hb6 hzb hadd g7 r7 e7 hb57 hm7 hB3 hz u5 u6 u7 u2 k1 heq hd hge
 go_wp2_with fail
 rw [← HE7.out]
 rw [← HB3b.out]
 refine (A7A z y hzW hyW _).mono ?_
 rintro e w8 ⟨rfl,hb8⟩
 have hm8:=HM7.out.next hb8
 have HST8:=hid (HST7.out.below hb8.drew)
 have HST8b:=hid (HST7.out.below hb8)
 have HB8:Hid (Below w0.heap.size w0 w8):=HB7.out.trans (hb8.mono HB7.out.size)
 have R18:Hid (w8.row? B1 0 32=some (A3 32 x)):=((D2 hb8).1 _ _ _ (World.row?_lt R17.out)).trans R17.out
 have R38:Hid (w8.row? B3 0 32=some (A3 32 z)):=((D2 hb8).1 _ _ _ (World.row?_lt R37.out)).trans R37.out
 have HM8:=hid hm8
 clear hb8 hm8 k2 k3
 have hwrap:=B57 (x:=x) hyW hv
 rw [← HZ.out] at hwrap
 by_cases how:wW≤y+v
 ·have hcI:=hwrap.1 how
  have HR:Hid (S.move a b v=none):=by
   show _=_;unfold St.move
   rw [if_neg (by rw [← HX.out];exact HLT.out),if_neg HAB.out,if_pos (by rw [← HY.out];exact how)]
  rw [hcI]
  clear how hcI hwrap
  go_wp2
  go_ret
  rw [HR.out]
  exact ⟨rfl,own,HST8b.out.mono (by omega),K1.below own (HB0.out.trans (HB8.out.mono HB0.out.size))⟩
 have hge2:=hwrap.2 how
 have hd2:decide (T5 z y < 0)=false:=decide_eq_false hge2
 generalize T5 z y=cz at *
 have HZ2:Hid (z=y+v):=by show _=_;rw [HZ.out,Nat.mod_eq_of_lt (by omega)]
 have HR:Hid (S.move a b v=some (Z8 (Z8 S a { S a with bal:=x - v }) b { Z8 S a { S a with bal:=x - v } b with bal:=z })):=by
  show _=_;unfold St.move
  rw [if_neg (by rw [← HX.out];exact HLT.out),if_neg HAB.out,if_neg (by rw [← HY.out];exact how),← HX.out,← HY.out,HZ2.out]
  rfl
 have hxv:v≤x:=Nat.le_of_not_lt HLT.out
 have HSB:Hid (∀ W,Calls Tryz.prog 174 #[.agg (A3 32 x).toArray,.agg (A3 32 v).toArray] W fun e w'=>e = .returned (.agg (A3 32 (x - v)).toArray)∧Below W.heap.size W w'):=by
  intro W
  have h:=B1t x v hxW hv W
  have e:A3 32 (x+wW - v)=A3 32 (x - v):=by
   refine A52 32 _ _ ?_
   rw [show x+wW - v=(x - v)+wW by omega,A23,Nat.add_mod_right]
  rw [e] at h;exact h
 have hxvW:x - v < wW:=by omega
 generalize x - v=xv at *
 have hlxv:=B0 32 xv
 have ho1:own w.heap.size=none:=U9 h0.out (Nat.le_refl _)
 have ho2:own (w.heap.size+1)=none:=U9 h0.out (Nat.le_succ _)
 have HOB3:Hid (own B3=none):=U9 h0.out (by have:=HB0.out.size;have:=HB5.out.size;have h2:=HB6.out;omega)
 have HO:=hid (And.intro ho1 ho2)
 obtain ⟨T,hT⟩:∃ T:World→Prop,T=fun W=>MvR w a b v W∧W.row? B1 0 32=some (A3 32 x)∧W.row? B3 0 32=some (A3 32 z):=⟨_,rfl⟩
 have HT:=hid hT
 have t0:T w8.drew:=by rw [hT];exact ⟨⟨HM8.out.t5,HM8.out.t6,HM8.out.t7⟩,R18.out,R38.out⟩
 clear hT how hwrap hge2 ho1 ho2 hxv
 go_wp2_with fail
 refine A6 T [] (.pure 0 (.take 1 (.take 2 (.take 3 (.alt 4 (.alt 5 .fin .stop) .stop))))) (by kernel_rfl) (by kernel_rfl) ?_
 iterate 4
  first
  |refine A0 ?_ rfl (by rfl) (fun w' hs=>?_) (fun _ _ _ h=>h) ?_
   rotate_left
   ·clear hs
    go_simp
    try rfl
   simp only [Act.put,D6,D5,D4]
  |refine A9 ?_ t0 rfl (by rfl) (fun w' hs=>?_) (fun _ _ _ h=>h) ?_
   rotate_left
   ·rw [HT.out] at hs
    obtain ⟨⟨g5,g6,g7⟩,g1,g3⟩:=hs
    go_simp
    try rfl
   simp only [Act.put,D6,D5,D4]
 refine A8 rfl (fun K hK=>?_)
 go_simp
 refine (HSB.out _).mono ?_
 rintro e w9 ⟨rfl,hb9⟩
 have t9:T w9:=by rw [HT.out] at t0 ⊢;exact ⟨t0.1.next hb9,((D2 hb9).1 _ _ _ (World.row?_lt t0.2.1)).trans t0.2.1,((D2 hb9).1 _ _ _ (World.row?_lt t0.2.2)).trans t0.2.2⟩
 have HST9:=hid (HST8.out.below hb9)
 have HB9:Hid (Below w0.heap.size w0 w9):=HB8.out.drew.trans (hb9.mono HB8.out.drew.size)
 clear hb9
 refine hK.out _ _ t9 ?_
 clear hK K
 refine A8 rfl (fun K hK=>?_)
 go_simp
 refine (A2b HST9.out HA.out hxvW (by have:=HN.out;omega)).mono ?_
 rintro e w10 ⟨rfl,own2,st2,c2⟩
 have t10:T w10:=by
  rw [HT.out] at t9 ⊢
  have hk:=fun (i:Nat) (hi:own i=none) (h2:hot own i)=>h2.1 hi
  exact ⟨⟨(c2.only.row? (World.row?_lt t9.1.t5) (hk _ HO.out.1)).trans t9.1.t5,(c2.only.row? (World.row?_lt t9.1.t6) (hk _ HO.out.2)).trans t9.1.t6,(c2.only.row? (World.row?_lt t9.1.t7) (hk _ (U9 h0.out (by omega)))).trans t9.1.t7⟩,(c2.only.row? (World.row?_lt t9.2.1) (hk _ HOB1.out)).trans t9.2.1,(c2.only.row? (World.row?_lt t9.2.2) (hk _ HOB3.out)).trans t9.2.2⟩
 have HC2:=hid ((K1.below own (HB0.out.trans (HB9.out.mono HB0.out.size))).trans c2)
 have HS2:=hid st2
 clear st2 c2
 refine hK.out _ _ t10 ?_
 clear hK K
 refine C3 ?_
 rw [HT.out] at t10
 have v6:=t10.1.t6
 have v3:=t10.2.2
 have HT10:=hid t10
 clear t0 t9 t10
 go_wp2_with fail
 refine (A2b HS2.out HBW.out hzW (by have:=HN.out;omega)).mono ?_
 rintro e w11 ⟨rfl,own3,st3,c3⟩
 have HS3:=hid st3
 have HC3:=hid c3
 clear st3 c3 v6 v3
 go_wp2
 go_ret
 rw [HR.out]
 exact ⟨rfl,own3,HS3.out,HC2.out.trans HC3.out⟩
end Go.Proofs.YtfflppedbopdpaaGreat
namespace Go.Proofs.YtfflppedbopdpaaGreat
open Go.RowKit Go.Mun
structure NwS (w wr:World) (own:Go.Mun.Own) (sb:Nat) (S:St) (n:Nat):Prop where
 st:RState wr own sb S [] n
 ge:∀ b,own b≠none→w.heap.size≤b
 below:Below w.heap.size w wr
theorem NwS.step {w wr w':World} {own own':Go.Mun.Own} {sb n n':Nat} {S S':St} (h:NwS w wr own sb S n) (st:RState w' own' sb S' [] n') (c:K1 wr w' own own'):NwS w w' own' sb S' n':=
 ⟨st,fun b hb=>by
  by_cases hlt:b < wr.heap.size
  ·rw [c.ext b hlt] at hb;exact h.ge b hb
  ·have:=h.below.size;omega,h.below.trans (c.only.below h.below.size fun i hi=>h.ge i hi.1)⟩
theorem NwS.next {w wr w':World} {own:Go.Mun.Own} {sb n:Nat} {S:St} (h:NwS w wr own sb S n) (hb:Below wr.heap.size wr w'):NwS w w' own sb S n:=h.step (h.st.below hb) (K1.below own hb)
theorem B2R (w:World):∃ own,NwS w (w.alloc (.cells #[.slice none 0 0,.slice none 0 0,.int .i64 0] 125)) own w.heap.size (fun _=>Acc.none) 0:=by
 refine ⟨fun b=>if b=w.heap.size then some .st else none,⟨⟨.slice none 0 0,.slice none 0 0,[],[],0,{
   lab:=by simp
   row:=World.row?_alloc_at [.slice none 0 0,.slice none 0 0,.int .i64 0] 125 (0,0) rfl rfl
   free:=World.free?_alloc_at [.slice none 0 0,.slice none 0 0,.int .i64 0] 125 rfl (by simp)
   arr:=⟨World.ownsRow_nil _ _ _ _,fun g hg=>by simp [Value.ownBlock] at hg,fun p hp=>by cases hp⟩
   up:=List.Pairwise.nil
   marks:=World.ownsRow_nil _ _ _ _
   mlab:=fun g hg=>by simp [Value.ownBlock] at hg
   each:=fun m hm=>by cases hm
   apart:=List.pairwise_singleton _ _
   low:=fun b hb=>by
    by_cases e:b=w.heap.size
    ·rw [e];simp
    ·simp [e] at hb
   count:=⟨Nat.zero_le _,fun m hm=>by cases hm⟩ },rfl,rfl,⟨Nat.zero_le _,fun p hp=>(by cases hp)⟩,fun m hm=>(by cases hm),Nat.zero_le _⟩,fun b hb=>?_,(Below.refl _ _).alloc (Nat.le_refl _) _⟩⟩
 by_cases e:b=w.heap.size
 ·omega
 ·simp [e] at hb
theorem B5z (S:St) (a:Nat) (nn bl:Nat) (cd:V1) :
  (let S1:=Z8 S a Acc.none;let S2:=Z8 S1 a { S1 a with nonce:=nn };let S3:=Z8 S2 a { S2 a with bal:=bl };Z8 S3 a { S3 a with code:=cd })=Z8 S a ⟨nn,bl,cd,fun _=>0⟩:=by
 funext b
 by_cases e:b=a
 ·subst e;simp [Z8,Acc.none]
 ·simp [Z8,e]
theorem B5H {w wr:World} {own:Go.Mun.Own} {v:Value} {l:V1} (h:K8 w (fun _=>False) v l) (hb:Below w.heap.size w wr) (hg:∀ b,own b≠none→w.heap.size≤b):K8 wr (fun b=>own b≠none) v l:=
 h.only (R:=fun _=>False) (A2.of_below_size hb) (fun _ h=>h.elim) fun b hlt hx=>by have:=hg b hx;omega
theorem B9i (b o c:Nat) (l:List Ac) (hl:l.length≤100) (w:World) (h:∀ i (hi:i < l.length),A6y w b (o+i*55) l[i]) (hnn:∀ x∈l,0≤x.nonce) :
  Calls Tryz.prog 37 #[.slice (some ⟨b,o,none⟩) l.length c] w fun e w' => ∃ sb own,e = .returned (.pointer (some ⟨sb,0,none⟩))∧NwS w w' own sb (A0G l) (8*l.length):=by
 obtain ⟨m,hm⟩:∃ m,m=l.length:=⟨_,rfl⟩
 have hm1:m≤100:=by omega
 have H0:=hid (B2R w)
 have H:=hid h
 have HNN:=hid hnn
 have HM:=hid hm
 rw [← hm]
 clear h hnn hl hm
 go_enter Tryz.func37,Tryz.ntmps37
 go_wp2_with fail
 obtain ⟨sb,hsb⟩:∃ sb,sb=w.heap.size:=⟨_,rfl⟩
 rw [← hsb]
 rw [← hsb] at H0
 have HSB:=hid hsb
 clear hsb
 go_loopw [4] (fun ix wr => ∃ (k:Nat),k≤m∧ix = .int .i64 (k:Int)∧Hid (∃ own,NwS w wr own sb (A0G (l.take k)) (8*k))) (fun ix _=>m - (intOf ix).toNat)
 case atStart=>exact ⟨0,by omega,rfl,by obtain ⟨own,h⟩:=H0.out;exact ⟨own,h⟩⟩
 case round =>
  obtain ⟨k,hk,rfl,HR⟩:=hrel
  obtain ⟨own,hown⟩:=HR.out
  have HO:=hid hown
  clear hown HR
  by_cases hkm:k < m
  ·have hI:(k:Int) < m:=by omega
   have hkl:k < l.length:=by have:=HM.out;omega
   obtain ⟨X,hX⟩:∃ X,X=l[k]'hkl:=⟨_,rfl⟩
   have hat:=H.out k hkl
   rw [← hX] at hat
   obtain ⟨⟨cv,hr,hro⟩,hadr,hbal,hnon⟩:=hat
   have hn0:0≤X.nonce:=HNN.out X (by rw [hX];exact List.getElem_mem hkl)
   have HNS:Hid (A0G (l.take (k+1))=Z8 (A0G (l.take k)) X.addr ⟨X.nonce.toNat,X.bal,X.code,fun _=>0⟩):=by
    show _=_
    rw [A6U l k hkl,← hX]
    unfold A55
    rw [show max 0 X.nonce=X.nonce by omega]
   obtain ⟨nn,hnn⟩:∃ nn:Nat,X.nonce=nn:=⟨X.nonce.toNat,by omega⟩
   have hnn2:nn≤9223372036854775807:=by omega
   have hnt:X.nonce.toNat=nn:=by omega
   rw [hnt] at HNS
   obtain ⟨C,hC⟩:∃ C,C=B7 (P4 X cv (.slice none 0 0)):=⟨_,rfl⟩
   have HAT:Hid (∀ W,Below w.heap.size w W→W.row? b (o+k*55) 20=some (A3 20 X.addr)∧W.cell? ⟨b,o+k*55+20,none⟩=some (.int .i64 (nn:Int))∧W.row? b (o+k*55+21) 32=some (A3 32 X.bal)∧W.cell? ⟨b,o+k*55+53,none⟩=some cv∧W.cell? ⟨b,o+k*55+54,none⟩=some (.slice none 0 0)):=by
    intro W hW
    have hrW:=((D2 hW).1 _ _ _ (World.row?_lt hr)).trans hr
    exact ⟨J5 hrW (i:=0) rfl (by simp [P4,A5]) (by simp),by rw [← hnn];exact D1 hrW (i:=1) rfl (by simp [P4,A7,A5]),J5 hrW (i:=2) rfl (by simp [P4,A7,A5]) (by simp),D1 hrW (i:=3) rfl (by simp [P4,A7,A5]),D1 hrW (i:=4) rfl (by simp [P4,A7,A5])⟩
   have HRO:=hid hro
   have HCO:Hid (cv.oneCell'=true):=K8.one hro
   obtain ⟨A,hA⟩:∃ A,A=X.addr:=⟨_,rfl⟩
   obtain ⟨BL,hBL⟩:∃ BL,BL=X.bal:=⟨_,rfl⟩
   obtain ⟨CD,hCD⟩:∃ CD,CD=X.code:=⟨_,rfl⟩
   rw [← hA] at hadr HAT HNS
   rw [← hBL] at hbal HAT HNS
   rw [← hCD] at HRO HNS
   have hlA:=B0 20 A
   have hlB:=B0 32 BL
   obtain ⟨p0,p1,p2,p3,p4⟩:=HAT.out wr HO.out.below
   obtain ⟨T,hT⟩:∃ T:World→Prop,T=fun W=>W.row? b (o+k*55) 20=some (A3 20 A)∧W.cell? ⟨b,o+k*55+20,none⟩=some (.int .i64 (nn:Int))∧W.row? b (o+k*55+21) 32=some (A3 32 BL)∧W.cell? ⟨b,o+k*55+53,none⟩=some cv∧W.cell? ⟨b,o+k*55+54,none⟩=some (.slice none 0 0):=⟨_,rfl⟩
   have HT:=hid hT
   have HAT2:Hid (∀ W,Below w.heap.size w W→T W):=by rw [hT];exact HAT.out
   clear hr hro hn0 hnn hnt hC hnon hX hA hBL hCD hT p1 p2 p3 p4 HAT hkm
   go_wp2_with fail
   refine (B7M HO.out.st hadr (by omega)).mono ?_
   rintro e w1 ⟨rfl,own1,st1,c1⟩
   have HO1:=hid (HO.out.step st1 c1)
   have t1:=HAT2.out _ (HO1.out.below.drew)
   clear st1 c1 p0
   go_wp2_with fail
   refine A6 T [] (.pure 0 (.pure 1 (.pure 2 (.pure 3 (.pure 4 (.take 5 (.pure 6 (.pure 7 (.pure 8 (.pure 9 (.take 10 (.alt 11 .fin .stop)))))))))))) (by kernel_rfl) (by kernel_rfl) ?_
   iterate 11
    first
    |refine A0 ?_ rfl (by rfl) (fun w' hs=>?_) (fun _ _ _ h=>h) ?_
     rotate_left
     ·clear hs
      go_simp
      try rfl
     simp only [Act.put,D6,D5,D4]
    |refine A9 ?_ t1 rfl (by rfl) (fun w' hs=>?_) (fun _ _ _ h=>h) ?_
     rotate_left
     ·rw [HT.out] at hs
      obtain ⟨p0,p1,p2,p3,p4⟩:=hs
      go_simp
      try rfl
     simp only [Act.put,D6,D5,D4]
   refine A8 rfl (fun K hK=>?_)
   go_simp
   refine (B0p nn (HO1.out.next (Below.refl _ _).drew).st hadr hnn2 (by omega)).mono ?_
   rintro e w2 ⟨rfl,own2,st2,c2⟩
   have HO2:=hid ((HO1.out.next (Below.refl _ _).drew).step st2 c2)
   have t2:=HAT2.out _ HO2.out.below
   clear st2 c2
   refine hK.out _ _ t2 ?_
   clear hK K
   refine C3 ?_
   have t2d:=HAT2.out _ (HO2.out.below.drew)
   clear t1 t2
   go_wp2_with fail
   refine A6 T [] (.pure 0 (.pure 1 (.pure 2 (.pure 3 (.pure 4 (.take 5 (.pure 6 (.pure 7 (.pure 8 (.pure 9 (.take 10 (.alt 11 .fin .stop)))))))))))) (by kernel_rfl) (by kernel_rfl) ?_
   iterate 11
    first
    |refine A0 ?_ rfl (by rfl) (fun w' hs=>?_) (fun _ _ _ h=>h) ?_
     rotate_left
     ·clear hs
      go_simp
      try rfl
     simp only [Act.put,D6,D5,D4]
    |refine A9 ?_ t2d rfl (by rfl) (fun w' hs=>?_) (fun _ _ _ h=>h) ?_
     rotate_left
     ·rw [HT.out] at hs
      obtain ⟨p0,p1,p2,p3,p4⟩:=hs
      go_simp
      try rfl
     simp only [Act.put,D6,D5,D4]
   refine A8 rfl (fun K hK=>?_)
   go_simp
   refine (A2b (HO2.out.next (Below.refl _ _).drew).st hadr hbal (by omega)).mono ?_
   rintro e w3 ⟨rfl,own3,st3,c3⟩
   have HO3:=hid ((HO2.out.next (Below.refl _ _).drew).step st3 c3)
   have t3:=HAT2.out _ HO3.out.below
   clear st3 c3
   refine hK.out _ _ t3 ?_
   clear hK K
   refine C3 ?_
   have t3d:=HAT2.out _ (HO3.out.below.drew)
   clear t2d t3
   go_wp2_with fail
   refine A6 T [] (.pure 0 (.pure 1 (.pure 2 (.pure 3 (.pure 4 (.take 5 (.pure 6 (.pure 7 (.pure 8 (.pure 9 (.take 10 (.alt 11 .fin .stop)))))))))))) (by kernel_rfl) (by kernel_rfl) ?_
   iterate 11
    first
    |refine A0 ?_ rfl (by rfl) (fun w' hs=>?_) (fun _ _ _ h=>h) ?_
     rotate_left
     ·clear hs
      go_simp
      try rfl
     simp only [Act.put,D6,D5,D4]
    |refine A9 ?_ t3d rfl (by rfl) (fun w' hs=>?_) (fun _ _ _ h=>h) ?_
     rotate_left
     ·rw [HT.out] at hs
      obtain ⟨p0,p1,p2,p3,p4⟩:=hs
      go_simp
      try rfl
     simp only [Act.put,D6,D5,D4]
   refine A8 rfl (fun K hK=>?_)
   go_simp
   refine (B2L (HO3.out.next (Below.refl _ _).drew).st hadr (B5H HRO.out HO3.out.below.drew HO3.out.ge) (by omega)).mono ?_
   rintro e w4 ⟨rfl,own4,st4,c4⟩
   have HO4:=hid ((HO3.out.next (Below.refl _ _).drew).step st4 c4)
   have t4:=HAT2.out _ HO4.out.below
   clear st4 c4
   refine hK.out _ _ t4 ?_
   clear hK K
   refine C3 ?_
   have HN:Hid (∃ own,NwS w w4 own sb (A0G (l.take (k+1))) (8*(k+1))):=by
    rw [HNS.out,← B5z]
    exact ⟨own4,by rw [show 8*(k+1)=8*k+2+2+2+2 by omega];exact HO4.out⟩
   rw [HT.out] at t4
   have p4:=t4.2.2.2.2
   clear t3d t4
   go_wp2_with fail
   go_loopw [5] (fun iy wz=>iy = .int .i64 0∧wz=w4) (fun _ _=>0)
   case atStart=>exact ⟨rfl,rfl⟩
   case round =>
    obtain ⟨rfl,rfl⟩:=hrel
    go_wp2
    go_roundw
    case rel=>exact ⟨k+1,by omega,by go_num,HN⟩
    case measure=>simp [intOf];omega
  ·obtain rfl:k=m:=by omega
   have hI:¬ (k:Int) < k:=by omega
   clear hkm
   go_wp2
   go_ret
   have h:=HO.out
   rw [List.take_of_length_le (by have:=HM.out;omega)] at h
   exact ⟨sb,rfl,own,h⟩
end Go.Proofs.YtfflppedbopdpaaGreat
namespace Go.Mun
open Go.RowKit
def str (l:List UInt8):ByteArray:=⟨l.toArray⟩
theorem A8w (l:List UInt8):(str l).size=l.length:=by simp [str,ByteArray.size]
theorem A1m (l m:List UInt8):str l++str m=str (l++m):=by apply ByteArray.ext;simp [str]
theorem A6a {P:Program} {w:World} {ops:Array Oper} {rest:List Oper} {o:Oper} {a:Act} {Q:Exit→Act→World→Prop} (hgd:o.guard=none) {t len e:Nat} {parts:Array (Nat × Operand)}
  (ho:o.op = .buildSlice t len parts) (cs:List Value) (hrun:∀ w,(Instr.buildSlice t len (parts.map fun p=>(p.1,a.eval p.2))).run P w = .ok (.slice (some ⟨w.heap.size,0,none⟩) len len) (w.alloc (.cells cs.toArray e)))
  (h:wpList P ops Q rest (a.put o.dst (.slice (some ⟨w.heap.size,0,none⟩) len len)) (w.alloc (.cells cs.toArray e))):wpList P ops Q (o :: rest) a w:=by
 refine wpList_plain hgd fun K hK=>?_
 unfold Oper.wp
 have e1:(execOp a.eval o).run P w = .ok (.value (.slice (some ⟨w.heap.size,0,none⟩) len len)) (w.alloc (.cells cs.toArray e)):=by
  unfold execOp
  rw [ho]
  simp only [Sem.run_bind,hrun]
  rfl
 simp [e1]
 exact hK _ _ h
theorem A4D {B:Nat} {w w':World} (hb:Below B w w') {b o n:Nat} (hlt:b < B) (h:w.free? b o n=true):w'.free? b o n=true:=by
 rw [World.free?_of_block (hb.block b hlt)];exact h
def dU (n:Nat):UInt8:=UInt8.ofNat (48+n)
def Z2 (n:Nat):List UInt8:=(if 9 < n then [dU (n / 10)] else [])++[dU (n % 10)]
structure Inf where
 op:Int
 name:List UInt8
 pops:Int
 pushes:Int
 gas:Int

def Inf.c (x:Inf):List Value:=[.int .u8 x.op,.string (str x.name),.int .i64 x.pops,.int .i64 x.pushes,.int .i64 x.gas]
def A4i:Inf:=⟨0,[],0,0,0⟩
def K3 (l:List Inf):List Value:=l.flatMap Inf.c
theorem A1W (l:List Inf):(K3 l).length=5*l.length:=by
 induction l with
 | nil=>rfl
 | cons x l ih=>simp [K3,Inf.c] at ih ⊢;omega
theorem A9i (l:List Inf):P0 (5*l.length) (K3 l)=true:=by
 refine A0q (A1W l) fun v hv=>?_
 unfold K3 at hv
 rw [List.mem_flatMap] at hv
 obtain ⟨x,_,hx⟩:=hv
 simp only [Inf.c,List.mem_cons,List.mem_nil_iff,or_false] at hx
 rcases hx with rfl | rfl | rfl | rfl | rfl <;> simp [Value.oneCell']
theorem A5M:∀ (l:List Inf) (i:Nat) (x:Inf),l[i]? = some x→((K3 l).drop (5*i)).take 5=x.c
 | y :: l,0,x,h=>by simp at h;subst h;rfl
 | y :: l,i+1,x,h=>by
  have:=A5M l i x (by simpa using h)
  rw [← this]
  show ((y.c++K3 l).drop (5*(i+1))).take 5=_
  rw [show 5*(i+1)=y.c.length+5*i by simp [Inf.c];omega,← List.drop_drop,List.drop_left]
theorem A61:∀ (l:List Inf) (i:Nat) (x:Inf),i < l.length→splice (K3 l) (5*i) x.c=K3 (l.set i x)
 | y :: l,0,x,_=>by
  show splice (y.c++K3 l) 0 x.c=x.c++K3 l
  unfold splice
  rw [List.take_zero,List.nil_append,Nat.zero_add,show x.c.length=y.c.length from rfl,List.drop_left]
 | y :: l,i+1,x,h=>by
  have ih:=A61 l i x (by simpa using h)
  show splice (y.c++K3 l) (5*(i+1)) x.c=y.c++K3 (l.set i x)
  rw [← ih]
  unfold splice
  rw [show 5*(i+1)=y.c.length+5*i by simp [Inf.c];omega,List.take_length_add_append,show y.c.length+5*i+x.c.length=y.c.length+(5*i+x.c.length) by omega,← List.drop_drop,List.drop_left]
  simp
def A0l:List Inf:=[
 ⟨0,[83,84,79,80],0,0,0⟩,
 ⟨1,[65,68,68],2,1,3⟩,
 ⟨2,[77,85,76],2,1,5⟩,
 ⟨3,[83,85,66],2,1,3⟩,
 ⟨4,[68,73,86],2,1,5⟩,
 ⟨5,[83,68,73,86],2,1,5⟩,
 ⟨6,[77,79,68],2,1,5⟩,
 ⟨7,[83,77,79,68],2,1,5⟩,
 ⟨8,[65,68,68,77,79,68],3,1,8⟩,
 ⟨9,[77,85,76,77,79,68],3,1,8⟩,
 ⟨10,[69,88,80],2,1,10⟩,
 ⟨11,[83,73,71,78,69,88,84,69,78,68],2,1,5⟩,
 ⟨16,[76,84],2,1,3⟩,
 ⟨17,[71,84],2,1,3⟩,
 ⟨18,[83,76,84],2,1,3⟩,
 ⟨19,[83,71,84],2,1,3⟩,
 ⟨20,[69,81],2,1,3⟩,
 ⟨21,[73,83,90,69,82,79],1,1,3⟩,
 ⟨22,[65,78,68],2,1,3⟩,
 ⟨23,[79,82],2,1,3⟩,
 ⟨24,[88,79,82],2,1,3⟩,
 ⟨25,[78,79,84],1,1,3⟩,
 ⟨26,[66,89,84,69],2,1,3⟩,
 ⟨27,[83,72,76],2,1,3⟩,
 ⟨28,[83,72,82],2,1,3⟩,
 ⟨29,[83,65,82],2,1,3⟩,
 ⟨32,[75,69,67,67,65,75,50,53,54],2,1,30⟩,
 ⟨48,[65,68,68,82,69,83,83],0,1,2⟩,
 ⟨49,[66,65,76,65,78,67,69],1,1,700⟩,
 ⟨50,[79,82,73,71,73,78],0,1,2⟩,
 ⟨51,[67,65,76,76,69,82],0,1,2⟩,
 ⟨52,[67,65,76,76,86,65,76,85,69],0,1,2⟩,
 ⟨53,[67,65,76,76,68,65,84,65,76,79,65,68],1,1,3⟩,
 ⟨54,[67,65,76,76,68,65,84,65,83,73,90,69],0,1,2⟩,
 ⟨55,[67,65,76,76,68,65,84,65,67,79,80,89],3,0,3⟩,
 ⟨56,[67,79,68,69,83,73,90,69],0,1,2⟩,
 ⟨57,[67,79,68,69,67,79,80,89],3,0,3⟩,
 ⟨59,[69,88,84,67,79,68,69,83,73,90,69],1,1,700⟩,
 ⟨60,[69,88,84,67,79,68,69,67,79,80,89],4,0,700⟩,
 ⟨61,[82,69,84,85,82,78,68,65,84,65,83,73,90,69],0,1,2⟩,
 ⟨62,[82,69,84,85,82,78,68,65,84,65,67,79,80,89],3,0,3⟩,
 ⟨63,[69,88,84,67,79,68,69,72,65,83,72],1,1,700⟩,
 ⟨65,[67,79,73,78,66,65,83,69],0,1,2⟩,
 ⟨66,[84,73,77,69,83,84,65,77,80],0,1,2⟩,
 ⟨67,[78,85,77,66,69,82],0,1,2⟩,
 ⟨69,[71,65,83,76,73,77,73,84],0,1,2⟩,
 ⟨70,[67,72,65,73,78,73,68],0,1,2⟩,
 ⟨71,[83,69,76,70,66,65,76,65,78,67,69],0,1,5⟩,
 ⟨80,[80,79,80],1,0,2⟩,
 ⟨81,[77,76,79,65,68],1,1,3⟩,
 ⟨82,[77,83,84,79,82,69],2,0,3⟩,
 ⟨83,[77,83,84,79,82,69,56],2,0,3⟩,
 ⟨84,[83,76,79,65,68],1,1,800⟩,
 ⟨85,[83,83,84,79,82,69],2,0,0⟩,
 ⟨86,[74,85,77,80],1,0,8⟩,
 ⟨87,[74,85,77,80,73],2,0,10⟩,
 ⟨88,[80,67],0,1,2⟩,
 ⟨89,[77,83,73,90,69],0,1,2⟩,
 ⟨90,[71,65,83],0,1,2⟩,
 ⟨91,[74,85,77,80,68,69,83,84],0,0,1⟩,
 ⟨95,[80,85,83,72,48],0,1,2⟩,
 ⟨240,[67,82,69,65,84,69],3,1,32000⟩,
 ⟨241,[67,65,76,76],7,1,700⟩,
 ⟨243,[82,69,84,85,82,78],2,0,0⟩,
 ⟨244,[68,69,76,69,71,65,84,69,67,65,76,76],6,1,700⟩,
 ⟨245,[67,82,69,65,84,69,50],4,1,32000⟩,
 ⟨250,[83,84,65,84,73,67,67,65,76,76],6,1,700⟩,
 ⟨253,[82,69,86,69,82,84],2,0,0⟩,
 ⟨255,[83,69,76,70,68,69,83,84,82,85,67,84],1,0,5000⟩]
def T7 (m:Nat):Inf:=
 if 96≤m∧m < 128 then ⟨m,[80,85,83,72]++Z2 (m - 95),0,1,3⟩ else
 if 128≤m∧m < 144 then ⟨m,[68,85,80]++Z2 (m - 127),m - 127,m - 126,3⟩ else
 if 144≤m∧m < 160 then ⟨m,[83,87,65,80]++Z2 (m - 143),m - 142,m - 142,3⟩ else
 if 160≤m∧m < 165 then ⟨m,[76,79,71]++Z2 (m - 160),m - 158,0,375*(m - 159)⟩ else A4i
def A0K (k:Nat):List Inf:=(List.range 256).map fun i=>if i < k then T7 i else A4i
def A2y (k:Nat):List Inf:=(A0l.take k).foldl (fun l x=>l.set x.op.toNat x) (A0K 256)
def A0c:List Inf:=A2y 69
theorem A3Q:A0c.length=256:=by decide +kernel
theorem B6t:((List.range 256).all fun m=>let x:=A0c[m]?.getD A4i;match ofL (m:Int) with | none=>decide (x.name = []) | some (p,q,g)=>decide (x.name≠[]) && decide (x.pops=p) && decide (x.pushes=q) && decide (x.gas=g))=true:=by decide +kernel
end Go.Mun
namespace Go.Proofs.YtfflppedbopdpaaGreat
open Go.RowKit Go.Mun
theorem B2F (w:World):Calls Tryz.prog 248 #[] w fun e w'=>e = .returned (.slice (some ⟨w.heap.size,0,none⟩) 69 69)∧w.alloc (.cells (K3 A0l).toArray 142)=w':=by
 obtain ⟨cs,hcs⟩:∃ cs,cs=K3 A0l:=⟨_,rfl⟩
 go_enter Tryz.func248,Tryz.ntmps248
 go_wp2_with (with_reducible refine A6a (o:=⟨some 70,_,_,_,_,_⟩) (e:=142) rfl rfl (K3 A0l) ?h1 ?_)
 case h1=>intro wx;kernel_rfl
 go_ret
 exact ⟨rfl,rfl⟩
end Go.Proofs.YtfflppedbopdpaaGreat
