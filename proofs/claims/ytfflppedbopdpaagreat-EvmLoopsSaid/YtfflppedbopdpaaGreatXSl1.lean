/- A part of the proof of EvmLoops: XSl1. -/
import Derived.Test.YtfflppedbopdpaaGreatXRf9
import Derived.Test.YtfflppedbopdpaaGreatXWrd4
import Derived.Test.YtfflppedbopdpaaGreatXRef5
set_option linter.unusedVariables false
set_option maxRecDepth 1000000
set_option maxHeartbeats 8000000
set_option linter.unusedSimpArgs false
namespace Go.Proofs.YtfflppedbopdpaaGreat
open Go.RowKit Go.Mun

theorem B64 {a b:Nat} (ha:a < wW) (hb:b < wW) (w:World):(binOp .eql 25 (.agg (A3 32 a).toArray) (.agg (A3 32 b).toArray)).run Tryz.prog w = .ok (.bool (decide (a=b))) w:=by
 have:=A7X (fun d=>A9w (a:=a) (b:=b) ha hb w d)
 simpa using this

theorem B2G (n m:Nat) (hn:n < wW) (hm:m < wW) (w:World) :
  Calls Tryz.prog 252 #[.agg (A3 32 n).toArray,.agg (A3 32 m).toArray] w fun e w'=>e = .returned (.int .i64 (I4 n m:Nat))∧Below w.heap.size w w':=by
 obtain ⟨w0,e0⟩:∃ w0,w0=(w.alloc (.cells (A3 32 n).toArray 25)).alloc (.cells (A3 32 m).toArray 25):=⟨_,rfl⟩
 have hx:Z1 w w0 n m:=by rw [e0];exact Z1.start w n m
 have HE:=hid e0
 have hl1:(A3 32 n).length=32:=by simp
 have hl2:(A3 32 m).length=32:=by simp
 have HB:=hid hx.below
 have q1:=hx.x
 have q2:=hx.y
 have z25:=A7d
 clear e0 hx
 go_enter Tryz.func252,Tryz.ntmps252
 go_wp2_with fail
 rw [← HE.out]
 rw [eqW hn (show (0:Nat) < wW by decide)]
 by_cases h0:n=0
 ·have hd:decide (n=0)=true:=by simp [h0]
  rw [hd]
  go_simp
  go_wp2_with fail
  rw [eqW hm (show (0:Nat) < wW by decide)]
  by_cases h1:m=0
  ·have hd1:decide (m=0)=true:=by simp [h1]
   rw [hd1]
   go_simp
   go_wp2
   go_ret
   exact ⟨by simp [I4,h0,h1],HB.out⟩
  ·have hd1:decide (m=0)=false:=by simp [h1]
   rw [hd1]
   go_simp
   go_wp2
   go_ret
   exact ⟨by simp [I4,h0,h1],HB.out⟩
 ·have hd:decide (n=0)=false:=by simp [h0]
  rw [hd]
  go_simp
  go_wp2
  go_ret
  exact ⟨by simp [I4,h0],HB.out⟩
theorem A8I (l:List (Nat × Nat)):∀ (i:Nat) (hi:i < l.length),((D9 l).drop (i*64)).take 64=A3 32 l[i].1++A3 32 l[i].2:=by
 induction l with
 | nil=>intro i hi;simp at hi
 | cons p l ih =>
  intro i hi
  have hc:D9 (p :: l)=(A3 32 p.1++A3 32 p.2)++D9 l:=by simp [D9]
  have hl:(A3 32 p.1++A3 32 p.2).length=64:=by simp
  cases i with
  | zero =>
   rw [hc,Nat.zero_mul,List.drop_zero,List.take_append_of_le_length (by rw [hl];exact Nat.le_refl _),List.take_of_length_le (by rw [hl];exact Nat.le_refl _)]
   rfl
  | succ i =>
   rw [hc,show (i+1)*64=(A3 32 p.1++A3 32 p.2).length+i*64 by rw [hl];omega,← List.drop_drop,List.drop_left]
   exact ih i (by simpa using hi)
theorem A6J {w:World} {g n:Nat} {l:List (Nat × Nat)} (hr:w.row? g 0 (l.length*64)=some (D9 l)) {q:Nat} (hq:q < l.length):w.row? g (q*64) 32=some (A3 32 l[q].1)∧w.row? g (q*64+32) 32=some (A3 32 l[q].2):=by
 have h1:=World.row?_sub hr (o':=q*64) (n':=64) (by omega) (by omega)
 rw [Nat.sub_zero,A8I l q hq] at h1
 have h2:=World.row?_sub h1 (o':=q*64) (n':=32) (by omega) (by omega)
 have h3:=World.row?_sub h1 (o':=q*64+32) (n':=32) (by omega) (by omega)
 refine ⟨?_,?_⟩
 ·rw [h2,Nat.sub_self,List.drop_zero,List.take_append_of_le_length (by simp),List.take_of_length_le (by simp)]
 ·rw [h3,Nat.add_sub_cancel_left,List.drop_append_of_le_length (by simp),List.drop_of_length_le (by simp),List.nil_append,List.take_of_length_le (by simp)]
theorem B0G {l:List (Nat × Nat)} {k q:Nat} (hq:q < l.length) (h:∀ j (hj:j < l.length),j < q→l[j].1≠k) (he:l[q].1=k):E6 k l=some l[q].2:=by
 induction l generalizing q with
 | nil=>simp at hq
 | cons p l ih =>
  obtain ⟨a,b⟩:=p
  cases q with
  | zero=>simp only [List.getElem_cons_zero] at he ⊢;simp [E6,he]
  | succ q =>
   have h0:=h 0 (by simp) (by omega)
   simp only [List.getElem_cons_zero] at h0
   simp only [E6,if_neg h0]
   exact ih (q:=q) (by simpa using hq) (fun j hj hlt=>by have:=h (j+1) (by simpa using hj) (by omega);simpa using this) (by simpa using he)
theorem B1R:Tryz.prog.eqGuardType Tryz.prog.depth 25=false:=by kernel_rfl
theorem B0m {w:World} {own:Go.Mun.Own} {p:J3 × Value × Value} {k:Nat} (hp:U4 w own p) (hk:k < wW) :
  Calls Tryz.prog 253 #[.agg (I5 p).toArray,.agg (A3 32 k).toArray] w fun e w'=>e = .returned (.agg (A3 32 ((E6 k p.1.slots).getD 0)).toArray)∧Below w.heap.size w w':=by
 obtain ⟨sl,hsl⟩:∃ sl,sl=p.1.slots:=⟨_,rfl⟩
 have hrd:=hp.slots.read
 have hvl:=hp.slots.val
 have hln:=hp.slots.len
 rw [← hsl] at hrd hvl hln ⊢
 obtain ⟨sa,sc,hsv⟩:=E1 hrd
 obtain ⟨C,hC⟩:∃ C,C=I5 p:=⟨_,rfl⟩
 have hCl:C.length=55:=by rw [hC];exact P5 p
 rw [← hC]
 obtain ⟨w0,e0⟩:∃ w0,w0=((w.alloc (.cells C.toArray 35)).alloc (.cells (A3 32 k).toArray 25)).alloc (.cells (K0 32).toArray 25):=⟨_,rfl⟩
 have hb0:Below w.heap.size w w0:=by rw [e0];exact (((Below.refl _ _).alloc (Nat.le_refl _) _).alloc (by simp) _).alloc (by simp;omega) _
 have r0:w0.row? w.heap.size 0 55=some C:=by rw [e0,World.row?_alloc_lt _ (by simp;omega),World.row?_alloc_lt _ (by simp)];exact World.row?_alloc_at _ _ _ rfl hCl
 have r1:w0.row? (w.heap.size+1) 0 32=some (A3 32 k):=by rw [e0,World.row?_alloc_lt _ (by simp)];exact World.row?_alloc_at _ _ _ (by simp) (by simp)
 have f2:w0.free? (w.heap.size+1+1) 0 32=true:=by rw [e0];exact World.free?_alloc_at _ _ (by simp) (by simp)
 have c54:w0.cell? ⟨w.heap.size,54,none⟩=some (.slice sa sl.length sc):=by rw [hC] at r0;have:=A4Y r0;rw [Nat.zero_add,hsv] at this;exact this
 obtain ⟨m,hm⟩:∃ m,m=sl.length:=⟨_,rfl⟩
 rw [← hm] at c54 hln
 have HRW:Hid (∀ q (hq:q < sl.length),∃ g,sa=some ⟨g,0,none⟩∧w0.row? g (q*64) 32=some (A3 32 sl[q].1)∧w0.row? g (q*64+32) 32=some (A3 32 sl[q].2)):=by
  intro q hq
  obtain ⟨g,c,e,_,_,_,hr,_⟩:=I3 hrd (by omega)
  rw [hsv] at e
  cases e
  obtain ⟨a1,a2⟩:=A6J (n:=0) (((D2 hb0).1 _ _ _ (World.row?_lt hr)).trans hr) hq
  exact ⟨g,rfl,a1,a2⟩
 have HE:=hid e0
 have HB0:=hid hb0
 have HVL:=hid hvl
 have HM:=hid hm
 have HK:=hid hk
 obtain ⟨T,hT⟩:∃ T:World→Prop,T=fun W=>Below w0.heap.size w0 W:=⟨_,rfl⟩
 have HT:=hid hT
 have HTG:Hid (∀ W,T W→Below w0.heap.size w0 W):=by show ∀ W,T W→_;rw [hT];intro W h;exact h
 have HTN:Hid (∀ W W',T W→Below W.heap.size W W'→T W'):=by show ∀ W W',T W→Below W.heap.size W W'→T W';rw [hT];intro W W' h hb;exact h.trans (hb.mono h.size)
 have HC0:Hid (∀ W,T W→W.cell? ⟨w.heap.size,54,none⟩=some (.slice sa m sc)∧W.row? (w.heap.size+1) 0 32=some (A3 32 k)∧W.free? (w.heap.size+1+1) 0 32=true):=fun W hW=>⟨((HTG.out W hW).cell (World.block_lt_of_cell? w0 _ c54)).trans c54,((D2 (HTG.out W hW)).1 _ _ _ (World.row?_lt r1)).trans r1,((D2 (HTG.out W hW)).2 _ _ _ (C4 f2)).trans f2⟩
 have tt:T w0:=by rw [hT];exact Below.refl _ _
 have hlk:=B0 32 k
 have z25:=A7d
 clear hC e0 hb0 hvl hm hk hT hrd hp hsl hsv r0 r1 f2 c54
 go_enter Tryz.func253,Tryz.ntmps253
 go_wp2_with fail
 rw [← HE.out]
 go_loopw [5] (fun i wr => ∃ q:Nat,q≤m∧i = .int .i64 q∧T wr∧∀ j (hj:j < sl.length),j < q→sl[j].1≠k) (fun i _=>m - (intOf i).toNat)
 case atStart=>exact ⟨0,Nat.zero_le _,rfl,tt,fun j hj h=>by omega⟩
 case round =>
  obtain ⟨q,hq,rfl,ht,hno⟩:=hrel
  have HNO:=hid hno
  obtain ⟨c54,r1,f2⟩:=HC0.out _ ht
  by_cases hlt:q < m
  ·have hqs:q < sl.length:=by rw [← HM.out];exact hlt
   obtain ⟨g,hsa,hk1,hv1⟩:=HRW.out q hqs
   obtain ⟨kk,hkk⟩:∃ kk,kk=sl[q].1:=⟨_,rfl⟩
   obtain ⟨vv,hvv⟩:∃ vv,vv=sl[q].2:=⟨_,rfl⟩
   rw [← hkk] at hk1
   rw [← hvv] at hv1
   have hkW:kk < wW:=by rw [hkk];exact (HVL.out _ (List.getElem_mem hqs)).1
   subst hsa
   have HR:Hid (∀ W,T W→W.row? g (q*64) 32=some (A3 32 kk)∧W.row? g (q*64+32) 32=some (A3 32 vv)):=fun W hW=>⟨((D2 (HTG.out W hW)).1 _ _ _ (World.row?_lt hk1)).trans hk1,((D2 (HTG.out W hW)).1 _ _ _ (World.row?_lt hv1)).trans hv1⟩
   have HQ:=hid (fun w=>B64 (a:=kk) (b:=k) hkW HK.out w)
   have hql:(q:Int) < (m:Int):=by omega
   have dql:decide ((q:Int) < (m:Int))=true:=decide_eq_true hql
   have dqn:(q < m)=True:=eq_true hlt
   have hlv:=B0 32 vv
   have hok:=C7 32 vv
   have hlkk:=B0 32 kk
   have HKK:=hid hkk
   have HVV:=hid hvv
   have HKW:=hid hkW
   have HLT:=hid hlt
   have HQS:=hid hqs
   clear hkk hvv hkW hk1 hv1 hql hno
   by_cases hke:kk=k
   ·have hdk:decide (kk=k)=true:=decide_eq_true hke
    rw [hdk] at HQ
    have HKE:=hid hke
    have t0:T wr.drew:=HTN.out _ _ ht (Below.refl _ _).drew
    clear hke hdk hlt
    go_wp2_with fail
    refine A6 T [] (.pure 0 (.take 1 (.pure 2 (.pure 3 (.pure 4 (.take 5 (.take 6 (.pure 7 .fin)))))))) (by kernel_rfl) (by kernel_rfl) ?_
    iterate 7
     first
     |refine A0 ?_ rfl (by rfl) (fun w' hs=>?_) (fun _ _ _ h=>h) ?_
      rotate_left
      ·clear hs
       go_simp
       try rfl
      simp only [Act.put,D6,D5,D4]
     |refine A9 ?_ t0 rfl (by rfl) (fun w' hs=>?_) (fun _ _ _ h=>h) ?_
      rotate_left
      ·rw [HT.out] at hs
       obtain ⟨u1,u2,u3⟩:=HC0.out w' (by rw [HT.out];exact hs);obtain ⟨u4,u5⟩:=HR.out w' (by rw [HT.out];exact hs)
       go_simp
       try rfl
      simp only [Act.put,D6,D5,D4]
    refine A0 (.bool true) rfl (by rfl) (fun w' hs=>?_) (fun _ _ _ h=>h) ?_
    ·clear hs
     exact A3V _ _ _ _ _ _ _ _ _ _ _ B1R rfl rfl (HQ.out _)
    simp only [Act.put,D6,D5,D4]
    refine C3 ?_
    obtain ⟨d54,d1,d2⟩:=HC0.out _ t0
    have d3:=(HR.out _ t0).2
    go_wp2
    have hg:E6 k sl=some vv:=by rw [HVV.out];exact B0G HQS.out HNO.out (by rw [← HKK.out];exact HKE.out)
    exact F2 A1L rfl _ rfl rfl d2 hok ⟨by rw [hg];rfl,((HB0.out.trans ((HTG.out _ t0).mono HB0.out.size))).setCells (by omega) _ _⟩
   ·have hdk:decide (kk=k)=false:=decide_eq_false hke
    rw [hdk] at HQ
    have HKE:=hid hke
    have t0:T wr.drew:=HTN.out _ _ ht (Below.refl _ _).drew
    have hk1:IntKind.i64.wrap ((q:Int)+1)=((q+1:Nat):Int):=by rw [V3 _ (by omega) (by omega)];omega
    clear hke hdk hlt
    go_wp2_with fail
    refine A6 T [] (.pure 0 (.take 1 (.pure 2 (.pure 3 (.pure 4 (.take 5 (.take 6 (.pure 7 .fin)))))))) (by kernel_rfl) (by kernel_rfl) ?_
    iterate 7
     first
     |refine A0 ?_ rfl (by rfl) (fun w' hs=>?_) (fun _ _ _ h=>h) ?_
      rotate_left
      ·clear hs
       go_simp
       try rfl
      simp only [Act.put,D6,D5,D4]
     |refine A9 ?_ t0 rfl (by rfl) (fun w' hs=>?_) (fun _ _ _ h=>h) ?_
      rotate_left
      ·rw [HT.out] at hs
       obtain ⟨u1,u2,u3⟩:=HC0.out w' (by rw [HT.out];exact hs);obtain ⟨u4,u5⟩:=HR.out w' (by rw [HT.out];exact hs)
       go_simp
       try rfl
      simp only [Act.put,D6,D5,D4]
    refine A0 (.bool false) rfl (by rfl) (fun w' hs=>?_) (fun _ _ _ h=>h) ?_
    ·clear hs
     exact A3V _ _ _ _ _ _ _ _ _ _ _ B1R rfl rfl (HQ.out _)
    simp only [Act.put,D6,D5,D4]
    refine C3 ?_
    go_wp2_with fail
    go_roundw
    case rel =>
     refine ⟨q+1,by have:=HLT.out;omega,by go_num,t0,fun j hj h=>?_⟩
     by_cases e:j=q
     ·subst e;rw [← HKK.out];exact HKE.out
     ·exact HNO.out j hj (by omega)
    case measure=>have:=HLT.out;simp [intOf];omega
  ·obtain rfl:q=m:=by omega
   have hg:E6 k sl=none:=A4j fun p hp=>by
    obtain ⟨i,hi,rfl⟩:=List.mem_iff_getElem.1 hp
    exact hno i hi (by rw [HM.out];exact hi)
   have hok:=C7 32 0
   have hl0:=B0 32 0
   have HGN:=hid hg
   clear hno hg
   go_wp2
   exact F2 A1L rfl _ rfl rfl f2 hok ⟨by rw [HGN.out];rfl,((HB0.out.trans ((HTG.out _ ht).mono HB0.out.size))).setCells (by omega) _ _⟩
def A4p (x:Int):Prop:=x≠32∧x≠55∧x≠57∧x≠60∧x≠62∧x≠81∧x≠82∧x≠83∧x≠160∧x≠161∧x≠162∧x≠163∧x≠164∧x≠240∧x≠241∧x≠243∧x≠244∧x≠245∧x≠250∧x≠253
theorem A28 (x:Int) (hx:A4p x) (w:World):Calls Tryz.prog 250 #[.int .u8 x] w fun e w'=>e = .returned (.tuple #[.int .i64 (-1),.int .i64 (-1),.int .i64 0])∧w'=w:=by
 unfold A4p at hx
 have n32:(x == 32)=false:=by simp;omega
 have n55:(x == 55)=false:=by simp;omega
 have n57:(x == 57)=false:=by simp;omega
 have n60:(x == 60)=false:=by simp;omega
 have n62:(x == 62)=false:=by simp;omega
 have n81:(x == 81)=false:=by simp;omega
 have n82:(x == 82)=false:=by simp;omega
 have n83:(x == 83)=false:=by simp;omega
 have n160:(x == 160)=false:=by simp;omega
 have n161:(x == 161)=false:=by simp;omega
 have n162:(x == 162)=false:=by simp;omega
 have n163:(x == 163)=false:=by simp;omega
 have n164:(x == 164)=false:=by simp;omega
 have n240:(x == 240)=false:=by simp;omega
 have n241:(x == 241)=false:=by simp;omega
 have n243:(x == 243)=false:=by simp;omega
 have n244:(x == 244)=false:=by simp;omega
 have n245:(x == 245)=false:=by simp;omega
 have n250:(x == 250)=false:=by simp;omega
 have n253:(x == 253)=false:=by simp;omega
 clear hx
 go_enter Tryz.func250,Tryz.ntmps250
 go_wp2
 go_ret3
 exact ⟨rfl,rfl⟩
theorem A7E (x:Int) (hx:A4p x) (h1:x≠10) (h2:x≠85) (fb:Nat) (w:World):Calls Tryz.prog 178 #[.pointer (some ⟨fb,0,none⟩),.int .u8 x] w fun e w'=>e = .returned (.tuple #[.int .i64 0,.bool true])∧w'=w:=by
 have HA:=hid (fun w=>A28 x hx w)
 have n10:(x == 10)=false:=by simp;omega
 have n85:(x == 85)=false:=by simp;omega
 clear hx h1 h2
 go_enter Tryz.func178,Tryz.ntmps178
 go_wp2_with fail
 refine (HA.out _).mono ?_
 rintro e w1 ⟨rfl,rfl⟩
 go_wp2
 go_ret2
 exact ⟨rfl,rfl⟩
theorem A2r (l:List Nat):∀ (i:Nat) (hi:i < l.length),((D3 l).drop (i*32)).take 32=A3 32 l[i]:=by
 induction l with
 | nil=>intro i hi;simp at hi
 | cons p l ih =>
  intro i hi
  have hc:D3 (p :: l)=A3 32 p++D3 l:=by simp [D3]
  have hl:(A3 32 p).length=32:=by simp
  cases i with
  | zero =>
   rw [hc,Nat.zero_mul,List.drop_zero,List.take_append_of_le_length (by rw [hl];exact Nat.le_refl _),List.take_of_length_le (by rw [hl];exact Nat.le_refl _)]
   rfl
  | succ i =>
   rw [hc,show (i+1)*32=(A3 32 p).length+i*32 by rw [hl];omega,← List.drop_drop,List.drop_left]
   exact ih i (by simpa using hi)
theorem X2 {w:World} {b base:Nat} {v:Value} {l:List Nat} (h:w.ownsRow base 25 32 v l.length (D3 l)) {i:Nat} (hi:i < l.length):∃ g c,v = .slice (some ⟨g,0,none⟩) l.length c∧w.row? g (i*32) 32=some (A3 32 l[i]):=by
 obtain ⟨g,c,e,_,_,_,hr,_⟩:=I3 h (by omega)
 have h1:=World.row?_sub hr (o':=i*32) (n':=32) (by omega) (by omega)
 rw [Nat.sub_zero,A2r l i hi] at h1
 exact ⟨g,c,e,h1⟩
theorem B5K {E:Q5} {w:World} {own:Go.Mun.Own} {c:RFV} {f:Fr} {S:St} {M:List (Nat × St)} {n:Nat} (k:Nat) (h:C9 E w own c f S M n) (hk:k < f.stack.length) :
  Calls Tryz.prog 249 #[.pointer (some ⟨E.fb,0,none⟩),.int .i64 (k:Int)] w fun e w'=>e = .returned (.agg (A3 32 (f.stack[f.stack.length - 1 - k]'(by omega))).toArray)∧Below w.heap.size w w':=by
 obtain ⟨m,hm⟩:∃ m,m=f.stack.length:=⟨_,rfl⟩
 obtain ⟨i,hi⟩:∃ i,i=f.stack.length - 1 - k:=⟨_,rfl⟩
 have hil:i < f.stack.length:=by omega
 obtain ⟨x,hx⟩:∃ x,x=f.stack[i]'hil:=⟨_,rfl⟩
 have hxx:(f.stack[f.stack.length - 1 - k]'(by omega))=x:=by rw [hx];congr 1;exact hi.symm
 rw [hxx]
 obtain ⟨g,sc,hsv,hrow⟩:=X2 (b:=0) h.stk hil
 rw [← hx] at hrow
 have csv:=A5p h.row
 rw [hsv,← hm] at csv
 have hsl:=h.slen
 obtain ⟨w0,e0⟩:∃ w0,w0=w.alloc (.cells (K0 32).toArray 25):=⟨_,rfl⟩
 have hb0:Below w.heap.size w w0:=by rw [e0];exact (Below.refl _ _).alloc (Nat.le_refl _) _
 have f0:w0.free? w.heap.size 0 32=true:=by rw [e0];exact World.free?_alloc_at _ _ rfl (by simp)
 have t1:w0.cell? ⟨E.fb,230,none⟩=some (.slice (some ⟨g,0,none⟩) m sc):=(hb0.cell (World.block_lt_of_cell? w _ csv)).trans csv
 have t2:w0.row? g (i*32) 32=some (A3 32 x):=((D2 hb0).1 _ _ _ (World.row?_lt hrow)).trans hrow
 obtain ⟨T,hT⟩:∃ T:World→Prop,T=fun W=>W.cell? ⟨E.fb,230,none⟩=some (.slice (some ⟨g,0,none⟩) m sc)∧W.row? g (i*32) 32=some (A3 32 x):=⟨_,rfl⟩
 have HT:=hid hT
 have t0:T w0.drew:=by rw [hT];exact ⟨t1,t2⟩
 have hw1:IntKind.i64.wrap ((m:Int) - 1)=((m - 1:Nat):Int):=by rw [V3 _ (by omega) (by omega)];omega
 have hw2:IntKind.i64.wrap ((m:Int) - 1 - (k:Int))=(i:Int):=by rw [V3 _ (by omega) (by omega)];omega
 have hw3:IntKind.i64.wrap (((m - 1:Nat):Int) - (k:Int))=(i:Int):=by rw [V3 _ (by omega) (by omega)];omega
 have him:i < m:=by omega
 have hok:=C7 32 x
 have hlx:=B0 32 x
 have HE:=hid e0
 have HB:=hid hb0
 have HF:=hid f0
 have fz:w0.drew.free? w.heap.size 0 32=true:=f0
 clear hT h csv hrow hsv e0 hb0 t1 t2 f0 hxx hx hi hil hsl hk hm
 go_enter Tryz.func249,Tryz.ntmps249
 go_wp2_with fail
 rw [← HE.out]
 refine A6 T [16] (.pure 0 (.pure 1 (.pure 2 (.pure 3 (.take 4 (.pure 5 (.pure 6 (.pure 7 (.pure 8 (.take 9 (.pure 10 (.pure 11 (.pure 12 (.pure 13 (.pure 14 (.take 15 (.alt 16 .fin .stop))))))))))))))))) (by kernel_rfl) (by kernel_rfl) ?_
 iterate 13
  first
  |refine A0 ?_ rfl (by rfl) (fun w' hs=>?_) (fun _ _ _ h=>h) ?_
   rotate_left
   ·clear hs
    go_simp
    try rfl
   simp only [Act.put,D6,D5,D4]
  |refine A9 ?_ t0 rfl (by rfl) (fun w' hs=>?_) (fun _ _ _ h=>h) ?_
   rotate_left
   ·rw [HT.out] at hs
    obtain ⟨g1,g2⟩:=hs
    go_simp
    try rfl
   simp only [Act.put,D6,D5,D4]
 refine A0 (.int .i64 (i:Int)) rfl (by rfl) (fun w' hs=>?_) (fun _ _ _ h=>h) ?_
 ·clear hs
  go_simp
 simp only [Act.put,D6,D5,D4]
 refine A0 (.pointer (some ⟨g,i*32,none⟩)) rfl (by rfl) (fun w' hs=>?_) (fun _ _ _ h=>h) ?_
 ·clear hs
  go_simp
 simp only [Act.put,D6,D5,D4]
 refine A9 ?_ t0 rfl (by rfl) (fun w' hs=>?_) (fun _ _ _ h=>h) ?_
 rotate_left
 ·rw [HT.out] at hs
  obtain ⟨g1,g2⟩:=hs
  go_simp
  try rfl
 simp only [Act.put,D6,D5,D4]
 refine L0 rfl (by simp) (fun K hK=>?_)
 go_simp
 refine hK.out _ _ ?_
 clear hK K
 refine C3 ?_
 have hrz:(w0.drew.setCells w.heap.size 0 (A3 32 x)).row? w.heap.size 0 32=some (A3 32 x):=B8 _ fz hok
 go_wp2
 refine ⟨rfl,_,A4x A1L rfl _ _ w.heap.size 0 (A3 32 x) rfl hrz,rfl,HB.out.drew.setCells (Nat.le_refl _) _ _⟩
theorem B0H {l:List (Nat × Nat)} {k B:Nat} (hB:0 < B) (h:∀ q∈l,q.2 < B):(E6 k l).getD 0 < B:=by
 induction l with
 | nil=>exact hB
 | cons p l ih =>
  obtain ⟨a,b⟩:=p
  simp only [E6]
  split
  ·exact h _ (List.mem_cons_self)
  ·exact ih fun q hq=>h q (List.mem_cons_of_mem _ hq)
def P3 (f:Fr) (k:Nat):Nat:=f.stack.reverse[k]?.getD 0
theorem A7n {f:Fr} {k:Nat} (hk:k < f.stack.length):P3 f k=f.stack[f.stack.length - 1 - k]'(by omega):=by
 unfold P3
 rw [List.getElem?_reverse hk,List.getElem?_eq_getElem (by omega)]
 rfl
theorem A8V {E:Q5} {w:World} {own:Go.Mun.Own} {c:RFV} {f:Fr} {S:St} {M:List (Nat × St)} {n:Nat} (k:Nat) (h:C9 E w own c f S M n) (hk:k < f.stack.length) :
  Calls Tryz.prog 249 #[.pointer (some ⟨E.fb,0,none⟩),.int .i64 (k:Int)] w fun e w'=>e = .returned (.agg (A3 32 (P3 f k)).toArray)∧Below w.heap.size w w':=by
 rw [A7n hk];exact B5K k h hk
theorem A0J {E:Q5} {w:World} {own:Go.Mun.Own} {c:RFV} {f:Fr} {S:St} {M:List (Nat × St)} {n:Nat} (h:C9 E w own c f S M n) (k:Nat):P3 f k < wW:=by
 unfold P3
 cases e:f.stack.reverse[k]? with
 | none=>show 0 < wW;decide
 | some x=>exact h.sval x (by have:=List.mem_of_getElem? e;simpa using this)
theorem A6m {E:Q5} {w:World} {own:Go.Mun.Own} {c:RFV} {f:Fr} {S:St} {M:List (Nat × St)} {n:Nat} (h:C9 E w own c f S M n) (hl:2≤f.stack.length) :
  Calls Tryz.prog 178 #[.pointer (some ⟨E.fb,0,none⟩),.int .u8 85] w fun e w'=>e = .returned (.tuple #[.int .i64 (I4 ((S f.m.to).slots (P3 f 0)) (P3 f 1):Nat),.bool true])∧Below w.heap.size w w':=by
 have HA:=hid (fun w=>A28 85 (by unfold A4p;decide) w)
 have c0:=B0k h.row
 have c1:=B1s h.row
 have hto:=h.mok.to
 have hnn:n≤1000000:=by have:=h.cnt;have:=h.lim;omega
 obtain ⟨k,hk⟩:∃ k,k=P3 f 0:=⟨_,rfl⟩
 obtain ⟨v,hv⟩:∃ v,v=P3 f 1:=⟨_,rfl⟩
 have hkW:k < wW:=by rw [hk];exact A0J h 0
 have hvW:v < wW:=by rw [hv];exact A0J h 1
 have H:=hid h
 obtain ⟨T,hT⟩:∃ T:World→Prop,T=fun W=>Below w.heap.size w W:=⟨_,rfl⟩
 have HT:=hid hT
 have HTG:Hid (∀ W,T W→Below w.heap.size w W):=by show ∀ W,T W→_;rw [hT];intro W h;exact h
 have HTN:Hid (∀ W W',T W→Below W.heap.size W W'→T W'):=by show ∀ W W',T W→Below W.heap.size W W'→T W';rw [hT];intro W W' h hb;exact h.trans (hb.mono h.size)
 have H0:Hid (∀ W,T W→Calls Tryz.prog 249 #[.pointer (some ⟨E.fb,0,none⟩),.int .i64 0] W fun e w'=>e = .returned (.agg (A3 32 k).toArray)∧Below W.heap.size W w'):=fun W hW=>by have:=A8V 0 (H.out.below (HTG.out W hW)) (by omega);rw [← hk] at this;exact this
 have H1:Hid (∀ W,T W→Calls Tryz.prog 249 #[.pointer (some ⟨E.fb,0,none⟩),.int .i64 1] W fun e w'=>e = .returned (.agg (A3 32 v).toArray)∧Below W.heap.size W w'):=fun W hW=>by have:=A8V 1 (H.out.below (HTG.out W hW)) (by omega);rw [← hv] at this;exact this
 have t0:T w.drew:=by rw [hT];exact (Below.refl _ _).drew
 rw [← hk,← hv]
 obtain ⟨sl,hsl⟩:∃ sl,sl=(S f.m.to).slots k:=⟨_,rfl⟩
 rw [← hsl]
 have HSL:=hid hsl
 have HC:Hid (∀ W,T W→W.cell? ⟨E.fb,0,none⟩=some (.pointer (some ⟨E.sb,0,none⟩))∧W.row? E.fb 173 20=some (A3 20 f.m.to)):=fun W hW=>⟨((HTG.out W hW).cell (World.block_lt_of_cell? w _ c0)).trans c0,((D2 (HTG.out W hW)).1 _ _ _ (World.row?_lt c1)).trans c1⟩
 clear h hT hk hv hsl c0 c1
 go_enter Tryz.func178,Tryz.ntmps178
 go_wp2_with fail
 refine (HA.out _).mono ?_
 rintro e w1 ⟨rfl,rfl⟩
 go_wp2_with fail
 refine A6 T [] (.pure 0 (.pure 1 (.pure 2 (.take 3 (.pure 4 (.pure 5 (.pure 6 (.take 7 (.pure 9 (.pure 12 (.alt 8 (.alt 10 (.alt 11 (.alt 13 (.alt 14 (.pure 15 .fin) .stop) .stop) .stop) .stop) .stop))))))))))) (by kernel_rfl) (by kernel_rfl) ?_
 iterate 10
  first
  |refine A0 ?_ rfl (by rfl) (fun w' hs=>?_) (fun _ _ _ h=>h) ?_
   rotate_left
   ·clear hs
    go_simp
    try rfl
   simp only [Act.put,D6,D5,D4]
  |refine A9 ?_ t0 rfl (by rfl) (fun w' hs=>?_) (fun _ _ _ h=>h) ?_
   rotate_left
   ·rw [HT.out] at hs
    obtain ⟨g1,g2⟩:=HC.out w' (by rw [HT.out];exact hs)
    go_simp
    try rfl
   simp only [Act.put,D6,D5,D4]
 refine A8 rfl (fun K hK=>?_)
 go_simp
 refine (A6S (H.out.below (HTG.out _ t0)).st hto hnn).mono ?_
 rintro e wa ⟨p,rfl,hba,hga⟩
 have t1:T wa:=HTN.out _ _ t0 hba
 have HP:Hid (U4 wa own p):=hga.ok.only (S:=fun _=>False) (A2.of_below_size hba) (fun _ h=>h.elim)
 have HPS:Hid ((E6 k p.1.slots).getD 0=sl):=by show _=_;rw [HSL.out,← hga.acc];rfl
 obtain ⟨C,hC⟩:∃ C,C=I5 p:=⟨_,rfl⟩
 rw [← hC]
 have HCC:=hid hC
 clear hba hga hC
 refine hK.out _ _ t1 ?_
 clear hK K
 refine A8 rfl (fun K hK=>?_)
 go_simp
 refine (H0.out _ t1).mono ?_
 rintro e wb ⟨rfl,hbb⟩
 have t2:T wb:=HTN.out _ _ t1 hbb
 have HPb:Hid (U4 wb own p):=HP.out.only (S:=fun _=>False) (A2.of_below_size hbb) (fun _ h=>h.elim)
 clear hbb
 refine hK.out _ _ t2 ?_
 clear hK K
 refine A8 rfl (fun K hK=>?_)
 go_simp
 have hso:=B0m HPb.out hkW
 rw [HPS.out,← HCC.out] at hso
 refine hso.mono ?_
 rintro e wc ⟨rfl,hbc⟩
 have t3:T wc:=HTN.out _ _ t2 hbc
 clear hbc hso
 refine hK.out _ _ t3 ?_
 clear hK K
 refine A8 rfl (fun K hK=>?_)
 go_simp
 refine (H1.out _ t3).mono ?_
 rintro e wd ⟨rfl,hbd⟩
 have t4:T wd:=HTN.out _ _ t3 hbd
 clear hbd
 refine hK.out _ _ t4 ?_
 clear hK K
 refine A8 rfl (fun K hK=>?_)
 go_simp
 have hsW:sl < wW:=by rw [← HPS.out];exact B0H (by decide) fun q hq=>(HP.out.slots.val q hq).2
 refine (B2G sl v hsW hvW _).mono ?_
 rintro e we ⟨rfl,hbe⟩
 have t5:T we:=HTN.out _ _ t4 hbe
 clear hbe
 refine hK.out _ _ t5 ?_
 clear hK K
 refine A0 ?_ rfl (by rfl) (fun w' hs=>?_) (fun _ _ _ h=>h) ?_
 rotate_left
 ·clear hs
  go_simp
  try rfl
 simp only [Act.put,D6,D5,D4]
 refine C3 ?_
 go_wp2
 go_ret2
 exact ⟨rfl,HTG.out _ t5⟩
theorem A2K {E:Q5} {w:World} {own:Go.Mun.Own} {c:RFV} {f:Fr} {S:St} {M:List (Nat × St)} {n:Nat} {x p:Nat} {q g:Int} {r:Res} (hx:80≤x∧x≤95) (h:C9 E w own c f S M n) (htl:c.tl=K3 A0c) (ho:ofL (x:Int)=some ((p:Int),q,g)) (hp:p≤f.stack.length) (hrn:r≠.none)
  (hcl:∀ W v c',C9 E W own c' { f with stack:=f.stack.take (f.stack.length - p) } S M n→c'.tl=K3 A0c→c'.jv=c.jv→W.ownsRow w.heap.size 25 32 v p (D3 (f.stack.reverse.take p)) →
   (∀ g,v.ownBlock=some g→own g=none∧c'.sv.ownBlock≠some g∧c'.mv.ownBlock≠some g)→Calls Tryz.prog 269 #[.pointer (some ⟨E.fb,0,none⟩),.int .u8 (x:Int),v,c.jv] W (RDo E c.jv r)) :
  Calls Tryz.prog 179 #[.pointer (some ⟨E.fb,0,none⟩),.int .u8 (x:Int),c.jv] w (RDo E c.jv r):=by
 obtain ⟨y,hy,hyy⟩:=A7R x (by omega)
 rw [ho] at hyy
 have hr:=A5q h htl x y hy
 have hc:w.cell? ⟨E.fb,236+x*5+2,none⟩=some (.int .i64 (p:Int)):=by
  have:=World.row?_cell hr (i:=2) (by omega)
  rw [this,← hyy.2.1];unfold Inf.c;rfl
 obtain ⟨T,hT⟩:∃ T:World→Prop,T=fun W=>W.cell? ⟨E.fb,236+x*5+2,none⟩=some (.int .i64 (p:Int)):=⟨_,rfl⟩
 have HT:=hid hT
 have t0:T w.drew:=by rw [hT];exact hc
 have HP:=hid (B1u p hp (h.below (Below.refl _ _).drew))
 have HTL:=hid htl
 have HCL:=hid hcl
 have HRN:=hid hrn
 have d0:decide ((96:Int)≤(x:Int))=false:=decide_eq_false (by omega)
 have d1:decide ((x:Int) < 128)=true:=decide_eq_true (by omega)
 have d2:decide ((128:Int)≤(x:Int))=false:=decide_eq_false (by omega)
 have d3:decide ((144:Int)≤(x:Int))=false:=decide_eq_false (by omega)
 have d4:decide ((1:Int)≤(x:Int))=true:=decide_eq_true (by omega)
 have d5:decide ((x:Int)≤7)=false:=decide_eq_false (by omega)
 have d6:decide ((x:Int)=10)=false:=decide_eq_false (by omega)
 have b6:((x:Int) == 10)=false:=by simp;omega
 have d7:decide ((x:Int)=11)=false:=decide_eq_false (by omega)
 have b7:((x:Int) == 11)=false:=by simp;omega
 have d8:decide ((16:Int)≤(x:Int))=true:=decide_eq_true (by omega)
 have d9:decide ((x:Int)≤20)=false:=decide_eq_false (by omega)
 have d10:decide ((22:Int)≤(x:Int))=true:=decide_eq_true (by omega)
 have d11:decide ((x:Int)≤24)=false:=decide_eq_false (by omega)
 have d12:decide ((26:Int)≤(x:Int))=true:=decide_eq_true (by omega)
 have d13:decide ((x:Int)≤29)=false:=decide_eq_false (by omega)
 have d14:decide ((48:Int)≤(x:Int))=true:=decide_eq_true (by omega)
 have d15:decide ((x:Int)≤71)=false:=decide_eq_false (by omega)
 have d16:decide ((160:Int)≤(x:Int))=false:=decide_eq_false (by omega)
 have d17:decide ((240:Int)≤(x:Int))=false:=decide_eq_false (by omega)
 have HX:=hid hx
 have hxI:(0:Int)≤(x:Int)∧(x:Int) < 256:=by omega
 have HXI:=hid hxI
 have htn:(x:Int).toNat=x:=Int.toNat_natCast x
 have hxl:((x:Int) < 256)=True:=eq_true (by omega)
 have hxn:(x < 256)=True:=eq_true (by omega)
 clear h htl hr hc hT hy hyy ho hp hcl hx hxI hrn
 go_enter Tryz.func179,Tryz.ntmps179
 go_wp2_with fail
 refine A6 T [10] (.pure 0 (.pure 1 (.pure 2 (.pure 3 (.pure 4 (.pure 5 (.pure 6 (.pure 7 (.pure 8 (.take 9 (.alt 10 (.pure 11 (.pure 12 (.pure 13 (.pure 14 (.pure 15 .fin))))) .stop))))))))))) (by kernel_rfl) (by kernel_rfl) ?_
 iterate 10
  first
  |refine A0 ?_ rfl (by rfl) (fun w' hs=>?_) (fun _ _ _ h=>h) ?_
   rotate_left
   ·clear hs
    go_simp
    try rfl
   simp only [Act.put,D6,D5,D4]
  |refine A9 ?_ t0 rfl (by rfl) (fun w' hs=>?_) (fun _ _ _ h=>h) ?_
   rotate_left
   ·rw [HT.out] at hs
    have s1:=hs
    go_simp
    try rfl
   simp only [Act.put,D6,D5,D4]
 refine L0 rfl (by simp) (fun K hK=>?_)
 go_simp
 refine HP.out.mono ?_
 rintro e w1 ⟨v,c1,rfl,h1,⟨ht1,hj1⟩,hv1,ho1⟩
 have H1:=hid h1
 have HT1:=hid (ht1.trans HTL.out)
 have HJ1:=hid hj1
 have HV:=hid hv1
 have HVO:=hid ho1
 clear h1 ht1 hj1 hv1 ho1
 refine hK.out _ _ ?_
 clear hK K
 iterate 5
  refine A0 ?_ rfl (by rfl) (fun w' hs=>?_) (fun _ _ _ h=>h) ?_
  rotate_left
  ·clear hs
   go_simp
   try rfl
  simp only [Act.put,D6,D5,D4]
 refine C3 ?_
 have HRF:=hid (HCL.out w1 v c1 H1.out HT1.out HJ1.out HV.out HVO.out)
 clear t0
 go_wp2_with fail
 refine HRF.out.mono ?_
 intro e w2 hd
 cases r with
 | ok f2 S2 =>
  obtain ⟨rfl,hd2⟩:=hd
  have HD:=hid hd2
  clear hd2
  go_wp2
  go_ret
  exact ⟨rfl,HD.out⟩
 | stop y f2 S2 =>
  obtain ⟨rfl,hd2⟩:=hd
  have HD:=hid hd2
  clear hd2
  go_wp2
  go_ret
  exact ⟨rfl,HD.out⟩
 | none=>exact absurd rfl HRN.out
theorem C1A (b:Nat) (w:World):(Instr.sliceAt 25 (.pointer (some ⟨b,0,none⟩)) none none none).run Tryz.prog w = .ok (.slice (some ⟨b,0,none⟩) 32 32) w:=by kernel_rfl
theorem A15 {w:World} {b x:Nat} (h:w.row? b 0 32=some (A3 32 x)):(convert 26 9 (.slice (some ⟨b,0,none⟩) 32 32)).run Tryz.prog w = .ok (.string (A0R (be 32 x))) w:=
 I9 (P:=Tryz.prog) Tryz.underlying26 Tryz.underlying5 Tryz.underlying9 (by rw [A2j]) (B2Z (A2j 32 x) (by decide) h)
theorem A8W (a b:Nat) (ha:a < wW) (hb:b < wW) (w:World) :
  Calls Tryz.prog 170 #[.agg (A3 32 a).toArray,.agg (A3 32 b).toArray] w fun e w'=>e = .returned (.bool (decide (a < b)))∧Below w.heap.size w w':=by
 obtain ⟨w0,e0⟩:∃ w0,w0=(w.alloc (.cells (A3 32 a).toArray 25)).alloc (.cells (A3 32 b).toArray 25):=⟨_,rfl⟩
 have hx:Z1 w w0 a b:=by rw [e0];exact Z1.start w a b
 have HE:=hid e0
 have hl1:(A3 32 a).length=32:=by simp
 have hl2:(A3 32 b).length=32:=by simp
 have HB:=hid hx.below
 obtain ⟨T,hT⟩:∃ T:World→Prop,T=fun W=>W.row? w.heap.size 0 32=some (A3 32 a)∧W.row? (w.heap.size+1) 0 32=some (A3 32 b):=⟨_,rfl⟩
 have HT:=hid hT
 have t0:T w0.drew:=by rw [hT];exact ⟨hx.x,hx.y⟩
 have hless:=B1E 32 a b (by rw [A23];exact ha) (by rw [A23];exact hb)
 have HLS:=hid hless
 generalize hsa:A0R (be 32 a)=sa at *
 generalize hsb:A0R (be 32 b)=sb at *
 have HSA:=hid hsa
 have HSB:=hid hsb
 clear e0 hx hT hsa hsb hless
 go_enter Tryz.func170,Tryz.ntmps170
 go_wp2_with fail
 rw [← HE.out]
 refine A6 T [] (.pure 0 (.take 1 (.pure 2 (.take 3 (.pure 4 (.pure 5 .fin)))))) (by kernel_rfl) (by kernel_rfl) ?_
 refine A0 ?_ rfl (by rfl) (fun w' hs=>?_) (fun _ _ _ h=>h) ?_
 rotate_left
 ·clear hs
  have z:=C1A w.heap.size w'
  go_simp
  try rfl
 simp only [Act.put,D6,D5,D4]
 refine A9 ?_ t0 rfl (by rfl) (fun w' hs=>?_) (fun _ _ _ h=>h) ?_
 rotate_left
 ·rw [HT.out] at hs
  obtain ⟨g1,g2⟩:=hs;have s1:=A15 g1;have s2:=A15 g2;rw [HSA.out] at s1;rw [HSB.out] at s2
  go_simp
  try rfl
 simp only [Act.put,D6,D5,D4]
 refine A0 ?_ rfl (by rfl) (fun w' hs=>?_) (fun _ _ _ h=>h) ?_
 rotate_left
 ·clear hs
  have z:=C1A (w.heap.size+1) w'
  go_simp
  try rfl
 simp only [Act.put,D6,D5,D4]
 refine A9 ?_ t0 rfl (by rfl) (fun w' hs=>?_) (fun _ _ _ h=>h) ?_
 rotate_left
 ·rw [HT.out] at hs
  obtain ⟨g1,g2⟩:=hs;have s1:=A15 g1;have s2:=A15 g2;rw [HSA.out] at s1;rw [HSB.out] at s2
  go_simp
  try rfl
 simp only [Act.put,D6,D5,D4]
 refine A0 ?_ rfl (by rfl) (fun w' hs=>?_) (fun _ _ _ h=>h) ?_
 rotate_left
 ·clear hs
  have z:=HLS.out
  go_simp
  try rfl
 simp only [Act.put,D6,D5,D4]
 refine A0 ?_ rfl (by rfl) (fun w' hs=>?_) (fun _ _ _ h=>h) ?_
 rotate_left
 ·clear hs
  go_simp
  try rfl
 simp only [Act.put,D6,D5,D4]
 refine C3 ?_
 go_wp2
 go_ret
 exact ⟨rfl,HB.out.drew⟩
def A03 (a:Option Addr) (c k:Nat):Option Addr:=if c=k then a else a.map (·.add (k*64))
theorem Y6 (a:Option Addr) (n c k:Nat) (hk:k≤n) (w:World):(Instr.slice 33 (.slice a n c) (some (.int .i64 (k:Int))) none none).run Tryz.prog w = .ok (.slice (A03 a c k) (n - k) (c - k)) w:=by
 have he:Tryz.prog.elem 33=97:=by kernel_rfl
 have hs:(sizeOf 97).run Tryz.prog w = .ok 64 w:=by kernel_rfl
 rw [run_slice_l w 33 a n c (by rw [he];exact Tryz.underlying33) .i64 (k:Int) (by omega) (by omega),he,hs]
 simp only [Result.andThen,sliced,Int.toNat_natCast]
 rfl
theorem Y7 (a:Option Addr) (n c k:Nat) (hk:k≤c) (w:World):(Instr.slice 33 (.slice a n c) none (some (.int .i64 (k:Int))) none).run Tryz.prog w = .ok (.slice a k c) w:=by
 have he:Tryz.prog.elem 33=97:=by kernel_rfl
 have hs:(sizeOf 97).run Tryz.prog w = .ok 64 w:=by kernel_rfl
 rw [run_slice_h w 33 a n c (by rw [he];exact Tryz.underlying33) .i64 (k:Int) (by omega) (by omega),he,hs]
 have ha:(if c=0 then a else a.map (·.add (0*64)))=a:=by
  split
  ·rfl
  ·cases a with
   | none=>rfl
   | some p=>simp [Addr.add]
 simp only [Result.andThen,sliced,Int.toNat_natCast,Nat.sub_zero,ha]
theorem A07 (a b:List (Nat × Nat)):D9 (a++b)=D9 a++D9 b:=by simp [D9]
theorem A95 (l:List (Nat × Nat)) (k:Nat) (hk:k≤l.length):(D9 l).take (k*64)=D9 (l.take k):=by
 conv=>lhs;rw [← List.take_append_drop k l,A07]
 rw [List.take_append_of_le_length (by rw [A1e,List.length_take];omega),List.take_of_length_le (by rw [A1e,List.length_take];omega)]
theorem A96 (l:List (Nat × Nat)) (k:Nat) (hk:k≤l.length):(D9 l).drop (k*64)=D9 (l.drop k):=by
 conv=>lhs;rw [← List.take_append_drop k l,A07]
 have:k*64=(D9 (l.take k)).length:=by rw [A1e,List.length_take];omega
 rw [this,List.drop_left]
theorem A0B {w:World} {b:Nat} {a:Option Addr} {c:Nat} {l:List (Nat × Nat)} (h:w.ownsRow b 97 64 (.slice a l.length c) l.length (D9 l)) (k:Nat) (hk:k≤l.length):F0 w a c k 64 (D9 (l.take k)):=by
 refine ⟨?_,fun hm=>?_,fun e=>?_⟩
 ·have:=A0T (l.take k)
  rwa [List.length_take,Nat.min_eq_left hk] at this
 ·obtain ⟨g,c',hv,_,_,_,hr,_⟩:=I3 h (by omega)
  cases hv
  refine ⟨g,0,rfl,fun j u hu=>?_⟩
  rw [← A95 l k hk,List.getElem?_take] at hu
  split at hu
  ·rename_i hj
   rw [World.row?_cell hr (i:=j) (by omega)];exact hu
  ·cases hu
 ·subst e
  rcases h.2 with ⟨h1,h2⟩ | ⟨g,cap,cur,h1,_⟩
  ·injection h1 with e1 e2 e3;exact ⟨by omega,e3⟩
  ·injection h1 with e1;cases e1
theorem A0A {w:World} {b:Nat} {a:Option Addr} {c:Nat} {l:List (Nat × Nat)} (h:w.ownsRow b 97 64 (.slice a l.length c) l.length (D9 l)) (k:Nat) (hk:k≤l.length):F0 w (A03 a c k) (c - k) (l.length - k) 64 (D9 (l.drop k)):=by
 refine ⟨?_,fun hm=>?_,fun e=>?_⟩
 ·have:=A0T (l.drop k)
  rwa [List.length_drop] at this
 ·obtain ⟨g,c',hv,_,hc,_,hr,_⟩:=I3 h (by omega)
  cases hv
  refine ⟨g,k*64,?_,fun j u hu=>?_⟩
  ·unfold A03
   rw [if_neg (by omega),Option.map_some,Z0 rfl,Nat.zero_add]
  ·rw [← A96 l k hk,List.getElem?_drop] at hu
   have hj:k*64+j < (D9 l).length:=by
    rcases Nat.lt_or_ge (k*64+j) (D9 l).length with h | h
    ·exact h
    ·rw [List.getElem?_eq_none h] at hu;cases hu
   rw [A1e] at hj
   have:=World.row?_cell hr (i:=k*64+j) hj
   rw [Nat.zero_add] at this
   rw [this];exact hu
 ·unfold A03 at e
  rcases h.2 with ⟨h1,h2⟩ | ⟨g,cap,cur,h1,_⟩
  ·injection h1 with e1 e2 e3;exact ⟨by omega,by omega⟩
  ·injection h1 with e1 e2 e3
   subst e1
   split at e
   ·cases e
   ·simp at e
theorem C0k:A1w Tryz.prog 33 97 64 1 (B7 [B7 A3o]):=⟨Tryz.underlying33,⟨_,.agg (B7 A3o).toArray,rfl,by kernel_rfl,by kernel_rfl,by kernel_rfl⟩,by decide,by kernel_rfl,by decide⟩
def B0L (p:List (Nat × Value)):Option (List Value):=I1 (1*64) ((List.range 1).map fun i=>(i*64,64)) (B7 [B7 A3o]) p
theorem C1g (ρ:Operand→Value) (dst:Option Tmp) (x:Operand) (t:TypeId) (pos:String) (after:Array Edge) (gd:Option (Nat × Bool)) (w:World) :
  (execOp ρ ⟨dst,.buildSlice 33 1 #[(0,x)],t,pos,after,gd⟩).run Tryz.prog w=F7 (A4F Tryz.prog 33 97 1 [(0,ρ x)] w (B0L [(0,ρ x)])):=
 A1i ρ dst t pos after gd w C0k [(0,x)]
@[go_sem] theorem B73 (c:List Value) (h:c.length=64):B0L [(0,.agg c.toArray)]=some c:=by
 unfold B0L
 have h1:A1x [B7 A3o] = [64]:=by kernel_rfl
 have h3:O7 [B7 A3o]=(List.range 1).map fun i=>(i*64,64):=by kernel_rfl
 rw [← h3,G7 _ _ _ (by kernel_rfl)]
 ·show some (B7 [c])=some c
  simp [B7]
 ·rw [h1]
  refine C1 ?_ (L4 _)
  show some 64=some c.length;rw [h]
attribute [go_sem ↓] C1g
theorem B7W:A1x A3o = [32,32]:=by kernel_rfl
theorem A4Z (a b:Nat):I1 64 (O7 A3o) (B7 A3o) [(0,.agg (A3 32 a).toArray),(1,.agg (A3 32 b).toArray)]=some (A3 32 a++A3 32 b):=by
 rw [G7 _ _ _ A8e]
 ·show some (B7 [A3 32 a,A3 32 b])=some _
  simp [B7]
 ·rw [B7W]
  refine C1 ?_ (C1 ?_ (L4 _))
  ·show some 32=some (A3 32 a).length;rw [B0]
  ·show some 32=some (A3 32 b).length;rw [B0]
theorem _root_.Go.Mun.RHeld.slots {v:World} {own:Go.Mun.Own} {sb n a g k:Nat} {S:St} {M:List (Nat × St)} (h:RHeld v own sb S M n a g k) (hn:n≤999990) :
  ∃ sl sv,v.cell? ⟨g,k*55+54,none⟩=some sv∧v.ownsRow 0 97 64 sv sl.length (D9 sl)∧sl.length≤n∧(sl.map Prod.fst).Pairwise (· < ·)∧(∀ q∈sl,q.2≠0)∧(∀ q∈sl,q.1 < wW∧q.2 < wW)∧(∀ j,(S a).slots j=(E6 j sl).getD 0) ∧
   ∀ (w:World) (sv':Value) (sl':List (Nat × Nat)),Below v.heap.size v w→w.ownsRow 0 97 64 sv' sl'.length (D9 sl')→(∀ b,sv'.ownBlock=some b→v.heap.size≤b)→(∀ q∈sl',q.1 < wW∧q.2 < wW)→sl'.length≤n+1→(sl'.map Prod.fst).Pairwise (· < ·)→(∀ q∈sl',q.2≠0) →
    ∃ own',RState (w.setCells g (k*55+54) [sv']) own' sb (Z8 S a { S a with slots:=fun j=>(E6 j sl').getD 0 }) M (n+1)∧K1 v (w.setCells g (k*55+54) [sv']) own own':=by
 obtain ⟨c,mv,ps,ms,x,h1,⟨hk,ha⟩,h3,h4,h5,h6,h7⟩:=h
 have hmem:ps[k]∈ps:=List.getElem_mem hk
 have hok:=h1.arr.ok _ hmem
 have hwl:=h5.slots _ hmem
 obtain ⟨g',c',e,_,hr,_⟩:=h1.arr.row hk
 cases e
 have hS:rst (F6 ps) a=ps[k].1.acc:=by
  have:=A2t h1.up (i:=k) (x:=ps[k].1) (by rw [List.getElem?_map,List.getElem?_eq_getElem hk];rfl)
  rw [ha] at this;exact this
 refine ⟨ps[k].1.slots,ps[k].2.2,A4Y hr,hok.slots.read,hwl.1,hwl.2.1,hwl.2.2,hok.slots.val,fun j=>by rw [h3,hS];rfl,?_⟩
 intro w sv' sl' hb hv hnew hval hlen hpw hnz
 -- the new slots' label
 obtain ⟨own2,hst2,hsl2,hext,hhot⟩:∃ own2:Go.Mun.Own,RStC w own2 sb (.slice (some ⟨g,0,none⟩) ps.length c) mv ps ms x∧SlotsAt w own2 sv' sl'∧(∀ b,b < v.heap.size→own2 b=own b)∧(∀ b,hot own2 b→hot own b):=by
  have hw:=h1.only (S:=fun _=>False) (A2.of_below_size hb) (fun _ h=>h.elim)
  cases hbk:sv'.ownBlock with
  | none=>exact ⟨own,hw,⟨hv,fun g hg=>(by rw [hbk] at hg;cases hg),hval,by omega⟩,fun _ _=>rfl,fun _ h=>h⟩
  | some b0 =>
   have h8:=hnew b0 hbk
   have h9:=C8 hv b0 hbk
   have h10:own b0=none:=by
    cases e:own b0 with
    | none=>rfl
    | some y=>have:=h1.low b0 (by rw [e];simp);omega
   refine ⟨_,(hw.label (.smap 0) h10 h9).1,⟨hv,fun g hg=>?_,hval,by omega⟩,fun b hb2=>?_,fun b hx=>?_⟩
   ·rw [hbk] at hg;cases hg;exact if_pos rfl
   ·show (if b=b0 then some (Lab.smap 0) else own b)=own b
    rw [if_neg (by omega)]
   ·have hx2:=hx
    unfold hot at hx2 ⊢
    by_cases e:b=b0
    ·simp only [if_pos e] at hx2;exact absurd rfl hx2.2.2
    ·simp only [if_neg e] at hx2;exact hx2
 have hok2:=hst2.arr.ok _ hmem
 have hp':U4 w own2 (⟨ps[k].1.ac,sl'⟩,ps[k].2.1,sv'):=⟨hok2.code,hsl2,hok2.addr,hok2.bal,hok2.nonce⟩
 have e1:I5 ((⟨ps[k].1.ac,sl'⟩,ps[k].2.1,sv'):J3 × Value × Value)=splice (I5 ps[k]) 54 [sv']:=by
  unfold I5
  rw [X3 (i:=4) (s:=[ps[k].2.2]) rfl (by simp) (by simp [P4,A7,A5])]
  rfl
 obtain ⟨k1,k2⟩:=hst2.putAt hk (off:=54) (vs:=[sv']) (by simp) e1 rfl hp'
 have hlen2:(ps.set k (⟨ps[k].1.ac,sl'⟩,ps[k].2.1,sv')).length=ps.length:=List.length_set
 refine ⟨own2,⟨.slice (some ⟨g,0,none⟩) ps.length c,mv,ps.set k (⟨ps[k].1.ac,sl'⟩,ps[k].2.1,sv'),ms,x,k1,?_,h4,(h5.mono (Nat.le_succ n)).set ⟨hlen,hpw,hnz⟩,fun m hm=>(h6 m hm).mono (Nat.le_succ n),Nat.le_succ_of_le h7⟩,⟨fun b hbv=>(k2.ext b (Nat.lt_of_lt_of_le hbv hb.size)).trans (hext b hbv),?_⟩⟩
 ·have:=B1q h1.up hk (⟨ps[k].1.ac,sl'⟩,ps[k].2.1,sv') rfl
  rw [this,ha,h3,hS]
  rfl
 ·exact (A2.of_below_size (S:=hot own) hb).trans k2.only fun i hx _=>hhot i hx
end Go.Proofs.YtfflppedbopdpaaGreat
