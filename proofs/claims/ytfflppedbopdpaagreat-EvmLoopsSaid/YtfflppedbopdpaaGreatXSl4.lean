/- A part of the proof of EvmLoops: XSl4. -/
import Derived.Test.YtfflppedbopdpaaGreatXSl1
import Derived.Test.YtfflppedbopdpaaGreatXRf9
import Derived.Test.YtfflppedbopdpaaGreatXRlp2
import Derived.Test.YtfflppedbopdpaaGreatXRef5
import Derived.Test.YtfflppedbopdpaaGreatXEv16
import Derived.Test.YtfflppedbopdpaaGreatXCx0
import Derived.Test.YtfflppedbopdpaaGreatXSeq
import Derived.Test.YtfflppedbopdpaaGreatXWrd4
import Derived.Test.YtfflppedbopdpaaGreatXTy4
set_option linter.unusedVariables false
set_option maxRecDepth 1000000
set_option maxHeartbeats 8000000
set_option linter.unusedSimpArgs false
namespace Go.Proofs.YtfflppedbopdpaaGreat
open Go.RowKit Go.Mun

theorem A0g (l:List (Nat × Nat)) (k v pz tl:Nat) (hp:pz=M7 l k) (ht:tl=if (∃ (h:M7 l k < l.length),(l[M7 l k]'h).1=k) then M7 l k+1 else M7 l k) :
  D9 (U6 l k v)=D9 (l.take pz)++(if v=0 then [] else A3 32 k++A3 32 v)++D9 (l.drop tl):=by
 rw [A5j,A07,A07,hp,ht]
 congr 2
 split <;> simp [D9]
theorem A0C (l:List (Nat × Nat)) (k v pz tl:Nat) (hp:pz=M7 l k) (ht:tl=if (∃ (h:M7 l k < l.length),(l[M7 l k]'h).1=k) then M7 l k+1 else M7 l k) :
  (U6 l k v).length=pz+(if v=0 then 0 else 1)+(l.length - tl):=by
 have hle:=B1v l k
 rw [A5j,List.length_append,List.length_append,List.length_take,List.length_drop,← ht,← hp,Nat.min_eq_left (by omega)]
 congr 2
 split <;> simp
theorem A37 (l:List (Nat × Nat)) (k v:Nat) (hk:k < wW) (hv:v < wW) (h:∀ q∈l,q.1 < wW∧q.2 < wW):∀ q∈U6 l k v,q.1 < wW∧q.2 < wW:=by
 intro q hq
 rw [A5j] at hq
 rcases List.mem_append.1 hq with hq | hq
 ·rcases List.mem_append.1 hq with hq | hq
  ·exact h q (List.mem_of_mem_take hq)
  ·split at hq
   ·cases hq
   ·rw [List.mem_singleton.1 hq];exact ⟨hk,hv⟩
 ·exact h q (List.mem_of_mem_drop hq)
theorem A3i {S:St} {a k v:Nat} {sl:List (Nat × Nat)} (hpw:(sl.map Prod.fst).Pairwise (· < ·)) (hget:∀ j,(S a).slots j=(E6 j sl).getD 0):Z8 S a { S a with slots:=fun j=>(E6 j (U6 sl k v)).getD 0 }=S.setSlot a k v:=by
 have e:(fun j=>(E6 j (U6 sl k v)).getD 0)=A38 (S a).slots k v:=by
  funext j
  rw [A6M sl k v j hpw]
  unfold A38
  split
  ·rfl
  ·exact (hget j).symm
 rw [e]
 rfl
theorem B2K {w:World} {own:Go.Mun.Own} {sb a k v n:Nat} {S:St} {M:List (Nat × St)} (h:RState w own sb S M n) (ha:a < wA) (hk:k < wW) (hv:v < wW) (hn:n≤999000) :
  Calls Tryz.prog 63 #[.pointer (some ⟨sb,0,none⟩),.agg (A3 20 a).toArray,.agg (A3 32 k).toArray,.agg (A3 32 v).toArray] w (B48 w own sb (S.setSlot a k v) M (n+2)):=by
 obtain ⟨w0,e0⟩:∃ w0,w0=((w.alloc (.cells (A3 20 a).toArray 23)).alloc (.cells (A3 32 k).toArray 25)).alloc (.cells (A3 32 v).toArray 25):=⟨_,rfl⟩
 have hb0:Below w.heap.size w w0:=by rw [e0];exact (((Below.refl _ _).alloc (Nat.le_refl _) _).alloc (by simp) _).alloc (by simp;omega) _
 have q5:w0.row? w.heap.size 0 20=some (A3 20 a):=by rw [e0,World.row?_alloc_lt _ (by simp;omega),World.row?_alloc_lt _ (by simp)];exact World.row?_alloc_at _ _ _ rfl (by simp)
 have q6:w0.row? (w.heap.size+1) 0 32=some (A3 32 k):=by rw [e0,World.row?_alloc_lt _ (by simp)];exact World.row?_alloc_at _ _ _ (by simp) (by simp)
 have q7:w0.row? (w.heap.size+1+1) 0 32=some (A3 32 v):=by rw [e0];exact World.row?_alloc_at _ _ _ (by simp) (by simp)
 have HST:=hid (h.below hb0)
 have HE:=hid e0
 have HB0:=hid hb0
 have HA:=hid ha
 have HK:=hid hk
 have HV:=hid hv
 have HN:=hid hn
 have HO6:Hid (own (w.heap.size+1)=none):=U9 h (by omega)
 have HO7:Hid (own (w.heap.size+1+1)=none):=U9 h (by omega)
 have Q6:=hid q6
 have Q7:=hid q7
 have hla:=B0 20 a
 have hlk:=B0 32 k
 have hlv:=B0 32 v
 have z25:=A7d
 rw [e0] at q5
 clear e0 hb0 h hn q6 q7 ha hk hv
 go_enter Tryz.func63,Tryz.ntmps63
 go_wp2_with fail
 rw [← HE.out]
 refine (A5u HST.out HA.out (by have:=HN.out;omega)).mono ?_
 rintro e w1 ⟨own1,g,kk,rfl,hheld,hc1⟩
 have r6:w1.row? (w.heap.size+1) 0 32=some (A3 32 k):=(hc1.only.row? (World.row?_lt Q6.out) (W5 HO6.out)).trans Q6.out
 have r7:w1.row? (w.heap.size+1+1) 0 32=some (A3 32 v):=(hc1.only.row? (World.row?_lt Q7.out) (W5 HO7.out)).trans Q7.out
 have hfree:=hheld.free
 obtain ⟨sl,sv,c54,hown,hlen,hpw,hnz,hval,hget,hput⟩:=hheld.slots (by have:=HN.out;omega)
 obtain ⟨sa,sc,hsv⟩:=E1 hown
 subst hsv
 have HCAP:Hid (sl.length≤sc):=by
  show sl.length≤sc
  rcases hown.2 with ⟨h1,h2⟩ | ⟨g2,cap,cur,h1,_,_,h3,_⟩
  ·injection h1 with e1 e2 e3;omega
  ·injection h1 with e1 e2 e3;omega
 obtain ⟨m,hm⟩:∃ m,m=sl.length:=⟨_,rfl⟩
 rw [← hm] at c54
 obtain ⟨pz,hpz⟩:∃ pz,pz=M7 sl k:=⟨_,rfl⟩
 have hpm:pz≤m:=by rw [hpz,hm];exact B1v sl k
 have hm9:m≤1000000:=by have:=HN.out;omega
 have HROW:Hid (∀ q (hq:q < sl.length),∃ g0,sa=some ⟨g0,0,none⟩∧w1.row? g0 (q*64) 32=some (A3 32 sl[q].1)):=by
  intro q hq
  obtain ⟨g0,c',e,_,_,_,hr,_⟩:=I3 hown (by omega)
  cases e
  exact ⟨g0,rfl,(A6J (n:=0) hr hq).1⟩
 have HOWN:=hid hown
 have HPW:=hid hpw
 have HNZ:=hid hnz
 have HVAL:=hid hval
 have HGET:=hid hget
 have HPUT:=hid hput
 have HM:=hid hm
 have HPZ:=hid hpz
 have HPM:=hid hpm
 have HM9:=hid hm9
 have HLEN:=hid hlen
 have HC1:=hid ((K1.below own HB0.out).trans hc1)
 obtain ⟨T,hT⟩:∃ T:World→Prop,T=fun W=>Below w1.heap.size w1 W:=⟨_,rfl⟩
 have HT:=hid hT
 have HTG:Hid (∀ W,T W→Below w1.heap.size w1 W):=by show ∀ W,T W→_;rw [hT];intro W h;exact h
 have HTM:Hid (∀ W,Below w1.heap.size w1 W→T W):=by show ∀ W,_→T W;rw [hT];intro W h;exact h
 have HTN:Hid (∀ W W',T W→Below W.heap.size W W'→T W'):=by show ∀ W W',T W→Below W.heap.size W W'→T W';rw [hT];intro W W' h hb;exact h.trans (hb.mono h.size)
 have HC0:Hid (∀ W,T W→W.cell? ⟨g,kk*55+54,none⟩=some (.slice sa m sc)∧W.row? (w.heap.size+1) 0 32=some (A3 32 k)∧W.row? (w.heap.size+1+1) 0 32=some (A3 32 v)∧W.free? g (kk*55+54) 1=true):=fun W hW=>⟨((HTG.out W hW).cell (World.block_lt_of_cell? w1 _ c54)).trans c54,((D2 (HTG.out W hW)).1 _ _ _ (World.row?_lt r6)).trans r6,((D2 (HTG.out W hW)).1 _ _ _ (World.row?_lt r7)).trans r7,World.free?_sub (((D2 (HTG.out W hW)).2 _ _ _ (C4 hfree)).trans hfree) (by omega)⟩
 have tt:T w1:=HTM.out _ (Below.refl _ _)
 clear hheld hc1 r6 r7 hfree c54 hown hpw hnz hval hget hput hm hpz hlen hT q5
 go_wp2_with fail
 go_loopw [9] (fun i wr => ∃ q:Nat,q≤pz∧i = .int .i64 q∧T wr) (fun i _=>pz - (intOf i).toNat)
 case atStart=>exact ⟨0,Nat.zero_le _,rfl,tt⟩
 case round =>
  obtain ⟨q,hq,rfl,ht⟩:=hrel
  have t0:T wr.drew:=HTN.out _ _ ht (Below.refl _ _).drew
  clear ht
  by_cases hlt:q < pz
  ·have hqs:q < sl.length:=by rw [← HM.out];omega
   obtain ⟨g0,hsa,hk1⟩:=HROW.out q hqs
   obtain ⟨x,hx⟩:∃ x,x=sl[q].1:=⟨_,rfl⟩
   rw [← hx] at hk1
   have hxW:x < wW:=by rw [hx];exact (HVAL.out _ (List.getElem_mem hqs)).1
   subst hsa
   have HR:Hid (∀ W,T W→W.row? g0 (q*64) 32=some (A3 32 x)):=fun W hW=>((D2 (HTG.out W hW)).1 _ _ _ (World.row?_lt hk1)).trans hk1
   have hqI:(q:Int) < (m:Int):=by omega
   have dql:decide ((q:Int) < (m:Int))=true:=decide_eq_true hqI
   have dqn:(q < m)=True:=eq_true (by omega)
   have hlx:=B0 32 x
   have hlq:x < k:=by rw [hx];exact B5S sl k q hqs (by rw [← HPZ.out];exact hlt)
   have hdl:decide (x < k)=true:=decide_eq_true hlq
   have hk1':IntKind.i64.wrap ((q:Int)+1)=((q+1:Nat):Int):=by have:=HM9.out;rw [V3 _ (by omega) (by omega)];omega
   have HX:=hid hx
   have HLT:=hid hlt
   have HLQ:=hid hlq
   clear hx hqI hlq hlt hk1
   go_wp2_with fail
   refine A6 T [] (.pure 0 (.pure 1 (.pure 2 (.pure 3 (.take 4 (.pure 5 (.pure 6 (.pure 7 (.pure 8 (.pure 9 (.pure 10 (.take 11 (.pure 12 (.pure 13 (.pure 14 (.take 15 (.take 16 (.alt 17 (.pure 18 .fin) .stop)))))))))))))))))) (by kernel_rfl) (by kernel_rfl) ?_
   iterate 17
    first
    |refine A0 ?_ rfl (by rfl) (fun w' hs=>?_) (fun _ _ _ h=>h) ?_
     rotate_left
     ·clear hs
      go_simp
      try rfl
     simp only [Act.put,D6,D5,D4]
    |refine A9 ?_ t0 rfl (by rfl) (fun w' hs=>?_) (fun _ _ _ h=>h) ?_
     rotate_left
     ·rw [HT.out] at hs
      obtain ⟨u1,u2,u3,u4⟩:=HC0.out w' (by rw [HT.out];exact hs);have u5:=HR.out w' (by rw [HT.out];exact hs)
      go_simp
      try rfl
     simp only [Act.put,D6,D5,D4]
   refine A8 rfl (fun K hK=>?_)
   go_simp
   refine (A8W x k hxW HK.out _).mono ?_
   rintro e w2 ⟨rfl,hb2⟩
   rw [hdl]
   have t1:T w2:=HTN.out _ _ t0 hb2
   clear hb2
   refine hK.out _ _ t1 ?_
   clear hK K
   refine A0 ?_ rfl (by rfl) (fun w' hs=>?_) (fun _ _ _ h=>h) ?_
   rotate_left
   ·clear hs
    go_simp
    try rfl
   simp only [Act.put,D6,D5,D4]
   refine C3 ?_
   go_wp2_with fail
   go_roundw
   case rel=>exact ⟨q+1,by have:=HLT.out;omega,by go_num,t1⟩
   case measure=>have:=HLT.out;simp [intOf];omega
  ·obtain rfl:q=pz:=by omega
   clear hlt hq
   by_cases hqm:q < m
   ·have hqs:q < sl.length:=by rw [← HM.out];omega
    obtain ⟨g0,hsa,hk1⟩:=HROW.out q hqs
    obtain ⟨x,hx⟩:∃ x,x=sl[q].1:=⟨_,rfl⟩
    rw [← hx] at hk1
    have hxW:x < wW:=by rw [hx];exact (HVAL.out _ (List.getElem_mem hqs)).1
    subst hsa
    have HR:Hid (∀ W,T W→W.row? g0 (q*64) 32=some (A3 32 x)):=fun W hW=>((D2 (HTG.out W hW)).1 _ _ _ (World.row?_lt hk1)).trans hk1
    have hqI:(q:Int) < (m:Int):=by omega
    have dql:decide ((q:Int) < (m:Int))=true:=decide_eq_true hqI
    have dqn:(q < m)=True:=eq_true (by omega)
    have hlx:=B0 32 x
    have hge:k≤x:=by rw [hx];have:=B5T sl k (by rw [← HPZ.out];exact hqs);simpa only [← HPZ.out] using this
    have hdl:decide (x < k)=false:=decide_eq_false (by omega)
    have HX:=hid hx
    have HQM:=hid hqm
    have HGE:=hid hge
    have HQS:=hid hqs
    clear hqI hge hqm hk1 hx
    go_wp2_with fail
    refine A6 T [] (.pure 0 (.pure 1 (.pure 2 (.pure 3 (.take 4 (.pure 5 (.pure 6 (.pure 7 (.pure 8 (.pure 9 (.pure 10 (.take 11 (.pure 12 (.pure 13 (.pure 14 (.take 15 (.take 16 (.alt 17 (.pure 18 .fin) .stop)))))))))))))))))) (by kernel_rfl) (by kernel_rfl) ?_
    iterate 17
     first
     |refine A0 ?_ rfl (by rfl) (fun w' hs=>?_) (fun _ _ _ h=>h) ?_
      rotate_left
      ·clear hs
       go_simp
       try rfl
      simp only [Act.put,D6,D5,D4]
     |refine A9 ?_ t0 rfl (by rfl) (fun w' hs=>?_) (fun _ _ _ h=>h) ?_
      rotate_left
      ·rw [HT.out] at hs
       obtain ⟨u1,u2,u3,u4⟩:=HC0.out w' (by rw [HT.out];exact hs);have u5:=HR.out w' (by rw [HT.out];exact hs)
       go_simp
       try rfl
      simp only [Act.put,D6,D5,D4]
    refine A8 rfl (fun K hK=>?_)
    go_simp
    refine (A8W x k hxW HK.out _).mono ?_
    rintro e w2 ⟨rfl,hb2⟩
    rw [hdl]
    have t1:T w2:=HTN.out _ _ t0 hb2
    clear hb2
    refine hK.out _ _ t1 ?_
    clear hK K
    refine A0 ?_ rfl (by rfl) (fun w' hs=>?_) (fun _ _ _ h=>h) ?_
    rotate_left
    ·clear hs
     go_simp
     try rfl
    simp only [Act.put,D6,D5,D4]
    refine C3 ?_
    go_wp2_with fail
    have t2:T w2.drew:=HTN.out _ _ t1 (Below.refl _ _).drew
    clear t0 t1
    have HQE:=hid (fun w=>B64 (a:=x) (b:=k) hxW HK.out w)
    by_cases hke:x=k
    ·have hdk:decide (x=k)=true:=decide_eq_true hke
     rw [hdk] at HQE
     have HKE:=hid hke
     have hw1:IntKind.i64.wrap ((q:Int)+1)=((q+1:Nat):Int):=by have:=HM9.out;have:=HPM.out;rw [V3 _ (by omega) (by omega)];omega
     clear hke hdk
     refine A6 T [] (.pure 0 (.pure 1 (.pure 2 (.pure 3 (.take 4 (.pure 5 (.pure 6 (.pure 7 (.pure 8 (.pure 9 (.pure 10 (.take 11 (.pure 12 (.pure 13 (.pure 14 (.take 15 (.take 16 (.pure 17 (.pure 18 .fin))))))))))))))))))) (by kernel_rfl) (by kernel_rfl) ?_
     iterate 17
      first
      |refine A0 ?_ rfl (by rfl) (fun w' hs=>?_) (fun _ _ _ h=>h) ?_
       rotate_left
       ·clear hs
        go_simp
        try rfl
       simp only [Act.put,D6,D5,D4]
      |refine A9 ?_ t2 rfl (by rfl) (fun w' hs=>?_) (fun _ _ _ h=>h) ?_
       rotate_left
       ·rw [HT.out] at hs
        obtain ⟨u1,u2,u3,u4⟩:=HC0.out w' (by rw [HT.out];exact hs);have u5:=HR.out w' (by rw [HT.out];exact hs)
        go_simp
        try rfl
       simp only [Act.put,D6,D5,D4]
     refine A0 (.bool true) rfl (by rfl) (fun w' hs=>?_) (fun _ _ _ h=>h) ?_
     ·clear hs
      exact A3V _ _ _ _ _ _ _ _ _ _ _ B1R rfl rfl (HQE.out _)
     simp only [Act.put,D6,D5,D4]
     refine A0 ?_ rfl (by rfl) (fun w' hs=>?_) (fun _ _ _ h=>h) ?_
     rotate_left
     ·clear hs
      go_simp
      try rfl
     simp only [Act.put,D6,D5,D4]
     refine C3 ?_
     skip
     by_cases hvz:v=0
     focus
      have HVZ:=hid hvz
      clear hvz
      generalize w2.drew=W6 at *
      have hsh:=Y7 (some ⟨g0,0,none⟩) m sc q (by have:=HCAP.out;have:=HM.out;have:=HPM.out;omega)
      have HSH:Hid (F0 W6 (some ⟨g0,0,none⟩) sc q 64 (D9 (sl.take q))):=A0B (C2 HOWN.out (HTG.out _ t2)) q (by have:=HM.out;have:=HPM.out;omega)
      obtain ⟨u1,u2,u3,u4⟩:=HC0.out W6 t2
      have HT6:=hid t2
      clear u2 u3 u4 t2
      go_wp2_with (at_builtin;go_must (refine G6 A0W rfl _ _ rfl (World.ownsRow_nil _ _ _ _) rfl HSH.out rfl (by have:=HM9.out;have:=HPM.out;unfold maxLen;omega) (by have:=HM9.out;have:=HPM.out;omega) ?_))
      intro v6 w6 hv6 ho6 hn6
      have hb6:Below W6.heap.size W6 w6:=ho6.below (Nat.le_refl _) (fun i hi=>by simp [Value.ownBlock] at hi)
      have hv6':w6.ownsRow 0 97 64 v6 q (D9 (sl.take q)):=by simpa using hv6
      obtain ⟨a6,c6,rfl⟩:=E1 hv6'
      have t6:T w6:=HTN.out _ _ HT6.out hb6
      have HV6:=hid hv6'
      have HN6:Hid (∀ b,(Value.slice a6 q c6).ownBlock=some b→w1.heap.size≤b):=fun b hb=>Nat.le_trans (HTG.out _ HT6.out).size ((hn6 b hb).resolve_left (by simp [Value.ownBlock]))
      clear hv6 ho6 hn6 hb6 hv6' u1 hsh
      obtain ⟨u1,u2,u3,u4⟩:=HC0.out w6 t6
      have heq:=eqW HV.out (show (0:Nat) < wW by decide) w6
      have hdv:decide (v=0)=true:=decide_eq_true HVZ.out
      rw [hdv] at heq
      have hst:=Y6 (some ⟨g0,0,none⟩) m sc (q+1) (by have:=HPM.out;have:=HQM.out;omega)
      rw [show ((q+1:Nat):Int)=(q:Int)+1 from rfl] at hst
      have HTL:Hid (F0 w6 (A03 (some ⟨g0,0,none⟩) sc (q+1)) (sc - (q+1)) (m - (q+1)) 64 (D9 (sl.drop (q+1)))):=by
       have:=A0A (C2 HOWN.out (HTG.out _ t6)) (q+1) (by have:=HM.out;have:=HPM.out;have:=HQM.out;omega)
       rw [← HM.out] at this;exact this
      generalize A03 (some ⟨g0,0,none⟩) sc (q+1)=ta at *
      obtain ⟨tn,htn⟩:∃ tn,tn=m - (q+1):=⟨_,rfl⟩
      obtain ⟨tc,htc⟩:∃ tc,tc=sc - (q+1):=⟨_,rfl⟩
      rw [← htn,← htc] at hst HTL
      have htn9:tn≤1000000:=by have:=HM9.out;omega
      have HTNN:=hid htn
      have HTN9:=hid htn9
      clear htn htc htn9
      go_wp2_with (at_builtin;go_must (refine G6 A0W rfl _ _ rfl HV6.out rfl HTL.out rfl (by have:=HM9.out;have:=HPM.out;have:=HTN9.out;unfold maxLen;omega) (by have:=HM9.out;have:=HPM.out;have:=HTN9.out;omega) ?_))
      intro v9 w9 hv9 ho9 hn9
      have hb9:Below w1.heap.size w1 w9:=(HTG.out _ t6).trans (ho9.below (HTG.out _ t6).size (fun i hi=>HN6.out i hi))
      have t9:T w9:=HTM.out _ hb9
      have hone:v9.oneCell'=true:=by obtain ⟨_,_,rfl⟩:=E1 hv9;rfl
      have hf9:=(HC0.out w9 t9).2.2.2
      have HV9:=hid hv9
      have HN9:Hid (∀ b,v9.ownBlock=some b→w1.heap.size≤b):=fun b hb=>by
       rcases hn9 b hb with h | h
       ·exact HN6.out b h
       ·exact Nat.le_trans (HTG.out _ t6).size h
      have HB9:=hid hb9
      clear hv9 ho9 hn9 hb9 t9 t6 u1 hst
      go_wp2
      go_end0
      have htl:(q+1)=if (∃ (h:M7 sl k < sl.length),(sl[M7 sl k]'h).1=k) then M7 sl k+1 else M7 sl k:=by
       rw [if_pos ⟨by rw [← HPZ.out];exact HQS.out,by have:=HKE.out;rw [HX.out] at this;simpa only [← HPZ.out] using this⟩,← HPZ.out]
      have e1:=A0g sl k v q (q+1) HPZ.out htl
      have e2:=A0C sl k v q (q+1) HPZ.out htl
      have e3:=A1f sl k v
      rw [if_pos HVZ.out,List.append_nil] at e1
      rw [if_pos HVZ.out,Nat.add_zero] at e2
     rotate_left
     focus
      have HVZ:=hid hvz
      clear hvz
      generalize w2.drew=W6 at *
      have hsh:=Y7 (some ⟨g0,0,none⟩) m sc q (by have:=HCAP.out;have:=HM.out;have:=HPM.out;omega)
      have HSH:Hid (F0 W6 (some ⟨g0,0,none⟩) sc q 64 (D9 (sl.take q))):=A0B (C2 HOWN.out (HTG.out _ t2)) q (by have:=HM.out;have:=HPM.out;omega)
      obtain ⟨u1,u2,u3,u4⟩:=HC0.out W6 t2
      have HT6:=hid t2
      clear u2 u3 u4 t2
      go_wp2_with (at_builtin;go_must (refine G6 A0W rfl _ _ rfl (World.ownsRow_nil _ _ _ _) rfl HSH.out rfl (by have:=HM9.out;have:=HPM.out;unfold maxLen;omega) (by have:=HM9.out;have:=HPM.out;omega) ?_))
      intro v6 w6 hv6 ho6 hn6
      have hb6:Below W6.heap.size W6 w6:=ho6.below (Nat.le_refl _) (fun i hi=>by simp [Value.ownBlock] at hi)
      have hv6':w6.ownsRow 0 97 64 v6 q (D9 (sl.take q)):=by simpa using hv6
      obtain ⟨a6,c6,rfl⟩:=E1 hv6'
      have t6:T w6:=HTN.out _ _ HT6.out hb6
      have HV6:=hid hv6'
      have HN6:Hid (∀ b,(Value.slice a6 q c6).ownBlock=some b→w1.heap.size≤b):=fun b hb=>Nat.le_trans (HTG.out _ HT6.out).size ((hn6 b hb).resolve_left (by simp [Value.ownBlock]))
      clear hv6 ho6 hn6 hb6 hv6' u1 hsh
      obtain ⟨u1,u2,u3,u4⟩:=HC0.out w6 t6
      have heq:=eqW HV.out (show (0:Nat) < wW by decide) w6
      have hdv:decide (v=0)=false:=decide_eq_false HVZ.out
      rw [hdv] at heq
      have hbl:=A4Z k v
      have hl64:(A3 32 k++A3 32 v).length=64:=by simp
      have hok64:P0 (1*64) (A3 32 k++A3 32 v)=true:=by have:=A0T [(k,v)];simpa [D9] using this
      obtain ⟨CC,hCC⟩:∃ CC,CC=A3 32 k++A3 32 v:=⟨_,rfl⟩
      rw [← hCC] at hbl hl64 hok64
      have HCC:=hid hCC
      have hb7:Below w6.heap.size w6 (w6.alloc (.cells CC.toArray 97)):=(Below.refl _ _).alloc (Nat.le_refl _) _
      have HV6A:Hid ((w6.alloc (.cells CC.toArray 97)).ownsRow 0 97 64 (.slice a6 q c6) q (D9 (sl.take q))):=C2 HV6.out hb7
      have HSN:Hid (F0 (w6.alloc (.cells CC.toArray 97)) (some ⟨w6.heap.size,0,none⟩) 1 1 64 CC):=F0.new w6 97 (0,0) hok64 1
      have T6A:=hid (HTN.out _ _ t6 hb7)
      clear hCC hb7 hok64
      go_wp2_with (at_builtin;go_must (refine G6 A0W rfl _ _ rfl HV6A.out rfl HSN.out rfl (by have:=HM9.out;have:=HPM.out;unfold maxLen;omega) (by have:=HM9.out;have:=HPM.out;omega) ?_))
      intro v7 w7 hv7 ho7 hn7
      have hb7:Below w1.heap.size w1 w7:=(HTG.out _ T6A.out).trans (ho7.below (HTG.out _ T6A.out).size (fun i hi=>HN6.out i hi))
      obtain ⟨a7,c7,rfl⟩:=E1 hv7
      have t7:T w7:=HTM.out _ hb7
      have HV7:=hid hv7
      have HN7:Hid (∀ b,(Value.slice a7 (q+1) c7).ownBlock=some b→w1.heap.size≤b):=fun b hb=>by
       rcases hn7 b hb with h | h
       ·exact HN6.out b h
       ·exact Nat.le_trans (HTG.out _ T6A.out).size (by first | exact h | simpa using h)
      clear hv7 ho7 hn7 hb7 u1 u2 u3 u4 heq hbl hl64
      obtain ⟨u1,u2,u3,u4⟩:=HC0.out w7 t7
      have hst:=Y6 (some ⟨g0,0,none⟩) m sc (q+1) (by have:=HPM.out;have:=HQM.out;omega)
      rw [show ((q+1:Nat):Int)=(q:Int)+1 from rfl] at hst
      have HTL:Hid (F0 w7 (A03 (some ⟨g0,0,none⟩) sc (q+1)) (sc - (q+1)) (m - (q+1)) 64 (D9 (sl.drop (q+1)))):=by
       have:=A0A (C2 HOWN.out (HTG.out _ t7)) (q+1) (by have:=HM.out;have:=HPM.out;have:=HQM.out;omega)
       rw [← HM.out] at this;exact this
      generalize A03 (some ⟨g0,0,none⟩) sc (q+1)=ta at *
      obtain ⟨tn,htn⟩:∃ tn,tn=m - (q+1):=⟨_,rfl⟩
      obtain ⟨tc,htc⟩:∃ tc,tc=sc - (q+1):=⟨_,rfl⟩
      rw [← htn,← htc] at hst HTL
      have htn9:tn≤1000000:=by have:=HM9.out;omega
      have HTNN:=hid htn
      have HTN9:=hid htn9
      clear htn htc u2 u3 u4 htn9
      go_wp2_with (at_builtin;go_must (refine G6 A0W rfl _ _ rfl HV7.out rfl HTL.out rfl (by have:=HM9.out;have:=HPM.out;have:=HTN9.out;unfold maxLen;omega) (by have:=HM9.out;have:=HPM.out;have:=HTN9.out;omega) ?_))
      intro v9 w9 hv9 ho9 hn9
      have hb9:Below w1.heap.size w1 w9:=(HTG.out _ t7).trans (ho9.below (HTG.out _ t7).size (fun i hi=>HN7.out i hi))
      have t9:T w9:=HTM.out _ hb9
      have hone:v9.oneCell'=true:=by obtain ⟨_,_,rfl⟩:=E1 hv9;rfl
      have hf9:=(HC0.out w9 t9).2.2.2
      have HV9:=hid hv9
      have HN9:Hid (∀ b,v9.ownBlock=some b→w1.heap.size≤b):=fun b hb=>by
       rcases hn9 b hb with h | h
       ·exact HN7.out b h
       ·exact Nat.le_trans (HTG.out _ t7).size h
      have HB9:=hid hb9
      clear hv9 ho9 hn9 hb9 t9 t7 u1 hst
      go_wp2
      go_end0
      have htl:(q+1)=if (∃ (h:M7 sl k < sl.length),(sl[M7 sl k]'h).1=k) then M7 sl k+1 else M7 sl k:=by
       rw [if_pos ⟨by rw [← HPZ.out];exact HQS.out,by have:=HKE.out;rw [HX.out] at this;simpa only [← HPZ.out] using this⟩,← HPZ.out]
      have e1:=A0g sl k v q (q+1) HPZ.out htl
      have e2:=A0C sl k v q (q+1) HPZ.out htl
      have e3:=A1f sl k v
      rw [if_neg HVZ.out,← HCC.out] at e1
      rw [if_neg HVZ.out] at e2
     all_goals
      rw [← HM.out,← HTNN.out] at e2
      have hv9:=HV9.out
      try simp only [List.append_assoc] at hv9
      try simp only [List.append_assoc] at e1
      rw [← e1,← e2] at hv9
      obtain ⟨own2,s2,g2⟩:=HPUT.out w9 v9 (U6 sl k v) HB9.out hv9 HN9.out (A37 sl k v HK.out HV.out HVAL.out) (by have:=HLEN.out;omega) (A3z sl k v HPW.out).1 (A5i sl k v HNZ.out)
      rw [A3i HPW.out HGET.out] at s2
      exact ⟨rfl,own2,s2,HC1.out.trans g2⟩
    ·have hdk:decide (x=k)=false:=decide_eq_false hke
     rw [hdk] at HQE
     have HKE:=hid hke
     clear hke hdk
     refine A6 T [] (.pure 0 (.pure 1 (.pure 2 (.pure 3 (.take 4 (.pure 5 (.pure 6 (.pure 7 (.pure 8 (.pure 9 (.pure 10 (.take 11 (.pure 12 (.pure 13 (.pure 14 (.take 15 (.take 16 (.pure 17 (.pure 18 .fin))))))))))))))))))) (by kernel_rfl) (by kernel_rfl) ?_
     iterate 17
      first
      |refine A0 ?_ rfl (by rfl) (fun w' hs=>?_) (fun _ _ _ h=>h) ?_
       rotate_left
       ·clear hs
        go_simp
        try rfl
       simp only [Act.put,D6,D5,D4]
      |refine A9 ?_ t2 rfl (by rfl) (fun w' hs=>?_) (fun _ _ _ h=>h) ?_
       rotate_left
       ·rw [HT.out] at hs
        obtain ⟨u1,u2,u3,u4⟩:=HC0.out w' (by rw [HT.out];exact hs);have u5:=HR.out w' (by rw [HT.out];exact hs)
        go_simp
        try rfl
       simp only [Act.put,D6,D5,D4]
     refine A0 (.bool false) rfl (by rfl) (fun w' hs=>?_) (fun _ _ _ h=>h) ?_
     ·clear hs
      exact A3V _ _ _ _ _ _ _ _ _ _ _ B1R rfl rfl (HQE.out _)
     simp only [Act.put,D6,D5,D4]
     refine A0 ?_ rfl (by rfl) (fun w' hs=>?_) (fun _ _ _ h=>h) ?_
     rotate_left
     ·clear hs
      go_simp
      try rfl
     simp only [Act.put,D6,D5,D4]
     refine C3 ?_
     by_cases hvz:v=0
     focus
      have HVZ:=hid hvz
      clear hvz
      generalize w2.drew=W6 at *
      have hsh:=Y7 (some ⟨g0,0,none⟩) m sc q (by have:=HCAP.out;have:=HM.out;have:=HPM.out;omega)
      have HSH:Hid (F0 W6 (some ⟨g0,0,none⟩) sc q 64 (D9 (sl.take q))):=A0B (C2 HOWN.out (HTG.out _ t2)) q (by have:=HM.out;have:=HPM.out;omega)
      obtain ⟨u1,u2,u3,u4⟩:=HC0.out W6 t2
      have HT6:=hid t2
      clear u2 u3 u4 t2
      go_wp2_with (at_builtin;go_must (refine G6 A0W rfl _ _ rfl (World.ownsRow_nil _ _ _ _) rfl HSH.out rfl (by have:=HM9.out;have:=HPM.out;unfold maxLen;omega) (by have:=HM9.out;have:=HPM.out;omega) ?_))
      intro v6 w6 hv6 ho6 hn6
      have hb6:Below W6.heap.size W6 w6:=ho6.below (Nat.le_refl _) (fun i hi=>by simp [Value.ownBlock] at hi)
      have hv6':w6.ownsRow 0 97 64 v6 q (D9 (sl.take q)):=by simpa using hv6
      obtain ⟨a6,c6,rfl⟩:=E1 hv6'
      have t6:T w6:=HTN.out _ _ HT6.out hb6
      have HV6:=hid hv6'
      have HN6:Hid (∀ b,(Value.slice a6 q c6).ownBlock=some b→w1.heap.size≤b):=fun b hb=>Nat.le_trans (HTG.out _ HT6.out).size ((hn6 b hb).resolve_left (by simp [Value.ownBlock]))
      clear hv6 ho6 hn6 hb6 hv6' u1 hsh
      obtain ⟨u1,u2,u3,u4⟩:=HC0.out w6 t6
      have heq:=eqW HV.out (show (0:Nat) < wW by decide) w6
      have hdv:decide (v=0)=true:=decide_eq_true HVZ.out
      rw [hdv] at heq
      have hst:=Y6 (some ⟨g0,0,none⟩) m sc q (by have:=HPM.out;have:=HQM.out;omega)
      have HTL:Hid (F0 w6 (A03 (some ⟨g0,0,none⟩) sc q) (sc - q) (m - q) 64 (D9 (sl.drop q))):=by
       have:=A0A (C2 HOWN.out (HTG.out _ t6)) q (by have:=HM.out;have:=HPM.out;have:=HQM.out;omega)
       rw [← HM.out] at this;exact this
      generalize A03 (some ⟨g0,0,none⟩) sc q=ta at *
      obtain ⟨tn,htn⟩:∃ tn,tn=m - q:=⟨_,rfl⟩
      obtain ⟨tc,htc⟩:∃ tc,tc=sc - q:=⟨_,rfl⟩
      rw [← htn,← htc] at hst HTL
      have htn9:tn≤1000000:=by have:=HM9.out;omega
      have HTNN:=hid htn
      have HTN9:=hid htn9
      clear htn htc htn9
      go_wp2_with (at_builtin;go_must (refine G6 A0W rfl _ _ rfl HV6.out rfl HTL.out rfl (by have:=HM9.out;have:=HPM.out;have:=HTN9.out;unfold maxLen;omega) (by have:=HM9.out;have:=HPM.out;have:=HTN9.out;omega) ?_))
      intro v9 w9 hv9 ho9 hn9
      have hb9:Below w1.heap.size w1 w9:=(HTG.out _ t6).trans (ho9.below (HTG.out _ t6).size (fun i hi=>HN6.out i hi))
      have t9:T w9:=HTM.out _ hb9
      have hone:v9.oneCell'=true:=by obtain ⟨_,_,rfl⟩:=E1 hv9;rfl
      have hf9:=(HC0.out w9 t9).2.2.2
      have HV9:=hid hv9
      have HN9:Hid (∀ b,v9.ownBlock=some b→w1.heap.size≤b):=fun b hb=>by
       rcases hn9 b hb with h | h
       ·exact HN6.out b h
       ·exact Nat.le_trans (HTG.out _ t6).size h
      have HB9:=hid hb9
      clear hv9 ho9 hn9 hb9 t9 t6 u1 hst
      go_wp2
      go_end0
      have htl:q=if (∃ (h:M7 sl k < sl.length),(sl[M7 sl k]'h).1=k) then M7 sl k+1 else M7 sl k:=by
       rw [if_neg (fun hh=>HKE.out (by obtain ⟨h1,h2⟩:=hh;rw [HX.out];simpa only [← HPZ.out] using h2)),← HPZ.out]
      have e1:=A0g sl k v q q HPZ.out htl
      have e2:=A0C sl k v q q HPZ.out htl
      have e3:=A1f sl k v
      rw [if_pos HVZ.out,List.append_nil] at e1
      rw [if_pos HVZ.out,Nat.add_zero] at e2
     rotate_left
     focus
      have HVZ:=hid hvz
      clear hvz
      generalize w2.drew=W6 at *
      have hsh:=Y7 (some ⟨g0,0,none⟩) m sc q (by have:=HCAP.out;have:=HM.out;have:=HPM.out;omega)
      have HSH:Hid (F0 W6 (some ⟨g0,0,none⟩) sc q 64 (D9 (sl.take q))):=A0B (C2 HOWN.out (HTG.out _ t2)) q (by have:=HM.out;have:=HPM.out;omega)
      obtain ⟨u1,u2,u3,u4⟩:=HC0.out W6 t2
      have HT6:=hid t2
      clear u2 u3 u4 t2
      go_wp2_with (at_builtin;go_must (refine G6 A0W rfl _ _ rfl (World.ownsRow_nil _ _ _ _) rfl HSH.out rfl (by have:=HM9.out;have:=HPM.out;unfold maxLen;omega) (by have:=HM9.out;have:=HPM.out;omega) ?_))
      intro v6 w6 hv6 ho6 hn6
      have hb6:Below W6.heap.size W6 w6:=ho6.below (Nat.le_refl _) (fun i hi=>by simp [Value.ownBlock] at hi)
      have hv6':w6.ownsRow 0 97 64 v6 q (D9 (sl.take q)):=by simpa using hv6
      obtain ⟨a6,c6,rfl⟩:=E1 hv6'
      have t6:T w6:=HTN.out _ _ HT6.out hb6
      have HV6:=hid hv6'
      have HN6:Hid (∀ b,(Value.slice a6 q c6).ownBlock=some b→w1.heap.size≤b):=fun b hb=>Nat.le_trans (HTG.out _ HT6.out).size ((hn6 b hb).resolve_left (by simp [Value.ownBlock]))
      clear hv6 ho6 hn6 hb6 hv6' u1 hsh
      obtain ⟨u1,u2,u3,u4⟩:=HC0.out w6 t6
      have heq:=eqW HV.out (show (0:Nat) < wW by decide) w6
      have hdv:decide (v=0)=false:=decide_eq_false HVZ.out
      rw [hdv] at heq
      have hbl:=A4Z k v
      have hl64:(A3 32 k++A3 32 v).length=64:=by simp
      have hok64:P0 (1*64) (A3 32 k++A3 32 v)=true:=by have:=A0T [(k,v)];simpa [D9] using this
      obtain ⟨CC,hCC⟩:∃ CC,CC=A3 32 k++A3 32 v:=⟨_,rfl⟩
      rw [← hCC] at hbl hl64 hok64
      have HCC:=hid hCC
      have hb7:Below w6.heap.size w6 (w6.alloc (.cells CC.toArray 97)):=(Below.refl _ _).alloc (Nat.le_refl _) _
      have HV6A:Hid ((w6.alloc (.cells CC.toArray 97)).ownsRow 0 97 64 (.slice a6 q c6) q (D9 (sl.take q))):=C2 HV6.out hb7
      have HSN:Hid (F0 (w6.alloc (.cells CC.toArray 97)) (some ⟨w6.heap.size,0,none⟩) 1 1 64 CC):=F0.new w6 97 (0,0) hok64 1
      have T6A:=hid (HTN.out _ _ t6 hb7)
      clear hCC hb7 hok64
      go_wp2_with (at_builtin;go_must (refine G6 A0W rfl _ _ rfl HV6A.out rfl HSN.out rfl (by have:=HM9.out;have:=HPM.out;unfold maxLen;omega) (by have:=HM9.out;have:=HPM.out;omega) ?_))
      intro v7 w7 hv7 ho7 hn7
      have hb7:Below w1.heap.size w1 w7:=(HTG.out _ T6A.out).trans (ho7.below (HTG.out _ T6A.out).size (fun i hi=>HN6.out i hi))
      obtain ⟨a7,c7,rfl⟩:=E1 hv7
      have t7:T w7:=HTM.out _ hb7
      have HV7:=hid hv7
      have HN7:Hid (∀ b,(Value.slice a7 (q+1) c7).ownBlock=some b→w1.heap.size≤b):=fun b hb=>by
       rcases hn7 b hb with h | h
       ·exact HN6.out b h
       ·exact Nat.le_trans (HTG.out _ T6A.out).size (by first | exact h | simpa using h)
      clear hv7 ho7 hn7 hb7 u1 u2 u3 u4 heq hbl hl64
      obtain ⟨u1,u2,u3,u4⟩:=HC0.out w7 t7
      have hst:=Y6 (some ⟨g0,0,none⟩) m sc q (by have:=HPM.out;have:=HQM.out;omega)
      have HTL:Hid (F0 w7 (A03 (some ⟨g0,0,none⟩) sc q) (sc - q) (m - q) 64 (D9 (sl.drop q))):=by
       have:=A0A (C2 HOWN.out (HTG.out _ t7)) q (by have:=HM.out;have:=HPM.out;have:=HQM.out;omega)
       rw [← HM.out] at this;exact this
      generalize A03 (some ⟨g0,0,none⟩) sc q=ta at *
      obtain ⟨tn,htn⟩:∃ tn,tn=m - q:=⟨_,rfl⟩
      obtain ⟨tc,htc⟩:∃ tc,tc=sc - q:=⟨_,rfl⟩
      rw [← htn,← htc] at hst HTL
      have htn9:tn≤1000000:=by have:=HM9.out;omega
      have HTNN:=hid htn
      have HTN9:=hid htn9
      clear htn htc u2 u3 u4 htn9
      go_wp2_with (at_builtin;go_must (refine G6 A0W rfl _ _ rfl HV7.out rfl HTL.out rfl (by have:=HM9.out;have:=HPM.out;have:=HTN9.out;unfold maxLen;omega) (by have:=HM9.out;have:=HPM.out;have:=HTN9.out;omega) ?_))
      intro v9 w9 hv9 ho9 hn9
      have hb9:Below w1.heap.size w1 w9:=(HTG.out _ t7).trans (ho9.below (HTG.out _ t7).size (fun i hi=>HN7.out i hi))
      have t9:T w9:=HTM.out _ hb9
      have hone:v9.oneCell'=true:=by obtain ⟨_,_,rfl⟩:=E1 hv9;rfl
      have hf9:=(HC0.out w9 t9).2.2.2
      have HV9:=hid hv9
      have HN9:Hid (∀ b,v9.ownBlock=some b→w1.heap.size≤b):=fun b hb=>by
       rcases hn9 b hb with h | h
       ·exact HN7.out b h
       ·exact Nat.le_trans (HTG.out _ t7).size h
      have HB9:=hid hb9
      clear hv9 ho9 hn9 hb9 t9 t7 u1 hst
      go_wp2
      go_end0
      have htl:q=if (∃ (h:M7 sl k < sl.length),(sl[M7 sl k]'h).1=k) then M7 sl k+1 else M7 sl k:=by
       rw [if_neg (fun hh=>HKE.out (by obtain ⟨h1,h2⟩:=hh;rw [HX.out];simpa only [← HPZ.out] using h2)),← HPZ.out]
      have e1:=A0g sl k v q q HPZ.out htl
      have e2:=A0C sl k v q q HPZ.out htl
      have e3:=A1f sl k v
      rw [if_neg HVZ.out,← HCC.out] at e1
      rw [if_neg HVZ.out] at e2
     all_goals
      rw [← HM.out,← HTNN.out] at e2
      have hv9:=HV9.out
      try simp only [List.append_assoc] at hv9
      try simp only [List.append_assoc] at e1
      rw [← e1,← e2] at hv9
      obtain ⟨own2,s2,g2⟩:=HPUT.out w9 v9 (U6 sl k v) HB9.out hv9 HN9.out (A37 sl k v HK.out HV.out HVAL.out) (by have:=HLEN.out;omega) (A3z sl k v HPW.out).1 (A5i sl k v HNZ.out)
      rw [A3i HPW.out HGET.out] at s2
      exact ⟨rfl,own2,s2,HC1.out.trans g2⟩
   ·obtain rfl:q=m:=by omega
    have dql:decide ((q:Int) < (q:Int))=false:=by simp
    have dqn:(q < q)=False:=by simp
    clear hqm
    go_wp2_with fail
    refine A6 T [] (.pure 0 (.pure 1 (.pure 2 (.pure 3 (.take 4 (.pure 5 (.pure 6 (.pure 7 (.take 8 (.take 9 (.take 10 (.take 11 (.take 12 (.take 13 (.take 14 (.take 15 (.take 16 (.take 17 (.pure 18 .fin))))))))))))))))))) (by kernel_rfl) (by kernel_rfl) ?_
    iterate 8
     first
     |refine A0 ?_ rfl (by rfl) (fun w' hs=>?_) (fun _ _ _ h=>h) ?_
      rotate_left
      ·clear hs
       go_simp
       try rfl
      simp only [Act.put,D6,D5,D4]
     |refine A9 ?_ t0 rfl (by rfl) (fun w' hs=>?_) (fun _ _ _ h=>h) ?_
      rotate_left
      ·rw [HT.out] at hs
       obtain ⟨u1,u2,u3,u4⟩:=HC0.out w' (by rw [HT.out];exact hs)
       go_simp
       try rfl
      simp only [Act.put,D6,D5,D4]
    iterate 10
     refine A2G t0 rfl (by rfl) (fun _ _ _ h=>h) ?_
     simp only [Act.put,D6,D5,D4]
    refine A0 ?_ rfl (by rfl) (fun w' hs=>?_) (fun _ _ _ h=>h) ?_
    rotate_left
    ·clear hs
     go_simp
     try rfl
    simp only [Act.put,D6,D5,D4]
    refine C3 ?_
    go_wp2_with fail
    have t2:T wr.drew.drew:=HTN.out _ _ t0 (Below.refl _ _).drew
    clear t0
    refine A6 T [] (.pure 0 (.pure 1 (.pure 2 (.pure 3 (.take 4 (.pure 5 (.pure 6 (.pure 7 (.take 8 (.take 9 (.take 10 (.take 11 (.take 12 (.take 13 (.take 14 (.take 15 (.take 16 (.take 17 (.pure 18 .fin))))))))))))))))))) (by kernel_rfl) (by kernel_rfl) ?_
    iterate 8
     first
     |refine A0 ?_ rfl (by rfl) (fun w' hs=>?_) (fun _ _ _ h=>h) ?_
      rotate_left
      ·clear hs
       go_simp
       try rfl
      simp only [Act.put,D6,D5,D4]
     |refine A9 ?_ t2 rfl (by rfl) (fun w' hs=>?_) (fun _ _ _ h=>h) ?_
      rotate_left
      ·rw [HT.out] at hs
       obtain ⟨u1,u2,u3,u4⟩:=HC0.out w' (by rw [HT.out];exact hs)
       go_simp
       try rfl
      simp only [Act.put,D6,D5,D4]
    iterate 10
     refine A2G t2 rfl (by rfl) (fun _ _ _ h=>h) ?_
     simp only [Act.put,D6,D5,D4]
    refine A0 ?_ rfl (by rfl) (fun w' hs=>?_) (fun _ _ _ h=>h) ?_
    rotate_left
    ·clear hs
     go_simp
     try rfl
    simp only [Act.put,D6,D5,D4]
    refine C3 ?_
    by_cases hvz:v=0
    focus
     have HVZ:=hid hvz
     clear hvz
     generalize wr.drew.drew=W6 at *
     have hsh:=Y7 sa q sc q (by have:=HCAP.out;have:=HM.out;have:=HPM.out;omega)
     have HSH:Hid (F0 W6 sa sc q 64 (D9 (sl.take q))):=A0B (C2 HOWN.out (HTG.out _ t2)) q (by have:=HM.out;have:=HPM.out;omega)
     obtain ⟨u1,u2,u3,u4⟩:=HC0.out W6 t2
     have HT6:=hid t2
     clear u2 u3 u4 t2
     go_wp2_with (at_builtin;go_must (refine G6 A0W rfl _ _ rfl (World.ownsRow_nil _ _ _ _) rfl HSH.out rfl (by have:=HM9.out;have:=HPM.out;unfold maxLen;omega) (by have:=HM9.out;have:=HPM.out;omega) ?_))
     intro v6 w6 hv6 ho6 hn6
     have hb6:Below W6.heap.size W6 w6:=ho6.below (Nat.le_refl _) (fun i hi=>by simp [Value.ownBlock] at hi)
     have hv6':w6.ownsRow 0 97 64 v6 q (D9 (sl.take q)):=by simpa using hv6
     obtain ⟨a6,c6,rfl⟩:=E1 hv6'
     have t6:T w6:=HTN.out _ _ HT6.out hb6
     have HV6:=hid hv6'
     have HN6:Hid (∀ b,(Value.slice a6 q c6).ownBlock=some b→w1.heap.size≤b):=fun b hb=>Nat.le_trans (HTG.out _ HT6.out).size ((hn6 b hb).resolve_left (by simp [Value.ownBlock]))
     clear hv6 ho6 hn6 hb6 hv6' u1 hsh
     obtain ⟨u1,u2,u3,u4⟩:=HC0.out w6 t6
     have heq:=eqW HV.out (show (0:Nat) < wW by decide) w6
     have hdv:decide (v=0)=true:=decide_eq_true HVZ.out
     rw [hdv] at heq
     have hst:=Y6 sa q sc q (by have:=HPM.out;omega)
     have HTL:Hid (F0 w6 (A03 sa sc q) (sc - q) (q - q) 64 (D9 (sl.drop q))):=by
      have:=A0A (C2 HOWN.out (HTG.out _ t6)) q (by have:=HM.out;have:=HPM.out;omega)
      rw [← HM.out] at this;exact this
     generalize A03 sa sc q=ta at *
     obtain ⟨tn,htn⟩:∃ tn,tn=q - q:=⟨_,rfl⟩
     obtain ⟨tc,htc⟩:∃ tc,tc=sc - q:=⟨_,rfl⟩
     rw [← htn,← htc] at hst HTL
     have htn9:tn≤1000000:=by have:=HM9.out;omega
     have HTNN:=hid htn
     have HTN9:=hid htn9
     clear htn htc htn9
     go_wp2_with (at_builtin;go_must (refine G6 A0W rfl _ _ rfl HV6.out rfl HTL.out rfl (by have:=HM9.out;have:=HPM.out;have:=HTN9.out;unfold maxLen;omega) (by have:=HM9.out;have:=HPM.out;have:=HTN9.out;omega) ?_))
     intro v9 w9 hv9 ho9 hn9
     have hb9:Below w1.heap.size w1 w9:=(HTG.out _ t6).trans (ho9.below (HTG.out _ t6).size (fun i hi=>HN6.out i hi))
     have t9:T w9:=HTM.out _ hb9
     have hone:v9.oneCell'=true:=by obtain ⟨_,_,rfl⟩:=E1 hv9;rfl
     have hf9:=(HC0.out w9 t9).2.2.2
     have HV9:=hid hv9
     have HN9:Hid (∀ b,v9.ownBlock=some b→w1.heap.size≤b):=fun b hb=>by
      rcases hn9 b hb with h | h
      ·exact HN6.out b h
      ·exact Nat.le_trans (HTG.out _ t6).size h
     have HB9:=hid hb9
     clear hv9 ho9 hn9 hb9 t9 t6 u1 hst
     go_wp2
     go_end0
     have htl:q=if (∃ (h:M7 sl k < sl.length),(sl[M7 sl k]'h).1=k) then M7 sl k+1 else M7 sl k:=by
      rw [if_neg (fun hh=>by obtain ⟨h1,_⟩:=hh;have h2:=HPZ.out;have h3:=HM.out;omega),← HPZ.out]
     have e1:=A0g sl k v q q HPZ.out htl
     have e2:=A0C sl k v q q HPZ.out htl
     have e3:=A1f sl k v
     rw [if_pos HVZ.out,List.append_nil] at e1
     rw [if_pos HVZ.out,Nat.add_zero] at e2
    rotate_left
    focus
     have HVZ:=hid hvz
     clear hvz
     generalize wr.drew.drew=W6 at *
     have hsh:=Y7 sa q sc q (by have:=HCAP.out;have:=HM.out;have:=HPM.out;omega)
     have HSH:Hid (F0 W6 sa sc q 64 (D9 (sl.take q))):=A0B (C2 HOWN.out (HTG.out _ t2)) q (by have:=HM.out;have:=HPM.out;omega)
     obtain ⟨u1,u2,u3,u4⟩:=HC0.out W6 t2
     have HT6:=hid t2
     clear u2 u3 u4 t2
     go_wp2_with (at_builtin;go_must (refine G6 A0W rfl _ _ rfl (World.ownsRow_nil _ _ _ _) rfl HSH.out rfl (by have:=HM9.out;have:=HPM.out;unfold maxLen;omega) (by have:=HM9.out;have:=HPM.out;omega) ?_))
     intro v6 w6 hv6 ho6 hn6
     have hb6:Below W6.heap.size W6 w6:=ho6.below (Nat.le_refl _) (fun i hi=>by simp [Value.ownBlock] at hi)
     have hv6':w6.ownsRow 0 97 64 v6 q (D9 (sl.take q)):=by simpa using hv6
     obtain ⟨a6,c6,rfl⟩:=E1 hv6'
     have t6:T w6:=HTN.out _ _ HT6.out hb6
     have HV6:=hid hv6'
     have HN6:Hid (∀ b,(Value.slice a6 q c6).ownBlock=some b→w1.heap.size≤b):=fun b hb=>Nat.le_trans (HTG.out _ HT6.out).size ((hn6 b hb).resolve_left (by simp [Value.ownBlock]))
     clear hv6 ho6 hn6 hb6 hv6' u1 hsh
     obtain ⟨u1,u2,u3,u4⟩:=HC0.out w6 t6
     have heq:=eqW HV.out (show (0:Nat) < wW by decide) w6
     have hdv:decide (v=0)=false:=decide_eq_false HVZ.out
     rw [hdv] at heq
     have hbl:=A4Z k v
     have hl64:(A3 32 k++A3 32 v).length=64:=by simp
     have hok64:P0 (1*64) (A3 32 k++A3 32 v)=true:=by have:=A0T [(k,v)];simpa [D9] using this
     obtain ⟨CC,hCC⟩:∃ CC,CC=A3 32 k++A3 32 v:=⟨_,rfl⟩
     rw [← hCC] at hbl hl64 hok64
     have HCC:=hid hCC
     have hb7:Below w6.heap.size w6 (w6.alloc (.cells CC.toArray 97)):=(Below.refl _ _).alloc (Nat.le_refl _) _
     have HV6A:Hid ((w6.alloc (.cells CC.toArray 97)).ownsRow 0 97 64 (.slice a6 q c6) q (D9 (sl.take q))):=C2 HV6.out hb7
     have HSN:Hid (F0 (w6.alloc (.cells CC.toArray 97)) (some ⟨w6.heap.size,0,none⟩) 1 1 64 CC):=F0.new w6 97 (0,0) hok64 1
     have T6A:=hid (HTN.out _ _ t6 hb7)
     clear hCC hb7 hok64
     go_wp2_with (at_builtin;go_must (refine G6 A0W rfl _ _ rfl HV6A.out rfl HSN.out rfl (by have:=HM9.out;have:=HPM.out;unfold maxLen;omega) (by have:=HM9.out;have:=HPM.out;omega) ?_))
     intro v7 w7 hv7 ho7 hn7
     have hb7:Below w1.heap.size w1 w7:=(HTG.out _ T6A.out).trans (ho7.below (HTG.out _ T6A.out).size (fun i hi=>HN6.out i hi))
     obtain ⟨a7,c7,rfl⟩:=E1 hv7
     have t7:T w7:=HTM.out _ hb7
     have HV7:=hid hv7
     have HN7:Hid (∀ b,(Value.slice a7 (q+1) c7).ownBlock=some b→w1.heap.size≤b):=fun b hb=>by
      rcases hn7 b hb with h | h
      ·exact HN6.out b h
      ·exact Nat.le_trans (HTG.out _ T6A.out).size (by first | exact h | simpa using h)
     clear hv7 ho7 hn7 hb7 u1 u2 u3 u4 heq hbl hl64
     obtain ⟨u1,u2,u3,u4⟩:=HC0.out w7 t7
     have hst:=Y6 sa q sc q (by have:=HPM.out;omega)
     have HTL:Hid (F0 w7 (A03 sa sc q) (sc - q) (q - q) 64 (D9 (sl.drop q))):=by
      have:=A0A (C2 HOWN.out (HTG.out _ t7)) q (by have:=HM.out;have:=HPM.out;omega)
      rw [← HM.out] at this;exact this
     generalize A03 sa sc q=ta at *
     obtain ⟨tn,htn⟩:∃ tn,tn=q - q:=⟨_,rfl⟩
     obtain ⟨tc,htc⟩:∃ tc,tc=sc - q:=⟨_,rfl⟩
     rw [← htn,← htc] at hst HTL
     have htn9:tn≤1000000:=by have:=HM9.out;omega
     have HTNN:=hid htn
     have HTN9:=hid htn9
     clear htn htc u2 u3 u4 htn9
     go_wp2_with (at_builtin;go_must (refine G6 A0W rfl _ _ rfl HV7.out rfl HTL.out rfl (by have:=HM9.out;have:=HPM.out;have:=HTN9.out;unfold maxLen;omega) (by have:=HM9.out;have:=HPM.out;have:=HTN9.out;omega) ?_))
     intro v9 w9 hv9 ho9 hn9
     have hb9:Below w1.heap.size w1 w9:=(HTG.out _ t7).trans (ho9.below (HTG.out _ t7).size (fun i hi=>HN7.out i hi))
     have t9:T w9:=HTM.out _ hb9
     have hone:v9.oneCell'=true:=by obtain ⟨_,_,rfl⟩:=E1 hv9;rfl
     have hf9:=(HC0.out w9 t9).2.2.2
     have HV9:=hid hv9
     have HN9:Hid (∀ b,v9.ownBlock=some b→w1.heap.size≤b):=fun b hb=>by
      rcases hn9 b hb with h | h
      ·exact HN7.out b h
      ·exact Nat.le_trans (HTG.out _ t7).size h
     have HB9:=hid hb9
     clear hv9 ho9 hn9 hb9 t9 t7 u1 hst
     go_wp2
     go_end0
     have htl:q=if (∃ (h:M7 sl k < sl.length),(sl[M7 sl k]'h).1=k) then M7 sl k+1 else M7 sl k:=by
      rw [if_neg (fun hh=>by obtain ⟨h1,_⟩:=hh;have h2:=HPZ.out;have h3:=HM.out;omega),← HPZ.out]
     have e1:=A0g sl k v q q HPZ.out htl
     have e2:=A0C sl k v q q HPZ.out htl
     have e3:=A1f sl k v
     rw [if_neg HVZ.out,← HCC.out] at e1
     rw [if_neg HVZ.out] at e2
    all_goals
     rw [← HM.out,← HTNN.out] at e2
     have hv9:=HV9.out
     try simp only [List.append_assoc] at hv9
     try simp only [List.append_assoc] at e1
     rw [← e1,← e2] at hv9
     obtain ⟨own2,s2,g2⟩:=HPUT.out w9 v9 (U6 sl k v) HB9.out hv9 HN9.out (A37 sl k v HK.out HV.out HVAL.out) (by have:=HLEN.out;omega) (A3z sl k v HPW.out).1 (A5i sl k v HNZ.out)
     rw [A3i HPW.out HGET.out] at s2
     exact ⟨rfl,own2,s2,HC1.out.trans g2⟩
theorem C9.state {E:Q5} {w:World} {own:Go.Mun.Own} {c:RFV} {f:Fr} {S:St} {M:List (Nat × St)} {n:Nat} {w':World} {own':Go.Mun.Own} {S':St} {n':Nat} (h:C9 E w own c f S M n) (g:K1 w w' own own') (hs:RState w' own' E.sb S' M n') (hn:n'+f.gas≤E.N):C9 E w' own' c f S' M n':=by
 have hR:∀ b,hot own b→rmu own E.fb c b:=fun _ h => .inl h
 have hX:∀ b,b < w.heap.size→rmu own' E.fb c b→rmu own E.fb c b:=by
  rintro b hb (h1 | h1)
  ·refine .inl ?_
   unfold hot at *
   rw [← g.ext b hb];exact h1
  ·exact .inr h1
 exact { h with
  row:=by rw [g.only.row? h.lt (W5 h.fown)];exact h.row
  free:=by rw [g.only.free? h.lt (W5 h.fown)];exact h.free
  fown:=by rw [g.ext _ h.lt];exact h.fown
  chg:=h.chg.trans g
  stk:=A2.own h.stk g.only (fun b hb=>W5 (h.sown b hb).1)
  sown:=fun b hb=>⟨by rw [g.ext _ (C8 h.stk b hb)];exact (h.sown b hb).1,(h.sown b hb).2⟩
  mem:=A2.own h.mem g.only (fun b hb=>W5 (h.mown b hb).1)
  mown:=fun b hb=>⟨by rw [g.ext _ (C8 h.mem b hb)];exact (h.mown b hb).1,(h.mown b hb).2⟩
  code:=h.code.only g.only hR hX
  data:=h.data.only g.only hR hX
  out:=h.out.only g.only hR hX
  told:=h.told.only g.only hR hX
  jmp:=A3O h.jmp g.only hR hX
  st:=hs
  cnt:=hn }
theorem A7x {E:Q5} {w:World} {own:Go.Mun.Own} {c:RFV} {f:Fr} {S:St} {M:List (Nat × St)} {n:Nat} {v jv:Value} {k x:Nat} (h:C9 E w own c f S M n) (hn:n+2+f.gas≤E.N) (hk:k < wW) (hx:x < wW) (hv:w.ownsRow 0 25 32 v 2 (D3 [k,x])) :
  Calls Tryz.prog 269 #[.pointer (some ⟨E.fb,0,none⟩),.int .u8 85,v,jv] w fun e w'=>e = .returned (.int .i64 0)∧∃ own',C9 E w' own' c f (S.setSlot f.m.to k x) M (n+2)∧K1 w w' own own':=by
 obtain ⟨g0,vc,hvf,r0⟩:=X2 (b:=0) (l:=[k,x]) hv (i:=0) (by simp)
 obtain ⟨g1,vc1,hvf1,r1⟩:=X2 (b:=0) (l:=[k,x]) hv (i:=1) (by simp)
 rw [hvf] at hvf1
 cases hvf1
 subst hvf
 simp only [List.getElem_cons_zero,List.getElem_cons_succ,Nat.zero_mul,Nat.one_mul,List.length_cons,List.length_nil,Nat.zero_add] at r0 r1
 have c0:=B0k h.row
 have c1:=B1s h.row
 have hto:=h.mok.to
 have hnn:n≤999000:=by have:=h.lim;have:=h.cnt;omega
 have H:=hid h
 obtain ⟨T,hT⟩:∃ T:World→Prop,T=fun W=>W.cell? ⟨E.fb,0,none⟩=some (.pointer (some ⟨E.sb,0,none⟩))∧W.row? E.fb 173 20=some (A3 20 f.m.to)∧W.row? g0 0 32=some (A3 32 k)∧W.row? g0 32 32=some (A3 32 x):=⟨_,rfl⟩
 have HT:=hid hT
 have t0:T w.drew:=by rw [hT];exact ⟨c0,c1,r0,r1⟩
 have HS:=hid (B2K (H.out.below (Below.refl _ _).drew).st hto hk hx hnn)
 have HN:=hid hn
 clear h hT c0 c1 r0 r1 hv hn
 go_enter Tryz.func269,Tryz.ntmps269
 go_wp2_with fail
 refine A6 T [14] (.pure 0 (.pure 1 (.pure 2 (.take 3 (.pure 4 (.pure 5 (.pure 6 (.take 7 (.pure 8 (.pure 9 (.take 10 (.pure 11 (.pure 12 (.take 13 (.alt 14 .fin .stop))))))))))))))) (by kernel_rfl) (by kernel_rfl) ?_
 iterate 9
  first
  |refine A0 ?_ rfl (by rfl) (fun w' hs=>?_) (fun _ _ _ h=>h) ?_
   rotate_left
   ·clear hs
    go_simp
    try rfl
   simp only [Act.put,D6,D5,D4]
  |refine A9 ?_ t0 rfl (by rfl) (fun w' hs=>?_) (fun _ _ _ h=>h) ?_
   rotate_left
   ·rw [HT.out] at hs
    obtain ⟨g1,g2,g3,g4⟩:=hs
    go_simp
    try rfl
   simp only [Act.put,D6,D5,D4]
 refine A0 (.pointer (some ⟨g0,0,none⟩)) rfl (by rfl) (fun w' hs=>?_) (fun _ _ _ h=>h) ?_
 ·clear hs
  go_simp
 simp only [Act.put,D6,D5,D4]
 refine A9 ?_ t0 rfl (by rfl) (fun w' hs=>?_) (fun _ _ _ h=>h) ?_
 rotate_left
 ·rw [HT.out] at hs
  obtain ⟨g1,g2,g3,g4⟩:=hs
  go_simp
  try rfl
 simp only [Act.put,D6,D5,D4]
 refine A0 ?_ rfl (by rfl) (fun w' hs=>?_) (fun _ _ _ h=>h) ?_
 rotate_left
 ·clear hs
  go_simp
  try rfl
 simp only [Act.put,D6,D5,D4]
 refine A0 (.pointer (some ⟨g0,32,none⟩)) rfl (by rfl) (fun w' hs=>?_) (fun _ _ _ h=>h) ?_
 ·clear hs
  go_simp
 simp only [Act.put,D6,D5,D4]
 refine A9 ?_ t0 rfl (by rfl) (fun w' hs=>?_) (fun _ _ _ h=>h) ?_
 rotate_left
 ·rw [HT.out] at hs
  obtain ⟨g1,g2,g3,g4⟩:=hs
  go_simp
  try rfl
 simp only [Act.put,D6,D5,D4]
 refine L0 rfl (by simp) (fun K hK=>?_)
 go_simp
 refine HS.out.mono ?_
 rintro e w2 ⟨rfl,own2,st2,ch2⟩
 have HF:Hid (C9 E w2 own2 c f (S.setSlot f.m.to k x) M (n+2)∧K1 w w2 own own2):=by
  have g2:=(K1.below own (Below.refl w.heap.size w).drew).trans ch2
  exact ⟨C9.state H.out g2 st2 HN.out,g2⟩
 clear st2 ch2
 refine hK.out _ _ ?_
 clear hK K
 refine C3 ?_
 go_wp2
 go_ret
 exact ⟨rfl,own2,HF.out.1,HF.out.2⟩
attribute [local irreducible] A0e
end Go.Proofs.YtfflppedbopdpaaGreat
namespace Go.Proofs.YtfflppedbopdpaaGreat
open Go.RowKit Go.Mun
def B1y (x:Int):Bool := !(([32,55,57,60,62,81,82,83,160,161,162,163,164,240,241,243,244,245,250,253]:List Int).contains x)
theorem B54 {x:Int} (h:B1y x=true):A4p x:=by
 unfold B1y at h
 simp at h
 unfold A4p
 omega
def U8 (f:Fr) (S:St) (x:Int):Pri:=
 if x=85 then (if 2≤f.stack.length then .more (I4 ((S f.m.to).slots (P3 f 0)) (P3 f 1)) f else .none)
 else if B1y x=true∧x≠10 then .more 0 f else .none
theorem B8R {f:Fr} (h:1≤f.stack.length):f.stack.reverse.take 1 = [P3 f 0]:=by
 unfold P3
 have hl:0 < f.stack.reverse.length:=by rw [List.length_reverse];omega
 cases e:f.stack.reverse with
 | nil=>rw [e] at hl;simp at hl
 | cons a l=>simp
theorem B7l {f:Fr} (h:2≤f.stack.length):f.stack.reverse.take 2 = [P3 f 0,P3 f 1]:=by
 unfold P3
 have hl:2≤f.stack.reverse.length:=by simpa using h
 cases e:f.stack.reverse with
 | nil=>rw [e] at hl;simp at hl
 | cons a l =>
  cases l with
  | nil=>rw [e] at hl;simp at hl
  | cons b l=>simp
theorem B6P {E:Env} {w:World} {own:Go.Mun.Own} {c:FV} {f':Fr} {S:St} {n:Nat} {v:Value} {l:List Nat} {x:Int} (ht:A2o E.tab) (hN:E.N≤1099511627776) (hf:I8 E w own c f' S n) (hn2:B3x f' S x l≠.none) (hw:Wds E.w0.heap.size w v l) (hv:∀ x∈l,x < wW)
  (hb:∀ g,l≠[]→v.ownBlock=some g→g≠E.fb∧own g=none∧c.mv.ownBlock≠some g∧c.lv.ownBlock≠some g):Calls Tryz.prog 374 #[.pointer (some ⟨E.fb,0,none⟩),.int .u8 x,v] w (Z4 E (B3x f' S x l)):=by
 unfold B3x at hn2 ⊢
 split at hn2
 ·rename_i hc
  rw [if_pos hc]
  split at hn2
  ·rename_i hd
   rw [if_pos hd]
   obtain ⟨m,hm⟩:∃ m:Nat,x=m:=⟨x.toNat,by omega⟩
   rw [hm] at hc hd ⊢
   have e:((m:Int) - 95).toNat=m - 95:=by omega
   rw [e] at hd ⊢
   exact B6C m ⟨by omega,by omega⟩ hf hd.1 hd.2
  ·exact absurd rfl hn2
 ·rename_i hc
  rw [if_neg hc]
  split at hn2
  ·rename_i hd
   rw [if_pos hd,hd]
   match l,hw,hv,hb,hn2 with
   | [k,x],hw,hv,hb,_=>exact B3g k x ht hf hN hw (fun g hg=>⟨(hb g (by simp) hg).1,(hb g (by simp) hg).2.1⟩) (hv k (by simp)) (hv x (by simp))
   | [],_,_,_,hn2=>exact absurd rfl hn2
   | [_],_,_,_,hn2=>exact absurd rfl hn2
   | _ :: _ :: _ :: _,_,_,_,hn2=>exact absurd rfl hn2
  ·exact absurd rfl hn2
end Go.Proofs.YtfflppedbopdpaaGreat
namespace Go.Mun
open Go.RowKit

def B2h (md:Region.Mode) (ops:Array Oper) (i:Nat):Nat→Nat→Bool
 | 0,_=>false
 | k+1,z=>match ops[z]? with
  | some oz=>oz.after.any fun e=>Region.binds md e && (e.on == i || B2h md ops i k e.on)
  | none=>true
section
variable {P:Program} {ops:Array Oper} {Q:Exit→Act→World→Prop} {md:Region.Mode} {S:World→Prop} {Z:List Nat}
def A33 (md:Region.Mode) (ops:Array Oper) (l:Array Bool):Prop:=∀ j oj,ops[j]? = some oj→l.getD j false=true→∀ e∈oj.after,Region.binds md e=true→l.getD e.on false=true
theorem A33.set {l:Array Bool} {i:Nat} (h:A33 md ops l) (hr:i∈Region.ready md ops l):A33 md ops (l.setIfInBounds i true):=by
 intro j oj hj hd e he hb
 by_cases hij:i=j
 ·subst hij
  obtain ⟨_,o,ho,ha⟩:=mem_ready.1 hr
  rw [hj] at ho
  cases ho
  exact getD_set_true (ha e he hb)
 ·rw [getD_set_ne false hij] at hd
  exact getD_set_true (h j oj hj hd e he hb)
theorem B2r (n:Nat):A33 md ops (Array.replicate n false):=by
 intro j oj _ hd
 exfalso
 rw [Array.getD_eq_getD_getElem?,Array.getElem?_replicate] at hd
 split at hd <;> cases hd
theorem A33.way {l:Array Bool} {i:Nat} (h:A33 md ops l):∀ (k z:Nat) (oz:Oper),ops[z]? = some oz→B2h md ops i k z=true→(∀ e∈oz.after,Region.binds md e=true→l.getD e.on false=true)→(∀ z,l.getD z false=true→∃ o,ops[z]? = some o)→l.getD i false=true
 | 0,_,_,_,hw,_,_=>by simp [B2h] at hw
 | k+1,z,oz,hz,hw,hd,hin=>by
  unfold B2h at hw
  rw [hz] at hw
  obtain ⟨e,he,hb⟩:=Array.any_eq_true'.1 hw
  simp only [Bool.and_eq_true,Bool.or_eq_true,beq_iff_eq] at hb
  have h1:=hd e he hb.1
  rcases hb.2 with h2 | h2
  ·rw [← h2];exact h1
  ·obtain ⟨o,ho⟩:=hin e.on h1
   exact A33.way h k e.on o ho h2 (h e.on o ho h1) hin
theorem B09 {i K:Nat} {oi:Oper} {v:Value} (hi:ops[i]? = some oi) (hs:Region.noSelect ops=true) (hQ:∀ c a w,Q (.panic c) (a.put oi.dst v) w→Q (.panic c) a w)
  (hZ:∀ z∈Z,B2h md ops i K z=true) :
  ∀ (n:Nat) (l:Array Bool) (a:Act) (w:World),A33 md ops l→l.size=ops.size →
   (∀ j oj,ops[j]? = some oj→j≠i→l.getD j true=false→(∀ e∈oj.after,Region.binds md e=true→e.on≠i)→oi.apart ops oj=true) →
   i∈Region.ready md ops l→YieldsIf P ops S oi v a→S w→A6u P md ops Q S Z n (l.setIfInBounds i true) (a.put oi.dst v) w→A6u P md ops Q S Z (n+1) l a w:=by
 have hsel:=Region.noSelect_spec hs
 intro n
 induction n with
 | zero =>
  intro l a w _ _ _ hr hy hS H
  refine ⟨fun h0=>(by rw [h0] at hr;cases hr),fun j hj=>?_⟩
  by_cases e:j=i
  ·subst e;exact hy.wpOp hi hS ⟨fun _ _=>hS,H⟩
  ·have:=ready_mono hj e
   rw [H.1] at this;cases this
 | succ n ih =>
  intro l a w hsh hsz hf hr hy hS H
  refine ⟨fun h0=>(by rw [h0] at hr;cases hr),fun j hj=>?_⟩
  by_cases e:j=i
  ·subst e;exact hy.wpOp hi hS ⟨fun _ _=>hS,H⟩
  ·obtain ⟨hun,oj,hoj,hall⟩:=mem_ready.1 hj
   have hiun:=(mem_ready.1 hr).1
   have hno:l.getD i false=true→False:=fun h1=>by
    rcases Nat.lt_or_ge i l.size with h' | h'
    ·simp [h'] at hiun h1;rw [hiun] at h1;cases h1
    ·simp [Array.getElem?_eq_none h'] at h1
   have hnot:∀ e∈oj.after,Region.binds md e=true→e.on≠i:=fun e he hb heq=>by
    have h1:=hall e he hb
    rw [heq] at h1
    exact hno h1
   have hjZ:j ∉ Z:=fun hz=>hno (hsh.way K j oj hoj (hZ j hz) hall (fun z h1=>by
    rcases Nat.lt_or_ge z l.size with h' | h'
    ·exact ⟨_,Array.getElem?_eq_getElem (hsz ▸ h')⟩
    ·simp [Array.getElem?_eq_none h'] at h1))
   have h2:=wpOp_putIf hoj (hf j oj hoj e hun hnot) (fun cs b=>hsel i oi cs b hi) (fun cs b=>hsel j oj cs b hoj) hQ hy (H.2 j (ready_mono hj e))
   refine wpOp_mono (fun a' w' h3=>⟨fun _ _=>h3.2.1 hjZ hS,ih (l.setIfInBounds j true) a' w' (hsh.set hj) (by simpa using hsz) (fun k ok hk hki hku hno=>?_) (ready_mono hr (Ne.symm e)) h3.1 (h3.2.1 hjZ hS) ?_⟩) h2
   ·refine hf k ok hk hki ?_ hno
    by_cases hjk:j=k
    ·subst hjk;exact hun
    ·rw [getD_set_ne true hjk] at hku;exact hku
   ·rw [Array.setIfInBounds_comm _ _ e]
    exact h3.2.2
def N6 (md:Region.Mode) (ops:Array Oper) (Z:List Nat):Z6→Nat→Bool→Array Bool→Bool
 | .fin,_,top,l=>top && (Region.ready md ops l).isEmpty
 | .stop,_,top,_ => !top
 | .take _ _,0,_,_=>false
 | .take i r,n+1,top,l=>top && Region.free md ops l i && (Region.ready md ops l).contains i && Z.all (B2h md ops i ops.size) && N6 md ops Z r n true (l.setIfInBounds i true)
 | .pure _ _,0,_,_=>false
 | .pure i r,n+1,top,l=>top && Region.free md ops l i && (Region.ready md ops l).contains i && N6 md ops Z r n true (l.setIfInBounds i true)
 | .alt _ _ _,0,_,_=>false
 | .alt i r m,n+1,top,l=>(!top || (Region.ready md ops l == i :: m.heads)) && N6 md ops Z r n true (l.setIfInBounds i true) && N6 md ops Z m (n+1) false l
theorem A4s:∀ (m:Z6) (n:Nat) (l:Array Bool) (a:Act) (w:World),
  N6 md ops Z m n false l=true→N7 P ops Q S Z m a w →
  ∀ j∈m.heads,∃ r n',n=n'+1∧N6 md ops Z r n' true (l.setIfInBounds j true)=true∧wpOp P ops Q j (fun a' w'=>(j ∉ Z→S w')∧N7 P ops Q S Z r a' w') a w
 | .alt i r m,n+1,l,a,w,hk,h=>by
  intro j hj
  simp only [N6,Bool.and_eq_true] at hk
  simp only [Z6.heads,List.mem_cons] at hj
  rcases hj with rfl | hj
  ·exact ⟨r,n,rfl,hk.1.2,h.1⟩
  ·exact A4s m (n+1) l a w hk.2 h.2 j hj
 | .alt _ _ _,0,_,_,_,hk,_=>by simp [N6] at hk
 | .fin,_,_,_,_,_,_=>by intro j hj;simp [Z6.heads] at hj
 | .stop,_,_,_,_,_,_=>by intro j hj;simp [Z6.heads] at hj
 | .take _ _,_,_,_,_,_,_=>by intro j hj;simp [Z6.heads] at hj
 | .pure _ _,_,_,_,_,_,_=>by intro j hj;simp [Z6.heads] at hj
theorem A1G (hs:Region.noSelect ops=true):∀ (n:Nat) (t:Z6) (l:Array Bool) (a:Act) (w:World),A33 md ops l→l.size=ops.size→N6 md ops Z t n true l=true→N7 P ops Q S Z t a w→A6u P md ops Q S Z n l a w
 | 0,.fin,l,a,w,_,_,hk,h=>⟨by simpa [N6] using hk,h⟩
 | 0,.take _ _,_,_,_,_,_,hk,_=>by simp [N6] at hk
 | 0,.pure _ _,_,_,_,_,_,hk,_=>by simp [N6] at hk
 | 0,.alt _ _ _,_,_,_,_,_,hk,_=>by simp [N6] at hk
 | _,.stop,_,_,_,_,_,hk,_=>by simp [N6] at hk
 | n+1,.fin,l,a,w,_,_,hk,h=>⟨fun _=>h,by rw [show Region.ready md ops l = [] by simpa [N6] using hk];simp⟩
 | n+1,.take i r,l,a,w,hsh,hsz,hk,h=>by
  simp only [N6,Bool.and_eq_true] at hk
  obtain ⟨o,v,ho,hy,hQ,hS,h⟩:=h
  have hr:i∈Region.ready md ops l:=by simpa using hk.1.1.2
  exact B09 ho hs hQ (fun z hz=>List.all_eq_true.1 hk.1.2 z hz) n l a w hsh hsz (Region.free_spec ho hk.1.1.1.2) hr hy hS (A1G hs n r _ _ w (hsh.set hr) (by simpa using hsz) hk.2 h)
 | n+1,.pure i r,l,a,w,hsh,hsz,hk,h=>by
  simp only [N6,Bool.and_eq_true] at hk
  obtain ⟨o,v,ho,hy,hQ,h⟩:=h
  have hr:i∈Region.ready md ops l:=by simpa using hk.1.2
  exact A7f ho hs hQ n l a w (Region.free_spec ho hk.1.1.2) hr hy (A1G hs n r _ _ w (hsh.set hr) (by simpa using hsz) hk.2 h)
 | n+1,.alt i r m,l,a,w,hsh,hsz,hk,h=>by
  have hk':=hk
  simp only [N6,Bool.and_eq_true,Bool.not_true,Bool.false_or,beq_iff_eq] at hk
  refine ⟨fun h0=>(by rw [hk.1.1] at h0;cases h0),fun j hj=>?_⟩
  have hjr:=hj
  rw [hk.1.1] at hj
  have hf:N6 md ops Z (.alt i r m) (n+1) false l=true:=by
   simp only [N6,Bool.and_eq_true,Bool.not_false,Bool.true_or,true_and]
   exact ⟨hk.1.2,hk.2⟩
  obtain ⟨r',n',e,hk2,h2⟩:=A4s (Z6.alt i r m) (n+1) l a w hf h j hj
  obtain rfl:n=n':=by omega
  exact wpOp_mono (fun a' w' h'=>⟨fun hz _=>h'.1 hz,A1G hs n r' _ a' w' (hsh.set hjr) (by simpa using hsz) hk2 h'.2⟩) h2
theorem A1I (S:World→Prop) (Z:List Nat) (t:Z6) {id:Nat} {a:Act} {w:World} (hm:P.follows .mixedOrders=true)
  (hk:(Region.noSelect ops && N6 .any ops Z t ops.size true (Array.replicate ops.size false))=true) (h:N7 P ops Q S Z t a w.drew):(Code.region id ops true).wp P Q a w:=by
 simp only [Bool.and_eq_true] at hk
 exact wp_region_any hm (A2D _ _ _ _ (A1G hk.1 _ t _ a _ (B2r _) (by simp) hk.2 h))
end
end Go.Mun
namespace Go.Proofs.YtfflppedbopdpaaGreat
open Go.RowKit Go.Mun

theorem B1z (n a b c d:Nat) (h0:lim n 0=a) (h1:lim n 1=b) (h2:lim n 2=c) (h3:lim n 3=d):Q4 n = [.int .u64 (a:Int),.int .u64 (b:Int),.int .u64 (c:Int),.int .u64 (d:Int)]:=by
 subst h0 h1 h2 h3;rfl
theorem B2T (m:Nat) (h:m < 18446744073709551616):Q4 m = [.int .u64 (m:Int),.int .u64 0,.int .u64 0,.int .u64 0]:=by
 refine B1z m m 0 0 0 ?_ ?_ ?_ ?_ <;> unfold lim <;> omega
theorem B56 (m n:Nat) (h:n=m+115792089237316195423570985008687907853269984665640564039439137263839420088320) (hm:m < 18446744073709551616) :
  Q4 n = [.int .u64 (m:Int),.int .u64 18446744073709551615,.int .u64 18446744073709551615,.int .u64 18446744073709551615]:=by
 refine B1z n m 18446744073709551615 18446744073709551615 18446744073709551615 ?_ ?_ ?_ ?_ <;> unfold lim <;> omega
theorem A9q {P:Program} {ty:TypeId} (ρ:Operand→Value) (dst:Option Tmp) (parts:List (Nat × Operand)) (t:TypeId) (pos:String) (after:Array Edge) (gd:Option (Nat × Bool)) (w:World):(execOp ρ ⟨dst,.build ty parts.toArray,t,pos,after,gd⟩).run P w=F7 (Z9 P ty (parts.map fun p=>(p.1,ρ p.2)) w):=by
 unfold execOp Z9
 simp only [Sem.run_bind,List.map_toArray]
 cases (Instr.build ty (parts.map fun p=>(p.1,ρ p.2)).toArray).run P w <;> rfl
theorem B8n (ρ:Operand→Value) (dst:Option Tmp) (x:Operand) (t:TypeId) (pos:String) (after:Array Edge) (gd:Option (Nat × Bool)) (w:World):(execOp ρ ⟨dst,.build 215 #[(0,x)],t,pos,after,gd⟩).run Tryz.prog w=F7 (Z9 Tryz.prog 215 [(0,ρ x)] w):=A9q ρ dst [(0,x)] t pos after gd w
theorem B8m (ρ:Operand→Value) (dst:Option Tmp) (x x1 x2 x3:Operand) (t:TypeId) (pos:String) (after:Array Edge) (gd:Option (Nat × Bool)) (w:World):(execOp ρ ⟨dst,.build 215 #[(0,x),(1,x1),(2,x2),(3,x3)],t,pos,after,gd⟩).run Tryz.prog w=F7 (Z9 Tryz.prog 215 [(0,ρ x),(1,ρ x1),(2,ρ x2),(3,ρ x3)] w):=A9q ρ dst [(0,x),(1,x1),(2,x2),(3,x3)] t pos after gd w
attribute [local go_sem ↓] B8n B8m
theorem B3n (m:Nat) (h:m < 18446744073709551616) (w:World):Z9 Tryz.prog 215 [(0,.int .u64 (m:Int))] w = .ok (.agg (Q4 m).toArray) w:=by
 rw [B2T m h];kernel_rfl
theorem B3m (m n:Nat) (h:n=m+115792089237316195423570985008687907853269984665640564039439137263839420088320) (hm:m < 18446744073709551616) (w:World) :
  Z9 Tryz.prog 215 [(0,.int .u64 (m:Int)),(1,.int .u64 18446744073709551615),(2,.int .u64 18446744073709551615),(3,.int .u64 18446744073709551615)] w = .ok (.agg (Q4 n).toArray) w:=by
 rw [B56 m n h hm];kernel_rfl
theorem B5g (n:Int) (hn : -9223372036854775808≤n) (hn':n≤9223372036854775807) (w:World) :
  Calls Tryz.prog 213 #[.int .i64 n] w fun e w'=>e = .returned (.agg (A3 32 (ofW n)).toArray)∧Below w.heap.size w w':=by
 obtain ⟨w0,e0⟩:∃ w0,w0=(w.alloc (.cells (K0 32).toArray 25)).alloc (.cells (U5 4).toArray 215):=⟨_,rfl⟩
 have hb0:Below w.heap.size w w0:=by rw [e0];exact ((Below.refl _ _).alloc (Nat.le_refl _) _).alloc (by simp) _
 have f0:w0.free? w.heap.size 0 32=true:=by rw [e0];simp [go_sem]
 have hz:Arr w0 (w.heap.size+1) 4 (U5 4):=by
  rw [e0];have:=Arr.new (w.alloc (.cells (K0 32).toArray 25)) 4 (U5 4) 215 rfl
  simpa using this
 have HE:=hid e0
 have HB:=hid hb0
 have HF:=hid f0
 obtain ⟨m,hm⟩:∃ m:Nat,IntKind.u64.wrap n=(m:Int):=⟨(IntKind.u64.wrap n).toNat,by rw [IntKind.wrap_u64];omega⟩
 have hml:m < 18446744073709551616:=by rw [IntKind.wrap_u64] at hm;omega
 have kb:=B3n m hml
 by_cases h:n < 0
 ·obtain ⟨M,hM⟩:∃ M:Nat,M=ofW n:=⟨_,rfl⟩
  have hMm:M=m+115792089237316195423570985008687907853269984665640564039439137263839420088320:=by
   rw [IntKind.wrap_u64] at hm;rw [hM];unfold ofW;omega
  have kb2:=B3m m M hMm hml
  have hok:=A0r m
  have hz2:Arr (w0.setCells (w.heap.size+1) 0 (Q4 m)) (w.heap.size+1) 4 (Q4 m):=hz.setCells _ (A0r m)
  have f1:=hz.free
  have f2:=hz2.free
  have hz3:Arr ((w0.setCells (w.heap.size+1) 0 (Q4 m)).setCells (w.heap.size+1) 0 (Q4 M)) (w.heap.size+1) 4 (Q4 M):=hz2.setCells _ (A0r M)
  have r3:=hz3.row
  have hok2:=A0r M
  rw [← hM]
  have HN:=hid hMm
  clear hMm hM hb0 f0 hz hz2 hz3
  rw [e0] at f1 f2 r3
  clear e0
  go_enter Tryz.func213,Tryz.ntmps213
  go_wp2_with fail
  refine (A3H M _).mono ?_
  rintro e w1 ⟨rfl,hb⟩
  rw [← HE.out] at hb
  have hw:Below w.heap.size w ((w0.setCells (w.heap.size+1) 0 (Q4 m)).setCells (w.heap.size+1) 0 (Q4 M)):=(HB.out.setCells (by omega) _ _).setCells (by omega) _ _
  have f5:((w0.setCells (w.heap.size+1) 0 (Q4 m)).setCells (w.heap.size+1) 0 (Q4 M)).free? w.heap.size 0 32=true:=by
   have ho:A2 (· = w.heap.size+1) w0 ((w0.setCells (w.heap.size+1) 0 (Q4 m)).setCells (w.heap.size+1) 0 (Q4 M)):=((A2.refl (· = w.heap.size+1) _).setCells (fun _=>rfl) _ _).setCells (fun _=>rfl) _ _
   rw [ho.free? (C4 HF.out) (by omega)];exact HF.out
  have f6:w1.free? w.heap.size 0 32=true:=by rw [(D2 hb).2 _ _ _ (C4 f5)];exact f5
  have hbe:=C7 32 M
  have HBX:=hid (hw.trans (hb.mono hw.size))
  clear hb hw f5 r3 f1 f2
  go_wp2
  exact F2 A1L rfl _ rfl rfl f6 hbe ⟨rfl,HBX.out.setCells (by omega) _ _⟩
 ·have hMm:ofW n=m:=by
   rw [IntKind.wrap_u64] at hm;unfold ofW;omega
  have hok:=A0r m
  have hz2:Arr (w0.setCells (w.heap.size+1) 0 (Q4 m)) (w.heap.size+1) 4 (Q4 m):=hz.setCells _ (A0r m)
  have f1:=hz.free
  have r3:=hz2.row
  rw [hMm]
  clear hMm hb0 f0 hz hz2
  rw [e0] at f1 r3
  clear e0
  go_enter Tryz.func213,Tryz.ntmps213
  go_wp2_with fail
  refine (A3H m _).mono ?_
  rintro e w1 ⟨rfl,hb⟩
  rw [← HE.out] at hb
  have hw:Below w.heap.size w (w0.setCells (w.heap.size+1) 0 (Q4 m)):=HB.out.setCells (by omega) _ _
  have f5:(w0.setCells (w.heap.size+1) 0 (Q4 m)).free? w.heap.size 0 32=true:=by
   have ho:A2 (· = w.heap.size+1) w0 (w0.setCells (w.heap.size+1) 0 (Q4 m)):=(A2.refl (· = w.heap.size+1) _).setCells (fun _=>rfl) _ _
   rw [ho.free? (C4 HF.out) (by omega)];exact HF.out
  have f6:w1.free? w.heap.size 0 32=true:=by rw [(D2 hb).2 _ _ _ (C4 f5)];exact f5
  have hbe:=C7 32 m
  have HBX:=hid (hw.trans (hb.mono hw.size))
  clear hb hw f5 r3 f1
  go_wp2
  exact F2 A1L rfl _ rfl rfl f6 hbe ⟨rfl,HBX.out.setCells (by omega) _ _⟩
end Go.Proofs.YtfflppedbopdpaaGreat
namespace Go.Proofs.YtfflppedbopdpaaGreat
open Go.RowKit Go.Mun
theorem A7Z {E:Env} {w:World} {own:Go.Mun.Own} {c:FV} {f:Fr} {S:St} {n:Nat} {v:Value} {r:Res} (k F:Nat) (hk:k < 256) (hp:k < 95∨127 < k) (hl:k < 160∨164 < k) (hm:(k,F,Option.none)∈A5g) (hF:∀ args W,(callFunc F args).run Tryz.prog W = .ok (.enter F args) W) (ht:A2o E.tab) (h:I8 E w own c f S n) (hr:r≠.none)
  (hs:Calls Tryz.prog F #[.pointer (some ⟨E.fb,0,none⟩),v] w (Z4 E r)) :
  Calls Tryz.prog 374 #[.pointer (some ⟨E.fb,0,none⟩),.int .u8 (k:Int),v] w (Z4 E r):=by
 have hr0:=h.run.chg h.chg
 have c0:=A2h h.row
 have c1:=hr0.tp
 have hlk:=A8t hr0 ht (k:=k) (f:=F) k rfl hk hm
 have HS:=hid hs
 have HR:=hid hr
 have d1:decide ((95:Int)≤(k:Int))=decide (95≤k):=decide_eq_decide.2 (by omega)
 have d2:decide ((k:Int)≤127)=decide (k≤127):=decide_eq_decide.2 (by omega)
 have d3:decide ((160:Int)≤(k:Int))=decide (160≤k):=decide_eq_decide.2 (by omega)
 have d4:decide ((k:Int)≤164)=decide (k≤164):=decide_eq_decide.2 (by omega)
 have hpl:(k < 95∨95≤k∧127 < k):=by omega
 have hll:(k < 160∨160≤k∧164 < k):=by omega
 clear hr0 ht h hs hr hp hl hm hk
 rcases hpl with h1 | ⟨h1,h2⟩
 ·have e1:decide (95≤k)=false:=decide_eq_false (by omega)
  have e3:decide (160≤k)=false:=decide_eq_false (by omega)
  rw [e1] at d1;rw [e3] at d3
  clear e1 e3 h1 hll d2 d4
  go_enter Tryz.func374,Tryz.ntmps374
  go_wp2_with fail
  refine HS.out.mono ?_
  intro e w2 hp
  rcases Z4.split HR.out hp with ⟨rfl,hp⟩ | ⟨y,rfl,hp⟩
  ·have HP:=hid hp
   clear hp
   go_wp2
   go_end0
   exact HP.out
  ·have HP:=hid hp
   clear hp
   go_wp2
   exact ⟨rfl,HP.out⟩
 ·have e1:decide (95≤k)=true:=decide_eq_true h1
  have e2:decide (k≤127)=false:=decide_eq_false (by omega)
  rw [e1] at d1;rw [e2] at d2
  clear e1 e2 h1 h2
  rcases hll with h3 | ⟨h3,h4⟩
  focus
   have e3:decide (160≤k)=false:=decide_eq_false (by omega)
   rw [e3] at d3
   clear e3 h3 d4
  rotate_left
  focus
   have e3:decide (160≤k)=true:=decide_eq_true h3
   have e4:decide (k≤164)=false:=decide_eq_false (by omega)
   rw [e3] at d3;rw [e4] at d4
   clear e3 e4 h3 h4
  all_goals
   go_enter Tryz.func374,Tryz.ntmps374
   go_wp2_with fail
   refine HS.out.mono ?_
   intro e w2 hp
   rcases Z4.split HR.out hp with ⟨rfl,hp⟩ | ⟨y,rfl,hp⟩
   ·have HP:=hid hp
    clear hp
    go_wp2
    go_end0
    exact HP.out
   ·have HP:=hid hp
    clear hp
    go_wp2
    exact ⟨rfl,HP.out⟩
section
variable {E:Env} {w:World} {own:Go.Mun.Own} {c:FV} {f:Fr} {S:St} {n:Nat} {v:Value}
theorem B4E (h:I8 E w own c f S n):Calls Tryz.prog 137 #[.pointer (some ⟨E.fb,0,none⟩),v] w (Z4 E (.ok f S)):=by
 have H:=hid h
 clear h
 go_enter Tryz.func137,Tryz.ntmps137
 go_wp2
 go_end0
 exact ⟨rfl,own,c,n,H.out⟩
theorem A5U (x:Int) (hx : -9223372036854775808≤x∧x≤9223372036854775807) (hl:f.stack.length < 1024) (h:I8 E w own c f S n) :
  Calls Tryz.prog 222 #[.pointer (some ⟨E.fb,0,none⟩),.int .i64 x] w (Z4 E (.ok { f with stack:=f.stack++[ofW x] } S)):=by
 have HO:=hid (B5g x hx.1 hx.2 w)
 have H:=hid h
 have hW:ofW x < wW:=by unfold ofW wW;omega
 clear h hx
 go_enter Tryz.func222,Tryz.ntmps222
 go_wp2_with fail
 refine HO.out.mono ?_
 rintro e w1 ⟨rfl,hb⟩
 have HP:=hid (A7G (ofW x) hW hl (H.out.below hb))
 clear hb hW hl
 go_wp2_with fail
 refine HP.out.mono ?_
 rintro e w2 ⟨rfl,c',h2⟩
 have H2:=hid h2
 clear h2
 go_wp2
 go_end0
 exact ⟨rfl,own,c',n,H2.out⟩
theorem B3c (b:Bool) (hl:f.stack.length < 1024) (h:I8 E w own c f S n) :
  Calls Tryz.prog 205 #[.pointer (some ⟨E.fb,0,none⟩),.bool b] w (Z4 E (.ok { f with stack:=f.stack++[if b then 1 else 0] } S)):=by
 have e1:ofW 1=1:=by decide
 have e0:ofW 0=0:=by decide
 cases b
 case' true =>
  have HP:=hid (A5U 1 (by omega) hl h)
  rw [e1] at HP
 case' false =>
  have HP:=hid (A5U 0 (by omega) hl h)
  rw [e0] at HP
 all_goals
  clear h hl
  go_enter Tryz.func205,Tryz.ntmps205
  go_wp2_with fail
  refine HP.out.mono ?_
  rintro e w2 ⟨rfl,h2⟩
  have H2:=hid h2
  clear h2
  go_wp2
  go_end0
  exact ⟨rfl,H2.out⟩
theorem B0R (k:Nat) (hk:k < wW) (hl:f.stack.length < 1024) (h:I8 E w own c f S n) (hw:Wds E.w0.heap.size w v [k]) :
  Calls Tryz.prog 106 #[.pointer (some ⟨E.fb,0,none⟩),v] w (Z4 E (.ok { f with stack:=f.stack++[if k=0 then 1 else 0] } S)):=by
 obtain ⟨g,cc,rfl,hgb,hgl,hc1,hc2,hrow⟩:=hw.at (by simp)
 have hg0:=hrow 0 (by simp)
 simp only [Nat.zero_mul,List.getElem?_cons_zero,Option.getD_some] at hg0
 have hlk:=B0 32 k
 have HQ:=eqW (a:=k) (b:=0) hk (by unfold wW;omega) w
 obtain ⟨b,hb⟩:∃ b,b=decide (k=0):=⟨_,rfl⟩
 rw [← hb] at HQ
 have HT:=B3c b hl h
 have hcx:([k]:List Nat).length=1:=rfl
 rw [hcx]
 have eb:(if k=0 then (1:Nat) else 0)=(if b then 1 else 0):=by rw [hb];simp
 rw [eb]
 obtain ⟨y,hy⟩:∃ y:Nat,y=(if b then 1 else 0):=⟨_,rfl⟩
 rw [← hy] at HT ⊢
 have HTH:Hid (∀ W,W=w→Calls Tryz.prog 205 #[.pointer (some ⟨E.fb,0,none⟩),.bool b] W (Z4 E (.ok { f with stack:=f.stack++[y] } S))):=by
  intro W hW;rw [hW];exact HT
 clear h hw hrow hgb hgl hc1 hc2 hcx hl hk eb hb hy HT
 go_enter Tryz.func106,Tryz.ntmps106
 go_wp2_with fail
 refine (HTH.out _ rfl).mono ?_
 rintro e w2 ⟨rfl,h2⟩
 have H2:=hid h2
 clear h2
 go_wp2
 go_end0
 exact ⟨rfl,H2.out⟩
end
end Go.Proofs.YtfflppedbopdpaaGreat
