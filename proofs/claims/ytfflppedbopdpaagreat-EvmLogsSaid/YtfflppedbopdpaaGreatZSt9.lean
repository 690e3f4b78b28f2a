/- A part of the proof of EvmLogs: ZSt9. -/
import Derived.Test.YtfflppedbopdpaaGreatZSt2
set_option linter.unusedVariables false
set_option maxRecDepth 1000000
set_option maxHeartbeats 8000000
set_option linter.unusedSimpArgs false
namespace Go.Proofs.YtfflppedbopdpaaGreat
open Go.RowKit Go.Mun

theorem B8f:P4 Tryz.prog 92 294 (.agg #[.int .i64 0,.int .i64 0]) 2 16:=.mk' Tryz.underlying92 (by kernel_rfl) (by rfl) (by decide)
theorem B5v {w:World} {own:Own} {sb:Nat} {S:St} {M:List (Nat × St)} {n:Nat} (h:StateAt TU w own sb S M n) (hn:n≤1099511627776) :
  Calls Tryz.prog 237 #[.pointer (some ⟨sb,0,none⟩)] w fun e w' => ∃ x:Nat,e = .returned (.int .i64 x)∧(∀ m∈M,m.1 < x)∧x≤n+1∧∃ own',StateAt TU w' own' sb S (M++[(x,S)]) (n+1)∧T6 w w' own own':=by
 obtain ⟨mb,uv,mv,last,E,U,mk,s,hM,hb1,hb2,hb3⟩:=h
 obtain ⟨am,cm,rfl⟩:=Q7 s.mrow
 obtain ⟨au,cu,rfl⟩:=Q7 s.urow
 obtain ⟨c0,c1,c2,c3⟩:=s.cells
 have hw1:IntKind.i64.wrap ((last:Int)+1)=(last:Int)+1:=U6 _ (by omega) (by omega)
 have hf3:w.free? sb 3 1=true:=World.free?_sub s.free (by omega)
 have hsbl:sb < w.heap.size:=s.low _ (by rw [s.lab];simp)
 have o01:A0 (· = sb) w (w.setCell ⟨sb,3,none⟩ (.int .i64 ((last:Int)+1))):=(A0.refl (· = sb) w).setCell (p:=⟨sb,3,none⟩) (fun _=>rfl) _
 have HW:Hid (∃ w1,w1=w.setCell ⟨sb,3,none⟩ (.int .i64 ((last:Int)+1))∧A0 (· = sb) w w1∧w1.row? sb 0 4=some [.map (some mb),.slice au U.length cu,.slice am mk.length cm,.int .i64 ((last:Int)+1)]∧w1.free? sb 0 4=true):=
  ⟨_,rfl,o01,by rw [A1c s.row (by omega)];rfl,by rw [D0];exact s.free⟩
 obtain ⟨w1,e1,o1,r1,f1⟩:=HW.out
 have HS:=hid s
 have HE1:=hid e1
 have HO1:=hid o1
 have HR1:=hid r1
 have HF1:=hid f1
 have HM:=hid hM
 have HN:Hid (last≤n∧U.length≤n∧mk.length≤n∧E.length≤n+1000000):=⟨hb1,hb2,hb3⟩
 have rc:=fun (i:Nat) (hi:i < 4)=>World.row?_cell (w:=w1) r1 hi
 have q1:w1.cell? ⟨sb,1,none⟩=some (.slice au U.length cu):=rc 1 (by omega)
 have q2:w1.cell? ⟨sb,2,none⟩=some (.slice am mk.length cm):=rc 2 (by omega)
 have q3:w1.cell? ⟨sb,3,none⟩=some (.int .i64 ((last:Int)+1)):=rc 3 (by omega)
 have hz1:w1.heap.size=w.heap.size:=by rw [e1,World.size_setCell]
 have HZ1:=hid hz1
 have hsb1:sb < w1.heap.size:=by omega
 have hmo:∀ g,(Value.slice am mk.length cm).ownBlock=some g→¬ g=sb:=fun g hg e=>by have:=s.mklab g hg;rw [e,s.lab] at this;cases this
 have HMR:Hid (w1.ownsRow 0 294 2 (.slice am mk.length cm) mk.length (Q5 mk)):=A0.own s.mrow o1 hmo
 have HMo:=hid hmo
 have hlen:mk.length≤1099511627776:=by omega
 have hlen2:U.length≤1099511627776:=by omega
 clear s hM hb1 hb2 hb3 o01 HW e1 o1 r1 f1 rc hmo hz1
 generalize hk:mk.length=k at *
 have HK:=hid hk
 clear hk
 generalize hul:U.length=ul at *
 have HUL:=hid hul
 clear hul
 obtain ⟨T,hT⟩:∃ T:World→Prop,T=fun w'=>w'.cell? ⟨sb,1,none⟩=some (.slice au ul cu)∧w'.cell? ⟨sb,2,none⟩=some (.slice am k cm)∧w'.cell? ⟨sb,3,none⟩=some (.int .i64 ((last:Int)+1)):=⟨_,rfl⟩
 have HT:=hid hT
 have t0:T w1.drew:=by rw [hT];exact ⟨q1,q2,q3⟩
 clear hT
 go_enter Tryz.func237,Tryz.ntmps237
 go_wp2_with fail
 rw [← HE1.out]
 refine A1t T [19] [0,1,2,3,4,5,6,7,8,9,10,11,12,13,14] [15,16,17,18,19] (by kernel_rfl) (by kernel_rfl) t0 ?_
 refine A6 (.pointer (some ⟨sb,0,none⟩)) rfl (by rfl) (fun w' hs=>?_) (fun _ _ _ h=>h) ?_
 ·go_simp
 refine A6 (.pointer (some ⟨sb,0,none⟩)) rfl (by rfl) (fun w' hs=>?_) (fun _ _ _ h=>h) ?_
 ·go_simp
 refine A6 (.pointer (some ⟨sb,0,none⟩)) rfl (by rfl) (fun w' hs=>?_) (fun _ _ _ h=>h) ?_
 ·go_simp
 refine A6 (.pointer (some ⟨sb,2,none⟩)) rfl (by rfl) (fun w' hs=>?_) (fun _ _ _ h=>h) ?_
 ·go_simp
 refine A6 (.slice am k cm) rfl (by rfl) (fun w' hs=>?_) (fun _ _ _ h=>h) ?_
 ·rw [HT.out] at hs
  obtain ⟨s1,s2,s3⟩:=hs
  go_simp
 refine A6 (.pointer (some ⟨sb,0,none⟩)) rfl (by rfl) (fun w' hs=>?_) (fun _ _ _ h=>h) ?_
 ·go_simp
 refine A6 (.pointer (some ⟨sb,0,none⟩)) rfl (by rfl) (fun w' hs=>?_) (fun _ _ _ h=>h) ?_
 ·go_simp
 refine A6 (.pointer (some ⟨sb,3,none⟩)) rfl (by rfl) (fun w' hs=>?_) (fun _ _ _ h=>h) ?_
 ·go_simp
 refine A6 (.int .i64 ((last:Int)+1)) rfl (by rfl) (fun w' hs=>?_) (fun _ _ _ h=>h) ?_
 ·rw [HT.out] at hs
  obtain ⟨s1,s2,s3⟩:=hs
  go_simp
 refine A6 (.pointer (some ⟨sb,0,none⟩)) rfl (by rfl) (fun w' hs=>?_) (fun _ _ _ h=>h) ?_
 ·go_simp
 refine A6 (.pointer (some ⟨sb,0,none⟩)) rfl (by rfl) (fun w' hs=>?_) (fun _ _ _ h=>h) ?_
 ·go_simp
 refine A6 (.pointer (some ⟨sb,1,none⟩)) rfl (by rfl) (fun w' hs=>?_) (fun _ _ _ h=>h) ?_
 ·go_simp
 refine A6 (.slice au ul cu) rfl (by rfl) (fun w' hs=>?_) (fun _ _ _ h=>h) ?_
 ·rw [HT.out] at hs
  obtain ⟨s1,s2,s3⟩:=hs
  go_simp
 refine A6 (.int .i64 ul) rfl (by rfl) (fun w' hs=>?_) (fun _ _ _ h=>h) ?_
 ·go_simp
 refine A6 (.agg #[.int .i64 ((last:Int)+1),.int .i64 ul]) rfl (by rfl) (fun w' hs=>?_) (fun _ _ _ h=>h) ?_
 ·go_simp
 refine P5 ?_
 simp only [Act.put,D7,D6,D5]
 have t1:T (w1.drew.alloc (.cells #[.int .i64 ((last:Int)+1),.int .i64 ul] 294)):=by
  rw [HT.out]
  exact ⟨(World.cell?_alloc_lt _ _ _ hsb1).trans q1,(World.cell?_alloc_lt _ _ _ hsb1).trans q2,(World.cell?_alloc_lt _ _ _ hsb1).trans q3⟩
 refine C5 rfl (fun K hK=>?_)
 go_simp
 refine hK.out _ _ t1 ?_
 clear hK K
 have HMR2:Hid ((w1.drew.alloc (.cells #[.int .i64 ((last:Int)+1),.int .i64 ul] 294)).ownsRow 0 294 2 (.slice am k cm) k (Q5 mk)):=A0.own (S:=fun _=>False) HMR.out ((A0.refl _ _).drew.alloc _) (fun _ _ h=>h)
 refine C5 rfl (fun K hK=>?_)
 refine K9 B8f rfl _ _ rfl HMR2.out rfl (G8.new w1.drew (m:=1) (size:=2) (cs:=[.int .i64 ((last:Int)+1),.int .i64 ul]) 294 (0,0) rfl 1) rfl (by unfold maxLen;omega) (by omega) ?_
 intro mv' w3 hr3 ho3 hl3
 have o13:A0 (fun g=>(Value.slice am k cm).ownBlock=some g) w1 w3:=((A0.refl _ _).drew.alloc _).trans ho3 (fun i hi _=>hi)
 have hsbn:¬ (Value.slice am k cm).ownBlock=some sb:=fun e=>HMo.out sb e rfl
 have t3:T w3:=by
  rw [HT.out]
  exact ⟨(o13.cell? hsb1 hsbn).trans q1,(o13.cell? hsb1 hsbn).trans q2,(o13.cell? hsb1 hsbn).trans q3⟩
 have hv3:mv'.oneCell'=true:=by obtain ⟨_,_,rfl⟩:=Q7 hr3;rfl
 have hf3:w3.free? sb 2 1=true:=by rw [o13.free? hsb1 hsbn];exact World.free?_sub HF1.out (by omega)
 have hl3':∀ g,mv'.ownBlock=some g→(Value.slice am k cm).ownBlock=some g∨w.heap.size≤g:=fun g hg=>by
  rcases hl3 g hg with h | h
  ·exact .inl h
  ·have h':w1.heap.size+1≤g:=by first | exact h | simpa using h
   have:=HZ1.out
   exact .inr (by omega)
 have HA:Hid (∃ own',StateAt TU (w3.setCell ⟨sb,2,none⟩ mv') own' sb S (M++[(last+1,S)]) (n+1)∧T6 w (w3.setCell ⟨sb,2,none⟩ mv') own own'):=by
  obtain ⟨hext,hle⟩:=Own.mark_le (l:=.marks) hl3' HS.out.mklab HS.out.low
  have ho4:A0 (fun g=>(Value.slice am k cm).ownBlock=some g∨g=sb) w (w3.setCell ⟨sb,2,none⟩ mv'):=
   ((HO1.out.mono (fun _ h => .inr h)).trans o13 (fun i hi _ => .inl hi)).setCell (p:=⟨sb,2,none⟩) (fun _ => .inr rfl) _
  have hr1':w3.row? sb 0 4=some [.map (some mb),.slice au ul cu,.slice am k cm,.int .i64 ((last:Int)+1)]:=by rw [o13.row? hsb1 hsbn];exact HR1.out
  have hne:∀ g,mv'.ownBlock=some g→¬ g=sb:=fun g hg e=>by
   rcases hl3' g hg with h | h
   ·exact HMo.out g h e
   ·omega
  have hr4:(w3.setCell ⟨sb,2,none⟩ mv').ownsRow 0 294 2 mv' (mk++[(last+1,U.length)]).length (Q5 (mk++[(last+1,U.length)])):=by
   rw [A7O,List.length_append,HK.out,HUL.out]
   exact A0.own (S:=(· = sb)) hr3 ((A0.refl (· = sb) w3).setCell (p:=⟨sb,2,none⟩) (fun _=>rfl) _) hne
  have hlow4:∀ b,own b≠none→b < (w3.setCell ⟨sb,2,none⟩ mv').heap.size:=fun b hb=>Nat.lt_of_lt_of_le (HS.out.low b hb) ho4.size
  have hcore:=A3T (w1:=w3.setCell ⟨sb,2,none⟩ mv') (own':=own.mark mv' .marks) (mv':=mv') (last':=last+1) (mk':=mk++[(last+1,U.length)]) HS.out.toStaCore hle (Own.mark_low hr4 hlow4) ho4
   (by rw [A1c hr1' (by omega)];rfl) (by rw [D0,o13.free? hsb1 hsbn];exact HF1.out) hr4 (fun g hg=>by unfold Own.mark;rw [if_pos hg])
   (by
    refine List.pairwise_append.2 ⟨HS.out.mks,List.pairwise_singleton _ _,fun m hm m' hm'=>?_⟩
    obtain rfl:m'=(last+1,U.length):=by simpa using hm'
    have:=HS.out.mkle m hm
    exact ⟨Nat.lt_succ_of_le this.1,this.2⟩)
   (fun m hm=>by
    rcases List.mem_append.1 hm with hm | hm
    ·have:=HS.out.mkle m hm;exact ⟨Nat.le_succ_of_le this.1,this.2⟩
    ·obtain rfl:m=(last+1,U.length):=by simpa using hm
     exact ⟨Nat.le_refl _,Nat.le_refl _⟩)
  have hN:=HN.out
  have hK:=HK.out
  have hUL:=HUL.out
  have hcore:StaCore TU (w3.setCell ⟨sb,2,none⟩ mv') (own.mark mv' .marks) sb mb (.slice au ul cu) mv' (last+1) E U (mk++[(last+1,U.length)]) S:=hcore
  refine ⟨own.mark mv' .marks,⟨mb,.slice au ul cu,mv',last+1,E,U,mk++[(last+1,U.length)],⟨hcore,HS.out.keys,HS.out.nodup⟩,?_,by omega,by omega,by rw [List.length_append,hK];simp;omega,by omega⟩,⟨hext,ho4.mono fun b hb=>?_⟩⟩
  ·rw [HM.out,List.map_append]
   simp only [List.map_cons,List.map_nil,Nat.sub_self,List.take_zero,A10,List.foldl_nil]
   rw [← hUL]
  ·rcases hb with hb | rfl
   ·rw [HS.out.mklab b hb];simp
   ·rw [HS.out.lab];simp
 have hMx:Hid (∀ m∈M,m.1 < last+1):=by
  intro m hm
  rw [HM.out] at hm
  obtain ⟨m',hm',rfl⟩:=List.mem_map.1 hm
  exact Nat.lt_succ_of_le (HS.out.mkle m' hm').1
 have hc3:(w3.setCell ⟨sb,2,none⟩ mv').cell? ⟨sb,3,none⟩=some (.int .i64 ((last:Int)+1)):=by
  rw [World.cell?_setCell_other _ _ _ _ (by simp)]
  rw [HT.out] at t3
  exact t3.2.2
 clear hr3 ho3 hl3 hl3' o13
 refine hK.out _ _ t3 ?_
 clear hK K
 refine C5 rfl (fun K hK=>?_)
 go_simp
 refine hK.out _ _ t3 ?_
 clear hK K
 refine C5 rfl (fun K hK=>?_)
 go_simp
 refine hK.out _ _ t3 ?_
 clear hK K
 refine A7k rfl (by decide) (fun K hK=>?_)
 go_simp
 refine hK.out _ _ (V4 ?_)
 clear hK K
 generalize w3.setCell ⟨sb,2,none⟩ mv'=w4 at *
 go_wp2
 go_ret
 exact ⟨last+1,by simp,hMx.out,by have:=HN.out;omega,HA.out⟩
theorem B6o (n at' x:Nat) (b:Nat) (w:World) (hc:w.cell? ⟨b,0,none⟩=some (.int .i64 x)) :
  Calls Tryz.prog 299 #[.agg #[.int .i64 n,.int .i64 at'],.pointer (some ⟨b,0,none⟩)] w fun e w'=>e = .returned (.bool (decide (n=x)))∧Below w.heap.size w w':=by
 have hlt:b < w.heap.size:=World.block_lt_of_cell? w _ hc
 by_cases h:n=x
 ·have h1:((n:Int) == (x:Int))=true:=by simp [h]
  have H:Hid (decide (n=x)=true):=by simp [Hid,h]
  clear h
  go_enter Tryz.func299,Tryz.ntmps299
  go_wp2
  go_ret
  exact ⟨by rw [H.out];rfl,(Below.refl _ _).alloc (Nat.le_refl _) _⟩
 ·have h1:((n:Int) == (x:Int))=false:=by simp;omega
  have H:Hid (decide (n=x)=false):=by simp [Hid,h]
  clear h
  go_enter Tryz.func299,Tryz.ntmps299
  go_wp2
  go_ret
  exact ⟨by rw [H.out];rfl,(Below.refl _ _).alloc (Nat.le_refl _) _⟩
theorem B6K (n at' x:Nat) (b:Nat) (w:World) (hc:w.cell? ⟨b,0,none⟩=some (.int .i64 x)) :
  Calls Tryz.prog 294 #[.agg #[.int .i64 n,.int .i64 at'],.pointer (some ⟨b,0,none⟩)] w fun e w'=>e = .returned (.bool (decide (n=x)))∧Below w.heap.size w w':=by
 have hlt:b < w.heap.size:=World.block_lt_of_cell? w _ hc
 by_cases h:n=x
 ·have h1:((n:Int) == (x:Int))=true:=by simp [h]
  have H:Hid (decide (n=x)=true):=by simp [Hid,h]
  clear h
  go_enter Tryz.func294,Tryz.ntmps294
  go_wp2
  go_ret
  exact ⟨by rw [H.out];rfl,(Below.refl _ _).alloc (Nat.le_refl _) _⟩
 ·have h1:((n:Int) == (x:Int))=false:=by simp;omega
  have H:Hid (decide (n=x)=false):=by simp [Hid,h]
  clear h
  go_enter Tryz.func294,Tryz.ntmps294
  go_wp2
  go_ret
  exact ⟨by rw [H.out];rfl,(Below.refl _ _).alloc (Nat.le_refl _) _⟩

def P2 (x:Nat):List (Nat × Nat)→Int
 | [] => -1
 | m :: r=>if m.1=x then 0 else if P2 x r < 0 then -1 else P2 x r+1
theorem A5s (x:Nat):∀ l:List (Nat × Nat),-1≤P2 x l
 | []=>by simp [P2]
 | m :: r=>by
  have:=A5s x r
  simp only [P2]
  split
  ·omega
  ·split <;> omega
theorem A17 (x:Nat):∀ (mk:List (Nat × Nat)) (k:Nat),k≤mk.length→(∀ i m,i < k→mk[i]? = some m→m.1≠x)→P2 x mk=if P2 x (mk.drop k) < 0 then -1 else P2 x (mk.drop k)+k
 | mk,0,_,_=>by
  have:=A5s x mk
  rw [List.drop_zero]
  split <;> omega
 | [],k+1,h,_=>by simp at h
 | m :: r,k+1,h,hne=>by
  have h0:m.1≠x:=hne 0 m (by omega) rfl
  rw [List.drop_succ_cons]
  have ih:=A17 x r k (by simpa using h) (fun i m' hi hm=>hne (i+1) m' (by omega) (by simpa using hm))
  have h1:P2 x (m :: r)=if P2 x r < 0 then -1 else P2 x r+1:=by rw [P2,if_neg h0]
  rw [h1,ih]
  by_cases h2:P2 x (r.drop k) < 0
  ·rw [if_pos h2,if_pos (by omega),if_pos h2]
  ·rw [if_neg h2,if_neg (by omega),if_neg h2];push_cast;omega
theorem A8Y:∀ {mk:List (Nat × Nat)} {i:Nat} {m:Nat × Nat},mk[i]? = some m→((Q5 mk).drop (2*i)).take 2 = [.int .i64 m.1,.int .i64 m.2]
 | [],i,m,h=>by simp at h
 | a :: r,0,m,h=>by simp at h;subst h;simp [Q5]
 | a :: r,i+1,m,h=>by
  have:Q5 (a :: r) = .int .i64 a.1 :: .int .i64 a.2 :: Q5 r:=by simp [Q5]
  rw [this,show 2*(i+1)=2*i+1+1 by omega,List.drop_succ_cons,List.drop_succ_cons]
  exact A8Y (by simpa using h)
theorem A5r {w:World} {mv:Value} {mk:List (Nat × Nat)} (h:w.ownsRow 0 294 2 mv mk.length (Q5 mk)) :
  ∃ g c,mv = .slice g mk.length c∧(mk≠[]→∃ b,g=some ⟨b,0,none⟩∧b < w.heap.size∧∀ i m,mk[i]? = some m→w.cell? ⟨b,i*2,none⟩=some (.int .i64 m.1)∧w.cell? ⟨b,i*2+1,none⟩=some (.int .i64 m.2)):=by
 obtain ⟨g,c,rfl⟩:=Q7 h
 refine ⟨g,c,rfl,fun hne=>?_⟩
 rcases h.2 with ⟨e,h0⟩ | ⟨b,cap,cur,e,_,hb,_⟩
 ·exact absurd (List.eq_nil_of_length_eq_zero h0) hne
 ·cases e
  refine ⟨b,rfl,(Array.getElem?_eq_some_iff.1 hb).1,fun i m hm=>?_⟩
  have hc:=fun j u hj=>h.cells (g:=b) rfl j u hj
  have h2:=A8Y hm
  have e0:(Q5 mk)[2*i]? = some (.int .i64 m.1):=by
   have:=congrArg (fun l=>l[0]?) h2
   simpa [List.getElem?_take,List.getElem?_drop] using this
  have e1:(Q5 mk)[2*i+1]? = some (.int .i64 m.2):=by
   have:=congrArg (fun l=>l[1]?) h2
   simpa [List.getElem?_take,List.getElem?_drop] using this
  have a0:=hc _ _ e0
  have a1:=hc _ _ e1
  rw [U9 rfl,Nat.zero_add] at a0 a1
  rw [Nat.mul_comm i 2]
  exact ⟨a0,a1⟩

theorem A5A (F:Nat) (x bx:Nat) (hE:∀ args w,(callFunc F args).run Tryz.prog w = .ok (.enter F args) w) (hF:∀ (n at':Nat) (w:World),w.cell? ⟨bx,0,none⟩=some (.int .i64 x)→Calls Tryz.prog F #[.agg #[.int .i64 n,.int .i64 at'],.pointer (some ⟨bx,0,none⟩)] w fun e w'=>e = .returned (.bool (decide (n=x)))∧Below w.heap.size w w')
  (g:Option Addr) (k c:Nat) (mk:List (Nat × Nat)) (hk:k=mk.length) (hk2:k≤1099511627776) (w:World)
  (hm:mk≠[]→∃ b,g=some ⟨b,0,none⟩∧b < w.heap.size∧∀ i m,mk[i]? = some m→w.cell? ⟨b,i*2,none⟩=some (.int .i64 m.1)∧w.cell? ⟨b,i*2+1,none⟩=some (.int .i64 m.2)) (hc:w.cell? ⟨bx,0,none⟩=some (.int .i64 x)) :
  Calls Tryz.prog 293 #[.slice g k c,.func (Fn.func F) #[] #[.pointer (some ⟨bx,0,none⟩)]] w fun e w'=>e = .returned (.int .i64 (P2 x mk))∧Below w.heap.size w w':=by
 have HF:=hid hF
 have HK:=hid hk
 have HM:=hid hm
 have HC:=hid hc
 clear hF hk hm hc
 go_enter Tryz.func293,Tryz.ntmps293
 go_wp2_with fail
 go_loopw [8] (fun i wr => ∃ j:Nat,j≤k∧i = .int .i64 j∧(∀ i m,i < j→mk[i]? = some m→m.1≠x)∧Below w.heap.size w wr) (fun i _=>k - (intOf i).toNat)
 case atStart=>exact ⟨0,Nat.zero_le _,rfl,fun i m hi=>by omega,Below.refl _ _⟩
 case round =>
  obtain ⟨j,hj,rfl,hne,hb⟩:=hrel
  have HNe:=hid hne
  have HB:=hid hb
  clear hne hb
  by_cases hlt:j < k
  ·obtain ⟨m,hmj⟩:∃ m,mk[j]? = some m:=⟨mk[j]'(by rw [← HK.out];exact hlt),by rw [List.getElem?_eq_getElem]⟩
   obtain ⟨b,rfl,hbl,hcells⟩:=HM.out (by rintro e;rw [e] at hmj;simp at hmj)
   obtain ⟨q0,q1⟩:=hcells j m hmj
   have p0:wr.cell? ⟨b,j*2,none⟩=some (.int .i64 m.1):=(HB.out.cell (p:=⟨b,j*2,none⟩) hbl).trans q0
   have p1:wr.cell? ⟨b,j*2+1,none⟩=some (.int .i64 m.2):=(HB.out.cell (p:=⟨b,j*2+1,none⟩) hbl).trans q1
   have HMJ:=hid hmj
   have hbl2:b < wr.heap.size:=Nat.lt_of_lt_of_le hbl HB.out.size
   have hcx:wr.cell? ⟨bx,0,none⟩=some (.int .i64 x):=(HB.out.cell (p:=⟨bx,0,none⟩) (World.block_lt_of_cell? w _ HC.out)).trans HC.out
   have HCX:=hid hcx
   clear hcells q0 q1 hmj hcx
   have hE1:=hE #[.agg #[.int .i64 m.1,.int .i64 m.2],.pointer (some ⟨bx,0,none⟩)] wr
   go_wp2_with fail
   refine (HF.out m.1 m.2 _ HCX.out).mono ?_
   rintro e w2 ⟨rfl,hb2⟩
   have HB2:Hid (Below w.heap.size w w2):=HB.out.trans (hb2.mono HB.out.size)
   clear hb2
   by_cases hx:m.1=x
   ·have hd:decide (m.1=x)=true:=decide_eq_true hx
    have HX:=hid hx
    have hw:IntKind.i64.wrap (j:Int)=(j:Int):=U6 _ (by omega) (by omega)
    clear hx
    go_wp2
    go_ret
    refine ⟨ret_int ?_,HB2.out⟩
    rw [A17 x mk j (by have:=HK.out;omega) HNe.out,List.drop_eq_getElem_cons (by have:=HK.out;omega)]
    have hm2:mk[j]'(by have:=HK.out;omega)=m:=by
     have:=HMJ.out;rw [List.getElem?_eq_getElem (by have:=HK.out;omega)] at this;exact Option.some.inj this
    have h0:P2 x (mk[j]'(by have:=HK.out;omega) :: mk.drop (j+1))=0:=by rw [hm2,P2,if_pos HX.out]
    rw [h0];simp
   ·have hd:decide (m.1=x)=false:=decide_eq_false hx
    have HX:=hid hx
    clear hx
    go_wp2_with fail
    go_roundw
    case rel =>
     refine ⟨j+1,by omega,by go_num,fun i m' hi hm'=>?_,HB2.out⟩
     by_cases e:i=j
     ·subst e;have:=HMJ.out;rw [hm'] at this;cases this;exact HX.out
     ·exact HNe.out i m' (by omega) hm'
    case measure=>simp [intOf];omega
  ·obtain rfl:j=k:=by omega
   go_wp2
   go_ret
   refine ⟨ret_int ?_,HB.out⟩
   rw [A17 x mk j (by have:=HK.out;omega) HNe.out,List.drop_of_length_le (by have:=HK.out;omega)]
   rfl
theorem own_take {w:World} {base e size n c k:Nat} {b:Nat} {xs:List Value} (h:w.ownsRow base e size (.slice (some ⟨b,0,none⟩) n c) n xs) (hk:k≤n):w.ownsRow base e size (.slice (some ⟨b,0,none⟩) k c) k (xs.take (k*size)):=by
 rcases h.2 with ⟨he,_⟩ | ⟨g,cap,cur,he,hb,hg,hn,hm,hs,ht⟩
 ·cases he
 ·cases he
  have hle:k*size≤n*size:=Nat.mul_le_mul_right _ hk
  refine ⟨by rw [List.length_take,h.1];omega,.inr ⟨b,c,cur,rfl,hb,hg,by omega,hm,hs,?_⟩⟩
  rw [← ht,List.take_take,Nat.min_eq_left hle]
theorem A3a:∀ (mk:List (Nat × Nat)) (k:Nat),k≤mk.length→(Q5 mk).take (k*2)=Q5 (mk.take k)
 | [],k,h=>by simp [Q5]
 | m :: r,0,_=>by simp [Q5]
 | m :: r,k+1,h=>by
  have h1:Q5 (m :: r) = .int .i64 m.1 :: .int .i64 m.2 :: Q5 r:=by simp [Q5]
  have h2:Q5 (m :: r.take k) = .int .i64 m.1 :: .int .i64 m.2 :: Q5 (r.take k):=by simp [Q5]
  rw [h1,List.take_succ_cons,h2,show (k+1)*2=k*2+1+1 by omega,List.take_succ_cons,List.take_succ_cons,A3a r k (by simpa using h)]
theorem A16 (x y:Nat):∀ mk:List (Nat × Nat),(mk++[(x,y)]).Pairwise (fun m m'=>m.1 < m'.1∧m.2≤m'.2)→P2 x (mk++[(x,y)])=mk.length
 | [],_=>by simp [P2]
 | m :: r,h=>by
  have h1:=List.pairwise_cons.1 h
  have h2:=(h1.1 (x,y) (by simp)).1
  have ih:=A16 x y r h1.2
  simp only [List.cons_append,P2]
  rw [if_neg (by simp only at h2;omega),ih,if_neg (by omega)]
  simp
theorem A4o {mk:List (Nat × Nat)} {M:List (Nat × St)} {x:Nat} {S0:St} {f:Nat × Nat→St} (h:M++[(x,S0)]=mk.map fun m=>(m.1,f m)):∃ mk1 y,mk=mk1++[(x,y)]∧M=mk1.map (fun m=>(m.1,f m))∧S0=f (x,y):=by
 obtain ⟨mk1,mk2,rfl,h1,h2⟩:=List.map_eq_append_iff.1 h.symm
 match mk2,h2 with
 | [m],h2 =>
  simp only [List.map_cons,List.map_nil,List.cons.injEq,and_true,Prod.mk.injEq] at h2
  obtain ⟨ha,hb⟩:=h2
  refine ⟨mk1,m.2,by rw [← ha],h1.symm,by rw [← hb,← ha]⟩

theorem A9M {T:UTy} {w:World} {own:Own} {sb mb:Nat} {uv mv:Value} {last:Nat} {E:List (Nat × Nat)} {U:List Y8} {S:St} (h:StaCore T w own sb mb uv mv last E U [] S) :
  StaCore T (w.setCell ⟨sb,1,none⟩ (.slice none 0 0)) own sb mb (.slice none 0 0) mv last E [] [] S:=by
 have ho:A0 (· = sb) w (w.setCell ⟨sb,1,none⟩ (.slice none 0 0)):=(A0.refl (· = sb) w).setCell (p:=⟨sb,1,none⟩) (fun _=>rfl) _
 have hR:∀ b,b=sb→own b=none∨own b=some .st∨own b=some .undos∨own b=some .marks∨own b=some .amap:=fun b hb=>by rw [hb,h.lab];simp
 exact { h with
  row:=by rw [A1c h.row (by omega)];rfl
  free:=by rw [D0];exact h.free
  map:=h.map.only ho (fun e=>by have:=h.mlab;rw [e,h.lab] at this;cases this)
  acc:=fun p hp=>(h.acc p hp).but ho hR
  urow:=World.ownsRow_nil _ _ _ _
  ulab:=fun g hg=>by simp [Value.ownBlock] at hg
  und:=fun u hu=>by cases hu
  mrow:=A0.own h.mrow ho (fun g hg e=>by have:=h.mklab g hg;rw [e,h.lab] at this;cases this)
  mkle:=fun m hm=>by cases hm
  low:=fun b hb=>by rw [World.size_setCell];exact h.low b hb }
theorem B5w {w:World} {own:Own} {sb:Nat} {S S0:St} {M:List (Nat × St)} {n x:Nat} (h:StateAt TU w own sb S (M++[(x,S0)]) n) (hn:n≤1099511627776) :
  Calls Tryz.prog 242 #[.pointer (some ⟨sb,0,none⟩),.int .i64 x] w fun e w'=>e = .returned (.tuple #[])∧StateAt TU w' own sb S M n∧T6 w w' own own:=by
 obtain ⟨mb,uv,mv,last,E,U,mk,s,hM,hb1,hb2,hb3⟩:=h
 obtain ⟨mk1,y,rfl,hM1,_⟩:=A4o hM
 have hb0:Below w.heap.size w (w.alloc (.cells #[.int .i64 x] 3)):=(Below.refl _ _).alloc (Nat.le_refl _) _
 have s0:=s.only (R:=fun _=>False) (A0.of_below_size hb0) (fun _ h=>h.elim)
 have hmr:=A5r s.mrow
 obtain ⟨g,c,rfl,hmr⟩:=hmr
 obtain ⟨b,rfl,hbl,hcells⟩:=hmr (by simp)
 obtain ⟨c0,c1,c2,c3⟩:=s.cells
 have hlen:(mk1++[(x,y)]).length=mk1.length+1:=by simp
 have hcap:mk1.length+1≤c:=by
  rcases s.mrow.2 with ⟨he,_⟩ | ⟨_,cap,_,he,_,_,hn,_⟩
  ·cases he
  ·cases he;rw [hlen] at hn;exact hn
 have HW:Hid (∃ w0,w0=w.alloc (.cells #[.int .i64 x] 3)∧Below w.heap.size w w0∧O6 TU w0 own sb mb uv (.slice (some ⟨b,0,none⟩) (mk1++[(x,y)]).length c) last E U (mk1++[(x,y)]) S∧w0.cell? ⟨w.heap.size,0,none⟩=some (.int .i64 x)):=
  ⟨_,rfl,hb0,s0,by rw [World.cell?_alloc_new];rfl⟩
 obtain ⟨w0,e0,b0,s0,x0⟩:=HW.out
 have HE0:=hid e0
 have HB0:=hid b0
 have HS0:=hid s0
 have HX0:=hid x0
 have hidx:=A16 x y mk1 s.mks
 have HI:=hid hidx
 have HC:Hid (∀ i m,(mk1++[(x,y)])[i]? = some m→w0.cell? ⟨b,i*2,none⟩=some (.int .i64 m.1)∧w0.cell? ⟨b,i*2+1,none⟩=some (.int .i64 m.2)):=fun i m hm=>by
  obtain ⟨h1,h2⟩:=hcells i m hm
  exact ⟨(b0.cell (p:=⟨b,i*2,none⟩) hbl).trans h1,(b0.cell (p:=⟨b,i*2+1,none⟩) hbl).trans h2⟩
 have hbl0:b < w0.heap.size:=Nat.lt_of_lt_of_le hbl b0.size
 have hsb0:sb < w.heap.size:=s.low _ (by rw [s.lab];simp)
 have HM1:=hid hM1
 have HN:Hid (last≤n∧U.length≤n∧(mk1++[(x,y)]).length≤n∧E.length≤n+1000000):=⟨hb1,hb2,hb3⟩
 have hk2:mk1.length+1≤1099511627776:=by rw [hlen] at hb3;omega
 have hmf:∀ (fn:Fn) (first cap:Array Value) (w:World),(Instr.makeFunc fn first cap).run Tryz.prog w = .ok (.func fn first cap) w:=fun _ _ _ _=>rfl
 have hE:∀ args w,(callFunc 299 args).run Tryz.prog w = .ok (.enter 299 args) w:=fun _ _=>by kernel_rfl
 have HEn:=hid hE
 have HL:=hid hlen
 rw [hlen] at c2
 clear hM s hmr hcells s0 x0 b0 e0 HW hb0 hidx hM1 hb1 hb2 hb3 hE hlen c3
 generalize hk:mk1.length=k at *
 have HK:=hid hk
 clear hk
 go_enter Tryz.func242,Tryz.ntmps242
 go_wp2_with fail
 rw [← HE0.out]
 refine (A5A 299 x w.heap.size HEn.out (fun n1 a1 w1 hc=>B6o n1 a1 x w.heap.size w1 hc) (some ⟨b,0,none⟩) (k+1) c (mk1++[(x,y)]) (by rw [HL.out]) hk2 w0 (fun _=>⟨b,rfl,hbl0,HC.out⟩) HX0.out).mono ?_
 rintro e w1 ⟨rfl,hb1⟩
 rw [HI.out]
 have s1:=HS0.out.only (R:=fun _=>False) (A0.of_below_size hb1) (fun _ h=>h.elim)
 obtain ⟨d0,d1,d2,d3⟩:=s1.cells
 rw [HL.out] at d2
 have HS1:=hid s1
 have HB1:Hid (Below w.heap.size w w1):=HB0.out.trans (hb1.mono HB0.out.size)
 have hsb1:sb < w1.heap.size:=by have:=HB1.out.size;omega
 have hf2:w1.free? sb 2 1=true:=World.free?_sub s1.free (by omega)
 have hf1:(w1.setCell ⟨sb,2,none⟩ (.slice (some ⟨b,0,none⟩) k c)).free? sb 1 1=true:=by rw [D0];exact World.free?_sub s1.free (by omega)
 have hmo:∀ g,(Value.slice (some ⟨b,0,none⟩) (mk1++[(x,y)]).length c).ownBlock=some g→¬ g=sb:=fun g hg e=>by have:=s1.mklab g hg;rw [e,s1.lab] at this;cases this
 have hbs:¬ b=sb:=hmo b rfl
 have hkc:(k:Int)≤(c:Int):=by omega
 have ho2:A0 (· = sb) w1 (w1.setCell ⟨sb,2,none⟩ (.slice (some ⟨b,0,none⟩) k c)):=(A0.refl (· = sb) w1).setCell (p:=⟨sb,2,none⟩) (fun _=>rfl) _
 have hrow2:(w1.setCell ⟨sb,2,none⟩ (.slice (some ⟨b,0,none⟩) k c)).row? sb 0 4=some [.map (some mb),uv,.slice (some ⟨b,0,none⟩) k c,.int .i64 last]:=by rw [A1c s1.row (by omega)];rfl
 have hmrow:w1.ownsRow 0 294 2 (.slice (some ⟨b,0,none⟩) k c) mk1.length (Q5 mk1):=by
  have h0:=s1.mrow
  have h1:w1.ownsRow 0 294 2 (.slice (some ⟨b,0,none⟩) (k+1) c) (k+1) (Q5 (mk1++[(x,y)])):=by
   rw [HL.out] at h0;exact h0
  have:=own_take h1 (show k≤k+1 by omega)
  rw [A3a _ _ (by rw [HL.out];omega),← HK.out,List.take_left' rfl] at this
  rw [← HK.out];exact this
 have hcore:StaCore TU (w1.setCell ⟨sb,2,none⟩ (.slice (some ⟨b,0,none⟩) k c)) own sb mb uv (.slice (some ⟨b,0,none⟩) k c) last E U mk1 S:=
  A3T s1.toStaCore (fun _ _ h=>h) (fun b hb=>Nat.lt_of_lt_of_le (s1.low b hb) ho2.size) (ho2.mono fun _ h => .inr h) hrow2 (by rw [D0];exact s1.free)
   (A0.own hmrow ho2 (fun g hg=>by cases hg;exact hbs)) (fun g hg=>s1.mklab g (by cases hg;rfl)) (List.pairwise_append.1 s1.mks).1 (fun m hm=>s1.mkle m (List.mem_append_left _ hm))
 have HCo:=hid hcore
 have HO2:=hid ho2
 have hlab:=s1.lab
 have HLab:=hid hlab
 clear hb1 s1 d0 d3 hmo hmrow hrow2 hcore ho2 hlab
 by_cases hk0:k=0
 ·have HK0:=hid hk0
  have b0:((k:Int) == 0)=true:=by simp [hk0]
  have b1:¬ (k:Int) < 0:=by omega
  clear hk0
  go_wp2
  go_end0
  have hmk:mk1 = []:=List.eq_nil_of_length_eq_zero (by rw [HK.out,HK0.out])
  have hc2:=HCo.out
  rw [hmk] at hc2
  have hnd:(E.map Prod.snd++M8 []).Nodup:=by
   have:=(List.nodup_append.1 HS1.out.nodup).1
   simpa [M8] using this
  refine ⟨rfl,⟨mb,_,_,last,E,[],[],⟨A9M hc2,trivial,hnd⟩,by rw [HM1.out,hmk];rfl,HN.out.1,Nat.zero_le _,Nat.zero_le _,HN.out.2.2.2⟩,((T6.below own HB1.out).trans ⟨fun _ _=>rfl,HO2.out.mono fun b hb=>by rw [hb,HLab.out];simp⟩).trans ⟨fun _ _=>rfl,?_⟩⟩
  exact ((A0.refl (· = sb) _).setCell (p:=⟨sb,1,none⟩) (fun _=>rfl) _).mono fun b hb=>by rw [hb,HLab.out];simp
 ·have HK0:=hid hk0
  have b0:((k:Int) == 0)=false:=by simp [hk0]
  have b1:¬ (k:Int) < 0:=by omega
  clear hk0
  go_wp2
  go_end0
  refine ⟨rfl,⟨mb,uv,_,last,E,U,mk1,⟨HCo.out,HS1.out.keys,HS1.out.nodup⟩,HM1.out,HN.out.1,HN.out.2.1,by have:=HN.out.2.2.1;rw [HL.out] at this;have:=HK.out;omega,HN.out.2.2.2⟩,(T6.below own HB1.out).trans ⟨fun _ _=>rfl,HO2.out.mono fun b hb=>by rw [hb,HLab.out];simp⟩⟩
end Go.Proofs.YtfflppedbopdpaaGreat
