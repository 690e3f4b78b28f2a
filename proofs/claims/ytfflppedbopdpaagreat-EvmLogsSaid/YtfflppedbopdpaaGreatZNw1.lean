/- A part of the proof of EvmLogs: ZNw1. -/
import Derived.Test.YtfflppedbopdpaaGreatZEv16
set_option linter.unusedVariables false
set_option maxRecDepth 1000000
set_option maxHeartbeats 8000000
set_option linter.unusedSimpArgs false
namespace Go.Proofs.YtfflppedbopdpaaGreat
open Go.RowKit Go.Mun

theorem B2y {l:List Nat} {j p:Nat} (h:l.Nodup) (hp:p ∉ l):(l.set j p).Nodup:=by
 unfold List.Nodup at *
 rw [List.pairwise_iff_getElem] at *
 intro i k hi hk hik
 simp only [List.length_set] at hi hk
 rw [List.getElem_set,List.getElem_set]
 split
 ·split
  ·omega
  ·exact fun e=>hp (by rw [e];exact List.getElem_mem _)
 ·split
  ·exact fun e=>hp (by rw [← e];exact List.getElem_mem _)
  ·exact h i k hi hk hik
theorem A98 {E:List (Nat × Nat)} {a p:Nat} (hk:(E.map Prod.fst).Nodup) (h:(E.map Prod.snd).Nodup) (hp:p ∉ E.map Prod.snd):((N0 a p E).map Prod.snd).Nodup:=by
 cases e:I3 a E with
 | none =>
  rw [A1J (J7 e),List.map_append]
  refine List.nodup_append.2 ⟨h,by simp,fun x hx y hy=>?_⟩
  simp only [List.map_cons,List.map_nil,List.mem_singleton] at hy
  subst hy
  exact fun e=>hp (by rw [← e];exact hx)
 | some q =>
  obtain ⟨j,hj⟩:=List.mem_iff_getElem?.1 (L7 e)
  rw [A7G hk hj,List.map_set]
  exact B2y h hp
theorem B5q {w w':World} {own own':Own} {sb mb a p:Nat} {E:List (Nat × Nat)} {S:St} {x:Acc} (h:O6 TU w own sb mb (.slice none 0 0) (.slice none 0 0) 0 E [] [] S) (hext:∀ b,b < w.heap.size→own' b=own b) (hlow:∀ b,own' b≠none→b < w'.heap.size)
  (ho:A0 (· = mb) w w') (hm:E1 adV wA ptV w' mb (N0 a p E)) (hx:L5 w' own' p x) (hp:w.heap.size≤p):O6 TU w' own' sb mb (.slice none 0 0) (.slice none 0 0) 0 (N0 a p E) [] [] (Z9 S a x):=by
 have hle:own.le own':=fun b l hb=>by rw [hext b (h.low b (by rw [hb];simp))];exact hb
 have hR:∀ b,(fun b=>b=mb) b→own b=none∨own b=some .st∨own b=some .undos∨own b=some .marks∨own b=some .amap:=fun b hb=>by
  have:b=mb:=hb
  rw [this,h.mlab];simp
 have hsm:¬ sb=mb:=fun e=>by have:=h.lab;rw [e,h.mlab] at this;cases this
 have hlt:=World.row?_lt h.row
 refine ⟨?_,trivial,?_⟩
 ·exact {
   lab:=hle _ _ h.lab
   row:=by rw [ho.row? hlt hsm];exact h.row
   free:=by rw [ho.free? hlt hsm];exact h.free
   mlab:=hle _ _ h.mlab
   map:=hm
   acc:=fun q hq=>by
    rcases A1M hq with rfl | hq2
    ·show L5 w' own' p (Z9 S a x a)
     rw [A1a];exact hx
    ·by_cases e:q.1=a
     ·have h1:I3 a (N0 a p E)=some p:=by rw [O8,if_pos rfl]
      have h2:I3 a (N0 a p E)=some q.2:=by
       obtain ⟨j,hj⟩:=List.mem_iff_getElem?.1 hq
       exact A3J hm.nodup (by rw [hj,← e])
      rw [h1] at h2
      cases h2
      rw [e,A1a];exact hx
     ·rw [Z8 _ _ e]
      exact ((h.acc q hq2).but ho hR).le hle
   out:=fun b hb=>by
    rw [O8] at hb
    split at hb
    ·cases hb
    ·rename_i hne
     rw [Z8 _ _ hne];exact h.out b hb
   urow:=⟨rfl,.inl ⟨rfl,rfl⟩⟩
   ulab:=fun g hg=>by simp [Value.ownBlock] at hg
   und:=fun u hu=>by cases hu
   mrow:=⟨rfl,.inl ⟨rfl,rfl⟩⟩
   mklab:=fun g hg=>by simp [Value.ownBlock] at hg
   mks:=.nil
   mkle:=fun m hm=>by cases hm
   low:=hlow }
 ·simp only [M8,List.append_nil]
  have hn:=h.nodup
  simp only [M8,List.append_nil] at hn
  refine A98 h.map.nodup hn (fun hmem=>?_)
  obtain ⟨q,hq,rfl⟩:=List.mem_map.1 hmem
  have:=h.low q.2 (by rw [(h.acc q hq).lab];simp)
  omega
structure Ac where
 (addr:Nat) (nonce:Int) (bal:Nat) (code:J1)
def Q8 (x:Ac) (cv sv:Value):List (List Value):=[A3 20 x.addr,[.int .i64 x.nonce],A3 32 x.bal,[cv],[sv]]
theorem K0 (x:Ac) (cv sv:Value):(B8 (Q8 x cv sv)).length=55:=by simp only [Q8,G7,N9];simp
attribute [go_sem,simp] K0
structure A6t (w:World) (b o:Nat) (x:Ac):Prop where
 cells:∃ cv,w.row? b o 55=some (B8 (Q8 x cv (.slice none 0 0)))∧J3 w (fun _=>False) cv x.code
 addr:x.addr < wA
 bal:x.bal < wW
 nonce:x.nonce≤9223372036854775807
def A5W (x:Ac):Acc:=⟨(max 0 x.nonce).toNat,x.bal,x.code,fun _=>0⟩
def A1m (l:List Ac):St:=l.foldl (fun S x=>Z9 S x.addr (A5W x)) (fun _=>Acc.none)
theorem A6T (l:List Ac) (k:Nat) (h:k < l.length):A1m (l.take (k+1))=Z9 (A1m (l.take k)) l[k].addr (A5W l[k]):=by
 unfold A1m
 rw [List.take_succ_eq_append_getElem h,List.foldl_append];rfl
theorem A6t.below {w w':World} {b o:Nat} {x:Ac} (h:A6t w b o x) (hb:Below w.heap.size w w'):A6t w' b o x:=by
 obtain ⟨⟨cv,h1,h2⟩,h3,h4,h5⟩:=h
 exact ⟨⟨cv,((C7 hb).1 _ _ _ (World.row?_lt h1)).trans h1,h2.below hb⟩,h3,h4,h5⟩
structure A9C (w0:World) (sb mb:Nat) (S:St) (k:Nat) (w:World):Prop where
 st:∃ own E,O6 TU w own sb mb (.slice none 0 0) (.slice none 0 0) 0 E [] [] S∧(∀ b,own b≠none→w0.heap.size≤b)∧E.length≤k
 below:Below w0.heap.size w0 w
theorem A9C.next {w0 w w':World} {sb mb k:Nat} {S:St} (h:A9C w0 sb mb S k w) (hb:Below w.heap.size w w'):A9C w0 sb mb S k w':=by
 obtain ⟨⟨own,E,h1,h2⟩,h3⟩:=h
 exact ⟨⟨own,E,h1.only (R:=fun _=>False) (A0.of_below_size hb) (fun _ h=>h.elim),h2⟩,h3.trans (hb.mono h3.size)⟩
theorem A9C.sp {w0 w:World} {sb mb k:Nat} {S:St} (h:A9C w0 sb mb S k w):w.cell? ⟨sb,0,none⟩=some (.map (some mb)):=by
 obtain ⟨⟨own,E,h1,_⟩,_⟩:=h
 exact World.row?_cell h1.row (i:=0) (by omega)
theorem B0b (w:World):A9C w (w.heap.size+1) w.heap.size (fun _=>Acc.none) 0 ((w.alloc (.map #[] 0)).alloc (.cells (B8 [[.map (some w.heap.size)],[.slice none 0 0],[.slice none 0 0],[.int .i64 0]]).toArray 94)):=by
 have hb:Below w.heap.size w ((w.alloc (.map #[] 0)).alloc (.cells (B8 [[.map (some w.heap.size)],[.slice none 0 0],[.slice none 0 0],[.int .i64 0]]).toArray 94)):=((Below.refl _ _).alloc (Nat.le_refl _) _).alloc (by simp) _
 refine ⟨⟨fun b=>if b=w.heap.size+1 then some .st else if b=w.heap.size then some .amap else none,[],⟨{
   lab:=by simp
   row:=World.row?_alloc_at _ _ _ (by simp) rfl
   free:=World.free?_alloc_at _ _ (by simp) (Nat.le_refl _)
   mlab:=by simp
   map:=(E1.new w adV wA ptV).below ((Below.refl _ _).alloc (Nat.le_refl _) _)
   acc:=fun p hp=>by cases hp
   out:=fun a _=>rfl
   urow:=⟨rfl,.inl ⟨rfl,rfl⟩⟩
   ulab:=fun g hg=>by simp [Value.ownBlock] at hg
   und:=fun u hu=>by cases hu
   mrow:=⟨rfl,.inl ⟨rfl,rfl⟩⟩
   mklab:=fun g hg=>by simp [Value.ownBlock] at hg
   mks:=.nil
   mkle:=fun m hm=>by cases hm
   low:=fun b hb=>by
    simp only [World.size_alloc]
    split at hb
    ·omega
    ·split at hb
     ·omega
     ·exact absurd rfl hb },trivial,by simp [M8]⟩,fun b hb=>?_,Nat.le_refl _⟩,hb⟩
 simp only at hb
 split at hb
 ·omega
 ·split at hb
  ·omega
  ·exact absurd rfl hb
theorem B70:A1n A8d = [1,1,1,1]:=by kernel_rfl
theorem B6F (mb:Nat):F8 4 (N8 A8d) (B8 A8d) [(0,.map (some mb))]=some (B8 [[.map (some mb)],[.slice none 0 0],[.slice none 0 0],[.int .i64 0]]):=by
 rw [F7 _ _ _ A8c]
 ·rfl
 ·rw [B70];exact C0 rfl (L0 _)
theorem B1H (nn b:Nat) (a:Option Addr) (k c q:Nat):F8 35 [(0,1),(1,32),(33,1),(34,1)] B0P [(0,.int .i64 nn),(1,.agg (A3 32 b).toArray),(2,.slice a k c),(3,.map (some q))]=some (X4 nn b (.slice a k c) (.map (some q))):=by
 have h1:A1n [[Value.int .i64 0],A3 32 0,[Value.slice none 0 0],[Value.map none]] = [1,32,1,1]:=by kernel_rfl
 have h2:=F7 [(0,.int .i64 nn),(1,.agg (A3 32 b).toArray),(2,.slice a k c),(3,.map (some q))] [[Value.int .i64 0],A3 32 0,[Value.slice none 0 0],[Value.map none]] 35 (by kernel_rfl) (by
  rw [h1]
  refine C0 rfl (C0 ?_ (C0 rfl (C0 rfl (L0 _))))
  show some 32=some (A3 32 b).length
  rw [C4])
 have h3:N8 [[Value.int .i64 0],A3 32 0,[Value.slice none 0 0],[Value.map none]] = [(0,1),(1,32),(33,1),(34,1)]:=by kernel_rfl
 rw [h3] at h2
 exact h2
theorem A8S {β:Type} (a:Nat) (x:β):∀ L:List (Nat × β),(N0 a x L).length≤L.length+1
 | []=>Nat.le_refl _
 | (b,y) :: l=>by
  unfold N0
  split
  ·simp
  ·have:=A8S a x l
   simp only [List.length_cons];omega
theorem B1f {w0 wX wY w':World} {sb mb p q nn:Nat} {S:St} {x:Ac} {cv:Value} {own:Own} {E:List (Nat × Nat)} {k:Nat} (hA:wX.heap.size≤p∧wX.heap.size≤q∧p≠q) (hw0:w0.heap.size≤wX.heap.size) (hb:Below wX.heap.size wX wY) (hb0:Below w0.heap.size w0 wY)
  (hst:O6 TU wX own sb mb (.slice none 0 0) (.slice none 0 0) 0 E [] [] S) (hge:(∀ b,own b≠none→w0.heap.size≤b)∧E.length≤k) (hr:wY.row? p 0 35=some (X4 nn x.bal cv (.map (some q)))) (hf:wY.free? p 0 35=true) (hq:E1 wdV wW wdV wY q [])
  (hc:∃ a c,cv = .slice a x.code.length c∧G9 wY .u8 a c x.code∧(x.code≠[]→∀ pt,a=some pt→wX.heap.size≤pt.block∧pt.block≠p∧pt.block≠q)) (hby:Byt x.code) (hlen:x.code.length≤1099511627776) (hn:nn=(max 0 x.nonce).toNat) (hn2:nn≤9223372036854775807) (hbal:x.bal < wW) (hm:E1 adV wA ptV w' mb (N0 x.addr p E)) (ho:A0 (· = mb) wY w'):A9C w0 sb mb (Z9 S x.addr (A5W x)) (k+1) w':=by
 obtain ⟨hge,hkl⟩:=hge
 have hput:(N0 x.addr p E).length≤k+1:=Nat.le_trans (A8S x.addr p E) (Nat.succ_le_succ hkl)
 obtain ⟨a,c,rfl,hci,hcb⟩:=hc
 have hst2:O6 TU wY own sb mb (.slice none 0 0) (.slice none 0 0) 0 E [] [] S:=hst.only (R:=fun _=>False) (A0.of_below_size hb) (fun _ h=>h.elim)
 have hml:=hst.low mb (by rw [hst.mlab];simp)
 have hpl:=World.row?_lt hr
 have hql:=hq.lt
 have hpm:p≠mb:=by omega
 have hqm:q≠mb:=by omega
 obtain ⟨own',eo⟩:∃ own':Own,own'=fun b=>if b=p then some .acc else if b=q then some (.smap p) else if x.code≠[]∧(∃ pt,a=some pt∧pt.block=b) then some .code else own b:=⟨_,rfl⟩
 have hsz:=ho.size
 have hbs:=hb.size
 have hpt:∀ pt,x.code≠[]→a=some pt→pt.block < wY.heap.size:=fun pt hne hap=>by
  obtain ⟨b2,o2,ha2,hlt2,_⟩:=hci.at (i:=0) (List.length_pos_iff.2 hne)
  rw [hap] at ha2;cases ha2;exact hlt2
 have hext:∀ b,b < wX.heap.size→own' b=own b:=fun b hb'=>by
  rw [eo];simp only
  rw [if_neg (by omega),if_neg (by omega),if_neg]
  rintro ⟨hne,pt,hap,hpb⟩
  have:=(hcb hne pt hap).1;omega
 have hlow:∀ b,own' b≠none→b < w'.heap.size:=fun b hb'=>by
  rw [eo] at hb'
  simp only at hb'
  split at hb'
  ·omega
  ·split at hb'
   ·omega
   ·split at hb'
    ·rename_i hh;obtain ⟨hne,pt,hap,hpb⟩:=hh
     have:=hpt pt hne hap;omega
    ·have:=hst.low b hb';omega
 have hge':∀ b,own' b≠none→w0.heap.size≤b:=fun b hb'=>by
  by_cases hlt:b < wX.heap.size
  ·rw [hext b hlt] at hb';exact hge b hb'
  ·omega
 have hacc:L5 w' own' p (A5W x):=by
  refine ⟨by rw [eo];simp,by rw [ho.free? hpl hpm];exact hf,⟨.slice a x.code.length c,q,[],?_,⟨⟨a,c,rfl,?_,?_⟩,hby,hlen⟩,?_,hq.only ho hqm,⟨fun k=>rfl,fun p hp=>by cases hp⟩⟩,by show (max 0 x.nonce).toNat≤_;omega,hbal⟩
  ·rw [ho.row? hpl hpm,hr,hn];rfl
  ·refine ⟨fun hne=>?_,hci.nil,hci.len,hci.cap⟩
   obtain ⟨b2,o2,ha2,hlt2,hcl⟩:=hci.at (i:=0) (List.length_pos_iff.2 hne)
   have h1:=(hcb hne _ ha2).1
   simp only at h1
   exact ⟨b2,o2,ha2,fun i hi=>by rw [ho.cell? hlt2 (by omega)];exact hcl i hi⟩
  ·intro hne pt hap
   have h1:=hcb hne pt hap
   rw [eo];simp only
   rw [if_neg h1.2.1,if_neg h1.2.2,if_pos ⟨hne,pt,hap,rfl⟩]
  ·rw [eo];simp only;rw [if_neg (fun e=>hA.2.2 e.symm)];simp
 refine ⟨⟨own',_,B5q (w:=wX) (own:=own) hst hext hlow ?_ hm hacc hA.1,hge',hput⟩,hb0.trans (ho.below hb0.size (fun i hi=>by rw [hi];have:=hge mb (by rw [hst.mlab];simp);exact this))⟩
 exact (A0.of_below_size hb:A0 (· = mb) wX wY).trans ho (fun i hi _=>hi)
theorem A6D (b o c:Nat) (l:List Ac) (hl:l.length≤1000000) (w:World) (h:∀ i (hi:i < l.length),A6t w b (o+i*55) l[i]) :
  Calls Tryz.prog 24 #[.slice (some ⟨b,o,none⟩) l.length c] w fun e w' => ∃ sb,e = .returned (.pointer (some ⟨sb,0,none⟩))∧Below w.heap.size w w'∧∃ own,StateAt TU w' own sb (A1m l) [] 0∧∀ b,own b≠none→w.heap.size≤b:=by
 have hmk:=A6V 90 w
 have hbuild:=B6F w.heap.size
 have H0:=hid (B0b w)
 have H:=hid h
 clear h
 go_enter Tryz.func24,Tryz.ntmps24
 go_wp2_with fail
 go_loopw [14] (fun i wr => ∃ k:Nat,k≤l.length∧i = .int .i64 k∧A9C w (w.heap.size+1) w.heap.size (A1m (l.take k)) k wr) (fun i _=>l.length - (intOf i).toNat)
 case atStart=>exact ⟨0,by omega,rfl,H0.out⟩
 case round =>
  rename World=>wo
  clear H0 hmk hbuild
  obtain ⟨k,hk,rfl,hr⟩:=hrel
  have HR:=hid hr
  clear hr
  by_cases hlt:k < l.length
  ·have hx:=H.out k hlt
   have hb1:=HR.out.below
   have hcount:=hx.nonce
   have hxa:=hx.addr
   have hxb:=hx.bal
   have HT1:=hid (A6T l k hlt)
   obtain ⟨⟨cv,hrow,hro⟩,_,_,_⟩:=hx.below hb1
   obtain ⟨⟨ca,cc,hcv,hci,_⟩,hcb,hcl⟩:=hro
   subst hcv
   generalize l[k]=x at *
   have hkI:(k:Int) < l.length:=by omega
   have hf1:(wo.alloc (.cells (B8 L8).toArray 35)).free? wo.heap.size 0 55=true:=World.free?_alloc_at _ _ rfl (by rw [W4];omega)
   have hok1:Q3 55 (B8 (Q8 x (.slice ca x.code.length cc) (.slice none 0 0)))=true:=by
    refine A0Y (K0 _ _ _) fun s hs=>?_
    simp only [Q8,List.mem_cons,List.not_mem_nil,or_false] at hs
    rcases hs with rfl | rfl | rfl | rfl | rfl
    all_goals first | rfl | (rw [C4];exact D2 _ _)
   have hbx:=A2c (w:=wo) (t:=35) (n:=55) W4 hok1
   obtain ⟨w1,e1⟩:∃ w1,w1=(wo.alloc (.cells (B8 L8).toArray 35)).setCells wo.heap.size 0 (B8 (Q8 x (.slice ca x.code.length cc) (.slice none 0 0))):=⟨_,rfl⟩
   rw [← e1] at hbx
   have HE1:=hid e1
   have HBX:=hid hbx.1
   have HRX:=hid hbx.2
   have HI:=hid (hci.below hbx.1)
   have HCB:=hid hcb
   have HCL:=hid hcl
   have HNX:=hid (HR.out.next hbx.1)
   obtain ⟨nn,hnn⟩:∃ nn:Nat,nn=(max 0 x.nonce).toNat:=⟨_,rfl⟩
   have hmx:(if 0 < x.nonce then x.nonce else 0)=(nn:Int):=by split <;> omega
   have hnn2:nn≤9223372036854775807:=by omega
   have HNN:=hid hnn
   clear hx hb1 hci hcb hcl e1 hbx hnn
   go_wp2_with fail
   rw [← HE1.out]
   obtain ⟨T,hT⟩:∃ T:World→Prop,T=fun w'=>w'.row? wo.heap.size 0 55=some (B8 (Q8 x (.slice ca x.code.length cc) (.slice none 0 0))):=⟨_,rfl⟩
   have HT:=hid hT
   have tb:∀ w2 w3,T w2→Below w2.heap.size w2 w3→T w3:=by rw [hT];intro w2 w3 h hb;exact ((C7 hb).1 _ _ _ (World.row?_lt h)).trans h
   have HTB:=hid tb
   have t0:T w1.drew:=by rw [hT];exact HRX.out
   clear hT tb hf1 hok1
   have HN0:=hid (HNX.out.next (Below.refl _ _).drew)
   have HI0:Hid (G9 w1.drew .u8 ca cc x.code):=HI.out.below (Below.refl _ _).drew
   refine A7 T [] (.pure 0 (.take 1 (.pure 2 (.pure 3 (.take 4 (.pure 5 (.take 6 (.alt 7 (.alt 8 (.pure 9 (.alt 10 (.pure 11 .fin) .stop)) .stop) (.alt 8 (.alt 7 (.pure 9 (.alt 10 (.pure 11 .fin) .stop)) .stop) .stop))))))))) (by kernel_rfl) (by kernel_rfl) ?_
   iterate 7
    first
    |refine A2 ?_ rfl (by rfl) (fun w' hs=>?_) (fun _ _ _ h=>h) ?_
     rotate_left
     ·clear hs
      go_simp
      try rfl
     simp only [Act.put,D7,D6,D5]
    |refine A9 ?_ t0 rfl (by rfl) (fun w' hs=>?_) (fun _ _ _ h=>h) ?_
     rotate_left
     ·rw [HT.out] at hs
      have q1:w'.cell? ⟨wo.heap.size,20,none⟩=some (.int .i64 x.nonce):=C8 hs (i:=1) rfl (by simp [Q8,A8,A4]);have q2:w'.row? wo.heap.size 21 32=some (A3 32 x.bal):=I5 hs (i:=2) rfl (by simp [Q8,A8,A4]) (by simp);have q3:w'.cell? ⟨wo.heap.size,53,none⟩=some (.slice ca x.code.length cc):=C8 hs (i:=3) rfl (by simp [Q8,A8,A4])
      go_simp
      try rfl
     simp only [Act.put,D7,D6,D5]
   refine P6 rfl (fun K hK=>?_) ?_
   ·go_simp
    refine (A2x ca x.code.length cc x.code rfl (by have:=HCL.out;omega) _ HI0.out).mono ?_
    rintro e w2 ⟨cw,rfl,hnb⟩
    have t2:T w2:=HTB.out _ _ t0 hnb.below
    have HNB:=hid hnb
    have HN2:=hid (HN0.out.next hnb.below)
    obtain ⟨cwa,cwc,hcw,hci7,hge7⟩:=hnb.read
    have HCI:=hid hci7
    have HGE:=hid hge7
    subst hcw
    clear hnb hci7 hge7
    refine hK.out _ _ t2 ?_
    clear hK K
    refine A5 rfl (fun K hK=>?_)
    have hmk:=A6V 84 (w2)
    go_simp
    have hbm:Below w2.heap.size w2 (w2.alloc (.map #[] 0)):=(Below.refl _ _).alloc (Nat.le_refl _) _
    have tM:T (w2.alloc (.map #[] 0)):=HTB.out _ _ t2 hbm
    have HNM:=hid (HN2.out.next hbm)
    have HMM:Hid (E1 wdV wW wdV (w2.alloc (.map #[] 0)) w2.heap.size []):=E1.new _ _ _ _
    have hbuild:=B1H nn x.bal cwa x.code.length cwc (w2.heap.size)
    clear hbm
    refine hK.out _ _ tM ?_
    clear hK K
    refine A2 ?_ rfl (by rfl) (fun w' hs=>?_) (fun _ _ _ h=>h) ?_
    rotate_left
    ·clear hs
     refine (B8u _ _ _ _ _ _ _ _).trans ?_
     refine (congrArg (fun r=>E7 (V8 Tryz.prog 86 _ _ r)) hbuild).trans ?_
     rfl
    simp only [Act.put,D7,D6,D5]
    refine A5 rfl (fun K hK=>?_)
    go_simp
    have t5:T (World.alloc (w2.alloc (.map #[] 0)) (.cells (X4 nn x.bal (.slice cwa x.code.length cwc) (.map (some (w2.heap.size)))).toArray 86)):=HTB.out _ _ tM ((Below.refl _ _).alloc (Nat.le_refl _) _)
    refine hK.out _ _ t5 ?_
    clear hK K
    refine A2 ?_ rfl (by rfl) (fun w' hs=>?_) (fun _ _ _ h=>h) ?_
    rotate_left
    ·clear hs
     go_simp
     try rfl
    simp only [Act.put,D7,D6,D5]
    refine C2 ?_
    obtain ⟨w5,e5⟩:∃ w5,w5=World.alloc (w2.alloc (.map #[] 0)) (.cells (X4 nn x.bal (.slice cwa x.code.length cwc) (.map (some (w2.heap.size)))).toArray 86):=⟨_,rfl⟩
    have hsz5:(w2.alloc (.map #[] 0)).heap.size=(w2.heap.size+1):=by simp
    have hb5:Below (w2.alloc (.map #[] 0)).heap.size (w2.alloc (.map #[] 0)) w5:=by rw [e5];exact (Below.refl _ _).alloc (Nat.le_refl _) _
    have r5:w5.row? (w2.heap.size+1) 0 35=some (X4 nn x.bal (.slice cwa x.code.length cwc) (.map (some (w2.heap.size)))):=by rw [e5];exact World.row?_alloc_at _ _ _ (by simp) (V2 _ _ _ _)
    have f5:w5.free? (w2.heap.size+1) 0 35=true:=by rw [e5];exact World.free?_alloc_at _ _ (by simp) (by rw [V2];omega)
    have m5:E1 wdV wW wdV w5 (w2.heap.size) []:=HMM.out.below hb5
    have hb25:Below w2.heap.size w2 w5:=((Below.refl _ _).alloc (Nat.le_refl _) _:Below w2.heap.size w2 (w2.alloc (.map #[] 0))).trans (hb5.mono (by simp))
    rw [← e5] at t5 ⊢
    have HB25:=hid hb25
    have R5:=hid r5
    have F5:=hid f5
    have M5:=hid m5
    have HN5:=hid (HNM.out.next hb5)
    have hx5:=t5
    rw [HT.out] at hx5
    have q4:w5.cell? ⟨wo.heap.size,54,none⟩=some (.slice none 0 0):=C8 hx5 (i:=4) rfl (by simp [Q8,A8,A4])
    clear e5 hb5 r5 f5 m5 hb25 hx5
    go_wp2_with fail
    go_loopw [32] (fun i wz=>i = .int .i64 0∧wz=w5) (fun _ _=>0)
    case atStart=>exact ⟨rfl,rfl⟩
    case round =>
     obtain ⟨rfl,rfl⟩:=hrel
     rename World=>w6
     go_wp2_with fail
     have t6:=t5
     rw [HT.out] at t6
     have k6:w6.row? wo.heap.size 0 20=some (A3 20 x.addr):=I5 t6 (i:=0) rfl (by simp [Q8,A4]) (by simp)
     obtain ⟨⟨own,E,hst,hge⟩,hbel⟩:=HN0.out
     have hbn:Below w1.drew.heap.size w1.drew w2:=HNB.out.below
     have hb06:Below w1.drew.heap.size w1.drew w6.drew:=hbn.trans ((HB25.out.trans ((Below.refl _ _).drew.mono (Nat.le_refl _))).mono hbn.size)
     have HBN:=hid hbn
     clear hbn
     have hmap:=hid (hst.map.below hb06)
     have sp6:=HN5.out.sp
     obtain ⟨T2,hT2⟩:∃ T2:World→Prop,T2=fun w'=>w'.cell? ⟨w.heap.size+1,0,none⟩=some (.map (some w.heap.size))∧w'.row? wo.heap.size 0 20=some (A3 20 x.addr):=⟨_,rfl⟩
     have HT2:=hid hT2
     have t20:T2 w6.drew:=by rw [hT2];exact ⟨sp6,k6⟩
     have HST:=hid hst
     have HGO:=hid hge
     have HB06:=hid hb06
     clear hT2 hst hge hbel sp6 k6 t6
     refine A7 T2 [7] (.pure 0 (.pure 1 (.pure 2 (.take 3 (.pure 4 (.take 5 (.pure 6 (.alt 7 .fin .stop)))))))) (by kernel_rfl) (by kernel_rfl) ?_
     iterate 7
      first
      |refine A2 ?_ rfl (by rfl) (fun w' hs=>?_) (fun _ _ _ h=>h) ?_
       rotate_left
       ·clear hs
        go_simp
        try rfl
       simp only [Act.put,D7,D6,D5]
      |refine A9 ?_ t20 rfl (by rfl) (fun w' hs=>?_) (fun _ _ _ h=>h) ?_
       rotate_left
       ·rw [HT2.out] at hs
        obtain ⟨z1,z2⟩:=hs
        go_simp
        try rfl
       simp only [Act.put,D7,D6,D5]
     refine J8 rfl (by simp) (fun K hK=>?_)
     refine A3k rfl _ _ _ 90 rfl A0Z Tryz.underlying90 hmap.out rfl rfl hxa (w2.heap.size+1) rfl ?_
     intro w7 hm7 ho7
     have hnew:=B1f (x:=x) (nn:=nn) (p:=(w2.heap.size+1)) (q:=w2.heap.size) (cv:=.slice cwa x.code.length cwc) ⟨?n1,?n2,?n3⟩ HN0.out.below.size HB06.out (HN5.out.below.trans ((Below.refl _ _).drew.mono HN5.out.below.size)) HST.out HGO.out R5.out F5.out M5.out ⟨cwa,cwc,rfl,HCI.out.below (HB25.out.trans ((Below.refl _ _).drew.mono (Nat.le_refl _))),?n4⟩ HCB.out HCL.out HNN.out hnn2 hxb hm7 ho7
     case n1=>have:=HNB.out.below.size;simp at this ⊢;omega
     case n2=>have:=HNB.out.below.size;simp at this ⊢;try omega
     case n3=>have:=HNB.out.below.size;simp at this ⊢;try omega
     case n4 =>
      intro hne pt hpt
      have h1:=HGE.out pt hpt
      obtain ⟨b2,o2,ha2,hlt2,_⟩:=HCI.out.at (i:=0) (List.length_pos_iff.2 hne)
      rw [ha2] at hpt;cases hpt
      have:=HNB.out.below.size
      simp at h1 this ⊢
      refine ⟨?_,?_,?_⟩ <;> omega
     rw [← HT1.out] at hnew
     have HNW:=hid hnew
     clear hnew
     refine hK.out _ _ ?_
     clear hK K
     refine C2 ?_
     have hk1:IntKind.i64.wrap ((k:Int)+1)=((k+1:Nat):Int):=by rw [U6 _ (by omega) (by omega)];omega
     go_wp2
     go_roundw
     case rel=>exact ⟨k+1,by omega,by go_num,HNW.out⟩
     case measure=>simp [intOf];omega
   refine A5 rfl (fun K hK=>?_)
   have hmk:=A6V 84 (w1.drew)
   go_simp
   have hbm:Below w1.drew.heap.size w1.drew (w1.drew.alloc (.map #[] 0)):=(Below.refl _ _).alloc (Nat.le_refl _) _
   have tM:T (w1.drew.alloc (.map #[] 0)):=HTB.out _ _ t0 hbm
   have HNM:=hid (HN0.out.next hbm)
   have HMM:Hid (E1 wdV wW wdV (w1.drew.alloc (.map #[] 0)) w1.heap.size []):=E1.new _ _ _ _
   have HIM:=hid (HI0.out.below hbm)
   clear hbm
   refine hK.out _ _ tM ?_
   clear hK K
   refine A5 rfl (fun K hK=>?_)
   go_simp
   refine (A2x ca x.code.length cc x.code rfl (by have:=HCL.out;omega) _ HIM.out).mono ?_
   rintro e w2 ⟨cw,rfl,hnb⟩
   have t2:T w2:=HTB.out _ _ tM hnb.below
   have HNB:=hid hnb
   have HN2:=hid (HNM.out.next hnb.below)
   obtain ⟨cwa,cwc,hcw,hci7,hge7⟩:=hnb.read
   have HCI:=hid hci7
   have HGE:=hid hge7
   subst hcw
   clear hnb hci7 hge7
   have HM2:Hid (E1 wdV wW wdV w2 w1.heap.size []):=HMM.out.below HNB.out.below
   have hbuild:=B1H nn x.bal cwa x.code.length cwc (w1.heap.size)
   refine hK.out _ _ t2 ?_
   clear hK K
   refine A2 ?_ rfl (by rfl) (fun w' hs=>?_) (fun _ _ _ h=>h) ?_
   rotate_left
   ·clear hs
    refine (B8u _ _ _ _ _ _ _ _).trans ?_
    refine (congrArg (fun r=>E7 (V8 Tryz.prog 86 _ _ r)) hbuild).trans ?_
    rfl
   simp only [Act.put,D7,D6,D5]
   refine A5 rfl (fun K hK=>?_)
   go_simp
   have t5:T (World.alloc w2 (.cells (X4 nn x.bal (.slice cwa x.code.length cwc) (.map (some (w1.heap.size)))).toArray 86)):=HTB.out _ _ t2 ((Below.refl _ _).alloc (Nat.le_refl _) _)
   refine hK.out _ _ t5 ?_
   clear hK K
   refine A2 ?_ rfl (by rfl) (fun w' hs=>?_) (fun _ _ _ h=>h) ?_
   rotate_left
   ·clear hs
    go_simp
    try rfl
   simp only [Act.put,D7,D6,D5]
   refine C2 ?_
   obtain ⟨w5,e5⟩:∃ w5,w5=World.alloc w2 (.cells (X4 nn x.bal (.slice cwa x.code.length cwc) (.map (some (w1.heap.size)))).toArray 86):=⟨_,rfl⟩
   skip
   have hb5:Below w2.heap.size w2 w5:=by rw [e5];exact (Below.refl _ _).alloc (Nat.le_refl _) _
   have r5:w5.row? w2.heap.size 0 35=some (X4 nn x.bal (.slice cwa x.code.length cwc) (.map (some (w1.heap.size)))):=by rw [e5];exact World.row?_alloc_at _ _ _ (by simp) (V2 _ _ _ _)
   have f5:w5.free? w2.heap.size 0 35=true:=by rw [e5];exact World.free?_alloc_at _ _ (by simp) (by rw [V2];omega)
   have m5:E1 wdV wW wdV w5 (w1.heap.size) []:=HM2.out.below hb5
   have hb25:Below w2.heap.size w2 w5:=hb5
   rw [← e5] at t5 ⊢
   have HB25:=hid hb25
   have R5:=hid r5
   have F5:=hid f5
   have M5:=hid m5
   have HN5:=hid (HN2.out.next hb5)
   have hx5:=t5
   rw [HT.out] at hx5
   have q4:w5.cell? ⟨wo.heap.size,54,none⟩=some (.slice none 0 0):=C8 hx5 (i:=4) rfl (by simp [Q8,A8,A4])
   clear e5 hb5 r5 f5 m5 hb25 hx5
   go_wp2_with fail
   go_loopw [32] (fun i wz=>i = .int .i64 0∧wz=w5) (fun _ _=>0)
   case atStart=>exact ⟨rfl,rfl⟩
   case round =>
    obtain ⟨rfl,rfl⟩:=hrel
    rename World=>w6
    go_wp2_with fail
    have t6:=t5
    rw [HT.out] at t6
    have k6:w6.row? wo.heap.size 0 20=some (A3 20 x.addr):=I5 t6 (i:=0) rfl (by simp [Q8,A4]) (by simp)
    obtain ⟨⟨own,E,hst,hge⟩,hbel⟩:=HN0.out
    have hbn:Below w1.drew.heap.size w1.drew w2:=((Below.refl _ _).alloc (Nat.le_refl _) (.map #[] 0)).trans (HNB.out.below.mono (by simp))
    have hb06:Below w1.drew.heap.size w1.drew w6.drew:=hbn.trans ((HB25.out.trans ((Below.refl _ _).drew.mono (Nat.le_refl _))).mono hbn.size)
    have HBN:=hid hbn
    clear hbn
    have hmap:=hid (hst.map.below hb06)
    have sp6:=HN5.out.sp
    obtain ⟨T2,hT2⟩:∃ T2:World→Prop,T2=fun w'=>w'.cell? ⟨w.heap.size+1,0,none⟩=some (.map (some w.heap.size))∧w'.row? wo.heap.size 0 20=some (A3 20 x.addr):=⟨_,rfl⟩
    have HT2:=hid hT2
    have t20:T2 w6.drew:=by rw [hT2];exact ⟨sp6,k6⟩
    have HST:=hid hst
    have HGO:=hid hge
    have HB06:=hid hb06
    clear hT2 hst hge hbel sp6 k6 t6
    refine A7 T2 [7] (.pure 0 (.pure 1 (.pure 2 (.take 3 (.pure 4 (.take 5 (.pure 6 (.alt 7 .fin .stop)))))))) (by kernel_rfl) (by kernel_rfl) ?_
    iterate 7
     first
     |refine A2 ?_ rfl (by rfl) (fun w' hs=>?_) (fun _ _ _ h=>h) ?_
      rotate_left
      ·clear hs
       go_simp
       try rfl
      simp only [Act.put,D7,D6,D5]
     |refine A9 ?_ t20 rfl (by rfl) (fun w' hs=>?_) (fun _ _ _ h=>h) ?_
      rotate_left
      ·rw [HT2.out] at hs
       obtain ⟨z1,z2⟩:=hs
       go_simp
       try rfl
      simp only [Act.put,D7,D6,D5]
    refine J8 rfl (by simp) (fun K hK=>?_)
    refine A3k rfl _ _ _ 90 rfl A0Z Tryz.underlying90 hmap.out rfl rfl hxa w2.heap.size rfl ?_
    intro w7 hm7 ho7
    have hnew:=B1f (x:=x) (nn:=nn) (p:=w2.heap.size) (q:=w1.heap.size) (cv:=.slice cwa x.code.length cwc) ⟨?n1,?n2,?n3⟩ HN0.out.below.size HB06.out (HN5.out.below.trans ((Below.refl _ _).drew.mono HN5.out.below.size)) HST.out HGO.out R5.out F5.out M5.out ⟨cwa,cwc,rfl,HCI.out.below (HB25.out.trans ((Below.refl _ _).drew.mono (Nat.le_refl _))),?n4⟩ HCB.out HCL.out HNN.out hnn2 hxb hm7 ho7
    case n1=>have:=HNB.out.below.size;simp at this ⊢;omega
    case n2=>have:=HNB.out.below.size;simp at this ⊢;try omega
    case n3=>have:=HNB.out.below.size;simp at this ⊢;try omega
    case n4 =>
     intro hne pt hpt
     have h1:=HGE.out pt hpt
     obtain ⟨b2,o2,ha2,hlt2,_⟩:=HCI.out.at (i:=0) (List.length_pos_iff.2 hne)
     rw [ha2] at hpt;cases hpt
     have:=HNB.out.below.size
     simp at h1 this ⊢
     refine ⟨?_,?_,?_⟩ <;> omega
    rw [← HT1.out] at hnew
    have HNW:=hid hnew
    clear hnew
    refine hK.out _ _ ?_
    clear hK K
    refine C2 ?_
    have hk1:IntKind.i64.wrap ((k:Int)+1)=((k+1:Nat):Int):=by rw [U6 _ (by omega) (by omega)];omega
    go_wp2
    go_roundw
    case rel=>exact ⟨k+1,by omega,by go_num,HNW.out⟩
    case measure=>simp [intOf];omega
  ·have hke:k=l.length:=by omega
   have hkI:¬ (k:Int) < l.length:=by omega
   have hs:=HR.out
   rw [hke,List.take_length] at hs
   have HS:=hid hs
   clear hs hlt hke
   go_wp2
   go_ret
   obtain ⟨⟨own,E,h1,h2⟩,h3⟩:=HS.out
   exact ⟨_,rfl,h3,own,⟨_,_,_,_,E,[],[],h1,rfl,Nat.le_refl _,Nat.le_refl _,Nat.le_refl _,by have:=h2.2;omega⟩,h2.1⟩
end Go.Proofs.YtfflppedbopdpaaGreat
