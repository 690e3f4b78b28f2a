/- A part of the proof of EvmLoops: XWsr. -/
import Derived.Test.YtfflppedbopdpaaGreatXRw0
import Derived.Test.YtfflppedbopdpaaGreatXRs10
import Derived.Test.YtfflppedbopdpaaGreatXRf9
import Derived.Test.YtfflppedbopdpaaGreatXRsw
import Derived.Test.YtfflppedbopdpaaGreatXBk3
import Derived.Test.YtfflppedbopdpaaGreatXSl1
set_option linter.unusedVariables false
set_option maxRecDepth 1000000
set_option maxHeartbeats 8000000
set_option linter.unusedSimpArgs false
namespace Go.Mun
open Go.RowKit Go.Sort
open Go.Proofs (ltOf)
abbrev A6v:={ x:Nat // x < wW }
instance:Inhabited A6v:=⟨⟨0,by unfold wW;decide⟩⟩
def wdE (x:A6v):List Value:=A3 32 x.1
theorem A3r (x:A6v):(wdE x).length=32:=B0 _ _
def wdC (x y:A6v):Int:=A71 x.1 y.1
theorem A49 (x y:A6v):ltOf wdC x y=decide (x.1 < y.1):=by
 unfold ltOf wdC A71
 by_cases h:x.1 < y.1
 ·simp [h]
 ·simp only [h,if_false]
  by_cases h2:y.1 < x.1 <;> simp [h2]
theorem B5i:SWO (ltOf wdC):=by
 refine ⟨fun x=>?_,fun x y z h1 h2=>?_,fun x y z h1 h2=>?_⟩ <;> simp only [A49,decide_eq_true_eq,decide_eq_false_iff_not] at * <;> omega
theorem B5h (x y:A6v) (h1:ltOf wdC x y=false) (h2:ltOf wdC y x=false):x=y:=by
 simp only [A49,decide_eq_false_iff_not] at h1 h2
 exact Subtype.ext (by omega)
theorem A8z:∀ (l:List A6v) (t:Nat),t < l.length*32→(D3 (l.map Subtype.val))[t]? = some ((wdE l[t / 32]!)[t % 32]!)
 | [],t,h=>by simp at h
 | a :: l,t,h=>by
  have h2:D3 ((a :: l).map Subtype.val)=wdE a++D3 (l.map Subtype.val):=by simp [D3,wdE]
  rw [h2]
  by_cases ht:t < 32
  ·rw [List.getElem?_append_left (by rw [A3r];exact ht),Nat.div_eq_of_lt ht,Nat.mod_eq_of_lt ht]
   have hl:t < (wdE a).length:=by rw [A3r];exact ht
   simp [List.getElem!_eq_getElem?_getD,hl]
  ·obtain ⟨u,rfl⟩:∃ u,t=u+32:=⟨t - 32,by omega⟩
   rw [List.getElem?_append_right (by rw [A3r];omega),A3r,Nat.add_sub_cancel,A8z l u (by simp at h;omega)]
   rw [Nat.add_div_right u (by decide),Nat.add_mod_right]
   simp
theorem A62 (l:List A6v):(flatK wdE 32 l.toArray).toList=D3 (l.map Subtype.val):=by
 apply List.ext_getElem?
 intro t
 by_cases ht:t < l.length*32
 ·rw [A8z l t ht]
  have hs:t < (flatK wdE 32 l.toArray).size:=by simpa using ht
  have:=get_flatK wdE 32 l.toArray t (by simpa using ht)
  rw [getElem!_pos _ t hs] at this
  rw [Array.getElem?_toList,Array.getElem?_eq_getElem hs,this]
  simp
 ·rw [List.getElem?_eq_none (by simp;omega),List.getElem?_eq_none (by simp;omega)]
end Go.Mun
namespace Go.Proofs.YtfflppedbopdpaaGreat
open Go.RowKit Go.Mun Go.Sort
theorem C1z (b:Nat) (w:World):(Instr.sliceAt 25 (.pointer (some ⟨b,0,none⟩)) none none none).run Tryz.prog w = .ok (.slice (some ⟨b,0,none⟩) 32 32) w:=by
 kernel_rfl
theorem B4N (x y:Nat) (hx:x < wW) (hy:y < wW) (W:World):Calls Tryz.prog 81 #[.agg (A3 32 x).toArray,.agg (A3 32 y).toArray] W fun e w'=>e = .returned (.int .i64 (A71 x y))∧∃ q os',w'=grow (W.drewN q) os':=by
 obtain ⟨W2,e2⟩:∃ W2,W2=(W.alloc (.cells (A3 32 x).toArray 25)).alloc (.cells (A3 32 y).toArray 25):=⟨_,rfl⟩
 have h1:W2.drew.row? W.heap.size 0 32=some (A3 32 x):=by
  rw [World.row?_drew,e2,World.row?_alloc_lt _ (by simp)];exact World.row?_alloc_at _ _ _ rfl (B0 _ _)
 have h2:W2.drew.row? (W.heap.size+1) 0 32=some (A3 32 y):=by
  rw [World.row?_drew,e2];exact World.row?_alloc_at _ _ _ (by simp) (B0 _ _)
 have hc:=A3c (A3P h1 (Nat.le_refl 32) (by decide)) (A3P h2 (Nat.le_refl 32) (by decide))
 rw [A2j,A2j,B4M 32 x y hx hy] at hc
 have HC:=hid hc
 have s1:=C1z W.heap.size
 have s2:=C1z (W.heap.size+1)
 have HE:=hid e2
 obtain ⟨T,hT⟩:∃ T:World→Prop,T=fun W'=>W'=W2.drew:=⟨_,rfl⟩
 have HT:=hid hT
 have t0:T W2.drew:=by rw [hT]
 clear hc hT h1 h2 e2 hx hy
 generalize A71 x y=r at *
 have hlx:=B0 32 x
 have hly:=B0 32 y
 go_enter Tryz.func81,Tryz.ntmps81
 go_wp2_with fail
 rw [← HE.out]
 refine A6 T [] (.pure 0 (.pure 1 (.alt 2 (.pure 3 .fin) .stop))) (by kernel_rfl) (by kernel_rfl) ?_
 iterate 2
  refine A0 ?_ rfl (by rfl) (fun w' hs=>?_) (fun _ _ _ h=>h) ?_
  rotate_left
  ·clear hs
   go_simp
   try rfl
  simp only [Act.put,D6,D5,D4]
 refine A8 rfl (fun K hK=>?_)
 go_simp
 refine HC.out.mono ?_
 rintro e w' ⟨rfl,rfl⟩
 refine hK.out _ _ t0 ?_
 clear hK K
 refine A0 ?_ rfl (by rfl) (fun w' hs=>?_) (fun _ _ _ h=>h) ?_
 rotate_left
 ·clear hs
  go_simp
  try rfl
 simp only [Act.put,D6,D5,D4]
 refine C3 ?_
 go_wp2
 go_ret
 refine ⟨rfl,1,#[.cells (A3 32 x).toArray 25,.cells (A3 32 y).toArray 25],?_⟩
 rw [HE.out,alloc_eq_grow,alloc_eq_grow,grow_grow]
 rfl
theorem B6r (w:World):(isAgg 25).run Tryz.prog w = .ok true w:=by kernel_rfl
theorem B3R (w:World):(Go.sizeOf 25).run Tryz.prog w = .ok 32 w:=by kernel_rfl
theorem A36 {w:World} {v:Value} {n₀:Nat} {ss:List Nat} (hs:∀ a∈ss,a < wW) (hown:w.ownsRow n₀ 25 32 v ss.length (D3 ss)) (hsz:ss.length≤4000000) :
  Calls Tryz.prog 187 #[v,.func (.func 81) #[] #[]] w fun e w'=>e = .returned (.tuple #[])∧∃ rs:List Nat,rs.Perm ss∧rs.Pairwise (·≤·)∧w'.ownsRow n₀ 25 32 v ss.length (D3 rs)∧Below n₀ w w':=by
 have hcase:=hown.2
 rcases hcase with ⟨rfl,h0⟩ | ⟨g,cap,cur,rfl,hb,hh,hn,hm,hcs,ht⟩
 ·have he:ss = []:=List.eq_nil_of_length_eq_zero h0
  subst he
  have hc:=AnyF.slices_SortFunc_none Tryz.sortW none 0 (.func (.func 81) #[] #[]) w
  refine Calls.mono hc ?_
  rintro e w' ⟨rfl,rfl⟩
  exact ⟨rfl,[],List.Perm.refl _,List.Pairwise.nil,hown,Below.refl _ _⟩
 ·obtain ⟨l,hl⟩:∃ l:List A6v,l.map Subtype.val=ss:=⟨ss.attach.map fun a=>⟨a.1,hs a.1 a.2⟩,by simp⟩
  have hll:l.length=ss.length:=by rw [← hl];simp
  have hlt:g < w.heap.size:=(Array.getElem?_eq_some_iff.1 hh).1
  have hfl:=A62 l
  rw [hl] at hfl
  have hH:HoldsK wdE 32 w g 0 l.toArray:=by
   intro j hj
   have hj':j < (D3 ss).length:=by simpa [hll] using hj
   have hgj:(D3 ss)[j]? = some ((flatK wdE 32 l.toArray)[j]!):=by
    rw [← hfl,Array.getElem?_toList,getElem!_pos _ j hj,Array.getElem?_eq_getElem hj]
   constructor
   ·rw [Nat.zero_add]
    show _=some ((flatK wdE 32 l.toArray)[j]!)
    rw [← hgj,← ht,List.getElem?_take,if_pos (by simpa using hj'),Array.getElem?_toList]
    unfold World.cell?
    simp only [hh]
    rfl
   ·unfold World.frozen?
    simp only [hh]
    simp
  have eg:∀ args w,(callFunc 81 args).run Tryz.prog w = .ok (.enter 81 args) w:=enters_of Tryz.func81 (by kernel_rfl) rfl
  have hcmp:CmpLays Tryz.prog 81 #[] wdE 32 wdC g 0 l.toArray.size w:=fun _ _ _ _ x y=>B4N x.1 y.1 x.2 y.2 _
  have hc:=AnyQ.slices_SortFunc_total Tryz.sortW 32 B6r B3R wdE A3r (fun x=>M8 (C7 32 x.1)) wdC B5i 81 #[] g 0 cap l.toArray w eg hcmp hH hlt (by simp;omega) B5h
  have hcs2:l.toArray.size=ss.length:=by simp [hll]
  rw [hcs2] at hc
  refine Calls.mono hc ?_
  rintro e w' ⟨rfl,m,os,rfl⟩
  refine ⟨rfl,(l.mergeSort fun x y => !(ltOf wdC) y x).map Subtype.val,?_,?_,?_,?_⟩
  ·rw [← hl];exact (List.mergeSort_perm l _).map _
  ·rw [List.pairwise_map]
   refine (List.pairwise_mergeSort (le:=fun x y:A6v => !(ltOf wdC) y x) ?_ ?_ l).imp ?_
   ·intro a b c;simp only [A49,Bool.not_eq_true',decide_eq_false_iff_not];omega
   ·intro a b;simp only [A49,Bool.or_eq_true,Bool.not_eq_true',decide_eq_false_iff_not];omega
   ·intro a b;simp only [A49,Bool.not_eq_true',decide_eq_false_iff_not];omega
  ·rw [← A62]
   exact B1w hown _ (by rw [size_flatK];simp [hll]) m os
  ·refine ⟨rfl,rfl,rfl,?_,fun k hk=>?_⟩
   ·show w.heap.size≤((putRowK wdE 32 (Go.Sort.ahead w m) g 0 _).heap++os).size
    rw [Array.size_append]
    unfold putRowK
    rw [size_putRow]
    show w.heap.size≤w.heap.size+_
    omega
   ·show ((w.heap.modify g (onCells _))++os)[k]? = _
    rw [Array.getElem?_append_left (by rw [Array.size_modify];omega),Array.getElem?_modify,if_neg (by omega)]
theorem A8F (sv:Value) (ks:List Nat) (w:World) (hks:∀ a∈ks,a < wW) (hN:ks.length≤4000000)
  (hcol:Calls Tryz.prog 186 #[sv] w fun e W' => ∃ v ss,e = .returned v∧ss.Perm ks∧W'.ownsRow w.heap.size 25 32 v ss.length (D3 ss)∧(v = .slice none 0 0↔ss = [])∧Below w.heap.size w W') :
  Calls Tryz.prog 79 #[sv,.func (.func 81) #[] #[]] w fun e W' => ∃ v ss,e = .returned v∧ss.Perm ks∧ss.Pairwise (·≤·)∧W'.ownsRow w.heap.size 25 32 v ss.length (D3 ss)∧Below w.heap.size w W':=by
 have HS:=hid (fun (W:World) (v:Value) (ss:List Nat) (hp:ss.Perm ks) (hr:W.ownsRow w.heap.size 25 32 v ss.length (D3 ss))=>A36 (w:=W) (fun a ha=>hks a (hp.mem_iff.1 ha)) hr (by rw [hp.length_eq];exact hN))
 clear hks hN
 go_enter Tryz.func79,Tryz.ntmps79
 go_wp2_with (first
  | (go_at_call 186;refine hcol.mono ?_;rintro e w1 ⟨v,ss,rfl,hp,hrow,hnil,hB⟩;clear hnil)
  | (go_at_call 187;refine (HS.out _ v ss hp hrow).mono ?_;rintro e w2 ⟨rfl,rs,hp2,hpw,hrow2,hB2⟩))
 go_ret
 exact ⟨v,rs,rfl,hp2.trans hp,hpw,by rw [hp2.length_eq];exact hrow2,hB.trans hB2⟩
end Go.Proofs.YtfflppedbopdpaaGreat
namespace Go.Proofs.YtfflppedbopdpaaGreat
open Go.RowKit Go.Mun Go.Maps Go.Shelf

def A4f (x:Acc):List Nat:=(List.range 100).filter fun k=>decide (x.slots k≠0)
def A2p (x:Acc):List (Nat × Nat):=(A4f x).map fun k=>(k,x.slots k)
def A29 (S:St) (a:Nat):J3:=⟨B6S a (S a),A2p (S a)⟩
def B8C (x:Acc):Prop:=∀ k,100≤k→x.slots k=0
def B6V (S:St):Prop:=∀ a,B8C (S a)
theorem A9V {l l':List Nat} (h:l.Pairwise (· < ·)) (h':l'.Pairwise (· < ·)) (hm:∀ a,a∈l↔a∈l'):l=l':=by
 have n1:l.Nodup:=h.imp fun {a b} hlt=>by omega
 have n2:l'.Nodup:=h'.imp fun {a b} hlt=>by omega
 exact List.Perm.eq_of_pairwise (le:=(· < ·)) (fun a b _ _ h1 h2=>by omega) h h' ((List.perm_ext_iff_of_nodup n1 n2).2 hm)
theorem A7Q (x:Acc):(A4f x).Pairwise (· < ·):=List.pairwise_lt_range.filter _
theorem B6l {x:Acc} {k:Nat} (h:k∈A4f x):k < 100:=List.mem_range.1 (List.mem_filter.1 h).1
theorem A9d {x:Acc} (hf:B8C x) (k:Nat):k∈A4f x↔x.slots k≠0:=by
 unfold A4f
 rw [List.mem_filter,List.mem_range,decide_eq_true_eq]
 refine ⟨fun h=>h.2,fun h=>⟨?_,h⟩⟩
 rcases Nat.lt_or_ge k 100 with h1 | h1
 ·exact h1
 ·exact absurd (hf k h1) h
theorem A5J (x:Acc):(A4f x).length≤100:=by
 have:=List.length_filter_le (fun k=>decide (x.slots k≠0)) (List.range 100)
 rwa [List.length_range] at this
theorem A94 {sl:List (Nat × Nat)} {x:Acc} (h:A0s sl x.slots) (k:Nat):k∈sl.map Prod.fst↔x.slots k≠0:=by
 have h1:=h.get k
 cases hg:E6 k sl with
 | none =>
  rw [hg] at h1
  refine ⟨fun hm=>?_,fun hn=>absurd h1 hn⟩
  obtain ⟨p,hp,rfl⟩:=List.mem_map.1 hm
  exact absurd rfl (J6 hg p hp)
 | some v =>
  rw [hg] at h1
  have hm:=K6 hg
  refine ⟨fun _=>?_,fun _=>List.mem_map.2 ⟨_,hm,rfl⟩⟩
  rw [h1]
  exact (h.val _ hm).1
theorem A7l {w:World} {Bm q:Nat} {sl:List (Nat × Nat)} {x:Acc} (hBm:Bm < w.heap.size) (hm:w.cell? ⟨Bm,0,none⟩=some (.map (some q))) (hq:E7 wdV wW wdV w q sl) (hs:A0s sl x.slots) (hf:B8C x) :
  Calls Tryz.prog 79 #[.func (.func 188) #[] #[.pointer (some ⟨Bm,0,none⟩)],.func (.func 81) #[] #[]] w fun e w' => ∃ v,e = .returned v∧w'.ownsRow w.heap.size 25 32 v (A4f x).length (D3 (A4f x))∧Below w.heap.size w w':=by
 have hn:=hq.nodup
 have hlt:∀ a∈sl.map Prod.fst,a < wW:=by
  intro a ha
  obtain ⟨es,clock,_,_,hN,_⟩:=hq
  obtain ⟨p,hp,rfl⟩:=List.mem_map.1 ha
  exact hN p hp
 have n1:(A4f x).Nodup:=(A7Q x).imp fun {a b} hlt=>by omega
 have hp:(sl.map Prod.fst).Perm (A4f x):=(List.perm_ext_iff_of_nodup hn n1).2 fun k=>(A94 hs k).trans (A9d hf k).symm
 have hl:(sl.map Prod.fst).length≤4000000:=by have:=A5J x;rw [hp.length_eq];omega
 obtain ⟨D,hD,hsz,h1,h2⟩:=hq.owns A5L (by unfold maxLen;rw [List.length_map] at hl;omega)
 refine (A8F _ _ _ hlt hl (A50 Bm q sl.length D (sl.map Prod.fst) w hlt hn hl (by rw [List.length_map];exact hsz) h1 h2 hBm hm hD)).mono ?_
 rintro e w' ⟨v,ss,rfl,hp2,hpw,hrow,hB⟩
 have hss:ss=A4f x:=by
  have hnd:ss.Nodup:=hp2.nodup_iff.2 hn
  refine A9V ?_ (A7Q x) fun a=>(hp2.trans hp).mem_iff
  exact (hpw.and hnd).imp fun {a b} h=>by have h1:=h.1;have h2:=h.2;omega
 subst hss
 exact ⟨v,rfl,hrow,hB⟩
def B5c (w:World) (p:J3 × Value × Value):Prop:=∃ a k s j,p.2.1 = .slice a p.1.ac.code.length k∧I7 w .u8 a k p.1.ac.code∧p.2.2 = .slice s p.1.slots.length j∧F0 w s j p.1.slots.length 64 (D9 p.1.slots)
theorem A9A {w0 w:World} {v:Value} {ds:List (J3 × Value × Value)} (h:A1K w0 w v ds):∀ p∈ds,B5c w p:=by
 intro p hp
 obtain ⟨a,k,e1,_,i1⟩:=I7.of_own' (h.code p hp)
 obtain ⟨s,j,f1⟩:=E1 (h.slots p hp)
 have:=h.slots p hp
 rw [f1] at this
 exact ⟨a,k,s,j,e1,i1,f1,A4O this (A0T _)⟩
theorem B1c {S:St} {n:Nat} {L:List J3} {l:List Nat} (h:B2e S n L) (hl:B2f S l) (hf:B6V S):L=l.map (A29 S):=by
 have h1:L.map (fun x=>x.ac.addr)=l:=by
  refine A9V h.up hl.1 fun a=>?_
  rw [hl.2 a]
  constructor
  ·intro ha
   obtain ⟨x,hx,rfl⟩:=List.mem_map.1 ha
   exact ⟨(h.well x hx).1.addr,(h.acc x hx).2⟩
  ·rintro ⟨_,h2⟩
   obtain ⟨x,hx,e⟩:=h.all a h2
   exact List.mem_map.2 ⟨x,hx,e⟩
 have h2:∀ x∈L,x=A29 S x.ac.addr:=by
  intro x hx
  have e1:=(h.acc x hx).1
  have hw:=h.well x hx
  have hs:x.slots=A2p (S x.ac.addr):=by
   have hk:x.slots.map Prod.fst=A4f (S x.ac.addr):=by
    refine A9V hw.2.2.1 (A7Q _) fun k=>?_
    rw [A9d (hf _),← e1]
    show _↔(E6 k x.slots).getD 0≠0
    constructor
    ·intro hm
     obtain ⟨q,hq,rfl⟩:=List.mem_map.1 hm
     rw [A3b hw.2.2.1 hq]
     exact hw.2.2.2 q hq
    ·intro hn
     cases hg:E6 k x.slots with
     | none=>rw [hg] at hn;exact absurd rfl hn
     | some v=>exact List.mem_map.2 ⟨_,K6 hg,rfl⟩
   unfold A2p
   rw [← hk,List.map_map]
   conv=>lhs;rw [← List.map_id x.slots]
   refine List.map_congr_left fun q hq=>?_
   show q=(q.1,(S x.ac.addr).slots q.1)
   rw [← e1]
   show q=(q.1,(E6 q.1 x.slots).getD 0)
   rw [A3b hw.2.2.1 hq]
   rfl
  obtain ⟨⟨a,nn,b,cd⟩,sl⟩:=x
  simp only at hs
  have hn:=hw.1.nonce.1
  simp only at e1 hn
  show (⟨⟨a,nn,b,cd⟩,sl⟩:J3)=⟨B6S a (S a),A2p (S a)⟩
  rw [hs]
  rw [← e1]
  unfold B6S J3.acc
  simp only [J3.mk.injEq,Ac.mk.injEq,and_true,true_and]
  omega
 rw [← h1,List.map_map]
 conv=>lhs;rw [← List.map_id L]
 exact List.map_congr_left h2
theorem A6h:B2a (C5 40000) (.slice none 0 0) ⟨0,0,0,0,0⟩ (A0G (A1l J0 [])) 0 11 0 [] (A0G (A1l J0 [])):=by
 obtain ⟨f',hl⟩:=A68 (A4e J0 [] 0) 3333 0
 have e0:O4 (C5 40000) J0=⟨C5 40000,J0,[],[],0,0,12*3333+4,[],[],[],false⟩:=rfl
 rw [← e0] at hl
 exact A6P (dv:=.slice none 0 0) (er:=11) (step:=M3) (fun ht=>A5e ht) (A41 40000 (by decide)) rfl (by decide) (by decide) (B1D J0 [] 0 (by decide)) hl (fun e=>absurd e (by decide))
theorem A6g:B19 (C5 40000) (.slice none 0 0) ⟨0,0,0,0,0⟩ (A0G (A1l J0 [])) 0 11 0 [] (A0G (A1l J0 [])):=by
 obtain ⟨f',hl⟩:=A67 (A4e J0 [] 0) 3333
 have e0:O4 (C5 40000) J0=⟨C5 40000,J0,[],[],0,0,12*3333+4,[],[],[],false⟩:=rfl
 rw [← e0] at hl
 exact A6O (dv:=.slice none 0 0) (er:=11) (pr:=U8) (dor:=doL) (fun E=>A6D E) (A41 40000 (by decide)) rfl (by decide) (by decide) rfl (B1D J0 [] 0 (by decide)) hl rfl
def A3K (t:Int):St:=(A4e (C0 t) [] 0).setSlot 1 0 9
theorem B2V (t:Int):B6V (A3K t):=by
 intro a k hk
 unfold A3K St.setSlot
 by_cases h:a=1
 ·subst h
  rw [A0Q]
  show A38 _ 0 9 k=0
  unfold A38
  rw [if_neg (by omega)]
  exact A5E _ _ _ _ _
 ·rw [Y5 _ _ h]
  exact A5E _ _ _ _ _
theorem B0v (t:Int):(A3K t 1).slots 0=9:=rfl
theorem B4m {n:Nat} (h:n < 256):∃ r,40*n+20027+r=39997∧r < 20000:=⟨19970 - 40*n,by omega,by omega⟩
theorem B0c (n:Nat) (h:n < 256) (r:Nat) (hr:40*n+20027+r=39997):B2a (C5 40000) (.slice none 0 0) ⟨0,0,0,0,0⟩ (A0G (A1l (C0 n) [])) r 0 0 [] (A3K n):=by
 obtain ⟨f',hl,hg,ho,hlg⟩:=B4o n (A4e (C0 n) [] 0) rfl r n 0 h
 have s1:M3 ⟨C5 40000,C0 n,[],[],0,0,40000,[],[],[],false⟩ (A4e (C0 n) [] 0) = .ok ⟨C5 40000,C0 n,[n],[],0,2,39997,[],[],[],false⟩ (A4e (C0 n) [] 0):=
  (K5 (st':=[]) (ts:=[]) (gas':=39997) (nx':=2) 96 0 1 3 0 rfl o96 rfl (by decide) (by decide) rfl (by decide) rfl rfl rfl rfl).trans (A0I (f:=⟨C5 40000,C0 n,[],[],0,2,39997,[],[],[],false⟩) n (by show 0+1+1≤27;decide) (by show 0 < 1024;decide) rfl)
 have e0:O4 (C5 40000) (C0 n)=⟨C5 40000,C0 n,[],[],0,0,40000,[],[],[],false⟩:=rfl
 rw [hr] at hl
 have hl2:U1 M3 (10*n+10+1) (O4 (C5 40000) (C0 n)) (A4e (C0 n) [] 0)=some (0,f',A3K n):=by
  rw [e0]
  exact Eq.trans (J4 (k:=10*n+10) 27 rfl (by decide) s1) hl
 have h:=A6P (dv:=.slice none 0 0) (cx:=⟨0,0,0,0,0⟩) (er:=0) (step:=M3) (fun ht=>A5e ht) (A41 40000 (by decide)) rfl (by decide) (by decide) (B1D (C0 n) [] 0 (by decide)) hl2 (fun _=>hlg)
 have g1:A4k 0 f'=(r:Int):=by unfold A4k;rw [if_pos rfl,hg]
 have g2:A2Y 0 f' = []:=by unfold A2Y;rw [if_pos rfl,ho]
 rw [g1,g2,if_pos rfl] at h
 exact h
theorem B0b (n:Nat) (h:n < 256) (r:Nat) (hr:40*n+20027+r=39997):B19 (C5 40000) (.slice none 0 0) ⟨0,0,0,0,0⟩ (A0G (A1l (C0 n) [])) r 0 0 [] (A3K n):=by
 obtain ⟨f',hl,hg,ho⟩:=B4n n (A4e (C0 n) [] 0) rfl r n h
 have s1:D7 U8 doL ⟨C5 40000,C0 n,[],[],0,0,40000,[],[],[],false⟩ (A4e (C0 n) [] 0) = .ok ⟨C5 40000,C0 n,[n],[],0,2,39997,[],[],[],false⟩ (A4e (C0 n) [] 0):=
  (J2 (f2:=⟨C5 40000,C0 n,[n],[],0,0,39997,[],[],[],false⟩) (gas':=39997) (nx':=2) 96 0 1 3 0 0 27 rfl (by decide) rfl o96 rfl (by decide) rfl rfl (by decide) (by decide) (A1t (f:=⟨C5 40000,C0 n,[],[],0,0,39997,[],[],[],false⟩) n (by show beN _=n;exact A1F n)) rfl rfl (by decide))
 have e0:O4 (C5 40000) (C0 n)=⟨C5 40000,C0 n,[],[],0,0,40000,[],[],[],false⟩:=rfl
 rw [hr] at hl
 have hl2:W9 (D7 U8 doL) (10*n+11+1) (O4 (C5 40000) (C0 n)) (A4e (C0 n) [] 0)=some (0,f',A3K n):=by
  rw [e0]
  exact Eq.trans (J1 (k:=10*n+11) s1) hl
 have g2:A2Y 0 f' = []:=by unfold A2Y;rw [if_pos rfl,ho]
 have h:=A6O (dv:=.slice none 0 0) (cx:=⟨0,0,0,0,0⟩) (er:=0) (pr:=U8) (dor:=doL) (fun E=>A6D E) (A41 40000 (by decide)) rfl (by decide) (by decide) rfl (B1D (C0 n) [] 0 (by decide)) hl2 g2
 have g1:A4k 0 f'=(r:Int):=by unfold A4k;rw [if_pos rfl,hg]
 rw [g1,g2,if_pos rfl] at h
 exact h
structure A0v (w wr:World) (S:St) (ss:List Nat) (kv v:Value) (i:Nat):Prop where
 r:∃ ds,A1K w wr v ds∧F6 ds=((ss.take i).filter fun a => !(S a).emptyB).map (A29 S)
 k:wr.ownsRow w.heap.size 23 20 kv ss.length (Y1 ss)
theorem A0v.next {w wr w':World} {S:St} {ss:List Nat} {kv v:Value} {i:Nat} (h:A0v w wr S ss kv v i) (hb:Below wr.heap.size wr w'):A0v w w' S ss kv v i:=by
 obtain ⟨⟨ds,h1,h2⟩,h3⟩:=h
 exact ⟨⟨ds,h1.next hb,h2⟩,C2 h3 hb⟩
theorem A0v.below {w wr:World} {S:St} {ss:List Nat} {kv v:Value} {i:Nat} (h:A0v w wr S ss kv v i):Below w.heap.size w wr:=by
 obtain ⟨⟨ds,h1,_⟩,_⟩:=h
 exact h1.below
theorem A0v.skip {w wr:World} {S:St} {ss:List Nat} {kv v:Value} {i:Nat} (h:A0v w wr S ss kv v i) (hi:i < ss.length) (he:(S ss[i]).emptyB=true):A0v w wr S ss kv v (i+1):=by
 obtain ⟨⟨ds,h1,h2⟩,h3⟩:=h
 refine ⟨⟨ds,h1,?_⟩,h3⟩
 rw [List.take_succ_eq_append_getElem hi,List.filter_append,List.map_append,← h2]
 simp [he]
theorem A0v.more {w w7 w8:World} {S:St} {ss:List Nat} {kv v v' cv sv:Value} {i a:Nat} {ds:List (J3 × Value × Value)} {x:Acc} {C:List Value} (h:A1K w w7 v ds) (hk:w7.ownsRow w.heap.size 23 20 kv ss.length (Y1 ss)) (hm:F6 ds=((ss.take i).filter fun a => !(S a).emptyB).map (A29 S))
  (ht:ss.take (i+1)=ss.take i++[a]) (hx:S a=x) (he:x.emptyB=false) (hC:C=B7 (P4 (B6S a x) cv sv)) (ho:w8.ownsRow w.heap.size 35 55 v' (ds.length+1) (G8 ds++C))
  (hg:w7.grownBy w8 v.ownBlock) (hc:w7.ownsRow w.heap.size 5 1 cv x.code.length (x.code.map (Value.int .u8))) (hs:w7.ownsRow w.heap.size 97 64 sv (A2p x).length (D9 (A2p x))):A0v w w8 S ss kv v' (i+1):=by
 subst hx
 subst hC
 refine ⟨⟨ds++[(A29 S a,cv,sv)],h.app (p:=(A29 S a,cv,sv)) ho hg hc hs,?_⟩,hk.kept hg (A1R hk h.own (by decide))⟩
 rw [ht,List.filter_append,List.map_append,← hm]
 simp [F6,he]
theorem A0v.len {ss:List Nat} {ds:List (J3 × Value × Value)} {S:St} {i:Nat} {f:Nat→Bool} (h:F6 ds=((ss.take i).filter f).map (A29 S)):ds.length≤ss.length:=by
 have h1:=congrArg List.length h
 unfold F6 at h1
 rw [List.length_map,List.length_map] at h1
 have h2:=List.length_filter_le f (ss.take i)
 rw [List.length_take] at h2
 omega
theorem B6R (x:Ac) (p s:Option Addr) (n c j k:Nat):P0 55 (B7 (P4 x (.slice p n c) (.slice s j k)))=true:=by
 refine A1a (L8 _ _ _) fun s hs=>?_
 simp only [P4,List.mem_cons,List.not_mem_nil,or_false] at hs
 rcases hs with rfl | rfl | rfl | rfl | rfl
 all_goals first | rfl | (rw [B0];exact C7 _ _)
theorem stkC_take:∀ (l:List Nat) (i:Nat) (hi:i < l.length),((D3 l).drop (i*32)).take 32=A3 32 l[i]
 | [],i,hi=>by simp at hi
 | a :: l,0,_=>by
  have:D3 (a :: l)=A3 32 a++D3 l:=by simp [D3]
  rw [this,Nat.zero_mul,List.drop_zero,List.take_append_of_le_length (by simp),List.take_of_length_le (by simp)]
  rfl
 | a :: l,i+1,hi=>by
  have:D3 (a :: l)=A3 32 a++D3 l:=by simp [D3]
  have hlen:(A3 32 a).length=32:=by simp
  rw [this,show (i+1)*32=(A3 32 a).length+i*32 by rw [hlen];omega,← List.drop_drop,List.drop_left]
  simpa using stkC_take l i (by simpa using hi)
theorem B5C {w:World} {g:Nat} {l:List Nat} {i:Nat} (hr:w.row? g 0 (l.length*32)=some (D3 l)) (hi:i < l.length):w.row? g (i*32) 32=some (A3 32 l[i]):=by
 have h1:=World.row?_sub hr (o':=i*32) (n':=32) (by omega) (by omega)
 rw [h1,Nat.sub_zero,stkC_take l i hi]
structure SlI (w7 wz:World) (yB:Nat) (x:Ac) (cv:Value) (L:List (Nat × Nat)) (sv:Value) (j:Nat):Prop where
 only:A2 (fun b=>b=yB) w7 wz
 row:wz.row? yB 0 55=some (B7 (P4 x cv sv))
 free:wz.free? yB 0 55=true
 own:wz.ownsRow 0 97 64 sv j (D9 (L.take j))
 new:∀ g,sv.ownBlock=some g→w7.heap.size≤g
theorem SlI.step {w7 wz x1 W:World} {yB:Nat} {x:Ac} {cv sv sv2:Value} {L:List (Nat × Nat)} {j k vv:Nat} (h:SlI w7 wz yB x cv L sv j) (hy:yB < w7.heap.size) (hb:Below wz.heap.size wz x1) (ho:A2 (fun b=>sv.ownBlock=some b) x1.drew W) (hv:W.ownsRow 0 97 64 sv2 (j+1) (D9 (L.take j)++(A3 32 k++A3 32 vv)))
  (hn:∀ g,sv2.ownBlock=some g→sv.ownBlock=some g∨x1.drew.heap.size≤g) (hat:L[j]? = some (k,vv)):SlI w7 (W.setCells yB 54 [sv2]) yB x cv L sv2 (j+1):=by
 have hsz:=h.only.size
 have hs1:wz.heap.size≤x1.drew.heap.size:=hb.size
 have hyz:yB < wz.heap.size:=Nat.lt_of_lt_of_le hy hsz
 have hny:¬ sv.ownBlock=some yB:=fun e=>by have:=h.new yB e;omega
 have hb1:Below wz.heap.size wz x1.drew:=hb.trans ((Below.refl _ _).drew.mono hb.size)
 have hr:W.row? yB 0 55=some (B7 (P4 x cv sv)):=(ho.row? (Nat.lt_of_lt_of_le hyz hs1) hny).trans (((D2 hb1).1 _ _ _ hyz).trans h.row)
 have hf:W.free? yB 0 55=true:=(ho.free? (Nat.lt_of_lt_of_le hyz hs1) hny).trans (((D2 hb1).2 _ _ _ hyz).trans h.free)
 have hnew:∀ g,sv2.ownBlock=some g→w7.heap.size≤g:=fun g hg=>by
  rcases hn g hg with h1 | h1
  ·exact h.new g h1
  ·omega
 refine ⟨?_,?_,?_,?_,hnew⟩
 ·refine A2.setCells (S:=fun b=>b=yB) ?_ (fun _=>rfl) _ _
  have a1:A2 (fun b=>b=yB) w7 x1.drew:=h.only.trans (T:=fun _=>False) (A2.of_below_size hb1) (fun _ h _=>h.elim)
  exact a1.trans ho (fun i hi hlt=>by have:=h.new i hi;omega)
 ·rw [World.row?_setCells_in 54 [sv2] hr (by omega) (by simp),Nat.sub_zero,X3 (i:=4) (s:=[sv]) rfl (by simp) (by simp [P4,A7,A5])]
  rfl
 ·rw [World.free?_setCells'];exact hf
 ·have e:D9 (L.take (j+1))=D9 (L.take j)++(A3 32 k++A3 32 vv):=by
   rw [List.take_add_one,hat]
   simp [D9]
  rw [e]
  exact A2.own hv ((A2.refl (· = yB) _).setCells (fun _=>rfl) _ _) (fun g hg hx=>by have h1:=hnew g hg;have h2:g=yB:=hx;omega)
theorem A7s {w:World} {own:Go.Mun.Own} {sb:Nat} {S:St} {M:List (Nat × St)} {n:Nat} (h:StateAt TU w own sb S M n) (hn:n≤3000000) (hz:B6V S) :
  Calls Tryz.prog 41 #[.pointer (some ⟨sb,0,none⟩)] w fun e w' => ∃ v ds l,e = .returned v∧A1K w w' v ds∧F6 ds=l.map (A29 S)∧B2f S l∧ds.length≤4000000:=by
 obtain ⟨mb,uv,mv,last,E,U,mk,hs,-,-,-,-,hE⟩:=h
 obtain ⟨c0,_⟩:=hs.cells
 have hElt:∀ a∈E.map Prod.fst,a < wA:=by
  intro a ha
  obtain ⟨es,clock,_,_,hN,_⟩:=hs.map
  obtain ⟨p,hp,rfl⟩:=List.mem_map.1 ha
  exact hN p hp
 have hEn:=hs.map.nodup
 have hEl:(E.map Prod.fst).length≤4000000:=by rw [List.length_map];omega
 have hout:∀ a,a ∉ E.map Prod.fst→S a=Acc.none:=fun a ha=>by
  rcases A3w hs a with ⟨p,hp,_⟩ | ⟨_,h2⟩
  ·exact absurd (List.mem_map.2 ⟨_,K6 hp,rfl⟩) ha
  ·exact h2
 have hin:∀ a,a∈E.map Prod.fst→∃ p,E6 a E=some p∧L6 w own p (S a):=fun a ha=>by
  rcases A3w hs a with h1 | ⟨h2,_⟩
  ·exact h1
  ·obtain ⟨q,hq,rfl⟩:=List.mem_map.1 ha;exact absurd rfl (J6 h2 q hq)
 have hSF:Calls Tryz.prog 75 #[.func (.func 184) #[] #[.pointer (some ⟨w.heap.size,0,none⟩)],.func (.func 77) #[] #[]] (w.alloc (.cells #[.map (some mb)] 90)) fun e W' => ∃ v ss,e = .returned v∧ss.Perm (E.map Prod.fst)∧ss.Pairwise (·≤·)∧W'.ownsRow (w.alloc (.cells #[.map (some mb)] 90)).heap.size 23 20 v ss.length (Y1 ss)∧Below (w.alloc (.cells #[.map (some mb)] 90)).heap.size (w.alloc (.cells #[.map (some mb)] 90)) W':=by
  have hm1:E7 adV wA ptV (w.alloc (.cells #[.map (some mb)] 90)) mb E:=hs.map.below ((Below.refl _ _).alloc (Nat.le_refl _) _)
  obtain ⟨D,hD,hsz,h1,h2⟩:=hm1.owns A1b (by unfold maxLen;rw [List.length_map] at hEl;omega)
  have hcell:(w.alloc (.cells #[.map (some mb)] 90)).cell? ⟨w.heap.size,0,none⟩=some (.map (some mb)):=by
   have:=World.alloc_heap_new w (.cells #[.map (some mb)] 90)
   unfold World.cell?
   simp only [this]
   rfl
  exact A7u _ _ _ hElt hEl (A6t w.heap.size mb E.length D (E.map Prod.fst) _ hElt hEn hEl (by rw [List.length_map];exact hsz) h1 h2 (by simp) hcell hD)
 have HSF:=hid hSF
 have HS:=hid hs
 have HIN:=hid hin
 have HOUT:=hid hout
 have HEL:=hid hElt
 have HEN:=hid hEn
 have HEB:=hid hEl
 have HZ:=hid hz
 clear hSF hs hin hout hElt hEn hEl hz hE
 go_enter Tryz.func41,Tryz.ntmps41
 go_wp2_with (first
  | (go_at_call 76;refine (B2U _ _ rfl).mono ?_;rintro e w1 ⟨rfl,rfl⟩)
  | (go_at_call 75;refine HSF.out.mono ?_;rintro e w2 ⟨kv,ss,rfl,hp,hpw,hrow,hB⟩;obtain ⟨ad,cap,rfl⟩:=A0o hrow))
 have hB2:Below w.heap.size w w2:=((Below.refl _ w).alloc (Nat.le_refl _) _).trans (hB.mono (by simp))
 have hrow2:w2.ownsRow w.heap.size 23 20 (.slice ad ss.length cap) ss.length (Y1 ss):=by
  refine ⟨hrow.1,hrow.2.imp id ?_⟩
  rintro ⟨g,cap',cur,h1,h2,h3⟩
  exact ⟨g,cap',cur,h1,by simp at h2;omega,h3⟩
 have HI0:Hid (A0v w w2 S ss (.slice ad ss.length cap) (.slice none 0 0) 0):=⟨⟨[],(A1K.start w).next hB2,rfl⟩,hrow2⟩
 have HP:=hid hp
 have HPW:=hid hpw
 have hssl:ss.length≤4000000:=by rw [hp.length_eq];exact HEB.out
 clear hB hB2 hrow hrow2 hp hpw c0
 go_wp2_with fail
 go_loopw [3,17] (fun v idx wr => ∃ i:Nat,i≤ss.length∧idx = .int .i64 (i:Int)∧A0v w wr S ss (.slice ad ss.length cap) v i) (fun _ i _=>ss.length - (intOf i).toNat)
 case atStart=>exact ⟨0,by omega,rfl,HI0.out⟩
 case round =>
  rename World=>wo
  clear HI0 HSF
  obtain ⟨i,hi,rfl,hr⟩:=hrel
  have HR:=hid hr
  clear hr
  by_cases hlt:i < ss.length
  ·have hmem:ss[i]∈E.map Prod.fst:=HP.out.mem_iff.1 (List.getElem_mem hlt)
   have hlA:=HEL.out _ hmem
   obtain ⟨p,hp,hacc⟩:=HIN.out _ hmem
   obtain ⟨g,c2,hkv,_,_,hc2,hkr,_⟩:=I3 HR.out.k (by omega)
   cases hkv
   have hkr2:=B5E hkr hlt
   have hiI:(i:Int) < ss.length:=by omega
   have hok:=C7 20 ss[i]
   have hbx:=A2U (w:=wo) (t:=23) (n:=20) (zU8_len 20) hok
   have hf1:(wo.alloc (.cells (K0 20).toArray 23)).free? wo.heap.size 0 20=true:=World.free?_alloc_at _ _ rfl (by rw [zU8_len];omega)
   obtain ⟨w1,e1⟩:∃ w1,w1=(wo.alloc (.cells (K0 20).toArray 23)).setCells wo.heap.size 0 (A3 20 ss[i]):=⟨_,rfl⟩
   rw [← e1] at hbx
   have HE1:=hid e1
   have HSK:=hid (fun he=>HR.out.skip hlt he)
   have HTK:=hid (List.take_succ_eq_append_getElem hlt)
   have hbS:Below w.heap.size w w1:=HR.out.below.trans (hbx.1.mono HR.out.below.size)
   have hbD:Below w.heap.size w w1.drew:=hbS.trans ((Below.refl _ _).drew.mono hbS.size)
   have hacc1:=hacc.only_out (R:=fun _=>False) (A2.of_below_size hbD) (fun _ h=>h.elim)
   have l1:=(HS.out.map.below hbD).look A1b Tryz.underlying90 (A0Y _) hlA
   rw [hp] at l1
   have l2:(Instr.lookup 90 (.map (some mb)) (.agg (A3 20 ss[i]).toArray) false).run Tryz.prog w1.drew = .ok (.pointer (some ⟨p,0,none⟩)) w1.drew:=l1
   obtain ⟨c1,_⟩:=(HS.out.only (R:=fun _=>False) (A2.of_below_size hbD) (fun _ h=>h.elim)).cells
   have r1:w1.drew.row? wo.heap.size 0 20=some (A3 20 ss[i]):=hbx.2
   have HBX:=hid hbx.1
   have HACC:=hid hacc1
   have HN1:=hid (HR.out.next hbx.1)
   clear hmem hp hacc hkr hbx e1 hbS hbD hacc1 l1
   generalize ss[i]=a at *
   have hlen:=L2 hok
   go_wp2_with fail
   rw [← HE1.out]
   refine wp_region_still_lit (by kernel_rfl) (by kernel_rfl) ?_
   change wpStill _ _ (World.drew _) _ _ _
   repeat still_step
   refine wpStill_nil ?_
   have HEM:=hid (A9x HACC.out.r)
   cases hemp:(S a).emptyB with
   | true =>
    rw [hemp] at HEM
    go_wp2_with (go_at_call 44;refine HEM.out.mono ?_;rintro e w2 ⟨rfl,rfl⟩)
    have hk1:IntKind.i64.wrap ((i:Int)+1)=((i+1:Nat):Int):=by rw [V3 _ (by omega) (by omega)];omega
    go_roundw
    case rel=>exact ⟨i+1,by omega,by go_num,(HSK.out hemp).next (HBX.out.trans ((Below.refl _ _).drew.mono HBX.out.size))⟩
    case measure=>simp [intOf];omega
   | false =>
    rw [hemp] at HEM
    obtain ⟨cv,q,sl,hrow,hcode,_,hmq,hsl⟩:=HACC.out.cells
    obtain ⟨⟨ca,cc,rfl,hints,_⟩,_,hcl⟩:=hcode
    have HSL:=hid hsl
    have HFW:=hid (HZ.out a)
    have hxn:=HACC.out.nonce
    have hxb:=HACC.out.bal
    have HCI:=hid hints
    have HCL:=hid hcl
    have HMQ:=hid hmq
    have HND:Hid (A0v w w1.drew S ss (.slice (some ⟨g,0,none⟩) ss.length cap) u3 i):=HN1.out.next (Below.refl _ _).drew
    clear hints hcl hmq hsl HSK l2 c1 hkr2
    generalize hX:S a=x at *
    have HX:=hid hX
    clear hX
    obtain ⟨nn,bal,code,slots⟩:=x
    simp only at *
    go_wp2_with (go_at_call 44;refine HEM.out.mono ?_;rintro e w2 ⟨rfl,rfl⟩)
    have HB1:Hid (Below wo.heap.size wo w1.drew):=HBX.out.trans ((Below.refl _ _).drew.mono HBX.out.size)
    have HR1:Hid (w1.drew.row? p 0 35=some (Y3 nn bal (.slice ca code.length cc) (.map (some q)))):=hrow
    have HR2:Hid (w1.drew.row? wo.heap.size 0 20=some (A3 20 a)):=r1
    have hwo:wo.heap.size < w1.drew.heap.size:=World.row?_lt r1
    have hpl:p < w1.drew.heap.size:=World.row?_lt hrow
    clear HBX HE1 HACC HEM hrow r1 hf1 HN1
    generalize w1.drew=v0 at *
    obtain ⟨T,hT⟩:∃ T:World→Prop,T=fun w'=>w'.row? wo.heap.size 0 20=some (A3 20 a)∧w'.row? p 0 35=some (Y3 nn bal (.slice ca code.length cc) (.map (some q))):=⟨_,rfl⟩
    have HT:=hid hT
    have tb:∀ w2 w3,T w2→Below w2.heap.size w2 w3→T w3:=by
     rw [hT];intro w2 w3 h hb
     exact ⟨((D2 hb).1 _ _ _ (World.row?_lt h.1)).trans h.1,((D2 hb).1 _ _ _ (World.row?_lt h.2)).trans h.2⟩
    have HTB:=hid tb
    have t0:T v0.drew:=by rw [hT];exact ⟨HR2.out,HR1.out⟩
    have HI0:Hid (I7 v0.drew .u8 ca cc code):=HCI.out.below (Below.refl _ _).drew
    have hcl2:code.length≤70000000000000:=by have:=HCL.out;omega
    have hokb:=C7 32 bal
    have hz55:=X1
    have HND2:Hid (A0v w v0.drew S ss (.slice (some ⟨g,0,none⟩) ss.length cap) u3 i):=HND.out.next (Below.refl _ _).drew
    have HMQ2:Hid (E7 wdV wW wdV v0.drew q sl):=HMQ.out.below (Below.refl _ _).drew
    clear hT tb HND HMQ HB1 HR1 HR2 HCI
    refine A6 T [16] (.take 0 (.pure 1 (.pure 2 (.pure 3 (.take 4 (.pure 5 (.pure 6 (.pure 7 (.take 8 (.pure 9 (.pure 10 (.pure 11 (.take 12 (.alt 13 (.pure 14 (.alt 15 (.alt 16 .fin .stop) .stop)) (.alt 15 (.alt 13 (.pure 14 (.alt 16 .fin .stop)) .stop) .stop))))))))))))))) (by kernel_rfl) (by kernel_rfl) ?_
    generalize v0.drew=v1 at *
    refine (fun (HJ:∀ (yB:Nat) (cwa:Option Addr) (cwc:Nat) (w5:World),(Below v1.heap.size v1 w5)→(w5.row? yB 0 55=some (B7 (P4 ⟨a,(nn:Int),bal,code⟩ (.slice cwa code.length cwc) (.slice none 0 0))))→(w5.free? yB 0 55=true)→(w5.ownsRow w.heap.size 5 1 (.slice cwa code.length cwc) code.length (code.map (Value.int .u8)))→(∀ g,(Value.slice cwa code.length cwc).ownBlock=some g→g≠yB)→(v1.heap.size≤yB)→(?J:Nat→Option Addr→Nat→World→Prop) yB cwa cwc w5)=>?mJ) ?tJ
    case mJ =>
     iterate 13
      first
      |refine A9 ?_ t0 rfl (by rfl) (fun w' hs=>?_) (fun _ _ _ h=>h) ?_
       rotate_left
       ·rw [HT.out] at hs
        obtain ⟨q1,q2⟩:=hs;obtain ⟨z0,z1,z33,z34⟩:=Y2 q2
        go_simp
        try rfl
       simp only [Act.put,D6,D5,D4]
      |refine A0 ?_ rfl (by rfl) (fun w' hs=>?_) (fun _ _ _ h=>h) ?_
       rotate_left
       ·clear hs
        go_simp
        try rfl
       simp only [Act.put,D6,D5,D4]
     refine V4 rfl (fun K hK=>?_) ?_
     ·go_simp
      refine (A3Z ca code.length cc code rfl hcl2 _ HI0.out).mono ?_
      rintro e w3 ⟨cw,rfl,hnb⟩
      have t3:T w3:=HTB.out _ _ t0 hnb.below
      have HNB:=hid hnb
      obtain ⟨cwa,cwc,hcw⟩:=A0o hnb.own
      clear hnb
      subst hcw
      have hbuild:=B12 a nn bal cwa code.length cwc code
      refine hK.out _ _ t3 ?_
      clear hK K
      refine A0 ?_ rfl (by rfl) (fun w' hs=>?_) (fun _ _ _ h=>h) ?_
      rotate_left
      ·clear hs
       refine (B3o _ _ _ _ _ _ _ _).trans ?_
       refine (congrArg (fun r=>F7 (Y0 Tryz.prog 35 _ _ r)) hbuild).trans ?_
       rfl
      simp only [Act.put,D6,D5,D4]
      refine A8 rfl (fun K hK=>?_)
      go_simp
      have hbm:Below w3.heap.size w3 (World.alloc w3 (.cells (B7 L9).toArray 35)):=(Below.refl _ _).alloc (Nat.le_refl _) _
      have tA:T (World.alloc w3 (.cells (B7 L9).toArray 35)):=HTB.out _ _ t3 hbm
      clear hbm
      refine hK.out _ _ tA ?_
      clear hK K
      refine L0 rfl (by simp) (fun K hK=>?_)
      have hfs:(World.alloc w3 (.cells (B7 L9).toArray 35)).free? w3.heap.size 0 55=true:=World.free?_alloc_at _ _ rfl (by rw [hz55];omega)
      have hok5:=B1b ⟨a,(nn:Int),bal,code⟩ cwa code.length cwc
      go_simp
      have hok5:=B1b ⟨a,(nn:Int),bal,code⟩ cwa code.length cwc
      refine hK.out _ _ ?_
      clear hK K
      refine C3 ?_
      obtain ⟨w5,e5⟩:∃ w5,w5=World.setCells (World.alloc w3 (.cells (B7 L9).toArray 35)) w3.heap.size 0 (B7 (P4 ⟨a,(nn:Int),bal,code⟩ (.slice cwa code.length cwc) (.slice none 0 0))):=⟨_,rfl⟩
      have hb3:Below v1.heap.size v1 w3:=HNB.out.below
      have hs3:=hb3.size
      have hb5:Below v1.heap.size v1 w5:=by rw [e5];exact (hb3.trans ((Below.refl _ _).alloc hs3 _)).setCells (by omega) _ _
      have r5:w5.row? w3.heap.size 0 55=some (B7 (P4 ⟨a,(nn:Int),bal,code⟩ (.slice cwa code.length cwc) (.slice none 0 0))):=by rw [e5];exact B8 _ hfs hok5
      have f5:w5.free? w3.heap.size 0 55=true:=by rw [e5,World.free?_setCells'];exact hfs
      have ho5:w5.ownsRow v1.heap.size 5 1 (.slice cwa code.length cwc) code.length (code.map (Value.int .u8)):=by
       rw [e5]
       exact C2 HNB.out.own (((Below.refl _ _).alloc (Nat.le_refl _) _).setCells (Nat.le_refl _) _ _)
      have hcb:∀ g,(Value.slice cwa code.length cwc).ownBlock=some g→g≠w3.heap.size:=fun g hg=>by have:=(HNB.out.own.lt g hg).2;omega
      have hy5:v1.heap.size≤w3.heap.size:=hs3
      rw [← e5]
      clear e5 hbuild hfs hok5 t3 tA
      generalize w3.heap.size=yB at *
      exact HJ yB cwa cwc w5 hb5 r5 f5 (E8 ho5 (by have:=HND2.out.below.size;omega)) hcb hy5
     refine A8 rfl (fun K hK=>?_)
     go_simp
     have hbm:Below v1.heap.size v1 (World.alloc v1 (.cells (B7 L9).toArray 35)):=(Below.refl _ _).alloc (Nat.le_refl _) _
     have tA:T (World.alloc v1 (.cells (B7 L9).toArray 35)):=HTB.out _ _ t0 hbm
     have HIA:=hid (HI0.out.below hbm)
     clear hbm
     refine hK.out _ _ tA ?_
     clear hK K
     refine A8 rfl (fun K hK=>?_)
     go_simp
     refine (A3Z ca code.length cc code rfl hcl2 _ HIA.out).mono ?_
     rintro e w3 ⟨cw,rfl,hnb⟩
     have t3:T w3:=HTB.out _ _ tA hnb.below
     have HNB:=hid hnb
     obtain ⟨cwa,cwc,hcw⟩:=A0o hnb.own
     clear hnb
     subst hcw
     have hbuild:=B12 a nn bal cwa code.length cwc code
     refine hK.out _ _ t3 ?_
     clear hK K
     refine A0 ?_ rfl (by rfl) (fun w' hs=>?_) (fun _ _ _ h=>h) ?_
     rotate_left
     ·clear hs
      refine (B3o _ _ _ _ _ _ _ _).trans ?_
      refine (congrArg (fun r=>F7 (Y0 Tryz.prog 35 _ _ r)) hbuild).trans ?_
      rfl
     simp only [Act.put,D6,D5,D4]
     refine L0 rfl (by simp) (fun K hK=>?_)
     have hfs:w3.free? v1.heap.size 0 55=true:=by rw [(D2 HNB.out.below).2 _ _ _ (by simp)];exact World.free?_alloc_at _ _ rfl (by rw [hz55];omega)
     have hok5:=B1b ⟨a,(nn:Int),bal,code⟩ cwa code.length cwc
     go_simp
     refine hK.out _ _ ?_
     clear hK K
     refine C3 ?_
     obtain ⟨w5,e5⟩:∃ w5,w5=World.setCells w3 v1.heap.size 0 (B7 (P4 ⟨a,(nn:Int),bal,code⟩ (.slice cwa code.length cwc) (.slice none 0 0))):=⟨_,rfl⟩
     have hb3:Below v1.heap.size v1 w3:=((Below.refl _ _).alloc (Nat.le_refl _) _).trans (HNB.out.below.mono (by simp))
     have hb5:Below v1.heap.size v1 w5:=by rw [e5];exact hb3.setCells (Nat.le_refl _) _ _
     have r5:w5.row? v1.heap.size 0 55=some (B7 (P4 ⟨a,(nn:Int),bal,code⟩ (.slice cwa code.length cwc) (.slice none 0 0))):=by rw [e5];exact B8 _ hfs hok5
     have f5:w5.free? v1.heap.size 0 55=true:=by rw [e5,World.free?_setCells'];exact hfs
     have ho5:w5.ownsRow (World.alloc v1 (.cells (B7 L9).toArray 35)).heap.size 5 1 (.slice cwa code.length cwc) code.length (code.map (Value.int .u8)):=by
      rw [e5]
      exact A2.own HNB.out.own ((A2.refl (· = v1.heap.size) _).setCells (fun _=>rfl) _ _) (fun gg hg hx=>by have h1:=(HNB.out.own.lt gg hg).1;have h2:gg=v1.heap.size:=hx;simp at h1;omega)
     have hcb:∀ g,(Value.slice cwa code.length cwc).ownBlock=some g→g≠v1.heap.size:=fun g hg=>by have h1:=(HNB.out.own.lt g hg).1;simp at h1;omega
     have hcw:w5.ownsRow w.heap.size 5 1 (.slice cwa code.length cwc) code.length (code.map (Value.int .u8)):=E8 ho5 (by have:=HND2.out.below.size;simp;omega)
     rw [← e5]
     obtain ⟨yB,hyB⟩:∃ yB,yB=v1.heap.size:=⟨_,rfl⟩
     rw [← hyB] at r5 f5 hcb ⊢
     exact HJ yB cwa cwc w5 hb5 r5 f5 hcw hcb (by omega)
    case tJ =>
     intro yB cwa cwc w5 hb5 hr5 hf5 ho5 hcb hy5
     obtain ⟨X,hX⟩:∃ X:Acc,X=⟨nn,bal,code,slots⟩:=⟨_,rfl⟩
     obtain ⟨KS,hKS⟩:∃ KS,KS=A4f X:=⟨_,rfl⟩
     have hXs:X.slots=slots:=by rw [hX]
     have q5:w5.row? p 0 35=some (Y3 nn bal (.slice ca code.length cc) (.map (some q))):=by rw [HT.out] at t0;exact ((D2 hb5).1 _ _ _ (World.row?_lt t0.2)).trans t0.2
     have hpv:p < v1.heap.size:=by rw [HT.out] at t0;exact World.row?_lt t0.2
     obtain ⟨z0,z1,z33,z34⟩:=Y2 q5
     have hm5:=HMQ2.out.below hb5
     have hq6:E7 wdV wW wdV (w5.alloc (.cells #[.map (some q)] 84)) q sl:=hm5.below ((Below.refl _ _).alloc (Nat.le_refl _) _)
     have hc6:(w5.alloc (.cells #[.map (some q)] 84)).cell? ⟨w5.heap.size,0,none⟩=some (.map (some q)):=by
      have:=World.alloc_heap_new w5 (.cells #[.map (some q)] 84)
      unfold World.cell?
      simp only [this]
      rfl
     have hwn:=A7l (x:=X) (by simp) hc6 hq6 (by rw [hXs];exact HSL.out) (by rw [hX];exact HFW.out)
     rw [← hKS] at hwn
     have HWN:=hid hwn
     have HB5:=hid hb5
     have HR5:=hid hr5
     have HF5:=hid hf5
     have HO5:=hid ho5
     have HCB:=hid hcb
     have HY5:=hid hy5
     have HXX:=hid hX
     have HKS:=hid hKS
     have HPV:=hid hpv
     have HQV:Hid (q < v1.heap.size):=HMQ2.out.lt
     have T0:=hid t0
     clear hwn hb5 hr5 hf5 ho5 hcb hy5 hX hKS hXs q5 hpv z0 z1 z33 hq6 hc6 hm5 t0 HI0
     go_wp2_with (first
      | (go_at_call 80;refine (B0t _ _ rfl).mono ?_;rintro e w6 ⟨rfl,rfl⟩)
      | (go_at_call 79;refine HWN.out.mono ?_;rintro e w7 ⟨kv2,rfl,hk7,hB7⟩;obtain ⟨ad2,cap2,rfl⟩:=A0o hk7))
     have hb57:Below w5.heap.size w5 w7:=((Below.refl _ _).alloc (Nat.le_refl _) _).trans (hB7.mono (by simp))
     have hyl:yB < w5.heap.size:=World.row?_lt HR5.out
     have HBV:Hid (Below v1.heap.size v1 w7):=HB5.out.trans (hb57.mono HB5.out.size)
     have HR7:Hid (w7.row? yB 0 55=some (B7 (P4 ⟨a,(nn:Int),bal,code⟩ (.slice cwa code.length cwc) (.slice none 0 0)))):=((D2 hb57).1 _ _ _ hyl).trans HR5.out
     have HF7:Hid (w7.free? yB 0 55=true):=((D2 hb57).2 _ _ _ hyl).trans HF5.out
     have HC7:=hid (C2 HO5.out hb57)
     have HKR:Hid (∀ j (hj:j < KS.length),∃ g2,ad2=some ⟨g2,0,none⟩∧g2≠yB∧w7.row? g2 (j*32) 32=some (A3 32 KS[j])):=by
      intro j hj
      obtain ⟨g2,c2,e2,hge,_,_,hr,_⟩:=I3 hk7 (by omega)
      cases e2
      refine ⟨g2,rfl,?_,B5C hr hj⟩
      have:w5.heap.size≤g2:=Nat.le_trans (by simp) hge
      omega
     have HYL:Hid (yB < w7.heap.size):=Nat.lt_of_lt_of_le hyl hb57.size
     have hkl:KS.length≤100:=by rw [HKS.out];exact A5J _
     clear HWN hB7 hb57 hyl z34 hk7 HR5 HF5 HO5
     go_loopw [51] (fun ix wz => ∃ (j:Nat) (sv:Value),j≤KS.length∧ix = .int .i64 (j:Int)∧SlI w7 wz yB ⟨a,(nn:Int),bal,code⟩ (.slice cwa code.length cwc) (A2p X) sv j) (fun ix _=>KS.length - (intOf ix).toNat)
     case atStart=>exact ⟨0,.slice none 0 0,by omega,rfl,A2.refl _ _,HR7.out,HF7.out,World.ownsRow_nil _ _ _ _,fun g h=>by simp [Value.ownBlock] at h⟩
     case round =>
      rename World=>wz
      obtain ⟨j,sv,hj,rfl,hI⟩:=hrel
      have hslen:(A2p X).length=KS.length:=by rw [HKS.out];unfold A2p;rw [List.length_map]
      by_cases hjl:j < KS.length
      ·obtain ⟨g2,had2,hg2,hkr⟩:=HKR.out j hjl
       subst had2
       obtain ⟨k,hk⟩:∃ k,k=KS[j]:=⟨_,rfl⟩
       rw [← hk] at hkr
       obtain ⟨vv,hvv⟩:∃ vv,vv=X.slots k:=⟨_,rfl⟩
       have hat:(A2p X)[j]? = some (k,vv):=by
        unfold A2p
        rw [List.getElem?_map,← HKS.out,List.getElem?_eq_getElem hjl,← hk,hvv]
        rfl
       have hkW:k < wW:=Nat.lt_trans (B6l (x:=X) (by rw [← HKS.out,hk];exact List.getElem_mem hjl)) (by unfold wW;decide)
       have hkz:wz.row? g2 (j*32) 32=some (A3 32 k):=(hI.only.row? (World.row?_lt hkr) hg2).trans hkr
       have hjI:(j:Int) < KS.length:=by omega
       have hok:=C7 32 k
       have hlen:=L2 hok
       have hbx:=A2U (w:=wz) (t:=25) (n:=32) (zU8_len 32) hok
       have hf1:(wz.alloc (.cells (K0 32).toArray 25)).free? wz.heap.size 0 32=true:=World.free?_alloc_at _ _ rfl (by rw [zU8_len];omega)
       obtain ⟨x1,e1⟩:∃ x1,x1=(wz.alloc (.cells (K0 32).toArray 25)).setCells wz.heap.size 0 (A3 32 k):=⟨_,rfl⟩
       rw [← e1] at hbx
       obtain ⟨sa,sc,rfl⟩:=A0o hI.own
       have hyz:yB < wz.heap.size:=World.row?_lt hI.row
       have hBz:Below v1.heap.size v1 wz:=HBV.out.trans (hI.only.below HBV.out.size (fun i hi=>by have e:i=yB:=hi;rw [e];exact HY5.out))
       have hBx:Below v1.heap.size v1 x1.drew:=(hBz.trans (hbx.1.mono hBz.size)).trans ((Below.refl _ _).drew.mono (Nat.le_trans hBz.size hbx.1.size))
       have hnew:∀ g,(Value.slice sa j sc).ownBlock=some g→v1.heap.size≤g∧g≠yB∧g < wz.heap.size:=fun g hg=>by
        have h1:=hI.new g hg
        have h2:=(hI.own.lt g hg).2
        have h3:=HYL.out
        exact ⟨Nat.le_trans HBV.out.size h1,by omega,h2⟩
       obtain ⟨Tz,hTz⟩:∃ T:World→Prop,T=fun W=>A2 (fun b=>(Value.slice sa j sc).ownBlock=some b) x1.drew W:=⟨_,rfl⟩
       have HTZ:=hid hTz
       have tz0:Tz x1.drew:=by rw [hTz];exact A2.refl _ _
       have hrk:x1.drew.row? wz.heap.size 0 32=some (A3 32 k):=hbx.2
       have hry:x1.drew.row? yB 0 55=some (B7 (P4 ⟨a,(nn:Int),bal,code⟩ (.slice cwa code.length cwc) (.slice sa j sc))):=((D2 hbx.1).1 _ _ _ hyz).trans hI.row
       have hfy:x1.drew.free? yB 0 55=true:=((D2 hbx.1).2 _ _ _ hyz).trans hI.free
       have hpr:x1.drew.row? p 0 35=some (Y3 nn bal (.slice ca code.length cc) (.map (some q))):=by have t0:=T0.out;rw [HT.out] at t0;exact ((D2 hBx).1 _ _ _ HPV.out).trans t0.2
       have hmq:E7 wdV wW wdV x1.drew q sl:=HMQ2.out.below hBx
       have hnb:∀ b,b < v1.heap.size∨b=yB∨b=wz.heap.size→¬ (Value.slice sa j sc).ownBlock=some b:=fun b hb hg=>by
        have:=hnew b hg
        omega
       have hsx:wz.heap.size < x1.drew.heap.size:=World.row?_lt hrk
       have HZ0:Hid (∀ W,Tz W→W.cell? ⟨yB,54,none⟩=some (.slice sa j sc)∧W.row? wz.heap.size 0 32=some (A3 32 k)∧W.cell? ⟨p,34,none⟩=some (.map (some q))∧W.free? yB 54 1=true∧(Instr.lookup 84 (.map (some q)) (.agg (A3 32 k).toArray) false).run Tryz.prog W = .ok (.agg (A3 32 vv).toArray) W):=fun W hW=>by
        rw [hTz] at hW
        have y1:=(hW.row? (World.row?_lt hry) (hnb _ (.inr (.inl rfl)))).trans hry
        have y2:=(hW.row? (World.row?_lt hpr) (hnb _ (.inl HPV.out))).trans hpr
        have y3:=hmq.only hW (hnb _ (.inl HQV.out))
        have c54:W.cell? ⟨yB,0+54,none⟩=some (.slice sa j sc):=D1 y1 (i:=4) rfl (by simp [P4,A7,A5])
        have l1:=y3.look A5L Tryz.underlying84 (A9T W) hkW
        refine ⟨c54,(hW.row? hsx (hnb _ (.inr (.inr rfl)))).trans hrk,(Y2 y2).2.2.2,World.free?_sub ((hW.free? (World.row?_lt hry) (hnb _ (.inr (.inl rfl)))).trans hfy) (by omega),?_⟩
        have hsk:=HSL.out.get k
        have hXk:X.slots k=slots k:=by rw [HXX.out]
        rw [hvv,hXk,hsk]
        cases hg:E6 k sl with
        | none=>rw [hg] at l1;exact l1
        | some u=>rw [hg] at l1;exact l1
       have hSTEP:Hid (∀ (W:World) (sv2:Value),A2 (fun b=>(Value.slice sa j sc).ownBlock=some b) x1.drew W→W.ownsRow 0 97 64 sv2 (j+1) (D9 ((A2p X).take j)++(A3 32 k++A3 32 vv))→(∀ g,sv2.ownBlock=some g→(Value.slice sa j sc).ownBlock=some g∨x1.drew.heap.size≤g)→SlI w7 (W.setCells yB 54 [sv2]) yB ⟨a,(nn:Int),bal,code⟩ (.slice cwa code.length cwc) (A2p X) sv2 (j+1)):=fun W sv2 h1 h2 h3=>SlI.step hI HYL.out hbx.1 h1 h2 h3 hat
       have HI:=hid hI
       have HE1:=hid e1
       have HOZ:Hid (x1.drew.ownsRow 0 97 64 (.slice sa j sc) j (D9 ((A2p X).take j))):=C2 hI.own (hbx.1.trans ((Below.refl _ _).drew.mono hbx.1.size))
       have HTG:Hid (∀ W,Tz W→A2 (fun b=>(Value.slice sa j sc).ownBlock=some b) x1.drew W):=by show ∀ W,Tz W→_;rw [hTz];intro W h;exact h
       have HTM:Hid (∀ W,A2 (fun b=>(Value.slice sa j sc).ownBlock=some b) x1.drew W→Tz W):=by show ∀ W,_→Tz W;rw [hTz];intro W h;exact h
       have hbl:=A4Z k vv
       have hl64:(A3 32 k++A3 32 vv).length=64:=by simp
       have hok64:P0 (1*64) (A3 32 k++A3 32 vv)=true:=by have:=A0T [(k,vv)];simpa [D9] using this
       obtain ⟨CC,hCC⟩:∃ CC,CC=A3 32 k++A3 32 vv:=⟨_,rfl⟩
       rw [← hCC] at hbl hl64 hok64 hSTEP
       have hlv:=B0 32 vv
       have HJL:=hid hjl
       have hk1:IntKind.i64.wrap ((j:Int)+1)=((j+1:Nat):Int):=by rw [V3 _ (by omega) (by omega)];omega
       clear hI e1 hbx hTz hry hfy hpr hmq hnb hnew hBz hBx hCC hrk hvv hat hkr hk hslen
       go_wp2_with fail
       rw [← HE1.out]
       refine A6 Tz [13] (.pure 0 (.take 1 (.take 2 (.pure 3 (.pure 4 (.pure 5 (.take 6 (.take 7 (.take 8 (.pure 9 (.alt 10 (.alt 11 (.pure 12 (.alt 13 .fin .stop)) .stop) .stop))))))))))) (by kernel_rfl) (by kernel_rfl) ?_
       iterate 10
        first
        |refine A0 ?_ rfl (by rfl) (fun w' hs=>?_) (fun _ _ _ h=>h) ?_
         rotate_left
         ·clear hs
          go_simp
          try rfl
         simp only [Act.put,D6,D5,D4]
        |refine A9 ?_ tz0 rfl (by rfl) (fun w' hs=>?_) (fun _ _ _ h=>h) ?_
         rotate_left
         ·rw [HTZ.out] at hs
          obtain ⟨u1,u2,u3,u4,u5⟩:=HZ0.out w' (by rw [HTZ.out];exact hs)
          go_simp
          try rfl
         simp only [Act.put,D6,D5,D4]
       refine A8 rfl (fun K hK=>?_)
       go_simp
       have hba:Below x1.drew.heap.size x1.drew (x1.drew.alloc (.cells CC.toArray 97)):=(Below.refl _ _).alloc (Nat.le_refl _) _
       have tz1:Tz (x1.drew.alloc (.cells CC.toArray 97)):=HTM.out _ (A2.of_below_size hba)
       have HO1:=hid (C2 HOZ.out hba)
       clear hba
       refine hK.out _ _ tz1 ?_
       clear hK K
       refine A8 rfl (fun K hK=>?_)
       refine O6 A0W rfl _ _ rfl HO1.out rfl (F0.new x1.drew (m:=1) (size:=64) (cs:=CC) 97 (0,0) hok64 1) rfl (by unfold maxLen;omega) (by omega) ?_
       intro sv2 w8 hv8 ho8 hn8
       have ho9:A2 (fun b=>(Value.slice sa j sc).ownBlock=some b) x1.drew w8:=((A2.refl _ _).alloc _).trans ho8 (fun i hi _=>hi)
       have tz2:Tz w8:=HTM.out _ ho9
       have HRR:=hid (hSTEP.out w8 sv2 ho9 hv8 (fun g hg=>by
        rcases hn8 g hg with h | h
        ·exact .inl h
        ·have h':x1.drew.heap.size+1≤g:=by first | exact h | simpa using h
         exact .inr (by omega)))
       have hmo:sv2.oneCell'=true:=by obtain ⟨_,_,rfl⟩:=A0o hv8;rfl
       have hf8:w8.free? yB 54 1=true:=(HZ0.out _ tz2).2.2.2.1
       clear hv8 ho8 hn8 ho9
       refine hK.out _ _ tz2 ?_
       clear hK K
       refine A0 ?_ rfl (by rfl) (fun w' hs=>?_) (fun _ _ _ h=>h) ?_
       rotate_left
       ·clear hs
        go_simp
        try rfl
       simp only [Act.put,D6,D5,D4]
       refine L0 rfl (by simp) (fun K hK=>?_)
       go_simp
       refine hK.out _ _ ?_
       clear hK K
       refine C3 ?_
       clear hkz hf1
       go_wp2_with fail
       go_roundw
       case rel=>exact ⟨j+1,sv2,by have:=HJL.out;omega,by go_num,HRR.out⟩
       case measure=>have:=HJL.out;simp [intOf];omega
      ·obtain rfl:j=KS.length:=by omega
       have hjI:¬ ((KS.length:Nat):Int) < KS.length:=by omega
       have hBz:Below v1.heap.size v1 wz:=HBV.out.trans (hI.only.below HBV.out.size (fun i hi=>by have e:i=yB:=hi;rw [e];exact HY5.out))
       obtain ⟨⟨ds,hA,hcm⟩,hkk⟩:=HND2.out.next hBz
       have hcsl:=A0v.len hcm
       have hr7:=hI.row
       have hcode:wz.ownsRow w.heap.size 5 1 (.slice cwa code.length cwc) code.length (code.map (Value.int .u8)):=A2.own HC7.out hI.only HCB.out
       have hslots:wz.ownsRow w.heap.size 97 64 sv (A2p X).length (D9 (A2p X)):=by
        have h1:=hI.own
        rw [← hslen,List.take_length] at h1
        exact Y8 h1 fun g hg=>Nat.le_trans (Nat.le_trans HND2.out.below.size HBV.out.size) (hI.new g hg)
       obtain ⟨sa,sc,hsv⟩:=A0o hslots
       obtain ⟨C,hC⟩:∃ C,C=B7 (P4 ⟨a,(nn:Int),bal,code⟩ (.slice cwa code.length cwc) sv):=⟨_,rfl⟩
       rw [← hC] at hr7
       have hokC:P0 55 C=true:=by rw [hC,hsv];exact B6R _ _ _ _ _ _ _
       have hlC:=L2 hokC
       have HC:=hid hC
       have HA:=hid hA
       have HKK:=hid hkk
       have HCM:=hid hcm
       have HCO:=hid hcode
       have HSO:=hid hslots
       clear hC hA hkk hcm hcode hslots hsv hBz hI hj hjl
       go_wp2_with (at_builtin;go_must (refine A0w (base:=w.heap.size) (n:=ds.length) (xs:=G8 ds) A1s rfl _ _ rfl rfl rfl ?own ?c0 ?c1 ?c3 ?c4 ?c5 ?_))
       case own=>exact HA.out.own
       case c0=>simp
       case c3=>unfold maxLen;omega
       case c4=>omega
       case c5=>have:=HA.out.below.size;simp;omega
       intro v' w8 ho hg _
       have HNX:=hid (A0v.more HA.out HKK.out HCM.out HTK.out (HX.out.trans HXX.out.symm) (by rw [HXX.out];exact hemp) (by rw [HXX.out];exact HC.out) ho hg (by rw [HXX.out];exact HCO.out) HSO.out)
       clear ho hg
       have hk1:IntKind.i64.wrap ((i:Int)+1)=((i+1:Nat):Int):=by rw [V3 _ (by omega) (by omega)];omega
       go_wp2
       go_roundw
       case rel=>exact ⟨i+1,by omega,by go_num,HNX.out⟩
       case measure=>simp [intOf];omega
  ·have hin:i=ss.length:=by omega
   have hiI:¬ (i:Int) < ss.length:=by omega
   have HRR:=hid HR.out
   obtain ⟨⟨ds,hA,hcm⟩,_⟩:=HR.out
   have hcl:=A0v.len hcm
   rw [hin,List.take_length] at hcm
   have hL:=B4p HP.out HEN.out HEL.out HOUT.out HPW.out
   have HF:Hid (A1K w wo u3 ds∧F6 ds=(ss.filter fun a => !(S a).emptyB).map (A29 S)∧B2f S (ss.filter fun a => !(S a).emptyB)∧ds.length≤4000000):=⟨hA,hcm,hL,by omega⟩
   clear hA hcm hL hin hcl
   go_wp2
   go_ret
   exact ⟨_,rfl,ds,HF.out.1,_,HF.out.2⟩
theorem B4B {P:Program} (ρ:Operand→Value) (dst:Option Tmp) (x y:Operand) (t t2 ty:TypeId) (pos:String) (after:Array Edge) (gd:Option (Nat × Bool)) (w:World) {xs ys:Array Value} {r:Bool} (hm:P.eqGuardType P.depth t=false) (hx:ρ x = .agg xs) (hy:ρ y = .agg ys)
  (h:(binOp .neq t (.agg xs) (.agg ys)).run P w = .ok (.bool r) w):(execOp ρ ⟨dst,.binOp .neq t x y t2,ty,pos,after,gd⟩).run P w = .ok (.value (.bool r)) w:=by
 simp [execOp,hx,hy,Sem.run_bind,run_eqGuard_agg (hm:=hm),h]
theorem B9C:Tryz.prog.eqGuardType Tryz.prog.depth 97=false:=by kernel_rfl
theorem B4a (X:List Value) (off:Nat) (L:List Value) (h:(X.drop off).take 32=L) (w:World):(part 25 X.toArray off).run Tryz.prog w = .ok (.agg L.toArray) w:=by
 have hagg:(isAgg 25).run Tryz.prog w = .ok true w:=by
  unfold isAgg
  rw [Sem.run_bind,run_underlying Tryz.underlying25 w];rfl
 have hs:(Go.sizeOf 25).run Tryz.prog w = .ok 32 w:=by kernel_rfl
 simp only [part,Sem.run_bind,hagg,hs,Result.andThen_ok,if_true,Sem.run_pure]
 subst h
 simp
theorem B4A:(Tryz.prog.fieldsOf 97).toList = [{ name := "Key", type:=25,offset:=0,embedded:=false,tag := "", pkgPath := "", byteOffset:=0 },{ name := "Value", type:=25,offset:=32,embedded:=false,tag := "", pkgPath := "", byteOffset:=32 }]:=by kernel_rfl
theorem B9A (d a b:Nat) (w:World):(Op.equalIn (d+3) 97 (.agg (A3 32 a++A3 32 b).toArray) (.agg (A3 32 a++A3 32 b).toArray)).run Tryz.prog w = .ok true w:=by
 have e1:=A0D (n:=32) (P:=Tryz.prog) Tryz.underlying25 Tryz.underlying5 (by kernel_rfl) d a a w
 have e2:=A0D (n:=32) (P:=Tryz.prog) Tryz.underlying25 Tryz.underlying5 (by kernel_rfl) d b b w
 have p1:=B4a (A3 32 a++A3 32 b) 0 (A3 32 a) (by simp) w
 have p2:=B4a (A3 32 a++A3 32 b) 32 (A3 32 b) (by rw [List.drop_left' (by simp)];exact List.take_of_length_le (by simp)) w
 have bs:∀ x,B06 32 x x=true:=fun x=>by simp [B06]
 rw [bs] at e1 e2
 rw [run_equalIn_struct w (d+2) 97 _ _ (by kernel_rfl) (by kernel_rfl),B4A]
 exact A5l 25 0 25 32 rfl rfl rfl rfl (by simp) (by simp) p1 p1 p2 p2 e1 e2
theorem B9m (a b:Nat) (w:World):(binOp .neq 97 (.agg (A3 32 a++A3 32 b).toArray) (.agg (A3 32 a++A3 32 b).toArray)).run Tryz.prog w = .ok (.bool false) w:=
 B4i (r:=true) fun d=>B9A d a b w
theorem B5D {w:World} {b off:Nat} {L:List Value} (hn:L≠[]) (hc:∀ i,i < L.length→w.cell? ⟨b,off+i,none⟩=L[i]?):w.row? b off L.length=some L:=by
 have h0:=hc 0 (List.length_pos_iff.2 hn)
 have hl:=hc (L.length - 1) (by have:=List.length_pos_iff.2 hn;omega)
 unfold World.row?
 have hpos:=List.length_pos_iff.2 hn
 cases hh:w.heap[b]? with
 | none=>simp [World.cell?,hh,List.getElem?_eq_getElem hpos] at h0
 | some x =>
  cases x with
  | cells c t f =>
   have hc':∀ i,i < L.length→c[off+i]? = L[i]?:=fun i hi=>by have:=hc i hi;simpa [World.cell?,hh] using this
   have hsz:off+L.length≤c.size:=by
    have:=hc' (L.length - 1) (by omega)
    rw [List.getElem?_eq_getElem (by omega)] at this
    have:=(Array.getElem?_eq_some_iff.1 this).1
    omega
   simp only [hsz,if_true]
   congr 1
   apply List.ext_getElem?
   intro i
   rw [List.getElem?_take,List.getElem?_drop]
   by_cases hi:i < L.length
   ·rw [if_pos hi,← hc' i hi];simp
   ·rw [if_neg hi,List.getElem?_eq_none (by omega)]
  | _=>simp [World.cell?,hh,List.getElem?_eq_getElem hpos] at h0
theorem A8C {w:World} {s:Option Addr} {j:Nat} {sl:List (Nat × Nat)} (h:F0 w s j sl.length 64 (D9 sl)) {q:Nat} (hq:q < sl.length):∃ b o,s=some ⟨b,o,none⟩∧w.row? b (o+q*64) 64=some (A3 32 sl[q].1++A3 32 sl[q].2):=by
 obtain ⟨b,o,e,hc⟩:=h.cell (by omega)
 refine ⟨b,o,e,?_⟩
 have h1:=A8I sl q hq
 have hl:=A1e sl
 have hL:(A3 32 sl[q].1++A3 32 sl[q].2).length=64:=by simp
 have:=B5D (w:=w) (b:=b) (off:=o+q*64) (L:=A3 32 sl[q].1++A3 32 sl[q].2) (by intro e;rw [e] at hL;cases hL) fun i hi=>by
  have hi2:i < 64:=by omega
  obtain ⟨u,hu⟩:∃ u,(D9 sl)[q*64+i]? = some u:=⟨_,List.getElem?_eq_getElem (by omega)⟩
  rw [← h1,List.getElem?_take,if_pos hi2,List.getElem?_drop,hu,show o+q*64+i=o+(q*64+i) by omega]
  exact hc _ _ hu
 rw [hL] at this
 exact this
theorem B2u (a:Nat) (n:Int) (b:Nat) (d:V1) (sl:List (Nat × Nat)) (a1 a2 s1 s2:Option Addr) (c1 c2 j1 j2:Nat) (w:World) (h1:I7 w .u8 a1 c1 d) (h2:I7 w .u8 a2 c2 d) (h3:F0 w s1 j1 sl.length 64 (D9 sl)) (h4:F0 w s2 j2 sl.length 64 (D9 sl)) (hsl:sl.length≤1000000) :
  Calls Tryz.prog 74 #[.agg (B7 (P4 ⟨a,n,b,d⟩ (.slice a1 d.length c1) (.slice s1 sl.length j1))).toArray,.agg (B7 (P4 ⟨a,n,b,d⟩ (.slice a2 d.length c2) (.slice s2 sl.length j2))).toArray] w fun e w'=>e = .returned (.bool true)∧Below w.heap.size w w':=by
 have ha:=B4F a
 have hw:=A9v b
 obtain ⟨X,hX⟩:∃ X,X=B7 (P4 ⟨a,n,b,d⟩ (.slice a1 d.length c1) (.slice s1 sl.length j1)):=⟨_,rfl⟩
 obtain ⟨Y,hY⟩:∃ Y,Y=B7 (P4 ⟨a,n,b,d⟩ (.slice a2 d.length c2) (.slice s2 sl.length j2)):=⟨_,rfl⟩
 have lX:X.length=55:=by rw [hX];exact L8 _ _ _
 have lY:Y.length=55:=by rw [hY];exact L8 _ _ _
 rw [← hX,← hY]
 obtain ⟨w0,e0⟩:∃ w0,w0=(w.alloc (.cells X.toArray 35)).alloc (.cells Y.toArray 35):=⟨_,rfl⟩
 have hb0:Below w.heap.size w w0:=by rw [e0];exact ((Below.refl _ _).alloc (Nat.le_refl _) _).alloc (by simp) _
 have hr:w0.row? w.heap.size 0 55=some X:=by rw [e0,World.row?_alloc_lt _ (by simp)];exact World.row?_alloc_at X 35 _ rfl lX
 have hs:w0.row? (w.heap.size+1) 0 55=some Y:=by rw [e0];exact World.row?_alloc_at Y 35 _ (by simp) lY
 rw [hX] at hr
 rw [hY] at hs
 have x0:w0.row? w.heap.size 0 20=some (A3 20 a):=J5 hr (i:=0) rfl (by simp [P4,A7,A5]) (by simp)
 have x1:w0.cell? ⟨w.heap.size,20,none⟩=some (.int .i64 n):=D1 hr (i:=1) rfl (by simp [P4,A7,A5])
 have x2:w0.row? w.heap.size 21 32=some (A3 32 b):=J5 hr (i:=2) rfl (by simp [P4,A7,A5]) (by simp)
 have x3:w0.cell? ⟨w.heap.size,53,none⟩=some (.slice a1 d.length c1):=D1 hr (i:=3) rfl (by simp [P4,A7,A5])
 have x4:w0.cell? ⟨w.heap.size,54,none⟩=some (.slice s1 sl.length j1):=D1 hr (i:=4) rfl (by simp [P4,A7,A5])
 have y0:w0.row? (w.heap.size+1) 0 20=some (A3 20 a):=J5 hs (i:=0) rfl (by simp [P4,A7,A5]) (by simp)
 have y1:w0.cell? ⟨(w.heap.size+1),20,none⟩=some (.int .i64 n):=D1 hs (i:=1) rfl (by simp [P4,A7,A5])
 have y2:w0.row? (w.heap.size+1) 21 32=some (A3 32 b):=J5 hs (i:=2) rfl (by simp [P4,A7,A5]) (by simp)
 have y3:w0.cell? ⟨(w.heap.size+1),53,none⟩=some (.slice a2 d.length c2):=D1 hs (i:=3) rfl (by simp [P4,A7,A5])
 have y4:w0.cell? ⟨(w.heap.size+1),54,none⟩=some (.slice s2 sl.length j2):=D1 hs (i:=4) rfl (by simp [P4,A7,A5])
 have q1:=I9 (P:=Tryz.prog) Tryz.underlying26 Tryz.underlying5 Tryz.underlying9 rfl (h1.below hb0)
 have q2:=I9 (P:=Tryz.prog) Tryz.underlying26 Tryz.underlying5 Tryz.underlying9 rfl (h2.below hb0)
 obtain ⟨m9,hm9⟩:∃ m9,m9=sl.length:=⟨_,rfl⟩
 rw [← hm9] at x4 y4 hX hY hsl
 have HR1:Hid (∀ q (hq:q < sl.length),∃ b o,s1=some ⟨b,o,none⟩∧w0.row? b (o+q*64) 64=some (A3 32 sl[q].1++A3 32 sl[q].2)):=fun q hq=>A8C (h3.below hb0) hq
 have HR2:Hid (∀ q (hq:q < sl.length),∃ b o,s2=some ⟨b,o,none⟩∧w0.row? b (o+q*64) 64=some (A3 32 sl[q].1++A3 32 sl[q].2)):=fun q hq=>A8C (h4.below hb0) hq
 have HM9:=hid hm9
 have HB:=hid hb0
 have HE:=hid e0
 generalize A0R d=S at *
 generalize d.length=m at *
 have X4:=hid x4
 have Y4:=hid y4
 have hm3:((m9:Int) != (m9:Int))=false:=by simp
 rw [e0] at x0 x1 x2 x3 x4 y0 y1 y2 y3 y4 q1 q2
 clear hX hY hr hs e0 hb0 h1 h2 h3 h4 lX lY hm9
 go_enter Tryz.func74,Tryz.ntmps74
 go_wp2_with fail
 rw [← HE.out]
 rw [← HE.out] at x0 x1 x2 x3 x4 y0 y1 y2 y3 y4 q1 q2
 clear x0 x1 x2 x3 y0 y1 y2 y3 q1 q2 ha hw hm3
 go_loopw [5] (fun ix wz => ∃ q:Nat,q≤m9∧ix = .int .i64 (q:Int)∧Below w0.heap.size w0 wz) (fun ix _=>m9 - (intOf ix).toNat)
 case atStart=>exact ⟨0,by omega,rfl,Below.refl _ _⟩
 case round =>
  obtain ⟨q,hq,rfl,hbz⟩:=hrel
  have c1:wr.cell? ⟨w.heap.size,54,none⟩=some (.slice s1 m9 j1):=(hbz.cell (World.block_lt_of_cell? w0 _ X4.out)).trans X4.out
  have c2:wr.cell? ⟨w.heap.size+1,54,none⟩=some (.slice s2 m9 j2):=(hbz.cell (World.block_lt_of_cell? w0 _ Y4.out)).trans Y4.out
  clear x4 y4
  by_cases hlt:q < m9
  ·have hqs:q < sl.length:=by rw [← HM9.out];exact hlt
   obtain ⟨b1,o1,rfl,r1⟩:=HR1.out q hqs
   obtain ⟨b2,o2,rfl,r2⟩:=HR2.out q hqs
   have q1:wr.row? b1 (o1+q*64) 64=some (A3 32 sl[q].1++A3 32 sl[q].2):=((D2 hbz).1 _ _ _ (World.row?_lt r1)).trans r1
   have q2:wr.row? b2 (o2+q*64) 64=some (A3 32 sl[q].1++A3 32 sl[q].2):=((D2 hbz).1 _ _ _ (World.row?_lt r2)).trans r2
   have hneq:=B9m sl[q].1 sl[q].2
   obtain ⟨CC,hCC⟩:∃ CC,CC=A3 32 sl[q].1++A3 32 sl[q].2:=⟨_,rfl⟩
   rw [← hCC] at q1 q2 hneq
   have HNQ:=hid hneq
   have HBZ:=hid hbz
   have hqI:(q:Int) < m9:=by omega
   clear r1 r2 hCC hneq hbz
   obtain ⟨T,hT⟩:∃ T:World→Prop,T=fun W=>W=wr.drew:=⟨_,rfl⟩
   have HT:=hid hT
   have t0:T wr.drew:=by rw [hT]
   have g1:wr.drew.cell? ⟨w.heap.size,54,none⟩=some (.slice (some ⟨b1,o1,none⟩) m9 j1):=c1
   have g2:wr.drew.cell? ⟨w.heap.size+1,54,none⟩=some (.slice (some ⟨b2,o2,none⟩) m9 j2):=c2
   have g3:wr.drew.row? b1 (o1+q*64) 64=some CC:=q1
   have g4:wr.drew.row? b2 (o2+q*64) 64=some CC:=q2
   clear hT
   go_wp2_with fail
   refine A6 T [] (.pure 0 (.take 1 (.pure 2 (.pure 3 (.take 4 (.pure 5 (.take 6 (.pure 7 (.pure 8 (.take 9 (.pure 10 .fin))))))))))) (by kernel_rfl) (by kernel_rfl) ?_
   iterate 10
    first
    |refine A0 ?_ rfl (by rfl) (fun w' hs=>?_) (fun _ _ _ h=>h) ?_
     rotate_left
     ·clear hs
      go_simp
      try rfl
     simp only [Act.put,D6,D5,D4]
    |refine A9 ?_ t0 rfl (by rfl) (fun w' hs=>?_) (fun _ _ _ h=>h) ?_
     rotate_left
     ·rw [HT.out] at hs
      subst hs
      go_simp
      try rfl
     simp only [Act.put,D6,D5,D4]
   refine A0 (.bool false) rfl (by rfl) (fun w' hs=>?_) (fun _ _ _ h=>h) ?_
   ·clear hs
    first | exact B4B _ _ _ _ _ _ _ _ _ _ _ B9C rfl rfl (HNQ.out _) | exact HNQ.out _
   simp only [Act.put,D6,D5,D4]
   refine C3 ?_
   go_wp2_with fail
   have hk1:IntKind.i64.wrap ((q:Int)+1)=((q+1:Nat):Int):=by rw [V3 _ (by omega) (by omega)];omega
   go_roundw
   case rel=>exact ⟨q+1,by omega,by go_num,HBZ.out.drew⟩
   case measure=>simp [intOf];omega
  ·obtain rfl:q=m9:=by omega
   have HBZ:=hid hbz
   clear hbz
   go_wp2
   go_ret
   exact ⟨rfl,HB.out.trans (HBZ.out.mono HB.out.size)⟩
theorem B0a {w:World} {v1 v2:Value} {B1 B2:Nat} {ds1 ds2:List (J3 × Value × Value)} (ho1:w.ownsRow B1 35 55 v1 ds1.length (G8 ds1)) (ho2:w.ownsRow B2 35 55 v2 ds2.length (G8 ds2)) (h1:∀ p∈ds1,B5c w p) (h2:∀ p∈ds2,B5c w p) (hL:F6 ds1=F6 ds2) (hm9:ds1.length≤4000000) (hs9:∀ p∈ds1,p.1.slots.length≤1000000) :
  Calls Tryz.prog 40 #[v1,v2] w fun e w'=>e = .returned (.bool true)∧Below w.heap.size w w':=by
 have hlen:ds2.length=ds1.length:=by have:=congrArg List.length hL;simpa [F6] using this.symm
 rw [hlen] at ho2
 obtain ⟨m,hm⟩:∃ m,m=ds1.length:=⟨_,rfl⟩
 rw [← hm] at ho1 ho2 hlen hm9
 have hbn:((m:Int) != (m:Int))=false:=by simp
 by_cases hz:m=0
 ·obtain ⟨ad1,c1,rfl⟩:=A0o ho1
  obtain ⟨ad2,c2,rfl⟩:=A0o ho2
  subst hz
  clear h1 h2 hs9 hL hlen ho1 ho2 hm
  go_enter Tryz.func40,Tryz.ntmps40
  go_wp2_with fail
  go_loopw [5] (fun ix wz=>ix = .int .i64 0∧wz=w) (fun _ _=>0)
  case atStart=>exact ⟨rfl,rfl⟩
  case round =>
   obtain ⟨rfl,rfl⟩:=hrel
   go_wp2
   go_ret
   exact ⟨rfl,Below.refl _ _⟩
 ·obtain ⟨b,c,rfl,_,hc,hcm,hrow,_⟩:=I3 ho1 (by omega)
  obtain ⟨b',c',rfl,_,hc',hcm',hrow',_⟩:=I3 ho2 (by omega)
  have HAT:Hid (∀ q,q < m→∃ a n bl d sl a1 a2 k1 k2 s1 s2 j1 j2,w.row? b (q*55) 55=some (B7 (P4 ⟨a,n,bl,d⟩ (.slice a1 d.length k1) (.slice s1 sl.length j1)))∧w.row? b' (q*55) 55=some (B7 (P4 ⟨a,n,bl,d⟩ (.slice a2 d.length k2) (.slice s2 sl.length j2)))∧I7 w .u8 a1 k1 d∧I7 w .u8 a2 k2 d∧F0 w s1 j1 sl.length 64 (D9 sl)∧F0 w s2 j2 sl.length 64 (D9 sl)∧sl.length≤1000000):=by
   intro q hq
   have hq1:q < ds1.length:=by omega
   have hq2:q < ds2.length:=by omega
   have e:(ds1[q]'hq1).1=(ds2[q]'hq2).1:=by
    have:=congrArg (fun l=>l[q]?) hL
    simpa [F6,hq1,hq2] using this
   have r1:=World.row?_sub hrow (o':=0+q*55) (n':=55) (by omega) (by omega)
   have r2:=World.row?_sub hrow' (o':=0+q*55) (n':=55) (by omega) (by omega)
   rw [Nat.zero_add,Nat.sub_zero,A3D ds1 q hq1] at r1
   rw [Nat.zero_add,Nat.sub_zero,A3D ds2 q hq2] at r2
   obtain ⟨a1,k1,s1,j1,e1,i1,f1,u1⟩:=h1 _ (List.getElem_mem hq1)
   obtain ⟨a2,k2,s2,j2,e2,i2,f2,u2⟩:=h2 _ (List.getElem_mem hq2)
   unfold I5 at r1 r2
   rw [e1,f1] at r1
   rw [e2,f2,← e] at r2
   rw [← e] at i2 u2
   exact ⟨_,_,_,_,_,a1,a2,k1,k2,s1,s2,j1,j2,r1,r2,i1,i2,u1,u2,hs9 _ (List.getElem_mem hq1)⟩
  have HLT:=hid (World.row?_lt hrow)
  have HLT':=hid (World.row?_lt hrow')
  clear h1 h2 hs9 hL hrow hrow' hm ho1 ho2 hlen
  go_enter Tryz.func40,Tryz.ntmps40
  go_wp2_with fail
  go_loopw [5] (fun i wr => ∃ q:Nat,q≤m∧i = .int .i64 q∧Below w.heap.size w wr) (fun i _=>m - (intOf i).toNat)
  case atStart=>exact ⟨0,by omega,rfl,Below.refl _ _⟩
  case round =>
   obtain ⟨q,hq,rfl,hbw⟩:=hrel
   have HBW:=hid hbw
   clear hbw
   by_cases hlt:q < m
   ·obtain ⟨a,n,bl,d,sl,a1,a2,k1,k2,s1,s2,j1,j2,r1,r2,i1,i2,i3,i4,i5⟩:=HAT.out q hlt
    obtain ⟨X,hX⟩:∃ X,X=B7 (P4 ⟨a,n,bl,d⟩ (.slice a1 d.length k1) (.slice s1 sl.length j1)):=⟨_,rfl⟩
    obtain ⟨Y,hY⟩:∃ Y,Y=B7 (P4 ⟨a,n,bl,d⟩ (.slice a2 d.length k2) (.slice s2 sl.length j2)):=⟨_,rfl⟩
    have HC:=hid (fun (W:World) (hW:Below w.heap.size w W)=>B2u a n bl d sl a1 a2 s1 s2 k1 k2 j1 j2 W (i1.below hW) (i2.below hW) (i3.below hW) (i4.below hW) i5)
    rw [← hX,← hY] at HC
    rw [← hX] at r1
    rw [← hY] at r2
    have hx:X.length=55:=by rw [hX];exact L8 _ _ _
    have hy:Y.length=55:=by rw [hY];exact L8 _ _ _
    obtain ⟨T,hT⟩:∃ T:World→Prop,T=fun W=>W.row? b (q*55) 55=some X∧W.row? b' (q*55) 55=some Y:=⟨_,rfl⟩
    have HT:=hid hT
    have HTB:Hid (∀ W,Below w.heap.size w W→T W):=by
     intro W hW
     rw [hT]
     exact ⟨((D2 hW).1 _ _ _ HLT.out).trans r1,((D2 hW).1 _ _ _ HLT'.out).trans r2⟩
    have hql:(q:Int) < (m:Int):=by omega
    have dql:decide ((q:Int) < (m:Int))=true:=decide_eq_true hql
    have dqn:(q < m)=True:=eq_true hlt
    have t0:T wr.drew:=HTB.out _ HBW.out.drew
    clear hT r1 r2 i1 i2 i3 i4 i5 HAT hX hY
    go_wp2_with fail
    refine A6 T [] (.pure 0 (.pure 1 (.pure 2 (.take 3 (.pure 4 (.pure 5 (.pure 6 (.take 7 (.alt 8 (.pure 9 .fin) .stop))))))))) (by kernel_rfl) (by kernel_rfl) ?_
    iterate 8
     first
     |refine A0 ?_ rfl (by rfl) (fun w' hs=>?_) (fun _ _ _ h=>h) ?_
      rotate_left
      ·clear hs
       go_simp
       try rfl
      simp only [Act.put,D6,D5,D4]
     |refine A9 ?_ t0 rfl (by rfl) (fun w' hs=>?_) (fun _ _ _ h=>h) ?_
      rotate_left
      ·rw [HT.out] at hs
       obtain ⟨g1,g2⟩:=hs
       go_simp
       try rfl
      simp only [Act.put,D6,D5,D4]
    refine A8 rfl (fun K hK=>?_)
    go_simp
    refine (HC.out _ HBW.out.drew).mono ?_
    rintro e w9 ⟨rfl,hb9⟩
    have HB9:Hid (Below w.heap.size w w9):=HBW.out.drew.trans (hb9.mono HBW.out.drew.size)
    have t9:T w9:=HTB.out _ HB9.out
    clear hb9
    refine hK.out _ _ t9 ?_
    clear hK K
    refine A0 ?_ rfl (by rfl) (fun w' hs=>?_) (fun _ _ _ h=>h) ?_
    rotate_left
    ·clear hs
     go_simp
     try rfl
    simp only [Act.put,D6,D5,D4]
    refine C3 ?_
    go_wp2_with fail
    have hk1:IntKind.i64.wrap ((q:Int)+1)=((q+1:Nat):Int):=by rw [V3 _ (by omega) (by omega)];omega
    go_roundw
    case rel=>exact ⟨q+1,by omega,by go_num,HB9.out⟩
    case measure=>simp [intOf];omega
   ·obtain rfl:q=m:=by omega
    go_wp2_with fail
    go_ret
    exact ⟨rfl,HBW.out⟩
theorem A6Y {w:World} {b c:Nat} {l:List Ac} {m:Msg} {dv:Value} {g x:Int} {ad:Nat} {d:V1} {S':St} (hl:l.length≤100) (hac:∀ i (hi:i < l.length),A6y w b (0+i*55) l[i]) (hnn:∀ x∈l,0≤x.nonce)
  (hd:K8 w (fun _=>False) dv m.data) (had:ad < wA) (hP:B2a m dv ⟨0,0,0,0,0⟩ (A0G l) g x ad d S') (hR:B19 m dv ⟨0,0,0,0,0⟩ (A0G l) g x ad d S') (hz:B6V S') :
  Calls Tryz.prog 15 #[.slice (some ⟨b,0,none⟩) l.length c,.agg (B7 (I2 m dv)).toArray] w (A8d w g x ad d S'):=by
 have hml:=N4 m dv
 obtain ⟨w0,e0⟩:∃ w0,w0=(w.alloc (.cells (B7 (I2 m dv)).toArray 37)).alloc (.cells (B7 K9).toArray 41):=⟨_,rfl⟩
 have hb0:Below w.heap.size w w0:=by rw [e0];exact ((Below.refl _ _).alloc (Nat.le_refl _) _).alloc (by simp) _
 have r0:w0.row? w.heap.size 0 129=some (B7 (I2 m dv)):=by rw [e0,World.row?_alloc_lt _ (by simp)];exact World.row?_alloc_at _ _ _ rfl hml
 have f0:w0.free? (w.heap.size+1) 0 24=true:=by rw [e0];exact World.free?_alloc_at _ _ (by simp) (by rw [J8];omega)
 have HN:=hid (A6G b 0 c l (by omega) w0 (fun i hi=>(hac i hi).below hb0))
 have HNR:=hid (fun (W:World) (hW:Below w.heap.size w W)=>B9i b 0 c l hl W (fun i hi=>(hac i hi).below hW) hnn)
 have HE:=hid e0
 have HB0:=hid hb0
 have HR0:=hid r0
 have HF0:=hid f0
 have HD:=hid hd
 have HP:=hid hP
 have HR:=hid hR
 have HZ:=hid hz
 have HS0:Hid (w.heap.size+1 < w0.heap.size):=C4 f0
 have HLL:=hid hl
 clear hac hnn hd hP hR hz e0 hb0 r0 f0 hl
 go_enter Tryz.func15,Tryz.ntmps15
 go_wp2_with fail
 rw [← HE.out]
 refine HN.out.mono ?_
 rintro e w1 ⟨sb,rfl,hb1,own,hst,hlo⟩
 have HST:=hid hst
 have HLO:=hid hlo
 have HB1:Hid (Below w.heap.size w w1):=HB0.out.trans (hb1.mono HB0.out.size)
 have HB01:=hid hb1
 clear hb1 hst hlo HN
 go_wp2_with fail
 refine (HNR.out _ HB1.out).mono ?_
 rintro e w2 ⟨sr,own2,rfl,hnw⟩
 have HNW:=hid hnw
 have HB2:Hid (Below w.heap.size w w2):=HB1.out.trans (hnw.below.mono HB1.out.size)
 have HB02:Hid (Below w0.heap.size w0 w2):=HB01.out.trans (hnw.below.mono HB01.out.size)
 have HST2:=hid (HST.out.below hnw.below)
 have HLW:=hid HST.out.lows
 have r2:w2.row? w.heap.size 0 129=some (B7 (I2 m dv)):=((D2 HB02.out).1 _ _ _ (World.row?_lt HR0.out)).trans HR0.out
 have HR2:=hid r2
 have HD2:Hid (K8 w2 (fun b=>w.heap.size≤b) dv m.data):=HD.out.only (R:=fun _=>False) (A2.of_below_size HB2.out) (fun _ h=>h.elim) (fun b hb hx=>by omega)
 have hcx:A1y ⟨0,0,0,0,0⟩=A7i:=rfl
 have HRP:=hid (HP.out w2 own sb HST2.out (HD2.out.weak fun b _ hx=>by have:=HLO.out b hx;have:=HS0.out;omega))
 rw [hcx] at HRP
 clear hnw HNR
 go_wp2_with fail
 refine HRP.out.mono ?_
 rintro e w3 ⟨oa,oc,la,lc,own3,n3,rfl,hro3,st3,g3,hn3⟩
 obtain ⟨X,hX⟩:∃ X,X=A5A g x ad oa d.length oc la lc:=⟨_,rfl⟩
 rw [← hX]
 have hXl:X.length=24:=by rw [hX];exact A3F _ _ _ _ _ _ _ _
 have hXk:P0 24 X=true:=by rw [hX];exact A4Q _ _ _ _ _ _ _ _
 obtain ⟨x1,x2,x3⟩:=B9H w3 X hXk
 obtain ⟨w4,e4⟩:∃ w4,w4=(w3.alloc (.cells (B7 K9).toArray 41)).setCells w3.heap.size 0 X:=⟨_,rfl⟩
 rw [← e4] at x1 x2
 have hkeep:∀ b,b < w0.heap.size→¬ own b≠none:=fun b hb hx=>by have:=HLO.out b hx;omega
 have r3:w3.row? w.heap.size 0 129=some (B7 (I2 m dv)):=(g3.only.row? (World.row?_lt HR2.out) (hkeep _ (by have:=HS0.out;omega))).trans HR2.out
 have r4:w4.row? w.heap.size 0 129=some (B7 (I2 m dv)):=((D2 x1).1 _ _ _ (World.row?_lt r3)).trans r3
 have HF2:Hid (w2.free? (w.heap.size+1) 0 24=true):=((D2 HB02.out).2 _ _ _ (C4 HF0.out)).trans HF0.out
 have HF4:Hid (w4.free? (w.heap.size+1) 0 24=true):=by
  have f3:w3.free? (w.heap.size+1) 0 24=true:=(g3.only.free? (C4 HF2.out) (hkeep _ HS0.out)).trans HF2.out
  exact ((D2 x1).2 _ _ _ (C4 f3)).trans f3
 have HST4:=hid (st3.below x1)
 have HGE3:Hid (∀ b,own3 b≠none→w.heap.size≤b):=by
  intro b hb
  by_cases hlt:b < w2.heap.size
  ·rw [g3.ext b hlt] at hb;have:=HLO.out b hb;have:=HS0.out;omega
  ·have:=HB2.out.size;omega
 have HO3:Hid (own3 (w.heap.size+1)=none):=by
  show own3 (w.heap.size+1)=none
  rw [g3.ext _ (C4 HF2.out)]
  exact Classical.not_not.1 (hkeep _ HS0.out)
 -- the two states lie apart
 have hap:∀ b,own2 b≠none→own b=none:=fun b hb=>by
  have h1:=HNW.out.ge b hb
  have:¬ own b≠none:=fun h=>by have:=HLW.out b h;omega
  exact Classical.not_not.1 this
 have hap2:∀ b,own b≠none→own2 b=none:=fun b hb=>by
  have:¬ own2 b≠none:=fun h=>hb (hap b h)
  exact Classical.not_not.1 this
 have HAP3:Hid (∀ b,own2 b≠none→own3 b=none):=fun b hb=>by rw [g3.ext b (HNW.out.st.lows b hb)];exact hap b hb
 have HRS4:Hid (RState w4 own2 sr (A0G l) [] (8*l.length)):=(HNW.out.st.only g3.only hap2).below x1
 have HD4:Hid (K8 w4 (fun b=>w.heap.size≤b) dv m.data):=(HD2.out.only g3.only (fun b hb=>by have:=HLO.out b hb;have:=HS0.out;show w.heap.size≤b;omega) (fun _ _ h=>h)).below x1
 have HRO4:Hid (K8 w4 (fun b=>own3 b≠none∨b < w2.heap.size) (.slice oa d.length oc) d):=hro3.below x1
 have HB3:Hid (Below w.heap.size w w3):=HB2.out.trans (g3.only.below HB2.out.size (fun i hi=>by have:=HLO.out i hi;have:=HS0.out;omega))
 have HB4:Hid (Below w.heap.size w w4):=HB3.out.trans (x1.mono HB3.out.size)
 obtain ⟨B9,hB9⟩:∃ B9,B9=w3.heap.size:=⟨_,rfl⟩
 have HX4:Hid (w4.row? B9 0 24=some X):=by rw [hB9];exact x2
 have HB23:Hid (w2.heap.size≤B9):=by rw [hB9];exact g3.only.size
 have HE4:=hid e4
 have HBN:=hid hB9
 have HXX:=hid hX
 have HRR:=hid (HR.out w4 own2 sr _ (by have:=HLL.out;omega) HRS4.out (HD4.out.weak fun b _ hx=>by have h1:=HNW.out.ge b hx.1;have:=HB1.out.size;show w.heap.size≤b;omega))
 rw [hcx] at HRR
 have q4:=r4
 rw [e4] at q4
 clear r2 hro3 st3 g3 hX x1 x2 e4 hkeep r3 r4 hap hap2 hB9 HRP
 have HN3:=hid hn3
 clear hn3
 go_wp2_with fail
 rw [← HE4.out]
 rw [← HBN.out]
 refine HRR.out.mono ?_
 rintro e w5 ⟨oa2,oc2,la2,lc2,own5,M5,n5,rfl,hi5,st5,g5,hn5⟩
 obtain ⟨Y,hY⟩:∃ Y,Y=A5A g x ad oa2 d.length oc2 la2 lc2:=⟨_,rfl⟩
 rw [← hY]
 have hYl:Y.length=24:=by rw [hY];exact A3F _ _ _ _ _ _ _ _
 have hYk:P0 24 Y=true:=by rw [hY];exact A4Q _ _ _ _ _ _ _ _
 obtain ⟨y1,y2,y3⟩:=B9H w5 Y hYk
 obtain ⟨w6,e6⟩:∃ w6,w6=(w5.alloc (.cells (B7 K9).toArray 41)).setCells w5.heap.size 0 Y:=⟨_,rfl⟩
 rw [← e6] at y1 y2
 have hk2:∀ b,(b < w1.heap.size∨w2.heap.size≤b)→¬ hot own2 b:=fun b hb hx=>by
  have h1:=HNW.out.ge b hx.1
  have h2:=HNW.out.st.lows b hx.1
  omega
 have hs12:w0.heap.size≤w1.heap.size:=HB01.out.size
 have HX6:Hid (w6.row? B9 0 24=some X):=by
  have h1:w5.row? B9 0 24=some X:=(g5.only.row? (World.row?_lt HX4.out) (hk2 _ (.inr HB23.out))).trans HX4.out
  exact ((D2 y1).1 _ _ _ (World.row?_lt h1)).trans h1
 have HF6:Hid (w6.free? (w.heap.size+1) 0 24=true):=by
  have h1:w5.free? (w.heap.size+1) 0 24=true:=(g5.only.free? (C4 HF4.out) (hk2 _ (.inl (by have:=HS0.out;omega)))).trans HF4.out
  exact ((D2 y1).2 _ _ _ (C4 h1)).trans h1
 have HST6:Hid (StateAt TU w6 own3 sb S' [] n3):=(HST4.out.only g5.only (fun b hb=>HAP3.out b hb.1)).below y1
 have HRS6:=hid (st5.below y1)
 have HI6:=hid (hi5.below y1)
 have HIP6:Hid (I7 w6 .u8 oa oc d):=by
  have h1:=HRO4.out.only (X':=fun _=>False) (R:=hot own2) g5.only (fun b hb => .inr (HNW.out.st.lows b hb.1)) (fun _ _ h=>h.elim)
  obtain ⟨⟨a',c',e',i',_⟩,_,_⟩:=h1.below y1
  cases e'
  exact i'
 have HB5:Hid (Below w.heap.size w w5):=HB4.out.trans (g5.only.below HB4.out.size (fun i hi=>by have h1:=HNW.out.ge i hi.1;have:=HS0.out;omega))
 have HB6:Hid (Below w.heap.size w w6):=HB5.out.trans (y1.mono HB5.out.size)
 obtain ⟨B10,hB10⟩:∃ B10,B10=w5.heap.size:=⟨_,rfl⟩
 have HY6:Hid (w6.row? B10 0 24=some Y):=by rw [hB10];exact y2
 have HE6:=hid e6
 have HBN2:=hid hB10
 have HYY:=hid hY
 have HN5:=hid hn5
 obtain ⟨B4,hB4⟩:∃ B4,B4=w.heap.size+1:=⟨_,rfl⟩
 have HB4E:=hid hB4
 rw [← hB4] at HF6
 obtain ⟨T,hT⟩:∃ T:World→Prop,T=fun W=>A2 (fun b=>b=B4) w6 W∧W.free? B4 0 24=true:=⟨_,rfl⟩
 have HT:=hid hT
 have HTB:Hid (∀ w2 w3,T w2→Below w2.heap.size w2 w3→T w3):=by
  show ∀ w2 w3,T w2→Below w2.heap.size w2 w3→T w3
  rw [hT]
  intro w2 w3 h hb
  exact ⟨h.1.trans (T:=fun _=>False) (A2.of_below_size hb) (fun _ h _=>h.elim),((D2 hb).2 _ _ _ (C4 h.2)).trans h.2⟩
 have HTZ:Hid (∀ w2,T w2→T (w2.setCells B4 0 X)):=by
  show ∀ w2,T w2→T (w2.setCells B4 0 X)
  rw [hT]
  intro w2 h
  exact ⟨A2.setCells h.1 (fun _=>rfl) _ _,by rw [World.free?_setCells'];exact h.2⟩
 have HTG:Hid (∀ w2,T w2→A2 (fun b=>b=B4) w6 w2):=by show ∀ w2,T w2→_;rw [hT];intro w2 h;exact h.1
 have HFR:Hid (∀ w2,T w2→w2.free? B4 0 24=true):=by show ∀ w2,T w2→_;rw [hT];intro w2 h;exact h.2
 have hb94:B4 < B9:=by have h1:=HB23.out;have h2:=C4 HF2.out;omega
 have hb104:B4 < B10:=by have h1:=World.row?_lt HX4.out;have h2:=g5.only.size;omega
 have HRW:Hid (∀ W,T W→W.row? B9 0 24=some X∧W.row? B10 0 24=some Y):=fun W hW=>⟨((HTG.out _ hW).row? (World.row?_lt HX6.out) (by omega)).trans HX6.out,((HTG.out _ hW).row? (World.row?_lt HY6.out) (by omega)).trans HY6.out⟩
 have HO3b:Hid (own3 B4=none):=by rw [hB4];exact HO3.out
 have HO5:Hid (own5 B4=none):=by
  show own5 B4=none
  rw [g5.ext _ (by rw [hB4];exact C4 HF4.out)]
  have:¬ own2 B4≠none:=fun hx=>by have h1:=HNW.out.ge _ hx;have:=HS0.out;omega
  exact Classical.not_not.1 this
 have HSTW:Hid (∀ W,T W→StateAt TU W own3 sb S' [] n3):=fun W hW=>HST6.out.only (HTG.out _ hW) (fun b hb=>by rw [hb];exact HO3b.out)
 have HRSW:Hid (∀ W,T W→RState W own5 sr S' M5 n5):=fun W hW=>HRS6.out.only (HTG.out _ hW) (fun b hb=>by have e:b=B4:=hb;rw [e];exact HO5.out)
 have HBW:Hid (∀ W,T W→Below w.heap.size w W):=fun W hW=>HB6.out.trans ((HTG.out _ hW).below HB6.out.size (fun i hi=>by have e:i=B4:=hi;omega))
 have t0:T w6.drew:=HTB.out w6 _ (by rw [hT];exact ⟨A2.refl _ _,HF6.out⟩) (Below.refl _ _).drew
 clear hb94 hb104 hB4
 clear hi5 st5 g5 hn5 hY y1 y2 e6 hk2 hs12 hB10 hT q4 x3 HRR
 go_wp2_with fail
 rw [← HE6.out]
 rw [← HBN2.out]
 rw [← HB4E.out]
 refine A6 T [] (.take 0 (.pure 1 (.take 2 (.take 3 (.alt 4 (.pure 5 (.pure 6 (.pure 8 (.alt 7 (.alt 9 (.alt 10 (.pure 11 (.alt 12 (.pure 13 (.pure 14 .fin)) .stop)) .stop) .stop) .stop)))) .stop))))) (by kernel_rfl) (by kernel_rfl) ?_
 iterate 4
  first
  |refine A9 ?_ t0 rfl (by rfl) (fun w' hs=>?_) (fun _ _ _ h=>h) ?_
   rotate_left
   ·rw [HT.out] at hs
    obtain ⟨g9,g10⟩:=HRW.out w' (by rw [HT.out];exact hs)
    go_simp
    try rfl
   simp only [Act.put,D6,D5,D4]
  |refine A0 ?_ rfl (by rfl) (fun w' hs=>?_) (fun _ _ _ h=>h) ?_
   rotate_left
   ·clear hs
    go_simp
    try rfl
   simp only [Act.put,D6,D5,D4]
 refine A8 rfl (fun K hK=>?_)
 go_simp
 have HSO:=A7v (w:=w6.drew) g x d ad oa oa2 la la2 oc oc2 lc lc2 had (HIP6.out.below (Below.refl _ _).drew) (HI6.out.below (Below.refl _ _).drew)
 change Calls Tryz.prog 39 #[.agg (A5A g x ad oa d.length oc la lc).toArray,.agg (A5A g x ad oa2 d.length oc2 la2 lc2).toArray] _ _ at HSO
 rw [← HXX.out,← HYY.out] at HSO
 refine HSO.mono ?_
 rintro e w91 ⟨rfl,hb91⟩
 have t1:T w91:=HTB.out _ _ t0 hb91
 clear hb91
 refine hK.out _ _ t1 ?_
 clear hK K
 iterate 3
  refine A0 ?_ rfl (by rfl) (fun w' hs=>?_) (fun _ _ _ h=>h) ?_
  rotate_left
  ·clear hs
   go_simp
   try rfl
  simp only [Act.put,D6,D5,D4]
 refine A8 rfl (fun K hK=>?_)
 go_simp
 refine (A7s (HSTW.out _ t1) HN3.out HZ.out).mono ?_
 rintro e w92 ⟨v1,ds1,l1,rfl,hA1,hD1,hL1,hC1⟩
 have t2:T w92:=HTB.out _ _ t1 hA1.below
 have HA1:=hid hA1
 have HL1:=hid hL1
 have HC1:=hid hC1
 have HD1:=hid hD1
 clear hA1 hL1 hC1 hD1
 refine hK.out _ _ t2 ?_
 clear hK K
 refine A8 rfl (fun K hK=>?_)
 go_simp
 refine (B0q (HRSW.out _ t2) (by have:=HN5.out;omega)).mono ?_
 rintro e w93 ⟨v2,ds2,rfl,hA2,hL2⟩
 have t3:T w93:=HTB.out _ _ t2 hA2.below
 have HA2:=hid hA2
 have HL2:=hid hL2
 clear hA2 hL2
 refine hK.out _ _ t3 ?_
 clear hK K
 refine A8 rfl (fun K hK=>?_)
 go_simp
 have hds:F6 ds2=l1.map (A29 S'):=B1c HL2.out HL1.out HZ.out
 have hA1:=HA1.out.next HA2.out.below
 have hsl:∀ p∈ds1,p.1.slots.length≤1000000:=by
  intro p hp
  have h1:p.1∈F6 ds1:=List.mem_map.2 ⟨p,hp,rfl⟩
  rw [HD1.out] at h1
  obtain ⟨a,_,ha⟩:=List.mem_map.1 h1
  rw [← ha]
  show (A2p (S' a)).length≤_
  unfold A2p
  rw [List.length_map]
  have:=A5J (S' a)
  omega
 refine (B0a hA1.own HA2.out.own (A9A hA1) (A9A HA2.out) (by rw [hds];exact HD1.out) HC1.out hsl).mono ?_
 rintro e w94 ⟨rfl,hb94⟩
 have t4:T w94:=HTB.out _ _ t3 hb94
 have tf:=HFR.out _ t4
 clear hb94 hds hA1 hsl
 refine hK.out _ _ t4 ?_
 clear hK K
 refine A0 ?_ rfl (by rfl) (fun w' hs=>?_) (fun _ _ _ h=>h) ?_
 rotate_left
 ·clear hs
  go_simp
  try rfl
 simp only [Act.put,D6,D5,D4]
 refine A8 rfl (fun K hK=>?_)
 go_simp
 have t5:T (w94.setCells B4 0 X):=HTZ.out _ t4
 refine hK.out _ _ t5 ?_
 clear hK K
 iterate 2
  refine A0 ?_ rfl (by rfl) (fun w' hs=>?_) (fun _ _ _ h=>h) ?_
  rotate_left
  ·clear hs
   go_simp
   try rfl
  simp only [Act.put,D6,D5,D4]
 refine C3 ?_
 have rz:(w94.setCells B4 0 X).row? B4 0 24=some X:=B8 X (HFR.out _ t4) hXk
 go_wp2
 refine B2E A2X rfl X _ _ rfl rfl rfl rfl rz ?_
 rw [HXX.out]
 rw [HXX.out] at t5
 exact ⟨oa,oc,la,lc,sb,own3,n3,rfl,HBW.out _ t5,HSTW.out _ t5,HGE3.out⟩
end Go.Proofs.YtfflppedbopdpaaGreat
