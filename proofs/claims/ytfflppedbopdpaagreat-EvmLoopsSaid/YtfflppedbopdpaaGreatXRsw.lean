/- A part of the proof of EvmLoops: XRsw. -/
import Derived.Test.YtfflppedbopdpaaGreatXTb2
import Derived.Test.YtfflppedbopdpaaGreatXEv16
import Derived.Test.YtfflppedbopdpaaGreatXRf9
import Derived.Test.YtfflppedbopdpaaGreatXSl4
import Derived.Test.YtfflppedbopdpaaGreatXCx0
import Derived.Test.YtfflppedbopdpaaGreatXSt2
import Derived.Test.YtfflppedbopdpaaGreatXSeg
set_option linter.unusedVariables false
set_option maxRecDepth 1000000
set_option maxHeartbeats 8000000
set_option linter.unusedSimpArgs false
namespace Go.Proofs.YtfflppedbopdpaaGreat
open Go.RowKit Go.Mun

section
variable {E:Q5} {w:World} {own:Go.Mun.Own} {c:RFV} {f:Fr} {S:St} {M:List (Nat × St)} {n:Nat}
theorem C9.words {w1:World} {st':List Nat} (h:C9 E w own c f S M n) (ho:A2 (fun g=>c.sv.ownBlock=some g) w w1) (hr:w1.ownsRow 0 25 32 c.sv st'.length (D3 st')) (hv:∀ x∈st',x < wW) (hn:st'.length≤1024) :
  C9 E w1 own c { f with stack:=st' } S M n:=by
 have h1:=h.stack ho hr (fun g hg => .inl hg) hv hn
 have hc:w1.cell? ⟨E.fb,230,none⟩=some c.sv:=by
  rw [ho.cell? h.lt (fun e=>(h.sown _ e).2 rfl)]
  exact A5p h.row
 rw [A5k hc] at h1
 exact h1
theorem B7I (k:Nat) (h:C9 E w own c f S M n) (hk:1≤k∧k < f.stack.length) :
  Calls Tryz.prog 262 #[.pointer (some ⟨E.fb,230,none⟩),.int .i64 (k:Int)] w fun e w'=>e = .returned (.bool true)∧C9 E w' own c { f with stack:=A2n f.stack k } S M n:=by
 obtain ⟨m,hm⟩:∃ m,m=f.stack.length:=⟨_,rfl⟩
 obtain ⟨p,hp⟩:∃ p,p=f.stack.length - 1:=⟨_,rfl⟩
 obtain ⟨q,hq⟩:∃ q,q=f.stack.length - 1 - k:=⟨_,rfl⟩
 have hpl:p < f.stack.length:=by omega
 have hql:q < f.stack.length:=by omega
 obtain ⟨x,hx⟩:∃ x,x=f.stack[p]'hpl:=⟨_,rfl⟩
 obtain ⟨y,hy⟩:∃ y,y=f.stack[q]'hql:=⟨_,rfl⟩
 have hsw:A2n f.stack k=(f.stack.set p y).set q x:=by
  unfold A2n
  rw [← hq,← hp,hx,hy]
  simp [List.getD_eq_getElem?_getD,hpl,hql]
 have hx1:=hsw ▸ A8u h.sval k
 rw [hsw]
 obtain ⟨g,sc,hsv,_,_,_,hrow,hfree⟩:=I3 h.stk (by omega)
 have csv:=A5p h.row
 rw [hsv,← hm] at csv
 have r1:w.row? g (p*32) 32=some (A3 32 x):=by rw [World.row?_sub hrow (Nat.zero_le _) (by omega),Nat.sub_zero,A2r _ p hpl,hx]
 have r2:w.row? g (q*32) 32=some (A3 32 y):=by rw [World.row?_sub hrow (Nat.zero_le _) (by omega),Nat.sub_zero,A2r _ q hql,hy]
 have hgl:g < w.heap.size:=World.row?_lt hrow
 have hfb:E.fb < w.heap.size:=h.lt
 have hgf:g≠E.fb:=(h.sown g (by rw [hsv];rfl)).2
 have hsl:=h.slen
 have w1:IntKind.i64.wrap ((m:Int) - 1)=(p:Int):=by rw [V3 _ (by omega) (by omega)];omega
 have w2:IntKind.i64.wrap ((p:Int) - (k:Int))=(q:Int):=by rw [V3 _ (by omega) (by omega)];omega
 have d1:decide ((k:Int) < 1)=false:=decide_eq_false (by omega)
 have d1n:(k < 1)=False:=eq_false (by omega)
 have d2:decide ((m:Int)≤(k:Int))=false:=decide_eq_false (by omega)
 have d2n:(m≤k)=False:=eq_false (by omega)
 have hpm:p < m:=by omega
 have hqm:q < m:=by omega
 have hlx:=B0 32 x
 have hly:=B0 32 y
 have okx:=C7 32 x
 have oky:=C7 32 y
 have H:=hid h
 have HST:=hid h.stk
 rw [hsv,← hm] at HST
 have HSV:Hid (c.sv = .slice (some ⟨g,0,none⟩) m sc):=by show c.sv=_;rw [hsv,hm]
 have HM:=hid hm
 have HX1:=hid hx1
 have HPQ:Hid (p < f.stack.length∧q < f.stack.length∧q≠p):=⟨hpl,hql,by omega⟩
 obtain ⟨w0,e0⟩:∃ w0,w0=(w.alloc (.cells (K0 32).toArray 25)).setCells w.heap.size 0 (A3 32 x):=⟨_,rfl⟩
 have hb0:Below w.heap.size w w0:=by rw [e0];exact ((Below.refl _ _).alloc (Nat.le_refl _) _).setCells (Nat.le_refl _) _ _
 have rb:w0.row? w.heap.size 0 32=some (A3 32 x):=by rw [e0];exact B8 _ (World.free?_alloc_at _ _ rfl (by simp)) okx
 have c3:w0.drew.cell? ⟨E.fb,230,none⟩=some (.slice (some ⟨g,0,none⟩) m sc):=(hb0.cell hfb).trans csv
 have r3:w0.drew.row? g (q*32) 32=some (A3 32 y):=((D2 hb0).1 _ _ _ hgl).trans r2
 have f3:w0.drew.free? g (p*32) 32=true:=by
  show w0.free? g (p*32) 32=true
  rw [(D2 hb0).2 _ _ _ hgl];exact World.free?_sub hfree (by omega)
 have f4:w0.drew.free? g (q*32) 32=true:=by
  show w0.free? g (q*32) 32=true
  rw [(D2 hb0).2 _ _ _ hgl];exact World.free?_sub hfree (by omega)
 have HE:=hid e0
 have HB:=hid hb0
 have HRB:=hid rb
 have HGL:Hid (g < w.heap.size∧E.fb < w.heap.size∧g≠E.fb):=⟨hgl,hfb,hgf⟩
 have hkm:k < m:=by omega
 clear h hsv hrow hfree hx hy hpl hql hsw hm hp hq hk hx1 hsl e0 hb0 rb hgl hfb hgf
 go_enter Tryz.func262,Tryz.ntmps262
 go_wp2_with fail
 rw [← HE.out]
 go_still_tail 15,(by kernel_rfl)
 go_wp2_with fail
 obtain ⟨w5,e5⟩:∃ w5,w5=w0.drew.setCells g (p*32) (A3 32 y):=⟨_,rfl⟩
 have ho5:A2 (· = g) w0 w5:=by rw [e5];exact A2.setCells (S:=fun b=>b=g) (A2.of_below_size (Below.refl _ _).drew) (fun _=>rfl) _ _
 have c5:w5.drew.cell? ⟨E.fb,230,none⟩=some (.slice (some ⟨g,0,none⟩) m sc):=(ho5.cell? (Nat.lt_of_lt_of_le HGL.out.2.1 HB.out.size) (fun e=>HGL.out.2.2 e.symm)).trans c3
 have r5:w5.drew.row? w.heap.size 0 32=some (A3 32 x):=(ho5.row? (World.row?_lt HRB.out) (fun e=>by have h1:=HGL.out.1;have h2:w.heap.size=g:=e;omega)).trans HRB.out
 have f5:w5.drew.free? g (q*32) 32=true:=by
  show w5.free? g (q*32) 32=true
  rw [e5,World.free?_setCells'];exact f4
 have HE5:=hid e5
 rw [← e5]
 clear e5 ho5
 go_still_tail 9,(by kernel_rfl)
 go_wp2
 go_ret
 refine ⟨rfl,?_⟩
 have hs0:w0.drew.ownsRow E.w0.heap.size 25 32 (.slice (some ⟨g,0,none⟩) m sc) m (D3 f.stack):=C2 HST.out (HB.out.trans ((Below.refl _ _).drew.mono HB.out.size))
 have hs1:=A0n hs0 (p*32) (A3 32 y) (by rw [B0];omega)
 rw [A1n _ _ _ HPQ.out.1,← HE5.out] at hs1
 have hs2:=A0n (w:=w5.drew) hs1 (q*32) (A3 32 x) (by rw [B0];omega)
 rw [A1n _ _ _ (by rw [List.length_set];exact HPQ.out.2.1)] at hs2
 have HH:=H.out.below (HB.out.trans ((Below.refl _ _).drew.mono HB.out.size))
 have hO1:A2 (fun b=>c.sv.ownBlock=some b) w0.drew w5:=by rw [HE5.out];exact (A2.refl _ _).setCells (fun _=>by rw [HSV.out];rfl) _ _
 have hO2:A2 (fun b=>c.sv.ownBlock=some b) w5 (w5.drew.setCells g (q*32) (A3 32 x)):=(A2.of_below_size (Below.refl _ _).drew).setCells (fun _=>by rw [HSV.out];rfl) _ _
 refine HH.words (hO1.trans hO2 (fun _ h _=>h)) ?_ HX1.out (by simp only [List.length_set];exact HH.slen)
 rw [HSV.out]
 simp only [List.length_set]
 try rw [← HM.out]
 exact E8 hs2 (Nat.zero_le _)
theorem B33 (m:Nat) (hm:144≤m∧m≤159) (h:C9 E w own c f S M n) (htl:c.tl=K3 A0c) (hs:m - 143 < f.stack.length) :
  Calls Tryz.prog 179 #[.pointer (some ⟨E.fb,0,none⟩),.int .u8 (m:Int),c.jv] w (RDo E c.jv (.ok { f with stack:=A2n f.stack (m - 143) } S)):=by
 have HD:=hid (B7I (m - 143) h ⟨by omega,hs⟩)
 have d1:decide ((96:Int)≤m)=true:=decide_eq_true (by omega)
 have d2:decide ((m:Int) < 128)=false:=decide_eq_false (by omega)
 have d3:decide ((128:Int)≤m)=true:=decide_eq_true (by omega)
 have d4:decide ((m:Int) < 144)=false:=decide_eq_false (by omega)
 have d5:decide ((144:Int)≤m)=true:=decide_eq_true (by omega)
 have d6:decide ((m:Int) < 160)=true:=decide_eq_true (by omega)
 obtain ⟨k,hk⟩:∃ k,k=m - 143:=⟨_,rfl⟩
 have hw1:IntKind.i64.wrap ((m:Int) - 143)=(k:Int):=by rw [V3 _ (by omega) (by omega)];omega
 have hw2:IntKind.i64.wrap (m:Int)=(m:Int):=V3 _ (by omega) (by omega)
 have HM:=hid hm
 rw [← hk] at HD ⊢
 have HTL:=hid htl
 clear h htl hs hm hk
 go_enter Tryz.func179,Tryz.ntmps179
 go_wp2_with fail
 refine HD.out.mono ?_
 rintro e w2 ⟨rfl,h2⟩
 have H2:=hid h2
 clear h2
 go_wp2
 go_ret
 exact ⟨rfl,own,c,M,n,H2.out,HTL.out,rfl⟩
end
end Go.Proofs.YtfflppedbopdpaaGreat
namespace Go.Proofs.YtfflppedbopdpaaGreat
open Go.RowKit Go.Mun
def A89 (f:Fr) (k:Nat):Fr:={ f with stack:=f.stack.take (f.stack.length - k) }
def doL (f:Fr) (S:St) (x:Int):Res:=
 if x=91 then .ok f S
 else if x=21 then .ok { f with stack:=f.stack.take (f.stack.length - 1)++[if P3 f 0=0 then 1 else 0] } S
 else if x=3 then .ok { f with stack:=f.stack.take (f.stack.length - 2)++[(P3 f 0+wW - P3 f 1) % wW] } S
 else if x=86 then goJ (A89 f 1) S (P3 f 0)
 else if x=87 then (if P3 f 1=0 then .ok (A89 f 2) S else goJ (A89 f 2) S (P3 f 0))
 else if 128≤x∧x≤143 then .ok { f with stack:=f.stack++[P3 f (x.toNat - 128)] } S
 else if 144≤x∧x≤159 then .ok { f with stack:=A2n f.stack (x.toNat - 143) } S
 else B8d f S x
theorem A6D (E:Q5):A9N E U8 doL where
 price:=(A8s E).price
 act:=by
  intro w own c f S M n p q g h htl hjn ho hp hq hd hcost
  unfold doL at hd ⊢
  by_cases h0:opR f=91
  ·rw [if_pos h0,h0]
   have ho2:ofL 91=some (0,0,1):=by kernel_rfl
   refine A2K (x:=91) (p:=0) (q:=0) (g:=1) (by omega) h htl ho2 (Nat.zero_le _) (by simp) ?_
   intro W v c' h' htl' hjv hv hvo
   refine (A8Q (f:=f) (E:=E) (w:=W) (own:=own) (S:=S) (M:=M) (n:=n) (c:=c') (v:=v) (jv:=c.jv) ?_).mono ?_
   ·have:f.stack.take (f.stack.length - 0)=f.stack:=by simp
    rw [this] at h'
    exact h'
   ·rintro e w' ⟨rfl,rfl⟩
    have:f.stack.take (f.stack.length - 0)=f.stack:=by simp
    rw [this] at h'
    exact ⟨rfl,own,c',M,n,h',htl',hjv⟩
  rw [if_neg h0] at hd ⊢
  by_cases h1:opR f=21
  ·rw [if_pos h1]
   rw [h1] at ho ⊢
   have ho2:ofL 21=some (1,1,3):=by kernel_rfl
   rw [ho2] at ho
   cases ho
   have hl:1≤f.stack.length:=by omega
   have hsl:=h.slen
   refine A8X (x:=21) (p:=1) (q:=1) (g:=3) (by omega) h htl ho2 hl (by simp) ?_
   intro W v c' h' htl' hjv hv hvo
   rw [B8R hl] at hv
   refine (A6l (k:=P3 f 0) h' (A0J h 0) (by rw [List.length_take];omega) (E8 hv (Nat.zero_le _))).mono ?_
   rintro e w' ⟨rfl,c2,h3,ht3,hj3⟩
   exact ⟨rfl,own,c2,M,n,h3,ht3.trans htl',hj3.trans hjv⟩
  rw [if_neg h1] at hd ⊢
  by_cases h2:opR f=3
  ·rw [if_pos h2]
   rw [h2] at ho ⊢
   have ho2:ofL 3=some (2,1,3):=by kernel_rfl
   rw [ho2] at ho
   cases ho
   have hl:2≤f.stack.length:=by omega
   have hsl:=h.slen
   exact B5P (x:=3) (p:=2) (q:=1) (g:=3) (by omega) h htl ho2 hl (by simp) (P3 f 0) (P3 f 1) _ rfl (B7l hl) (Nat.mod_lt _ (by unfold wW;omega)) (by rw [List.length_take];omega) rfl (fun W=>A5t _ _ (A0J h 0) (A0J h 1) W)
  rw [if_neg h2] at hd ⊢
  by_cases h3:opR f=86
  ·rw [if_pos h3] at hd ⊢
   rw [h3] at ho ⊢
   have ho2:ofL 86=some (1,0,8):=by kernel_rfl
   rw [ho2] at ho
   cases ho
   have hl:1≤f.stack.length:=by omega
   refine A2K (x:=86) (p:=1) (q:=0) (g:=8) (by omega) h htl ho2 hl hd ?_
   intro W v c' h' htl' hjv hv hvo
   rw [B8R hl] at hv
   rw [← hjv]
   exact A8R (P3 f 0) (A0J h 0) h' htl' (by rw [hjv];exact hjn) (E8 hv (Nat.zero_le _))
  rw [if_neg h3] at hd ⊢
  by_cases h4:opR f=87
  ·rw [if_pos h4] at hd ⊢
   rw [h4] at ho ⊢
   have ho2:ofL 87=some (2,0,10):=by kernel_rfl
   rw [ho2] at ho
   cases ho
   have hl:2≤f.stack.length:=by omega
   refine A2K (x:=87) (p:=2) (q:=0) (g:=10) (by omega) h htl ho2 hl hd ?_
   intro W v c' h' htl' hjv hv hvo
   rw [B7l hl] at hv
   rw [← hjv]
   exact A6k (P3 f 0) (P3 f 1) (A0J h 0) (A0J h 1) h' htl' (by rw [hjv];exact hjn) (E8 hv (Nat.zero_le _))
  rw [if_neg h4] at hd ⊢
  by_cases h5:128≤opR f∧opR f≤143
  ·rw [if_pos h5]
   obtain ⟨m,hm,hop⟩:=A7J h
   rw [hop] at h5 ho ⊢
   unfold ofL at ho
   rw [if_neg (by omega),if_pos (by omega)] at ho
   cases ho
   rw [show ((m:Int)).toNat - 128=m - 128 by omega]
   exact B5Q m (by omega) h htl (by omega) (by omega)
  rw [if_neg h5] at hd ⊢
  by_cases h6:144≤opR f∧opR f≤159
  ·rw [if_pos h6]
   obtain ⟨m,hm,hop⟩:=A7J h
   rw [hop] at h6 ho ⊢
   unfold ofL at ho
   rw [if_neg (by omega),if_neg (by omega),if_pos (by omega)] at ho
   cases ho
   rw [show ((m:Int)).toNat - 143=m - 143 by omega]
   exact B33 m (by omega) h htl (by omega)
  rw [if_neg h6] at hd ⊢
  exact (A8s E).act h htl hjn ho hp hq hd hcost
end Go.Proofs.YtfflppedbopdpaaGreat
namespace Go.Proofs.YtfflppedbopdpaaGreat
open Go.RowKit Go.Mun
theorem K5 {act:Fr→St→Int→List Nat→Res} {turn:Fr→St→Int→Res} {m:Msg} {code mm ret out:V1} {lg:List Lg} {st st' ts:List Nat} {pc nx gas gas' nx':Nat} {en:Bool} {S:St} (x:Int) (p q g L:Nat) (hx:code[nx]?.getD 0=x) (ho:ofL x=some ((p:Int),(q:Int),(g:Int))) (hL:st.length=L) (hl:p≤L∧L - p+q≤1024) (ht:¬ (128≤x∧x < 160)) (hm:m.static=false)
  (hg:g≤gas) (hs:st.take (st.length - p)=st') (hts:st.reverse.take p=ts) (hgg:gas - g=gas') (hn:nx+1+(K2 x).toNat=nx') :
  V5 act turn ⟨m,code,st,mm,pc,nx,gas,ret,out,lg,en⟩ S=act ⟨m,code,st',mm,nx,nx',gas',ret,out,lg,en⟩ S x ts:=by
 subst hx
 obtain ⟨f,hf⟩:∃ f:Fr,f=⟨m,code,st,mm,pc,nx,gas,ret,out,lg,en⟩:=⟨_,rfl⟩
 have hop:X8 f=code[nx]?.getD 0:=by rw [hf];rfl
 rw [← hop] at ho ht hn ⊢
 rw [← hf]
 unfold V5
 rw [ho]
 simp only [Int.toNat_natCast]
 rw [if_neg (by rw [hf];show ¬ ¬ (p≤st.length∧st.length - p+q≤1024);rw [hL];exact fun h=>h hl),if_neg ht,if_neg (by rw [hf];show ¬ (m.static=true∧_);rw [hm];simp),if_pos (by rw [hf];exact hg),← hs,← hts,← hgg,← hn]
 rw [hf]
 rfl
theorem A3h {act:Fr→St→Int→List Nat→Res} {turn:Fr→St→Int→Res} {m:Msg} {code mm ret out:V1} {lg:List Lg} {st:List Nat} {pc nx gas gas' nx':Nat} {en:Bool} {S:St} (x:Int) (p q g L:Nat) (hx:code[nx]?.getD 0=x) (ho:ofL x=some ((p:Int),(q:Int),(g:Int))) (hL:st.length=L) (hl:p≤L∧L - p+q≤1024) (ht:128≤x∧x < 160)
  (hg:g≤gas) (hgg:gas - g=gas') (hn:nx+1+(K2 x).toNat=nx') :
  V5 act turn ⟨m,code,st,mm,pc,nx,gas,ret,out,lg,en⟩ S=turn ⟨m,code,st,mm,nx,nx',gas',ret,out,lg,en⟩ S x:=by
 subst hx
 obtain ⟨f,hf⟩:∃ f:Fr,f=⟨m,code,st,mm,pc,nx,gas,ret,out,lg,en⟩:=⟨_,rfl⟩
 have hop:X8 f=code[nx]?.getD 0:=by rw [hf];rfl
 rw [← hop] at ho ht hn ⊢
 rw [← hf]
 unfold V5
 rw [ho]
 simp only [Int.toNat_natCast]
 rw [if_neg (by rw [hf];show ¬ ¬ (p≤st.length∧st.length - p+q≤1024);rw [hL];exact fun h=>h hl),if_pos ht,if_pos (by rw [hf];exact hg),← hgg,← hn]
 rw [hf]
 rfl
theorem J4 {step:Fr→St→Res} {k:Nat} {m:Msg} {code mm ret out:V1} {lg:List Lg} {st:List Nat} {pc nx gas:Nat} {f':Fr} {S S':St} (L:Nat) (hL:code.length=L) (hn:¬ L≤nx) (h:step ⟨m,code,st,mm,pc,nx,gas,ret,out,lg,false⟩ S = .ok f' S') :
  U1 step (k+1) ⟨m,code,st,mm,pc,nx,gas,ret,out,lg,false⟩ S=U1 step k f' S':=by
 rw [U1,if_neg (by show ¬ (false=true∨code.length≤nx);rw [hL];simp [hn]),h]
theorem J2 {pr:Fr→St→Int→Pri} {dor:Fr→St→Int→Res} {m:Msg} {code mm mm1 ret out:V1} {lg:List Lg} {st:List Nat} {pc nx gas gas' nx':Nat} {en:Bool} {f2:Fr} {S S2:St} (x:Int) (p q g k L C:Nat) (hC:code.length=C) (hnx:nx < C) (hx:code[nx]?.getD 0=x) (ho:ofL x=some ((p:Int),(q:Int),(g:Int))) (hL:st.length=L) (hl:¬ ((L:Int) < (p:Int)∨1024 < (L:Int) - (p:Int)+(q:Int))) (hm:m.static=false)
  (hp:pr ⟨m,code,st,mm,pc,nx,gas,ret,out,lg,en⟩ S x = .more k ⟨m,code,st,mm1,pc,nx,gas,ret,out,lg,en⟩) (hk:g+k≤gas) (hgg:gas - g - k=gas') (hd:dor ⟨m,code,st,mm1,pc,nx,gas',ret,out,lg,en⟩ S x = .ok f2 S2) (hn:f2.next=nx) (hw:nx+1+(K2 x).toNat=nx') (hw2:nx'≤2199023255552) :
  D7 pr dor ⟨m,code,st,mm,pc,nx,gas,ret,out,lg,en⟩ S = .ok { f2 with next:=nx' } S2:=by
 subst hx
 obtain ⟨f,hf⟩:∃ f:Fr,f=⟨m,code,st,mm,pc,nx,gas,ret,out,lg,en⟩:=⟨_,rfl⟩
 have hop:opR f=code[nx]?.getD 0:=by rw [hf];show (if nx < code.length then _ else _)=_;rw [hC,if_pos hnx]
 have e1:f.stack.length=L:=by rw [hf];exact hL
 have e2:f.m.static=false:=by rw [hf];exact hm
 have e3:f.next=nx:=by rw [hf]
 rw [← hop] at ho hp hd hw
 rw [← hf] at hp ⊢
 unfold D7
 rw [ho]
 simp only [Int.toNat_natCast]
 rw [e1,if_neg hl,if_neg (by rw [e2];simp),hp]
 simp only []
 rw [if_pos ⟨hk,e3.symm,by rw [hf],by rw [hf]⟩,hgg,hd]
 simp only []
 rw [e3,if_pos hn,hw,if_pos hw2]
theorem J1 {step:Fr→St→Res} {k:Nat} {m:Msg} {code mm ret out:V1} {lg:List Lg} {st:List Nat} {pc nx gas:Nat} {f':Fr} {S S':St} (h:step ⟨m,code,st,mm,pc,nx,gas,ret,out,lg,false⟩ S = .ok f' S'):W9 step (k+1) ⟨m,code,st,mm,pc,nx,gas,ret,out,lg,false⟩ S=W9 step k f' S':=by
 rw [W9,if_neg (by show ¬ (false=true);simp),h]
theorem A8K {m:Msg} {code mm ret out:V1} {lg:List Lg} {st:List Nat} {pc nx gas gas':Nat} {en:Bool} {S:St} {k x:Nat} (c:Nat) (hc:I4 ((S m.to).slots k) x=c) (hg:c≤gas) (hgg:gas - c=gas') :
  X5 ⟨m,code,st,mm,pc,nx,gas,ret,out,lg,en⟩ S k x = .ok ⟨m,code,st,mm,pc,nx,gas',ret,out,lg,en⟩ (S.setSlot m.to k x):=by
 unfold X5
 show (if I4 ((S m.to).slots k) x≤gas then _ else _)=_
 rw [hc,if_pos hg,← hgg]
end Go.Proofs.YtfflppedbopdpaaGreat
namespace Go.Proofs.YtfflppedbopdpaaGreat
open Go.RowKit Go.Mun
def C5 (g:Int):Msg:=⟨0,3,1,0,0,0,[],g,0,false⟩
theorem A41 (g:Int) (h:0≤g∧g≤1000000):A14 (C5 g):=
 ⟨by show 3 < wA;decide,by show 1 < wA;decide,by show 0 < wA;decide,by show 0 < wW;decide,by show 0 < wW;decide,⟨by show _≤g;omega,by show g≤_;omega⟩,⟨by show _≤(0:Int);decide,by show (0:Int)≤_;decide⟩⟩
theorem o96:ofL 96=some (0,1,3):=by kernel_rfl
theorem o85:ofL 85=some (2,0,0):=by kernel_rfl
end Go.Proofs.YtfflppedbopdpaaGreat
namespace Go.Proofs.YtfflppedbopdpaaGreat
open Go.RowKit Go.Mun
theorem A9Z {act:Fr→St→Int→List Nat→Res} {turn:Fr→St→Int→Res} {f:Fr} {S:St} (x:Int) (p q g:Nat) (hx:X8 f=x) (ho:ofL x=some ((p:Int),(q:Int),(g:Int))) (hl:p≤f.stack.length∧f.stack.length - p+q≤1024) (hm:f.m.static=false) (hg:f.gas < g) :
  ∃ f',V5 act turn f S = .stop 11 f' S:=by
 unfold V5
 rw [hx,ho]
 simp only [Int.toNat_natCast]
 rw [if_neg (fun h=>h hl)]
 by_cases ht:128≤x∧x < 160
 ·rw [if_pos ht,if_neg (by omega)];exact ⟨_,rfl⟩
 ·rw [if_neg ht,if_neg (by rw [hm];simp),if_neg (by omega)];exact ⟨_,rfl⟩
theorem B0w {step:Fr→St→Res} {k x:Nat} {f f':Fr} {S S':St} (he:f.ended=false) (hn:f.next < f.code.length) (h:step f S = .stop x f' S') (hx:x≠0):U1 step (k+1) f S=some (x,f',S'):=by
 rw [U1,if_neg (by rw [he];simp;omega),h]
 exact if_neg hx
theorem A8O {pr:Fr→St→Int→Pri} {dor:Fr→St→Int→Res} {f:Fr} {S:St} (x:Int) (p q g:Nat) (hx:opR f=x) (ho:ofL x=some ((p:Int),(q:Int),(g:Int))) (hl:¬ ((f.stack.length:Int) < (p:Int)∨1024 < (f.stack.length:Int) - (p:Int)+(q:Int))) (hm:f.m.static=false) (hp:pr f S x = .more 0 f) (hg:f.gas < g) :
  D7 pr dor f S = .stop 11 f S:=by
 unfold D7
 rw [hx,ho]
 simp only []
 rw [if_neg hl,if_neg (by rw [hm];simp),hp]
 simp only [Int.toNat_natCast]
 rw [if_neg (by omega),if_pos ⟨trivial,trivial,trivial⟩]
theorem B0u {step:Fr→St→Res} {k x:Nat} {f f':Fr} {S S':St} (he:f.ended=false) (h:step f S = .stop x f' S') (hx:x≠0):W9 step (k+1) f S=some (x,f',S'):=by
 rw [W9,if_neg (by rw [he];simp),h]
 exact if_neg hx
theorem A2s {pr:Fr→St→Int→Pri} {dor:Fr→St→Int→Res} {f f1 f2:Fr} {S S2:St} (x:Int) (p q g:Nat) (hx:opR f=x) (ho:ofL x=some ((p:Int),(q:Int),(g:Int))) (hl:¬ ((f.stack.length:Int) < (p:Int)∨1024 < (f.stack.length:Int) - (p:Int)+(q:Int))) (hm:f.m.static=false) (hp:pr f S x = .more 0 f) (hg:g≤f.gas)
  (hf1:f1={ f with gas:=f.gas - g }) (hd:dor f1 S x = .ok f2 S2) (hn:f2.next≠f.next):D7 pr dor f S = .ok f2 S2:=by
 subst hf1
 unfold D7
 rw [hx,ho]
 simp only []
 rw [if_neg hl,if_neg (by rw [hm];simp),hp]
 simp only [Int.toNat_natCast]
 rw [if_pos ⟨by omega,trivial,trivial,trivial⟩,Nat.sub_zero,hd]
 simp only []
 rw [if_neg hn]
def J0:V1:=[91,96,0,86]
theorem o91:ofL 91=some (0,0,1):=by kernel_rfl
theorem o86:ofL 86=some (1,0,8):=by kernel_rfl
theorem goE {f:Fr} {S:St} (h:f.code=J0):goJ f S 0 = .ok { f with next:=0 } S:=by
 unfold goJ
 rw [h,if_pos (by decide)]
theorem A68 (S:St):∀ k pc,∃ f',U1 M3 (3*k+3) ⟨C5 40000,J0,[],[],pc,0,12*k+4,[],[],[],false⟩ S=some (11,f',S)
 | 0,pc=>by
  have s1:M3 ⟨C5 40000,J0,[],[],pc,0,4,[],[],[],false⟩ S = .ok ⟨C5 40000,J0,[],[],0,1,3,[],[],[],false⟩ S:=
   (K5 91 0 0 1 0 rfl o91 rfl (by decide) (by decide) rfl (by decide) rfl rfl rfl rfl).trans rfl
  have s2:M3 ⟨C5 40000,J0,[],[],0,1,3,[],[],[],false⟩ S = .ok ⟨C5 40000,J0,[0],[],1,3,0,[],[],[],false⟩ S:=
   (K5 96 0 1 3 0 rfl o96 rfl (by decide) (by decide) rfl (by decide) rfl rfl rfl rfl).trans rfl
  obtain ⟨f',s3⟩:∃ f',M3 ⟨C5 40000,J0,[0],[],1,3,0,[],[],[],false⟩ S = .stop 11 f' S:=A9Z (act:=A9J) (turn:=turnL) (f:=⟨C5 40000,J0,[0],[],1,3,0,[],[],[],false⟩) (S:=S) 86 1 0 8 rfl o86 (by decide) rfl (by decide)
  refine ⟨f',?_⟩
  show U1 M3 3 _ S=_
  rw [J4 4 rfl (by decide) s1,J4 4 rfl (by decide) s2,B0w rfl (by decide) s3 (by decide)]
 | k+1,pc=>by
  obtain ⟨f',h⟩:=A68 S k 3
  refine ⟨f',?_⟩
  have s1:M3 ⟨C5 40000,J0,[],[],pc,0,12*(k+1)+4,[],[],[],false⟩ S = .ok ⟨C5 40000,J0,[],[],0,1,12*k+15,[],[],[],false⟩ S:=
   (K5 91 0 0 1 0 rfl o91 rfl (by decide) (by decide) rfl (by omega) rfl rfl (by omega) rfl).trans rfl
  have s2:M3 ⟨C5 40000,J0,[],[],0,1,12*k+15,[],[],[],false⟩ S = .ok ⟨C5 40000,J0,[0],[],1,3,12*k+12,[],[],[],false⟩ S:=
   (K5 96 0 1 3 0 rfl o96 rfl (by decide) (by decide) rfl (by omega) rfl rfl (by omega) rfl).trans rfl
  have s3:M3 ⟨C5 40000,J0,[0],[],1,3,12*k+12,[],[],[],false⟩ S = .ok ⟨C5 40000,J0,[],[],3,0,12*k+4,[],[],[],false⟩ S:=
   (K5 (st':=[]) (ts:=[0]) (gas':=12*k+4) (nx':=4) 86 1 0 8 1 rfl o86 rfl (by decide) (by decide) rfl (by omega) rfl rfl (by omega) rfl).trans (by
    show goJ ⟨C5 40000,J0,[],[],3,4,12*k+4,[],[],[],false⟩ S 0=_
    exact goE rfl)
  rw [show 3*(k+1)+3=(3*k+3)+1+1+1 by omega,J4 4 rfl (by decide) s1,J4 4 rfl (by decide) s2,J4 4 rfl (by decide) s3]
  exact h
theorem A67 (S:St):∀ k,∃ f',W9 (D7 U8 doL) (3*k+3) ⟨C5 40000,J0,[],[],0,0,12*k+4,[],[],[],false⟩ S=some (11,f',S)
 | 0=>by
  have s1:D7 U8 doL ⟨C5 40000,J0,[],[],0,0,4,[],[],[],false⟩ S = .ok ⟨C5 40000,J0,[],[],0,1,3,[],[],[],false⟩ S:=
   (J2 (f2:=⟨C5 40000,J0,[],[],0,0,3,[],[],[],false⟩) (gas':=3) 91 0 0 1 0 0 4 rfl (by decide) rfl o91 rfl (by decide) rfl rfl (by decide) rfl rfl rfl rfl (by decide))
  have s2:D7 U8 doL ⟨C5 40000,J0,[],[],0,1,3,[],[],[],false⟩ S = .ok ⟨C5 40000,J0,[0],[],0,3,0,[],[],[],false⟩ S:=
   (J2 (f2:=⟨C5 40000,J0,[0],[],0,1,0,[],[],[],false⟩) (gas':=0) 96 0 1 3 0 0 4 rfl (by decide) rfl o96 rfl (by decide) rfl rfl (by decide) rfl rfl rfl rfl (by decide))
  have s3:=A8O (pr:=U8) (dor:=doL) (f:=⟨C5 40000,J0,[0],[],0,3,0,[],[],[],false⟩) (S:=S) 86 1 0 8 rfl o86 (by decide) rfl rfl (by decide)
  refine ⟨⟨C5 40000,J0,[0],[],0,3,0,[],[],[],false⟩,?_⟩
  show W9 _ 3 _ S=_
  rw [J1 s1,J1 s2,B0u rfl s3 (by decide)]
 | k+1=>by
  obtain ⟨f',h⟩:=A67 S k
  refine ⟨f',?_⟩
  have s1:D7 U8 doL ⟨C5 40000,J0,[],[],0,0,12*(k+1)+4,[],[],[],false⟩ S = .ok ⟨C5 40000,J0,[],[],0,1,12*k+15,[],[],[],false⟩ S:=
   (J2 (f2:=⟨C5 40000,J0,[],[],0,0,12*k+15,[],[],[],false⟩) (gas':=12*k+15) 91 0 0 1 0 0 4 rfl (by decide) rfl o91 rfl (by decide) rfl rfl (by omega) (by omega) rfl rfl rfl (by decide))
  have s2:D7 U8 doL ⟨C5 40000,J0,[],[],0,1,12*k+15,[],[],[],false⟩ S = .ok ⟨C5 40000,J0,[0],[],0,3,12*k+12,[],[],[],false⟩ S:=
   (J2 (f2:=⟨C5 40000,J0,[0],[],0,1,12*k+12,[],[],[],false⟩) (gas':=12*k+12) 96 0 1 3 0 0 4 rfl (by decide) rfl o96 rfl (by decide) rfl rfl (by omega) (by omega) rfl rfl rfl (by decide))
  have s3:D7 U8 doL ⟨C5 40000,J0,[0],[],0,3,12*k+12,[],[],[],false⟩ S = .ok ⟨C5 40000,J0,[],[],0,0,12*k+4,[],[],[],false⟩ S:=
   A2s (f1:=⟨C5 40000,J0,[0],[],0,3,12*k+4,[],[],[],false⟩) 86 1 0 8 rfl o86 (by show ¬ (((1:Nat):Int) < ((1:Nat):Int)∨1024 < ((1:Nat):Int) - ((1:Nat):Int)+((0:Nat):Int));decide) rfl rfl (by show 8≤12*k+12;omega) (by congr 1)
    (by show goJ (A89 ⟨C5 40000,J0,[0],[],0,3,12*k+4,[],[],[],false⟩ 1) S 0=_;exact goE rfl) (by show (0:Nat)≠3;decide)
  rw [show 3*(k+1)+3=(3*k+3)+1+1+1 by omega,J1 s1,J1 s2,J1 s3]
  exact h
end Go.Proofs.YtfflppedbopdpaaGreat
namespace Go.Proofs.YtfflppedbopdpaaGreat
open Go.RowKit Go.Mun
def C0 (t:Int):V1:=[96,t,91,128,21,96,21,87,96,1,144,3,96,2,86,0,0,0,0,0,0,91,96,9,96,0,85]
theorem o0:ofL 0=some (0,0,0):=by kernel_rfl
theorem A7w {pr:Fr→St→Int→Pri} {dor:Fr→St→Int→Res} {f f1 f2:Fr} {S S2:St} (x:Int) (p q g:Nat) (hx:opR f=x) (ho:ofL x=some ((p:Int),(q:Int),(g:Int))) (hl:¬ ((f.stack.length:Int) < (p:Int)∨1024 < (f.stack.length:Int) - (p:Int)+(q:Int))) (hm:f.m.static=false) (hp:pr f S x = .more 0 f) (hg:g≤f.gas)
  (hf1:f1={ f with gas:=f.gas - g }) (hd:dor f1 S x = .ok f2 S2) (hn:f2.next=f.next) (hw:f.next+1+(K2 x).toNat≤2199023255552):D7 pr dor f S = .ok { f2 with next:=f.next+1+(K2 x).toNat } S2:=by
 subst hf1
 unfold D7
 rw [hx,ho]
 simp only []
 rw [if_neg hl,if_neg (by rw [hm];simp),hp]
 simp only [Int.toNat_natCast]
 rw [if_pos ⟨by omega,trivial,trivial,trivial⟩,Nat.sub_zero,hd]
 simp only []
 rw [if_pos hn,if_pos hw]
theorem B51:ofL 128=some (1,2,3):=by kernel_rfl
theorem B9l:ofL 144=some (2,2,3):=by kernel_rfl
theorem o21:ofL 21=some (1,1,3):=by kernel_rfl
theorem o87:ofL 87=some (2,0,10):=by kernel_rfl
theorem o3:ofL 3=some (2,1,3):=by kernel_rfl
theorem B0A (t:Int):jumps (C0 t) (C0 t).length 0 = [2,21]:=by kernel_rfl
theorem goL {t:Int} {f:Fr} {S:St} {k:Nat} (h:f.code=C0 t) (hk:(k:Int)∈([2,21]:List Int)):goJ f S k = .ok { f with next:=k } S:=by
 unfold goJ
 rw [h,B0A,if_pos hk]
theorem B1j {j:Nat} (hj:j < 256):(j+1+wW - 1) % wW=j:=by
 have:j+1+wW - 1=j+wW:=by omega
 rw [this,Nat.add_mod_right,Nat.mod_eq_of_lt (by unfold wW;omega)]
theorem B6Q (f:Fr) (S:St) (k:Nat):A9J f S 87 [k,1]=goJ f S k:=rfl
theorem B8w (f:Fr) (S:St) (k:Nat):A9J f S 86 [k]=goJ f S k:=rfl
theorem B8c {f:Fr} {S:St} {k:Nat} (h0:P3 f 0=k) (h1:P3 f 1=1):doL f S 87=goJ (A89 f 2) S k:=by
 show (if P3 f 1=0 then _ else goJ (A89 f 2) S (P3 f 0))=_
 rw [h1,h0];rfl
theorem B9E {f:Fr} {S:St} {k:Nat} (h0:P3 f 0=k):doL f S 86=goJ (A89 f 1) S k:=by
 show goJ (A89 f 1) S (P3 f 0)=_
 rw [h0]
theorem B1a (f:Fr) (S:St) (k x:Nat):A9J f S 85 [k,x]=X5 f S k x:=rfl
theorem A1F (y:Nat):beN [(y:Int)]=y:=by simp [beN]
theorem A0I {f:Fr} {S:St} (y:Nat) (h:f.pc+1+1≤f.code.length) (hl:f.stack.length < 1024) (hc:(f.code.drop (f.pc+1)).take 1 = [(y:Int)]):A9J f S 96 [] = .ok { f with stack:=f.stack++[y] } S:=by
 show B3x f S 96 []=_
 unfold B3x
 rw [if_pos (by decide),if_pos ⟨h,hl⟩]
 have e:A5z f ((96:Int) - 95).toNat=y:=by
  show beN ((f.code.drop (f.pc+1)).take 1)=y
  rw [hc,A1F]
 rw [e]
theorem A1t {f:Fr} {S:St} (y:Nat) (hc:A84 f 1=y):doL f S 96 = .ok { f with stack:=f.stack++[y] } S:=by
 show Res.ok { f with stack:=f.stack++[A84 f 1] } S=_
 rw [hc]
theorem C0V (t:Int) (S:St) (n pc:Nat):M3 ⟨C5 40000,C0 t,[0],[],pc,2,n+1,[],[],[],false⟩ S = .ok ⟨C5 40000,C0 t,[0],[],2,3,n,[],[],[],false⟩ S:=
 (K5 (st':=[0]) (ts:=[]) (gas':=n) (nx':=3) 91 0 0 1 1 rfl o91 rfl (by decide) (by decide) rfl (by omega) rfl rfl (by omega) rfl).trans rfl
theorem C0D (t:Int) (S:St) (n:Nat):D7 U8 doL ⟨C5 40000,C0 t,[0],[],0,2,n+1,[],[],[],false⟩ S = .ok ⟨C5 40000,C0 t,[0],[],0,3,n,[],[],[],false⟩ S:=
 J2 (f2:=⟨C5 40000,C0 t,[0],[],0,2,n,[],[],[],false⟩) (gas':=n) (nx':=3) 91 0 0 1 0 1 27 rfl (by decide) rfl o91 rfl (by decide) rfl (rfl) (by omega) (by omega) (rfl) rfl rfl (by decide)
theorem C0U (t:Int) (S:St) (n pc:Nat):M3 ⟨C5 40000,C0 t,[0],[],pc,3,n+3,[],[],[],false⟩ S = .ok ⟨C5 40000,C0 t,[0,0],[],3,4,n,[],[],[],false⟩ S:=
 (A3h (gas':=n) (nx':=4) 128 1 2 3 1 rfl B51 rfl (by decide) (by decide) (Nat.le_add_left _ _) (Nat.add_sub_cancel _ _) rfl).trans rfl
theorem C0C (t:Int) (S:St) (n:Nat):D7 U8 doL ⟨C5 40000,C0 t,[0],[],0,3,n+3,[],[],[],false⟩ S = .ok ⟨C5 40000,C0 t,[0,0],[],0,4,n,[],[],[],false⟩ S:=
 J2 (f2:=⟨C5 40000,C0 t,[0,0],[],0,3,n,[],[],[],false⟩) (gas':=n) (nx':=4) 128 1 2 3 0 1 27 rfl (by decide) rfl B51 rfl (by decide) rfl (rfl) (by omega) (by omega) (rfl) rfl rfl (by decide)
theorem C0T (t:Int) (S:St) (n pc:Nat):M3 ⟨C5 40000,C0 t,[0,0],[],pc,4,n+3,[],[],[],false⟩ S = .ok ⟨C5 40000,C0 t,[0,1],[],4,5,n,[],[],[],false⟩ S:=
 (K5 (st':=[0]) (ts:=[0]) (gas':=n) (nx':=5) 21 1 1 3 2 rfl o21 rfl (by decide) (by decide) rfl (by omega) rfl rfl (by omega) rfl).trans rfl
theorem C0B (t:Int) (S:St) (n:Nat):D7 U8 doL ⟨C5 40000,C0 t,[0,0],[],0,4,n+3,[],[],[],false⟩ S = .ok ⟨C5 40000,C0 t,[0,1],[],0,5,n,[],[],[],false⟩ S:=
 J2 (f2:=⟨C5 40000,C0 t,[0,1],[],0,4,n,[],[],[],false⟩) (gas':=n) (nx':=5) 21 1 1 3 0 2 27 rfl (by decide) rfl o21 rfl (by decide) rfl (rfl) (by omega) (by omega) (rfl) rfl rfl (by decide)
theorem C0S (t:Int) (S:St) (n pc:Nat):M3 ⟨C5 40000,C0 t,[0,1],[],pc,5,n+3,[],[],[],false⟩ S = .ok ⟨C5 40000,C0 t,[0,1,21],[],5,7,n,[],[],[],false⟩ S:=
 (K5 (st':=[0,1]) (ts:=[]) (gas':=n) (nx':=7) 96 0 1 3 2 rfl o96 rfl (by decide) (by decide) rfl (by omega) rfl rfl (by omega) rfl).trans (A0I (f:=⟨C5 40000,C0 t,[0,1],[],5,7,n,[],[],[],false⟩) (21) (by show 5+1+1≤27;decide) (by show 2 < 1024;decide) rfl)
theorem C0A (t:Int) (S:St) (n:Nat):D7 U8 doL ⟨C5 40000,C0 t,[0,1],[],0,5,n+3,[],[],[],false⟩ S = .ok ⟨C5 40000,C0 t,[0,1,21],[],0,7,n,[],[],[],false⟩ S:=
 J2 (f2:=⟨C5 40000,C0 t,[0,1,21],[],0,5,n,[],[],[],false⟩) (gas':=n) (nx':=7) 96 0 1 3 0 2 27 rfl (by decide) rfl o96 rfl (by decide) rfl (rfl) (by omega) (by omega) (A1t (f:=⟨C5 40000,C0 t,[0,1],[],0,5,n,[],[],[],false⟩) (21) (by show beN _=21;exact A1F (21))) rfl rfl (by decide)
theorem C0R (t:Int) (S:St) (n pc:Nat):M3 ⟨C5 40000,C0 t,[0,1,21],[],pc,7,n+10,[],[],[],false⟩ S = .ok ⟨C5 40000,C0 t,[0],[],7,21,n,[],[],[],false⟩ S:=
 (K5 (st':=[0]) (ts:=[21,1]) (gas':=n) (nx':=8) 87 2 0 10 3 rfl o87 rfl (by decide) (by decide) rfl (by omega) rfl rfl (by omega) rfl).trans ((B6Q _ _ _).trans (goL (k:=21) rfl (by decide)))
theorem C0z (t:Int) (S:St) (n:Nat):D7 U8 doL ⟨C5 40000,C0 t,[0,1,21],[],0,7,n+10,[],[],[],false⟩ S = .ok ⟨C5 40000,C0 t,[0],[],0,21,n,[],[],[],false⟩ S:=
 A2s (f1:=⟨C5 40000,C0 t,[0,1,21],[],0,7,n,[],[],[],false⟩) 87 2 0 10 rfl o87 (by show ¬ (((3:Nat):Int) < ((2:Nat):Int)∨1024 < ((3:Nat):Int) - ((2:Nat):Int)+((0:Nat):Int));decide) rfl rfl (Nat.le_add_left _ _) (by show _=Fr.mk _ _ _ _ _ _ (n+10 - 10) _ _ _ _;rw [Nat.add_sub_cancel])
  ((B8c (k:=21) rfl rfl).trans (goL (k:=21) rfl (by decide))) (by show (21:Nat)≠7;decide)
theorem C0Q (t:Int) (S:St) (n pc:Nat):M3 ⟨C5 40000,C0 t,[0],[],pc,21,n+1,[],[],[],false⟩ S = .ok ⟨C5 40000,C0 t,[0],[],21,22,n,[],[],[],false⟩ S:=
 (K5 (st':=[0]) (ts:=[]) (gas':=n) (nx':=22) 91 0 0 1 1 rfl o91 rfl (by decide) (by decide) rfl (by omega) rfl rfl (by omega) rfl).trans rfl
theorem C0y (t:Int) (S:St) (n:Nat):D7 U8 doL ⟨C5 40000,C0 t,[0],[],0,21,n+1,[],[],[],false⟩ S = .ok ⟨C5 40000,C0 t,[0],[],0,22,n,[],[],[],false⟩ S:=
 J2 (f2:=⟨C5 40000,C0 t,[0],[],0,21,n,[],[],[],false⟩) (gas':=n) (nx':=22) 91 0 0 1 0 1 27 rfl (by decide) rfl o91 rfl (by decide) rfl (rfl) (by omega) (by omega) (rfl) rfl rfl (by decide)
theorem C0P (t:Int) (S:St) (n pc:Nat):M3 ⟨C5 40000,C0 t,[0],[],pc,22,n+3,[],[],[],false⟩ S = .ok ⟨C5 40000,C0 t,[0,9],[],22,24,n,[],[],[],false⟩ S:=
 (K5 (st':=[0]) (ts:=[]) (gas':=n) (nx':=24) 96 0 1 3 1 rfl o96 rfl (by decide) (by decide) rfl (by omega) rfl rfl (by omega) rfl).trans (A0I (f:=⟨C5 40000,C0 t,[0],[],22,24,n,[],[],[],false⟩) (9) (by show 22+1+1≤27;decide) (by show 1 < 1024;decide) rfl)
theorem C0x (t:Int) (S:St) (n:Nat):D7 U8 doL ⟨C5 40000,C0 t,[0],[],0,22,n+3,[],[],[],false⟩ S = .ok ⟨C5 40000,C0 t,[0,9],[],0,24,n,[],[],[],false⟩ S:=
 J2 (f2:=⟨C5 40000,C0 t,[0,9],[],0,22,n,[],[],[],false⟩) (gas':=n) (nx':=24) 96 0 1 3 0 1 27 rfl (by decide) rfl o96 rfl (by decide) rfl (rfl) (by omega) (by omega) (A1t (f:=⟨C5 40000,C0 t,[0],[],0,22,n,[],[],[],false⟩) (9) (by show beN _=9;exact A1F (9))) rfl rfl (by decide)
theorem C0O (t:Int) (S:St) (n pc:Nat):M3 ⟨C5 40000,C0 t,[0,9],[],pc,24,n+3,[],[],[],false⟩ S = .ok ⟨C5 40000,C0 t,[0,9,0],[],24,26,n,[],[],[],false⟩ S:=
 (K5 (st':=[0,9]) (ts:=[]) (gas':=n) (nx':=26) 96 0 1 3 2 rfl o96 rfl (by decide) (by decide) rfl (by omega) rfl rfl (by omega) rfl).trans (A0I (f:=⟨C5 40000,C0 t,[0,9],[],24,26,n,[],[],[],false⟩) (0) (by show 24+1+1≤27;decide) (by show 2 < 1024;decide) rfl)
theorem C0w (t:Int) (S:St) (n:Nat):D7 U8 doL ⟨C5 40000,C0 t,[0,9],[],0,24,n+3,[],[],[],false⟩ S = .ok ⟨C5 40000,C0 t,[0,9,0],[],0,26,n,[],[],[],false⟩ S:=
 J2 (f2:=⟨C5 40000,C0 t,[0,9,0],[],0,24,n,[],[],[],false⟩) (gas':=n) (nx':=26) 96 0 1 3 0 2 27 rfl (by decide) rfl o96 rfl (by decide) rfl (rfl) (by omega) (by omega) (A1t (f:=⟨C5 40000,C0 t,[0,9],[],0,24,n,[],[],[],false⟩) (0) (by show beN _=0;exact A1F (0))) rfl rfl (by decide)
theorem C0N (t:Int) (S:St) (n pc:Nat) (hS:(S 1).slots 0=0):M3 ⟨C5 40000,C0 t,[0,9,0],[],pc,26,n+20000,[],[],[],false⟩ S = .ok ⟨C5 40000,C0 t,[0],[],26,27,n,[],[],[],false⟩ (S.setSlot 1 0 9):=
 (K5 (st':=[0]) (ts:=[0,9]) (gas':=(n+20000)) (nx':=27) 85 2 0 0 3 rfl o85 rfl (by decide) (by decide) rfl (by omega) rfl rfl (by omega) rfl).trans ((B1a _ _ _ _).trans (A8K 20000 (by show I4 ((S 1).slots 0) 9=_;rw [hS];rfl) (by omega) (by omega)))
theorem C0v (t:Int) (S:St) (n:Nat) (hS:(S 1).slots 0=0):D7 U8 doL ⟨C5 40000,C0 t,[0,9,0],[],0,26,n+20000,[],[],[],false⟩ S = .ok ⟨C5 40000,C0 t,[0],[],0,27,n,[],[],[],false⟩ (S.setSlot 1 0 9):=
 J2 (f2:=⟨C5 40000,C0 t,[0],[],0,26,n,[],[],[],false⟩) (gas':=n) (nx':=27) 85 2 0 0 20000 3 27 rfl (by decide) rfl o85 rfl (by decide) rfl (by show Pri.more (I4 ((S 1).slots 0) 9) _=_;rw [hS];rfl) (by omega) (by omega) (rfl) rfl rfl (by decide)
theorem C04 (t:Int) (S:St) (n pc:Nat) (j:Nat):M3 ⟨C5 40000,C0 t,[j+1],[],pc,2,n+1,[],[],[],false⟩ S = .ok ⟨C5 40000,C0 t,[j+1],[],2,3,n,[],[],[],false⟩ S:=
 (K5 (st':=[j+1]) (ts:=[]) (gas':=n) (nx':=3) 91 0 0 1 1 rfl o91 rfl (by decide) (by decide) rfl (by omega) rfl rfl (by omega) rfl).trans rfl
theorem C0M (t:Int) (S:St) (n:Nat) (j:Nat):D7 U8 doL ⟨C5 40000,C0 t,[j+1],[],0,2,n+1,[],[],[],false⟩ S = .ok ⟨C5 40000,C0 t,[j+1],[],0,3,n,[],[],[],false⟩ S:=
 J2 (f2:=⟨C5 40000,C0 t,[j+1],[],0,2,n,[],[],[],false⟩) (gas':=n) (nx':=3) 91 0 0 1 0 1 27 rfl (by decide) rfl o91 rfl (by decide) rfl (rfl) (by omega) (by omega) (rfl) rfl rfl (by decide)
theorem C03 (t:Int) (S:St) (n pc:Nat) (j:Nat):M3 ⟨C5 40000,C0 t,[j+1],[],pc,3,n+3,[],[],[],false⟩ S = .ok ⟨C5 40000,C0 t,[j+1,j+1],[],3,4,n,[],[],[],false⟩ S:=
 (A3h (gas':=n) (nx':=4) 128 1 2 3 1 rfl B51 rfl (by decide) (by decide) (Nat.le_add_left _ _) (Nat.add_sub_cancel _ _) rfl).trans rfl
theorem C0L (t:Int) (S:St) (n:Nat) (j:Nat):D7 U8 doL ⟨C5 40000,C0 t,[j+1],[],0,3,n+3,[],[],[],false⟩ S = .ok ⟨C5 40000,C0 t,[j+1,j+1],[],0,4,n,[],[],[],false⟩ S:=
 J2 (f2:=⟨C5 40000,C0 t,[j+1,j+1],[],0,3,n,[],[],[],false⟩) (gas':=n) (nx':=4) 128 1 2 3 0 1 27 rfl (by decide) rfl B51 rfl (by decide) rfl (rfl) (by omega) (by omega) (rfl) rfl rfl (by decide)
theorem C02 (t:Int) (S:St) (n pc:Nat) (j:Nat):M3 ⟨C5 40000,C0 t,[j+1,j+1],[],pc,4,n+3,[],[],[],false⟩ S = .ok ⟨C5 40000,C0 t,[j+1,0],[],4,5,n,[],[],[],false⟩ S:=
 (K5 (st':=[j+1]) (ts:=[j+1]) (gas':=n) (nx':=5) 21 1 1 3 2 rfl o21 rfl (by decide) (by decide) rfl (by omega) rfl rfl (by omega) rfl).trans (by
  show Res.ok ⟨C5 40000,C0 t,[j+1]++[if j+1=0 then 1 else 0],[],4,5,n,[],[],[],false⟩ S=_
  rw [if_neg (Nat.succ_ne_zero j)]
  rfl)
theorem C0K (t:Int) (S:St) (n:Nat) (j:Nat):D7 U8 doL ⟨C5 40000,C0 t,[j+1,j+1],[],0,4,n+3,[],[],[],false⟩ S = .ok ⟨C5 40000,C0 t,[j+1,0],[],0,5,n,[],[],[],false⟩ S:=
 J2 (f2:=⟨C5 40000,C0 t,[j+1,0],[],0,4,n,[],[],[],false⟩) (gas':=n) (nx':=5) 21 1 1 3 0 2 27 rfl (by decide) rfl o21 rfl (by decide) rfl (rfl) (by omega) (by omega) (by show Res.ok ⟨C5 40000,C0 t,[j+1]++[if j+1=0 then 1 else 0],[],0,4,n,[],[],[],false⟩ S=_;rw [if_neg (Nat.succ_ne_zero j)];rfl) rfl rfl (by decide)
theorem C01 (t:Int) (S:St) (n pc:Nat) (j:Nat):M3 ⟨C5 40000,C0 t,[j+1,0],[],pc,5,n+3,[],[],[],false⟩ S = .ok ⟨C5 40000,C0 t,[j+1,0,21],[],5,7,n,[],[],[],false⟩ S:=
 (K5 (st':=[j+1,0]) (ts:=[]) (gas':=n) (nx':=7) 96 0 1 3 2 rfl o96 rfl (by decide) (by decide) rfl (by omega) rfl rfl (by omega) rfl).trans (A0I (f:=⟨C5 40000,C0 t,[j+1,0],[],5,7,n,[],[],[],false⟩) (21) (by show 5+1+1≤27;decide) (by show 2 < 1024;decide) rfl)
theorem C0J (t:Int) (S:St) (n:Nat) (j:Nat):D7 U8 doL ⟨C5 40000,C0 t,[j+1,0],[],0,5,n+3,[],[],[],false⟩ S = .ok ⟨C5 40000,C0 t,[j+1,0,21],[],0,7,n,[],[],[],false⟩ S:=
 J2 (f2:=⟨C5 40000,C0 t,[j+1,0,21],[],0,5,n,[],[],[],false⟩) (gas':=n) (nx':=7) 96 0 1 3 0 2 27 rfl (by decide) rfl o96 rfl (by decide) rfl (rfl) (by omega) (by omega) (A1t (f:=⟨C5 40000,C0 t,[j+1,0],[],0,5,n,[],[],[],false⟩) (21) (by show beN _=21;exact A1F (21))) rfl rfl (by decide)
theorem C00 (t:Int) (S:St) (n pc:Nat) (j:Nat):M3 ⟨C5 40000,C0 t,[j+1,0,21],[],pc,7,n+10,[],[],[],false⟩ S = .ok ⟨C5 40000,C0 t,[j+1],[],7,8,n,[],[],[],false⟩ S:=
 (K5 (st':=[j+1]) (ts:=[21,0]) (gas':=n) (nx':=8) 87 2 0 10 3 rfl o87 rfl (by decide) (by decide) rfl (by omega) rfl rfl (by omega) rfl).trans rfl
theorem C0I (t:Int) (S:St) (n:Nat) (j:Nat):D7 U8 doL ⟨C5 40000,C0 t,[j+1,0,21],[],0,7,n+10,[],[],[],false⟩ S = .ok ⟨C5 40000,C0 t,[j+1],[],0,8,n,[],[],[],false⟩ S:=
 J2 (f2:=⟨C5 40000,C0 t,[j+1],[],0,7,n,[],[],[],false⟩) (gas':=n) (nx':=8) 87 2 0 10 0 3 27 rfl (by decide) rfl o87 rfl (by decide) rfl (rfl) (by omega) (by omega) (rfl) rfl rfl (by decide)
theorem C0Z (t:Int) (S:St) (n pc:Nat) (j:Nat):M3 ⟨C5 40000,C0 t,[j+1],[],pc,8,n+3,[],[],[],false⟩ S = .ok ⟨C5 40000,C0 t,[j+1,1],[],8,10,n,[],[],[],false⟩ S:=
 (K5 (st':=[j+1]) (ts:=[]) (gas':=n) (nx':=10) 96 0 1 3 1 rfl o96 rfl (by decide) (by decide) rfl (by omega) rfl rfl (by omega) rfl).trans (A0I (f:=⟨C5 40000,C0 t,[j+1],[],8,10,n,[],[],[],false⟩) (1) (by show 8+1+1≤27;decide) (by show 1 < 1024;decide) rfl)
theorem C0H (t:Int) (S:St) (n:Nat) (j:Nat):D7 U8 doL ⟨C5 40000,C0 t,[j+1],[],0,8,n+3,[],[],[],false⟩ S = .ok ⟨C5 40000,C0 t,[j+1,1],[],0,10,n,[],[],[],false⟩ S:=
 J2 (f2:=⟨C5 40000,C0 t,[j+1,1],[],0,8,n,[],[],[],false⟩) (gas':=n) (nx':=10) 96 0 1 3 0 1 27 rfl (by decide) rfl o96 rfl (by decide) rfl (rfl) (by omega) (by omega) (A1t (f:=⟨C5 40000,C0 t,[j+1],[],0,8,n,[],[],[],false⟩) (1) (by show beN _=1;exact A1F (1))) rfl rfl (by decide)
theorem C0Y (t:Int) (S:St) (n pc:Nat) (j:Nat):M3 ⟨C5 40000,C0 t,[j+1,1],[],pc,10,n+3,[],[],[],false⟩ S = .ok ⟨C5 40000,C0 t,[1,j+1],[],10,11,n,[],[],[],false⟩ S:=
 (A3h (gas':=n) (nx':=11) 144 2 2 3 2 rfl B9l rfl (by decide) (by decide) (Nat.le_add_left _ _) (Nat.add_sub_cancel _ _) rfl).trans rfl
theorem C0G (t:Int) (S:St) (n:Nat) (j:Nat):D7 U8 doL ⟨C5 40000,C0 t,[j+1,1],[],0,10,n+3,[],[],[],false⟩ S = .ok ⟨C5 40000,C0 t,[1,j+1],[],0,11,n,[],[],[],false⟩ S:=
 J2 (f2:=⟨C5 40000,C0 t,[1,j+1],[],0,10,n,[],[],[],false⟩) (gas':=n) (nx':=11) 144 2 2 3 0 2 27 rfl (by decide) rfl B9l rfl (by decide) rfl (rfl) (by omega) (by omega) (rfl) rfl rfl (by decide)
theorem C0X (t:Int) (S:St) (n pc:Nat) (j:Nat) (hj:j < 256):M3 ⟨C5 40000,C0 t,[1,j+1],[],pc,11,n+3,[],[],[],false⟩ S = .ok ⟨C5 40000,C0 t,[j],[],11,12,n,[],[],[],false⟩ S:=
 (K5 (st':=[]) (ts:=[j+1,1]) (gas':=n) (nx':=12) 3 2 1 3 2 rfl o3 rfl (by decide) (by decide) rfl (by omega) rfl rfl (by omega) rfl).trans (by
  show Res.ok ⟨C5 40000,C0 t,[]++[(j+1+wW - 1) % wW],[],11,12,n,[],[],[],false⟩ S=_
  rw [B1j hj]
  rfl)
theorem C0F (t:Int) (S:St) (n:Nat) (j:Nat) (hj:j < 256):D7 U8 doL ⟨C5 40000,C0 t,[1,j+1],[],0,11,n+3,[],[],[],false⟩ S = .ok ⟨C5 40000,C0 t,[j],[],0,12,n,[],[],[],false⟩ S:=
 J2 (f2:=⟨C5 40000,C0 t,[j],[],0,11,n,[],[],[],false⟩) (gas':=n) (nx':=12) 3 2 1 3 0 2 27 rfl (by decide) rfl o3 rfl (by decide) rfl (rfl) (by omega) (by omega) (by show Res.ok ⟨C5 40000,C0 t,[]++[(j+1+wW - 1) % wW],[],0,11,n,[],[],[],false⟩ S=_;rw [B1j hj];rfl) rfl rfl (by decide)
theorem C0W (t:Int) (S:St) (n pc:Nat) (j:Nat):M3 ⟨C5 40000,C0 t,[j],[],pc,12,n+3,[],[],[],false⟩ S = .ok ⟨C5 40000,C0 t,[j,2],[],12,14,n,[],[],[],false⟩ S:=
 (K5 (st':=[j]) (ts:=[]) (gas':=n) (nx':=14) 96 0 1 3 1 rfl o96 rfl (by decide) (by decide) rfl (by omega) rfl rfl (by omega) rfl).trans (A0I (f:=⟨C5 40000,C0 t,[j],[],12,14,n,[],[],[],false⟩) (2) (by show 12+1+1≤27;decide) (by show 1 < 1024;decide) rfl)
theorem C0E (t:Int) (S:St) (n:Nat) (j:Nat):D7 U8 doL ⟨C5 40000,C0 t,[j],[],0,12,n+3,[],[],[],false⟩ S = .ok ⟨C5 40000,C0 t,[j,2],[],0,14,n,[],[],[],false⟩ S:=
 J2 (f2:=⟨C5 40000,C0 t,[j,2],[],0,12,n,[],[],[],false⟩) (gas':=n) (nx':=14) 96 0 1 3 0 1 27 rfl (by decide) rfl o96 rfl (by decide) rfl (rfl) (by omega) (by omega) (A1t (f:=⟨C5 40000,C0 t,[j],[],0,12,n,[],[],[],false⟩) (2) (by show beN _=2;exact A1F (2))) rfl rfl (by decide)
theorem B9p (t:Int) (S:St) (n pc:Nat) (j:Nat):M3 ⟨C5 40000,C0 t,[j,2],[],pc,14,n+8,[],[],[],false⟩ S = .ok ⟨C5 40000,C0 t,[j],[],14,2,n,[],[],[],false⟩ S:=
 (K5 (st':=[j]) (ts:=[2]) (gas':=n) (nx':=15) 86 1 0 8 2 rfl o86 rfl (by decide) (by decide) rfl (by omega) rfl rfl (by omega) rfl).trans ((B8w _ _ _).trans (goL (k:=2) rfl (by decide)))
theorem B9o (t:Int) (S:St) (n:Nat) (j:Nat):D7 U8 doL ⟨C5 40000,C0 t,[j,2],[],0,14,n+8,[],[],[],false⟩ S = .ok ⟨C5 40000,C0 t,[j],[],0,2,n,[],[],[],false⟩ S:=
 A2s (f1:=⟨C5 40000,C0 t,[j,2],[],0,14,n,[],[],[],false⟩) 86 1 0 8 rfl o86 (by show ¬ (((2:Nat):Int) < ((1:Nat):Int)∨1024 < ((2:Nat):Int) - ((1:Nat):Int)+((0:Nat):Int));decide) rfl rfl (Nat.le_add_left _ _) (by show _=Fr.mk _ _ _ _ _ _ (n+8 - 8) _ _ _ _;rw [Nat.add_sub_cancel])
  ((B9E (k:=2) rfl).trans (goL (k:=2) rfl (by decide))) (by show (2:Nat)≠14;decide)
end Go.Proofs.YtfflppedbopdpaaGreat
namespace Go.Proofs.YtfflppedbopdpaaGreat
open Go.RowKit Go.Mun
theorem B6b (t:Int) (S:St) (hS:(S 1).slots 0=0) (n pc:Nat):∃ f',U1 M3 10 ⟨C5 40000,C0 t,[0],[],pc,2,n+20027,[],[],[],false⟩ S=some (0,f',S.setSlot 1 0 9)∧f'.gas=n∧f'.out = []∧f'.logs = []:=by
 refine ⟨⟨C5 40000,C0 t,[0],[],26,27,n,[],[],[],false⟩,?_,rfl,rfl,rfl⟩
 refine Eq.trans (J4 (k:=9) 27 rfl (by decide) (C0V t S (n+20026) pc)) ?_
 refine Eq.trans (J4 (k:=8) 27 rfl (by decide) (C0U t S (n+20023) 2)) ?_
 refine Eq.trans (J4 (k:=7) 27 rfl (by decide) (C0T t S (n+20020) 3)) ?_
 refine Eq.trans (J4 (k:=6) 27 rfl (by decide) (C0S t S (n+20017) 4)) ?_
 refine Eq.trans (J4 (k:=5) 27 rfl (by decide) (C0R t S (n+20007) 5)) ?_
 refine Eq.trans (J4 (k:=4) 27 rfl (by decide) (C0Q t S (n+20006) 7)) ?_
 refine Eq.trans (J4 (k:=3) 27 rfl (by decide) (C0P t S (n+20003) 21)) ?_
 refine Eq.trans (J4 (k:=2) 27 rfl (by decide) (C0O t S (n+20000) 22)) ?_
 refine Eq.trans (J4 (k:=1) 27 rfl (by decide) (C0N t S (n) 24 hS)) ?_
 rfl
theorem B6a (t:Int) (S:St) (hS:(S 1).slots 0=0) (n:Nat):∃ f',W9 (D7 U8 doL) 11 ⟨C5 40000,C0 t,[0],[],0,2,n+20027,[],[],[],false⟩ S=some (0,f',S.setSlot 1 0 9)∧f'.gas=n∧f'.out = []:=by
 have s10:D7 U8 doL ⟨C5 40000,C0 t,[0],[],0,27,n,[],[],[],false⟩ (S.setSlot 1 0 9) = .ok ⟨C5 40000,C0 t,[0],[],0,28,n,[],[],[],true⟩ (S.setSlot 1 0 9):=
   A7w (f1:=⟨C5 40000,C0 t,[0],[],0,27,n,[],[],[],false⟩) (f2:=⟨C5 40000,C0 t,[0],[],0,27,n,[],[],[],true⟩) 0 0 0 0 rfl o0 (by show ¬ (((1:Nat):Int) < ((0:Nat):Int)∨1024 < ((1:Nat):Int) - ((0:Nat):Int)+((0:Nat):Int));decide) rfl rfl (Nat.zero_le _) rfl rfl rfl (by show 27+1+(K2 0).toNat≤_;decide)
 refine ⟨⟨C5 40000,C0 t,[0],[],0,28,n,[],[],[],true⟩,?_,rfl,rfl⟩
 refine Eq.trans (J1 (k:=10) (C0D t S (n+20026))) ?_
 refine Eq.trans (J1 (k:=9) (C0C t S (n+20023))) ?_
 refine Eq.trans (J1 (k:=8) (C0B t S (n+20020))) ?_
 refine Eq.trans (J1 (k:=7) (C0A t S (n+20017))) ?_
 refine Eq.trans (J1 (k:=6) (C0z t S (n+20007))) ?_
 refine Eq.trans (J1 (k:=5) (C0y t S (n+20006))) ?_
 refine Eq.trans (J1 (k:=4) (C0x t S (n+20003))) ?_
 refine Eq.trans (J1 (k:=3) (C0w t S (n+20000))) ?_
 refine Eq.trans (J1 (k:=2) (C0v t S (n) hS)) ?_
 refine Eq.trans (J1 (k:=1) s10) ?_
 rfl
theorem B5G (t:Int) (S:St) (n j pc K:Nat) (hj:j < 256):U1 M3 (K+1+1+1+1+1+1+1+1+1+1) ⟨C5 40000,C0 t,[j+1],[],pc,2,n+40,[],[],[],false⟩ S=U1 M3 K ⟨C5 40000,C0 t,[j],[],14,2,n,[],[],[],false⟩ S:=by
 refine Eq.trans (J4 (k:=K+1+1+1+1+1+1+1+1+1) 27 rfl (by decide) (C04 t S (n+39) pc j)) ?_
 refine Eq.trans (J4 (k:=K+1+1+1+1+1+1+1+1) 27 rfl (by decide) (C03 t S (n+36) 2 j)) ?_
 refine Eq.trans (J4 (k:=K+1+1+1+1+1+1+1) 27 rfl (by decide) (C02 t S (n+33) 3 j)) ?_
 refine Eq.trans (J4 (k:=K+1+1+1+1+1+1) 27 rfl (by decide) (C01 t S (n+30) 4 j)) ?_
 refine Eq.trans (J4 (k:=K+1+1+1+1+1) 27 rfl (by decide) (C00 t S (n+20) 5 j)) ?_
 refine Eq.trans (J4 (k:=K+1+1+1+1) 27 rfl (by decide) (C0Z t S (n+17) 7 j)) ?_
 refine Eq.trans (J4 (k:=K+1+1+1) 27 rfl (by decide) (C0Y t S (n+14) 8 j)) ?_
 refine Eq.trans (J4 (k:=K+1+1) 27 rfl (by decide) (C0X t S (n+11) 10 j hj)) ?_
 refine Eq.trans (J4 (k:=K+1) 27 rfl (by decide) (C0W t S (n+8) 11 j)) ?_
 refine Eq.trans (J4 (k:=K) 27 rfl (by decide) (B9p t S (n) 12 j)) ?_
 rfl
theorem B4o (t:Int) (S:St) (hS:(S 1).slots 0=0) (r:Nat):∀ j pc,j < 256→∃ f',U1 M3 (10*j+10) ⟨C5 40000,C0 t,[j],[],pc,2,40*j+20027+r,[],[],[],false⟩ S=some (0,f',S.setSlot 1 0 9)∧f'.gas=r∧f'.out = []∧f'.logs = []
 | 0,pc,_=>by
  rw [show 40*0+20027+r=r+20027 by omega]
  exact B6b t S hS r pc
 | j+1,pc,hj1=>by
  obtain ⟨f',h⟩:=B4o t S hS r j 14 (by omega)
  refine ⟨f',?_⟩
  rw [show 40*(j+1)+20027+r=40*j+20027+r+40 by omega,show 10*(j+1)+10=(10*j+10)+1+1+1+1+1+1+1+1+1+1 by omega,B5G t S _ j pc _ (by omega)]
  exact h
theorem B5F (t:Int) (S:St) (n j K:Nat) (hj:j < 256):W9 (D7 U8 doL) (K+1+1+1+1+1+1+1+1+1+1) ⟨C5 40000,C0 t,[j+1],[],0,2,n+40,[],[],[],false⟩ S=W9 (D7 U8 doL) K ⟨C5 40000,C0 t,[j],[],0,2,n,[],[],[],false⟩ S:=by
 refine Eq.trans (J1 (k:=K+1+1+1+1+1+1+1+1+1) (C0M t S (n+39) j)) ?_
 refine Eq.trans (J1 (k:=K+1+1+1+1+1+1+1+1) (C0L t S (n+36) j)) ?_
 refine Eq.trans (J1 (k:=K+1+1+1+1+1+1+1) (C0K t S (n+33) j)) ?_
 refine Eq.trans (J1 (k:=K+1+1+1+1+1+1) (C0J t S (n+30) j)) ?_
 refine Eq.trans (J1 (k:=K+1+1+1+1+1) (C0I t S (n+20) j)) ?_
 refine Eq.trans (J1 (k:=K+1+1+1+1) (C0H t S (n+17) j)) ?_
 refine Eq.trans (J1 (k:=K+1+1+1) (C0G t S (n+14) j)) ?_
 refine Eq.trans (J1 (k:=K+1+1) (C0F t S (n+11) j hj)) ?_
 refine Eq.trans (J1 (k:=K+1) (C0E t S (n+8) j)) ?_
 refine Eq.trans (J1 (k:=K) (B9o t S (n) j)) ?_
 rfl
theorem B4n (t:Int) (S:St) (hS:(S 1).slots 0=0) (r:Nat):∀ j,j < 256→∃ f',W9 (D7 U8 doL) (10*j+11) ⟨C5 40000,C0 t,[j],[],0,2,40*j+20027+r,[],[],[],false⟩ S=some (0,f',S.setSlot 1 0 9)∧f'.gas=r∧f'.out = []
 | 0,_=>by
  rw [show 40*0+20027+r=r+20027 by omega]
  exact B6a t S hS r
 | j+1,hj1=>by
  obtain ⟨f',h⟩:=B4n t S hS r j (by omega)
  refine ⟨f',?_⟩
  rw [show 40*(j+1)+20027+r=40*j+20027+r+40 by omega,show 10*(j+1)+11=(10*j+11)+1+1+1+1+1+1+1+1+1+1 by omega,B5F t S _ j _ (by omega)]
  exact h
end Go.Proofs.YtfflppedbopdpaaGreat
namespace Go.Mun
open Go.RowKit

def V2 (T:UTy) (w:World) (own:Own) (sb mb:Nat) (uv mv:Value) (last:Nat) (E:List (Nat × Nat)) (u:Z5) (U:List Z5) (mk:List (Nat × Nat)) (S:St) (w':World):Prop:=
 ∃ E',StaCore T w' own sb mb uv mv last E' (u :: U) mk (A24 S u)∧A1q (fun a=>a∈E'.map Prod.fst) U∧(E'.map Prod.snd++M9 U).Nodup∧E'.length≤E.length∧T6 w w' own own
theorem A5K {U:List Z5} {u:Z5} {K:Nat→Prop} (hu:∀ a,u≠.all a none) (h:A1q K (u :: U)):K u.addr∧A1q K U:=by
 match u,hu,h with
 | .nonce _ _,_,h=>exact h
 | .bal _ _,_,h=>exact h
 | .code _ _ _,_,h=>exact h
 | .slot _ _ _,_,h=>exact h
 | .all a none,hu,_=>exact absurd rfl (hu a)
 | .all _ (some (_,_)),_,h=>exact h
theorem A2k {T:UTy} {w:World} {own:Own} {sb mb:Nat} {uv mv:Value} {last:Nat} {E:List (Nat × Nat)} {U:List Z5} {mk:List (Nat × Nat)} {S:St} {w2:World} {R:Nat→Prop} {p:Nat} {x:Acc} {u:Z5} (h:O3 T w own sb mb uv mv last E (u :: U) mk S) (hu:∀ a y,u≠.all a y) (hp:E6 u.addr E=some p) (ho:A2 R w w2) (hR:∀ b,R b→b=p∨own b=some (.smap p)) (hx:L6 w2 own p x) (hb:A24 S u=Z8 S u.addr x) :
  V2 T w own sb mb uv mv last E u U mk S w2:=by
 have hpU:M9 (u :: U)=M9 U:=A5v u U (fun a p x=>hu a _)
 have hlp:=(h.acc _ (K6 hp)).lab
 refine ⟨E,?_,(A5K (fun a=>hu a _) h.keys).2,by rw [← hpU];exact h.nodup,Nat.le_refl _,⟨fun _ _=>rfl,ho.mono fun b hb=>?_⟩⟩
 ·rw [hb]
  exact A7o h.toStaCore h.nodup h.map.nodup hp ho (fun b hb=>(hR b hb).elim .inl (fun e => .inr (.inl e))) hx
 ·rcases hR b hb with rfl | e
  ·rw [hlp];simp
  ·rw [e];simp
theorem V2.frm {T:UTy} {w:World} {own:Own} {sb mb:Nat} {uv mv:Value} {last:Nat} {E:List (Nat × Nat)} {U:List Z5} {mk:List (Nat × Nat)} {S:St} {w0 w2:World} {u:Z5} (h:V2 T w own sb mb uv mv last E u U mk S w2) (hb:Below w0.heap.size w0 w):V2 T w0 own sb mb uv mv last E u U mk S w2:=by
 obtain ⟨E',h1,h2,h3,h4,h5⟩:=h
 exact ⟨E',h1,h2,h3,h4,(T6.below own hb).trans h5⟩
theorem A3N {T:UTy} {w:World} {own:Own} {sb mb:Nat} {uv mv:Value} {last:Nat} {E:List (Nat × Nat)} {U:List Z5} {mk:List (Nat × Nat)} {S:St} {u:Z5} (h:O3 T w own sb mb uv mv last E (u :: U) mk S) (hu:∀ a,u≠.all a none):∃ p,E6 u.addr E=some p:=by
 have h1:=(A5K hu h.keys).1
 cases e:E6 u.addr E with
 | some p=>exact ⟨p,rfl⟩
 | none =>
  obtain ⟨q,hq,he⟩:=List.mem_map.1 h1
  exact absurd he (J6 e q hq)
end Go.Mun
namespace Go.Proofs.YtfflppedbopdpaaGreat
open Go.RowKit Go.Mun

theorem B7e:X0 Tryz.prog 292 21:=⟨⟨_,Tryz.underlying292,rfl⟩,by kernel_rfl⟩
section
variable (ρ:Operand→Value) (dst:Option Tmp) (x y z:Operand) (parts:List (Nat × Operand)) (t:TypeId) (pos:String) (after:Array Edge) (gd:Option (Nat × Bool)) (w:World)
theorem B8t:(execOp ρ ⟨dst,.alloc 292,t,pos,after,gd⟩).run Tryz.prog w = .ok (.value (.pointer (some ⟨w.heap.size,0,none⟩))) (w.alloc (.cells A58.toArray 292)):=P9 ρ dst t pos after gd w (fun _=>by kernel_rfl)
theorem B7w:(execOp ρ ⟨dst,.store 292 x y,t,pos,after,gd⟩).run Tryz.prog w=L1 (A0f Tryz.prog 292 21 (ρ x) (ρ y) w):=P8 ρ dst x y t pos after gd w B7e
theorem B7d:X0 Tryz.prog 324 52:=⟨⟨_,Tryz.underlying324,rfl⟩,by kernel_rfl⟩
theorem B8s:(execOp ρ ⟨dst,.alloc 324,t,pos,after,gd⟩).run Tryz.prog w = .ok (.value (.pointer (some ⟨w.heap.size,0,none⟩))) (w.alloc (.cells A4H.toArray 324)):=P9 ρ dst t pos after gd w (fun _=>by kernel_rfl)
theorem B7v:(execOp ρ ⟨dst,.store 324 x y,t,pos,after,gd⟩).run Tryz.prog w=L1 (A0f Tryz.prog 324 52 (ρ x) (ρ y) w):=P8 ρ dst x y t pos after gd w B7d
theorem B7c:X0 Tryz.prog 326 21:=⟨⟨_,Tryz.underlying326,rfl⟩,by kernel_rfl⟩
theorem B8r:(execOp ρ ⟨dst,.alloc 326,t,pos,after,gd⟩).run Tryz.prog w = .ok (.value (.pointer (some ⟨w.heap.size,0,none⟩))) (w.alloc (.cells A8j.toArray 326)):=P9 ρ dst t pos after gd w (fun _=>by kernel_rfl)
theorem B7u:(execOp ρ ⟨dst,.store 326 x y,t,pos,after,gd⟩).run Tryz.prog w=L1 (A0f Tryz.prog 326 21 (ρ x) (ρ y) w):=P8 ρ dst x y t pos after gd w B7c
theorem B7g:X0 Tryz.prog 286 84:=⟨⟨_,Tryz.underlying286,rfl⟩,by kernel_rfl⟩
theorem B8v:(execOp ρ ⟨dst,.alloc 286,t,pos,after,gd⟩).run Tryz.prog w = .ok (.value (.pointer (some ⟨w.heap.size,0,none⟩))) (w.alloc (.cells A59.toArray 286)):=P9 ρ dst t pos after gd w (fun _=>by kernel_rfl)
theorem B7y:(execOp ρ ⟨dst,.store 286 x y,t,pos,after,gd⟩).run Tryz.prog w=L1 (A0f Tryz.prog 286 84 (ρ x) (ρ y) w):=P8 ρ dst x y t pos after gd w B7g
theorem B7f:X0 Tryz.prog 290 21:=⟨⟨_,Tryz.underlying290,rfl⟩,by kernel_rfl⟩
theorem B8u:(execOp ρ ⟨dst,.alloc 290,t,pos,after,gd⟩).run Tryz.prog w = .ok (.value (.pointer (some ⟨w.heap.size,0,none⟩))) (w.alloc (.cells A9U.toArray 290)):=P9 ρ dst t pos after gd w (fun _=>by kernel_rfl)
theorem B7x:(execOp ρ ⟨dst,.store 290 x y,t,pos,after,gd⟩).run Tryz.prog w=L1 (A0f Tryz.prog 290 21 (ρ x) (ρ y) w):=P8 ρ dst x y t pos after gd w B7f
end
attribute [go_sem ↓] B8t B7w B8s B7v B8r B7u B8v B7y B8u B7x
theorem A9W {a m:Nat}:P0 21 (A3 20 a++[Value.int .i64 m])=true:=A0q (by simp) (fun v hv=>by
 simp only [List.mem_append,List.mem_cons,List.not_mem_nil,or_false] at hv
 rcases hv with hv | rfl
 ·exact M8 (C7 20 a) v hv
 ·rfl)
theorem B3E {a m:Nat}:P0 52 (A3 20 a++A3 32 m)=true:=A0q (by simp) (fun v hv=>by
 simp only [List.mem_append,List.mem_cons,List.not_mem_nil,or_false] at hv
 rcases hv with hv | hv
 ·exact M8 (C7 20 a) v hv
 ·exact M8 (C7 32 m) v hv)
theorem B2l {a:Nat} {cv:Value} (h:cv.oneCell'=true):P0 21 (A3 20 a++[cv])=true:=A0q (by simp) (fun v hv=>by
 simp only [List.mem_append,List.mem_cons,List.not_mem_nil,or_false] at hv
 rcases hv with hv | rfl
 ·exact M8 (C7 20 a) v hv
 ·exact h)
theorem B2k {a k x:Nat}:P0 84 (A3 20 a++(A3 32 k++A3 32 x))=true:=A0q (by simp) (fun v hv=>by
 simp only [List.mem_append,List.mem_cons,List.not_mem_nil,or_false] at hv
 rcases hv with hv | hv | hv
 ·exact M8 (C7 20 a) v hv
 ·exact M8 (C7 32 k) v hv
 ·exact M8 (C7 32 x) v hv)
theorem A8q {a:Nat} {q:Option Addr}:P0 21 (A3 20 a++[Value.pointer q])=true:=A0q (by simp) (fun v hv=>by
 simp only [List.mem_append,List.mem_cons,List.not_mem_nil,or_false] at hv
 rcases hv with hv | rfl
 ·exact M8 (C7 20 a) v hv
 ·rfl)
theorem A1O {w:World} {b n m:Nat} {A B:List Value} (h:w.row? b 0 n=some (A++B)) (hA:A.length=m):w.row? b 0 m=some A:=by
 have h1:A++B=B7 [A,B]:=by simp [B7]
 rw [h1] at h
 exact J5 h (i:=0) rfl (by simp [A5]) hA.symm
theorem A1N {w:World} {b n m k:Nat} {A B:List Value} (h:w.row? b 0 n=some (A++B)) (hA:A.length=m) (hB:B.length=k):w.row? b m k=some B:=by
 have h1:A++B=B7 [A,B]:=by simp [B7]
 rw [h1] at h
 exact J5 h (i:=1) rfl (by simp [A7,A5,hA]) hB.symm
theorem A8a {w:World} {own:Go.Mun.Own} {p m:Nat} {x:Acc} (hx:L6 w own p x) (hm:m≤9223372036854775807):A2 (· = p) w (w.setCell ⟨p,0,none⟩ (.int .i64 m))∧L6 (w.setCell ⟨p,0,none⟩ (.int .i64 m)) own p { x with nonce:=m }:=by
 obtain ⟨cv,q,sl,h1,h2,h3,h4,h5⟩:=hx.cells
 have hpl:=hx.lab
 have ho:A2 (· = p) w (w.setCell ⟨p,0,none⟩ (.int .i64 m)):=(A2.refl (· = p) w).setCell (p:=⟨p,0,none⟩) (fun _=>rfl) _
 have hqp:¬ q=p:=fun e=>by rw [e,hpl] at h3;cases h3
 refine ⟨ho,hpl,by rw [D0];exact hx.free,⟨cv,q,sl,?_,h2.only ho (fun b hb=>by rw [hb,hpl];simp),h3,h4.only ho hqp,h5⟩,hm,hx.bal⟩
 rw [G9 _ h1 (Nat.zero_le _) (by omega),Nat.sub_zero,A0a _ _ _ (by rw [V8];omega)];rfl
theorem A9K {w:World} {own:Go.Mun.Own} {p:Nat} {x:Acc} {cv:Value} {l:V1} (hx:L6 w own p x) (hc:Q2 w own cv l):A2 (· = p) w (w.setCell ⟨p,33,none⟩ cv)∧L6 (w.setCell ⟨p,33,none⟩ cv) own p { x with code:=l }:=by
 obtain ⟨cv0,q,sl,h1,h2,h3,h4,h5⟩:=hx.cells
 have hpl:=hx.lab
 have ho:A2 (· = p) w (w.setCell ⟨p,33,none⟩ cv):=(A2.refl (· = p) w).setCell (p:=⟨p,33,none⟩) (fun _=>rfl) _
 have hqp:¬ q=p:=fun e=>by rw [e,hpl] at h3;cases h3
 refine ⟨ho,hpl,by rw [D0];exact hx.free,⟨cv,q,sl,?_,hc.only ho (fun b hb=>by rw [hb,hpl];simp),h3,h4.only ho hqp,h5⟩,hx.nonce,hx.bal⟩
 rw [G9 _ h1 (Nat.zero_le _) (by omega),Nat.sub_zero,A0a _ _ _ (by rw [V8];omega)]
 unfold Y3
 rw [List.set_cons_succ,List.set_append_right _ _ (by simp)]
 simp
theorem B1d {w:World} {own:Go.Mun.Own} {p m:Nat} {x:Acc} (hx:L6 w own p x) (hm:m < wW):A2 (· = p) w (w.setCells p 1 (A3 32 m))∧L6 (w.setCells p 1 (A3 32 m)) own p { x with bal:=m }:=by
 obtain ⟨cv,q,sl,h1,h2,h3,h4,h5⟩:=hx.cells
 have hpl:=hx.lab
 have ho:A2 (· = p) w (w.setCells p 1 (A3 32 m)):=A2.setCells (S:=(· = p)) (A2.refl _ _) (fun _=>rfl) _ _
 have hqp:¬ q=p:=fun e=>by rw [e,hpl] at h3;cases h3
 refine ⟨ho,hpl,by rw [World.free?_setCells'];exact hx.free,⟨cv,q,sl,?_,h2.only ho (fun b hb=>by rw [hb,hpl];simp),h3,h4.only ho hqp,h5⟩,hx.nonce,hm⟩
 rw [World.row?_setCells_in 1 _ h1 (Nat.zero_le _) (by simp)]
 exact congrArg some (B18 _ _ _ _ _)
theorem A6e {w:World} {own:Go.Mun.Own} {sb mb:Nat} {uv mv:Value} {last:Nat} {E:List (Nat × Nat)} {U:List Z5} {mk:List (Nat × Nat)} {S:St} (a m:Nat) (h:O3 TU w own sb mb uv mv last E (.nonce a m :: U) mk S) :
  Calls Tryz.prog 295 #[.pointer (some ⟨sb,0,none⟩),A0x TU (.nonce a m)] w fun e w'=>e = .returned (.tuple #[])∧V2 TU w own sb mb uv mv last E (.nonce a m) U mk S w':=by
 obtain ⟨p,hp0⟩:=A3N h (by simp)
 have hp:E6 a E=some p:=hp0
 clear hp0
 have hok:=h.und _ (List.mem_cons_self)
 have ha:a < wA:=hok.1
 obtain ⟨C,hC⟩:∃ C,C=A3 20 a++[Value.int .i64 m]:=⟨_,rfl⟩
 have lC:C.length=21:=by rw [hC];simp
 have kC:P0 21 C=true:=by rw [hC];exact A9W
 have hUV:A0x TU (.nonce a m) = .iface 292 (.agg C.toArray):=by rw [hC];rfl
 rw [hUV]
 have fb:=X9 w A58 292 21 A8k
 obtain ⟨B,hB⟩:∃ B,B=w.heap.size:=⟨_,rfl⟩
 obtain ⟨w1,e1⟩:∃ w1,w1=(w.alloc (.cells A58.toArray 292)).setCells w.heap.size 0 C:=⟨_,rfl⟩
 have hb1:Below w.heap.size w w1:=by rw [e1];exact ((Below.refl _ _).alloc (Nat.le_refl _) _).setCells (Nat.le_refl _) _ _
 have s1:O3 TU w1.drew own sb mb uv mv last E (.nonce a m :: U) mk S:=h.only (R:=fun _=>False) (A2.of_below_size hb1.drew) (fun _ h=>h.elim)
 have rC:w1.drew.row? B 0 21=some C:=by show w1.row? B 0 21=some C;rw [e1,hB];exact B8 C fb kC
 rw [hC] at rC
 have rA:=A1O rC (B0 20 a)
 have rB:=World.row?_cell (A1N rC (B0 20 a) (k:=1) rfl) (i:=0) (by omega)
 simp only [List.getElem_cons_zero,Nat.add_zero] at rB
 have hx:=s1.acc _ (K6 hp)
 have c0:=s1.cells.1
 have l1:=s1.map.look A1b Tryz.underlying90 (A0Y _) ha
 rw [hp] at l1
 have l1':(Instr.lookup 90 (.map (some mb)) (.agg (A3 20 a).toArray) false).run Tryz.prog w1.drew = .ok (.pointer (some ⟨p,0,none⟩)) w1.drew:=l1
 obtain ⟨hO,hA⟩:=A8a hx hok.2
 have fp:w1.drew.free? p 0 1=true:=World.free?_sub hx.free (by omega)
 have HF:Hid (V2 TU w1.drew own sb mb uv mv last E (.nonce a m) U mk S (w1.drew.setCell ⟨p,0,none⟩ (.int .i64 m))):=A2k s1 (by simp) hp hO (fun b hb => .inl hb) hA rfl
 have HC:=hid hC
 have HE:=hid e1
 have HB:=hid hB
 have HB1:=hid hb1
 have ta292:∀ w,(Instr.typeAssert (.iface 292 (.agg C.toArray)) 298 292 true).run Tryz.prog w = .ok (.tuple #[.agg C.toArray,.bool true]) w:=fun w=>by kernel_rfl
 clear hC e1 hB hb1 h hp ha s1 l1 hx rC hUV hO hA hok
 go_enter Tryz.func295,Tryz.ntmps295
 go_wp2_with fail
 rw [← HE.out]
 rw [← HB.out]
 go_still_tail 11,(by kernel_rfl)
 go_wp2
 go_end0
 exact ⟨rfl,HF.out.frm HB1.out.drew⟩
theorem A8A {w:World} {own:Go.Mun.Own} {sb mb:Nat} {uv mv:Value} {last:Nat} {E:List (Nat × Nat)} {U:List Z5} {mk:List (Nat × Nat)} {S:St} (a m:Nat) (h:O3 TU w own sb mb uv mv last E (.bal a m :: U) mk S) :
  Calls Tryz.prog 295 #[.pointer (some ⟨sb,0,none⟩),A0x TU (.bal a m)] w fun e w'=>e = .returned (.tuple #[])∧V2 TU w own sb mb uv mv last E (.bal a m) U mk S w':=by
 obtain ⟨p,hp0⟩:=A3N h (by simp)
 have hp:E6 a E=some p:=hp0
 clear hp0
 have hok:=h.und _ (List.mem_cons_self)
 have ha:a < wA:=hok.1
 obtain ⟨C,hC⟩:∃ C,C=A3 20 a++A3 32 m:=⟨_,rfl⟩
 have lC:C.length=52:=by rw [hC];simp
 have kC:P0 52 C=true:=by rw [hC];exact B3E
 have hUV:A0x TU (.bal a m) = .iface 324 (.agg C.toArray):=by rw [hC];rfl
 rw [hUV]
 have fb:=X9 w A4H 324 52 A42
 obtain ⟨B,hB⟩:∃ B,B=w.heap.size:=⟨_,rfl⟩
 obtain ⟨w1,e1⟩:∃ w1,w1=(w.alloc (.cells A4H.toArray 324)).setCells w.heap.size 0 C:=⟨_,rfl⟩
 have hb1:Below w.heap.size w w1:=by rw [e1];exact ((Below.refl _ _).alloc (Nat.le_refl _) _).setCells (Nat.le_refl _) _ _
 have s1:O3 TU w1.drew own sb mb uv mv last E (.bal a m :: U) mk S:=h.only (R:=fun _=>False) (A2.of_below_size hb1.drew) (fun _ h=>h.elim)
 have rC:w1.drew.row? B 0 52=some C:=by show w1.row? B 0 52=some C;rw [e1,hB];exact B8 C fb kC
 rw [hC] at rC
 have rA:=A1O rC (B0 20 a)
 have rB:=A1N rC (B0 20 a) (B0 32 m)
 have lm:=B0 32 m
 have km:=C7 32 m
 have hx:=s1.acc _ (K6 hp)
 have c0:=s1.cells.1
 have l1:=s1.map.look A1b Tryz.underlying90 (A0Y _) ha
 rw [hp] at l1
 have l1':(Instr.lookup 90 (.map (some mb)) (.agg (A3 20 a).toArray) false).run Tryz.prog w1.drew = .ok (.pointer (some ⟨p,0,none⟩)) w1.drew:=l1
 obtain ⟨hO,hA⟩:=B1d hx hok.2
 have fp:w1.drew.free? p 1 32=true:=World.free?_sub hx.free (by omega)
 have HF:Hid (V2 TU w1.drew own sb mb uv mv last E (.bal a m) U mk S (w1.drew.setCells p 1 (A3 32 m))):=A2k s1 (by simp) hp hO (fun b hb => .inl hb) hA rfl
 have HC:=hid hC
 have HE:=hid e1
 have HB:=hid hB
 have HB1:=hid hb1
 have ta292:∀ w,(Instr.typeAssert (.iface 324 (.agg C.toArray)) 298 292 true).run Tryz.prog w = .ok (.tuple #[.agg A58.toArray,.bool false]) w:=fun w=>by kernel_rfl
 have ta324:∀ w,(Instr.typeAssert (.iface 324 (.agg C.toArray)) 298 324 true).run Tryz.prog w = .ok (.tuple #[.agg C.toArray,.bool true]) w:=fun w=>by kernel_rfl
 clear hC e1 hB hb1 h hp ha s1 l1 hx rC hUV hO hA hok
 go_enter Tryz.func295,Tryz.ntmps295
 go_wp2_with fail
 rw [← HE.out]
 rw [← HB.out]
 go_still_tail 11,(by kernel_rfl)
 go_wp2
 go_end0
 exact ⟨rfl,HF.out.frm HB1.out.drew⟩
theorem A7r {w:World} {own:Go.Mun.Own} {sb mb:Nat} {uv mv:Value} {last:Nat} {E:List (Nat × Nat)} {U:List Z5} {mk:List (Nat × Nat)} {S:St} (a:Nat) (cv:Value) (l:V1) (h:O3 TU w own sb mb uv mv last E (.code a cv l :: U) mk S) :
  Calls Tryz.prog 295 #[.pointer (some ⟨sb,0,none⟩),A0x TU (.code a cv l)] w fun e w'=>e = .returned (.tuple #[])∧V2 TU w own sb mb uv mv last E (.code a cv l) U mk S w':=by
 obtain ⟨p,hp0⟩:=A3N h (by simp)
 have hp:E6 a E=some p:=hp0
 clear hp0
 have hok:=h.und _ (List.mem_cons_self)
 have ha:a < wA:=hok.1
 have hcv1:cv.oneCell'=true:=by obtain ⟨⟨aa,cc,hh,_⟩,_⟩:=hok.2;rw [hh];rfl
 obtain ⟨C,hC⟩:∃ C,C=A3 20 a++[cv]:=⟨_,rfl⟩
 have lC:C.length=21:=by rw [hC];simp
 have kC:P0 21 C=true:=by rw [hC];exact B2l hcv1
 have hUV:A0x TU (.code a cv l) = .iface 326 (.agg C.toArray):=by rw [hC];rfl
 rw [hUV]
 have fb:=X9 w A8j 326 21 A8i
 obtain ⟨B,hB⟩:∃ B,B=w.heap.size:=⟨_,rfl⟩
 obtain ⟨w1,e1⟩:∃ w1,w1=(w.alloc (.cells A8j.toArray 326)).setCells w.heap.size 0 C:=⟨_,rfl⟩
 have hb1:Below w.heap.size w w1:=by rw [e1];exact ((Below.refl _ _).alloc (Nat.le_refl _) _).setCells (Nat.le_refl _) _ _
 have s1:O3 TU w1.drew own sb mb uv mv last E (.code a cv l :: U) mk S:=h.only (R:=fun _=>False) (A2.of_below_size hb1.drew) (fun _ h=>h.elim)
 have rC:w1.drew.row? B 0 21=some C:=by show w1.row? B 0 21=some C;rw [e1,hB];exact B8 C fb kC
 rw [hC] at rC
 have rA:=A1O rC (B0 20 a)
 have rB:=World.row?_cell (A1N rC (B0 20 a) (k:=1) rfl) (i:=0) (by omega)
 simp only [List.getElem_cons_zero,Nat.add_zero] at rB
 have hx:=s1.acc _ (K6 hp)
 have c0:=s1.cells.1
 have l1:=s1.map.look A1b Tryz.underlying90 (A0Y _) ha
 rw [hp] at l1
 have l1':(Instr.lookup 90 (.map (some mb)) (.agg (A3 20 a).toArray) false).run Tryz.prog w1.drew = .ok (.pointer (some ⟨p,0,none⟩)) w1.drew:=l1
 have hok1:Q2 w1.drew own cv l:=hok.2.only (R:=fun _=>False) (A2.of_below_size hb1.drew) (fun _ h=>h.elim)
 obtain ⟨hO,hA⟩:=A9K hx hok1
 have fp:w1.drew.free? p 33 1=true:=World.free?_sub hx.free (by omega)
 have HF:Hid (V2 TU w1.drew own sb mb uv mv last E (.code a cv l) U mk S (w1.drew.setCell ⟨p,33,none⟩ cv)):=A2k s1 (by simp) hp hO (fun b hb => .inl hb) hA rfl
 have HC:=hid hC
 have HE:=hid e1
 have HB:=hid hB
 have HB1:=hid hb1
 have ta292:∀ w,(Instr.typeAssert (.iface 326 (.agg C.toArray)) 298 292 true).run Tryz.prog w = .ok (.tuple #[.agg A58.toArray,.bool false]) w:=fun w=>by kernel_rfl
 have ta324:∀ w,(Instr.typeAssert (.iface 326 (.agg C.toArray)) 298 324 true).run Tryz.prog w = .ok (.tuple #[.agg A4H.toArray,.bool false]) w:=fun w=>by kernel_rfl
 have ta326:∀ w,(Instr.typeAssert (.iface 326 (.agg C.toArray)) 298 326 true).run Tryz.prog w = .ok (.tuple #[.agg C.toArray,.bool true]) w:=fun w=>by kernel_rfl
 clear hC e1 hB hb1 h hp ha s1 l1 hx rC hUV hO hA hok hok1
 go_enter Tryz.func295,Tryz.ntmps295
 go_wp2_with fail
 rw [← HE.out]
 rw [← HB.out]
 go_still_tail 11,(by kernel_rfl)
 go_wp2
 go_end0
 exact ⟨rfl,HF.out.frm HB1.out.drew⟩
theorem A7p {w:World} {own:Go.Mun.Own} {sb mb:Nat} {uv mv:Value} {last:Nat} {E:List (Nat × Nat)} {U:List Z5} {mk:List (Nat × Nat)} {S:St} (a k x:Nat) (h:O3 TU w own sb mb uv mv last E (.slot a k x :: U) mk S) :
  Calls Tryz.prog 295 #[.pointer (some ⟨sb,0,none⟩),A0x TU (.slot a k x)] w fun e w'=>e = .returned (.tuple #[])∧V2 TU w own sb mb uv mv last E (.slot a k x) U mk S w':=by
 obtain ⟨p,hp0⟩:=A3N h (by simp)
 have hp:E6 a E=some p:=hp0
 clear hp0
 have hok:=h.und _ (List.mem_cons_self)
 have ha:a < wA:=hok.1
 obtain ⟨C,hC⟩:∃ C,C=A3 20 a++(A3 32 k++A3 32 x):=⟨_,rfl⟩
 have lC:C.length=84:=by rw [hC];simp
 have kC:P0 84 C=true:=by rw [hC];exact B2k
 have hUV:A0x TU (.slot a k x) = .iface 286 (.agg C.toArray):=by rw [hC];rfl
 rw [hUV]
 have fb:=X9 w A59 286 84 A44
 obtain ⟨B,hB⟩:∃ B,B=w.heap.size:=⟨_,rfl⟩
 obtain ⟨w1,e1⟩:∃ w1,w1=(w.alloc (.cells A59.toArray 286)).setCells w.heap.size 0 C:=⟨_,rfl⟩
 have hb1:Below w.heap.size w w1:=by rw [e1];exact ((Below.refl _ _).alloc (Nat.le_refl _) _).setCells (Nat.le_refl _) _ _
 have s1:O3 TU w1.drew own sb mb uv mv last E (.slot a k x :: U) mk S:=h.only (R:=fun _=>False) (A2.of_below_size hb1.drew) (fun _ h=>h.elim)
 have rC:w1.drew.row? B 0 84=some C:=by show w1.row? B 0 84=some C;rw [e1,hB];exact B8 C fb kC
 rw [hC] at rC
 have rA:=A1O rC (B0 20 a)
 have e3:A3 20 a++(A3 32 k++A3 32 x)=B7 [A3 20 a,A3 32 k,A3 32 x]:=by simp [B7]
 rw [e3] at rC
 have rK:w1.drew.row? B 20 32=some (A3 32 k):=J5 rC (i:=1) rfl (by simp [A7,A5]) (by simp)
 have rX:w1.drew.row? B 52 32=some (A3 32 x):=J5 rC (i:=2) rfl (by simp [A7,A5]) (by simp)
 have hx:=s1.acc _ (K6 hp)
 have c0:=s1.cells.1
 have l1:=s1.map.look A1b Tryz.underlying90 (A0Y _) ha
 rw [hp] at l1
 have l1':(Instr.lookup 90 (.map (some mb)) (.agg (A3 20 a).toArray) false).run Tryz.prog w1.drew = .ok (.pointer (some ⟨p,0,none⟩)) w1.drew:=l1
 have HAS:=hid (B17 hx k x hok.2.1 hok.2.2)
 have HS1:=hid s1
 have HP:=hid hp
 clear e3 hok
 have HC:=hid hC
 have HE:=hid e1
 have HB:=hid hB
 have HB1:=hid hb1
 have ta292:∀ w,(Instr.typeAssert (.iface 286 (.agg C.toArray)) 298 292 true).run Tryz.prog w = .ok (.tuple #[.agg A58.toArray,.bool false]) w:=fun w=>by kernel_rfl
 have ta324:∀ w,(Instr.typeAssert (.iface 286 (.agg C.toArray)) 298 324 true).run Tryz.prog w = .ok (.tuple #[.agg A4H.toArray,.bool false]) w:=fun w=>by kernel_rfl
 have ta326:∀ w,(Instr.typeAssert (.iface 286 (.agg C.toArray)) 298 326 true).run Tryz.prog w = .ok (.tuple #[.agg A8j.toArray,.bool false]) w:=fun w=>by kernel_rfl
 have ta286:∀ w,(Instr.typeAssert (.iface 286 (.agg C.toArray)) 298 286 true).run Tryz.prog w = .ok (.tuple #[.agg C.toArray,.bool true]) w:=fun w=>by kernel_rfl
 clear hC e1 hB hb1 h hp ha s1 l1 hx rC hUV 
 go_enter Tryz.func295,Tryz.ntmps295
 go_wp2_with fail
 rw [← HE.out]
 rw [← HB.out]
 go_still_tail 11,(by kernel_rfl)
 go_wp2_with fail
 refine HAS.out.mono ?_
 rintro e w3 ⟨rfl,hA,hO⟩
 have HF:Hid (V2 TU w1.drew own sb mb uv mv last E (.slot a k x) U mk S w3):=A2k HS1.out (by simp) HP.out hO (fun b hb => .inr hb) hA rfl
 clear hA hO
 go_wp2
 go_end0
 exact ⟨rfl,HF.out.frm HB1.out.drew⟩
end Go.Proofs.YtfflppedbopdpaaGreat
namespace Go.Mun
open Go.RowKit

def ptO:Option Nat→Value
 | none => .pointer none
 | some p=>ptV p
theorem E7.opt {w:World} {b:Nat} {E:List (Nat × Nat)} (h:E7 adV wA ptV w b E):E7 adV wA ptO w b (E.map fun p=>(p.1,some p.2)):=by
 obtain ⟨es,c,h1,h2,h3,h4⟩:=h
 refine ⟨es,c,h1,by rw [h2,List.map_map];rfl,fun p hp=>?_,h4⟩
 obtain ⟨q,hq,rfl⟩:=List.mem_map.1 hp
 exact h3 q hq
theorem E7.unopt {w:World} {b:Nat} {E:List (Nat × Nat)} (h:E7 adV wA ptO w b (E.map fun p=>(p.1,some p.2))):E7 adV wA ptV w b E:=by
 obtain ⟨es,c,h1,h2,h3,h4⟩:=h
 exact ⟨es,c,h1,by rw [h2,List.map_map];rfl,fun p hp=>h3 (p.1,some p.2) (List.mem_map.2 ⟨p,hp,rfl⟩),h4⟩
theorem A9y {β:Type} (a:Nat) (x:β):∀ L:List (Nat × β),A1u a (N0 a x L)=A1u a L
 | []=>by simp [N0,A1u]
 | (b,y) :: l=>by
  simp only [N0]
  split
  ·rename_i e
   simp [A1u,e]
  ·have ih:=A9y a x l
   unfold A1u at ih ⊢
   simp only [List.filter_cons,ih]
theorem B4J {β γ:Type} (a:Nat) (f:β→γ) (L:List (Nat × β)):A1u a (L.map fun p=>(p.1,f p.2))=(A1u a L).map fun p=>(p.1,f p.2):=by
 unfold A1u
 rw [List.filter_map]
 rfl
theorem B5r {T:UTy} {w:World} {own:Own} {sb mb:Nat} {uv mv:Value} {last:Nat} {E:List (Nat × Nat)} {U:List Z5} {mk:List (Nat × Nat)} {S:St} {w2:World} {a:Nat} (h:StaCore T w own sb mb uv mv last E U mk S) (hm:E7 adV wA ptV w2 mb (A1u a E)) (ho:A2 (fun b=>b=mb) w w2):StaCore T w2 own sb mb uv mv last (A1u a E) U mk (Z8 S a Acc.none):=by
 have hB:∀ b,b=mb→own b=none∨own b=some .st∨own b=some .undos∨own b=some .marks∨own b=some .amap:=fun b hb=>by rw [hb,h.mlab];simp
 have hno:∀ {b:Nat} {l:Lab},own b=some l→l≠.amap→¬ b=mb:=fun hb hl e=>by rw [e,h.mlab] at hb;cases hb;exact hl rfl
 have hlt:=World.row?_lt h.row
 have hsm:=hno h.lab (by simp)
 exact { h with
  row:=by rw [ho.row? hlt hsm];exact h.row
  free:=by rw [ho.free? hlt hsm];exact h.free
  map:=hm
  acc:=fun p hp=>by
   obtain ⟨h1,h2⟩:=List.mem_filter.1 hp
   rw [Y5 _ _ (by simpa using h2)]
   exact (h.acc p h1).but ho hB
  out:=fun b hb=>by
   by_cases e:b=a
   ·rw [e,A0Q]
   ·rw [Y5 _ _ e]
    rw [A9n,if_neg e] at hb
    exact h.out b hb
  urow:=A2.own h.urow ho fun g hg=>hno (h.ulab g hg) (by simp)
  und:=fun u hu=>(h.und u hu).but ho hB
  mrow:=A2.own h.mrow ho fun g hg=>hno (h.mklab g hg) (by simp)
  low:=fun b hb=>Nat.lt_of_lt_of_le (h.low b hb) ho.size }
theorem B07 {T:UTy} {w:World} {own:Own} {sb mb:Nat} {uv mv:Value} {last:Nat} {E:List (Nat × Nat)} {U:List Z5} {mk:List (Nat × Nat)} {S:St} {w2:World} {a q:Nat} {y:Acc} (h:O3 T w own sb mb uv mv last E (.all a (some (q,y)) :: U) mk S) (hm:E7 adV wA ptV w2 mb (N0 a q E)) (ho:A2 (fun b=>b=mb) w w2) :
  V2 T w own sb mb uv mv last E (.all a (some (q,y))) U mk S w2:=by
 have hk:a∈E.map Prod.fst∧A1q (fun b=>b∈E.map Prod.fst) U:=h.keys
 obtain ⟨p,hp⟩:∃ p,E6 a E=some p:=by
  cases e:E6 a E with
  | some p=>exact ⟨p,rfl⟩
  | none =>
   obtain ⟨r,hr,he⟩:=List.mem_map.1 hk.1
   exact absurd he (J6 e r hr)
 have hu:=h.und _ (List.mem_cons_self)
 have hB:∀ b,b=mb→own b=none∨own b=some .st∨own b=some .undos∨own b=some .marks∨own b=some .amap:=fun b hb=>by rw [hb,h.mlab];simp
 have hperm:=A6T (p2:=q) hp
 have hkE:∀ b,b∈E.map Prod.fst→b∈(N0 a q E).map Prod.fst:=fun b hb=>by
  cases e:E6 b (N0 a q E) with
  | some v=>exact List.mem_map.2 ⟨_,K6 e,rfl⟩
  | none =>
   rw [O8] at e
   split at e
   ·cases e
   ·obtain ⟨r,hr,rfl⟩:=List.mem_map.1 hb
    exact absurd rfl (J6 e r hr)
 refine ⟨N0 a q E,B3K h.toStaCore hm ho (fun _ _ h=>h) (fun b hb=>Nat.lt_of_lt_of_le (h.low b hb) ho.size) (hu.2.but ho hB),L3 U hkE hk.2,?_,?_,⟨fun _ _=>rfl,ho.mono fun b hb=>by rw [hb,h.mlab];simp⟩⟩
 ·have hn:=h.nodup
  have hbig:(((N0 a q E).map Prod.snd++[p])++M9 U).Nodup:=by
   refine ((hperm.append_right (M9 U)).nodup_iff).2 ?_
   show (q :: (E.map Prod.snd++M9 U)).Nodup
   exact (List.perm_middle.nodup_iff).1 hn
  exact hbig.sublist (List.Sublist.append_right (List.sublist_append_left _ _) _)
 ·have e1:=hperm.length_eq
  simp only [List.length_append,List.length_map,List.length_cons,List.length_nil] at e1
  omega
theorem A9H {T:UTy} {w:World} {own:Own} {sb mb:Nat} {uv mv:Value} {last:Nat} {E:List (Nat × Nat)} {U:List Z5} {mk:List (Nat × Nat)} {S:St} {w2:World} {a:Nat} (h:O3 T w own sb mb uv mv last E (.all a none :: U) mk S) (hm:E7 adV wA ptV w2 mb (A1u a E)) (ho:A2 (fun b=>b=mb) w w2) :
  V2 T w own sb mb uv mv last E (.all a none) U mk S w2:=by
 have hk:a∈E.map Prod.fst∧A1q (fun b=>b∈E.map Prod.fst∧b≠a) U:=h.keys
 refine ⟨A1u a E,B5r h.toStaCore hm ho,L3 U (fun b hb=>?_) hk.2,?_,List.length_filter_le _ _,⟨fun _ _=>rfl,ho.mono fun b hb=>by rw [hb,h.mlab];simp⟩⟩
 ·obtain ⟨r,hr,rfl⟩:=List.mem_map.1 hb.1
  exact List.mem_map.2 ⟨r,List.mem_filter.2 ⟨hr,by simpa using hb.2⟩,rfl⟩
 ·exact List.Nodup.sublist (List.Sublist.append_right (List.Sublist.map _ List.filter_sublist) _) h.nodup
end Go.Mun
namespace Go.Proofs.YtfflppedbopdpaaGreat
open Go.RowKit Go.Mun

theorem A8B {w:World} {own:Go.Mun.Own} {sb mb:Nat} {uv mv:Value} {last:Nat} {E:List (Nat × Nat)} {U:List Z5} {mk:List (Nat × Nat)} {S:St} (a q:Nat) (y:Acc) (h:O3 TU w own sb mb uv mv last E (.all a (some (q,y)) :: U) mk S) :
  Calls Tryz.prog 295 #[.pointer (some ⟨sb,0,none⟩),A0x TU (.all a (some (q,y)))] w fun e w'=>e = .returned (.tuple #[])∧V2 TU w own sb mb uv mv last E (.all a (some (q,y))) U mk S w':=by
 have hok:=h.und _ (List.mem_cons_self)
 have ha:a < wA:=hok.1
 obtain ⟨C,hC⟩:∃ C,C=A3 20 a++[Value.pointer (some ⟨q,0,none⟩)]:=⟨_,rfl⟩
 have lC:C.length=21:=by rw [hC];simp
 have kC:P0 21 C=true:=by rw [hC];exact A8q
 have hUV:A0x TU (.all a (some (q,y))) = .iface 290 (.agg C.toArray):=by rw [hC];rfl
 rw [hUV]
 have fb:=X9 w A9U 290 21 A43
 obtain ⟨B,hB⟩:∃ B,B=w.heap.size:=⟨_,rfl⟩
 obtain ⟨w1,e1⟩:∃ w1,w1=(w.alloc (.cells A9U.toArray 290)).setCells w.heap.size 0 C:=⟨_,rfl⟩
 have hb1:Below w.heap.size w w1:=by rw [e1];exact ((Below.refl _ _).alloc (Nat.le_refl _) _).setCells (Nat.le_refl _) _ _
 have s1:O3 TU w1.drew own sb mb uv mv last E (.all a (some (q,y)) :: U) mk S:=h.only (R:=fun _=>False) (A2.of_below_size hb1.drew) (fun _ h=>h.elim)
 have rC:w1.drew.row? B 0 21=some C:=by show w1.row? B 0 21=some C;rw [e1,hB];exact B8 C fb kC
 rw [hC] at rC
 have rA:=A1O rC (B0 20 a)
 have rB:=World.row?_cell (A1N rC (B0 20 a) (k:=1) rfl) (i:=0) (by omega)
 simp only [List.getElem_cons_zero,Nat.add_zero] at rB
 have c0:=s1.cells.1
 have HMB:Hid (¬ B=mb):=by show ¬ B=mb;intro e;have h1:=h.map.lt;rw [← e,hB] at h1;omega
 have HBL:=hid (World.row?_lt rA)
 have HSB:Hid (¬ sb=mb∧sb < w1.drew.heap.size):=⟨fun e=>(by have:=s1.lab;rw [e,s1.mlab] at this;cases this),World.row?_lt s1.row⟩
 have HM:=hid (E7.opt s1.map)
 have HMV:=hid s1.map
 have HA:=hid ha
 have HS1:=hid s1
 have HC:=hid hC
 have HE:=hid e1
 have HB:=hid hB
 have HB1:=hid hb1
 have HRA:=hid rA
 have HRB:=hid rB
 have HC0:=hid c0
 have ta292:∀ w,(Instr.typeAssert (.iface 290 (.agg C.toArray)) 298 292 true).run Tryz.prog w = .ok (.tuple #[.agg A58.toArray,.bool false]) w:=fun w=>by kernel_rfl
 have ta324:∀ w,(Instr.typeAssert (.iface 290 (.agg C.toArray)) 298 324 true).run Tryz.prog w = .ok (.tuple #[.agg A4H.toArray,.bool false]) w:=fun w=>by kernel_rfl
 have ta326:∀ w,(Instr.typeAssert (.iface 290 (.agg C.toArray)) 298 326 true).run Tryz.prog w = .ok (.tuple #[.agg A8j.toArray,.bool false]) w:=fun w=>by kernel_rfl
 have ta286:∀ w,(Instr.typeAssert (.iface 290 (.agg C.toArray)) 298 286 true).run Tryz.prog w = .ok (.tuple #[.agg A59.toArray,.bool false]) w:=fun w=>by kernel_rfl
 have ta290:∀ w,(Instr.typeAssert (.iface 290 (.agg C.toArray)) 298 290 true).run Tryz.prog w = .ok (.tuple #[.agg C.toArray,.bool true]) w:=fun w=>by kernel_rfl
 clear hC e1 hB hb1 h ha s1 rC hUV hok
 go_enter Tryz.func295,Tryz.ntmps295
 go_wp2_with fail
 rw [← HE.out]
 rw [← HB.out]
 go_still_tail 8,(by kernel_rfl)
 go_wp2_with (refine A3e rfl _ _ _ 90 rfl A1b Tryz.underlying90 HMV.out rfl (n:=a) rfl HA.out q rfl ?_)
 intro w3 hm3 ho3
 have rB3:w3.cell? ⟨B,20,none⟩=some (.pointer (some ⟨q,0,none⟩)):=by rw [ho3.cell? HBL.out HMB.out];exact HRB.out
 have HF:Hid (V2 TU w1.drew own sb mb uv mv last E (.all a (some (q,y))) U mk S w3):=B07 HS1.out hm3 ho3
 clear hm3 ho3
 go_wp2
 go_end0
 exact ⟨rfl,HF.out.frm HB1.out.drew⟩
theorem A7q {w:World} {own:Go.Mun.Own} {sb mb:Nat} {uv mv:Value} {last:Nat} {E:List (Nat × Nat)} {U:List Z5} {mk:List (Nat × Nat)} {S:St} (a:Nat) (h:O3 TU w own sb mb uv mv last E (.all a none :: U) mk S) :
  Calls Tryz.prog 295 #[.pointer (some ⟨sb,0,none⟩),A0x TU (.all a none)] w fun e w'=>e = .returned (.tuple #[])∧V2 TU w own sb mb uv mv last E (.all a none) U mk S w':=by
 have hok:=h.und _ (List.mem_cons_self)
 have ha:a < wA:=hok
 obtain ⟨C,hC⟩:∃ C,C=A3 20 a++[Value.pointer none]:=⟨_,rfl⟩
 have lC:C.length=21:=by rw [hC];simp
 have kC:P0 21 C=true:=by rw [hC];exact A8q
 have hUV:A0x TU (.all a none) = .iface 290 (.agg C.toArray):=by rw [hC];rfl
 rw [hUV]
 have fb:=X9 w A9U 290 21 A43
 obtain ⟨B,hB⟩:∃ B,B=w.heap.size:=⟨_,rfl⟩
 obtain ⟨w1,e1⟩:∃ w1,w1=(w.alloc (.cells A9U.toArray 290)).setCells w.heap.size 0 C:=⟨_,rfl⟩
 have hb1:Below w.heap.size w w1:=by rw [e1];exact ((Below.refl _ _).alloc (Nat.le_refl _) _).setCells (Nat.le_refl _) _ _
 have s1:O3 TU w1.drew own sb mb uv mv last E (.all a none :: U) mk S:=h.only (R:=fun _=>False) (A2.of_below_size hb1.drew) (fun _ h=>h.elim)
 have rC:w1.drew.row? B 0 21=some C:=by show w1.row? B 0 21=some C;rw [e1,hB];exact B8 C fb kC
 rw [hC] at rC
 have rA:=A1O rC (B0 20 a)
 have rB:=World.row?_cell (A1N rC (B0 20 a) (k:=1) rfl) (i:=0) (by omega)
 simp only [List.getElem_cons_zero,Nat.add_zero] at rB
 have c0:=s1.cells.1
 have HMB:Hid (¬ B=mb):=by show ¬ B=mb;intro e;have h1:=h.map.lt;rw [← e,hB] at h1;omega
 have HBL:=hid (World.row?_lt rA)
 have HSB:Hid (¬ sb=mb∧sb < w1.drew.heap.size):=⟨fun e=>(by have:=s1.lab;rw [e,s1.mlab] at this;cases this),World.row?_lt s1.row⟩
 have HM:=hid (E7.opt s1.map)
 have HMV:=hid s1.map
 have HA:=hid ha
 have HS1:=hid s1
 have HC:=hid hC
 have HE:=hid e1
 have HB:=hid hB
 have HB1:=hid hb1
 have HRA:=hid rA
 have HRB:=hid rB
 have HC0:=hid c0
 have ta292:∀ w,(Instr.typeAssert (.iface 290 (.agg C.toArray)) 298 292 true).run Tryz.prog w = .ok (.tuple #[.agg A58.toArray,.bool false]) w:=fun w=>by kernel_rfl
 have ta324:∀ w,(Instr.typeAssert (.iface 290 (.agg C.toArray)) 298 324 true).run Tryz.prog w = .ok (.tuple #[.agg A4H.toArray,.bool false]) w:=fun w=>by kernel_rfl
 have ta326:∀ w,(Instr.typeAssert (.iface 290 (.agg C.toArray)) 298 326 true).run Tryz.prog w = .ok (.tuple #[.agg A8j.toArray,.bool false]) w:=fun w=>by kernel_rfl
 have ta286:∀ w,(Instr.typeAssert (.iface 290 (.agg C.toArray)) 298 286 true).run Tryz.prog w = .ok (.tuple #[.agg A59.toArray,.bool false]) w:=fun w=>by kernel_rfl
 have ta290:∀ w,(Instr.typeAssert (.iface 290 (.agg C.toArray)) 298 290 true).run Tryz.prog w = .ok (.tuple #[.agg C.toArray,.bool true]) w:=fun w=>by kernel_rfl
 clear hC e1 hB hb1 h ha s1 rC hUV hok
 go_enter Tryz.func295,Tryz.ntmps295
 go_wp2_with fail
 rw [← HE.out]
 rw [← HB.out]
 go_still_tail 8,(by kernel_rfl)
 go_wp2_with (refine A3e rfl _ _ _ 90 rfl A1b Tryz.underlying90 HM.out rfl (n:=a) rfl HA.out Option.none rfl ?_)
 intro w3 hm3 ho3
 have rB3:w3.cell? ⟨B,20,none⟩=some (.pointer none):=by rw [ho3.cell? HBL.out HMB.out];exact HRB.out
 have HM3:=hid hm3
 have HO3:=hid ho3
 clear hm3 ho3
 go_wp2_with fail
 have rA4:w3.drew.row? B 0 20=some (A3 20 a):=by show w3.row? B 0 20=_;rw [HO3.out.row? HBL.out HMB.out];exact HRA.out
 have c04:w3.drew.cell? ⟨sb,0,none⟩=some (.map (some mb)):=by show w3.cell? _=_;rw [HO3.out.cell? HSB.out.2 HSB.out.1];exact HC0.out
 have HM4:Hid (E7 adV wA ptO w3.drew mb (N0 a Option.none (E.map fun p=>(p.1,some p.2)))):=HM3.out.of_block rfl
 go_still_tail 6,(by kernel_rfl)
 go_wp2_with (refine A45 rfl _ _ 90 rfl A1b Tryz.underlying90 HM4.out rfl (n:=a) rfl HA.out ?_)
 intro w5 hm5 ho5
 rw [A9y,B4J] at hm5
 have HF:Hid (V2 TU w1.drew own sb mb uv mv last E (.all a none) U mk S w5):=A9H HS1.out (E7.unopt hm5) ((HO3.out.drew).trans ho5 (fun i hi _=>hi))
 clear hm5 ho5
 go_wp2
 go_end0
 exact ⟨rfl,HF.out.frm HB1.out.drew⟩
theorem B3N {w:World} {own:Go.Mun.Own} {sb mb:Nat} {uv mv:Value} {last:Nat} {E:List (Nat × Nat)} {U:List Z5} {mk:List (Nat × Nat)} {S:St} (u:Z5) (h:O3 TU w own sb mb uv mv last E (u :: U) mk S) :
  Calls Tryz.prog 295 #[.pointer (some ⟨sb,0,none⟩),A0x TU u] w fun e w'=>e = .returned (.tuple #[])∧V2 TU w own sb mb uv mv last E u U mk S w':=by
 match u,h with
 | .nonce a m,h=>exact A6e a m h
 | .bal a m,h=>exact A8A a m h
 | .code a cv l,h=>exact A7r a cv l h
 | .slot a k x,h=>exact A7p a k x h
 | .all a (some (q,y)),h=>exact A8B a q y h
 | .all a none,h=>exact A7q a h
end Go.Proofs.YtfflppedbopdpaaGreat
