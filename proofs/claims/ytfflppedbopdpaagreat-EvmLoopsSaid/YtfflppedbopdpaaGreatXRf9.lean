/- A part of the proof of EvmLoops: XRf9. -/
import Derived.Test.YtfflppedbopdpaaGreatXRi2
import Derived.Test.YtfflppedbopdpaaGreatXEv9
import Derived.Test.YtfflppedbopdpaaGreatXEv12
import Derived.Test.YtfflppedbopdpaaGreatXRw0
import Derived.Test.YtfflppedbopdpaaGreatXRs10
import Derived.Test.YtfflppedbopdpaaGreatXEv16
set_option linter.unusedVariables false
set_option maxRecDepth 1000000
set_option maxHeartbeats 8000000
set_option linter.unusedSimpArgs false
namespace Go.Proofs.YtfflppedbopdpaaGreat
open Go.RowKit Go.Mun

def opR (f:Fr):Int:=if f.next < f.code.length then f.code[f.next]?.getD 0 else 0
inductive Pri
 | none
 | no
 | more (k:Nat) (f:Fr)
def D7 (pr:Fr→St→Int→Pri) (dor:Fr→St→Int→Res) (f:Fr) (S:St):Res:=
 match ofL (opR f) with
 | Option.none => .stop 12 f S
 | some (p,q,g) =>
  if (f.stack.length:Int) < p∨1024 < (f.stack.length:Int) - p+q then .stop 10 f S
  else if f.m.static=true then .none
  else match pr f S (opR f) with
   | .none => .none
   | .no => .stop 11 f S
   | .more k f1=>if g.toNat+k≤f1.gas∧f1.next=f.next∧f1.code=f.code∧f1.stack=f.stack then
     (match dor { f1 with gas:=f1.gas - g.toNat - k } S (opR f) with
      | .ok f2 S2=>if f2.next=f.next then (if f.next+1+(K2 (opR f)).toNat≤2199023255552 then .ok { f2 with next:=f.next+1+(K2 (opR f)).toNat } S2 else .none) else .ok f2 S2
      | r=>r)
    else if f1.next=f.next∧f1.code=f.code∧f1.stack=f.stack then .stop 11 f1 S else .none
def W9 (step:Fr→St→Res):Nat→Fr→St→Option (Nat × Fr × St)
 | 0,_,_=>none
 | k+1,f,S=>if f.ended=true then some (0,f,S) else match step f S with
  | .ok f' S'=>W9 step k f' S'
  | .stop x f' S'=>if x=0 then none else some (x,f',S')
  | .none=>none
def C1x (E:Q5) (w0:World) (own0:Go.Mun.Own) (c0:RFV) (S:St) (r:Pri) (e:Ending) (w:World):Prop:=
 match r with
 | .none=>True
 | .no=>(∃ x:Int,e = .returned (.tuple #[.int .i64 x,.bool false]))∧∃ own c f M n S',C9 E w own c f S' M n
 | .more k f=>e = .returned (.tuple #[.int .i64 (k:Int),.bool true])∧k≤1099511627776∧(∃ own c M n,C9 E w own c f S M n∧c.tl=K3 A0c∧c.jv=c0.jv)∧A2 (rmu own0 E.fb c0) w0 w
structure A9N (E:Q5) (pr:Fr→St→Int→Pri) (dor:Fr→St→Int→Res):Prop where
 price:∀ {w:World} {own:Go.Mun.Own} {c:RFV} {f:Fr} {S:St} {M:List (Nat × St)} {n:Nat},C9 E w own c f S M n→c.tl=K3 A0c→pr f S (opR f)≠.none→Calls Tryz.prog 178 #[.pointer (some ⟨E.fb,0,none⟩),.int .u8 (opR f)] w (C1x E w own c S (pr f S (opR f)))
 act:∀ {w:World} {own:Go.Mun.Own} {c:RFV} {f:Fr} {S:St} {M:List (Nat × St)} {n:Nat} {p q g:Int},C9 E w own c f S M n→c.tl=K3 A0c→c.jv≠.nilFunc→ofL (opR f)=some (p,q,g)→p≤f.stack.length→(f.stack.length:Int) - p+q≤1024→dor f S (opR f)≠.none→(∃ f0 f1 k,pr f0 S (opR f) = .more k f1∧n+f.gas+(g.toNat+k)≤E.N) →
  Calls Tryz.prog 179 #[.pointer (some ⟨E.fb,0,none⟩),.int .u8 (opR f),c.jv] w (RDo E c.jv (dor f S (opR f)))
theorem B4d {f f1:Fr} {x:Nat} (h1:f1.next=f.next) (h2:f1.code=f.code):opR { f1 with gas:=x }=opR f:=by
 show opR ⟨f1.m,f1.code,f1.stack,f1.mem,f1.pc,f1.next,x,f1.ret,f1.out,f1.logs,f1.ended⟩=opR f
 rw [h1,h2]
 rfl
theorem B2A {E:Q5} {w:World} {own:Go.Mun.Own} {c:RFV} {f:Fr} {S:St} {M:List (Nat × St)} {n x:Nat} (h:C9 E w own c { f with gas:=x } S M n):w.cell? ⟨E.fb,229,none⟩=some (.int .i64 (f.next:Int)):=by
 have h1:=A8U h.row
 exact h1
theorem A7J {E:Q5} {w:World} {own:Go.Mun.Own} {c:RFV} {f:Fr} {S:St} {M:List (Nat × St)} {n:Nat} (h:C9 E w own c f S M n):∃ m:Nat,m < 256∧opR f=(m:Int):=by
 unfold opR
 split
 ·rename_i hlt
  have:=h.code.byte (f.code[f.next]) (List.getElem_mem hlt)
  rw [List.getElem?_eq_getElem hlt,Option.getD_some]
  exact ⟨(f.code[f.next]).toNat,by omega,by omega⟩
 ·exact ⟨0,by decide,rfl⟩
theorem A7R (m:Nat) (hm:m < 256):∃ x,A0c[m]? = some x∧match ofL (m:Int) with
  | Option.none=>x.name = []
  | some (p,q,g)=>x.name≠[]∧x.pops=p∧x.pushes=q∧x.gas=g:=by
 have h:=List.all_eq_true.1 B6t m (List.mem_range.2 hm)
 have hl:m < A0c.length:=by rw [A3Q];exact hm
 rw [List.getElem?_eq_getElem hl] at h ⊢
 refine ⟨_,rfl,?_⟩
 simp only [Option.getD_some] at h
 cases e:ofL (m:Int) with
 | none=>rw [e] at h;exact of_decide_eq_true h
 | some t =>
  obtain ⟨p,q,g⟩:=t
  rw [e] at h
  simp only [Bool.and_eq_true,decide_eq_true_eq] at h
  exact ⟨h.1.1.1,h.1.1.2,h.1.2,h.2⟩
theorem C1j (W:World) (C:List Value) (h:P0 5 C=true):Below W.heap.size W ((W.alloc (.cells A1r.toArray 142)).setCells W.heap.size 0 C)∧((W.alloc (.cells A1r.toArray 142)).setCells W.heap.size 0 C).row? W.heap.size 0 5=some C∧(W.alloc (.cells A1r.toArray 142)).free? W.heap.size 0 5=true:=by
 have hf:(W.alloc (.cells A1r.toArray 142)).free? W.heap.size 0 5=true:=World.free?_alloc_at _ _ rfl (by rw [L2 A5N];decide)
 exact ⟨((Below.refl _ _).alloc (Nat.le_refl _) _).setCells (Nat.le_refl _) _ _,B8 C hf h,hf⟩
theorem B3I:(str []).toList.isEmpty=true:=by rw [ByteArray.toList_eq];rfl
theorem B3H {l:List UInt8} (h:l≠[]):(str l).toList.isEmpty=false:=by
 rw [ByteArray.toList_eq]
 cases l with
 | nil=>exact absurd rfl h
 | cons a l=>rfl
theorem B0B {w:World} {b:Nat} {x:Inf} (h:w.row? b 0 5=some x.c):w.cell? ⟨b,1,none⟩=some (.string (str x.name)):=by
 rw [show (1:Nat)=0+1 from rfl,World.row?_cell h (i:=1) (by decide)];unfold Inf.c;rfl
theorem B23 {w:World} {b:Nat} {x:Inf} (h:w.row? b 0 5=some x.c):w.cell? ⟨b,2,none⟩=some (.int .i64 x.pops):=by
 rw [show (2:Nat)=0+2 from rfl,World.row?_cell h (i:=2) (by decide)];unfold Inf.c;rfl
theorem B22 {w:World} {b:Nat} {x:Inf} (h:w.row? b 0 5=some x.c):w.cell? ⟨b,3,none⟩=some (.int .i64 x.pushes):=by
 rw [show (3:Nat)=0+3 from rfl,World.row?_cell h (i:=3) (by decide)];unfold Inf.c;rfl
theorem B21 {w:World} {b:Nat} {x:Inf} (h:w.row? b 0 5=some x.c):w.cell? ⟨b,4,none⟩=some (.int .i64 x.gas):=by
 rw [show (4:Nat)=0+4 from rfl,World.row?_cell h (i:=4) (by decide)];unfold Inf.c;rfl
attribute [local irreducible] wpStill Inf.c A1r K3
def C1w (E:Q5) (x:Nat) (f:Fr) (S:St) (e:Ending) (w:World):Prop:=
 e = .returned (.int .i64 (x:Int))∧∃ own c M n f' S',C9 E w own c f' S' M n∧(x=0→f'=f∧S'=S)∧(x=15→f'.gas=f.gas∧f'.out=f.out)
theorem B7G {E:Q5} {w:World} {own:Go.Mun.Own} {c:RFV} {f f':Fr} {S S':St} {M:List (Nat × St)} {n K x:Nat} {pr:Fr→St→Int→Pri} {dor:Fr→St→Int→Res} (hT:A9N E pr dor) (h:C9 E w own c f S M n) (hl:W9 (D7 pr dor) K f S=some (x,f',S')) :
  Calls Tryz.prog 71 #[.pointer (some ⟨E.fb,0,none⟩)] w (C1w E x f' S'):=by
 obtain ⟨⟨ca,cc,hcv,hci,_⟩,hcb,hcl⟩:=h.code
 have c193:=A7z h.row
 rw [hcv] at c193
 have HJ:=hid (B2H ca cc f.code w hci (fun i hi=>by have:=hcb (f.code[i]) (List.getElem_mem hi);rw [List.getElem?_eq_getElem hi,Option.getD_some];omega) hcl)
 have H:=hid h
 have HT:=hid hT
 have HL:=hid hl
 clear h hT hl hcv hci hcb hcl
 go_enter Tryz.func71,Tryz.ntmps71
 go_wp2_with fail
 refine HJ.out.mono ?_
 rintro e w1 ⟨jv,rfl,hj,hb1⟩
 have h1:=H.out.jumps hb1 hj
 have HJN:Hid (jv≠.nilFunc):=by
  obtain ⟨ja,jc,e⟩:=E1 hj
  show _≠_
  rw [e];simp
 have H1:=hid h1
 clear hj hb1 h1 c193
 go_wp2_with fail
 refine (B5L _).mono ?_
 rintro e w2 ⟨rfl,hb2⟩
 have h2:=H1.out.below hb2
 have hf2:=World.free?_sub h2.free (o':=236) (n':=1280) (by omega)
 have hok2:P0 1280 (K3 A0c)=true:=by
  have:=A9i A0c
  rw [A3Q] at this
  exact this
 have h3:=h2.table (K3 A0c) (by rw [A1W,A3Q])
 have H3:=hid h3
 clear hb2 h2 h3
 obtain ⟨I,hI⟩:∃ I,I=K3 A0c:=⟨_,rfl⟩
 have HI:=hid hI
 rw [← hI] at H3 hok2 ⊢
 clear hI
 go_wp2_with fail
 go_loopg [] K (fun k wr => ∃ own c f S M n,C9 E wr own c f S M n∧c.tl=K3 A0c∧c.jv=jv∧W9 (D7 pr dor) k f S=some (x,f',S'))
 case atStart=>exact ⟨_,_,f,S,M,n,H3.out,HI.out,rfl,HL.out⟩
 case round =>
  obtain ⟨own,c,f,S,M,n,h,htl,hjv,hl⟩:=hrel
  have c235:=B3X h.row
  have HTL:=hid htl
  have HJV:=hid hjv
  have HL:=hid hl
  have H:=hid h
  clear h htl hjv hl
  cases hen:f.ended with
  | true =>
   rw [hen] at c235
   have HE:Hid (x=0∧f'=f∧S'=S):=by
    have h:=HL.out
    cases gk with
    | zero=>simp [W9] at h
    | succ k =>
     rw [W9,if_pos hen] at h
     simp only [Option.some.injEq,Prod.mk.injEq] at h
     exact ⟨h.1.symm,h.2.1.symm,h.2.2.symm⟩
   go_wp2
   go_ret
   obtain ⟨rfl,rfl,rfl⟩:=HE.out
   exact ⟨rfl,own,c,M,n,f',S',H.out,fun _=>⟨rfl,rfl⟩,fun e=>by cases e⟩
  | false =>
   rw [hen] at c235
   obtain ⟨⟨ca,cc,hcv,hci,_⟩,_,_⟩:=H.out.code
   have q193:wr.drew.cell? ⟨E.fb,193,none⟩=some (.slice ca f.code.length cc):=by rw [← hcv];exact A7z H.out.row
   have q229:wr.drew.cell? ⟨E.fb,229,none⟩=some (.int .i64 (f.next:Int)):=A8U H.out.row
   have HCI:=hid hci
   obtain ⟨cl,hcln⟩:∃ cl,cl=f.code.length:=⟨_,rfl⟩
   obtain ⟨pc,hpc⟩:∃ pc,pc=f.next:=⟨_,rfl⟩
   rw [← hcln] at q193
   rw [← hpc] at q229
   have HCL:=hid hcln
   have HPC:=hid hpc
   obtain ⟨m,hm,hop⟩:=A7J H.out
   obtain ⟨X,hX,hXX⟩:=A7R m hm
   have HX:=hid hX
   have HOP:=hid hop
   obtain ⟨k1,hk1⟩:∃ k1,gk=k1+1:=by
    cases gk with
    | zero=>have:=HL.out;simp [W9] at this
    | succ k=>exact ⟨k,rfl⟩
   have HST:Hid (match D7 pr dor f S with
     | .ok f1 S1=>W9 (D7 pr dor) k1 f1 S1=some (x,f',S')
     | .stop y f1 S1=>y≠0∧x=y∧f'=f1∧S'=S1
     | .none=>False):=by
    have h:=HL.out
    rw [hk1,W9,if_neg (by rw [hen];simp)] at h
    show match D7 pr dor f S with
     | .ok f1 S1=>W9 (D7 pr dor) k1 f1 S1=some (x,f',S')
     | .stop y f1 S1=>y≠0∧x=y∧f'=f1∧S'=S1
     | .none=>False
    cases hr:D7 pr dor f S with
    | ok f1 S1=>rw [hr] at h;exact h
    | stop y f1 S1 =>
     rw [hr] at h
     by_cases hy:y=0
     ·simp [hy] at h
     ·simp only [if_neg hy,Option.some.injEq,Prod.mk.injEq] at h
      exact ⟨hy,h.1.symm,h.2.1.symm,h.2.2.symm⟩
    | none=>rw [hr] at h;cases h
   have HK1:=hid hk1
   have HXX:=hid hXX
   clear hcv hci hcln hpc hop hX hXX hen hk1
   by_cases hlt:pc < cl
   focus
    have hI:(pc:Int) < cl:=by omega
    have dI:decide ((pc:Int) < (cl:Int))=true:=decide_eq_true hI
    have dN:(pc < cl)=True:=eq_true hlt
    obtain ⟨cb,off,rfl,hcbl,hcell⟩:=HCI.out.at (i:=pc) (by have:=HCL.out;omega)
    have qop:wr.drew.drew.cell? ⟨cb,off+pc,none⟩=some (.int .u8 (m:Int)):=by
     have h1:=hcell pc (by have:=HCL.out;omega)
     have h2:=HOP.out
     unfold opR at h2
     rw [if_pos (by rw [← HPC.out,← HCL.out];exact hlt),← HPC.out] at h2
     rw [h2] at h1
     exact h1
    have q193':wr.drew.drew.cell? ⟨E.fb,193,none⟩=some (.slice (some ⟨cb,off,none⟩) cl cc):=q193
    have q229':wr.drew.drew.cell? ⟨E.fb,229,none⟩=some (.int .i64 (pc:Int)):=q229
    clear hcell hcbl
    go_wp2_with fail
    refine F8 (by kernel_rfl) (by kernel_rfl) ?_
    repeat still_step
    refine wpStill_nil ?_
    go_wp2_with fail
    refine F8 (by kernel_rfl) (by kernel_rfl) ?_
    repeat still_step
    refine wpStill_nil ?_
    obtain ⟨W,hW⟩:∃ W,W=wr.drew.drew:=⟨_,rfl⟩
    have hHW:C9 E W own c f S M n:=by rw [hW];exact H.out.below ((Below.refl _ _).drew.drew)
    rw [← hW]
    clear hW q193 q229 q193' q229' qop hI dI dN c235 hlt
   rotate_left
   focus
    have dI:decide ((pc:Int) < (cl:Int))=false:=decide_eq_false (by omega)
    have dN:(pc < cl)=False:=eq_false hlt
    have hz:Value.int IntKind.u8 0=Value.int IntKind.u8 (m:Int):=by
     have h2:=HOP.out
     unfold opR at h2
     rw [if_neg (by rw [← HPC.out,← HCL.out];exact hlt)] at h2
     rw [← h2]
    have HZ:=hid hz
    clear hlt hz
    go_wp2_with fail
    refine F8 (by kernel_rfl) (by kernel_rfl) ?_
    repeat still_step
    refine wpStill_nil ?_
    rw [HZ.out]
    obtain ⟨W,hW⟩:∃ W,W=wr.drew:=⟨_,rfl⟩
    have hHW:C9 E W own c f S M n:=by rw [hW];exact H.out.below (Below.refl _ _).drew
    rw [← hW]
    clear hW q193 q229 dI dN c235
   all_goals
    obtain ⟨B,hB⟩:∃ B,B=(W.alloc (.cells A1r.toArray 142)).setCells W.heap.size 0 X.c:=⟨_,rfl⟩
    have HHW:=hid hHW
    clear hHW
    have r7:=A5q HHW.out HTL.out m X HX.out
    have b5:=C1j W X.c (Inf.ok X)
    have free5:=b5.2.2
    have ok5:=Inf.ok X
    have row5:=b5.2.1
    have q1:=B0B row5
    have HB5:=hid b5.1
    have H2:=hid (HHW.out.below b5.1)
    have HROW:=hid row5
    have HE:=hid hB
    clear b5 row5
    cases eo:ofL (m:Int) with
    | none =>
     have hx:=HXX.out
     rw [eo] at hx
     have hnm:X.name = []:=hx
     have HSN:Hid (x=12):=by
      have h:=HST.out
      rw [show D7 pr dor f S = .stop 12 f S by unfold D7;rw [HOP.out,eo]] at h
      exact h.2.1
     have hem:(str X.name).toList.isEmpty=true:=by rw [hnm];exact B3I
     clear hx hnm hB eo
     go_wp2
     go_ret
     rw [HSN.out]
     exact ⟨rfl,own,c,M,n,f,S,H2.out,fun h=>absurd h (by decide),fun h=>absurd h (by decide)⟩
    | some t =>
     obtain ⟨p,q,g⟩:=t
     have hx:=HXX.out
     rw [eo] at hx
     obtain ⟨hnm,hxp,hxq,hxg⟩:X.name≠[]∧X.pops=p∧X.pushes=q∧X.gas=g:=hx
     have hem:(str X.name).toList.isEmpty=false:=B3H hnm
     have HBD:=hid (B4g hm eo)
     have HM:=hid hm
     have HEO:=hid eo
     have HXP:=hid (And.intro hxp (And.intro hxq hxg))
     clear hnm hB eo hxp hxq hxg
     go_wp2_with fail
     rw [← HE.out]
     obtain ⟨b,hb⟩:∃ b,b=W.heap.size:=⟨_,rfl⟩
     rw [← hb]
     have h2:C9 E B own c f S M n:=by rw [HE.out];exact H2.out
     have hrow:B.row? b 0 5=some X.c:=by rw [HE.out,hb];exact HROW.out
     have q2:=B23 hrow
     have q3:=B22 hrow
     have q4:=B21 hrow
     rw [HXP.out.1] at q2
     rw [HXP.out.2.1] at q3
     rw [HXP.out.2.2] at q4
     have hbB:b < B.heap.size:=World.row?_lt hrow
     have hnb:¬ rmu own E.fb c b:=by
      have hg:=HHW.out
      intro hr
      rcases hr with hr | hr | hr | hr
      ·exact hr.1 (E4 hg.st.lows (by omega))
      ·have:=hg.lt;omega
      ·have:=C8 hg.stk b hr;omega
      ·have:=C8 hg.mem b hr;omega
     have HNB:=hid hnb
     have H3:=hid h2
     obtain ⟨sa,sc,hsv⟩:=E1 h2.stk
     obtain ⟨sl,hsl⟩:∃ sl,sl=f.stack.length:=⟨_,rfl⟩
     have q230:B.drew.cell? ⟨E.fb,230,none⟩=some (.slice sa sl sc):=by rw [hsl,← hsv];exact A5p h2.row
     have q227:B.drew.cell? ⟨E.fb,227,none⟩=some (.bool f.m.static):=B2z h2.row
     have qd2:B.drew.cell? ⟨b,2,none⟩=some (.int .i64 p):=q2
     have qd3:B.drew.cell? ⟨b,3,none⟩=some (.int .i64 q):=q3
     have HQ4:Hid (B.drew.cell? ⟨b,4,none⟩=some (.int .i64 g)):=q4
     have HSL:=hid hsl
     have HLB:Hid (sl≤1024):=by rw [hsl];exact h2.slen
     have hbB3:b < B.drew.heap.size:=hbB
     clear hb hnb h2 hrow q1 q2 q3 q4 hbB hsv hsl r7 free5 ok5 hem hm
     obtain ⟨w3,hw3⟩:∃ w3,w3=B.drew:=⟨_,rfl⟩
     have HW3:=hid hw3
     have h3:C9 E w3 own c f S M n:=by rw [hw3];exact H3.out.below (Below.refl _ _).drew
     rw [← hw3] at q230 q227 qd2 qd3 hbB3
     by_cases hlp:(sl:Int) < p
     ·have d1:decide ((sl:Int) < p)=true:=decide_eq_true hlp
      have HSN:Hid (x=10):=by
       have h:=HST.out
       rw [show D7 pr dor f S = .stop 10 f S by unfold D7;rw [HOP.out,HEO.out];exact if_pos (.inl (by rw [← HSL.out];exact hlp))] at h
       exact h.2.1
      have H4:=hid h3
      rw [hw3] at q230 qd2 qd3
      clear h3 hw3 hlp q227
      refine F8 (by kernel_rfl) (by kernel_rfl) ?_
      repeat still_step
      refine wpStill_nil ?_
      go_wp2
      go_ret
      rw [HSN.out,← HW3.out]
      exact ⟨rfl,own,c,M,n,f,S,H4.out,fun h=>absurd h (by decide),fun h=>absurd h (by decide)⟩
     ·have hlp2:p≤(sl:Int):=by omega
      have d1:decide ((sl:Int) < p)=false:=decide_eq_false hlp
      obtain ⟨bp0,bp1,bq0,bq1,bg0,bg1⟩:=HBD.out
      have hsl2:=HLB.out
      obtain ⟨dd,hdd⟩:∃ dd:Int,dd=(sl:Int) - p:=⟨_,rfl⟩
      have wd:IntKind.i64.wrap ((sl:Int) - p)=dd:=by rw [hdd,IntKind.wrap_i64];omega
      have we:IntKind.i64.wrap (dd+q)=dd+q:=by rw [IntKind.wrap_i64];omega
      have HDD:=hid hdd
      have HLP:=hid hlp2
      by_cases hq:1024 < dd+q
      ·have d2:decide (1024 < dd+q)=true:=decide_eq_true hq
       have HSN:Hid (x=10):=by
        have h:=HST.out
        rw [show D7 pr dor f S = .stop 10 f S by unfold D7;rw [HOP.out,HEO.out];exact if_pos (.inr (by rw [← HSL.out,← HDD.out];exact hq))] at h
        exact h.2.1
       have H4:=hid h3
       rw [hw3] at q230 qd2 qd3
       clear h3 hw3 hlp hlp2 q227 hdd hq bp0 bp1 bq0 bq1 bg0 bg1 hsl2
       refine F8 (by kernel_rfl) (by kernel_rfl) ?_
       repeat still_step
       refine wpStill_nil ?_
       go_wp2
       go_ret
       rw [HSN.out,← HW3.out]
       exact ⟨rfl,own,c,M,n,f,S,H4.out,fun h=>absurd h (by decide),fun h=>absurd h (by decide)⟩
      ·have d2:decide (1024 < dd+q)=false:=decide_eq_false hq
       have HQ:=hid (show dd+q≤1024 by omega)
       have hr1:D7 pr dor f S=(if f.m.static=true then .none
         else match pr f S (opR f) with
         | .none => .none
         | .no => .stop 11 f S
         | .more k f1=>if g.toNat+k≤f1.gas∧f1.next=f.next∧f1.code=f.code∧f1.stack=f.stack then
           (match dor { f1 with gas:=f1.gas - g.toNat - k } S (opR f) with
            | .ok f2 S2=>if f2.next=f.next then (if f.next+1+(K2 (opR f)).toNat≤2199023255552 then .ok { f2 with next:=f.next+1+(K2 (opR f)).toNat } S2 else .none) else .ok f2 S2
            | r=>r)
          else if f1.next=f.next∧f1.code=f.code∧f1.stack=f.stack then .stop 11 f1 S else .none):=by
        conv=>lhs;unfold D7
        rw [HOP.out,HEO.out]
        exact if_neg (by rw [← HSL.out];omega)
       cases hst:f.m.static with
       | true =>
        have h:=HST.out
        rw [hr1,if_pos hst] at h
        exact h.elim
       | false =>
        rw [if_neg (by rw [hst];simp)] at hr1
        have HR1:=hid hr1
        rw [hst] at q227
        have H4:=hid h3
        have hpn:pr f S (opR f)≠.none:=by
         intro e
         have h:=HST.out
         rw [hr1,e] at h
         exact h
        have HPN:=hid hpn
        rw [hw3] at q230 qd2 qd3
        clear h3 hw3 hlp hlp2 hdd hq bp0 bp1 bq0 bq1 bg0 bg1 hsl2 hr1 hpn
        refine F8 (by kernel_rfl) (by kernel_rfl) ?_
        repeat still_step
        refine wpStill_nil ?_
        rw [← HW3.out]
        clear q230 qd2 qd3
        go_wp2_with fail
        have hcp:=HT.out.price H4.out HTL.out HPN.out
        rw [HOP.out] at hcp
        refine hcp.mono ?_
        intro e w4 hpost
        have HHB:=hid hbB3
        cases ep:pr f S (opR f) with
        | none=>exact absurd ep HPN.out
        | no =>
         rw [HOP.out] at ep
         rw [ep] at hpost
         obtain ⟨⟨x1,rfl⟩,own4,c4,f4,M4,n4,S4,h4⟩:=hpost
         have HSN:Hid (x=11):=by
          have h:=HST.out
          rw [HR1.out,HOP.out,ep] at h
          exact h.2.1
         have H5:=hid h4
         clear ep h4
         go_wp2_with fail
         refine F8 (by kernel_rfl) (by kernel_rfl) ?_
         repeat still_step
         refine wpStill_nil ?_
         go_wp2
         go_ret
         rw [HSN.out]
         exact ⟨rfl,own4,c4,M4,n4,f4,S4,H5.out.below (Below.refl _ _).drew,fun h=>absurd h (by decide),fun h=>absurd h (by decide)⟩
        | more k f1 =>
         rw [HOP.out] at ep
         rw [ep] at hpost
         obtain ⟨rfl,hk,⟨own4,c4,M4,n4,h4,htl4,hjv4⟩,ho4⟩:=hpost
         obtain ⟨bp0,bp1,bq0,bq1,bg0,bg1⟩:=HBD.out
         have q4:w4.drew.cell? ⟨b,4,none⟩=some (.int .i64 g):=by
          show w4.cell? ⟨b,4,none⟩=_
          rw [ho4.cell? HHB.out HNB.out,HW3.out]
          exact HQ4.out
         obtain ⟨G,hG⟩:∃ G,G=f1.gas:=⟨_,rfl⟩
         have hGb:G≤999000:=by have:=h4.cnt;have:=h4.lim;omega
         have q228:w4.drew.cell? ⟨E.fb,228,none⟩=some (.int .i64 (G:Int)):=by rw [hG];exact B0l h4.row
         obtain ⟨gk2,hgk2⟩:∃ z:Int,z=g+(k:Int):=⟨_,rfl⟩
         have we:IntKind.i64.wrap (g+(k:Int))=gk2:=by rw [hgk2,IntKind.wrap_i64];omega
         have HTL4:=hid htl4
         have HJV4:=hid hjv4
         have HGG:=hid hG
         have H5:=hid h4
         have HGK:=hid hgk2
         have HEP:=hid ep
         clear ep h4 htl4 hjv4 hG ho4 hcp
         by_cases hgt:(G:Int) < gk2
         ·have d1:decide ((G:Int) < gk2)=true:=decide_eq_true hgt
          have HSN:Hid (x=11):=by
           have h:=HST.out
           rw [show D7 pr dor f S=(if f1.next=f.next∧f1.code=f.code∧f1.stack=f.stack then .stop 11 f1 S else .none) by rw [HR1.out,HOP.out,HEP.out];exact if_neg (by rw [← HGG.out];omega)] at h
           split at h
           ·rename_i heq
            split at heq
            ·cases heq
            ·cases heq
           ·rename_i heq
            split at heq
            ·cases heq;exact h.2.1
            ·cases heq
           ·exact h.elim
          clear hgt hgk2 bp0 bp1 bq0 bq1 bg0 bg1 hGb hk
          go_wp2_with fail
          refine F8 (by kernel_rfl) (by kernel_rfl) ?_
          repeat still_step
          refine wpStill_nil ?_
          go_wp2
          go_ret
          rw [HSN.out]
          exact ⟨rfl,own4,c4,M4,n4,f1,S,H5.out.below (Below.refl _ _).drew,fun h=>absurd h (by decide),fun h=>absurd h (by decide)⟩
         ·have d1:decide ((G:Int) < gk2)=false:=decide_eq_false hgt
          obtain ⟨e1,he1⟩:∃ e1:Int,e1=(G:Int) - g:=⟨_,rfl⟩
          obtain ⟨e2,he2⟩:∃ e2:Nat,e2=G - g.toNat - k:=⟨_,rfl⟩
          have we1:IntKind.i64.wrap ((G:Int) - g)=e1:=by rw [he1,IntKind.wrap_i64];omega
          have we2:IntKind.i64.wrap (e1 - (k:Int))=(e2:Int):=by rw [he1,IntKind.wrap_i64];omega
          have hle:e2≤f1.gas:=by rw [← HGG.out];omega
          have hke:e2+(g.toNat+k)≤f1.gas:=by rw [← HGG.out];omega
          have HKE:=hid hke
          clear hke
          have hcc:f1.next=f.next∧f1.code=f.code∧f1.stack=f.stack:=by
           refine Classical.byContradiction fun hne=>?_
           have h:=HST.out
           rw [show D7 pr dor f S = .none by rw [HR1.out,HOP.out,HEP.out];exact (if_neg (fun hh=>hne hh.2)).trans (if_neg hne)] at h
           exact h
          have hr2:D7 pr dor f S=(match dor { f1 with gas:=e2 } S (m:Int) with
            | .ok f2 S2=>if f2.next=f.next then (if f.next+1+(K2 (m:Int)).toNat≤2199023255552 then .ok { f2 with next:=f.next+1+(K2 (m:Int)).toNat } S2 else .none) else .ok f2 S2
            | r=>r):=by
           rw [HR1.out,HOP.out,HEP.out,he2,HGG.out]
           exact if_pos ⟨by rw [← HGG.out];omega,hcc⟩
          have hop6:opR { f1 with gas:=e2 }=(m:Int):=by
           rw [← HOP.out]
           exact B4d hcc.1 hcc.2.1
          have hdn:dor { f1 with gas:=e2 } S (m:Int)≠.none:=by
           intro hd
           have h:=HST.out
           rw [hr2,hd] at h
           exact h
          have HR2:=hid hr2
          have HDN:=hid hdn
          have HCC:=hid hcc
          have HOP6:=hid hop6
          have HLE:=hid hle
          have HE12:=hid (And.intro he1 he2)
          clear hgt hgk2 bp0 bp1 bq0 bq1 bg0 bg1 hGb hk he1 he2 hle hcc hr2 hop6 hdn
          go_wp2_with fail
          refine F8 (by kernel_rfl) (by kernel_rfl) ?_
          repeat still_step
          refine wpStill_nil ?_
          obtain ⟨w5,hw5⟩:∃ w5,w5=w4.drew:=⟨_,rfl⟩
          have h5:C9 E w5 own4 c4 f1 S M4 n4:=by rw [hw5];exact H5.out.below (Below.refl _ _).drew
          rw [← hw5] at q4 q228 ⊢
          have h6:=(h5.below (Below.refl _ _).drew).gas e2 HLE.out
          have f228:w5.drew.free? E.fb 228 1=true:=(h5.below (Below.refl _ _).drew).one (by omega)
          have q229:(w5.drew.setCell ⟨E.fb,228,none⟩ (.int .i64 (e2:Int))).cell? ⟨E.fb,229,none⟩=some (.int .i64 (pc:Int)):=by
           rw [HPC.out,← HCC.out.1]
           exact B2A h6
          have q229w:w5.cell? ⟨E.fb,229,none⟩=some (.int .i64 (pc:Int)):=by
           rw [HPC.out,← HCC.out.1]
           exact A8U h5.row
          have hact:=HT.out.act (p:=p) (q:=q) (g:=g) h6 HTL4.out (by rw [HJV4.out,HJV.out];exact HJN.out) (by rw [HOP6.out];exact HEO.out) (by show p≤(f1.stack.length:Int);rw [HCC.out.2.2,← HSL.out];exact HLP.out) (by show (f1.stack.length:Int) - p+q≤1024;rw [HCC.out.2.2,← HSL.out,← HDD.out];exact HQ.out) (by rw [HOP6.out];exact HDN.out) ⟨f,f1,k,by rw [HOP6.out];exact HEP.out,by have h1:=H5.out.cnt;have h2:=HKE.out;show n4+e2+(g.toNat+k)≤E.N;omega⟩
          rw [HOP6.out,show c4.jv=jv by rw [HJV4.out,HJV.out]] at hact
          have HACT:=hid hact
          have q4':w5.drew.cell? ⟨b,4,none⟩=some (.int .i64 g):=q4
          have q228':w5.drew.cell? ⟨E.fb,228,none⟩=some (.int .i64 (G:Int)):=q228
          clear hw5 h5 h6 hact q4 q228
          go_wp2_with fail
          go_still_tail 12,(by kernel_rfl)
          go_wp2_with fail
          refine HACT.out.mono ?_
          intro e w6 hpost
          cases ed:dor { f1 with gas:=e2 } S (m:Int) with
          | none=>exact absurd ed HDN.out
          | stop y f3 S3 =>
           rw [ed] at hpost
           obtain ⟨rfl,hy,own6,c6,M6,n6,f6,S6,h6,h15⟩:=hpost
           have hst2:=HST.out
           rw [HR2.out,ed] at hst2
           obtain ⟨_,hxy,hf,hS⟩:y≠0∧x=y∧f'=f3∧S'=S3:=hst2
           have hyI:((y:Int) == 0)=false:=by simp;omega
           have HH6:=hid h6
           have H15:=hid h15
           have HXY:=hid (And.intro hxy (And.intro hf hS))
           have HY:=hid hy
           clear ed h6 h15 hxy hf hS hy
           go_wp2
           go_ret
           obtain ⟨rfl,rfl,rfl⟩:=HXY.out
           exact ⟨rfl,own6,c6,M6,n6,f6,S6,HH6.out,fun h=>absurd h HY.out,fun h=>H15.out h⟩
          | ok f2 S2 =>
           rw [ed] at hpost
           obtain ⟨rfl,own6,c6,M6,n6,h6,htl6,hjv6⟩:=hpost
           have q229:=A8U h6.row
           have f229:w6.free? E.fb 229 1=true:=h6.one (by omega)
           have hst2:=HST.out
           rw [HR2.out,ed] at hst2
           dsimp only at hst2
           have HTL6:=hid htl6
           have HJV6:=hid hjv6
           by_cases hn:f2.next=pc
           ·rw [hn] at q229
            have hst3:f.next+1+(K2 (m:Int)).toNat≤2199023255552∧W9 (D7 pr dor) k1 { f2 with next:=f.next+1+(K2 (m:Int)).toNat } S2=some (x,f',S'):=by
             rw [if_pos (hn.trans HPC.out)] at hst2
             by_cases hbd:f.next+1+(K2 (m:Int)).toNat≤2199023255552
             ·rw [if_pos hbd] at hst2
              exact ⟨hbd,hst2⟩
             ·rw [if_neg hbd] at hst2
              exact hst2.elim
            obtain ⟨Z,hZ⟩:∃ Z,Z=f.next+1+(K2 (m:Int)).toNat:=⟨_,rfl⟩
            rw [← hZ] at hst3
            have hown:=A3E (m:Int) (by omega) (by have:=HM.out;omega) w6
            have how0:0≤K2 (m:Int)∧K2 (m:Int)≤256:=by
             have:=HM.out
             unfold K2
             split <;> omega
            obtain ⟨ow,how⟩:∃ ow,ow=K2 (m:Int):=⟨_,rfl⟩
            rw [← how] at hown hZ how0
            obtain ⟨A,hA⟩:∃ A:Int,A=(pc:Int)+1:=⟨_,rfl⟩
            have hpcb:pc < 2199023255552:=by have:=hst3.1;have:=HPC.out;omega
            have a1:IntKind.i64.wrap ((pc:Int)+1)=A:=by rw [hA,IntKind.wrap_i64];omega
            have a2:IntKind.i64.wrap (A+ow)=(Z:Int):=by have:=HPC.out;rw [hA,IntKind.wrap_i64];omega
            have HH6:=hid h6
            have HST3:=hid hst3
            have HOWN:=hid hown
            clear hst2 hst3 h6 htl6 hjv6 ed hn hZ how how0 hA hpcb hown
            go_wp2_with fail
            refine HOWN.out.mono ?_
            rintro e w7 ⟨rfl,rfl⟩
            go_wp2_with fail
            go_roundg k1
            case rel=>exact ⟨own6,c6,{ f2 with next:=Z },S2,M6,n6,HH6.out.pc Z HST3.out.1,HTL6.out,HJV6.out,HST3.out.2⟩
            case measure=>have:=HK1.out;omega
           ·rw [if_neg (show ¬ f2.next=f.next from fun e=>hn (e.trans HPC.out.symm))] at hst2
            have HH6:=hid h6
            have HST3:=hid hst2
            clear hst2 h6 htl6 hjv6 ed
            obtain ⟨nx,hnx⟩:∃ nx,nx=f2.next:=⟨_,rfl⟩
            rw [← hnx] at q229 hn
            have hnI:((nx:Int) == (pc:Int))=false:=by simp;omega
            clear hnx hn
            go_wp2_with fail
            go_roundg k1
            case rel=>exact ⟨own6,c6,f2,S2,M6,n6,HH6.out,HTL6.out,HJV6.out,HST3.out⟩
            case measure=>have:=HK1.out;omega
end Go.Proofs.YtfflppedbopdpaaGreat
namespace Go.Proofs.YtfflppedbopdpaaGreat
open Go.RowKit Go.Mun
theorem B4U (g e:Int):I1 24 (O7 K9) (B7 K9) [(0,.int .i64 g),(1,.int .i64 e)]=some (B7 (F4 ⟨g,e,[],[],0⟩ (.slice none 0 0) (.slice none 0 0))):=by
 rw [G7 _ _ _ J8]
 ·rfl
 ·rw [A7M]
  exact C1 rfl (C1 rfl (L4 _))
theorem B4T (g:Int) (a b:Option Addr) (k kc j jc:Nat) :
  I1 24 (O7 K9) (B7 K9) [(0,.int .i64 g),(2,.slice a k kc),(3,.slice b j jc)]=some (B7 (F4 ⟨g,0,[],[],0⟩ (.slice a k kc) (.slice b j jc))):=by
 rw [G7 _ _ _ J8]
 ·rfl
 ·rw [A7M]
  exact C1 rfl (C1 rfl (C1 rfl (L4 _)))
theorem B4Z (w:World):(w.alloc (.cells (B7 K9).toArray 41)).free? w.heap.size 0 24=true:=World.free?_alloc_at _ _ rfl (by rw [J8];omega)
theorem B0o (g x:Int) (w:World):Calls Tryz.prog 64 #[.int .i64 g,.int .i64 x] w fun e w'=>e = .returned (.agg (B7 (F4 ⟨g,x,[],[],0⟩ (.slice none 0 0) (.slice none 0 0))).toArray)∧Below w.heap.size w w':=by
 have hf:=B4Z w
 have hbld:=B4U g x
 have hok:=Q3 ⟨g,x,[],[],0⟩ none none 0 0 0 0
 go_enter Tryz.func64,Tryz.ntmps64
 go_wp2
 exact F2 A2X rfl _ rfl rfl hf hok ⟨rfl,((Below.refl _ _).alloc (Nat.le_refl _) _).setCells (Nat.le_refl _) _ _⟩
theorem B2N {E:Q5} {w:World} {own:Go.Mun.Own} {c:RFV} {f:Fr} {S:St} {M:List (Nat × St)} {n:Nat} (x:Int) (h:C9 E w own c f S M n) :
  Calls Tryz.prog 72 #[.pointer (some ⟨E.fb,0,none⟩),.int .i64 0,.int .i64 x] w fun e w'=>e = .returned (.agg (B7 (F4 ⟨f.gas,0,[],[],0⟩ c.out (.slice none 0 0))).toArray)∧Below w.heap.size w w':=by
 have hlv:=h.logs.2
 obtain ⟨⟨oa,oc,hov,_,_⟩,_,_⟩:=h.out
 have c228:=B0l h.row
 have c233:=B3W h.row
 have c234:=B9h h.row
 rw [hov] at c233
 rw [hlv] at c234
 have hlt:=h.lt
 have hf:=B4Z w
 have hbld:=B4T f.gas oa none f.out.length oc 0 0
 have hok:=Q3 ⟨f.gas,0,[],[],0⟩ oa none f.out.length oc 0 0
 rw [hov]
 obtain ⟨W,hW⟩:∃ W,W=w.alloc (.cells (B7 K9).toArray 41):=⟨_,rfl⟩
 have q228:W.drew.cell? ⟨E.fb,228,none⟩=some (.int .i64 f.gas):=by rw [hW];exact (World.cell?_alloc_past _ _ _ hlt).trans c228
 have q233:W.drew.cell? ⟨E.fb,233,none⟩=some (.slice oa f.out.length oc):=by rw [hW];exact (World.cell?_alloc_past _ _ _ hlt).trans c233
 have q234:W.drew.cell? ⟨E.fb,234,none⟩=some (.slice none 0 0):=by rw [hW];exact (World.cell?_alloc_past _ _ _ hlt).trans c234
 have hfd:W.drew.free? w.heap.size 0 24=true:=by rw [hW];exact hf
 have HB:Hid (Below w.heap.size w W.drew):=by rw [hW];exact ((Below.refl _ _).alloc (Nat.le_refl _) _).drew
 have HW:=hid hW
 clear h hlv hov c228 c233 c234 hlt hf hW
 go_enter Tryz.func72,Tryz.ntmps72
 go_wp2_with fail
 rw [← HW.out]
 go_still_tail 13,(by kernel_rfl)
 go_wp2
 exact F2 A2X rfl _ rfl rfl hfd hok ⟨rfl,HB.out.setCells (Nat.le_refl _) _ _⟩
def tl0:List Value:=K3 (List.replicate 256 A4i)
theorem B1i:tl0.length=1280:=by unfold tl0;rw [A1W,List.length_replicate]
def A2q:List (List Value):=[[.pointer none],B7 A2W,B7 A7i,A3 20 0,[.slice none 0 0],[.slice none 0 0],A3 32 0,[.bool false],[.int .i64 0],[.int .i64 0],[.slice none 0 0],[.slice none 0 0],[.slice none 0 0],[.slice none 0 0],[.slice none 0 0],[.bool false],tl0]
theorem B6h:A1x A2q = [1,129,43,20,1,1,32,1,1,1,1,1,1,1,1,1,1280]:=by kernel_rfl
theorem A6A:(B7 A2q).length=1516:=by kernel_rfl
theorem B7q:Q0 Tryz.prog 145 1516 (B7 A2q) (O7 A2q):=⟨⟨_,_,rfl,Tryz.underlying145,by kernel_rfl,by kernel_rfl⟩,A6A⟩
theorem B9M (ρ:Operand→Value) (dst:Option Tmp) (parts:List (Nat × Operand)) (t:TypeId) (pos:String) (after:Array Edge) (gd:Option (Nat × Bool)) (w:World):(execOp ρ ⟨dst,.build 145 parts.toArray,t,pos,after,gd⟩).run Tryz.prog w=F7 (Y0 Tryz.prog 145 (parts.map fun p=>(p.1,ρ p.2)) w (I1 1516 (O7 A2q) (B7 A2q) (parts.map fun p=>(p.1,ρ p.2)))):=S7 ρ dst t pos after gd w B7q parts
theorem B4X (sb:Nat) (m:Msg) (dv:Value) (cx:Ctx) (a v:Nat) (d:Option Addr) (k kc:Nat) (s:Bool) (g:Int) :
  I1 1516 (O7 A2q) (B7 A2q) [(0,.pointer (some ⟨sb,0,none⟩)),(1,.agg (B7 (I2 m dv)).toArray),(2,.agg (B7 (A1y cx)).toArray),(3,.agg (A3 20 a).toArray),(5,.slice d k kc),(6,.agg (A3 32 v).toArray),(7,.bool s),(8,.int .i64 g)] =
   some (B7 [[.pointer (some ⟨sb,0,none⟩)],B7 (I2 m dv),B7 (A1y cx),A3 20 a,[.slice none 0 0],[.slice d k kc],A3 32 v,[.bool s],[.int .i64 g],[.int .i64 0],[.slice none 0 0],[.slice none 0 0],[.slice none 0 0],[.slice none 0 0],[.slice none 0 0],[.bool false],tl0]):=by
 rw [G7 _ _ _ A6A]
 ·rfl
 ·rw [B6h]
  refine C1 rfl (C1 ?_ (C1 ?_ (C1 ?_ (C1 rfl (C1 ?_ (C1 rfl (C1 rfl (L4 _))))))))
  ·show some 129=some (B7 (I2 m dv)).length;rw [N4]
  ·show some 43=some (B7 (A1y cx)).length;rw [A10]
  ·show some 20=some (A3 20 a).length;rw [B0]
  ·show some 32=some (A3 32 v).length;rw [B0]
attribute [go_sem ↓] B9M
theorem W5 {own:Go.Mun.Own} {i:Nat} (h:own i=none):¬ hot own i:=fun h2=>h2.1 h
structure A2E (w:World) (own0:Go.Mun.Own) (m:Msg) (dv:Value) (cx:Ctx) (W:World) (own:Go.Mun.Own) (sb:Nat) (S:St) (M:List (Nat × St)) (n:Nat):Prop where
 t4:W.row? w.heap.size 0 129=some (B7 (I2 m dv))
 t5:W.row? (w.heap.size+1) 0 43=some (B7 (A1y cx))
 t6:W.free? (w.heap.size+1+1) 0 24=true
 o4:own w.heap.size=none
 o5:own (w.heap.size+1)=none
 o6:own (w.heap.size+1+1)=none
 st:RState W own sb S M n
 chg:K1 w W own0 own
section
variable {w W W':World} {own0 own own':Go.Mun.Own} {m:Msg} {dv:Value} {cx:Ctx} {sb n n':Nat} {S S':St} {M M':List (Nat × St)}
theorem A2E.go (h:A2E w own0 m dv cx W own sb S M n) (st:RState W' own' sb S' M' n') (c:K1 W W' own own'):A2E w own0 m dv cx W' own' sb S' M' n':=
 ⟨(c.only.row? (World.row?_lt h.t4) (W5 h.o4)).trans h.t4,(c.only.row? (World.row?_lt h.t5) (W5 h.o5)).trans h.t5,(c.only.free? (C4 h.t6) (W5 h.o6)).trans h.t6,
  (c.ext _ (World.row?_lt h.t4)).trans h.o4,(c.ext _ (World.row?_lt h.t5)).trans h.o5,(c.ext _ (C4 h.t6)).trans h.o6,st,h.chg.trans c⟩
theorem A2E.below (h:A2E w own0 m dv cx W own sb S M n) (hb:Below W.heap.size W W'):A2E w own0 m dv cx W' own sb S M n:=h.go (h.st.below hb) (K1.below own hb)
theorem A2E.box (h:A2E w own0 m dv cx W own sb S M n) {b:Nat} (hb:w.heap.size+1+1 < b) (ho:own b=none) (h1:A2 (· = b) W W'):A2E w own0 m dv cx W' own sb S M n:=
 ⟨(h1.row? (World.row?_lt h.t4) (by omega)).trans h.t4,(h1.row? (World.row?_lt h.t5) (by omega)).trans h.t5,(h1.free? (C4 h.t6) (by omega)).trans h.t6,
  h.o4,h.o5,h.o6,h.st.only h1 (fun c hc=>by have e:c=b:=hc;rw [e];exact ho),⟨h.chg.ext,h.chg.only.trans h1 (fun i hi he=>by have:i=b:=hi;omega)⟩⟩
theorem A2E.start (h:RState w own sb S M n):A2E w own m dv cx (((w.alloc (.cells (B7 (I2 m dv)).toArray 37)).alloc (.cells (B7 (A1y cx)).toArray 64)).alloc (.cells (B7 K9).toArray 41)) own sb S M n:=by
 have hb:Below w.heap.size w (((w.alloc (.cells (B7 (I2 m dv)).toArray 37)).alloc (.cells (B7 (A1y cx)).toArray 64)).alloc (.cells (B7 K9).toArray 41)):=(((Below.refl _ _).alloc (Nat.le_refl _) _).alloc (by simp) _).alloc (by simp;omega) _
 refine ⟨?_,?_,?_,U9 h (Nat.le_refl _),U9 h (by omega),U9 h (by omega),h.below hb,K1.below own hb⟩
 ·rw [World.row?_alloc_lt _ (by simp;omega),World.row?_alloc_lt _ (by simp)];exact World.row?_alloc_at _ _ _ rfl (N4 m dv)
 ·rw [World.row?_alloc_lt _ (by simp)];exact World.row?_alloc_at _ _ _ (by simp) (A10 cx)
 ·exact World.free?_alloc_at _ _ (by simp) (by rw [J8];omega)
end
structure FrB (E:Q5) (c:RFV) (f:Fr) (W:World) (own:Go.Mun.Own):Prop where
 row:W.row? E.fb 0 1516=some (B7 (rfS E c f))
 free:W.free? E.fb 0 1516=true
 fown:own E.fb=none
 base:E.w0.heap.size≤E.fb
 chg:K1 E.w0 W E.own0 own
section
variable {E:Q5} {c:RFV} {f:Fr} {W W':World} {own own':Go.Mun.Own}
theorem FrB.lt (h:FrB E c f W own):E.fb < W.heap.size:=World.row?_lt h.row
theorem FrB.go (h:FrB E c f W own) (g:K1 W W' own own'):FrB E c f W' own':=
 ⟨(g.only.row? h.lt (W5 h.fown)).trans h.row,(g.only.free? h.lt (W5 h.fown)).trans h.free,(g.ext _ h.lt).trans h.fown,h.base,h.chg.trans g⟩
theorem FrB.code (h:FrB E c f W own) (v:Value):FrB E { c with code:=v } f (W.setCell ⟨E.fb,193,none⟩ v) own:=by
 have ho:=E5 W E.fb 193 v
 refine ⟨B0j v h.row,by rw [D8 _ (World.free?_sub h.free (by omega))];exact h.free,h.fown,h.base,⟨h.chg.ext,h.chg.only.trans ho (fun i hi he=>by have:i=E.fb:=hi;have:=h.base;omega)⟩⟩
end
def A8S (cv dv:Value):RFV:=⟨cv,dv,.slice none 0 0,.slice none 0 0,.slice none 0 0,.slice none 0 0,.slice none 0 0,.nilFunc,tl0⟩
theorem B2y {E:Q5} {cv dv:Value} {m:Msg} {code:V1} {W w:World} {own own00:Go.Mun.Own} {S:St} {M T:List (Nat × St)} {n:Nat} (h:FrB E (A8S cv dv) (O4 m code) W own) (hst:RState W own E.sb S M n) (hc:Q2 W own cv code)
  (hd:K8 w (hot own00) dv m.data) (hw:K1 w W own00 own) (hfb:w.heap.size≤E.fb) (hm:A14 m) (hM:M=E.M0++T) (hcnt:n+m.gas.toNat≤E.N) (hlim:E.N≤999000):C9 E W own (A8S cv dv) (O4 m code) S M n:=by
 have hrm:∀ b,rmu own E.fb (A8S cv dv) b→hot own b∨b=E.fb:=by
  rintro b (h1 | h1 | h1 | h1)
  ·exact .inl h1
  ·exact .inr h1
  ·cases h1
  ·cases h1
 refine { row := h.row, free := h.free, tlen := B1i, base := h.base, fown := h.fown, chg := h.chg, mok := hm, stk := World.ownsRow_nil _ _ _ _, sown := fun g hg => (by cases hg), sval := fun x hx => (by cases hx), slen := Nat.zero_le _, mem := World.ownsRow_nil _ _ _ _, mown := fun g hg => (by cases hg),
          mbyte:=fun x hx=>(by cases hx),mlen:=⟨Nat.zero_le _,rfl⟩,logs:=⟨rfl,rfl⟩,code:=?_,data:=?_,out:=V6 _ _,told:=V6 _ _,jmp:=fun hj=>absurd rfl hj,st:=hst,ms:=⟨T,hM⟩,cnt:=hcnt,lim:=hlim,nxt:=Nat.zero_le _ }
 ·obtain ⟨⟨a,k,h1,h2,h3⟩,hb,hl⟩:=hc
  refine ⟨⟨a,k,h1,h2,fun hn p hp hx=>?_⟩,hb,hl⟩
  have hlab:=h3 hn p hp
  rcases hrm _ hx with h4 | h4
  ·exact h4.2.1 hlab
  ·rw [h4,h.fown] at hlab;cases hlab
 ·exact hd.only hw.only (fun _ h=>h) fun b hb hx=>by
   rcases hrm b hx with h4 | h4
   ·unfold hot at *;rw [← hw.ext b hb];exact h4
   ·omega
end Go.Proofs.YtfflppedbopdpaaGreat
namespace Go.Proofs.YtfflppedbopdpaaGreat
open Go.RowKit Go.Mun
attribute [local irreducible] A0e
end Go.Proofs.YtfflppedbopdpaaGreat
namespace Go.Proofs.YtfflppedbopdpaaGreat
open Go.RowKit Go.Mun
theorem _root_.Go.Mun.RState.bal {w:World} {own:Go.Mun.Own} {sb n:Nat} {S:St} {M:List (Nat × St)} (h:RState w own sb S M n) (a:Nat):(S a).bal < wW:=by
 obtain ⟨lv,mv,ps,ms,k,h1,h2,_,hw,_,_⟩:=h
 by_cases e:∃ x∈F6 ps,x.ac.addr=a
 ·obtain ⟨x,hx,rfl⟩:=e
  obtain ⟨p,hp,rfl⟩:=List.mem_map.1 hx
  obtain ⟨i,hi⟩:=List.mem_iff_getElem?.1 hp
  have:=A2t h1.up (i:=i) (x:=p.1) (by rw [List.getElem?_map,hi];rfl)
  have e2:S p.1.ac.addr=p.1.acc:=by rw [h2];exact this
  rw [e2]
  exact (h1.arr.ok p hp).bal
 ·rw [h2,A3B (fun x hx e2=>e ⟨x,hx,e2⟩)]
  show 0 < wW
  decide
attribute [local irreducible] A2q tl0
end Go.Proofs.YtfflppedbopdpaaGreat
namespace Go.Proofs.YtfflppedbopdpaaGreat
open Go.RowKit Go.Mun
attribute [local irreducible] A2q tl0
end Go.Proofs.YtfflppedbopdpaaGreat
namespace Go.Proofs.YtfflppedbopdpaaGreat
open Go.RowKit Go.Mun
theorem A4z (l:List Ac) (a k:Nat):(A0G l a).slots k=0:=by
 have h:∀ (l:List Ac) (S:St),(∀ a k,(S a).slots k=0)→∀ a k,(l.foldl (fun S x=>Z8 S x.addr (A55 x)) S a).slots k=0:=by
  intro l
  induction l with
  | nil=>intro S hS;exact hS
  | cons x l ih =>
   intro S hS
   refine ih _ fun a k=>?_
   show (Z8 S x.addr (A55 x) a).slots k=0
   unfold Z8
   split
   ·rfl
   ·exact hS a k
 exact h l _ (fun _ _=>rfl) a k
theorem B4k (m:Msg) (a:Option Addr) (n k:Nat):P0 129 (B7 (I2 m (.slice a n k)))=true:=by
 refine A1a (N4 _ _) fun s hs=>?_
 simp only [I2,List.mem_cons,List.not_mem_nil,or_false] at hs
 rcases hs with rfl | rfl | rfl | rfl | rfl | rfl | rfl | rfl | rfl | rfl
 all_goals first | rfl | (rw [B0];exact C7 _ _)
theorem A3b {l:List (Nat × Nat)} (hp:(l.map Prod.fst).Pairwise (· < ·)) {q:Nat × Nat} (hq:q∈l):(E6 q.1 l)=some q.2:=by
 induction l with
 | nil=>cases hq
 | cons x l ih =>
  rw [List.map_cons,List.pairwise_cons] at hp
  rcases List.mem_cons.1 hq with rfl | h
  ·simp [E6]
  ·have h1:=hp.1 q.1 (List.mem_map.2 ⟨q,h,rfl⟩)
   have h2:=ih hp.2 h
   have hne:¬ x.1=q.1:=by omega
   simp [E6,hne,h2]
def A1l (a b:V1):List Ac:=[⟨1,0,1000,a⟩,⟨2,1,1000,b⟩,⟨3,0,1000,[]⟩]
theorem B7j (a b:V1):A0G (A1l a b) 3=⟨0,1000,[],fun _=>0⟩:=by rfl
theorem B7k (a b:V1):A0G (A1l a b) 1=⟨0,1000,a,fun _=>0⟩:=by rfl
def A4e (a b:V1) (v:Nat):St:=((A0G (A1l a b)).setBal 3 (1000 - v)).setBal 1 (1000+v)
theorem B1D (a b:V1) (v:Nat) (hv:v≤1000):(A0G (A1l a b)).move 3 1 v=some (A4e a b v):=by
 have e:wW=115792089237316195423570985008687907853269984665640564039457584007913129639936:=by unfold wW;decide
 unfold St.move
 rw [B7j,B7k]
 rw [if_neg (by show ¬ 1000 < v;omega),if_neg (by decide),if_neg (by show ¬ wW≤1000+v;omega)]
 rfl
theorem A3A {S:St} (h:∀ a k,(S a).slots k=0) (x n:Nat):∀ a k,((S.setBal x n) a).slots k=0:=by
 intro a k
 unfold St.setBal Z8
 split
 ·exact h x k
 ·exact h a k
theorem A5E (a b:V1) (v:Nat):∀ x k,(A4e a b v x).slots k=0:=A3A (A3A (A4z _) _ _) _ _
end Go.Proofs.YtfflppedbopdpaaGreat
namespace Go.Proofs.YtfflppedbopdpaaGreat
open Go.RowKit Go.Mun
theorem B4Q (a b:Nat) (p:Option Addr) (k c:Nat) (x:Int):I1 55 (O7 L9) (B7 L9) [(0,.agg (A3 20 a).toArray),(2,.agg (A3 32 b).toArray),(3,.slice p k c),(1,.int .i64 x)]=some (B7 (P4 ⟨a,x,b,[]⟩ (.slice p k c) (.slice none 0 0))):=by
 rw [G7 _ _ _ X1]
 ·rfl
 ·rw [B0z]
  refine C1 ?_ (C1 ?_ (C1 rfl (C1 rfl (L4 _))))
  ·show some 20=some (A3 20 a).length;rw [B0]
  ·show some 32=some (A3 32 b).length;rw [B0]
theorem B7B:A1w Tryz.prog 45 35 55 3 (B7 [B7 L9,B7 L9,B7 L9]):=⟨Tryz.underlying45,⟨_,.agg (B7 L9).toArray,rfl,by kernel_rfl,by kernel_rfl,by kernel_rfl⟩,by decide,by kernel_rfl,by decide⟩
def A5T (p:List (Nat × Value)):Option (List Value):=I1 (3*55) ((List.range 3).map fun i=>(i*55,55)) (B7 [B7 L9,B7 L9,B7 L9]) p
theorem B8l (ρ:Operand→Value) (dst:Option Tmp) (x y z:Operand) (t:TypeId) (pos:String) (after:Array Edge) (gd:Option (Nat × Bool)) (w:World) :
  (execOp ρ ⟨dst,.buildSlice 45 3 #[(0,x),(1,y),(2,z)],t,pos,after,gd⟩).run Tryz.prog w=F7 (A4F Tryz.prog 45 35 3 [(0,ρ x),(1,ρ y),(2,ρ z)] w (A5T [(0,ρ x),(1,ρ y),(2,ρ z)])):=
 A1i ρ dst t pos after gd w B7B [(0,x),(1,y),(2,z)]
theorem A7V (a b c:List Value) (ha:a.length=55) (hb:b.length=55) (hc:c.length=55):A5T [(0,.agg a.toArray),(1,.agg b.toArray),(2,.agg c.toArray)]=some (B7 [a,b,c]):=by
 unfold A5T
 have h1:A1x [B7 L9,B7 L9,B7 L9] = [55,55,55]:=by kernel_rfl
 have h3:O7 [B7 L9,B7 L9,B7 L9]=(List.range 3).map fun i=>(i*55,55):=by kernel_rfl
 rw [← h3,G7 _ _ _ (by kernel_rfl)]
 ·rfl
 ·rw [h1]
  refine C1 ?_ (C1 ?_ (C1 ?_ (L4 _)))
  ·show some 55=some a.length;rw [ha]
  ·show some 55=some b.length;rw [hb]
  ·show some 55=some c.length;rw [hc]
attribute [go_sem ↓] B8l
theorem B1G {w:World} {av bv:Value} {a b:V1} (ha:K8 w (fun _=>False) av a) (hbx:K8 w (fun _=>False) bv b) :
  Calls Tryz.prog 16 #[av,bv] w fun e w' => ∃ g,e = .returned (.slice (some ⟨g,0,none⟩) 3 3)∧Below w.heap.size w w'∧∀ i (hi:i < (A1l a b).length),A6y w' g (0+i*55) (A1l a b)[i]:=by
 obtain ⟨⟨ca,cc,rfl,hci,hcx⟩,hcb,hcl⟩:=ha
 obtain ⟨⟨da,dc,rfl,hdi,hdx⟩,hdb,hdl⟩:=hbx
 have HC:Hid (K8 w (fun _=>False) (.slice ca a.length cc) a):=⟨⟨ca,cc,rfl,hci,hcx⟩,hcb,hcl⟩
 have HD:Hid (K8 w (fun _=>False) (.slice da b.length dc) b):=⟨⟨da,dc,rfl,hdi,hdx⟩,hdb,hdl⟩
 have o1:ofW 1000=1000:=by kernel_rfl
 have N1:=hid (fun w=>X6 1 (by decide) w)
 have N2:=hid (fun w=>X6 2 (by decide) w)
 have N3:=hid (fun w=>X6 3 (by decide) w)
 have O1:=hid (fun w=>A4b 1000 (by decide) (by decide) w)
 rw [o1] at O1
 have b1:=A9F 1 1000 ca a.length cc
 have b2:=B4Q 2 1000 da b.length dc 1
 have b3:=A9E 3 1000
 obtain ⟨X,hX⟩:∃ X,X=B7 (P4 ⟨1,0,1000,[]⟩ (.slice ca a.length cc) (.slice none 0 0)):=⟨_,rfl⟩
 obtain ⟨Y,hY⟩:∃ Y,Y=B7 (P4 ⟨2,1,1000,[]⟩ (.slice da b.length dc) (.slice none 0 0)):=⟨_,rfl⟩
 obtain ⟨Z,hZ⟩:∃ Z,Z=B7 (P4 ⟨3,0,1000,[]⟩ (.slice none 0 0) (.slice none 0 0)):=⟨_,rfl⟩
 have lX:X.length=55:=by rw [hX];exact L8 _ _ _
 have lY:Y.length=55:=by rw [hY];exact L8 _ _ _
 have lZ:Z.length=55:=by rw [hZ];exact L8 _ _ _
 have bf:=A7V X Y Z lX lY lZ
 rw [← hX] at b1
 rw [← hY] at b2
 rw [← hZ] at b3
 have HX:=hid hX
 have HY:=hid hY
 have HZ:=hid hZ
 clear hci hcx hcb hcl hdi hdx hdb hdl o1 hX hY hZ
 go_enter Tryz.func16,Tryz.ntmps16
 go_wp2_with fail
 refine (N1.out _).mono ?_
 rintro e w1 ⟨rfl,h1⟩
 have B1:=hid h1
 clear h1
 go_wp2_with fail
 refine (O1.out _).mono ?_
 rintro e w2 ⟨rfl,h2⟩
 have B2:Hid (Below w.heap.size w w2):=B1.out.trans (h2.mono B1.out.size)
 clear h2
 go_wp2_with fail
 refine (N2.out _).mono ?_
 rintro e w3 ⟨rfl,h3⟩
 have B3:Hid (Below w.heap.size w w3):=B2.out.trans (h3.mono B2.out.size)
 clear h3
 go_wp2_with fail
 refine (O1.out _).mono ?_
 rintro e w4 ⟨rfl,h4⟩
 have B4:Hid (Below w.heap.size w w4):=B3.out.trans (h4.mono B3.out.size)
 clear h4
 go_wp2_with fail
 refine (N3.out _).mono ?_
 rintro e w5 ⟨rfl,h5⟩
 have B5:Hid (Below w.heap.size w w5):=B4.out.trans (h5.mono B4.out.size)
 clear h5
 go_wp2_with fail
 refine (O1.out _).mono ?_
 rintro e w6 ⟨rfl,h6⟩
 have B6:Hid (Below w.heap.size w w6):=B5.out.trans (h6.mono B5.out.size)
 clear h6
 go_wp2
 go_ret
 refine ⟨_,rfl,B6.out.alloc B6.out.size _,fun i hi=>?_⟩
 have r:=World.row?_alloc_at (w:=w6) (B7 [X,Y,Z]) 35 (0,0) rfl (n:=165) (by rw [I0,I0,I0,lX,lY,lZ];rfl)
 have hb2:=B6.out.alloc B6.out.size (.cells (B7 [X,Y,Z]).toArray 35)
 match i,hi with
 | 0,_=>exact ⟨⟨_,by rw [J5 r (i:=0) rfl (by simp [A5]) lX.symm,HX.out];rfl,HC.out.below hb2⟩,by show 1 < wA;decide,by show 1000 < wW;decide,by show (0:Int)≤_;decide⟩
 | 1,_=>exact ⟨⟨_,by rw [J5 r (i:=1) rfl (by simp [A7,A5,lX]) lY.symm,HY.out];rfl,HD.out.below hb2⟩,by show 2 < wA;decide,by show 1000 < wW;decide,by show (1:Int)≤_;decide⟩
 | 2,_=>exact ⟨⟨_,by rw [J5 r (i:=2) rfl (by simp [A7,A5,lX,lY]) lZ.symm,HZ.out];rfl,V6 _ _⟩,by show 3 < wA;decide,by show 1000 < wW;decide,by show (0:Int)≤_;decide⟩
 | i+3,hi=>exact absurd hi (by simp [A1l])
theorem B4R (g:Int):I1 129 (O7 A2W) (B7 A2W) [(1,.agg (A3 20 3).toArray),(2,.agg (A3 20 1).toArray),(7,.int .i64 g)]=some (B7 (I2 ⟨0,3,1,0,0,0,[],g,0,false⟩ (.slice none 0 0))):=by
 rw [G7 _ _ _ A3p]
 ·rfl
 ·rw [B4s]
  refine C1 ?_ (C1 ?_ (C1 rfl (L4 _)))
  ·show some 20=some (A3 20 3).length;rw [B0]
  ·show some 20=some (A3 20 1).length;rw [B0]
theorem B1H (g:Int) (w:World):Calls Tryz.prog 19 #[.int .i64 g] w fun e w'=>e = .returned (.agg (B7 (I2 ⟨0,3,1,0,0,0,[],g,0,false⟩ (.slice none 0 0))).toArray)∧Below w.heap.size w w':=by
 have N1:=hid (fun w=>X6 1 (by decide) w)
 have N3:=hid (fun w=>X6 3 (by decide) w)
 have hbld:=B4R g
 have hok:=B4k ⟨0,3,1,0,0,0,[],g,0,false⟩ none 0 0
 have hl:=N4 ⟨0,3,1,0,0,0,[],g,0,false⟩ (.slice none 0 0)
 obtain ⟨C,hC⟩:∃ C,C=B7 (I2 ⟨0,3,1,0,0,0,[],g,0,false⟩ (.slice none 0 0)):=⟨_,rfl⟩
 rw [← hC] at hbld hok hl ⊢
 have HC:=hid hC
 have hz:(B7 A2W).length=129:=A3p
 have hf:(w.alloc (.cells (B7 A2W).toArray 37)).free? w.heap.size 0 129=true:=World.free?_alloc_at _ _ rfl (by rw [hz];omega)
 have hb0:Below w.heap.size w (w.alloc (.cells (B7 A2W).toArray 37)):=(Below.refl _ _).alloc (Nat.le_refl _) _
 have HF:=hid hf
 have HB0:=hid hb0
 clear hC hf hb0 hz
 go_enter Tryz.func19,Tryz.ntmps19
 go_wp2_with fail
 refine (N3.out _).mono ?_
 rintro e w1 ⟨rfl,h1⟩
 have f1:Hid (w1.free? w.heap.size 0 129=true):=((D2 h1).2 _ _ _ (C4 HF.out)).trans HF.out
 have B1:Hid (Below w.heap.size w w1):=HB0.out.trans (h1.mono HB0.out.size)
 clear h1
 go_wp2_with fail
 refine (N1.out _).mono ?_
 rintro e w2 ⟨rfl,h2⟩
 have f2:=((D2 h2).2 _ _ _ (C4 f1.out)).trans f1.out
 have B2:Hid (Below w.heap.size w w2):=B1.out.trans (h2.mono B1.out.size)
 clear h2
 go_wp2
 exact F2 B7h rfl _ rfl rfl f2 hok ⟨rfl,B2.out.setCells (Nat.le_refl _) _ _⟩
end Go.Proofs.YtfflppedbopdpaaGreat
namespace Go.Proofs.YtfflppedbopdpaaGreat
open Go.RowKit Go.Mun
theorem A3V {P:Program} (ρ:Operand→Value) (dst:Option Tmp) (x y:Operand) (t t2 ty:TypeId) (pos:String) (after:Array Edge) (gd:Option (Nat × Bool)) (w:World) {xs ys:Array Value} {r:Bool} (hm:P.eqGuardType P.depth t=false) (hx:ρ x = .agg xs) (hy:ρ y = .agg ys)
  (h:(binOp .eql t (.agg xs) (.agg ys)).run P w = .ok (.bool r) w):(execOp ρ ⟨dst,.binOp .eql t x y t2,ty,pos,after,gd⟩).run P w = .ok (.value (.bool r)) w:=by
 simp [execOp,hx,hy,Sem.run_bind,run_eqGuard_agg (hm:=hm),h]
theorem B9D:Tryz.prog.eqGuardType Tryz.prog.depth 23=false:=by kernel_rfl
theorem A2M {w:World} {b o:Nat} {oc:A1z} {ov lv:Value} (h:w.row? b o 24=some (B7 (F4 oc ov lv))):w.cell? ⟨b,o+2,none⟩=some ov:=D1 h (i:=2) rfl (by simp [F4,A7,A5])
theorem A1S {w:World} {b o:Nat} {oc:A1z} {ov lv:Value} (h:w.row? b o 24=some (B7 (F4 oc ov lv))):w.cell? ⟨b,o+3,none⟩=some lv:=D1 h (i:=3) rfl (by simp [F4,A7,A5])
theorem A1T {w:World} {b o:Nat} {oc:A1z} {ov lv:Value} (h:w.row? b o 24=some (B7 (F4 oc ov lv))):w.row? b (o+4) 20=some (A3 20 oc.addr):=J5 h (i:=4) rfl (by simp [F4,A7,A5]) (by simp)
theorem A99 (a b:Option Addr) (j k:Nat) (w:World):Calls Tryz.prog 73 #[.slice a 0 j,.slice b 0 k] w fun e w'=>e = .returned (.bool true)∧w'=w:=by
 go_enter Tryz.func73,Tryz.ntmps73
 go_wp2_with fail
 go_loopw [5] (fun ix wz=>ix = .int .i64 0∧wz=w) (fun _ _=>0)
 case atStart=>exact ⟨rfl,rfl⟩
 case round =>
  obtain ⟨rfl,rfl⟩:=hrel
  go_wp2
  go_ret
  exact ⟨rfl,rfl⟩
theorem A7v {w:World} (g e:Int) (d:V1) (ad:Nat) (a1 a2 l1 l2:Option Addr) (c1 c2 j1 j2:Nat) (had:ad < wA) (h1:I7 w .u8 a1 c1 d) (h2:I7 w .u8 a2 c2 d) :
  Calls Tryz.prog 39 #[.agg (B7 (F4 ⟨g,e,[],[],ad⟩ (.slice a1 d.length c1) (.slice l1 0 j1))).toArray,.agg (B7 (F4 ⟨g,e,[],[],ad⟩ (.slice a2 d.length c2) (.slice l2 0 j2))).toArray] w fun r w'=>r = .returned (.bool true)∧Below w.heap.size w w':=by
 obtain ⟨X,hX⟩:∃ X,X=B7 (F4 ⟨g,e,[],[],ad⟩ (.slice a1 d.length c1) (.slice l1 0 j1)):=⟨_,rfl⟩
 obtain ⟨Y,hY⟩:∃ Y,Y=B7 (F4 ⟨g,e,[],[],ad⟩ (.slice a2 d.length c2) (.slice l2 0 j2)):=⟨_,rfl⟩
 have lX:X.length=24:=by rw [hX];exact T9 _ _ _
 have lY:Y.length=24:=by rw [hY];exact T9 _ _ _
 rw [← hX,← hY]
 obtain ⟨w0,e0⟩:∃ w0,w0=(w.alloc (.cells X.toArray 41)).alloc (.cells Y.toArray 41):=⟨_,rfl⟩
 have hb0:Below w.heap.size w w0:=by rw [e0];exact ((Below.refl _ _).alloc (Nat.le_refl _) _).alloc (by simp) _
 have hr:w0.row? w.heap.size 0 24=some X:=by rw [e0,World.row?_alloc_lt _ (by simp)];exact World.row?_alloc_at X 41 _ rfl lX
 have hs:w0.row? (w.heap.size+1) 0 24=some Y:=by rw [e0];exact World.row?_alloc_at Y 41 _ (by simp) lY
 rw [hX] at hr
 rw [hY] at hs
 have hq:∀ w,(binOp .eql 23 (.agg (A3 20 ad).toArray) (.agg (A3 20 ad).toArray)).run Tryz.prog w = .ok (.bool true) w:=fun w=>by have:=A7X (fun d=>B65 (a:=ad) (b:=ad) had had w d);simpa using this
 obtain ⟨T,hT⟩:∃ T:World→Prop,T=fun W=>Below w.heap.size w W∧W.row? w.heap.size 0 24=some (B7 (F4 ⟨g,e,[],[],ad⟩ (.slice a1 d.length c1) (.slice l1 0 j1)))∧W.row? (w.heap.size+1) 0 24=some (B7 (F4 ⟨g,e,[],[],ad⟩ (.slice a2 d.length c2) (.slice l2 0 j2)))∧I7 W .u8 a1 c1 d∧I7 W .u8 a2 c2 d:=⟨_,rfl⟩
 have HT:=hid hT
 have HTB:Hid (∀ w2 w3,T w2→Below w2.heap.size w2 w3→T w3):=by
  show ∀ w2 w3,T w2→Below w2.heap.size w2 w3→T w3
  rw [hT]
  rintro w2 w3 ⟨g0,g1,g2,g3,g4⟩ hb
  exact ⟨g0.trans (hb.mono g0.size),((D2 hb).1 _ _ _ (World.row?_lt g1)).trans g1,((D2 hb).1 _ _ _ (World.row?_lt g2)).trans g2,g3.below hb,g4.below hb⟩
 have HTG:Hid (∀ w2,T w2→Below w.heap.size w w2):=by show ∀ w2,T w2→_;rw [hT];intro w2 h;exact h.1
 have t0:T w0.drew:=HTB.out w0 _ (by rw [hT];exact ⟨hb0,hr,hs,h1.below hb0,h2.below hb0⟩) (Below.refl _ _).drew
 have HQ:=hid hq
 have HE:=hid e0
 have HLN:=hid (fun w=>A4U e w)
 have HSL:=hid (fun w=>A99 l1 l2 j1 j2 w)
 clear hT h1 h2 hb0 hr hs e0 hX hY hq
 go_enter Tryz.func39,Tryz.ntmps39
 go_wp2_with fail
 rw [← HE.out]
 refine A6 T [] (.pure 0 (.take 1 (.pure 2 (.take 3 (.pure 4 (.pure 5 (.pure 6 (.take 7 (.pure 9 (.take 10 (.alt 8 (.alt 11 (.pure 12 (.pure 13 (.pure 14 (.pure 15 (.take 16 (.take 17 (.pure 18 (.take 19 (.take 20 (.pure 21 (.pure 22 (.pure 23 (.pure 24 (.take 25 (.pure 26 (.take 27 (.pure 28 (.pure 29 (.pure 30 (.pure 31 (.take 32 (.pure 33 (.take 34 (.alt 35 (.pure 36 (.pure 37 .fin)) .stop)))))))))))))))))))))))) .stop) .stop))))))))))) (by kernel_rfl) (by kernel_rfl) ?_
 iterate 10
  first
  |refine A0 ?_ rfl (by rfl) (fun w' hs=>?_) (fun _ _ _ h=>h) ?_
   rotate_left
   ·clear hs
    go_simp
    try rfl
   simp only [Act.put,D6,D5,D4]
  |refine A9 ?_ t0 rfl (by rfl) (fun w' hs=>?_) (fun _ _ _ h=>h) ?_
   rotate_left
   ·rw [HT.out] at hs
    obtain ⟨_,g1,g2,i1,i2⟩:=hs;have u0:=A09 g1;have u1:=A0p g1;have u2:=A2M g1;have u3:=A1S g1;have u4:=A1T g1;have v0:=A09 g2;have v1:=A0p g2;have v2:=A2M g2;have v3:=A1S g2;have v4:=A1T g2;have s1:=I9 (P:=Tryz.prog) Tryz.underlying26 Tryz.underlying5 Tryz.underlying9 rfl i1;have s2:=I9 (P:=Tryz.prog) Tryz.underlying26 Tryz.underlying5 Tryz.underlying9 rfl i2;simp only [Nat.zero_add] at u0 u1 u2 u3 u4 v0 v1 v2 v3 v4
    go_simp
    try rfl
   simp only [Act.put,D6,D5,D4]
 refine A8 rfl (fun K hK=>?_)
 go_simp
 refine (HLN.out _).mono ?_
 rintro e wa ⟨rfl,rfl⟩
 have t1:=t0
 refine hK.out _ _ t1 ?_
 clear hK K
 refine A8 rfl (fun K hK=>?_)
 go_simp
 refine (HLN.out _).mono ?_
 rintro e wb ⟨rfl,rfl⟩
 have t2:=t1
 refine hK.out _ _ t2 ?_
 clear hK K
 iterate 16
  first
  |refine A0 ?_ rfl (by rfl) (fun w' hs=>?_) (fun _ _ _ h=>h) ?_
   rotate_left
   ·clear hs
    go_simp
    try rfl
   simp only [Act.put,D6,D5,D4]
  |refine A9 ?_ t2 rfl (by rfl) (fun w' hs=>?_) (fun _ _ _ h=>h) ?_
   rotate_left
   ·rw [HT.out] at hs
    obtain ⟨_,g1,g2,i1,i2⟩:=hs;have u0:=A09 g1;have u1:=A0p g1;have u2:=A2M g1;have u3:=A1S g1;have u4:=A1T g1;have v0:=A09 g2;have v1:=A0p g2;have v2:=A2M g2;have v3:=A1S g2;have v4:=A1T g2;have s1:=I9 (P:=Tryz.prog) Tryz.underlying26 Tryz.underlying5 Tryz.underlying9 rfl i1;have s2:=I9 (P:=Tryz.prog) Tryz.underlying26 Tryz.underlying5 Tryz.underlying9 rfl i2;simp only [Nat.zero_add] at u0 u1 u2 u3 u4 v0 v1 v2 v3 v4
    go_simp
    try rfl
   simp only [Act.put,D6,D5,D4]
 refine A0 (.bool true) rfl (by rfl) (fun w' hs=>?_) (fun _ _ _ h=>h) ?_
 ·clear hs
  exact A3V _ _ _ _ _ _ _ _ _ _ _ B9D rfl rfl (HQ.out _)
 simp only [Act.put,D6,D5,D4]
 iterate 6
  first
  |refine A0 ?_ rfl (by rfl) (fun w' hs=>?_) (fun _ _ _ h=>h) ?_
   rotate_left
   ·clear hs
    go_simp
    try rfl
   simp only [Act.put,D6,D5,D4]
  |refine A9 ?_ t2 rfl (by rfl) (fun w' hs=>?_) (fun _ _ _ h=>h) ?_
   rotate_left
   ·rw [HT.out] at hs
    obtain ⟨_,g1,g2,i1,i2⟩:=hs;have u0:=A09 g1;have u1:=A0p g1;have u2:=A2M g1;have u3:=A1S g1;have u4:=A1T g1;have v0:=A09 g2;have v1:=A0p g2;have v2:=A2M g2;have v3:=A1S g2;have v4:=A1T g2;have s1:=I9 (P:=Tryz.prog) Tryz.underlying26 Tryz.underlying5 Tryz.underlying9 rfl i1;have s2:=I9 (P:=Tryz.prog) Tryz.underlying26 Tryz.underlying5 Tryz.underlying9 rfl i2;simp only [Nat.zero_add] at u0 u1 u2 u3 u4 v0 v1 v2 v3 v4
    go_simp
    try rfl
   simp only [Act.put,D6,D5,D4]
 refine A8 rfl (fun K hK=>?_)
 go_simp
 refine (HSL.out _).mono ?_
 rintro e wc ⟨rfl,rfl⟩
 have t3:=t2
 refine hK.out _ _ t3 ?_
 clear hK K
 iterate 2
  refine A0 ?_ rfl (by rfl) (fun w' hs=>?_) (fun _ _ _ h=>h) ?_
  rotate_left
  ·clear hs
   go_simp
   try rfl
  simp only [Act.put,D6,D5,D4]
 refine C3 ?_
 go_wp2
 go_ret
 exact ⟨rfl,HTG.out _ t3⟩
end Go.Proofs.YtfflppedbopdpaaGreat
namespace Go.Proofs.YtfflppedbopdpaaGreat
open Go.RowKit Go.Mun
theorem B2E {P:Program} {fn:Func} {R:Ending→World→Prop} {a:Act} {w:World} {p q q2 ty n b:Nat} (hT:X0 P ty n) (hres:fn.results = #[.cell p ty,.tmp q,.tmp q2]) (L:List Value) (x y:Value)
  (hp:a.tmps.getD p undef = .pointer (some ⟨b,0,none⟩)) (hq:a.tmps.getD q undef=x) (hq2:a.tmps.getD q2 undef=y) (hd:a.defers = []) (hr:w.row? b 0 n=some L) (hR:R (.returned (.tuple #[.agg L.toArray,x,y])) w) :
  bodyPost P fn R .ret a w:=by
 refine ⟨hd,_,?_,hR⟩
 obtain ⟨d,hu,hd⟩:=hT.desc
 have hp':a.tmps[p]?.getD undef = .pointer (some ⟨b,0,none⟩):=by simpa using hp
 have hq':a.tmps[q]?.getD undef=x:=by simpa using hq
 have hq2':a.tmps[q2]?.getD undef=y:=by simpa using hq2
 simp [results,hres,hp',hq',hq2',asAddr,run_loadVar_mid w b 0 ty L d (World.row?_rangeAt hr) hu hd (by rw [World.row?_len hr];exact hT.size)]
def A5A (g x:Int) (ad:Nat) (oa:Option Addr) (k oc:Nat) (la:Option Addr) (lc:Nat):List Value:=B7 (F4 ⟨g,x,[],[],ad⟩ (.slice oa k oc) (.slice la 0 lc))
def B2a (m:Msg) (dv:Value) (cx:Ctx) (S:St) (g x:Int) (ad:Nat) (d:V1) (S':St):Prop:=
 ∀ (w:World) (own:Go.Mun.Own) (sb:Nat),StateAt TU w own sb S [] 0→K8 w (fun b=>own b≠none) dv m.data →
  Calls Tryz.prog 26 #[.pointer (some ⟨sb,0,none⟩),.agg (B7 (I2 m dv)).toArray,.agg (B7 (A1y cx)).toArray] w fun e w' => ∃ oa oc la lc own' n',e = .returned (.agg (A5A g x ad oa d.length oc la lc).toArray) ∧
   K8 w' (fun b=>own' b≠none∨b < w.heap.size) (.slice oa d.length oc) d∧StateAt TU w' own' sb S' [] n'∧T6 w w' own own'∧n'≤3000000
def B19 (m:Msg) (dv:Value) (cx:Ctx) (S:St) (g x:Int) (ad:Nat) (d:V1) (S':St):Prop:=
 ∀ (w:World) (own:Go.Mun.Own) (sb n:Nat),n≤1000→RState w own sb S [] n→K8 w (hot own) dv m.data →
  Calls Tryz.prog 38 #[.pointer (some ⟨sb,0,none⟩),.agg (B7 (I2 m dv)).toArray,.agg (B7 (A1y cx)).toArray] w fun e w' => ∃ oa oc la lc own' M' n',e = .returned (.agg (A5A g x ad oa d.length oc la lc).toArray) ∧
   I7 w' .u8 oa oc d∧RState w' own' sb S' M' n'∧K1 w w' own own'∧n'≤999000
theorem K8.weak {w:World} {X X':Nat→Prop} {v:Value} {l:V1} (h:K8 w X v l) (hX:∀ b,b < w.heap.size→X' b→X b):K8 w X' v l:=h.only (R:=fun _=>False) (A2.refl _ _) (fun _ h=>h.elim) hX
theorem A3F (g x:Int) (ad:Nat) (oa:Option Addr) (k oc:Nat) (la:Option Addr) (lc:Nat):(A5A g x ad oa k oc la lc).length=24:=T9 _ _ _
theorem A4Q (g x:Int) (ad:Nat) (oa:Option Addr) (k oc:Nat) (la:Option Addr) (lc:Nat):P0 24 (A5A g x ad oa k oc la lc)=true:=Q3 _ _ _ _ _ _ _
theorem B9H (W:World) (C:List Value) (h:P0 24 C=true):Below W.heap.size W ((W.alloc (.cells (B7 K9).toArray 41)).setCells W.heap.size 0 C)∧((W.alloc (.cells (B7 K9).toArray 41)).setCells W.heap.size 0 C).row? W.heap.size 0 24=some C∧(W.alloc (.cells (B7 K9).toArray 41)).free? W.heap.size 0 24=true:=by
 have hf:(W.alloc (.cells (B7 K9).toArray 41)).free? W.heap.size 0 24=true:=World.free?_alloc_at _ _ rfl (by rw [J8];omega)
 exact ⟨((Below.refl _ _).alloc (Nat.le_refl _) _).setCells (Nat.le_refl _) _ _,B8 C hf h,hf⟩
def A8d (w:World) (g x:Int) (ad:Nat) (d:V1) (S':St) (e:Ending) (w':World):Prop:=
 ∃ oa oc la lc sb own' n',e = .returned (.tuple #[.agg (A5A g x ad oa d.length oc la lc).toArray,.pointer (some ⟨sb,0,none⟩),.bool true])∧Below w.heap.size w w'∧StateAt TU w' own' sb S' [] n'∧∀ b,own' b≠none→w.heap.size≤b
end Go.Proofs.YtfflppedbopdpaaGreat
