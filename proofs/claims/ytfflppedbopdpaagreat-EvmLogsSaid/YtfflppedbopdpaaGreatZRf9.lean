/- A part of the proof of EvmLogs: ZRf9. -/
import Derived.Test.YtfflppedbopdpaaGreatZRi2
import Derived.Test.YtfflppedbopdpaaGreatZKs
import Derived.Test.YtfflppedbopdpaaGreatZRs12
import Derived.Test.YtfflppedbopdpaaGreatZEv16
import Derived.Test.YtfflppedbopdpaaGreatZEv9
import Derived.Test.YtfflppedbopdpaaGreatZEv12
import Derived.Test.YtfflppedbopdpaaGreatZRs1
import Derived.Test.YtfflppedbopdpaaGreatZVm2
import Derived.Lib.Strings
import Derived.Lib.Slices
import Derived.Lib.Small
import Derived.Lib.Walk
import Derived.Lib.BitFns
import Derived.Deep.Light
set_option linter.unusedVariables false
set_option maxRecDepth 1000000
set_option maxHeartbeats 8000000
set_option linter.unusedSimpArgs false
namespace Go.Proofs.YtfflppedbopdpaaGreat
open Go.RowKit Go.Mun

def opR (f:Fr):Int:=if f.next < f.code.length then f.code[f.next]?.getD 0 else 0
inductive Pri
 | none
 | no
 | more (k:Nat) (f:Fr)
def J2 (pr:Fr→St→Int→Pri) (dor:Fr→St→Int→Res) (f:Fr) (S:St):Res:=
 match ofL (opR f) with
 | Option.none => .stop 12 f S
 | some (p,q,g) =>
  if (f.stack.length:Int) < p∨1024 < (f.stack.length:Int) - p+q then .stop 10 f S
  else if f.m.static=true then .none
  else match pr f S (opR f) with
   | .none => .none
   | .no => .stop 11 f S
   | .more k f1=>if g.toNat+k≤f1.gas∧f1.next=f.next∧f1.code=f.code∧f1.stack=f.stack then
     (match dor { f1 with gas:=f1.gas - g.toNat - k } S (opR f) with
      | .ok f2 S2=>if f2.next=f.next then (if f.next+1+(J6 (opR f)).toNat≤2199023255552 then .ok { f2 with next:=f.next+1+(J6 (opR f)).toNat } S2 else .none) else .ok f2 S2
      | r=>r)
    else if f1.next=f.next∧f1.code=f.code∧f1.stack=f.stack then .stop 11 f1 S else .none
def V7 (step:Fr→St→Res):Nat→Fr→St→Option (Nat × Fr × St)
 | 0,_,_=>none
 | k+1,f,S=>if f.ended=true then some (0,f,S) else match step f S with
  | .ok f' S'=>V7 step k f' S'
  | .stop x f' S'=>if x=0 then none else some (x,f',S')
  | .none=>none
def B8G (E:U3) (w0:World) (own0:Go.Mun.Own) (c0:RFV) (S:St) (r:Pri) (e:Ending) (w:World):Prop:=
 match r with
 | .none=>True
 | .no=>(∃ x:Int,e = .returned (.tuple #[.int .i64 x,.bool false]))∧∃ own c f M n S',C9 E w own c f S' M n
 | .more k f=>e = .returned (.tuple #[.int .i64 (k:Int),.bool true])∧k≤1099511627776∧(∃ own c M n,C9 E w own c f S M n∧c.tl=L6 A0P∧c.jv=c0.jv)∧A0 (rmu own0 E.fb c0) w0 w
structure B1S (E:U3) (pr:Fr→St→Int→Pri) (dor:Fr→St→Int→Res):Prop where
 price:∀ {w:World} {own:Go.Mun.Own} {c:RFV} {f:Fr} {S:St} {M:List (Nat × St)} {n:Nat},C9 E w own c f S M n→c.tl=L6 A0P→pr f S (opR f)≠.none→Calls Tryz.prog 178 #[.pointer (some ⟨E.fb,0,none⟩),.int .u8 (opR f)] w (B8G E w own c S (pr f S (opR f)))
 act:∀ {w:World} {own:Go.Mun.Own} {c:RFV} {f:Fr} {S:St} {M:List (Nat × St)} {n:Nat} {p q g:Int},C9 E w own c f S M n→c.tl=L6 A0P→c.jv≠.nilFunc→ofL (opR f)=some (p,q,g)→p≤f.stack.length→(f.stack.length:Int) - p+q≤1024→dor f S (opR f)≠.none→(∃ f0 f1 k,pr f0 S (opR f) = .more k f1∧n+f.gas+(g.toNat+k)≤E.N) →
  Calls Tryz.prog 179 #[.pointer (some ⟨E.fb,0,none⟩),.int .u8 (opR f),c.jv] w (RDo E c.jv (dor f S (opR f)))
theorem B4b {f f1:Fr} {x:Nat} (h1:f1.next=f.next) (h2:f1.code=f.code):opR { f1 with gas:=x }=opR f:=by
 show opR ⟨f1.m,f1.code,f1.stack,f1.mem,f1.pc,f1.next,x,f1.ret,f1.out,f1.logs,f1.ended⟩=opR f
 rw [h1,h2]
 rfl
theorem B2h {E:U3} {w:World} {own:Go.Mun.Own} {c:RFV} {f:Fr} {S:St} {M:List (Nat × St)} {n x:Nat} (h:C9 E w own c { f with gas:=x } S M n):w.cell? ⟨E.fb,229,none⟩=some (.int .i64 (f.next:Int)):=by
 have h1:=A8J h.row
 exact h1
theorem B0a {E:U3} {w:World} {own:Go.Mun.Own} {c:RFV} {f:Fr} {S:St} {M:List (Nat × St)} {n:Nat} (h:C9 E w own c f S M n):∃ m:Nat,m < 256∧opR f=(m:Int):=by
 unfold opR
 split
 ·rename_i hlt
  have:=h.code.byte (f.code[f.next]) (List.getElem_mem hlt)
  rw [List.getElem?_eq_getElem hlt,Option.getD_some]
  exact ⟨(f.code[f.next]).toNat,by omega,by omega⟩
 ·exact ⟨0,by decide,rfl⟩
theorem B0i (m:Nat) (hm:m < 256):∃ x,A0P[m]? = some x∧match ofL (m:Int) with
  | Option.none=>x.name = []
  | some (p,q,g)=>x.name≠[]∧x.pops=p∧x.pushes=q∧x.gas=g:=by
 have h:=List.all_eq_true.1 B6q m (List.mem_range.2 hm)
 have hl:m < A0P.length:=by rw [A3F];exact hm
 rw [List.getElem?_eq_getElem hl] at h ⊢
 refine ⟨_,rfl,?_⟩
 simp only [Option.getD_some] at h
 cases e:ofL (m:Int) with
 | none=>rw [e] at h;exact of_decide_eq_true h
 | some t =>
  obtain ⟨p,q,g⟩:=t
  rw [e] at h
  simp only [Bool.and_eq_true,decide_eq_true_eq] at h
  exact ⟨h.1.1.1,h.1.1.2,h.1.2,h.2⟩
theorem C0K (W:World) (C:List Value) (h:Q3 5 C=true):Below W.heap.size W ((W.alloc (.cells A1i.toArray 142)).setCells W.heap.size 0 C)∧((W.alloc (.cells A1i.toArray 142)).setCells W.heap.size 0 C).row? W.heap.size 0 5=some C∧(W.alloc (.cells A1i.toArray 142)).free? W.heap.size 0 5=true:=by
 have hf:(W.alloc (.cells A1i.toArray 142)).free? W.heap.size 0 5=true:=World.free?_alloc_at _ _ rfl (by rw [K6 A5z];decide)
 exact ⟨((Below.refl _ _).alloc (Nat.le_refl _) _).setCells (Nat.le_refl _) _ _,B7 C hf h,hf⟩
theorem B3B:(str []).toList.isEmpty=true:=by rw [ByteArray.toList_eq];rfl
theorem B3A {l:List UInt8} (h:l≠[]):(str l).toList.isEmpty=false:=by
 rw [ByteArray.toList_eq]
 cases l with
 | nil=>exact absurd rfl h
 | cons a l=>rfl
theorem B0h {w:World} {b:Nat} {x:Inf} (h:w.row? b 0 5=some x.c):w.cell? ⟨b,1,none⟩=some (.string (str x.name)):=by
 rw [show (1:Nat)=0+1 from rfl,World.row?_cell h (i:=1) (by decide)];unfold Inf.c;rfl
theorem B2N {w:World} {b:Nat} {x:Inf} (h:w.row? b 0 5=some x.c):w.cell? ⟨b,2,none⟩=some (.int .i64 x.pops):=by
 rw [show (2:Nat)=0+2 from rfl,World.row?_cell h (i:=2) (by decide)];unfold Inf.c;rfl
theorem B2M {w:World} {b:Nat} {x:Inf} (h:w.row? b 0 5=some x.c):w.cell? ⟨b,3,none⟩=some (.int .i64 x.pushes):=by
 rw [show (3:Nat)=0+3 from rfl,World.row?_cell h (i:=3) (by decide)];unfold Inf.c;rfl
theorem B2L {w:World} {b:Nat} {x:Inf} (h:w.row? b 0 5=some x.c):w.cell? ⟨b,4,none⟩=some (.int .i64 x.gas):=by
 rw [show (4:Nat)=0+4 from rfl,World.row?_cell h (i:=4) (by decide)];unfold Inf.c;rfl
attribute [local irreducible] wpStill Inf.c A1i L6
def C0X (E:U3) (x:Nat) (f:Fr) (S:St) (e:Ending) (w:World):Prop:=
 e = .returned (.int .i64 (x:Int))∧∃ own c M n f' S',C9 E w own c f' S' M n∧(x=0→f'=f∧S'=S)∧(x=15→f'.gas=f.gas∧f'.out=f.out)
theorem B7H {E:U3} {w:World} {own:Go.Mun.Own} {c:RFV} {f f':Fr} {S S':St} {M:List (Nat × St)} {n K x:Nat} {pr:Fr→St→Int→Pri} {dor:Fr→St→Int→Res} (hT:B1S E pr dor) (h:C9 E w own c f S M n) (hl:V7 (J2 pr dor) K f S=some (x,f',S')) :
  Calls Tryz.prog 71 #[.pointer (some ⟨E.fb,0,none⟩)] w (C0X E x f' S'):=by
 obtain ⟨⟨ca,cc,hcv,hci,_⟩,hcb,hcl⟩:=h.code
 have c193:=A7y h.row
 rw [hcv] at c193
 have HJ:=hid (B2n ca cc f.code w hci (fun i hi=>by have:=hcb (f.code[i]) (List.getElem_mem hi);rw [List.getElem?_eq_getElem hi,Option.getD_some];omega) hcl)
 have H:=hid h
 have HT:=hid hT
 have HL:=hid hl
 clear h hT hl hcv hci hcb hcl
 go_enter Tryz.func71,Tryz.ntmps71
 go_wp2_with fail
 refine HJ.out.mono ?_
 rintro e w1 ⟨jv,rfl,hj,hb1⟩
 have h1:=H.out.jumps hb1 hj
 have HJN:Hid (jv≠.nilFunc):=by
  obtain ⟨ja,jc,e⟩:=E9 hj
  show _≠_
  rw [e];simp
 have H1:=hid h1
 clear hj hb1 h1 c193
 go_wp2_with fail
 refine (B5J _).mono ?_
 rintro e w2 ⟨rfl,hb2⟩
 have h2:=H1.out.below hb2
 have hf2:=World.free?_sub h2.free (o':=236) (n':=1280) (by omega)
 have hok2:Q3 1280 (L6 A0P)=true:=by
  have:=A89 A0P
  rw [A3F] at this
  exact this
 have h3:=h2.table (L6 A0P) (by rw [A1O,A3F])
 have H3:=hid h3
 clear hb2 h2 h3
 obtain ⟨I,hI⟩:∃ I,I=L6 A0P:=⟨_,rfl⟩
 have HI:=hid hI
 rw [← hI] at H3 hok2 ⊢
 clear hI
 go_wp2_with fail
 go_loopg [] K (fun k wr => ∃ own c f S M n,C9 E wr own c f S M n∧c.tl=L6 A0P∧c.jv=jv∧V7 (J2 pr dor) k f S=some (x,f',S'))
 case atStart=>exact ⟨_,_,f,S,M,n,H3.out,HI.out,rfl,HL.out⟩
 case round =>
  obtain ⟨own,c,f,S,M,n,h,htl,hjv,hl⟩:=hrel
  have c235:=B3V h.row
  have HTL:=hid htl
  have HJV:=hid hjv
  have HL:=hid hl
  have H:=hid h
  clear h htl hjv hl
  cases hen:f.ended with
  | true =>
   rw [hen] at c235
   have HE:Hid (x=0∧f'=f∧S'=S):=by
    have h:=HL.out
    cases gk with
    | zero=>simp [V7] at h
    | succ k =>
     rw [V7,if_pos hen] at h
     simp only [Option.some.injEq,Prod.mk.injEq] at h
     exact ⟨h.1.symm,h.2.1.symm,h.2.2.symm⟩
   go_wp2
   go_ret
   obtain ⟨rfl,rfl,rfl⟩:=HE.out
   exact ⟨rfl,own,c,M,n,f',S',H.out,fun _=>⟨rfl,rfl⟩,fun e=>by cases e⟩
  | false =>
   rw [hen] at c235
   obtain ⟨⟨ca,cc,hcv,hci,_⟩,_,_⟩:=H.out.code
   have q193:wr.drew.cell? ⟨E.fb,193,none⟩=some (.slice ca f.code.length cc):=by rw [← hcv];exact A7y H.out.row
   have q229:wr.drew.cell? ⟨E.fb,229,none⟩=some (.int .i64 (f.next:Int)):=A8J H.out.row
   have HCI:=hid hci
   obtain ⟨cl,hcln⟩:∃ cl,cl=f.code.length:=⟨_,rfl⟩
   obtain ⟨pc,hpc⟩:∃ pc,pc=f.next:=⟨_,rfl⟩
   rw [← hcln] at q193
   rw [← hpc] at q229
   have HCL:=hid hcln
   have HPC:=hid hpc
   obtain ⟨m,hm,hop⟩:=B0a H.out
   obtain ⟨X,hX,hXX⟩:=B0i m hm
   have HX:=hid hX
   have HOP:=hid hop
   obtain ⟨k1,hk1⟩:∃ k1,gk=k1+1:=by
    cases gk with
    | zero=>have:=HL.out;simp [V7] at this
    | succ k=>exact ⟨k,rfl⟩
   have HST:Hid (match J2 pr dor f S with
     | .ok f1 S1=>V7 (J2 pr dor) k1 f1 S1=some (x,f',S')
     | .stop y f1 S1=>y≠0∧x=y∧f'=f1∧S'=S1
     | .none=>False):=by
    have h:=HL.out
    rw [hk1,V7,if_neg (by rw [hen];simp)] at h
    show match J2 pr dor f S with
     | .ok f1 S1=>V7 (J2 pr dor) k1 f1 S1=some (x,f',S')
     | .stop y f1 S1=>y≠0∧x=y∧f'=f1∧S'=S1
     | .none=>False
    cases hr:J2 pr dor f S with
    | ok f1 S1=>rw [hr] at h;exact h
    | stop y f1 S1 =>
     rw [hr] at h
     by_cases hy:y=0
     ·simp [hy] at h
     ·simp only [if_neg hy,Option.some.injEq,Prod.mk.injEq] at h
      exact ⟨hy,h.1.symm,h.2.1.symm,h.2.2.symm⟩
    | none=>rw [hr] at h;cases h
   have HK1:=hid hk1
   have HXX:=hid hXX
   clear hcv hci hcln hpc hop hX hXX hen hk1
   by_cases hlt:pc < cl
   focus
    have hI:(pc:Int) < cl:=by omega
    have dI:decide ((pc:Int) < (cl:Int))=true:=decide_eq_true hI
    have dN:(pc < cl)=True:=eq_true hlt
    obtain ⟨cb,off,rfl,hcbl,hcell⟩:=HCI.out.at (i:=pc) (by have:=HCL.out;omega)
    have qop:wr.drew.drew.cell? ⟨cb,off+pc,none⟩=some (.int .u8 (m:Int)):=by
     have h1:=hcell pc (by have:=HCL.out;omega)
     have h2:=HOP.out
     unfold opR at h2
     rw [if_pos (by rw [← HPC.out,← HCL.out];exact hlt),← HPC.out] at h2
     rw [h2] at h1
     exact h1
    have q193':wr.drew.drew.cell? ⟨E.fb,193,none⟩=some (.slice (some ⟨cb,off,none⟩) cl cc):=q193
    have q229':wr.drew.drew.cell? ⟨E.fb,229,none⟩=some (.int .i64 (pc:Int)):=q229
    clear hcell hcbl
    go_wp2_with fail
    refine F4 (by kernel_rfl) (by kernel_rfl) ?_
    repeat still_step
    refine wpStill_nil ?_
    go_wp2_with fail
    refine F4 (by kernel_rfl) (by kernel_rfl) ?_
    repeat still_step
    refine wpStill_nil ?_
    obtain ⟨W,hW⟩:∃ W,W=wr.drew.drew:=⟨_,rfl⟩
    have hHW:C9 E W own c f S M n:=by rw [hW];exact H.out.below ((Below.refl _ _).drew.drew)
    rw [← hW]
    clear hW q193 q229 q193' q229' qop hI dI dN c235 hlt
   rotate_left
   focus
    have dI:decide ((pc:Int) < (cl:Int))=false:=decide_eq_false (by omega)
    have dN:(pc < cl)=False:=eq_false hlt
    have hz:Value.int IntKind.u8 0=Value.int IntKind.u8 (m:Int):=by
     have h2:=HOP.out
     unfold opR at h2
     rw [if_neg (by rw [← HPC.out,← HCL.out];exact hlt)] at h2
     rw [← h2]
    have HZ:=hid hz
    clear hlt hz
    go_wp2_with fail
    refine F4 (by kernel_rfl) (by kernel_rfl) ?_
    repeat still_step
    refine wpStill_nil ?_
    rw [HZ.out]
    obtain ⟨W,hW⟩:∃ W,W=wr.drew:=⟨_,rfl⟩
    have hHW:C9 E W own c f S M n:=by rw [hW];exact H.out.below (Below.refl _ _).drew
    rw [← hW]
    clear hW q193 q229 dI dN c235
   all_goals
    obtain ⟨B,hB⟩:∃ B,B=(W.alloc (.cells A1i.toArray 142)).setCells W.heap.size 0 X.c:=⟨_,rfl⟩
    have HHW:=hid hHW
    clear hHW
    have r7:=A7x HHW.out HTL.out m X HX.out
    have b5:=C0K W X.c (Inf.ok X)
    have free5:=b5.2.2
    have ok5:=Inf.ok X
    have row5:=b5.2.1
    have q1:=B0h row5
    have HB5:=hid b5.1
    have H2:=hid (HHW.out.below b5.1)
    have HROW:=hid row5
    have HE:=hid hB
    clear b5 row5
    cases eo:ofL (m:Int) with
    | none =>
     have hx:=HXX.out
     rw [eo] at hx
     have hnm:X.name = []:=hx
     have HSN:Hid (x=12):=by
      have h:=HST.out
      rw [show J2 pr dor f S = .stop 12 f S by unfold J2;rw [HOP.out,eo]] at h
      exact h.2.1
     have hem:(str X.name).toList.isEmpty=true:=by rw [hnm];exact B3B
     clear hx hnm hB eo
     go_wp2
     go_ret
     rw [HSN.out]
     exact ⟨rfl,own,c,M,n,f,S,H2.out,fun h=>absurd h (by decide),fun h=>absurd h (by decide)⟩
    | some t =>
     obtain ⟨p,q,g⟩:=t
     have hx:=HXX.out
     rw [eo] at hx
     obtain ⟨hnm,hxp,hxq,hxg⟩:X.name≠[]∧X.pops=p∧X.pushes=q∧X.gas=g:=hx
     have hem:(str X.name).toList.isEmpty=false:=B3A hnm
     have HBD:=hid (B4e hm eo)
     have HM:=hid hm
     have HEO:=hid eo
     have HXP:=hid (And.intro hxp (And.intro hxq hxg))
     clear hnm hB eo hxp hxq hxg
     go_wp2_with fail
     rw [← HE.out]
     obtain ⟨b,hb⟩:∃ b,b=W.heap.size:=⟨_,rfl⟩
     rw [← hb]
     have h2:C9 E B own c f S M n:=by rw [HE.out];exact H2.out
     have hrow:B.row? b 0 5=some X.c:=by rw [HE.out,hb];exact HROW.out
     have q2:=B2N hrow
     have q3:=B2M hrow
     have q4:=B2L hrow
     rw [HXP.out.1] at q2
     rw [HXP.out.2.1] at q3
     rw [HXP.out.2.2] at q4
     have hbB:b < B.heap.size:=World.row?_lt hrow
     have hnb:¬ rmu own E.fb c b:=by
      have hg:=HHW.out
      intro hr
      rcases hr with hr | hr | hr | hr | hr
      ·exact hr.1 (D4 hg.st.lows (by omega))
      ·have:=hg.lt;omega
      ·have:=B0 hg.stk b hr;omega
      ·have:=B0 hg.mem b hr;omega
      ·obtain ⟨_,hlo,_⟩:=hg.logs
       have:=B0 hlo b hr;omega
     have HNB:=hid hnb
     have H3:=hid h2
     obtain ⟨sa,sc,hsv⟩:=E9 h2.stk
     obtain ⟨sl,hsl⟩:∃ sl,sl=f.stack.length:=⟨_,rfl⟩
     have q230:B.drew.cell? ⟨E.fb,230,none⟩=some (.slice sa sl sc):=by rw [hsl,← hsv];exact A8I h2.row
     have q227:B.drew.cell? ⟨E.fb,227,none⟩=some (.bool f.m.static):=B2g h2.row
     have qd2:B.drew.cell? ⟨b,2,none⟩=some (.int .i64 p):=q2
     have qd3:B.drew.cell? ⟨b,3,none⟩=some (.int .i64 q):=q3
     have HQ4:Hid (B.drew.cell? ⟨b,4,none⟩=some (.int .i64 g)):=q4
     have HSL:=hid hsl
     have HLB:Hid (sl≤1024):=by rw [hsl];exact h2.slen
     have hbB3:b < B.drew.heap.size:=hbB
     clear hb hnb h2 hrow q1 q2 q3 q4 hbB hsv hsl r7 free5 ok5 hem hm
     obtain ⟨w3,hw3⟩:∃ w3,w3=B.drew:=⟨_,rfl⟩
     have HW3:=hid hw3
     have h3:C9 E w3 own c f S M n:=by rw [hw3];exact H3.out.below (Below.refl _ _).drew
     rw [← hw3] at q230 q227 qd2 qd3 hbB3
     by_cases hlp:(sl:Int) < p
     ·have d1:decide ((sl:Int) < p)=true:=decide_eq_true hlp
      have HSN:Hid (x=10):=by
       have h:=HST.out
       rw [show J2 pr dor f S = .stop 10 f S by unfold J2;rw [HOP.out,HEO.out];exact if_pos (.inl (by rw [← HSL.out];exact hlp))] at h
       exact h.2.1
      have H4:=hid h3
      rw [hw3] at q230 qd2 qd3
      clear h3 hw3 hlp q227
      refine F4 (by kernel_rfl) (by kernel_rfl) ?_
      repeat still_step
      refine wpStill_nil ?_
      go_wp2
      go_ret
      rw [HSN.out,← HW3.out]
      exact ⟨rfl,own,c,M,n,f,S,H4.out,fun h=>absurd h (by decide),fun h=>absurd h (by decide)⟩
     ·have hlp2:p≤(sl:Int):=by omega
      have d1:decide ((sl:Int) < p)=false:=decide_eq_false hlp
      obtain ⟨bp0,bp1,bq0,bq1,bg0,bg1⟩:=HBD.out
      have hsl2:=HLB.out
      obtain ⟨dd,hdd⟩:∃ dd:Int,dd=(sl:Int) - p:=⟨_,rfl⟩
      have wd:IntKind.i64.wrap ((sl:Int) - p)=dd:=by rw [hdd,IntKind.wrap_i64];omega
      have we:IntKind.i64.wrap (dd+q)=dd+q:=by rw [IntKind.wrap_i64];omega
      have HDD:=hid hdd
      have HLP:=hid hlp2
      by_cases hq:1024 < dd+q
      ·have d2:decide (1024 < dd+q)=true:=decide_eq_true hq
       have HSN:Hid (x=10):=by
        have h:=HST.out
        rw [show J2 pr dor f S = .stop 10 f S by unfold J2;rw [HOP.out,HEO.out];exact if_pos (.inr (by rw [← HSL.out,← HDD.out];exact hq))] at h
        exact h.2.1
       have H4:=hid h3
       rw [hw3] at q230 qd2 qd3
       clear h3 hw3 hlp hlp2 q227 hdd hq bp0 bp1 bq0 bq1 bg0 bg1 hsl2
       refine F4 (by kernel_rfl) (by kernel_rfl) ?_
       repeat still_step
       refine wpStill_nil ?_
       go_wp2
       go_ret
       rw [HSN.out,← HW3.out]
       exact ⟨rfl,own,c,M,n,f,S,H4.out,fun h=>absurd h (by decide),fun h=>absurd h (by decide)⟩
      ·have d2:decide (1024 < dd+q)=false:=decide_eq_false hq
       have HQ:=hid (show dd+q≤1024 by omega)
       have hr1:J2 pr dor f S=(if f.m.static=true then .none
         else match pr f S (opR f) with
         | .none => .none
         | .no => .stop 11 f S
         | .more k f1=>if g.toNat+k≤f1.gas∧f1.next=f.next∧f1.code=f.code∧f1.stack=f.stack then
           (match dor { f1 with gas:=f1.gas - g.toNat - k } S (opR f) with
            | .ok f2 S2=>if f2.next=f.next then (if f.next+1+(J6 (opR f)).toNat≤2199023255552 then .ok { f2 with next:=f.next+1+(J6 (opR f)).toNat } S2 else .none) else .ok f2 S2
            | r=>r)
          else if f1.next=f.next∧f1.code=f.code∧f1.stack=f.stack then .stop 11 f1 S else .none):=by
        conv=>lhs;unfold J2
        rw [HOP.out,HEO.out]
        exact if_neg (by rw [← HSL.out];omega)
       cases hst:f.m.static with
       | true =>
        have h:=HST.out
        rw [hr1,if_pos hst] at h
        exact h.elim
       | false =>
        rw [if_neg (by rw [hst];simp)] at hr1
        have HR1:=hid hr1
        rw [hst] at q227
        have H4:=hid h3
        have hpn:pr f S (opR f)≠.none:=by
         intro e
         have h:=HST.out
         rw [hr1,e] at h
         exact h
        have HPN:=hid hpn
        rw [hw3] at q230 qd2 qd3
        clear h3 hw3 hlp hlp2 hdd hq bp0 bp1 bq0 bq1 bg0 bg1 hsl2 hr1 hpn
        refine F4 (by kernel_rfl) (by kernel_rfl) ?_
        repeat still_step
        refine wpStill_nil ?_
        rw [← HW3.out]
        clear q230 qd2 qd3
        go_wp2_with fail
        have hcp:=HT.out.price H4.out HTL.out HPN.out
        rw [HOP.out] at hcp
        refine hcp.mono ?_
        intro e w4 hpost
        have HHB:=hid hbB3
        cases ep:pr f S (opR f) with
        | none=>exact absurd ep HPN.out
        | no =>
         rw [HOP.out] at ep
         rw [ep] at hpost
         obtain ⟨⟨x1,rfl⟩,own4,c4,f4,M4,n4,S4,h4⟩:=hpost
         have HSN:Hid (x=11):=by
          have h:=HST.out
          rw [HR1.out,HOP.out,ep] at h
          exact h.2.1
         have H5:=hid h4
         clear ep h4
         go_wp2_with fail
         refine F4 (by kernel_rfl) (by kernel_rfl) ?_
         repeat still_step
         refine wpStill_nil ?_
         go_wp2
         go_ret
         rw [HSN.out]
         exact ⟨rfl,own4,c4,M4,n4,f4,S4,H5.out.below (Below.refl _ _).drew,fun h=>absurd h (by decide),fun h=>absurd h (by decide)⟩
        | more k f1 =>
         rw [HOP.out] at ep
         rw [ep] at hpost
         obtain ⟨rfl,hk,⟨own4,c4,M4,n4,h4,htl4,hjv4⟩,ho4⟩:=hpost
         obtain ⟨bp0,bp1,bq0,bq1,bg0,bg1⟩:=HBD.out
         have q4:w4.drew.cell? ⟨b,4,none⟩=some (.int .i64 g):=by
          show w4.cell? ⟨b,4,none⟩=_
          rw [ho4.cell? HHB.out HNB.out,HW3.out]
          exact HQ4.out
         obtain ⟨G,hG⟩:∃ G,G=f1.gas:=⟨_,rfl⟩
         have hGb:G≤999000:=by have:=h4.cnt;have:=h4.lim;omega
         have q228:w4.drew.cell? ⟨E.fb,228,none⟩=some (.int .i64 (G:Int)):=by rw [hG];exact A92 h4.row
         obtain ⟨gk2,hgk2⟩:∃ z:Int,z=g+(k:Int):=⟨_,rfl⟩
         have we:IntKind.i64.wrap (g+(k:Int))=gk2:=by rw [hgk2,IntKind.wrap_i64];omega
         have HTL4:=hid htl4
         have HJV4:=hid hjv4
         have HGG:=hid hG
         have H5:=hid h4
         have HGK:=hid hgk2
         have HEP:=hid ep
         clear ep h4 htl4 hjv4 hG ho4 hcp
         by_cases hgt:(G:Int) < gk2
         ·have d1:decide ((G:Int) < gk2)=true:=decide_eq_true hgt
          have HSN:Hid (x=11):=by
           have h:=HST.out
           rw [show J2 pr dor f S=(if f1.next=f.next∧f1.code=f.code∧f1.stack=f.stack then .stop 11 f1 S else .none) by rw [HR1.out,HOP.out,HEP.out];exact if_neg (by rw [← HGG.out];omega)] at h
           split at h
           ·rename_i heq
            split at heq
            ·cases heq
            ·cases heq
           ·rename_i heq
            split at heq
            ·cases heq;exact h.2.1
            ·cases heq
           ·exact h.elim
          clear hgt hgk2 bp0 bp1 bq0 bq1 bg0 bg1 hGb hk
          go_wp2_with fail
          refine F4 (by kernel_rfl) (by kernel_rfl) ?_
          repeat still_step
          refine wpStill_nil ?_
          go_wp2
          go_ret
          rw [HSN.out]
          exact ⟨rfl,own4,c4,M4,n4,f1,S,H5.out.below (Below.refl _ _).drew,fun h=>absurd h (by decide),fun h=>absurd h (by decide)⟩
         ·have d1:decide ((G:Int) < gk2)=false:=decide_eq_false hgt
          obtain ⟨e1,he1⟩:∃ e1:Int,e1=(G:Int) - g:=⟨_,rfl⟩
          obtain ⟨e2,he2⟩:∃ e2:Nat,e2=G - g.toNat - k:=⟨_,rfl⟩
          have we1:IntKind.i64.wrap ((G:Int) - g)=e1:=by rw [he1,IntKind.wrap_i64];omega
          have we2:IntKind.i64.wrap (e1 - (k:Int))=(e2:Int):=by rw [he1,IntKind.wrap_i64];omega
          have hle:e2≤f1.gas:=by rw [← HGG.out];omega
          have hke:e2+(g.toNat+k)≤f1.gas:=by rw [← HGG.out];omega
          have HKE:=hid hke
          clear hke
          have hcc:f1.next=f.next∧f1.code=f.code∧f1.stack=f.stack:=by
           refine Classical.byContradiction fun hne=>?_
           have h:=HST.out
           rw [show J2 pr dor f S = .none by rw [HR1.out,HOP.out,HEP.out];exact (if_neg (fun hh=>hne hh.2)).trans (if_neg hne)] at h
           exact h
          have hr2:J2 pr dor f S=(match dor { f1 with gas:=e2 } S (m:Int) with
            | .ok f2 S2=>if f2.next=f.next then (if f.next+1+(J6 (m:Int)).toNat≤2199023255552 then .ok { f2 with next:=f.next+1+(J6 (m:Int)).toNat } S2 else .none) else .ok f2 S2
            | r=>r):=by
           rw [HR1.out,HOP.out,HEP.out,he2,HGG.out]
           exact if_pos ⟨by rw [← HGG.out];omega,hcc⟩
          have hop6:opR { f1 with gas:=e2 }=(m:Int):=by
           rw [← HOP.out]
           exact B4b hcc.1 hcc.2.1
          have hdn:dor { f1 with gas:=e2 } S (m:Int)≠.none:=by
           intro hd
           have h:=HST.out
           rw [hr2,hd] at h
           exact h
          have HR2:=hid hr2
          have HDN:=hid hdn
          have HCC:=hid hcc
          have HOP6:=hid hop6
          have HLE:=hid hle
          have HE12:=hid (And.intro he1 he2)
          clear hgt hgk2 bp0 bp1 bq0 bq1 bg0 bg1 hGb hk he1 he2 hle hcc hr2 hop6 hdn
          go_wp2_with fail
          refine F4 (by kernel_rfl) (by kernel_rfl) ?_
          repeat still_step
          refine wpStill_nil ?_
          obtain ⟨w5,hw5⟩:∃ w5,w5=w4.drew:=⟨_,rfl⟩
          have h5:C9 E w5 own4 c4 f1 S M4 n4:=by rw [hw5];exact H5.out.below (Below.refl _ _).drew
          rw [← hw5] at q4 q228 ⊢
          have h6:=(h5.below (Below.refl _ _).drew).gas e2 HLE.out
          have f228:w5.drew.free? E.fb 228 1=true:=(h5.below (Below.refl _ _).drew).one (by omega)
          have q229:(w5.drew.setCell ⟨E.fb,228,none⟩ (.int .i64 (e2:Int))).cell? ⟨E.fb,229,none⟩=some (.int .i64 (pc:Int)):=by
           rw [HPC.out,← HCC.out.1]
           exact B2h h6
          have q229w:w5.cell? ⟨E.fb,229,none⟩=some (.int .i64 (pc:Int)):=by
           rw [HPC.out,← HCC.out.1]
           exact A8J h5.row
          have hact:=HT.out.act (p:=p) (q:=q) (g:=g) h6 HTL4.out (by rw [HJV4.out,HJV.out];exact HJN.out) (by rw [HOP6.out];exact HEO.out) (by show p≤(f1.stack.length:Int);rw [HCC.out.2.2,← HSL.out];exact HLP.out) (by show (f1.stack.length:Int) - p+q≤1024;rw [HCC.out.2.2,← HSL.out,← HDD.out];exact HQ.out) (by rw [HOP6.out];exact HDN.out) ⟨f,f1,k,by rw [HOP6.out];exact HEP.out,by have h1:=H5.out.cnt;have h2:=HKE.out;show n4+e2+(g.toNat+k)≤E.N;omega⟩
          rw [HOP6.out,show c4.jv=jv by rw [HJV4.out,HJV.out]] at hact
          have HACT:=hid hact
          have q4':w5.drew.cell? ⟨b,4,none⟩=some (.int .i64 g):=q4
          have q228':w5.drew.cell? ⟨E.fb,228,none⟩=some (.int .i64 (G:Int)):=q228
          clear hw5 h5 h6 hact q4 q228
          go_wp2_with fail
          go_still_tail 12,(by kernel_rfl)
          go_wp2_with fail
          refine HACT.out.mono ?_
          intro e w6 hpost
          cases ed:dor { f1 with gas:=e2 } S (m:Int) with
          | none=>exact absurd ed HDN.out
          | stop y f3 S3 =>
           rw [ed] at hpost
           obtain ⟨rfl,hy,own6,c6,M6,n6,f6,S6,h6,h15⟩:=hpost
           have hst2:=HST.out
           rw [HR2.out,ed] at hst2
           obtain ⟨_,hxy,hf,hS⟩:y≠0∧x=y∧f'=f3∧S'=S3:=hst2
           have hyI:((y:Int) == 0)=false:=by simp;omega
           have HH6:=hid h6
           have H15:=hid h15
           have HXY:=hid (And.intro hxy (And.intro hf hS))
           have HY:=hid hy
           clear ed h6 h15 hxy hf hS hy
           go_wp2
           go_ret
           obtain ⟨rfl,rfl,rfl⟩:=HXY.out
           exact ⟨rfl,own6,c6,M6,n6,f6,S6,HH6.out,fun h=>absurd h HY.out,fun h=>H15.out h⟩
          | ok f2 S2 =>
           rw [ed] at hpost
           obtain ⟨rfl,own6,c6,M6,n6,h6,htl6,hjv6⟩:=hpost
           have q229:=A8J h6.row
           have f229:w6.free? E.fb 229 1=true:=h6.one (by omega)
           have hst2:=HST.out
           rw [HR2.out,ed] at hst2
           dsimp only at hst2
           have HTL6:=hid htl6
           have HJV6:=hid hjv6
           by_cases hn:f2.next=pc
           ·rw [hn] at q229
            have hst3:f.next+1+(J6 (m:Int)).toNat≤2199023255552∧V7 (J2 pr dor) k1 { f2 with next:=f.next+1+(J6 (m:Int)).toNat } S2=some (x,f',S'):=by
             rw [if_pos (hn.trans HPC.out)] at hst2
             by_cases hbd:f.next+1+(J6 (m:Int)).toNat≤2199023255552
             ·rw [if_pos hbd] at hst2
              exact ⟨hbd,hst2⟩
             ·rw [if_neg hbd] at hst2
              exact hst2.elim
            obtain ⟨Z,hZ⟩:∃ Z,Z=f.next+1+(J6 (m:Int)).toNat:=⟨_,rfl⟩
            rw [← hZ] at hst3
            have hown:=A3u (m:Int) (by omega) (by have:=HM.out;omega) w6
            have how0:0≤J6 (m:Int)∧J6 (m:Int)≤256:=by
             have:=HM.out
             unfold J6
             split <;> omega
            obtain ⟨ow,how⟩:∃ ow,ow=J6 (m:Int):=⟨_,rfl⟩
            rw [← how] at hown hZ how0
            obtain ⟨A,hA⟩:∃ A:Int,A=(pc:Int)+1:=⟨_,rfl⟩
            have hpcb:pc < 2199023255552:=by have:=hst3.1;have:=HPC.out;omega
            have a1:IntKind.i64.wrap ((pc:Int)+1)=A:=by rw [hA,IntKind.wrap_i64];omega
            have a2:IntKind.i64.wrap (A+ow)=(Z:Int):=by have:=HPC.out;rw [hA,IntKind.wrap_i64];omega
            have HH6:=hid h6
            have HST3:=hid hst3
            have HOWN:=hid hown
            clear hst2 hst3 h6 htl6 hjv6 ed hn hZ how how0 hA hpcb hown
            go_wp2_with fail
            refine HOWN.out.mono ?_
            rintro e w7 ⟨rfl,rfl⟩
            go_wp2_with fail
            go_roundg k1
            case rel=>exact ⟨own6,c6,{ f2 with next:=Z },S2,M6,n6,HH6.out.pc Z HST3.out.1,HTL6.out,HJV6.out,HST3.out.2⟩
            case measure=>have:=HK1.out;omega
           ·rw [if_neg (show ¬ f2.next=f.next from fun e=>hn (e.trans HPC.out.symm))] at hst2
            have HH6:=hid h6
            have HST3:=hid hst2
            clear hst2 h6 htl6 hjv6 ed
            obtain ⟨nx,hnx⟩:∃ nx,nx=f2.next:=⟨_,rfl⟩
            rw [← hnx] at q229 hn
            have hnI:((nx:Int) == (pc:Int))=false:=by simp;omega
            clear hnx hn
            go_wp2_with fail
            go_roundg k1
            case rel=>exact ⟨own6,c6,f2,S2,M6,n6,HH6.out,HTL6.out,HJV6.out,HST3.out⟩
            case measure=>have:=HK1.out;omega
end Go.Proofs.YtfflppedbopdpaaGreat
namespace Go.Proofs.YtfflppedbopdpaaGreat
open Go.RowKit Go.Mun
theorem A4n (l:List Ac) (a k:Nat):(A1m l a).slots k=0:=by
 have h:∀ (l:List Ac) (S:St),(∀ a k,(S a).slots k=0)→∀ a k,(l.foldl (fun S x=>Z9 S x.addr (A5W x)) S a).slots k=0:=by
  intro l
  induction l with
  | nil=>intro S hS;exact hS
  | cons x l ih =>
   intro S hS
   refine ih _ fun a k=>?_
   show (Z9 S x.addr (A5W x) a).slots k=0
   unfold Z9
   split
   ·rfl
   ·exact hS a k
 exact h l _ (fun _ _=>rfl) a k
theorem B4i (m:Msg) (a:Option Addr) (n k:Nat):Q3 129 (B8 (I0 m (.slice a n k)))=true:=by
 refine A0Y (N4 _ _) fun s hs=>?_
 simp only [I0,List.mem_cons,List.not_mem_nil,or_false] at hs
 rcases hs with rfl | rfl | rfl | rfl | rfl | rfl | rfl | rfl | rfl | rfl
 all_goals first | rfl | (rw [C4];exact D2 _ _)
theorem A6l {l:List (Nat × Nat)} (hp:(l.map Prod.fst).Pairwise (· < ·)) {q:Nat × Nat} (hq:q∈l):(I3 q.1 l)=some q.2:=by
 induction l with
 | nil=>cases hq
 | cons x l ih =>
  rw [List.map_cons,List.pairwise_cons] at hp
  rcases List.mem_cons.1 hq with rfl | h
  ·simp [I3]
  ·have h1:=hp.1 q.1 (List.mem_map.2 ⟨q,h,rfl⟩)
   have h2:=ih hp.2 h
   have hne:¬ x.1=q.1:=by omega
   simp [I3,hne,h2]
theorem B48 {S:St} {n:Nat} {L:List I7} {l:List Nat} (h:B1U S n L) (hl:B1V S l) (hz:∀ a k,(S a).slots k=0):L=l.map fun a=>⟨A6q a (S a),[]⟩:=by
 have h1:L.map (fun x=>x.ac.addr)=l:=by
  have hu:(L.map (fun x=>x.ac.addr)).Pairwise (· < ·):=h.up
  have n1:(L.map (fun x=>x.ac.addr)).Nodup:=hu.imp fun {a b} hlt=>by omega
  have n2:l.Nodup:=hl.1.imp fun {a b} hlt=>by omega
  refine List.Perm.eq_of_pairwise (le:=(· < ·)) ?_ hu hl.1 ((List.perm_ext_iff_of_nodup n1 n2).2 fun a=>?_)
  ·intro a b _ _ h1 h2;omega
  ·rw [hl.2 a]
   constructor
   ·intro ha
    obtain ⟨x,hx,rfl⟩:=List.mem_map.1 ha
    exact ⟨(h.well x hx).1.addr,(h.acc x hx).2⟩
   ·rintro ⟨_,h2⟩
    obtain ⟨x,hx,e⟩:=h.all a h2
    exact List.mem_map.2 ⟨x,hx,e⟩
 have h2:∀ x∈L,x=⟨A6q x.ac.addr (S x.ac.addr),[]⟩:=by
  intro x hx
  have e1:=(h.acc x hx).1
  have hw:=h.well x hx
  have hs:x.slots = []:=by
   cases hsl:x.slots with
   | nil=>rfl
   | cons q r =>
    exfalso
    have hm:q∈x.slots:=by rw [hsl];exact List.mem_cons_self
    have e2:=A6l hw.2.2.1 hm
    have e3:x.acc.slots q.1=q.2:=by unfold I7.acc;simp [e2]
    rw [e1,hz] at e3
    exact hw.2.2.2 q hm e3.symm
  obtain ⟨⟨a,nn,b,cd⟩,sl⟩:=x
  simp only at hs
  subst hs
  have hn:=hw.1.nonce.1
  simp only at e1 hn
  show (⟨⟨a,nn,b,cd⟩,[]⟩:I7)=⟨A6q a (S a),[]⟩
  rw [← e1]
  unfold A6q I7.acc
  simp only [I7.mk.injEq,Ac.mk.injEq,and_true,true_and]
  omega
 rw [← h1,List.map_map]
 conv=>lhs;rw [← List.map_id L]
 exact List.map_congr_left h2
theorem B0N {S:St} {cs:List (Nat × Value)}:I1 (cs.map (B49 S))=(cs.map Prod.fst).map fun a=>⟨A6q a (S a),[]⟩:=by
 unfold I1
 rw [List.map_map,List.map_map]
 rfl
def A2h (a b:J1):List Ac:=[⟨1,0,1000,a⟩,⟨2,1,1000,b⟩,⟨3,0,1000,[]⟩]
theorem B7h (a b:J1):A1m (A2h a b) 3=⟨0,1000,[],fun _=>0⟩:=by rfl
theorem B7i (a b:J1):A1m (A2h a b) 1=⟨0,1000,a,fun _=>0⟩:=by rfl
def B4j (a b:J1) (v:Nat):St:=((A1m (A2h a b)).setBal 3 (1000 - v)).setBal 1 (1000+v)
theorem B6Y (a b:J1) (v:Nat) (hv:v≤1000):(A1m (A2h a b)).move 3 1 v=some (B4j a b v):=by
 have e:wW=115792089237316195423570985008687907853269984665640564039457584007913129639936:=by unfold wW;decide
 unfold St.move
 rw [B7h,B7i]
 rw [if_neg (by show ¬ 1000 < v;omega),if_neg (by decide),if_neg (by show ¬ wW≤1000+v;omega)]
 rfl
theorem A3p {S:St} (h:∀ a k,(S a).slots k=0) (x n:Nat):∀ a k,((S.setBal x n) a).slots k=0:=by
 intro a k
 unfold St.setBal Z9
 split
 ·exact h x k
 ·exact h a k
theorem B0c (a b:J1) (v:Nat):∀ x k,(B4j a b v x).slots k=0:=A3p (A3p (A4n _) _ _) _ _
theorem B4P (a b:Nat) (p:Option Addr) (k c:Nat) (x:Int):F8 55 (N8 L8) (B8 L8) [(0,.agg (A3 20 a).toArray),(2,.agg (A3 32 b).toArray),(3,.slice p k c),(1,.int .i64 x)]=some (B8 (Q8 ⟨a,x,b,[]⟩ (.slice p k c) (.slice none 0 0))):=by
 rw [F7 _ _ _ W4]
 ·rfl
 ·rw [B0f]
  refine C0 ?_ (C0 ?_ (C0 rfl (C0 rfl (L0 _))))
  ·show some 20=some (A3 20 a).length;rw [C4]
  ·show some 32=some (A3 32 b).length;rw [C4]
theorem B7A:A1l Tryz.prog 45 35 55 3 (B8 [B8 L8,B8 L8,B8 L8]):=⟨Tryz.underlying45,⟨_,.agg (B8 L8).toArray,rfl,by kernel_rfl,by kernel_rfl,by kernel_rfl⟩,by decide,by kernel_rfl,by decide⟩
def A5I (p:List (Nat × Value)):Option (List Value):=F8 (3*55) ((List.range 3).map fun i=>(i*55,55)) (B8 [B8 L8,B8 L8,B8 L8]) p
theorem B8q (ρ:Operand→Value) (dst:Option Tmp) (x y z:Operand) (t:TypeId) (pos:String) (after:Array Edge) (gd:Option (Nat × Bool)) (w:World) :
  (execOp ρ ⟨dst,.buildSlice 45 3 #[(0,x),(1,y),(2,z)],t,pos,after,gd⟩).run Tryz.prog w=E7 (A4w Tryz.prog 45 35 3 [(0,ρ x),(1,ρ y),(2,ρ z)] w (A5I [(0,ρ x),(1,ρ y),(2,ρ z)])):=
 A05 ρ dst t pos after gd w B7A [(0,x),(1,y),(2,z)]
theorem A7Z (a b c:List Value) (ha:a.length=55) (hb:b.length=55) (hc:c.length=55):A5I [(0,.agg a.toArray),(1,.agg b.toArray),(2,.agg c.toArray)]=some (B8 [a,b,c]):=by
 unfold A5I
 have h1:A1n [B8 L8,B8 L8,B8 L8] = [55,55,55]:=by kernel_rfl
 have h3:N8 [B8 L8,B8 L8,B8 L8]=(List.range 3).map fun i=>(i*55,55):=by kernel_rfl
 rw [← h3,F7 _ _ _ (by kernel_rfl)]
 ·rfl
 ·rw [h1]
  refine C0 ?_ (C0 ?_ (C0 ?_ (L0 _)))
  ·show some 55=some a.length;rw [ha]
  ·show some 55=some b.length;rw [hb]
  ·show some 55=some c.length;rw [hc]
attribute [go_sem ↓] B8q
theorem B1k {w:World} {av bv:Value} {a b:J1} (ha:J3 w (fun _=>False) av a) (hbx:J3 w (fun _=>False) bv b) :
  Calls Tryz.prog 16 #[av,bv] w fun e w' => ∃ g,e = .returned (.slice (some ⟨g,0,none⟩) 3 3)∧Below w.heap.size w w'∧∀ i (hi:i < (A2h a b).length),A6t w' g (0+i*55) (A2h a b)[i]:=by
 obtain ⟨⟨ca,cc,rfl,hci,hcx⟩,hcb,hcl⟩:=ha
 obtain ⟨⟨da,dc,rfl,hdi,hdx⟩,hdb,hdl⟩:=hbx
 have HC:Hid (J3 w (fun _=>False) (.slice ca a.length cc) a):=⟨⟨ca,cc,rfl,hci,hcx⟩,hcb,hcl⟩
 have HD:Hid (J3 w (fun _=>False) (.slice da b.length dc) b):=⟨⟨da,dc,rfl,hdi,hdx⟩,hdb,hdl⟩
 have o1:ofW 1000=1000:=by kernel_rfl
 have N1:=hid (fun w=>Y5 1 (by decide) w)
 have N2:=hid (fun w=>Y5 2 (by decide) w)
 have N3:=hid (fun w=>Y5 3 (by decide) w)
 have O1:=hid (fun w=>A3Y 1000 (by decide) (by decide) w)
 rw [o1] at O1
 have b1:=A9t 1 1000 ca a.length cc
 have b2:=B4P 2 1000 da b.length dc 1
 have b3:=A9s 3 1000
 obtain ⟨X,hX⟩:∃ X,X=B8 (Q8 ⟨1,0,1000,[]⟩ (.slice ca a.length cc) (.slice none 0 0)):=⟨_,rfl⟩
 obtain ⟨Y,hY⟩:∃ Y,Y=B8 (Q8 ⟨2,1,1000,[]⟩ (.slice da b.length dc) (.slice none 0 0)):=⟨_,rfl⟩
 obtain ⟨Z,hZ⟩:∃ Z,Z=B8 (Q8 ⟨3,0,1000,[]⟩ (.slice none 0 0) (.slice none 0 0)):=⟨_,rfl⟩
 have lX:X.length=55:=by rw [hX];exact K0 _ _ _
 have lY:Y.length=55:=by rw [hY];exact K0 _ _ _
 have lZ:Z.length=55:=by rw [hZ];exact K0 _ _ _
 have bf:=A7Z X Y Z lX lY lZ
 rw [← hX] at b1
 rw [← hY] at b2
 rw [← hZ] at b3
 have HX:=hid hX
 have HY:=hid hY
 have HZ:=hid hZ
 clear hci hcx hcb hcl hdi hdx hdb hdl o1 hX hY hZ
 go_enter Tryz.func16,Tryz.ntmps16
 go_wp2_with fail
 refine (N1.out _).mono ?_
 rintro e w1 ⟨rfl,h1⟩
 have B1:=hid h1
 clear h1
 go_wp2_with fail
 refine (O1.out _).mono ?_
 rintro e w2 ⟨rfl,h2⟩
 have B2:Hid (Below w.heap.size w w2):=B1.out.trans (h2.mono B1.out.size)
 clear h2
 go_wp2_with fail
 refine (N2.out _).mono ?_
 rintro e w3 ⟨rfl,h3⟩
 have B3:Hid (Below w.heap.size w w3):=B2.out.trans (h3.mono B2.out.size)
 clear h3
 go_wp2_with fail
 refine (O1.out _).mono ?_
 rintro e w4 ⟨rfl,h4⟩
 have B4:Hid (Below w.heap.size w w4):=B3.out.trans (h4.mono B3.out.size)
 clear h4
 go_wp2_with fail
 refine (N3.out _).mono ?_
 rintro e w5 ⟨rfl,h5⟩
 have B5:Hid (Below w.heap.size w w5):=B4.out.trans (h5.mono B4.out.size)
 clear h5
 go_wp2_with fail
 refine (O1.out _).mono ?_
 rintro e w6 ⟨rfl,h6⟩
 have B6:Hid (Below w.heap.size w w6):=B5.out.trans (h6.mono B5.out.size)
 clear h6
 go_wp2
 go_ret
 refine ⟨_,rfl,B6.out.alloc B6.out.size _,fun i hi=>?_⟩
 have r:=World.row?_alloc_at (w:=w6) (B8 [X,Y,Z]) 35 (0,0) rfl (n:=165) (by rw [G7,G7,G7,lX,lY,lZ];rfl)
 have hb2:=B6.out.alloc B6.out.size (.cells (B8 [X,Y,Z]).toArray 35)
 match i,hi with
 | 0,_=>exact ⟨⟨_,by rw [I5 r (i:=0) rfl (by simp [A4]) lX.symm,HX.out];rfl,HC.out.below hb2⟩,by show 1 < wA;decide,by show 1000 < wW;decide,by show (0:Int)≤_;decide⟩
 | 1,_=>exact ⟨⟨_,by rw [I5 r (i:=1) rfl (by simp [A8,A4,lX]) lY.symm,HY.out];rfl,HD.out.below hb2⟩,by show 2 < wA;decide,by show 1000 < wW;decide,by show (1:Int)≤_;decide⟩
 | 2,_=>exact ⟨⟨_,by rw [I5 r (i:=2) rfl (by simp [A8,A4,lX,lY]) lZ.symm,HZ.out];rfl,V1 _ _⟩,by show 3 < wA;decide,by show 1000 < wW;decide,by show (0:Int)≤_;decide⟩
 | i+3,hi=>exact absurd hi (by simp [A2h])
theorem B4Q (g:Int):F8 129 (N8 A2R) (B8 A2R) [(1,.agg (A3 20 3).toArray),(2,.agg (A3 20 1).toArray),(7,.int .i64 g)]=some (B8 (I0 ⟨0,3,1,0,0,0,[],g,0,false⟩ (.slice none 0 0))):=by
 rw [F7 _ _ _ A3e]
 ·rfl
 ·rw [B4q]
  refine C0 ?_ (C0 ?_ (C0 rfl (L0 _)))
  ·show some 20=some (A3 20 3).length;rw [C4]
  ·show some 20=some (A3 20 1).length;rw [C4]
theorem B1l (g:Int) (w:World):Calls Tryz.prog 19 #[.int .i64 g] w fun e w'=>e = .returned (.agg (B8 (I0 ⟨0,3,1,0,0,0,[],g,0,false⟩ (.slice none 0 0))).toArray)∧Below w.heap.size w w':=by
 have N1:=hid (fun w=>Y5 1 (by decide) w)
 have N3:=hid (fun w=>Y5 3 (by decide) w)
 have hbld:=B4Q g
 have hok:=B4i ⟨0,3,1,0,0,0,[],g,0,false⟩ none 0 0
 have hl:=N4 ⟨0,3,1,0,0,0,[],g,0,false⟩ (.slice none 0 0)
 obtain ⟨C,hC⟩:∃ C,C=B8 (I0 ⟨0,3,1,0,0,0,[],g,0,false⟩ (.slice none 0 0)):=⟨_,rfl⟩
 rw [← hC] at hbld hok hl ⊢
 have HC:=hid hC
 have hz:(B8 A2R).length=129:=A3e
 have hf:(w.alloc (.cells (B8 A2R).toArray 37)).free? w.heap.size 0 129=true:=World.free?_alloc_at _ _ rfl (by rw [hz];omega)
 have hb0:Below w.heap.size w (w.alloc (.cells (B8 A2R).toArray 37)):=(Below.refl _ _).alloc (Nat.le_refl _) _
 have HF:=hid hf
 have HB0:=hid hb0
 clear hC hf hb0 hz
 go_enter Tryz.func19,Tryz.ntmps19
 go_wp2_with fail
 refine (N3.out _).mono ?_
 rintro e w1 ⟨rfl,h1⟩
 have f1:Hid (w1.free? w.heap.size 0 129=true):=((C7 h1).2 _ _ _ (C1 HF.out)).trans HF.out
 have B1:Hid (Below w.heap.size w w1):=HB0.out.trans (h1.mono HB0.out.size)
 clear h1
 go_wp2_with fail
 refine (N1.out _).mono ?_
 rintro e w2 ⟨rfl,h2⟩
 have f2:=((C7 h2).2 _ _ _ (C1 f1.out)).trans f1.out
 have B2:Hid (Below w.heap.size w w2):=B1.out.trans (h2.mono B1.out.size)
 clear h2
 go_wp2
 exact I2 B7f rfl _ rfl rfl f2 hok ⟨rfl,B2.out.setCells (Nat.le_refl _) _ _⟩
theorem B4T (g e:Int):F8 24 (N8 L3) (B8 L3) [(0,.int .i64 g),(1,.int .i64 e)]=some (B8 (F3 ⟨g,e,[],[],0⟩ (.slice none 0 0) (.slice none 0 0))):=by
 rw [F7 _ _ _ K1]
 ·rfl
 ·rw [A7R]
  exact C0 rfl (C0 rfl (L0 _))
theorem B4S (g:Int) (a b:Option Addr) (k kc j jc:Nat) :
  F8 24 (N8 L3) (B8 L3) [(0,.int .i64 g),(2,.slice a k kc),(3,.slice b j jc)]=some (B8 (F3 ⟨g,0,[],[],0⟩ (.slice a k kc) (.slice b j jc))):=by
 rw [F7 _ _ _ K1]
 ·rfl
 ·rw [A7R]
  exact C0 rfl (C0 rfl (C0 rfl (L0 _)))
theorem B4Y (w:World):(w.alloc (.cells (B8 L3).toArray 41)).free? w.heap.size 0 24=true:=World.free?_alloc_at _ _ rfl (by rw [K1];omega)
theorem A94 (g x:Int) (w:World):Calls Tryz.prog 64 #[.int .i64 g,.int .i64 x] w fun e w'=>e = .returned (.agg (B8 (F3 ⟨g,x,[],[],0⟩ (.slice none 0 0) (.slice none 0 0))).toArray)∧Below w.heap.size w w':=by
 have hf:=B4Y w
 have hbld:=B4T g x
 have hok:=N7 ⟨g,x,[],[],0⟩ none none 0 0 0 0
 go_enter Tryz.func64,Tryz.ntmps64
 go_wp2
 exact I2 A2T rfl _ rfl rfl hf hok ⟨rfl,((Below.refl _ _).alloc (Nat.le_refl _) _).setCells (Nat.le_refl _) _ _⟩
theorem B2t {E:U3} {w:World} {own:Go.Mun.Own} {c:RFV} {f:Fr} {S:St} {M:List (Nat × St)} {n:Nat} (x:Int) (h:C9 E w own c f S M n) :
  Calls Tryz.prog 72 #[.pointer (some ⟨E.fb,0,none⟩),.int .i64 0,.int .i64 x] w fun e w'=>e = .returned (.agg (B8 (F3 ⟨f.gas,0,f.out,f.logs,0⟩ c.out c.lv)).toArray)∧Below w.heap.size w w':=by
 obtain ⟨lcs,hlo,_⟩:=h.logs
 obtain ⟨la,lc,hlv⟩:=E9 hlo
 obtain ⟨⟨oa,oc,hov,_,_⟩,_,_⟩:=h.out
 have c228:=A92 h.row
 have c233:=B3U h.row
 have c234:=B6U h.row
 rw [hov] at c233
 rw [hlv] at c234
 have hlt:=h.lt
 have hf:=B4Y w
 have hbld:=B4S f.gas oa la f.out.length oc f.logs.length lc
 have hok:=N7 ⟨f.gas,0,f.out,f.logs,0⟩ oa la f.out.length oc f.logs.length lc
 rw [hov,hlv]
 obtain ⟨W,hW⟩:∃ W,W=w.alloc (.cells (B8 L3).toArray 41):=⟨_,rfl⟩
 have q228:W.drew.cell? ⟨E.fb,228,none⟩=some (.int .i64 f.gas):=by rw [hW];exact (World.cell?_alloc_past _ _ _ hlt).trans c228
 have q233:W.drew.cell? ⟨E.fb,233,none⟩=some (.slice oa f.out.length oc):=by rw [hW];exact (World.cell?_alloc_past _ _ _ hlt).trans c233
 have q234:W.drew.cell? ⟨E.fb,234,none⟩=some (.slice la f.logs.length lc):=by rw [hW];exact (World.cell?_alloc_past _ _ _ hlt).trans c234
 have hfd:W.drew.free? w.heap.size 0 24=true:=by rw [hW];exact hf
 have HB:Hid (Below w.heap.size w W.drew):=by rw [hW];exact ((Below.refl _ _).alloc (Nat.le_refl _) _).drew
 have HW:=hid hW
 clear h hlv hov c228 c233 c234 hlt hf hW
 go_enter Tryz.func72,Tryz.ntmps72
 go_wp2_with fail
 rw [← HW.out]
 go_still_tail 13,(by kernel_rfl)
 go_wp2
 exact I2 A2T rfl _ rfl rfl hfd hok ⟨rfl,HB.out.setCells (Nat.le_refl _) _ _⟩
def tl0:List Value:=L6 (List.replicate 256 A32)
theorem B0Y:tl0.length=1280:=by unfold tl0;rw [A1O,List.length_replicate]
def A2Y:List (List Value):=[[.pointer none],B8 A2R,B8 A7i,A3 20 0,[.slice none 0 0],[.slice none 0 0],A3 32 0,[.bool false],[.int .i64 0],[.int .i64 0],[.slice none 0 0],[.slice none 0 0],[.slice none 0 0],[.slice none 0 0],[.slice none 0 0],[.bool false],tl0]
theorem B6h:A1n A2Y = [1,129,43,20,1,1,32,1,1,1,1,1,1,1,1,1,1280]:=by kernel_rfl
theorem A6v:(B8 A2Y).length=1516:=by kernel_rfl
theorem B7p:P1 Tryz.prog 145 1516 (B8 A2Y) (N8 A2Y):=⟨⟨_,_,rfl,Tryz.underlying145,by kernel_rfl,by kernel_rfl⟩,A6v⟩
theorem B9J (ρ:Operand→Value) (dst:Option Tmp) (parts:List (Nat × Operand)) (t:TypeId) (pos:String) (after:Array Edge) (gd:Option (Nat × Bool)) (w:World):(execOp ρ ⟨dst,.build 145 parts.toArray,t,pos,after,gd⟩).run Tryz.prog w=E7 (V8 Tryz.prog 145 (parts.map fun p=>(p.1,ρ p.2)) w (F8 1516 (N8 A2Y) (B8 A2Y) (parts.map fun p=>(p.1,ρ p.2)))):=P9 ρ dst t pos after gd w B7p parts
theorem B4W (sb:Nat) (m:Msg) (dv:Value) (cx:Ctx) (a v:Nat) (d:Option Addr) (k kc:Nat) (s:Bool) (g:Int) :
  F8 1516 (N8 A2Y) (B8 A2Y) [(0,.pointer (some ⟨sb,0,none⟩)),(1,.agg (B8 (I0 m dv)).toArray),(2,.agg (B8 (A1o cx)).toArray),(3,.agg (A3 20 a).toArray),(5,.slice d k kc),(6,.agg (A3 32 v).toArray),(7,.bool s),(8,.int .i64 g)] =
   some (B8 [[.pointer (some ⟨sb,0,none⟩)],B8 (I0 m dv),B8 (A1o cx),A3 20 a,[.slice none 0 0],[.slice d k kc],A3 32 v,[.bool s],[.int .i64 g],[.int .i64 0],[.slice none 0 0],[.slice none 0 0],[.slice none 0 0],[.slice none 0 0],[.slice none 0 0],[.bool false],tl0]):=by
 rw [F7 _ _ _ A6v]
 ·rfl
 ·rw [B6h]
  refine C0 rfl (C0 ?_ (C0 ?_ (C0 ?_ (C0 rfl (C0 ?_ (C0 rfl (C0 rfl (L0 _))))))))
  ·show some 129=some (B8 (I0 m dv)).length;rw [N4]
  ·show some 43=some (B8 (A1o cx)).length;rw [A1T]
  ·show some 20=some (A3 20 a).length;rw [C4]
  ·show some 32=some (A3 32 v).length;rw [C4]
attribute [go_sem ↓] B9J
theorem A1y {own:Go.Mun.Own} {i:Nat} (h:own i=none):¬ hot own i:=fun h2=>h2.1 h
structure A2A (w:World) (own0:Go.Mun.Own) (m:Msg) (dv:Value) (cx:Ctx) (W:World) (own:Go.Mun.Own) (sb:Nat) (S:St) (M:List (Nat × St)) (n:Nat):Prop where
 t4:W.row? w.heap.size 0 129=some (B8 (I0 m dv))
 t5:W.row? (w.heap.size+1) 0 43=some (B8 (A1o cx))
 t6:W.free? (w.heap.size+1+1) 0 24=true
 o4:own w.heap.size=none
 o5:own (w.heap.size+1)=none
 o6:own (w.heap.size+1+1)=none
 st:RState W own sb S M n
 chg:K8 w W own0 own
section
variable {w W W':World} {own0 own own':Go.Mun.Own} {m:Msg} {dv:Value} {cx:Ctx} {sb n n':Nat} {S S':St} {M M':List (Nat × St)}
theorem A2A.go (h:A2A w own0 m dv cx W own sb S M n) (st:RState W' own' sb S' M' n') (c:K8 W W' own own'):A2A w own0 m dv cx W' own' sb S' M' n':=
 ⟨(c.only.row? (World.row?_lt h.t4) (A1y h.o4)).trans h.t4,(c.only.row? (World.row?_lt h.t5) (A1y h.o5)).trans h.t5,(c.only.free? (C1 h.t6) (A1y h.o6)).trans h.t6,
  (c.ext _ (World.row?_lt h.t4)).trans h.o4,(c.ext _ (World.row?_lt h.t5)).trans h.o5,(c.ext _ (C1 h.t6)).trans h.o6,st,h.chg.trans c⟩
theorem A2A.below (h:A2A w own0 m dv cx W own sb S M n) (hb:Below W.heap.size W W'):A2A w own0 m dv cx W' own sb S M n:=h.go (h.st.below hb) (K8.below own hb)
theorem A2A.box (h:A2A w own0 m dv cx W own sb S M n) {b:Nat} (hb:w.heap.size+1+1 < b) (ho:own b=none) (h1:A0 (· = b) W W'):A2A w own0 m dv cx W' own sb S M n:=
 ⟨(h1.row? (World.row?_lt h.t4) (by omega)).trans h.t4,(h1.row? (World.row?_lt h.t5) (by omega)).trans h.t5,(h1.free? (C1 h.t6) (by omega)).trans h.t6,
  h.o4,h.o5,h.o6,h.st.only h1 (fun c hc=>by have e:c=b:=hc;rw [e];exact ho),⟨h.chg.ext,h.chg.only.trans h1 (fun i hi he=>by have:i=b:=hi;omega)⟩⟩
theorem A2A.start (h:RState w own sb S M n):A2A w own m dv cx (((w.alloc (.cells (B8 (I0 m dv)).toArray 37)).alloc (.cells (B8 (A1o cx)).toArray 64)).alloc (.cells (B8 L3).toArray 41)) own sb S M n:=by
 have hb:Below w.heap.size w (((w.alloc (.cells (B8 (I0 m dv)).toArray 37)).alloc (.cells (B8 (A1o cx)).toArray 64)).alloc (.cells (B8 L3).toArray 41)):=(((Below.refl _ _).alloc (Nat.le_refl _) _).alloc (by simp) _).alloc (by simp;omega) _
 refine ⟨?_,?_,?_,X8 h (Nat.le_refl _),X8 h (by omega),X8 h (by omega),h.below hb,K8.below own hb⟩
 ·rw [World.row?_alloc_lt _ (by simp;omega),World.row?_alloc_lt _ (by simp)];exact World.row?_alloc_at _ _ _ rfl (N4 m dv)
 ·rw [World.row?_alloc_lt _ (by simp)];exact World.row?_alloc_at _ _ _ (by simp) (A1T cx)
 ·exact World.free?_alloc_at _ _ (by simp) (by rw [K1];omega)
end
structure FrB (E:U3) (c:RFV) (f:Fr) (W:World) (own:Go.Mun.Own):Prop where
 row:W.row? E.fb 0 1516=some (B8 (rfS E c f))
 free:W.free? E.fb 0 1516=true
 fown:own E.fb=none
 base:E.w0.heap.size≤E.fb
 chg:K8 E.w0 W E.own0 own
section
variable {E:U3} {c:RFV} {f:Fr} {W W':World} {own own':Go.Mun.Own}
theorem FrB.lt (h:FrB E c f W own):E.fb < W.heap.size:=World.row?_lt h.row
theorem FrB.go (h:FrB E c f W own) (g:K8 W W' own own'):FrB E c f W' own':=
 ⟨(g.only.row? h.lt (A1y h.fown)).trans h.row,(g.only.free? h.lt (A1y h.fown)).trans h.free,(g.ext _ h.lt).trans h.fown,h.base,h.chg.trans g⟩
theorem FrB.code (h:FrB E c f W own) (v:Value):FrB E { c with code:=v } f (W.setCell ⟨E.fb,193,none⟩ v) own:=by
 have ho:=C6 W E.fb 193 v
 refine ⟨A91 v h.row,by rw [D1 _ (World.free?_sub h.free (by omega))];exact h.free,h.fown,h.base,⟨h.chg.ext,h.chg.only.trans ho (fun i hi he=>by have:i=E.fb:=hi;have:=h.base;omega)⟩⟩
end
def A8G (cv dv:Value):RFV:=⟨cv,dv,.slice none 0 0,.slice none 0 0,.slice none 0 0,.slice none 0 0,.slice none 0 0,.nilFunc,tl0⟩
theorem B2f {E:U3} {cv dv:Value} {m:Msg} {code:J1} {W w:World} {own own00:Go.Mun.Own} {S:St} {M T:List (Nat × St)} {n:Nat} (h:FrB E (A8G cv dv) (P3 m code) W own) (hst:RState W own E.sb S M n) (hc:Q2 W own cv code)
  (hd:J3 w (hot own00) dv m.data) (hw:K8 w W own00 own) (hfb:w.heap.size≤E.fb) (hm:A1X m) (hM:M=E.M0++T) (hcnt:n+m.gas.toNat≤E.N) (hlim:E.N≤999000):C9 E W own (A8G cv dv) (P3 m code) S M n:=by
 have hrm:∀ b,rmu own E.fb (A8G cv dv) b→hot own b∨b=E.fb:=by
  rintro b (h1 | h1 | h1 | h1 | h1)
  ·exact .inl h1
  ·exact .inr h1
  ·cases h1
  ·cases h1
  ·cases h1
 refine { row := h.row, free := h.free, tlen := B0Y, base := h.base, fown := h.fown, chg := h.chg, mok := hm, stk := World.ownsRow_nil _ _ _ _, sown := fun g hg => (by cases hg), sval := fun x hx => (by cases hx), slen := Nat.zero_le _, mem := World.ownsRow_nil _ _ _ _, mown := fun g hg => (by cases hg),
          mbyte:=fun x hx=>(by cases hx),mlen:=⟨Nat.zero_le _,rfl⟩,logs:=⟨[],World.ownsRow_nil _ _ _ _,.nil⟩,lown:=fun g hg=>(by cases hg),code:=?_,data:=?_,out:=V1 _ _,told:=V1 _ _,jmp:=fun hj=>absurd rfl hj,st:=hst,ms:=⟨T,hM⟩,cnt:=hcnt,lim:=hlim,nxt:=Nat.zero_le _ }
 ·obtain ⟨⟨a,k,h1,h2,h3⟩,hb,hl⟩:=hc
  refine ⟨⟨a,k,h1,h2,fun hn p hp hx=>?_⟩,hb,hl⟩
  have hlab:=h3 hn p hp
  rcases hrm _ hx with h4 | h4
  ·exact h4.2.1 hlab
  ·rw [h4,h.fown] at hlab;cases hlab
 ·exact hd.only hw.only (fun _ h=>h) fun b hb hx=>by
   rcases hrm b hx with h4 | h4
   ·unfold hot at *;rw [← hw.ext b hb];exact h4
   ·omega
end Go.Proofs.YtfflppedbopdpaaGreat
namespace Go.Proofs.YtfflppedbopdpaaGreat
open Go.RowKit Go.Mun
attribute [local irreducible] A0o
end Go.Proofs.YtfflppedbopdpaaGreat
namespace Go.Proofs.YtfflppedbopdpaaGreat
open Go.RowKit Go.Mun
theorem _root_.Go.Mun.RState.bal {w:World} {own:Go.Mun.Own} {sb n:Nat} {S:St} {M:List (Nat × St)} (h:RState w own sb S M n) (a:Nat):(S a).bal < wW:=by
 obtain ⟨lv,mv,ps,ms,k,h1,h2,_,hw,_,_⟩:=h
 by_cases e:∃ x∈I1 ps,x.ac.addr=a
 ·obtain ⟨x,hx,rfl⟩:=e
  obtain ⟨p,hp,rfl⟩:=List.mem_map.1 hx
  obtain ⟨i,hi⟩:=List.mem_iff_getElem?.1 hp
  have:=A3q h1.up (i:=i) (x:=p.1) (by rw [List.getElem?_map,hi];rfl)
  have e2:S p.1.ac.addr=p.1.acc:=by rw [h2];exact this
  rw [e2]
  exact (h1.arr.ok p hp).bal
 ·rw [h2,A3r (fun x hx e2=>e ⟨x,hx,e2⟩)]
  show 0 < wW
  decide
attribute [local irreducible] A2Y tl0
end Go.Proofs.YtfflppedbopdpaaGreat
namespace Go.Proofs.YtfflppedbopdpaaGreat
open Go.RowKit Go.Mun
theorem B1v {P:Program} (ρ:Operand→Value) (dst:Option Tmp) (x y:Operand) (t t2 ty:TypeId) (pos:String) (after:Array Edge) (gd:Option (Nat × Bool)) (w:World) {xs ys:Array Value} {r:Bool} (hm:P.eqGuardType P.depth t=false) (hx:ρ x = .agg xs) (hy:ρ y = .agg ys)
  (h:(binOp .eql t (.agg xs) (.agg ys)).run P w = .ok (.bool r) w):(execOp ρ ⟨dst,.binOp .eql t x y t2,ty,pos,after,gd⟩).run P w = .ok (.value (.bool r)) w:=by
 simp [execOp,hx,hy,Sem.run_bind,run_eqGuard_agg (hm:=hm),h]
theorem B4D:Tryz.prog.eqGuardType Tryz.prog.depth 23=false:=by kernel_rfl
theorem A2G {w:World} {b o:Nat} {oc:A1q} {ov lv:Value} (h:w.row? b o 24=some (B8 (F3 oc ov lv))):w.cell? ⟨b,o+2,none⟩=some ov:=C8 h (i:=2) rfl (by simp [F3,A8,A4])
theorem W6 {w:World} {b o:Nat} {oc:A1q} {ov lv:Value} (h:w.row? b o 24=some (B8 (F3 oc ov lv))):w.cell? ⟨b,o+3,none⟩=some lv:=C8 h (i:=3) rfl (by simp [F3,A8,A4])
theorem A1K {w:World} {b o:Nat} {oc:A1q} {ov lv:Value} (h:w.row? b o 24=some (B8 (F3 oc ov lv))):w.row? b (o+4) 20=some (A3 20 oc.addr):=I5 h (i:=4) rfl (by simp [F3,A8,A4]) (by simp)
end Go.Proofs.YtfflppedbopdpaaGreat
namespace Go.Proofs.YtfflppedbopdpaaGreat
open Go.RowKit Go.Mun
theorem B2l {P:Program} {fn:Func} {R:Ending→World→Prop} {a:Act} {w:World} {p q q2 ty n b:Nat} (hT:V3 P ty n) (hres:fn.results = #[.cell p ty,.tmp q,.tmp q2]) (L:List Value) (x y:Value)
  (hp:a.tmps.getD p undef = .pointer (some ⟨b,0,none⟩)) (hq:a.tmps.getD q undef=x) (hq2:a.tmps.getD q2 undef=y) (hd:a.defers = []) (hr:w.row? b 0 n=some L) (hR:R (.returned (.tuple #[.agg L.toArray,x,y])) w) :
  bodyPost P fn R .ret a w:=by
 refine ⟨hd,_,?_,hR⟩
 obtain ⟨d,hu,hd⟩:=hT.desc
 have hp':a.tmps[p]?.getD undef = .pointer (some ⟨b,0,none⟩):=by simpa using hp
 have hq':a.tmps[q]?.getD undef=x:=by simpa using hq
 have hq2':a.tmps[q2]?.getD undef=y:=by simpa using hq2
 simp [results,hres,hp',hq',hq2',asAddr,run_loadVar_mid w b 0 ty L d (World.row?_rangeAt hr) hu hd (by rw [World.row?_len hr];exact hT.size)]
theorem J3.weak {w:World} {X X':Nat→Prop} {v:Value} {l:J1} (h:J3 w X v l) (hX:∀ b,b < w.heap.size→X' b→X b):J3 w X' v l:=h.only (R:=fun _=>False) (A0.refl _ _) (fun _ h=>h.elim) hX
theorem B6H (W:World) (C:List Value) (h:Q3 24 C=true):Below W.heap.size W ((W.alloc (.cells (B8 L3).toArray 41)).setCells W.heap.size 0 C)∧((W.alloc (.cells (B8 L3).toArray 41)).setCells W.heap.size 0 C).row? W.heap.size 0 24=some C∧(W.alloc (.cells (B8 L3).toArray 41)).free? W.heap.size 0 24=true:=by
 have hf:(W.alloc (.cells (B8 L3).toArray 41)).free? W.heap.size 0 24=true:=World.free?_alloc_at _ _ rfl (by rw [K1];omega)
 exact ⟨((Below.refl _ _).alloc (Nat.le_refl _) _).setCells (Nat.le_refl _) _ _,B7 C hf h,hf⟩
end Go.Proofs.YtfflppedbopdpaaGreat
namespace Go.Proofs.YtfflppedbopdpaaGreat
open Go.RowKit Go.Mun
theorem B6u (t n:Nat) (hn:n≤1048576) (w:World):Calls Tryz.prog 385 #[.int .i64 t,.int .i64 n] w fun e w'=>e = .returned (.int .i64 ((8*n:Nat):Int))∧w'=w:=by
 have h1:(if (0:Int) < (n:Int) then (n:Int) else 0)=n:=by split <;> omega
 have h2:max (0:Int) (n:Int)=n:=by omega
 have h3:IntKind.i64.wrap (8*(n:Int))=8*(n:Int):=U6 _ (by omega) (by omega)
 have e:((8*n:Nat):Int)=8*(n:Int):=by omega
 rw [e]
 clear e hn
 go_enter Tryz.func385,Tryz.ntmps385
 go_wp2
 go_ret
 exact ⟨rfl,rfl⟩
end Go.Proofs.YtfflppedbopdpaaGreat
namespace Go.Proofs.YtfflppedbopdpaaGreat
open Go.RowKit Go.Mun
variable {E:U3} {w w1:World} {own:Go.Mun.Own} {c:RFV} {f:Fr} {S:St} {M:List (Nat × St)} {n:Nat}

theorem B3T {w:World} {E:U3} {c:RFV} {f:Fr} (x:Value) (l:List Lg) (h:w.row? E.fb 0 1516=some (B8 (rfS E c f))):(w.setCell ⟨E.fb,234,none⟩ (x)).row? E.fb 0 1516=some (B8 (rfS E ({ c with lv:=x }) ({ f with logs:=l }))):=E8 h (i:=14) rfl _ (by simp [rfS,A8,A4])
theorem _root_.Go.Mun.RFrOk_memory {mv':Value} {m':J1} (h:C9 E w own c f S M n) (ho:A0 (fun g=>c.mv.ownBlock=some g) w w1) (hr:w1.ownsRow 0 5 1 mv' m'.length (m'.map (Value.int .u8)))
  (hl:∀ g,mv'.ownBlock=some g→c.mv.ownBlock=some g∨w.heap.size≤g) (hby:Byt m') (hlen:m'.length≤1048576∧m'.length % 32=0) :
  C9 E (w1.setCell ⟨E.fb,231,none⟩ mv') own { c with mv:=mv' } { f with mem:=m' } S M n:=by
 have hfl:=h.lt
 have hmf:¬ c.mv.ownBlock=some E.fb:=fun e=>(h.mown _ e).2.1 rfl
 have hrow1:w1.row? E.fb 0 1516=some (B8 (rfS E c f)):=by rw [ho.row? hfl hmf];exact h.row
 have hfree1:w1.free? E.fb 0 1516=true:=by rw [ho.free? hfl hmf];exact h.free
 have ho2:A0 (fun b=>b=E.fb∨c.mv.ownBlock=some b) w (w1.setCell ⟨E.fb,231,none⟩ mv'):=
  (ho.mono fun b hb => .inr hb).trans (C6 w1 E.fb 231 mv') (fun i hi _ => .inl hi)
 have hR:∀ b,(b=E.fb∨c.mv.ownBlock=some b)→rmu own E.fb c b:=fun b hb=>hb.elim (fun e => .inr (.inl e)) (fun e => .inr (.inr (.inr (.inl e))))
 have hmu:∀ b,b < w.heap.size→rmu own E.fb { c with mv:=mv' } b→rmu own E.fb c b:=by
  rintro b hb (h1 | h1 | h1 | h1 | h1)
  ·exact .inl h1
  ·exact .inr (.inl h1)
  ·exact .inr (.inr (.inl h1))
  ·rcases hl b h1 with h2 | h2
   ·exact .inr (.inr (.inr (.inl h2)))
   ·omega
  ·exact .inr (.inr (.inr (.inr h1)))
 have hown:∀ g,mv'.ownBlock=some g→own g=none∧g≠E.fb:=fun g hg=>by
  rcases hl g hg with h1 | h1
  ·exact ⟨(h.mown g h1).1,(h.mown g h1).2.1⟩
  ·exact ⟨D4 h.st.lows h1,by omega⟩
 have hbase:∀ g,mv'.ownBlock=some g→E.w0.heap.size≤g:=fun g hg=>by
  rcases hl g hg with h1 | h1
  ·exact E4 h.mem g h1
  ·have:=h.chg.only.size;omega
 have hnone:∀ b,(b=E.fb∨c.mv.ownBlock=some b)→own b=none:=fun b hb=>hb.elim (fun e=>by rw [e];exact h.fown) (fun e=>(h.mown b e).1)
 have hge:∀ b,(b=E.fb∨c.mv.ownBlock=some b)→E.w0.heap.size≤b:=fun b hb=>hb.elim (fun e=>by rw [e];exact h.base) (fun e=>E4 h.mem b e)
 have hstk:∀ g,c.sv.ownBlock=some g→¬ (g=E.fb∨c.mv.ownBlock=some g):=fun g hg he=>by
  rcases he with he | he
  ·exact (h.sown g hg).2 he
  ·exact (h.mown g he).2.2 hg
 obtain ⟨lcs,hlo1,hlo2⟩:=h.logs
 have hlog:∀ g,c.lv.ownBlock=some g→¬ (g=E.fb∨c.mv.ownBlock=some g):=fun g hg he=>by
  rcases he with he | he
  ·exact (h.lown g hg).2.1 he
  ·exact (h.lown g hg).2.2.2 he
 exact { row := B3S mv' hrow1, free := by rw [D1 _ (World.free?_sub hfree1 (by omega))]; exact hfree1, tlen := h.tlen, base := h.base, fown := h.fown, chg := ⟨h.chg.ext, h.chg.only.trans ho2 (fun i hi he => by have := hge i hi; omega)⟩, mok := h.mok,
         stk:=A0.own h.stk ho2 hstk,sown:=h.sown,sval:=h.sval,slen:=h.slen,mem:=A0.own (M7 hr hbase) (C6 w1 E.fb 231 mv') (fun g hg=>(hown g hg).2),
         mown:=fun g hg=>⟨(hown g hg).1,(hown g hg).2,fun e=>by
          rcases hl g hg with h1 | h1
          ·exact (h.mown g h1).2.2 e
          ·have:=B0 h.stk g e;omega⟩
         mbyte:=hby,mlen:=hlen,logs:=⟨lcs,A0.own hlo1 ho2 hlog,hlo2.only ho2 (fun b hb => .inl (hR b hb)) (fun b hb h=>h.imp (hmu b hb) id)⟩,
         lown:=fun g hg=>⟨(h.lown g hg).1,(h.lown g hg).2.1,(h.lown g hg).2.2.1,fun e=>by
          rcases hl g e with h1 | h1
          ·exact (h.lown g hg).2.2.2 h1
          ·have:=B0 hlo1 g hg;omega⟩,
         code:=h.code.only ho2 hR hmu,data:=h.data.only ho2 hR hmu,out:=h.out.only ho2 (fun b hb => .inl (hR b hb)) (fun b hb h=>h.imp (hmu b hb) id),told:=h.told.only ho2 hR hmu,jmp:=A1N h.jmp ho2 hR hmu,st:=h.st.only ho2 hnone,ms:=h.ms,cnt:=h.cnt,lim:=h.lim,nxt:=h.nxt }
theorem _root_.Go.Mun.RFrOk_memput {m':J1} (h:C9 E w own c f S M n) (ho:A0 (fun g=>c.mv.ownBlock=some g) w w1) (hr:w1.ownsRow E.w0.heap.size 5 1 c.mv m'.length (m'.map (Value.int .u8))) (hby:Byt m') (hlen:m'.length≤1048576∧m'.length % 32=0) :
  C9 E w1 own c { f with mem:=m' } S M n:=by
 have hfl:=h.lt
 have hmf:¬ c.mv.ownBlock=some E.fb:=fun e=>(h.mown _ e).2.1 rfl
 have hR:∀ b,c.mv.ownBlock=some b→rmu own E.fb c b:=fun b e => .inr (.inr (.inr (.inl e)))
 have hmu:∀ b,b < w.heap.size→rmu own E.fb c b→rmu own E.fb c b:=fun _ _ h=>h
 obtain ⟨lcs,hlo1,hlo2⟩:=h.logs
 exact { row := by rw [ho.row? hfl hmf]; exact h.row, free := by rw [ho.free? hfl hmf]; exact h.free, tlen := h.tlen, base := h.base, fown := h.fown, chg := ⟨h.chg.ext, h.chg.only.trans ho (fun i hi he => by have := E4 h.mem i hi; omega)⟩, mok := h.mok,
         stk:=A0.own h.stk ho (fun g hg e=>(h.mown g e).2.2 hg),sown:=h.sown,sval:=h.sval,slen:=h.slen,mem:=hr,mown:=h.mown,
         mbyte:=hby,mlen:=hlen,logs:=⟨lcs,A0.own hlo1 ho (fun g hg e=>(h.lown g hg).2.2.2 e),hlo2.only ho (fun b hb => .inl (hR b hb)) (fun _ _ h=>h)⟩,lown:=h.lown,
         code:=h.code.only ho hR hmu,data:=h.data.only ho hR hmu,out:=h.out.only ho (fun b hb => .inl (hR b hb)) (fun _ _ h=>h),told:=h.told.only ho hR hmu,jmp:=A1N h.jmp ho hR hmu,st:=h.st.only ho (fun b hb=>(h.mown b hb).1),ms:=h.ms,cnt:=h.cnt,lim:=h.lim,nxt:=h.nxt }
theorem A4q {X:Nat→Prop} {cs ds:List Value} {l:List Lg} {g:Lg} (h:U5 w X cs l) (hg:A2B w X ds g):U5 w X (cs++ds) (l++[g]):=by
 induction h with
 | nil =>
  have:=U5.cons hg .nil
  simpa using this
 | cons h1 _ ih =>
  rw [List.append_assoc]
  exact .cons h1 ih
theorem _root_.Go.Mun.RFrOk_log {lv':Value} {g:Lg} {cs ds:List Value} (h:C9 E w own c f S M n) (ho:A0 (fun b=>c.lv.ownBlock=some b) w w1) (hcs:U5 w (rmn E own c) cs f.logs) (hds:A2B w (rmn E own c) ds g) (hr:w1.ownsRow 0 58 22 lv' (f.logs.length+1) (cs++ds))
  (hl:∀ b,lv'.ownBlock=some b→c.lv.ownBlock=some b∨w.heap.size≤b) :
  C9 E (w1.setCell ⟨E.fb,234,none⟩ lv') own { c with lv:=lv' } { f with logs:=f.logs++[g] } S M n:=by
 have hfl:=h.lt
 obtain ⟨lcs,hlo1,hlo2⟩:=h.logs
 have hmf:¬ c.lv.ownBlock=some E.fb:=fun e=>(h.lown _ e).2.1 rfl
 have hrow1:w1.row? E.fb 0 1516=some (B8 (rfS E c f)):=by rw [ho.row? hfl hmf];exact h.row
 have hfree1:w1.free? E.fb 0 1516=true:=by rw [ho.free? hfl hmf];exact h.free
 have ho2:A0 (fun b=>b=E.fb∨c.lv.ownBlock=some b) w (w1.setCell ⟨E.fb,234,none⟩ lv'):=
  (ho.mono fun b hb => .inr hb).trans (C6 w1 E.fb 234 lv') (fun i hi _ => .inl hi)
 have hR:∀ b,(b=E.fb∨c.lv.ownBlock=some b)→rmu own E.fb c b:=fun b hb=>hb.elim (fun e => .inr (.inl e)) (fun e => .inr (.inr (.inr (.inr e))))
 have hmu:∀ b,b < w.heap.size→rmu own E.fb { c with lv:=lv' } b→rmu own E.fb c b:=by
  rintro b hb (h1 | h1 | h1 | h1 | h1)
  ·exact .inl h1
  ·exact .inr (.inl h1)
  ·exact .inr (.inr (.inl h1))
  ·exact .inr (.inr (.inr (.inl h1)))
  ·rcases hl b h1 with h2 | h2
   ·exact .inr (.inr (.inr (.inr h2)))
   ·omega
 have hown:∀ g,lv'.ownBlock=some g→own g=none∧g≠E.fb∧c.sv.ownBlock≠some g∧c.mv.ownBlock≠some g:=fun g hg=>by
  rcases hl g hg with h1 | h1
  ·exact h.lown g h1
  ·exact ⟨D4 h.st.lows h1,by omega,fun e=>by have:=B0 h.stk g e;omega,fun e=>by have:=B0 h.mem g e;omega⟩
 have hbase:∀ g,lv'.ownBlock=some g→E.w0.heap.size≤g:=fun g hg=>by
  rcases hl g hg with h1 | h1
  ·exact E4 hlo1 g h1
  ·have:=h.chg.only.size;omega
 have hnone:∀ b,(b=E.fb∨c.lv.ownBlock=some b)→own b=none:=fun b hb=>hb.elim (fun e=>by rw [e];exact h.fown) (fun e=>(h.lown b e).1)
 have hge:∀ b,(b=E.fb∨c.lv.ownBlock=some b)→E.w0.heap.size≤b:=fun b hb=>hb.elim (fun e=>by rw [e];exact h.base) (fun e=>E4 hlo1 b e)
 exact { row := B3T lv' _ hrow1, free := by rw [D1 _ (World.free?_sub hfree1 (by omega))]; exact hfree1, tlen := h.tlen, base := h.base, fown := h.fown, chg := ⟨h.chg.ext, h.chg.only.trans ho2 (fun i hi he => by have := hge i hi; omega)⟩, mok := h.mok,
         stk:=A0.own h.stk ho2 (fun g hg he=>he.elim (h.sown g hg).2 (fun e=>(h.lown g e).2.2.1 hg)),sown:=h.sown,sval:=h.sval,slen:=h.slen,mem:=A0.own h.mem ho2 (fun g hg he=>he.elim (h.mown g hg).2.1 (fun e=>(h.lown g e).2.2.2 hg)),mown:=h.mown,
         mbyte:=h.mbyte,mlen:=h.mlen,logs:=⟨cs++ds,by rw [List.length_append];exact A0.own (M7 hr hbase) (C6 w1 E.fb 234 lv') (fun g hg=>(hown g hg).2.1),(A4q hcs hds).only ho2 (fun b hb => .inl (hR b hb)) (fun b hb h=>h.imp (hmu b hb) id)⟩,lown:=hown,
         code:=h.code.only ho2 hR hmu,data:=h.data.only ho2 hR hmu,out:=h.out.only ho2 (fun b hb => .inl (hR b hb)) (fun b hb h=>h.imp (hmu b hb) id),told:=h.told.only ho2 hR hmu,jmp:=A1N h.jmp ho2 hR hmu,st:=h.st.only ho2 hnone,ms:=h.ms,cnt:=h.cnt,lim:=h.lim,nxt:=h.nxt }
end Go.Proofs.YtfflppedbopdpaaGreat
namespace Go.Mun
def I6 (n:Nat):Nat:=3*n+n*n / 512
theorem A29 (n:Nat) (h:n≤1048576):I6 n≤2150629376:=by
 unfold I6
 have:n*n≤1048576*1048576:=Nat.mul_le_mul h h
 omega
theorem A3B {a b:Nat} (h:a≤b):I6 a≤I6 b:=by
 unfold I6
 have h1:a*a≤b*b:=Nat.mul_le_mul h h
 have h2:a*a / 512≤b*b / 512:=Nat.div_le_div_right h1
 omega
end Go.Mun
namespace Go.Proofs.YtfflppedbopdpaaGreat
open Go.RowKit Go.Mun

theorem A8X (n:Nat) (hn:n≤1048576) (w:World):Calls Tryz.prog 348 #[.int .i64 n] w fun e w'=>e = .returned (.int .i64 (I6 n:Nat))∧w=w':=by
 have hsq:n*n≤1048576*1048576:=Nat.mul_le_mul hn hn
 obtain ⟨q,hq⟩:∃ q:Nat,q=n*n:=⟨_,rfl⟩
 have hnn:(n:Int)*n=(q:Int):=by rw [hq];simp
 obtain ⟨z,hz⟩:∃ z:Nat,z=q / 512:=⟨_,rfl⟩
 have e5:Int.tdiv (q:Int) 512=(z:Int):=by
  rw [Int.tdiv_eq_ediv_of_nonneg (by omega),hz];rfl
 have e7:3*(n:Int)+(z:Int)=((I6 n:Nat):Int):=by
  unfold I6
  rw [hz,hq];omega
 have hn0:(0:Int)≤(n:Int):=by omega
 have hn1:(n:Int)≤1048576:=by omega
 have hq0:(0:Int)≤(q:Int):=by omega
 have hq1:(q:Int)≤1099511627776:=by omega
 have hz0:(0:Int)≤(z:Int):=by omega
 have hz1:(z:Int)≤2147483648:=by omega
 have w1:wrap64 (q:Int)=(q:Int):=by unfold wrap64;omega
 have w2:wrap64 (z:Int)=(z:Int):=by unfold wrap64;omega
 have w3:wrap64 (3*(n:Int)+(z:Int))=3*(n:Int)+(z:Int):=by unfold wrap64;omega
 have p2:((1048576:Int) < (n:Int))=False:=eq_false (by omega)
 have p1:(if (0:Int) < (n:Int) then (n:Int) else 0)=n:=by split <;> omega
 have HM:=hid e7
 clear e7
 have HQ:Hid (n=0→q=0∧z=0):=fun h=>by subst h;refine ⟨by rw [hq],by rw [hz,hq]⟩
 generalize I6 n=M at *
 clear hsq hn hq hz
 have pm:min (n:Int) 1048576=(n:Int):=by omega
 by_cases hp:0 < n
 ·have p3:((0:Int) < (n:Int))=True:=eq_true (by omega)
  have p4:(0 < n)=True:=eq_true hp
  clear hp p1
  go_enter Tryz.func348,Tryz.ntmps348
  go_wp2
  go_ret
  rw [← HM.out]
  exact ⟨rfl,rfl⟩
 ·obtain ⟨h1,h2⟩:=HQ.out (by omega)
  obtain rfl:n=0:=by omega
  have hM:M=0:=by have:=HM.out;omega
  subst hM
  have pm0:min (0:Int) 1048576=0:=by omega
  clear pm hp p1 p2 w1 w2 w3 hnn e5 HQ HM h1 h2 hq0 hq1 hz0 hz1 hn0 hn1
  go_enter Tryz.func348,Tryz.ntmps348
  go_wp2
  go_ret
  exact ⟨rfl,rfl⟩
end Go.Proofs.YtfflppedbopdpaaGreat
namespace Go.Proofs.YtfflppedbopdpaaGreat
open Go.RowKit Go.Mun
theorem A7S:(Lib.len8tab.size:Int)=256:=by
 have:Lib.len8tab.size=256:=by decide
 omega
theorem A0F (k a b:Nat) (hk:k≤56) (ha:a≤8) (hb:b=k+a):RowKit.wrap64 ((k:Int)+RowKit.wrap64 (a:Int))=(b:Int):=by
 unfold RowKit.wrap64
 omega
theorem B1X (a:Nat) (ha:a≤8):RowKit.wrap64 (RowKit.wrap64 (a:Int))=(a:Int):=by
 unfold RowKit.wrap64
 omega
theorem B3r (a:Nat) (ha:a≤8):RowKit.wrap64 (a:Int)=(a:Int):=by
 unfold RowKit.wrap64
 omega
theorem A0K (y:Int) (h:y.toNat < Lib.len8tab.size):((Lib.len8tab[y.toNat]'h).toNat:Int)=Lib.len8 y:=by
 unfold Lib.len8
 rw [getElem?_pos Lib.len8tab y.toNat h]
 rfl

theorem B0I (x:Int) (w:World) (h0:0≤x) (h1:x≤18446744073709551615) :
  Calls Tryz.prog 339 #[.int .u64 x] w fun e w'=>e = .returned (.int .i64 (Lib.bitLen x.toNat))∧w'=w:=by
 go_enter Tryz.func339,Tryz.ntmps339
 go_wp2
 all_goals first
  | (go_ret;refine ⟨congrArg Ending.returned (congrArg (Value.int IntKind.i64) ?_),rfl⟩;go_light)
  | (exfalso
     go_light
     have hs:=A7S
     omega)
 all_goals first
  | (rw [A0K (x / 4294967296 / 65536 / 256) _,Lib.len8_of (x / 4294967296 / 65536 / 256) (by omega) (by omega)]
     have e:(x / 4294967296 / 65536 / 256).toNat=x.toNat / 72057594037927936:=by omega
     have l:=Lib.bitLen_le8' (x / 4294967296 / 65536 / 256) (by omega) (by omega)
     have s:=Lib.bitLen_shift56 x.toNat (by omega) (by omega)
     rw [e] at l ⊢
     exact A0F 56 _ _ (by decide) l s)
  | (rw [A0K (x / 4294967296 / 65536) _,Lib.len8_of (x / 4294967296 / 65536) (by omega) (by omega)]
     have e:(x / 4294967296 / 65536).toNat=x.toNat / 281474976710656:=by omega
     have l:=Lib.bitLen_le8' (x / 4294967296 / 65536) (by omega) (by omega)
     have s:=Lib.bitLen_shift48 x.toNat (by omega) (by omega)
     rw [e] at l ⊢
     exact A0F 48 _ _ (by decide) l s)
  | (rw [A0K (x / 4294967296 / 256) _,Lib.len8_of (x / 4294967296 / 256) (by omega) (by omega)]
     have e:(x / 4294967296 / 256).toNat=x.toNat / 1099511627776:=by omega
     have l:=Lib.bitLen_le8' (x / 4294967296 / 256) (by omega) (by omega)
     have s:=Lib.bitLen_shift40 x.toNat (by omega) (by omega)
     rw [e] at l ⊢
     exact A0F 40 _ _ (by decide) l s)
  | (rw [A0K (x / 4294967296) _,Lib.len8_of (x / 4294967296) (by omega) (by omega)]
     have e:(x / 4294967296).toNat=x.toNat / 4294967296:=by omega
     have l:=Lib.bitLen_le8' (x / 4294967296) (by omega) (by omega)
     have s:=Lib.bitLen_shift32 x.toNat (by omega) (by omega)
     rw [e] at l ⊢
     exact A0F 32 _ _ (by decide) l s)
  | (rw [A0K (x / 65536 / 256) _,Lib.len8_of (x / 65536 / 256) (by omega) (by omega)]
     have e:(x / 65536 / 256).toNat=x.toNat / 16777216:=by omega
     have l:=Lib.bitLen_le8' (x / 65536 / 256) (by omega) (by omega)
     have s:=Lib.bitLen_shift24 x.toNat (by omega) (by omega)
     rw [e] at l ⊢
     exact A0F 24 _ _ (by decide) l s)
  | (rw [A0K (x / 65536) _,Lib.len8_of (x / 65536) (by omega) (by omega)]
     have e:(x / 65536).toNat=x.toNat / 65536:=by omega
     have l:=Lib.bitLen_le8' (x / 65536) (by omega) (by omega)
     have s:=Lib.bitLen_shift16 x.toNat (by omega) (by omega)
     rw [e] at l ⊢
     exact A0F 16 _ _ (by decide) l s)
  | (rw [A0K (x / 256) _,Lib.len8_of (x / 256) (by omega) (by omega)]
     have e:(x / 256).toNat=x.toNat / 256:=by omega
     have l:=Lib.bitLen_le8' (x / 256) (by omega) (by omega)
     have s:=Lib.bitLen_shift8 x.toNat (by omega) (by omega)
     rw [e] at l ⊢
     exact A0F 8 _ _ (by decide) l s)
  | (rw [A0K (x) _,Lib.len8_of (x) (by omega) (by omega)]
     have e:(x).toNat=x.toNat:=by omega
     have l:=Lib.bitLen_le8' (x) (by omega) (by omega)
     rw [e] at l ⊢
     first | exact B1X _ l | exact A0F 0 _ _ (by decide) l (by omega) | exact B3r _ l)

end Go.Proofs.YtfflppedbopdpaaGreat
