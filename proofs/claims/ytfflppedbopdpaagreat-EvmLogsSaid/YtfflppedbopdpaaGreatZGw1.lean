/- A part of the proof of EvmLogs: ZGw1. -/
import Derived.Test.YtfflppedbopdpaaGreatZMm3
import Derived.Test.YtfflppedbopdpaaGreatZBol
import Derived.Test.YtfflppedbopdpaaGreatZRi2
import Derived.Test.YtfflppedbopdpaaGreatZLg2
import Derived.Test.YtfflppedbopdpaaGreatZRf9
import Derived.Test.YtfflppedbopdpaaGreatZNd1
import Derived.Test.YtfflppedbopdpaaGreatZEv16
set_option linter.unusedVariables false
set_option maxRecDepth 1000000
set_option maxHeartbeats 8000000
set_option linter.unusedSimpArgs false
namespace Go.Proofs.YtfflppedbopdpaaGreat
open Go.RowKit Go.Mun

theorem A8L (n:Nat) (hn:n≤1048576) (w:World):Calls Tryz.prog 353 #[.int .i64 n] w fun e w'=>e = .returned (.int .i64 (I6 n:Nat))∧w=w':=by
 have hsq:n*n≤1048576*1048576:=Nat.mul_le_mul hn hn
 obtain ⟨q,hq⟩:∃ q:Nat,q=n*n:=⟨_,rfl⟩
 have hnn:(n:Int)*n=(q:Int):=by rw [hq];simp
 obtain ⟨z,hz⟩:∃ z:Nat,z=q / 512:=⟨_,rfl⟩
 have e5:Int.tdiv (q:Int) 512=(z:Int):=by
  rw [Int.tdiv_eq_ediv_of_nonneg (by omega),hz];rfl
 have e7:3*(n:Int)+(z:Int)=((I6 n:Nat):Int):=by
  unfold I6
  rw [hz,hq];omega
 have hn0:(0:Int)≤(n:Int):=by omega
 have hn1:(n:Int)≤1048576:=by omega
 have hq0:(0:Int)≤(q:Int):=by omega
 have hq1:(q:Int)≤1099511627776:=by omega
 have hz0:(0:Int)≤(z:Int):=by omega
 have hz1:(z:Int)≤2147483648:=by omega
 have w1:wrap64 (q:Int)=(q:Int):=by unfold wrap64;omega
 have w2:wrap64 (z:Int)=(z:Int):=by unfold wrap64;omega
 have w3:wrap64 (3*(n:Int)+(z:Int))=3*(n:Int)+(z:Int):=by unfold wrap64;omega
 have p2:((1048576:Int) < (n:Int))=False:=eq_false (by omega)
 have p1:(if (0:Int) < (n:Int) then (n:Int) else 0)=n:=by split <;> omega
 have HM:=hid e7
 clear e7
 have HQ:Hid (n=0→q=0∧z=0):=fun h=>by subst h;refine ⟨by rw [hq],by rw [hz,hq]⟩
 generalize I6 n=M at *
 clear hsq hn hq hz
 clear p1
 have p3:((n:Int) < 0)=False:=eq_false (by omega)
 have d3:decide ((n:Int) < 0)=false:=decide_eq_false (by omega)
 have d2:decide ((1048576:Int) < (n:Int))=false:=decide_eq_false (by omega)
 clear HQ
 go_enter Tryz.func353,Tryz.ntmps353
 go_wp2
 go_ret
 rw [← HM.out]
 exact ⟨rfl,rfl⟩
theorem B5i (n z r:Nat) (hz:z=n / 32) (hr:r=n % 32):Int.tdiv (n:Int) 32=(z:Int)∧Int.tmod (n:Int) 32=(r:Int):=⟨by rw [Int.tdiv_eq_ediv_of_nonneg (by omega),hz];rfl,by rw [Int.tmod_eq_emod_of_nonneg (by omega),hr];omega⟩
theorem A6P (n q:Nat) (hn:n≤2199023255552) (hq:q=(n+31) / 32) (w:World):Calls Tryz.prog 302 #[.int .i64 n] w fun e w'=>e = .returned (.int .i64 (q:Int))∧w=w':=by
 obtain ⟨z,hz⟩:∃ z:Nat,z=n / 32:=⟨_,rfl⟩
 obtain ⟨r,hr⟩:∃ r:Nat,r=n % 32:=⟨_,rfl⟩
 have hzl:z≤2199023255552:=by omega
 have hqz:q=if r=0 then z else z+1:=by split <;> omega
 obtain ⟨e1,e2⟩:=B5i n z r hz hr
 have n0:decide ((n:Int) < 0)=false:=decide_eq_false (by omega)
 clear hz hr hq hn
 have w5:IntKind.i64.wrap (z:Int)=(z:Int):=U6 _ (by omega) (by omega)
 have w6:IntKind.i64.wrap ((z:Int)+1)=(z:Int)+1:=U6 _ (by omega) (by omega)
 by_cases h0:r=0
 ·have d0:decide ((0:Int) < (r:Int))=false:=by simp [h0]
  have dn:(0 < r)=False:=eq_false (by omega)
  rw [if_pos h0] at hqz
  have HQ:=hid hqz
  clear h0 hqz
  go_enter Tryz.func302,Tryz.ntmps302
  go_wp2
  go_ret
  rw [HQ.out]
  exact ⟨rfl,rfl⟩
 ·have d0:decide ((0:Int) < (r:Int))=true:=by simp;omega
  have dn:(0 < r)=True:=eq_true (by omega)
  rw [if_neg h0] at hqz
  have HQ:=hid hqz
  clear h0 hqz
  go_enter Tryz.func302,Tryz.ntmps302
  go_wp2
  go_ret
  rw [HQ.out]
  exact ⟨rfl,rfl⟩
theorem B3Y {w:World} {b o base:Nat} {mv:Value} {l:J1} (a n:Nat) (ha:a < wW) (hn:n < wW) (h:w.cell? ⟨b,o,none⟩=some mv) (hf:w.free? b o 1=true) (hr:w.ownsRow base 5 1 mv l.length (K2 l))
  (hb:∀ g,mv.ownBlock=some g→¬ g=b) (hl:l.length≤1048576) (hbase:base≤w.heap.size) :
  Calls Tryz.prog 303 #[.pointer (some ⟨b,o,none⟩),.agg (A3 32 a).toArray,.agg (A3 32 n).toArray] w fun e w'=>Z6 w w' b o base mv l (K4 l.length a n) e:=by
 obtain ⟨sa,sc,rfl⟩:=Q7 hr
 have hbl:b < w.heap.size:=C1 hf
 obtain ⟨w0,e0⟩:∃ w0,w0=(w.alloc (.cells (A3 32 a).toArray 25)).alloc (.cells (A3 32 n).toArray 25):=⟨_,rfl⟩
 have hb0:Below w.heap.size w w0:=by rw [e0];exact ((Below.refl _ _).alloc (Nat.le_refl _) _).alloc (by simp) _
 have ra:w0.row? w.heap.size 0 32=some (A3 32 a):=by rw [e0,World.row?_alloc_lt _ (by simp)];exact World.row?_alloc_at _ _ _ rfl (by simp)
 have rn:w0.row? (w.heap.size+1) 0 32=some (A3 32 n):=by rw [e0];exact World.row?_alloc_at _ _ _ (by simp) (by simp)
 have hq:=fun w=>eqW (a:=n) (b:=0) hn (by unfold wW;decide) w
 have HB0:=hid hb0
 have HE:=hid e0
 have HRA:=hid ra
 have HRN:=hid rn
 have HIA:=hid (fun w=>A3v a ha w)
 have HIN:=hid (fun w=>A3v n hn w)
 have HH:=hid h
 have HF:=hid hf
 have HR:=hid hr
 have HBL:=hid hbl
 have HBG:=hid hb
 have HLL:=hid hl
 have HBS:=hid hbase
 rw [e0] at ra rn
 clear e0 hb0 h hf hr hb hl hbase hbl ha hn
 by_cases hn0:n=0
 ·have hd:decide (n=0)=true:=decide_eq_true hn0
  have hG:K4 l.length a n=some (0,0):=if_pos hn0
  have HG:=hid hG
  rw [hd] at hq
  clear hd hn0 hG
  go_enter Tryz.func303,Tryz.ntmps303
  go_wp2
  rw [← HE.out]
  go_ret2
  rw [HG.out]
  exact ⟨rfl,.inl ⟨HB0.out,rfl⟩⟩
 have hd:decide (n=0)=false:=decide_eq_false hn0
 have HN0:=hid hn0
 rw [hd] at hq
 clear hd hn0
 go_enter Tryz.func303,Tryz.ntmps303
 go_wp2_with fail
 rw [← HE.out]
 refine (HIA.out w0).mono ?_
 rintro e w1 ⟨rfl,hb1⟩
 have hB1:=HB0.out.trans (hb1.mono HB0.out.size)
 have rn1:w1.row? (w.heap.size+1) 0 32=some (A3 32 n):=((C7 hb1).1 _ _ _ (World.row?_lt HRN.out)).trans HRN.out
 have HB1:=hid hB1
 clear hb1 hB1 ra rn hq
 go_wp2_with fail
 refine (HIN.out w1).mono ?_
 rintro e w2 ⟨rfl,hb2⟩
 have HB2:=hid (HB1.out.trans (hb2.mono HB1.out.size))
 have c2:w2.cell? ⟨b,o,none⟩=some (.slice sa l.length sc):=(HB2.out.cell (p:=⟨b,o,none⟩) HBL.out).trans HH.out
 have hNone:Hid (¬ a+n≤1048576→K4 l.length a n=none):=fun hx=>by
  show (if n=0 then _ else if _ then _ else _)=_
  rw [if_neg HN0.out,if_neg hx]
 clear hb2 rn1
 by_cases ha:a < 9223372036854775808
 ·have ea:A2i a=some a:=if_pos ha
  rw [ea]
  by_cases hn:n < 9223372036854775808
  ·have en:A2i n=some n:=if_pos hn
   rw [en]
   have sa:(some a).getD 0=a:=rfl
   have sn:(some n).getD 0=n:=rfl
   rw [sa,sn]
   clear sa sn ea en
   by_cases hA:a≤1048576
   ·have d1:decide ((1048576:Int) < (a:Int))=false:=decide_eq_false (by omega)
    by_cases hN:n≤1048576
    ·have d2:decide ((1048576:Int) < (n:Int))=false:=decide_eq_false (by omega)
     have hsub:IntKind.i64.wrap ((a:Int)+(n:Int))=(a:Int)+(n:Int):=U6 _ (by omega) (by omega)
     by_cases hK:a+n≤1048576
     ·have d3:decide ((1048576:Int) < (a:Int)+(n:Int))=false:=decide_eq_false (by omega)
      obtain ⟨was,hwas⟩:∃ was,was=l.length / 32:=⟨_,rfl⟩
      obtain ⟨wd,hwd⟩:∃ wd,wd=(a+n+31) / 32:=⟨_,rfl⟩
      have t1:Int.tdiv ((l.length:Nat):Int) 32=(was:Int):=by rw [Int.tdiv_eq_ediv_of_nonneg (by omega),hwas];rfl
      have HG:Hid (K4 l.length a n=some (I6 (max was wd) - I6 was,(max was wd - was)*32)):=by
       show (if n=0 then _ else if _ then _ else _)=_
       rw [if_neg HN0.out,if_pos hK,← hwas,← hwd]
      have hl1:=HLL.out
      have hwl:was≤32768∧was*32≤l.length:=by omega
      have hdl:wd≤32768:=by omega
      have hlz:((l.length:Nat):Int)≤1048576:=by omega
      have hwz:(was:Int)≤32768:=by omega
      have hdz:(wd:Int)≤32768:=by omega
      have hwz0:(0:Int)≤(was:Int):=by omega
      have hdz0:(0:Int)≤(wd:Int):=by omega
      have hw5:IntKind.i64.wrap (was:Int)=(was:Int):=U6 _ (by omega) (by omega)
      have HWD:=hid (fun w=>by simpa using A6P (a+n) wd (by omega) hwd w:∀ w,Calls Tryz.prog 302 #[.int .i64 ((a:Int)+(n:Int))] w fun e w'=>e = .returned (.int .i64 (wd:Int))∧w=w')
      by_cases hle:wd≤was
      ·have d4:decide ((wd:Int)≤(was:Int))=true:=decide_eq_true (by omega)
       have dn4:(wd≤was)=True:=eq_true hle
       have hm:max was wd=was:=by omega
       rw [hm,Nat.sub_self,Nat.sub_self,Nat.zero_mul] at HG
       clear hm hle hwas hwd hwl hdl hl1 hK hA hN ha hn
       go_wp2_with fail
       refine (HWD.out _).mono ?_
       rintro e w3 ⟨rfl,rfl⟩
       clear c2
       go_wp2
       go_ret2
       rw [HG.out]
       exact ⟨rfl,.inl ⟨HB2.out,rfl⟩⟩
      ·have d4:decide ((wd:Int)≤(was:Int))=false:=decide_eq_false (by omega)
       have dn4:(wd≤was)=False:=eq_false hle
       have hm:max was wd=wd:=by omega
       rw [hm] at HG
       have HR2:=hid (A0.own HR.out (A0.of_below_size HB2.out) (fun _ _ h=>h):w2.ownsRow base 5 1 (.slice sa l.length sc) l.length (K2 l))
       have hf2:w2.free? b o 1=true:=by rw [(C7 HB2.out).2 _ _ _ HBL.out];exact HF.out
       have HF2:=hid hf2
       obtain ⟨k,hk⟩:∃ k,k=(wd - was)*32:=⟨_,rfl⟩
       have hs5:IntKind.i64.wrap ((wd:Int) - (was:Int))=(wd:Int) - (was:Int):=U6 _ (by omega) (by omega)
       have hkz:32*((wd:Int) - (was:Int))=(k:Int):=by omega
       have hk5:IntKind.i64.wrap (k:Int)=(k:Int):=U6 _ (by omega) (by omega)
       rw [← hk] at HG
       have HK:=hid (show k≤1048576 by omega)
       have hmc:=A3B (show was≤wd by omega)
       have hm1:=A29 wd (by omega)
       have HSC:Hid (IntKind.i64.wrap (((I6 wd:Nat):Int) - ((I6 was:Nat):Int))=((I6 wd - I6 was:Nat):Int)):=by show _=_;rw [U6 _ (by omega) (by omega)];omega
       have HC1:=hid (fun w=>A8L wd (by omega) w)
       have HC2:=hid (fun w=>A8L was (by omega) w)
       clear hwas hwd hwl hdl hl1 hm hk hmc hm1 hle hK hA hN ha hn
       go_wp2_with fail
       refine (HWD.out _).mono ?_
       rintro e w2' ⟨rfl,rfl⟩
       go_wp2_with (at_builtin;go_must (refine A09 (base:=base) (n:=l.length) (k:=k) (xs:=K2 l) A0n rfl rfl Tryz.underlying3 rfl _ _ rfl HR2.out rfl rfl (by have:=HK.out;have:=HLL.out;unfold maxLen;omega) (by have:=HK.out;have:=HLL.out;omega) (by have:=HBS.out;have:=HB2.out.size;omega) ?_))
       intro v3 w3 ho3 hg3 hn3
       have hO3:A0 (fun g=>(Value.slice sa l.length sc).ownBlock=some g) w2 w3:=A0.of_grown hg3
       have hO:Hid (A0 (fun g=>(Value.slice sa l.length sc).ownBlock=some g) w w3):=(A0.mono (S:=fun _=>False) (A0.of_below_size HB2.out) (fun _ (h:False)=>h.elim)).trans hO3 (fun _ h _=>h)
       have hf3:w3.free? b o 1=true:=by rw [hO3.free? (C1 HF2.out) (fun hh=>HBG.out b hh rfl)];exact HF2.out
       have HOW:Hid (w3.ownsRow base 5 1 v3 (l.length+k) (K2 (l++List.replicate k 0))):=by
        have e:K2 (l++List.replicate k 0)=K2 l++List.replicate k (Value.int .u8 0):=by simp [K2]
        show w3.ownsRow _ _ _ _ _ _
        rw [e]
        simpa using ho3
       have hone:=Q7 HOW.out
       obtain ⟨va,vc,rfl⟩:=hone
       have HGR:Hid (∀ g,(Value.slice va (l.length+k) vc).ownBlock=some g→(Value.slice sa l.length sc).ownBlock=some g∨w.heap.size≤g):=by
        intro g hg
        rcases hn3 g hg with h1 | h1
        ·exact .inl h1
        ·exact .inr (by have:=HB2.out.size;omega)
       clear ho3 hg3 hO3 c2 hf2 hn3
       go_wp2_with fail
       refine (HC1.out _).mono ?_
       rintro e w4 ⟨rfl,rfl⟩
       go_wp2_with fail
       refine (HC2.out _).mono ?_
       rintro e w5 ⟨rfl,rfl⟩
       have hsc:=HSC.out
       generalize I6 wd=m1 at *
       generalize I6 was=m2 at *
       go_wp2
       go_ret2
       rw [HG.out]
       exact ⟨rfl,.inr ⟨w3,_,hO.out,rfl,HOW.out,HGR.out⟩⟩
     ·have d3:decide ((1048576:Int) < (a:Int)+(n:Int))=true:=decide_eq_true (by omega)
      have HG:=hid (hNone.out hK)
      clear hK hA hN ha hn c2
      go_wp2
      go_ret2
      rw [HG.out]
      exact ⟨rfl,HB2.out⟩
    ·have d2:decide ((1048576:Int) < (n:Int))=true:=decide_eq_true (by omega)
     have HG:=hid (hNone.out (by omega))
     clear hA hN ha hn c2
     go_wp2
     go_ret2
     rw [HG.out]
     exact ⟨rfl,HB2.out⟩
   ·have d1:decide ((1048576:Int) < (a:Int))=true:=decide_eq_true (by omega)
    have HG:=hid (hNone.out (by omega))
    clear hA ha hn c2
    go_wp2
    go_ret2
    rw [HG.out]
    exact ⟨rfl,HB2.out⟩
  ·have en:A2i n=none:=if_neg hn
   have HG:=hid (hNone.out (by omega))
   rw [en]
   clear en ea ha hn c2
   go_wp2
   go_ret2
   rw [HG.out]
   exact ⟨rfl,HB2.out⟩
 ·have ea:A2i a=none:=if_neg ha
  have HG:=hid (hNone.out (by omega))
  rw [ea]
  clear ea ha c2
  go_wp2
  go_ret2
  rw [HG.out]
  exact ⟨rfl,HB2.out⟩
theorem Z6.pre {w w0 w':World} {b o base:Nat} {mv:Value} {l:J1} {r:Option (Nat × Nat)} {e:Ending} (hb:Below w.heap.size w w0) (h:Z6 w0 w' b o base mv l r e):Z6 w w' b o base mv l r e:=by
 cases r with
 | none=>exact ⟨h.1,hb.trans (h.2.mono hb.size)⟩
 | some p =>
  obtain ⟨cost,k⟩:=p
  obtain ⟨h1,h2⟩:=h
  refine ⟨h1,?_⟩
  rcases h2 with ⟨h2,h3⟩ | ⟨w1,mv',ho,hw,hr,hg⟩
  ·exact .inl ⟨hb.trans (h2.mono hb.size),h3⟩
  ·refine .inr ⟨w1,mv',?_,hw,hr,fun g hg2=>(hg g hg2).imp id (fun h=>Nat.le_trans hb.size h)⟩
   exact (A0.mono (S:=fun _=>False) (A0.of_below_size hb) (fun _ (h:False)=>h.elim)).trans ho (fun _ h _=>h)
def B4I:Option (Nat × Nat)→Nat
 | none=>0
 | some p=>p.1
theorem Z6.form {w w':World} {b o base:Nat} {mv:Value} {l:J1} {r:Option (Nat × Nat)} {e:Ending} (h:Z6 w w' b o base mv l r e):e = .returned (.tuple #[.int .i64 (B4I r:Nat),.bool r.isSome]):=by
 cases r with
 | none=>exact h.1
 | some p=>exact h.1
theorem A3X (n:Nat) (hn:n < wW) (w:World):Calls Tryz.prog 267 #[.agg (A3 32 n).toArray] w fun e w'=>e = .returned (.int .i64 (((A2i n).getD 0:Nat):Int))∧Below w.heap.size w w':=by
 obtain ⟨w0,e0⟩:∃ w0,w0=w.alloc (.cells (A3 32 n).toArray 25):=⟨_,rfl⟩
 have hb0:Below w.heap.size w w0:=by rw [e0];exact (Below.refl _ _).alloc (Nat.le_refl _) _
 have r0:w0.row? w.heap.size 0 32=some (A3 32 n):=by rw [e0];exact World.row?_alloc_at _ _ _ rfl (by simp)
 have HI:=hid (fun w=>A3v n hn w)
 have HE:=hid e0
 have HB:=hid hb0
 rw [e0] at r0
 clear e0 hb0
 generalize (A2i n).getD 0=x at *
 generalize (A2i n).isSome=y at *
 go_enter Tryz.func267,Tryz.ntmps267
 go_wp2_with fail
 rw [← HE.out]
 refine (HI.out w0).mono ?_
 rintro e w1 ⟨rfl,hb1⟩
 have HB1:=hid (HB.out.trans (hb1.mono HB.out.size))
 clear hb1
 go_wp2
 go_ret
 exact ⟨rfl,HB1.out⟩
theorem A6M (n:Nat) (hn:n < wW) (h40:n≤1099511627776) (w:World):Calls Tryz.prog 256 #[.agg (A3 32 n).toArray] w fun e w'=>e = .returned (.tuple #[.int .i64 (((n+31) / 32:Nat):Int),.bool true])∧Below w.heap.size w w':=by
 obtain ⟨w0,e0⟩:∃ w0,w0=w.alloc (.cells (A3 32 n).toArray 25):=⟨_,rfl⟩
 have hb0:Below w.heap.size w w0:=by rw [e0];exact (Below.refl _ _).alloc (Nat.le_refl _) _
 have r0:w0.row? w.heap.size 0 32=some (A3 32 n):=by rw [e0];exact World.row?_alloc_at _ _ _ rfl (by simp)
 have hf:A2i n=some n:=if_pos (by omega)
 have HI:=hid (fun w=>A3v n hn w)
 rw [hf] at HI
 have HW:=hid (fun w=>A6P n ((n+31) / 32) (by omega) rfl w)
 have HE:=hid e0
 have HB:=hid hb0
 have d1:decide ((1099511627776:Int) < (n:Int))=false:=decide_eq_false (by omega)
 have dn:(1099511627776 < n)=False:=eq_false (by omega)
 rw [e0] at r0
 have sn:(some n).getD 0=n:=rfl
 rw [sn] at HI
 clear e0 hb0 hf sn hn h40
 generalize (n+31) / 32=q at *
 go_enter Tryz.func256,Tryz.ntmps256
 go_wp2_with fail
 rw [← HE.out]
 refine (HI.out w0).mono ?_
 rintro e w1 ⟨rfl,hb1⟩
 have HB1:=hid (HB.out.trans (hb1.mono HB.out.size))
 clear hb1
 go_wp2_with fail
 refine (HW.out w1).mono ?_
 rintro e w2 ⟨rfl,rfl⟩
 go_wp2
 go_ret2
 exact ⟨rfl,HB1.out⟩
theorem B5M {w:World} {b o:Nat} {sa:Option Addr} {sc:Nat} {l:J1} (p n:Nat) (hp:p≤1048576) (hn:n≤1048576) (h:w.cell? ⟨b,o,none⟩=some (.slice sa l.length sc)) (hI:G9 w .u8 sa sc l) (hl:l.length≤1048576) :
  Calls Tryz.prog 266 #[.pointer (some ⟨b,o,none⟩),.int .i64 p,.int .i64 n] w fun e w' => ∃ v,e = .returned v∧A3d w w' v (T9 l p n):=by
 have HC:=hid (B1a p n (by omega) hn hI (by omega))
 have d1:decide ((p:Int) < 0)=false:=decide_eq_false (by omega)
 have d2:decide ((n:Int) < 0)=false:=decide_eq_false (by omega)
 have d3:decide ((1048576:Int) < (n:Int))=false:=decide_eq_false (by omega)
 have dn:(1048576 < n)=False:=eq_false (by omega)
 clear hp hn hI hl
 go_enter Tryz.func266,Tryz.ntmps266
 go_wp2_with fail
 refine HC.out.mono ?_
 rintro e w1 ⟨v,rfl,hv⟩
 have HV:=hid hv
 clear hv
 go_wp2
 go_ret
 exact ⟨_,rfl,HV.out⟩
theorem A8K (w:World):Calls Tryz.prog 250 #[.int .u8 83] w fun e w'=>e = .returned (.tuple #[.int .i64 0,.int .i64 (-1),.int .i64 1])∧w'=w:=by
 go_enter Tryz.func250,Tryz.ntmps250
 go_wp2
 go_ret3
 exact ⟨rfl,rfl⟩
theorem A7A (k:Nat) (hk:k < 5) (w:World):Calls Tryz.prog 250 #[.int .u8 (160+(k:Int))] w fun e w'=>e = .returned (.tuple #[.int .i64 0,.int .i64 1,.int .i64 0])∧w'=w:=by
 rcases (by omega:k=0∨k=1∨k=2∨k=3∨k=4) with rfl | rfl | rfl | rfl | rfl
 all_goals
  go_enter Tryz.func250,Tryz.ntmps250
  go_wp2
  go_ret3
  exact ⟨rfl,rfl⟩
theorem A6O {w:World} {fb base:Nat} {mv:Value} {l:J1} (a n:Nat) (ha:a < wW) (hn:n < wW) (h:w.cell? ⟨fb,231,none⟩=some mv) (hf:w.free? fb 231 1=true) (hr:w.ownsRow base 5 1 mv l.length (K2 l))
  (hb:∀ g,mv.ownBlock=some g→¬ g=fb) (hl:l.length≤1048576) (hbase:base≤w.heap.size) :
  Calls Tryz.prog 258 #[.pointer (some ⟨fb,0,none⟩),.agg (A3 32 a).toArray,.agg (A3 32 n).toArray] w fun e w'=>Z6 w w' fb 231 base mv l (K4 l.length a n) e:=by
 obtain ⟨w0,e0⟩:∃ w0,w0=(w.alloc (.cells (A3 32 a).toArray 25)).alloc (.cells (A3 32 n).toArray 25):=⟨_,rfl⟩
 have hb0:Below w.heap.size w w0:=by rw [e0];exact ((Below.refl _ _).alloc (Nat.le_refl _) _).alloc (by simp) _
 have ra:w0.row? w.heap.size 0 32=some (A3 32 a):=by rw [e0,World.row?_alloc_lt _ (by simp)];exact World.row?_alloc_at _ _ _ rfl (by simp)
 have rn:w0.row? (w.heap.size+1) 0 32=some (A3 32 n):=by rw [e0];exact World.row?_alloc_at _ _ _ (by simp) (by simp)
 have hbl:fb < w.heap.size:=C1 hf
 have hbd:Below w.heap.size w w0.drew:=hb0.trans ((Below.refl _ _).drew.mono hb0.size)
 have HG:=hid (B3Y (w:=w0.drew) (b:=fb) (o:=231) (base:=base) (mv:=mv) (l:=l) a n ha hn ((hbd.cell (p:=⟨fb,231,none⟩) hbl).trans h) (((C7 hbd).2 _ _ _ hbl).trans hf) (C3 hr hbd) hb hl (Nat.le_trans hbase hbd.size))
 have HBD:=hid hbd
 have HE:=hid e0
 obtain ⟨T,hT⟩:∃ T:World→Prop,T=fun W=>W=w0.drew:=⟨_,rfl⟩
 have HT:=hid hT
 have t0:T w0.drew:=by rw [hT]
 have q1:w0.drew.row? w.heap.size 0 32=some (A3 32 a):=ra
 have q2:w0.drew.row? (w.heap.size+1) 0 32=some (A3 32 n):=rn
 rw [e0] at ra rn
 clear e0 hb0 hbd hT h hf hr hb hl hbase hbl ha hn
 go_enter Tryz.func258,Tryz.ntmps258
 go_wp2_with fail
 rw [← HE.out]
 refine A7 T [5] (.pure 0 (.pure 1 (.pure 2 (.take 3 (.take 4 (.alt 5 (.pure 6 (.pure 7 (.pure 8 (.pure 9 .fin)))) .stop)))))) (by kernel_rfl) (by kernel_rfl) ?_
 iterate 5
  first
  |refine A2 ?_ rfl (by rfl) (fun w' hs=>?_) (fun _ _ _ h=>h) ?_
   rotate_left
   ·clear hs
    go_simp
    try rfl
   simp only [Act.put,D7,D6,D5]
  |refine A9 ?_ t0 rfl (by rfl) (fun w' hs=>?_) (fun _ _ _ h=>h) ?_
   rotate_left
   ·rw [HT.out] at hs
    subst hs
    go_simp
    try rfl
   simp only [Act.put,D7,D6,D5]
 refine J8 rfl (by simp) (fun K hK=>?_)
 go_simp
 refine HG.out.mono ?_
 intro e w9 hgr
 obtain rfl:=hgr.form
 have HGR:=hid (Z6.pre HBD.out hgr)
 clear hgr
 refine hK.out _ _ ?_
 clear hK K
 iterate 4
  refine A2 ?_ rfl (by rfl) (fun w' hs=>?_) (fun _ _ _ h=>h) ?_
  rotate_left
  ·clear hs
   go_simp
   try rfl
  simp only [Act.put,D7,D6,D5]
 refine C2 ?_
 go_wp2
 go_ret2
 exact HGR.out
theorem B7L {E:U3} {w:World} {own:Go.Mun.Own} {c:RFV} {f:Fr} {S:St} {M:List (Nat × St)} {n:Nat} (k:Nat) (hk:k≤f.stack.length) (h:C9 E w own c f S M n) :
  Calls Tryz.prog 263 #[.pointer (some ⟨E.fb,230,none⟩),.int .i64 (k:Int)] w fun e w' => ∃ v c',e = .returned (.tuple #[v,.bool true])∧C9 E w' own c' { f with stack:=f.stack.take (f.stack.length - k) } S M n∧(c'.tl=c.tl∧c'.jv=c.jv) ∧
   w'.ownsRow w.heap.size 25 32 v k (D3 (f.stack.reverse.take k))∧(∀ g,v.ownBlock=some g→¬ rmn E own c' g):=by
 refine (B33 k (A8I h.row) (h.one (by omega)) (D9 h.stk (Nat.zero_le _)) hk h.slen).mono ?_
 rintro e w' ⟨v,sv',w1,rfl,rfl,hb,hv,hs,hg⟩
 have hvg:=E4 hv
 refine ⟨v,_,rfl,h.stack (A0.of_below_size hb) hs (fun g hg2 => .inl (hg g hg2)) (fun y hy=>h.sval y (List.mem_of_mem_take hy)) (Nat.le_trans (by rw [List.length_take];exact Nat.min_le_right _ _) h.slen),⟨rfl,rfl⟩,?_,fun g hg2 hx=>?_⟩
 ·exact A0.own hv (C6 w1 E.fb 230 sv') (fun g hg2 e=>by have e2:g=E.fb:=e;have:=hvg g hg2;have:=h.lt;omega)
 ·have h1:=hvg g hg2
  obtain ⟨_,hlo,_⟩:=h.logs
  rcases hx with (hx | hx | hx | hx | hx) | hx
  ·have:=h.st.lows _ hx.1;omega
  ·have:=h.lt;omega
  ·have:=B0 h.stk _ (hg g hx);omega
  ·have:=B0 h.mem _ hx;omega
  ·have:=B0 hlo _ hx;omega
  ·have:=h.chg.only.size;omega
theorem B2E {X:Nat→Prop} {w:World} {g k c':Nat} {ad:Addr} {dv:Value} {l:Lg} (hk:l.topics.length=k) (hc:k≤c') (hm:c'≤maxLen) (had:k≠0→ad=⟨g,64,none⟩) (hx:¬ X g) (hr:w.row? g 64 (k*32)=some (D3 l.topics)) (ha:l.addr < wA) (hv:∀ t∈l.topics,t < wW) (hd:J3 w X dv l.data) :
  A2B w X (lgC l.addr (.slice (some ad) k c') dv) l:=by
 refine ⟨_,dv,rfl,hd,ha,some ad,c',by rw [hk],by rw [hk];exact hc,hm,hv,fun hn=>?_⟩
 have h0:k≠0:=by rw [← hk];exact fun e=>hn (List.eq_nil_of_length_eq_zero e)
 rw [had h0]
 exact ⟨g,64,rfl,hx,by rw [hk];exact hr⟩
theorem C9.not_new {E:U3} {w:World} {own:Go.Mun.Own} {c:RFV} {f:Fr} {S:St} {M:List (Nat × St)} {n:Nat} (h:C9 E w own c f S M n) {b:Nat} (hb:w.heap.size≤b):¬ rmn E own c b:=by
 intro hx
 obtain ⟨_,hlo,_⟩:=h.logs
 rcases hx with (hx | hx | hx | hx | hx) | hx
 ·have:=h.st.lows _ hx.1;omega
 ·have:=h.lt;omega
 ·have:=B0 h.stk _ hx;omega
 ·have:=B0 h.mem _ hx;omega
 ·have:=B0 hlo _ hx;omega
 ·have:=h.chg.only.size;omega
theorem B5O {E:U3} {w:World} {own:Go.Mun.Own} {c:RFV} {f:Fr} {S:St} {M:List (Nat × St)} {n:Nat} (k:Nat) (hk4:k≤4) (h:C9 E w own c f S M n) (htl:c.tl=L6 A0P) (hp:k+2≤f.stack.length) (h0:L9 f 0≤1048576) (h1:L9 f 1≤1048576) (hln:f.logs.length≤1000) :
  Calls Tryz.prog 179 #[.pointer (some ⟨E.fb,0,none⟩),.int .u8 ((160+k:Nat):Int),c.jv] w (RDo E c.jv (.ok { f with stack:=f.stack.take (f.stack.length - (k+2)),logs:=f.logs++[⟨f.m.to,(A0t f (k+2)).drop 2,T9 f.mem (L9 f 0) (L9 f 1)⟩] } S)):=by
 obtain ⟨a,ea⟩:∃ a,a=L9 f 0:=⟨_,rfl⟩
 obtain ⟨z,ez⟩:∃ z,z=L9 f 1:=⟨_,rfl⟩
 obtain ⟨ts,ets⟩:∃ ts,ts=(A0t f (k+2)).drop 2:=⟨_,rfl⟩
 rw [← ea] at h0
 rw [← ez] at h1
 have hsp:f.stack.reverse.take (k+2)=a :: z :: ts:=by
  rw [ets,ea,ez]
  unfold A0t L9
  have hl:k+2≤f.stack.reverse.length:=by rw [List.length_reverse];exact hp
  generalize f.stack.reverse=l at hl ⊢
  match l,hl with
  | x :: y :: l,_=>rfl
 have htl2:ts.length=k:=by
  have:(f.stack.reverse.take (k+2)).length=k+2:=by rw [List.length_take,List.length_reverse];omega
  rw [hsp] at this;simpa using this
 have htw:∀ t∈ts,t < wW:=fun t ht=>h.sval t (by
  have h3:t∈f.stack.reverse.take (k+2):=by rw [hsp];simp [ht]
  exact List.mem_reverse.1 (List.mem_of_mem_take h3))
 rw [← ea,← ez,← ets]
 obtain ⟨y,hy,hyy⟩:=B0i (160+k) (by omega)
 have ho:ofL ((160+k:Nat):Int)=some (((k+2:Nat):Int),0,375*((k:Int)+1)):=by
  unfold ofL
  rw [if_neg (by omega),if_neg (by omega),if_neg (by omega),if_pos (by omega)]
  have e:((160+k:Nat):Int) % 16=k:=by omega
  rw [e,show ((k:Int)+1+1)=((k+2:Nat):Int) by omega]
 rw [ho] at hyy
 have hr:=A7x h htl (160+k) y hy
 obtain ⟨X,hX⟩:∃ X:Nat,X=160+k:=⟨_,rfl⟩
 rw [← hX] at hr ⊢
 have hc:w.cell? ⟨E.fb,236+X*5+2,none⟩=some (.int .i64 ((k+2:Nat):Int)):=by
  have:=World.row?_cell hr (i:=2) (by omega)
  rw [this,← hyy.2.1];unfold Inf.c;rfl
 obtain ⟨T,hT⟩:∃ T:World→Prop,T=fun W=>W.cell? ⟨E.fb,236+X*5+2,none⟩=some (.int .i64 ((k+2:Nat):Int)):=⟨_,rfl⟩
 have HT:=hid hT
 have t0:T w.drew:=by rw [hT];exact hc
 have HP:=hid (B7L (k+2) hp (h.below (Below.refl _ _).drew))
 have HTL:=hid htl
 have HA:=hid (And.intro h0 h1)
 have HTS:=hid (And.intro htl2 htw)
 have HSP:=hid hsp
 have HLN0:=hid hln
 have d0:decide ((96:Int)≤(X:Int))=true:=decide_eq_true (by omega)
 have d1:decide ((X:Int) < 128)=false:=decide_eq_false (by omega)
 have d2:decide ((128:Int)≤(X:Int))=true:=decide_eq_true (by omega)
 have d2b:decide ((X:Int) < 144)=false:=decide_eq_false (by omega)
 have d3:decide ((144:Int)≤(X:Int))=true:=decide_eq_true (by omega)
 have d3b:decide ((X:Int) < 160)=false:=decide_eq_false (by omega)
 have d4:decide ((1:Int)≤(X:Int))=true:=decide_eq_true (by omega)
 have d5:decide ((X:Int)≤7)=false:=decide_eq_false (by omega)
 have d6:decide ((X:Int)=10)=false:=decide_eq_false (by omega)
 have b6:((X:Int) == 10)=false:=by simp;omega
 have d7:decide ((X:Int)=11)=false:=decide_eq_false (by omega)
 have b7:((X:Int) == 11)=false:=by simp;omega
 have d8:decide ((16:Int)≤(X:Int))=true:=decide_eq_true (by omega)
 have d9:decide ((X:Int)≤20)=false:=decide_eq_false (by omega)
 have d10:decide ((22:Int)≤(X:Int))=true:=decide_eq_true (by omega)
 have d11:decide ((X:Int)≤24)=false:=decide_eq_false (by omega)
 have d12:decide ((26:Int)≤(X:Int))=true:=decide_eq_true (by omega)
 have d13:decide ((X:Int)≤29)=false:=decide_eq_false (by omega)
 have d14:decide ((48:Int)≤(X:Int))=true:=decide_eq_true (by omega)
 have d15:decide ((X:Int)≤71)=false:=decide_eq_false (by omega)
 have d16:decide ((160:Int)≤(X:Int))=true:=decide_eq_true (by omega)
 have d17:decide ((X:Int)≤164)=true:=decide_eq_true (by omega)
 have hxI:(0:Int)≤(X:Int)∧(X:Int) < 256:=by omega
 have HXI:=hid hxI
 have htn:(X:Int).toNat=X:=Int.toNat_natCast X
 have hxl:((X:Int) < 256)=True:=eq_true (by omega)
 have hxn:(X < 256)=True:=eq_true (by omega)
 have hb0:(0:Int) < (k:Int)+2:=by omega
 have hb1:(1:Int) < (k:Int)+2:=by omega
 clear h htl hr hc hT hy hyy ho hp hln hxI hX hsp htl2 htw ea ez ets h0 h1 hk4
 go_enter Tryz.func179,Tryz.ntmps179
 go_wp2_with fail
 refine A7 T [10] (.pure 0 (.pure 1 (.pure 2 (.pure 3 (.pure 4 (.pure 5 (.pure 6 (.pure 7 (.pure 8 (.take 9 (.alt 10 (.pure 11 (.pure 12 (.pure 13 (.pure 14 (.pure 15 .fin))))) .stop))))))))))) (by kernel_rfl) (by kernel_rfl) ?_
 iterate 10
  first
  |refine A2 ?_ rfl (by rfl) (fun w' hs=>?_) (fun _ _ _ h=>h) ?_
   rotate_left
   ·clear hs
    go_simp
    try rfl
   simp only [Act.put,D7,D6,D5]
  |refine A9 ?_ t0 rfl (by rfl) (fun w' hs=>?_) (fun _ _ _ h=>h) ?_
   rotate_left
   ·rw [HT.out] at hs
    have s1:=hs
    go_simp
    try rfl
   simp only [Act.put,D7,D6,D5]
 refine J8 rfl (by simp) (fun K hK=>?_)
 go_simp
 refine HP.out.mono ?_
 rintro e w1 ⟨v,c1,rfl,h1,⟨ht1,hj1⟩,hv1,ho1⟩
 have H1:=hid h1
 have HT1:=hid (ht1.trans HTL.out)
 have HJ1:=hid hj1
 have HV:=hid hv1
 have HVO:=hid ho1
 clear h1 ht1 hj1 hv1 ho1
 refine hK.out _ _ ?_
 clear hK K
 iterate 5
  refine A2 ?_ rfl (by rfl) (fun w' hs=>?_) (fun _ _ _ h=>h) ?_
  rotate_left
  ·clear hs
   go_simp
   try rfl
  simp only [Act.put,D7,D6,D5]
 refine C2 ?_
 clear t0 HT T
 rw [HSP.out] at HV
 obtain ⟨g,cc,hvf,hgb,hgc,hcm,hgr,_⟩:=J5 HV.out (by omega)
 subst hvf
 obtain ⟨ad,c',hsl,hs1,hs2,hs3⟩:=A6J g k cc hgc
 have r0:w1.row? g 0 32=some (A3 32 a):=by
  have:=World.row?_sub hgr (o':=0) (n':=32) (by omega) (by omega)
  simpa [D3,List.take_left'] using this
 have r1:w1.row? g 32 32=some (A3 32 z):=by
  have:=World.row?_sub hgr (o':=32) (n':=32) (by omega) (by omega)
  rw [this]
  simp [D3,List.drop_left',List.take_left']
 have r2:w1.row? g 64 (k*32)=some (D3 ts):=by
  have:=World.row?_sub hgr (o':=64) (n':=k*32) (by omega) (by omega)
  rw [this]
  have e:=A02 (a :: z :: ts) 2
  simp only [Nat.zero_add,Nat.sub_zero]
  rw [show (64:Nat)=2*32 from rfl,e]
  rw [List.take_of_length_le (by rw [A8r];simp [HTS.out.1])]
  rfl
 have HG:=hid (HVO.out g rfl)
 have HC':=hid (And.intro hs1 (And.intro (Nat.le_trans hs2 hcm) hs3))
 obtain ⟨F,hF⟩:∃ F:Fr,F={ f with stack:=f.stack.take (f.stack.length - (k+2)) }:=⟨_,rfl⟩
 have HF1:=hid hF
 rw [← hF] at H1
 clear hgr hs1 hs2 hs3 hgb hgc hcm HV HVO hF
 obtain ⟨la,lc,hlv⟩:∃ la lc,c1.lv = .slice la F.logs.length lc:=by obtain ⟨cs,hl,_⟩:=H1.out.logs;exact E9 hl
 obtain ⟨T,hT⟩:∃ T:World→Prop,T=fun W=>W.row? E.fb 0 1516=some (B8 (rfS E c1 F))∧W.row? g 0 32=some (A3 32 a)∧W.row? g 32 32=some (A3 32 z):=⟨_,rfl⟩
 have HT:=hid hT
 have HTB:Hid (∀ W W',T W→Below W.heap.size W W'→T W'):=by
  show ∀ W W',T W→Below W.heap.size W W'→T W'
  rw [hT]
  exact fun W W' ⟨x1,x2,x3⟩ hb=>⟨((C7 hb).1 _ _ _ (World.row?_lt x1)).trans x1,((C7 hb).1 _ _ _ (World.row?_lt x2)).trans x2,((C7 hb).1 _ _ _ (World.row?_lt x3)).trans x3⟩
 have HTO:Hid (∀ W W',T W→A0 (fun b=>c1.lv.ownBlock=some b) W W'→T W'):=by
  show ∀ W W',T W→A0 (fun b=>c1.lv.ownBlock=some b) W W'→T W'
  rw [hT]
  have hg1:¬ c1.lv.ownBlock=some g:=fun e=>HG.out (.inl (.inr (.inr (.inr (.inr e)))))
  have hg2:¬ c1.lv.ownBlock=some E.fb:=fun e=>(H1.out.lown _ e).2.1 rfl
  exact fun W W' ⟨x1,x2,x3⟩ hb=>⟨(hb.row? (World.row?_lt x1) hg2).trans x1,(hb.row? (World.row?_lt x2) hg1).trans x2,(hb.row? (World.row?_lt x3) hg1).trans x3⟩
 have HB1:Hid (Below w1.heap.size w1 w1.drew):=(Below.refl _ _).drew
 have t1:T w1.drew:=HTB.out w1 _ (by rw [hT];exact ⟨H1.out.row,r0,r1⟩) HB1.out
 have fa:A2i a=some a:=if_pos (by have:=HA.out;omega)
 have fz:A2i z=some z:=if_pos (by have:=HA.out;omega)
 have haw:a < wW:=by have:=HA.out;unfold wW;omega
 have hzw:z < wW:=by have:=HA.out;unfold wW;omega
 have HSA:Hid (∀ w,Calls Tryz.prog 267 #[.agg (A3 32 a).toArray] w fun e w'=>e = .returned (.int .i64 (a:Int))∧Below w.heap.size w w'):=fun w=>by
  have:=A3X a haw w
  rw [fa] at this
  exact this
 have HSZ:Hid (∀ w,Calls Tryz.prog 267 #[.agg (A3 32 z).toArray] w fun e w'=>e = .returned (.int .i64 (z:Int))∧Below w.heap.size w w'):=fun w=>by
  have:=A3X z hzw w
  rw [fz] at this
  exact this
 have HGET:Hid (∀ W,C9 E W own c1 F S M n→Calls Tryz.prog 266 #[.pointer (some ⟨E.fb,231,none⟩),.int .i64 (a:Int),.int .i64 (z:Int)] W fun e w' => ∃ v,e = .returned v∧A3d W w' v (T9 F.mem a z)):=fun W hf=>by
  obtain ⟨xa,xc,hxv,_,hI⟩:=G9.of_own' hf.mem
  exact B5M a z HA.out.1 HA.out.2 (by rw [B09 hf.row,hxv]) hI hf.mlen.1
 have HLN:Hid (F.logs.length≤1000):=by show _≤_;rw [HF1.out];exact HLN0.out
 have HLV:=hid hlv
 have HR2:=hid r2
 clear hT r0 r1 r2 fa fz haw hzw hlv
 have hto:=H1.out.mok.to
 have HTOP:=hid hto
 clear hto
 go_wp2_with fail
 refine A7 T [28] (.pure 0 (.pure 1 (.pure 2 (.pure 3 (.take 4 (.pure 5 (.pure 6 (.pure 7 (.take 8 (.pure 9 (.pure 10 (.pure 11 (.pure 12 (.pure 13 (.pure 14 (.pure 15 (.take 16 (.pure 18 (.pure 19 (.take 20 (.alt 17 (.alt 21 (.alt 22 (.pure 23 (.alt 24 (.alt 25 (.pure 26 (.pure 27 (.alt 28 .fin .stop))) .stop) .stop)) .stop) .stop) .stop))))))))))))))))))))) (by kernel_rfl) (by kernel_rfl) ?_
 generalize w1.drew=v1 at *
 iterate 20
  first
  |refine A2 ?_ rfl (by rfl) (fun w' hs=>?_) (fun _ _ _ h=>h) ?_
   rotate_left
   ·clear hs
    go_simp
    try rfl
   simp only [Act.put,D7,D6,D5]
  |refine A9 ?_ t1 rfl (by rfl) (fun w' hs=>?_) (fun _ _ _ h=>h) ?_
   rotate_left
   ·rw [HT.out] at hs
    obtain ⟨q0,q1,q2⟩:=hs;have q3:=B5H q0;have q4:=B6U q0;rw [HLV.out] at q4
    go_simp
    try rfl
   simp only [Act.put,D7,D6,D5]
 refine A5 rfl (fun K hK=>?_)
 go_simp
 refine (HSA.out _).mono ?_
 rintro e w2 ⟨rfl,hb2⟩
 have t2:T w2:=HTB.out _ _ t1 hb2
 have HB2:=hid (HB1.out.trans (hb2.mono HB1.out.size))
 clear hb2
 refine hK.out _ _ t2 ?_
 clear hK K
 refine A5 rfl (fun K hK=>?_)
 go_simp
 refine (HSZ.out _).mono ?_
 rintro e w3 ⟨rfl,hb3⟩
 have t3:T w3:=HTB.out _ _ t2 hb3
 have HB3:=hid (HB2.out.trans (hb3.mono HB2.out.size))
 have HF3:=hid (H1.out.below HB3.out)
 clear hb3
 refine hK.out _ _ t3 ?_
 clear hK K
 refine A5 rfl (fun K hK=>?_)
 go_simp
 refine (HGET.out _ HF3.out).mono ?_
 rintro e w4 ⟨dv,rfl,hnb⟩
 have t4:T w4:=HTB.out _ _ t3 hnb.below
 have HB4:=hid (HB3.out.trans (hnb.below.mono HB3.out.size))
 have HF4:=hid (HF3.out.below hnb.below)
 have HRO:Hid (J3 w4 (rmn E own c1) dv (T9 F.mem a z)):=by
  obtain ⟨⟨xa,xc,e1,e2,e3⟩,_⟩:=hnb
  exact ⟨⟨xa,xc,e1,e2,fun _ p hp hx=>HF3.out.not_new (e3 p hp) hx⟩,A3I HF3.out.mbyte _ _,by rw [N5];have:=HA.out.2;omega⟩
 obtain ⟨da,dk,hdv⟩:∃ a k,dv = .slice a z k:=by obtain ⟨⟨a',k',h1,_⟩,_⟩:=HRO.out;exact ⟨a',k',by rw [h1,N5]⟩
 subst hdv
 clear hnb
 refine hK.out _ _ t4 ?_
 clear hK K
 refine A2 (.agg (lgC F.m.to (.slice (some ad) k c') (.slice da z dk)).toArray) rfl (by rfl) (fun w' hs=>?_) (fun _ _ _ h=>h) ?_
 ·clear hs
  have hbl:=B4O F.m.to (some ad) da k c' z dk
  go_simp
 simp only [Act.put,D7,D6,D5]
 refine A5 rfl (fun K hK=>?_)
 go_simp
 obtain ⟨w5,e5⟩:∃ w5,w5=w4.alloc (.cells (lgC F.m.to (.slice (some ad) k c') (.slice da z dk)).toArray 58):=⟨_,rfl⟩
 have hb5:Below w4.heap.size w4 w5:=by rw [e5];exact (Below.refl _ _).alloc (Nat.le_refl _) _
 have t5:T w5:=HTB.out _ _ t4 hb5
 rw [← e5]
 have HE5:=hid e5
 have HB5:=hid hb5
 clear e5 hb5
 refine hK.out _ _ t5 ?_
 clear hK K
 refine A5 rfl (fun K hK=>?_)
 obtain ⟨lcs,hlo1,hlo2⟩:=HF4.out.logs
 have HLO:=hid hlo2
 have HLO5:=hid (D9 (C3 hlo1 HB5.out) (Nat.zero_le _))
 rw [HLV.out] at HLO5
 have HSRC:Hid (G8 w5 (some ⟨w4.heap.size,0,none⟩) 1 1 22 (lgC F.m.to (.slice (some ad) k c') (.slice da z dk))):=by show G8 _ _ _ _ _ _;rw [HE5.out];exact G8.new w4 (m:=1) (size:=22) (cs:=(lgC F.m.to (.slice (some ad) k c') (.slice da z dk))) 58 (0,0) (B4p _ _ _ _ _ _ _) 1
 clear hlo1 hlo2
 refine K9 B63 rfl _ _ rfl HLO5.out rfl HSRC.out rfl (by have:=HLN.out;unfold maxLen;omega) (by have:=HLN.out;omega) ?_
 intro lv2 w6 hv6 ho6 hn6
 have ho46:A0 (fun b=>c1.lv.ownBlock=some b) w4 w6:=(A0.mono (S:=fun _=>False) (A0.of_below_size HB5.out) (fun _ (h:False)=>h.elim)).trans (by rw [HLV.out];exact ho6) (fun i hi _=>hi)
 have t6:T w6:=HTO.out _ _ t4 ho46
 have hl2:lv2.oneCell'=true:=by obtain ⟨_,_,rfl⟩:=A1d hv6;rfl
 have f234:w6.free? E.fb 234 1=true:=by rw [ho46.free? HF4.out.lt (fun e=>(HF4.out.lown _ e).2.1 rfl)];exact HF4.out.one (by omega)
 have HRES:Hid (C9 E (w6.setCell ⟨E.fb,234,none⟩ lv2) own { c1 with lv:=lv2 } { F with logs:=F.logs++[⟨F.m.to,ts,T9 F.mem a z⟩] } S M n):=by
  refine Go.Mun.RFrOk_log HF4.out ho46 HLO.out (B2E (g:=g) HTS.out.1 HC'.out.1 HC'.out.2.1 HC'.out.2.2 HG.out ?_ HTOP.out HTS.out.2 HRO.out) hv6 ?_
  ·exact ((C7 HB4.out).1 _ _ _ (World.row?_lt HR2.out)).trans HR2.out
  ·intro b hb
   rcases hn6 b hb with h | h
   ·exact .inl (by rw [HLV.out];exact h)
   ·exact .inr (Nat.le_trans HB5.out.size h)
 clear hv6 ho6 hn6 ho46
 refine hK.out _ _ t6 ?_
 clear hK K
 iterate 2
  refine A2 ?_ rfl (by rfl) (fun w' hs=>?_) (fun _ _ _ h=>h) ?_
  rotate_left
  ·clear hs
   go_simp
   try rfl
  simp only [Act.put,D7,D6,D5]
 refine J8 rfl (by simp) (fun K hK=>?_)
 go_simp
 refine hK.out _ _ ?_
 clear hK K
 refine C2 ?_
 go_wp2
 go_ret
 rw [HF1.out] at HRES
 exact ⟨rfl,own,_,M,n,HRES.out,HT1.out,HJ1.out⟩
theorem A6Q {E:U3} {w w':World} {own:Go.Mun.Own} {c:RFV} {f:Fr} {S:St} {M:List (Nat × St)} {n cost k a z:Nat} {e:Ending} (h:C9 E w own c f S M n) (hg:K4 f.mem.length a z=some (cost,k)) (hG:Z6 w w' E.fb 231 E.w0.heap.size c.mv f.mem (some (cost,k)) e) :
  ∃ c',C9 E w' own c' { f with mem:=f.mem++List.replicate k 0 } S M n∧c'.tl=c.tl∧c'.jv=c.jv∧A0 (rmu own E.fb c) w w':=by
 obtain ⟨f1,f2,_,_⟩:=Z5 h.mlen hg
 obtain ⟨_,h2⟩:=hG
 rcases h2 with ⟨hb,rfl⟩ | ⟨w1,mv',ho,rfl,hr,hl⟩
 ·refine ⟨c,?_,rfl,rfl,A0.of_below_size hb⟩
  have e:f.mem++List.replicate 0 0=f.mem:=by simp
  rw [e]
  exact h.below hb
 ·have hll:(f.mem++List.replicate k 0).length=f.mem.length+k:=by simp
  refine ⟨{ c with mv:=mv' },RFrOk_memory h ho ?_ hl (A5P h.mbyte k) ?_,rfl,rfl,?_⟩
  ·rw [hll]
   exact D9 hr (Nat.zero_le _)
  ·rw [hll];exact ⟨f1,f2⟩
  ·exact (ho.mono fun b hb => .inr (.inr (.inr (.inl hb)))).trans (C6 w1 E.fb 231 mv') (fun i hi _ => .inr (.inl hi))
theorem A96 {E:U3} {w:World} {own:Go.Mun.Own} {c:RFV} {f:Fr} {S:St} {M:List (Nat × St)} {n cost k:Nat} (h:C9 E w own c f S M n) (htl:c.tl=L6 A0P) (hl:1≤f.stack.length) (hg:K4 f.mem.length (L9 f 0) 1=some (cost,k)) :
  Calls Tryz.prog 178 #[.pointer (some ⟨E.fb,0,none⟩),.int .u8 83] w (B8G E w own c S (.more cost { f with mem:=f.mem++List.replicate k 0 })):=by
 have hcost:cost≤2150629376:=(Z5 h.mlen hg).2.2.1
 have hx:=A4K h 0
 have hte:=A7n (f:=f) (k:=0) (by omega)
 have O1:=hid (fun w=>A3Y 1 (by decide) (by decide) w)
 rw [show ofW 1=1 by kernel_rfl] at O1
 have HWD:Hid (∀ w,Calls Tryz.prog 256 #[.agg (A3 32 1).toArray] w fun e w'=>e = .returned (.tuple #[.int .i64 1,.bool true])∧Below w.heap.size w w'):=fun w=>A6M 1 (by decide) (by decide) w
 have HTOP:Hid (∀ W,C9 E W own c f S M n→Calls Tryz.prog 249 #[.pointer (some ⟨E.fb,0,none⟩),.int .i64 0] W fun e w'=>e = .returned (.agg (A3 32 (L9 f 0)).toArray)∧Below W.heap.size W w'):=fun W hW=>by
  have:=A7z 0 hW (by omega)
  rw [← hte] at this
  exact this
 have HGR:Hid (∀ W,C9 E W own c f S M n→Calls Tryz.prog 258 #[.pointer (some ⟨E.fb,0,none⟩),.agg (A3 32 (L9 f 0)).toArray,.agg (A3 32 1).toArray] W fun e w'=>Z6 W w' E.fb 231 E.w0.heap.size c.mv f.mem (some (cost,k)) e):=fun W hW=>by
  have:=A6O (L9 f 0) 1 hx (by decide) (B09 hW.row) (hW.one (by omega)) hW.mem (fun g hg=>(hW.mown g hg).2.1) hW.mlen.1 (by have:=hW.chg.only.size;exact this)
  rw [hg] at this
  exact this
 have HFR:Hid (∀ W W' e,C9 E W own c f S M n→Z6 W W' E.fb 231 E.w0.heap.size c.mv f.mem (some (cost,k)) e→∃ c',C9 E W' own c' { f with mem:=f.mem++List.replicate k 0 } S M n∧c'.tl=c.tl∧c'.jv=c.jv∧A0 (rmu own E.fb c) W W'):=fun W W' e hW hG=>A6Q hW hg hG
 have H:=hid h
 have HTL:=hid htl
 have HCO:=hid hcost
 have ok1:=D2 32 1
 have l1:=C4 32 1
 have z32:=zU8_len 32
 have hwc:IntKind.i64.wrap (cost:Int)=(cost:Int):=U6 _ (by omega) (by omega)
 obtain ⟨tp,htp⟩:∃ tp,tp=L9 f 0:=⟨_,rfl⟩
 rw [← htp] at HTOP HGR
 clear h htl hl hg hcost hx hte htp
 go_enter Tryz.func178,Tryz.ntmps178
 go_wp2_with fail
 refine (A8K _).mono ?_
 rintro e w1 ⟨rfl,rfl⟩
 go_wp2_with fail
 refine (O1.out _).mono ?_
 rintro e wa ⟨rfl,hba⟩
 have fa:(wa.alloc (.cells (J4 32).toArray 25)).free? wa.heap.size 0 32=true:=World.free?_alloc_at _ _ rfl (by rw [zU8_len];omega)
 have hbx:=A2c (w:=wa) (t:=25) (n:=32) (zU8_len 32) ok1
 obtain ⟨wb,eb⟩:∃ wb,wb=(wa.alloc (.cells (J4 32).toArray 25)).setCells wa.heap.size 0 (A3 32 1):=⟨_,rfl⟩
 rw [← eb] at hbx
 have rb:=hbx.2
 have HBB:=hid (hba.trans (hbx.1.mono hba.size))
 have HRB:=hid rb
 have HEB:=hid eb
 rw [eb] at rb
 obtain ⟨kb,hkb⟩:∃ kb,kb=wa.heap.size:=⟨_,rfl⟩
 clear hba hbx eb
 go_wp2_with fail
 rw [← HEB.out]
 refine (HWD.out _).mono ?_
 rintro e wc ⟨rfl,hbc⟩
 have HBC:=hid (HBB.out.trans (hbc.mono HBB.out.size))
 have HRC:Hid (wc.row? kb 0 32=some (A3 32 1)):=by rw [hkb];exact ((C7 hbc).1 _ _ _ (World.row?_lt HRB.out)).trans HRB.out
 have HKB:=hid hkb
 clear hbc rb hkb fa
 obtain ⟨T,hT⟩:∃ T:World→Prop,T=fun W=>Below w1.heap.size w1 W∧W.row? kb 0 32=some (A3 32 1):=⟨_,rfl⟩
 have HT:=hid hT
 have HTN:Hid (∀ W W',T W→Below W.heap.size W W'→T W'):=by show ∀ W W',T W→Below W.heap.size W W'→T W';rw [hT];rintro W W' ⟨h1,h2⟩ hb;exact ⟨h1.trans (hb.mono h1.size),((C7 hb).1 _ _ _ (World.row?_lt h2)).trans h2⟩
 have HTG:Hid (∀ W,T W→C9 E W own c f S M n∧Below w1.heap.size w1 W):=by show ∀ W,T W→_;rw [hT];exact fun W hW=>⟨H.out.below hW.1,hW.1⟩
 have t0:T wc.drew:=HTN.out wc _ (by rw [hT];exact ⟨HBC.out,HRC.out⟩) (Below.refl _ _).drew
 clear hT
 go_wp2_with fail
 rw [← HKB.out]
 refine A7 T [5] (.pure 0 (.pure 1 (.pure 2 (.take 4 (.alt 3 (.alt 5 (.pure 6 (.pure 7 (.pure 8 (.pure 9 (.pure 10 .fin))))) .stop) .stop))))) (by kernel_rfl) (by kernel_rfl) ?_
 iterate 4
  first
  |refine A2 ?_ rfl (by rfl) (fun w' hs=>?_) (fun _ _ _ h=>h) ?_
   rotate_left
   ·clear hs
    go_simp
    try rfl
   simp only [Act.put,D7,D6,D5]
  |refine A9 ?_ t0 rfl (by rfl) (fun w' hs=>?_) (fun _ _ _ h=>h) ?_
   rotate_left
   ·rw [HT.out] at hs
    have hs2:=hs.2
    go_simp
    try rfl
   simp only [Act.put,D7,D6,D5]
 refine A5 rfl (fun K hK=>?_)
 go_simp
 refine (HTOP.out _ (HTG.out _ t0).1).mono ?_
 rintro e wd ⟨rfl,hbd⟩
 have t1:T wd:=HTN.out _ _ t0 hbd
 clear hbd
 refine hK.out _ _ t1 ?_
 clear hK K
 refine J8 rfl (by simp) (fun K hK=>?_)
 go_simp
 refine (HGR.out _ (HTG.out _ t1).1).mono ?_
 intro e w9 hgr
 obtain rfl:=hgr.form
 have HFN:=hid (HFR.out _ _ _ (HTG.out _ t1).1 hgr)
 have ec:B4I (some (cost,k))=cost:=rfl
 have es:(some (cost,k)).isSome=true:=rfl
 rw [ec,es]
 clear hgr ec es
 refine hK.out _ _ ?_
 clear hK K
 iterate 5
  refine A2 ?_ rfl (by rfl) (fun w' hs=>?_) (fun _ _ _ h=>h) ?_
  rotate_left
  ·clear hs
   go_simp
   try rfl
  simp only [Act.put,D7,D6,D5]
 refine C2 ?_
 go_wp2
 go_ret2
 obtain ⟨c',k1,k2,k3,k4⟩:=HFN.out
 exact ⟨rfl,by have:=HCO.out;omega,⟨own,c',M,n,k1,k2.trans HTL.out,k3⟩,(A0.of_below_size (HTG.out _ t1).2).trans k4 (fun _ h _=>h)⟩
theorem B6s {L a z cost k:Nat} (h:K4 L a z=some (cost,k)):z≤1048576:=by
 unfold K4 at h
 by_cases hn:z=0
 ·omega
 ·rw [if_neg hn] at h
  by_cases h1:a+z≤1048576
  ·omega
  ·rw [if_neg h1] at h;cases h
theorem A8O (op:Nat) (hop:160≤op∧op≤164) {E:U3} {w:World} {own:Go.Mun.Own} {c:RFV} {f:Fr} {S:St} {M:List (Nat × St)} {n cost k:Nat} (h:C9 E w own c f S M n) (htl:c.tl=L6 A0P) (hl:2≤f.stack.length) (hg:K4 f.mem.length (L9 f 0) (L9 f 1)=some (cost,k)) :
  Calls Tryz.prog 178 #[.pointer (some ⟨E.fb,0,none⟩),.int .u8 (op:Int)] w (B8G E w own c S (.more (8*L9 f 1+cost) { f with mem:=f.mem++List.replicate k 0 })):=by
 have hcost:cost≤2150629376:=(Z5 h.mlen hg).2.2.1
 have hzn:=B6s hg
 have hx:=A4K h 0
 have hx1:=A4K h 1
 have hte:=A7n (f:=f) (k:=0) (by omega)
 have hte1:=A7n (f:=f) (k:=1) (by omega)
 have hfit:A2i (L9 f 1)=some (L9 f 1):=if_pos (by omega)
 have O0:=hid (fun w=>A3Y 0 (by decide) (by decide) w)
 rw [show ofW 0=0 by kernel_rfl] at O0
 have HWD:Hid (∀ w,Calls Tryz.prog 256 #[.agg (A3 32 (L9 f 1)).toArray] w fun e w'=>e = .returned (.tuple #[.int .i64 (((L9 f 1+31) / 32:Nat):Int),.bool true])∧Below w.heap.size w w'):=fun w=>A6M (L9 f 1) hx1 (by omega) w
 have HIN:Hid (∀ w,Calls Tryz.prog 257 #[.agg (A3 32 (L9 f 1)).toArray] w fun e w'=>e = .returned (.tuple #[.int .i64 ((L9 f 1:Nat):Int),.bool true])∧Below w.heap.size w w'):=fun w=>by
  have:=A3v (L9 f 1) hx1 w
  rw [hfit] at this
  exact this
 have HTOP:Hid (∀ W,C9 E W own c f S M n→Calls Tryz.prog 249 #[.pointer (some ⟨E.fb,0,none⟩),.int .i64 0] W fun e w'=>e = .returned (.agg (A3 32 (L9 f 0)).toArray)∧Below W.heap.size W w'):=fun W hW=>by
  have:=A7z 0 hW (by omega)
  rw [← hte] at this
  exact this
 have HTO1:Hid (∀ W,C9 E W own c f S M n→Calls Tryz.prog 249 #[.pointer (some ⟨E.fb,0,none⟩),.int .i64 1] W fun e w'=>e = .returned (.agg (A3 32 (L9 f 1)).toArray)∧Below W.heap.size W w'):=fun W hW=>by
  have:=A7z 1 hW (by omega)
  rw [← hte1] at this
  exact this
 have HGR:Hid (∀ W,C9 E W own c f S M n→Calls Tryz.prog 258 #[.pointer (some ⟨E.fb,0,none⟩),.agg (A3 32 (L9 f 0)).toArray,.agg (A3 32 (L9 f 1)).toArray] W fun e w'=>Z6 W w' E.fb 231 E.w0.heap.size c.mv f.mem (some (cost,k)) e):=fun W hW=>by
  have:=A6O (L9 f 0) (L9 f 1) hx hx1 (B09 hW.row) (hW.one (by omega)) hW.mem (fun g hg=>(hW.mown g hg).2.1) hW.mlen.1 (by have:=hW.chg.only.size;exact this)
  rw [hg] at this
  exact this
 have HFR:Hid (∀ W W' e,C9 E W own c f S M n→Z6 W W' E.fb 231 E.w0.heap.size c.mv f.mem (some (cost,k)) e→∃ c',C9 E W' own c' { f with mem:=f.mem++List.replicate k 0 } S M n∧c'.tl=c.tl∧c'.jv=c.jv∧A0 (rmu own E.fb c) W W'):=fun W W' e hW hG=>A6Q hW hg hG
 have H:=hid h
 have HTL:=hid htl
 have HCO:=hid hcost
 have ok0:=D2 32 0
 have l0:=C4 32 0
 have z32:=zU8_len 32
 obtain ⟨tp,htp⟩:∃ tp,tp=L9 f 0:=⟨_,rfl⟩
 obtain ⟨tz,htz⟩:∃ tz,tz=L9 f 1:=⟨_,rfl⟩
 rw [← htp] at HTOP HGR
 rw [← htz] at HTO1 HGR HWD HIN hzn ⊢
 have hwc:IntKind.i64.wrap (8*(tz:Int)+(cost:Int))=8*(tz:Int)+(cost:Int):=U6 _ (by omega) (by omega)
 have hw8:IntKind.i64.wrap (8*(tz:Int))=8*(tz:Int):=U6 _ (by omega) (by omega)
 have HZN:=hid hzn
 have okz:=D2 32 tz
 have lz:=C4 32 tz
 generalize (tz+31) / 32=wn at *
 have HAR:Hid (∀ w,Calls Tryz.prog 250 #[.int .u8 (op:Int)] w fun e w'=>e = .returned (.tuple #[.int .i64 0,.int .i64 1,.int .i64 0])∧w'=w):=fun w=>by
  have:=A7A (op - 160) (by omega) w
  rw [show (160:Int)+((op - 160:Nat):Int)=(op:Int) by omega] at this
  exact this
 have b1:((op:Int) == 32)=false:=by simp;omega
 have b2:((op:Int) == 245)=false:=by simp;omega
 have b3:((op:Int) == 55)=false:=by simp;omega
 have b4:((op:Int) == 57)=false:=by simp;omega
 have b5:((op:Int) == 60)=false:=by simp;omega
 have b6:((op:Int) == 62)=false:=by simp;omega
 have b7:((op:Int) == 241)=false:=by simp;omega
 have b8:((op:Int) == 244)=false:=by simp;omega
 have b9:((op:Int) == 250)=false:=by simp;omega
 have d1:decide ((160:Int)≤(op:Int))=true:=decide_eq_true (by omega)
 have d2:decide ((op:Int)≤164)=true:=decide_eq_true (by omega)
 clear h htl hl hg hcost hx hte htp hx1 hte1 htz hzn hfit hop
 go_enter Tryz.func178,Tryz.ntmps178
 go_wp2_with fail
 refine (HAR.out _).mono ?_
 rintro e w1 ⟨rfl,rfl⟩
 go_wp2_with fail
 refine (O0.out _).mono ?_
 rintro e wa ⟨rfl,hba⟩
 have fa:(wa.alloc (.cells (J4 32).toArray 25)).free? wa.heap.size 0 32=true:=World.free?_alloc_at _ _ rfl (by rw [zU8_len];omega)
 have hbx:=A2c (w:=wa) (t:=25) (n:=32) (zU8_len 32) ok0
 obtain ⟨wb,eb⟩:∃ wb,wb=(wa.alloc (.cells (J4 32).toArray 25)).setCells wa.heap.size 0 (A3 32 0):=⟨_,rfl⟩
 rw [← eb] at hbx
 have HBB:=hid (hba.trans (hbx.1.mono hba.size))
 have HFB0:Hid (wb.free? wa.heap.size 0 32=true):=by show _=_;rw [eb,World.free?_setCells'];exact fa
 have HEB:=hid eb
 obtain ⟨kb,hkb⟩:∃ kb,kb=wa.heap.size:=⟨_,rfl⟩
 have HKN:Hid (w1.heap.size≤kb):=by show _≤_;rw [hkb];exact hba.size
 clear hba hbx eb
 go_wp2_with fail
 rw [← HEB.out]
 refine (HTO1.out _ (H.out.below HBB.out)).mono ?_
 rintro e wx ⟨rfl,hbw⟩
 rw [← hkb] at HFB0 ⊢
 have fx:wx.free? kb 0 32=true:=((C7 hbw).2 _ _ _ (C1 HFB0.out)).trans HFB0.out
 have HBX:=hid (HBB.out.trans (hbw.mono HBB.out.size))
 obtain ⟨wy,ey⟩:∃ wy,wy=wx.setCells kb 0 (A3 32 tz):=⟨_,rfl⟩
 have HRY:Hid (wy.row? kb 0 32=some (A3 32 tz)):=by show _=_;rw [ey];exact B7 _ fx okz
 have HBY:Hid (Below w1.heap.size w1 wy):=by show Below _ _ _;rw [ey];exact HBX.out.setCells HKN.out _ _
 have HEY:=hid ey
 have HKB:=hid hkb
 have ry:=HRY.out
 rw [ey] at ry
 clear hbw ey hkb fa
 go_wp2_with fail
 rw [← HEY.out]
 refine (HWD.out _).mono ?_
 rintro e wc ⟨rfl,hbc⟩
 have HBC:=hid (HBY.out.trans (hbc.mono HBY.out.size))
 have HRC:Hid (wc.row? kb 0 32=some (A3 32 tz)):=((C7 hbc).1 _ _ _ (World.row?_lt HRY.out)).trans HRY.out
 have rc:=HRC.out
 clear hbc ry fx
 go_wp2_with fail
 refine (HIN.out _).mono ?_
 rintro e wd ⟨rfl,hbd⟩
 have HBD:=hid (HBC.out.trans (hbd.mono HBC.out.size))
 have HRD:Hid (wd.row? kb 0 32=some (A3 32 tz)):=((C7 hbd).1 _ _ _ (World.row?_lt HRC.out)).trans HRC.out
 clear hbd rc
 obtain ⟨T,hT⟩:∃ T:World→Prop,T=fun W=>Below w1.heap.size w1 W∧W.row? kb 0 32=some (A3 32 tz):=⟨_,rfl⟩
 have HT:=hid hT
 have HTN:Hid (∀ W W',T W→Below W.heap.size W W'→T W'):=by show ∀ W W',T W→Below W.heap.size W W'→T W';rw [hT];rintro W W' ⟨h1,h2⟩ hb;exact ⟨h1.trans (hb.mono h1.size),((C7 hb).1 _ _ _ (World.row?_lt h2)).trans h2⟩
 have HTG:Hid (∀ W,T W→C9 E W own c f S M n∧Below w1.heap.size w1 W):=by show ∀ W,T W→_;rw [hT];exact fun W hW=>⟨H.out.below hW.1,hW.1⟩
 have t0:T wd.drew:=HTN.out wd _ (by rw [hT];exact ⟨HBD.out,HRD.out⟩) (Below.refl _ _).drew
 clear hT
 go_wp2_with fail
 refine A7 T [5] (.pure 0 (.pure 1 (.pure 2 (.take 4 (.alt 3 (.alt 5 (.pure 6 (.pure 7 (.pure 8 (.pure 9 (.pure 10 .fin))))) .stop) .stop))))) (by kernel_rfl) (by kernel_rfl) ?_
 iterate 4
  first
  |refine A2 ?_ rfl (by rfl) (fun w' hs=>?_) (fun _ _ _ h=>h) ?_
   rotate_left
   ·clear hs
    go_simp
    try rfl
   simp only [Act.put,D7,D6,D5]
  |refine A9 ?_ t0 rfl (by rfl) (fun w' hs=>?_) (fun _ _ _ h=>h) ?_
   rotate_left
   ·rw [HT.out] at hs
    have hs2:=hs.2
    go_simp
    try rfl
   simp only [Act.put,D7,D6,D5]
 refine A5 rfl (fun K hK=>?_)
 go_simp
 refine (HTOP.out _ (HTG.out _ t0).1).mono ?_
 rintro e we ⟨rfl,hbe⟩
 have t1:T we:=HTN.out _ _ t0 hbe
 clear hbe
 refine hK.out _ _ t1 ?_
 clear hK K
 refine J8 rfl (by simp) (fun K hK=>?_)
 go_simp
 refine (HGR.out _ (HTG.out _ t1).1).mono ?_
 intro e w9 hgr
 obtain rfl:=hgr.form
 have HFN:=hid (HFR.out _ _ _ (HTG.out _ t1).1 hgr)
 have ec:B4I (some (cost,k))=cost:=rfl
 have es:(some (cost,k)).isSome=true:=rfl
 rw [ec,es]
 clear hgr ec es
 refine hK.out _ _ ?_
 clear hK K
 iterate 5
  refine A2 ?_ rfl (by rfl) (fun w' hs=>?_) (fun _ _ _ h=>h) ?_
  rotate_left
  ·clear hs
   go_simp
   try rfl
  simp only [Act.put,D7,D6,D5]
 refine C2 ?_
 go_wp2
 go_ret2
 obtain ⟨c',k1,k2,k3,k4⟩:=HFN.out
 exact ⟨by simp,by have:=HCO.out;have:=HZN.out;omega,⟨own,c',M,n,k1,k2.trans HTL.out,k3⟩,(A0.of_below_size (HTG.out _ t1).2).trans k4 (fun _ h _=>h)⟩
theorem B5L {w:World} {b o base:Nat} {mv:Value} {l:J1} {xa:Option Addr} {m xc:Nat} {x:J1} (p:Nat) (h:w.cell? ⟨b,o,none⟩=some mv) (hr:w.ownsRow base 5 1 mv l.length (K2 l)) (hl:l.length≤1048576)
  (hm:m=x.length) (hm0:m≠0) (hI:G9 w .u8 xa xc x) (hfit:p+x.length≤l.length) :
  Calls Tryz.prog 322 #[.pointer (some ⟨b,o,none⟩),.int .i64 p,.slice xa m xc] w fun e w'=>e = .returned (.bool true)∧A0 (fun g=>mv.ownBlock=some g) w w'∧w'.ownsRow base 5 1 mv l.length (K2 (A0J l p x)):=by
 have d1:decide ((p:Int) < 0)=false:=decide_eq_false (by omega)
 have hmp:0 < m:=by omega
 have b0:((m:Int) == 0)=false:=by simp;omega
 have c0:(m=0)=False:=eq_false hm0
 have d2:decide ((0:Int) < (m:Int))=true:=decide_eq_true (by omega)
 have d3:(0 < m)=True:=eq_true hmp
 have d4:decide ((l.length:Int) < (p:Int))=false:=decide_eq_false (by omega)
 have d5:(l.length < p)=False:=eq_false (by omega)
 have d6:(p≤l.length)=True:=eq_true (by omega)
 have d7:decide ((l.length:Int) - (p:Int) < (m:Int))=false:=decide_eq_false (by omega)
 have hw7:IntKind.i64.wrap ((l.length:Int) - (p:Int))=(l.length:Int) - p:=U6 _ (by omega) (by omega)
 rcases hr.2 with ⟨hv,h0⟩ | ⟨g,cap,cur,hv,hbg,hg,hnc,hcm,hcs,htake⟩
 ·exfalso;omega
 ·subst hv
  have hnc':l.length≤cap:=hnc
  have hcs':cur.size=cap:=by simpa using hcs
  have htk:cur.toList.take l.length=K2 l:=by simpa using htake
  have hsl:∀ w',(Instr.slice 26 (.slice (some ⟨g,0,none⟩) l.length cap) (some (.int .i64 (p:Int))) none none).run Tryz.prog w' = .ok (.slice (some ⟨g,p,none⟩) (l.length - p) (cap - p)) w':=fun w'=>A3o g p l.length cap (by omega) (by omega) hnc' w'
  obtain ⟨ad,hxa,hsrc⟩:=A2u hI (by omega)
  subst hxa
  have hcl:(K2 x).length=Nat.min m (l.length - p):=by
   rw [show (K2 x).length=x.length by simp [K2],← hm]
   exact (Nat.min_eq_left (by omega)).symm
  have HSRC:=hid hsrc
  have HCL:=hid hcl
  have HG:=hid hg
  have HFIT:Hid (p+(K2 x).length≤cur.size):=by show _≤_;rw [show (K2 x).length=x.length by simp [K2],hcs'];omega
  have HX:=hid (show cur.size=cap∧l.length≤cap∧cap≤maxLen∧base≤g∧cur.toList.take l.length=K2 l∧p+x.length≤l.length from ⟨hcs',hnc',hcm,hbg,htk,hfit⟩)
  clear hr hI hm0 hg hcl hsrc hcs htake hcs' htk hnc hcm hbg hm hfit
  go_enter Tryz.func322,Tryz.ntmps322
  go_wp2_with (refine wpList_copy_own rfl _ _ 26 26 rfl 5 Tryz.underlying26 (by kernel_rfl) g p (l.length - p) (cap - p) ad m xc rfl rfl cur 5 HG.out (K2 x) HCL.out HSRC.out HFIT.out (fun v hv=>by obtain ⟨y,_,rfl⟩:=List.mem_map.1 hv;rfl) ?_)
  go_ret
  obtain ⟨k1,k2,k3,k4,k5,k6⟩:=HX.out
  have hxl:(K2 x).length=x.length:=by simp [K2]
  have hcl:cur.toList.length=cap:=by rw [Array.length_toList];exact k1
  refine ⟨rfl,(A2q w g _).mono (fun i hi=>by have:i=g:=hi;rw [this];rfl),by rw [Nat.mul_one];simp [K2];exact A2m l p x k6,.inr ⟨g,cap,_,rfl,k4,setRow_heap w g cur _ 5 (0,0) HG.out,k2,k3,?_,?_⟩⟩
  ·simp only [List.size_toArray,List.length_append,List.length_take,List.length_drop,hcl,hxl]
   omega
  ·rw [Nat.mul_one,← A4l,← k5]
   have ht:=A4d cur.toList p (K2 x) l.length (by rw [hxl];exact k6) (by omega)
   rw [← ht]
   unfold splice
   rw [hxl]
theorem B2c {E:U3} {w:World} {own:Go.Mun.Own} {c:RFV} {f:Fr} {S:St} {M:List (Nat × St)} {n:Nat} {v jv:Value} {a x:Nat} (h:C9 E w own c f S M n) (ha:a < wW) (hv:w.ownsRow 0 25 32 v 2 (D3 [a,x])) (hvm:∀ g,v.ownBlock=some g→c.mv.ownBlock≠some g) (hfit:a+1≤f.mem.length) :
  Calls Tryz.prog 269 #[.pointer (some ⟨E.fb,0,none⟩),.int .u8 83,v,jv] w fun e w'=>e = .returned (.int .i64 0)∧C9 E w' own c { f with mem:=A0J f.mem a [((x % 256:Nat):Int)] } S M n:=by
 obtain ⟨g,vc,hvf,r0⟩:=A40 (b:=0) (l:=[a,x]) hv (i:=0) (by simp)
 obtain ⟨g1,vc1,hvf1,r1⟩:=A40 (b:=0) (l:=[a,x]) hv (i:=1) (by simp)
 rw [hvf] at hvf1
 cases hvf1
 have hal:a≤1048576:=by have:=h.mlen.1;omega
 have hft:A2i a=some a:=if_pos (by omega)
 have HSZ:Hid (∀ w,Calls Tryz.prog 267 #[.agg (A3 32 a).toArray] w fun e w'=>e = .returned (.int .i64 (a:Int))∧Below w.heap.size w w'):=fun w=>by
  have:=A3X a ha w
  rw [hft] at this
  exact this
 have tw:A1D g a x w:=by
  simp only [Nat.zero_mul,Nat.one_mul,List.getElem_cons_zero,List.getElem_cons_succ] at r0 r1
  exact ⟨r0,r1⟩
 have hs25:=A8z g 32 31 (by decide)
 have hgm:c.mv.ownBlock≠some g:=hvm g (by rw [hvf];rfl)
 obtain ⟨T,hT⟩:∃ T:World→Prop,T=A1D g a x:=⟨_,rfl⟩
 have HT:=hid hT
 have HTN:Hid (∀ W W',T W→Below W.heap.size W W'→T W'):=by show ∀ W W',T W→Below W.heap.size W W'→T W';rw [hT];exact fun W W' h2 hb=>h2.next hb
 have HTO:Hid (∀ W W',T W→A0 (fun b=>c.mv.ownBlock=some b) W W'→T W'):=by show ∀ W W',T W→_→T W';rw [hT];exact fun W W' h2 ho=>h2.only ho hgm
 have HF0:=hid (h.below (Below.refl _ _).drew)
 have t0:T w.drew:=HTN.out w _ (by rw [hT];exact tw) (Below.refl _ _).drew
 have HPUT:Hid (∀ W,T W→C9 E W own c f S M n→Calls Tryz.prog 322 #[.pointer (some ⟨E.fb,231,none⟩),.int .i64 (a:Int),.slice (some ⟨g,63,none⟩) 1 1] W fun e w'=>e = .returned (.bool true)∧A0 (fun b=>c.mv.ownBlock=some b) W w'∧C9 E w' own c { f with mem:=A0J f.mem a [((x % 256:Nat):Int)] } S M n):=fun W htw hf=>by
  rw [hT] at htw
  refine (B5L (m:=1) (x:=[((x % 256:Nat):Int)]) a (B09 hf.row) hf.mem hf.mlen.1 rfl (by decide) htw.last (by simpa using hfit)).mono ?_
  rintro e w' ⟨rfl,ho,hr⟩
  have hpl:(A0J f.mem a [((x % 256:Nat):Int)]).length=f.mem.length:=A2m _ _ _ (by simpa using hfit)
  exact ⟨rfl,ho,RFrOk_memput hf ho (by rw [hpl];exact hr) (B1b hf.mbyte) (by rw [hpl];exact hf.mlen)⟩
 subst hvf
 clear hv hvm hgm r0 r1 hal hft tw hT h ha hfit
 go_enter Tryz.func269,Tryz.ntmps269
 go_wp2_with fail
 refine A7 T [] (.pure 0 (.pure 1 (.pure 2 (.pure 3 (.pure 4 (.take 5 (.pure 7 (.pure 8 (.pure 9 (.alt 6 (.alt 10 .fin .stop) .stop)))))))))) (by kernel_rfl) (by kernel_rfl) ?_
 iterate 9
  first
  |refine A2 ?_ rfl (by rfl) (fun w' hs=>?_) (fun _ _ _ h=>h) ?_
   rotate_left
   ·clear hs
    go_simp
    try rfl
   simp only [Act.put,D7,D6,D5]
  |refine A9 ?_ t0 rfl (by rfl) (fun w' hs=>?_) (fun _ _ _ h=>h) ?_
   rotate_left
   ·rw [HT.out] at hs
    have q0:=hs.1;have q1:=hs.2
    go_simp
    try rfl
   simp only [Act.put,D7,D6,D5]
 refine A5 rfl (fun K hK=>?_)
 go_simp
 refine (HSZ.out _).mono ?_
 rintro e w1 ⟨rfl,hb1⟩
 have t1:T w1:=HTN.out _ _ t0 hb1
 have HF1:=hid (HF0.out.below hb1)
 clear hb1
 refine hK.out _ _ t1 ?_
 clear hK K
 refine A5 rfl (fun K hK=>?_)
 go_simp
 refine (HPUT.out _ t1 HF1.out).mono ?_
 rintro e w2 ⟨rfl,ho2,hres⟩
 have t2:T w2:=HTO.out _ _ t1 ho2
 have HRES:=hid hres
 clear hres ho2
 refine hK.out _ _ t2 ?_
 clear hK K
 refine C2 ?_
 go_wp2
 go_ret
 exact ⟨rfl,HRES.out⟩
theorem B2p {E:U3} {w:World} {own:Go.Mun.Own} {c:RFV} {f:Fr} {S:St} {M:List (Nat × St)} {n:Nat} {x p:Nat} {q g:Int} {r:Res} (hx:80≤x∧x≤95) (h:C9 E w own c f S M n) (htl:c.tl=L6 A0P) (ho:ofL (x:Int)=some ((p:Int),q,g)) (hp:p≤f.stack.length) (hrn:r≠.none)
  (hcl:∀ W v c',C9 E W own c' { f with stack:=f.stack.take (f.stack.length - p) } S M n→c'.tl=L6 A0P→c'.jv=c.jv→W.ownsRow w.heap.size 25 32 v p (D3 (f.stack.reverse.take p)) →
   (∀ g,v.ownBlock=some g→own g=none∧c'.sv.ownBlock≠some g∧c'.mv.ownBlock≠some g)→Calls Tryz.prog 269 #[.pointer (some ⟨E.fb,0,none⟩),.int .u8 (x:Int),v,c.jv] W (RDo E c.jv r)) :
  Calls Tryz.prog 179 #[.pointer (some ⟨E.fb,0,none⟩),.int .u8 (x:Int),c.jv] w (RDo E c.jv r):=by
 obtain ⟨y,hy,hyy⟩:=B0i x (by omega)
 rw [ho] at hyy
 have hr:=A7x h htl x y hy
 have hc:w.cell? ⟨E.fb,236+x*5+2,none⟩=some (.int .i64 (p:Int)):=by
  have:=World.row?_cell hr (i:=2) (by omega)
  rw [this,← hyy.2.1];unfold Inf.c;rfl
 obtain ⟨T,hT⟩:∃ T:World→Prop,T=fun W=>W.cell? ⟨E.fb,236+x*5+2,none⟩=some (.int .i64 (p:Int)):=⟨_,rfl⟩
 have HT:=hid hT
 have t0:T w.drew:=by rw [hT];exact hc
 have HP:=hid (B6W p hp (h.below (Below.refl _ _).drew))
 have HTL:=hid htl
 have HCL:=hid hcl
 have HRN:=hid hrn
 have d0:decide ((96:Int)≤(x:Int))=false:=decide_eq_false (by omega)
 have d1:decide ((x:Int) < 128)=true:=decide_eq_true (by omega)
 have d2:decide ((128:Int)≤(x:Int))=false:=decide_eq_false (by omega)
 have d3:decide ((144:Int)≤(x:Int))=false:=decide_eq_false (by omega)
 have d4:decide ((1:Int)≤(x:Int))=true:=decide_eq_true (by omega)
 have d5:decide ((x:Int)≤7)=false:=decide_eq_false (by omega)
 have d6:decide ((x:Int)=10)=false:=decide_eq_false (by omega)
 have b6:((x:Int) == 10)=false:=by simp;omega
 have d7:decide ((x:Int)=11)=false:=decide_eq_false (by omega)
 have b7:((x:Int) == 11)=false:=by simp;omega
 have d8:decide ((16:Int)≤(x:Int))=true:=decide_eq_true (by omega)
 have d9:decide ((x:Int)≤20)=false:=decide_eq_false (by omega)
 have d10:decide ((22:Int)≤(x:Int))=true:=decide_eq_true (by omega)
 have d11:decide ((x:Int)≤24)=false:=decide_eq_false (by omega)
 have d12:decide ((26:Int)≤(x:Int))=true:=decide_eq_true (by omega)
 have d13:decide ((x:Int)≤29)=false:=decide_eq_false (by omega)
 have d14:decide ((48:Int)≤(x:Int))=true:=decide_eq_true (by omega)
 have d15:decide ((x:Int)≤71)=false:=decide_eq_false (by omega)
 have d16:decide ((160:Int)≤(x:Int))=false:=decide_eq_false (by omega)
 have d17:decide ((240:Int)≤(x:Int))=false:=decide_eq_false (by omega)
 have HX:=hid hx
 have hxI:(0:Int)≤(x:Int)∧(x:Int) < 256:=by omega
 have HXI:=hid hxI
 have htn:(x:Int).toNat=x:=Int.toNat_natCast x
 have hxl:((x:Int) < 256)=True:=eq_true (by omega)
 have hxn:(x < 256)=True:=eq_true (by omega)
 clear h htl hr hc hT hy hyy ho hp hcl hx hxI hrn
 go_enter Tryz.func179,Tryz.ntmps179
 go_wp2_with fail
 refine A7 T [10] (.pure 0 (.pure 1 (.pure 2 (.pure 3 (.pure 4 (.pure 5 (.pure 6 (.pure 7 (.pure 8 (.take 9 (.alt 10 (.pure 11 (.pure 12 (.pure 13 (.pure 14 (.pure 15 .fin))))) .stop))))))))))) (by kernel_rfl) (by kernel_rfl) ?_
 iterate 10
  first
  |refine A2 ?_ rfl (by rfl) (fun w' hs=>?_) (fun _ _ _ h=>h) ?_
   rotate_left
   ·clear hs
    go_simp
    try rfl
   simp only [Act.put,D7,D6,D5]
  |refine A9 ?_ t0 rfl (by rfl) (fun w' hs=>?_) (fun _ _ _ h=>h) ?_
   rotate_left
   ·rw [HT.out] at hs
    have s1:=hs
    go_simp
    try rfl
   simp only [Act.put,D7,D6,D5]
 refine J8 rfl (by simp) (fun K hK=>?_)
 go_simp
 refine HP.out.mono ?_
 rintro e w1 ⟨v,c1,rfl,h1,⟨ht1,hj1⟩,hv1,ho1⟩
 have H1:=hid h1
 have HT1:=hid (ht1.trans HTL.out)
 have HJ1:=hid hj1
 have HV:=hid hv1
 have HVO:=hid ho1
 clear h1 ht1 hj1 hv1 ho1
 refine hK.out _ _ ?_
 clear hK K
 iterate 5
  refine A2 ?_ rfl (by rfl) (fun w' hs=>?_) (fun _ _ _ h=>h) ?_
  rotate_left
  ·clear hs
   go_simp
   try rfl
  simp only [Act.put,D7,D6,D5]
 refine C2 ?_
 have HRF:=hid (HCL.out w1 v c1 H1.out HT1.out HJ1.out HV.out HVO.out)
 clear t0
 go_wp2_with fail
 refine HRF.out.mono ?_
 intro e w2 hd
 cases r with
 | ok f2 S2 =>
  obtain ⟨rfl,hd2⟩:=hd
  have HD:=hid hd2
  clear hd2
  go_wp2
  go_ret
  exact ⟨rfl,HD.out⟩
 | stop y f2 S2 =>
  obtain ⟨rfl,hd2⟩:=hd
  have HD:=hid hd2
  clear hd2
  go_wp2
  go_ret
  exact ⟨rfl,HD.out⟩
 | none=>exact absurd rfl HRN.out
def B1d (x:Int):Bool := !(([32,55,57,60,62,81,82,83,160,161,162,163,164,240,241,243,244,245,250,253]:List Int).contains x)
theorem B51 {x:Int} (h:B1d x=true):A5X x:=by
 unfold B1d at h
 simp at h
 unfold A5X
 omega
theorem C0c {f:Fr} (h:2≤f.stack.length):f.stack.reverse.take 2 = [L9 f 0,L9 f 1]:=by
 unfold L9
 have hl:2≤f.stack.reverse.length:=by simpa using h
 cases e:f.stack.reverse with
 | nil=>rw [e] at hl;simp at hl
 | cons a l =>
  cases l with
  | nil=>rw [e] at hl;simp at hl
  | cons b l=>simp
theorem B2z {x:Int} (h:x=0∨(96≤x∧x≤127)):B1d x=true:=by
 rcases h with rfl | h
 ·decide
 ·unfold B1d
  simp
  omega
theorem B12 (E:U3):B1S E prG doG where
 price:=by
  intro w own c f S M n h htl hn
  obtain ⟨m,hm,hop⟩:=B0a h
  unfold prG at hn ⊢
  by_cases h83:opR f=83
  ·rw [if_pos h83] at hn ⊢
   by_cases hl:1≤f.stack.length
   ·rw [if_pos hl] at hn ⊢
    cases hK:K4 f.mem.length (L9 f 0) 1 with
    | none=>rw [hK] at hn;exact absurd rfl hn
    | some r =>
     obtain ⟨cost,z⟩:=r
     rw [h83]
     exact A96 h htl hl hK
   ·rw [if_neg hl] at hn
    exact absurd rfl hn
  rw [if_neg h83] at hn ⊢
  by_cases hlog:160≤opR f∧opR f≤164
  ·rw [if_pos hlog] at hn ⊢
   by_cases hl:2≤f.stack.length
   ·rw [if_pos hl] at hn ⊢
    cases hK:K4 f.mem.length (L9 f 0) (L9 f 1) with
    | none=>rw [hK] at hn;exact absurd rfl hn
    | some r =>
     obtain ⟨cost,z⟩:=r
     rw [hop] at hlog ⊢
     exact A8O m (by omega) h htl hl hK
   ·rw [if_neg hl] at hn
    exact absurd rfl hn
  rw [if_neg hlog] at hn ⊢
  by_cases hx:opR f=0∨(96≤opR f∧opR f≤127)
  ·rw [if_pos hx]
   refine (A7E (opR f) (B51 (B2z hx)) (by omega) (by omega) E.fb w).mono ?_
   rintro e w' ⟨rfl,rfl⟩
   exact ⟨rfl,by decide,⟨own,c,M,n,h,htl,rfl⟩,A0.refl _ _⟩
  ·rw [if_neg hx] at hn
   exact absurd rfl hn
 act:=by
  intro w own c f S M n p q g h htl _ ho hp hq hd hcost
  obtain ⟨m,hm,hop⟩:=B0a h
  unfold doG at hd ⊢
  by_cases h0:opR f=0
  ·rw [if_pos h0,h0]
   exact B31 h htl
  rw [if_neg h0] at hd ⊢
  by_cases h1:96≤opR f∧opR f≤127
  ·rw [if_pos h1]
   rw [hop] at h1 ho ⊢
   have hpq:p=0∧q=1:=by
    unfold ofL at ho
    rw [if_pos h1] at ho
    cases ho
    exact ⟨rfl,rfl⟩
   rw [show ((m:Int)).toNat - 95=m - 95 by omega]
   exact B32 m (by omega) h htl (by omega)
  rw [if_neg h1] at hd ⊢
  by_cases h2:opR f=83
  ·rw [if_pos h2] at hd ⊢
   rw [h2] at ho ⊢
   have ho2:ofL 83=some (2,0,3):=by kernel_rfl
   rw [ho2] at ho
   cases ho
   have hl:2≤f.stack.length:=by omega
   by_cases hfit:L9 f 0+1≤f.mem.length
   ·rw [if_pos hfit]
    refine B2p (x:=83) (p:=2) (q:=0) (g:=3) (by omega) h htl ho2 hl (by simp) ?_
    intro W v c' h' htl' hjv hv hvo
    rw [C0c hl] at hv
    refine (B2c h' (A4K h 0) (D9 hv (Nat.zero_le _)) (fun g hg=>(hvo g hg).2.2) hfit).mono ?_
    rintro e w' ⟨rfl,h3⟩
    exact ⟨rfl,own,c',M,n,h3,htl',hjv⟩
   ·rw [if_neg hfit] at hd
    exact absurd rfl hd
  rw [if_neg h2] at hd ⊢
  by_cases h3:160≤opR f∧opR f≤164
  ·rw [if_pos h3] at hd ⊢
   split at hd
   ·rename_i hb
    rw [if_pos hb]
    rw [hop] at h3 ho ⊢
    obtain ⟨k,rfl⟩:∃ k,m=160+k:=⟨m - 160,by omega⟩
    rw [show ((160+k:Nat):Int)=160+(k:Int) by omega,A7N k (by omega)] at ho
    cases ho
    have e:(((160+k:Nat):Int)).toNat - 158=k+2:=by omega
    rw [e]
    exact B5O k (by omega) h htl (by omega) hb.2.1 hb.1 hb.2.2
   ·exact absurd rfl hd
  rw [if_neg h3] at hd
  exact absurd rfl hd
def A76 (g:Int):Msg:=⟨0,3,1,0,0,0,[],g,0,false⟩
theorem B1M (g:Int) (h:0≤g∧g≤1000000):A1X (A76 g):=
 ⟨by show 3 < wA;decide,by show 1 < wA;decide,by show 0 < wA;decide,by show 0 < wW;decide,by show 0 < wW;decide,⟨by show _≤g;omega,by show g≤_;omega⟩,⟨by show _≤(0:Int);decide,by show (0:Int)≤_;decide⟩⟩
def A1e (fl:Bool) (l:List J1):List Lg:=if fl then [] else A3C 1 l
def A5F (fl:Bool) (l:List J1):Int:=if fl then 0 else (B0o l:Int)
def stE (fl:Bool) (l:List J1):St:=if fl then A1m (A2h (A0l l true) []) else B4j (A0l l false) [] 0
theorem A6G (fl:Bool) (l:List J1) (a k:Nat):(stE fl l a).slots k=0:=by
 unfold stE
 split
 ·exact A4n _ a k
 ·exact B0c _ _ _ _ _
theorem A4g (l:List J1) (fl:Bool) (hl:∀ wb∈l,wb.length=32) (hk:l.length≤4):B0R (A76 30000) (.slice none 0 0) ⟨0,0,0,0,0⟩ (A1m (A2h (A0l l fl) [])) (A5F fl l) (erG fl) 0 [] (A1e fl l) (stE fl l):=by
 obtain ⟨K,f',h1,h2⟩:=B7X (B4j (A0l l fl) [] 0) (A76 30000) l fl hl hk rfl rfl
 have h:=A9V (dv:=.slice none 0 0) (cx:=⟨0,0,0,0,0⟩) (er:=erG fl) (step:=A1v) (fun ht=>B3F ht) (B1M 30000 (by decide)) rfl (by decide) (by decide) (B6Y (A0l l fl) [] 0 (by decide)) h1
 cases fl with
 | true=>exact h
 | false =>
  obtain ⟨e1,e2,e3⟩:=h2 rfl
  have g1:A5E (erG false) f'=A5F false l:=by show (f'.gas:Int)=(B0o l:Int);rw [e1]
  have g2:A3w (erG false) f' = []:=e3
  have g3:(if erG false=0 then f'.logs else [])=A1e false l:=e2
  rw [g1,g2,g3] at h
  exact h
theorem A4f (l:List J1) (fl:Bool) (hl:∀ wb∈l,wb.length=32) (hk:l.length≤4):B0Q (A76 30000) (.slice none 0 0) ⟨0,0,0,0,0⟩ (A1m (A2h (A0l l fl) [])) (A5F fl l) (erG fl) 0 [] (A1e fl l) (stE fl l):=by
 obtain ⟨K,f',h1,h2⟩:=B7W (B4j (A0l l fl) [] 0) (A76 30000) l fl hl hk rfl rfl
 have h:=A9U (dv:=.slice none 0 0) (cx:=⟨0,0,0,0,0⟩) (er:=erG fl) (pr:=prG) (dor:=doG) (fun E=>B12 E) (B1M 30000 (by decide)) rfl (by decide) (by decide) rfl (B6Y (A0l l fl) [] 0 (by decide)) h1 (by cases fl;exact .inl rfl;exact .inr rfl)
 cases fl with
 | true=>exact h
 | false =>
  obtain ⟨e1,e2,e3⟩:=h2 rfl
  have g1:A5E (erG false) f'=A5F false l:=by show (f'.gas:Int)=(B0o l:Int);rw [e1]
  have g2:A3w (erG false) f' = []:=e3
  have g3:(if erG false=0 then f'.logs else [])=A1e false l:=e2
  rw [g1,g2,g3] at h
  exact h
theorem A6W (fl:Bool) (l:List J1):(A1e fl l).length≤1000000:=by
 unfold A1e
 split
 ·exact Nat.zero_le _
 ·show 2≤1000000;decide
theorem A4p {fl:Bool} {l:List J1} (hk:l.length≤4):∀ g∈A1e fl l,g.topics.length≤1000000∧g.data.length≤1099511627776:=by
 intro g hg
 unfold A1e at hg
 split at hg
 ·cases hg
 ·simp only [A3C,List.mem_cons,List.not_mem_nil,or_false] at hg
  rcases hg with rfl | rfl
  ·refine ⟨?_,by show 1≤_;decide⟩
   show ((l.map beN).reverse).length≤_
   rw [List.length_reverse,List.length_map];omega
  ·exact ⟨by show 0≤_;decide,by show 2≤_;decide⟩
def tsB (k A B:Nat):List Nat:=(List.range k).map fun i=>if i % 2=1 then B else A
def Z7 (k A B:Nat):List J1:=(tsB k A B).map (be 32)
theorem A7m (k A B:Nat):(tsB k A B).length=k:=by simp [tsB]
theorem A1s (k A B:Nat):(Z7 k A B).length=k:=by simp [Z7,tsB]
theorem B3x (k A B:Nat):tsB (k+1) A B=tsB k A B++[if k % 2=1 then B else A]:=by simp [tsB,List.range_succ]
theorem B5m {k A B i:Nat} (h:i < k) {hi:i < (tsB k A B).reverse.length}:(tsB k A B).reverse[i]=if (k - 1 - i) % 2=1 then B else A:=by
 rw [List.getElem_reverse]
 simp [tsB]
theorem A8h (k A B:Nat):Z7 (k+1) A B=Z7 k A B++[be 32 (if k % 2=1 then B else A)]:=by simp [Z7,B3x]
theorem A25 (k A B:Nat):∀ wb∈Z7 k A B,wb.length=32:=fun wb h=>by
 obtain ⟨x,_,rfl⟩:=List.mem_map.1 h
 exact A35 32 x
theorem B7j {k A B:Nat} (hA:A < wW) (hB:B < wW):∀ t∈tsB k A B,t < wW:=fun t h=>by
 obtain ⟨i,_,rfl⟩:=List.mem_map.1 h
 split
 ·exact hB
 ·exact hA
theorem B1i:∀ l:List Nat,(∀ t∈l,t < wW)→(l.map (be 32)).map beN=l
 | [],_=>rfl
 | x :: l,h=>by
  rw [List.map_cons,List.map_cons,A38 32 x (Nat.lt_of_lt_of_eq (h x (List.mem_cons_self)) A2Z.symm),B1i l fun t ht=>h t (List.mem_cons_of_mem _ ht)]
theorem B0U {k A B:Nat} (hA:A < wW) (hB:B < wW):(Z7 k A B).map beN=tsB k A B:=B1i _ (B7j hA hB)
theorem A7H (l:List J1) (x:J1):S7 (l++[x])=S7 l++(127 :: x):=by
 induction l with
 | nil=>simp [S7]
 | cons a l ih=>simp [S7,ih]
def A0x (l:List J1):J1:=96 :: 170 :: 96 :: 0 :: 83 :: S7 l
theorem A6S (l:List J1) (x:J1):A0x (l++[x])=A0x l++127 :: x:=by simp [A0x,A7H]
theorem A5v (l:List J1) (fl:Bool):A0l l fl=(A0x l++[96,1,96,0,160+(l.length:Int),96,2,96,0,160])++(if fl then [254] else []):=by simp [A0l,A0x]
theorem A8T {l:List J1} (h:∀ wb∈l,Byt wb):Byt (S7 l):=by
 induction l with
 | nil=>intro x hx;cases hx
 | cons wb l ih =>
  intro x hx
  simp only [S7,List.mem_cons,List.mem_append] at hx
  rcases hx with rfl | hx | hx
  ·decide
  ·exact h wb (by simp) x hx
  ·exact ih (fun y hy=>h y (by simp [hy])) x hx
theorem A82 {l:List J1} (h:∀ wb∈l,Byt wb) (hk:l.length≤4) (fl:Bool):Byt (A0l l fl):=by
 intro x hx
 rw [A5v] at hx
 simp only [A0x,List.mem_append,List.mem_cons,List.not_mem_nil,or_false] at hx
 rcases hx with ((rfl | rfl | rfl | rfl | rfl | hx) | hx) | hx
 ·decide
 ·decide
 ·decide
 ·decide
 ·decide
 ·exact A8T h x hx
 ·rcases hx with rfl | rfl | rfl | rfl | rfl | rfl | rfl | rfl | rfl | rfl <;> omega
 ·cases fl <;> simp at hx
  subst hx;decide
theorem B0T (k A B:Nat):∀ wb∈Z7 k A B,Byt wb:=fun wb h=>by
 obtain ⟨x,_,rfl⟩:=List.mem_map.1 h
 exact A5Q 32 x
theorem B7V:(U8 B00 10 (P3 A4F (A9O A4F.to).code) A9O).map (fun r=>(r.1,r.2.1.gas,(r.2.2 1).slots 0))=some (0,9994,5):=by kernel_rfl
theorem B9j:∃ f' S',U8 B00 10 (P3 A4F (A9O A4F.to).code) A9O=some (0,f',S')∧f'.gas=9994∧(S' 1).slots 0=5:=by
 have h:=B7V
 cases e:U8 B00 10 (P3 A4F (A9O A4F.to).code) A9O with
 | none=>rw [e] at h;cases h
 | some r =>
  obtain ⟨x,f',S'⟩:=r
  rw [e] at h
  simp only [Option.map_some,Option.some.injEq,Prod.mk.injEq] at h
  obtain ⟨rfl,h2,h3⟩:=h
  exact ⟨f',S',rfl,h2,h3⟩
theorem B0g (w:World):Calls Tryz.prog 8 #[] w fun e w'=>e = .returned (.bool true)∧Below w.heap.size w w':=by
 obtain ⟨f',S',hrun,hgas,hslot⟩:=B9j
 have HR:=hid hrun
 have HGS:=hid hgas
 have HSL:=hid hslot
 have o5:ofW 5=5:=by kernel_rfl
 have N1:=hid (fun w=>Y5 1 (by decide) w)
 have N2:=hid (fun w=>Y5 2 (by decide) w)
 have O5:=hid (fun w=>A3Y 5 (by decide) (by decide) w)
 rw [o5] at O5
 have b42:=B4U
 have HRO:Hid (J3 (w.alloc (.cells (A3K.map (Value.int .u8)).toArray 5)) (fun _=>False) (.slice (some ⟨w.heap.size,0,none⟩) A3K.length A3K.length) A3K):=
  ⟨⟨_,_,rfl,G9.new w .u8 A3K 5 (by decide),fun _ _ _ h=>h⟩,by intro x hx;simp [A3K] at hx;omega,by decide⟩
 have HB0:Hid (Below w.heap.size w (w.alloc (.cells (A3K.map (Value.int .u8)).toArray 5))):=(Below.refl _ _).alloc (Nat.le_refl _) _
 clear hrun hgas hslot o5
 go_enter Tryz.func8,Tryz.ntmps8
 go_wp2_with fail
 refine (B6l HRO.out).mono ?_
 rintro e w1 ⟨b,rfl,hb1,hac⟩
 have HN:=hid (A6D b 0 2 (B4c A3K) (by decide) w1 hac)
 have HB1:=hid (HB0.out.trans (hb1.mono HB0.out.size))
 clear hb1 hac HB0
 go_wp2_with fail
 refine HN.out.mono ?_
 rintro e w2 ⟨sb,rfl,hb2,own,hst,hlo⟩
 have HST:=hid hst
 have HLO:=hid hlo
 have HB2:=hid (HB1.out.trans (hb2.mono HB1.out.size))
 clear hst hlo hb2
 go_wp2_with fail
 refine (N2.out _).mono ?_
 rintro e w3 ⟨rfl,hb3⟩
 have HST3:=hid (HST.out.below hb3)
 have HB3:=hid (HB2.out.trans (hb3.mono HB2.out.size))
 clear hb3
 go_wp2_with fail
 refine (N1.out _).mono ?_
 rintro e w4 ⟨rfl,hb4⟩
 have HST4:=hid (HST3.out.below hb4)
 have HB4:=hid (HB3.out.trans (hb4.mono HB3.out.size))
 clear hb4
 have HRUN:=hid (A68 (w:=w4) (er:=0) (cx:=⟨0,0,0,0,0⟩) (N:=40000) (m:=A4F) HST4.out (by decide) ⟨by show 2 < wA;decide,by show 1 < wA;decide,by show 0 < wA;decide,by show 0 < wW;decide,by show 0 < wW;decide,by decide,by decide⟩ rfl (by decide) (by decide) (V1 _ _) (by decide) (fun rb tb tab ht=>B3E ht) B9o HR.out)
 go_wp2_with fail
 refine HRUN.out.mono ?_
 rintro e w5 ⟨o,ov,lv,own5,n5,rfl,st5,g5,oa5,-,-,h3,-,h4,-,-⟩
 rw [if_pos rfl] at st5
 replace h4:=(h4 rfl).1
 replace h3:o.err=0:=h3
 obtain ⟨oa,ok,lb,lj,rfl,rfl⟩:=oa5.forms
 have hok8:=N7 o oa lb o.out.length ok o.logs.length lj
 have hf5:(w5.alloc (.cells (B8 L3).toArray 41)).free? w5.heap.size 0 24=true:=World.free?_alloc_at _ _ rfl (by rw [K1];omega)
 have hbx:=A2c (w:=w5) (t:=41) (n:=24) K1 hok8
 obtain ⟨w6,e6⟩:∃ w6,w6=(w5.alloc (.cells (B8 L3).toArray 41)).setCells w5.heap.size 0 (B8 (F3 o (.slice oa o.out.length ok) (.slice lb o.logs.length lj))):=⟨_,rfl⟩
 rw [← e6] at hbx
 have c0:=A15 hbx.2
 have c1:=A0i hbx.2
 rw [h4,HGS.out] at c0
 rw [h3,Nat.zero_add] at c1
 have HST6:=hid (st5.below hbx.1)
 have HB5:Hid (Below w.heap.size w w5):=HB4.out.trans (g5.only.below HB4.out.size (fun i hi=>Nat.le_trans HB1.out.size (HLO.out i hi)))
 have HB6:=hid (HB5.out.trans (hbx.1.mono HB5.out.size))
 have HE6:=hid e6
 have HC0:=hid c0
 have HC1:=hid c1
 rw [e6] at c0 c1
 have heq:∀ w,(binOp .eql 25 (.agg (A3 32 5).toArray) (.agg (A3 32 5).toArray)).run Tryz.prog w = .ok (.bool true) w:=fun w=>by
  have:=B0A (fun d=>A7a (a:=5) (b:=5) (by decide) (by decide) w d)
  simpa using this
 clear st5 g5 oa5 h3 h4 e6 hbx b42
 have HEQ:=hid heq
 clear heq
 generalize Value.agg (B8 (I0 A4F (Value.slice none 0 0))).toArray=vm at *
 generalize Value.agg (B8 A7i).toArray=vc at *
 go_wp2_with fail
 rw [← HE6.out]
 have d0:=HC0.out
 have d1:=HC1.out
 refine (A7V 0 _).mono ?_
 rintro e w7 ⟨rfl,rfl⟩
 go_wp2_with fail
 refine (N1.out _).mono ?_
 rintro e w8 ⟨rfl,hb8⟩
 have HST8:=hid (HST6.out.below hb8)
 have HB8:=hid (HB6.out.trans (hb8.mono HB6.out.size))
 clear hb8
 go_wp2_with fail
 refine (A7p HST8.out 1 0 (by decide) (by decide)).mono ?_
 rintro e w9 ⟨rfl,hb9⟩
 have HB9:=hid (HB8.out.trans (hb9.mono HB8.out.size))
 clear hb9
 rw [HSL.out]
 go_wp2_with fail
 refine (O5.out _).mono ?_
 rintro e w10 ⟨rfl,hb10⟩
 have HBX:=hid (HB9.out.trans (hb10.mono HB9.out.size))
 clear hb10
 have heq:=HEQ.out
 go_wp2
 go_ret
 exact ⟨rfl,HBX.out⟩
end Go.Proofs.YtfflppedbopdpaaGreat
