/- A part of the proof of EvmLogs: ZMm3. -/
import Derived.Test.YtfflppedbopdpaaGreatZRf9
import Derived.Lib.AppendZerosOnto
import Derived.Test.YtfflppedbopdpaaGreatZRi2
import Derived.Test.YtfflppedbopdpaaGreatZEv16
import Derived.Test.YtfflppedbopdpaaGreatZWrd4
import Derived.Test.YtfflppedbopdpaaGreatZTy4
set_option linter.unusedVariables false
set_option maxRecDepth 1000000
set_option maxHeartbeats 8000000
set_option linter.unusedSimpArgs false
namespace Go.Proofs.YtfflppedbopdpaaGreat
open Go.RowKit Go.Mun

theorem A7e:∀ (f x k:Nat),x < 2 ^ k→Lib.bitLenAux f x≤k
 | 0,_,_,_=>Nat.zero_le _
 | f+1,x,k,h=>by
  unfold Lib.bitLenAux
  split
  ·exact Nat.zero_le _
  ·rename_i hx
   match k,h with
   | 0,h=>simp at h;omega
   | k+1,h =>
    have:=A7e f (x / 2) k (by rw [Nat.pow_succ] at h;omega)
    omega
theorem B3b (x k:Nat) (h:x < 2 ^ k):Lib.bitLen x≤k:=A7e 64 x k h
theorem B3c (x:Nat):Lib.bitLen x≤64:=by
 have key:∀ f x,Lib.bitLenAux f x≤f:=by
  intro f
  induction f with
  | zero=>intro x;exact Nat.zero_le _
  | succ f ih =>
   intro x
   unfold Lib.bitLenAux
   split
   ·exact Nat.zero_le _
   ·have:=ih (x / 2);omega
 exact key 64 x
def B1m (n q:Nat):Prop:=∀ j,q≤j→j < 4→lim n j=0
theorem B4f (n:Nat) (hn:n < wW) (w:World):Calls Tryz.prog 282 #[.agg (Q4 n).toArray] w fun e w'=>(∃ r:Nat,e = .returned (.int .i64 r)∧r≤256∧(18446744073709551616≤n→64≤r)∧(n < 9223372036854775808→r < 64))∧Below w.heap.size w w':=by
 have hl:(Q4 n).length=4:=by simp
 obtain ⟨w0,e0⟩:∃ w0,w0=w.alloc (.cells (Q4 n).toArray 215):=⟨_,rfl⟩
 have hb0:Below w.heap.size w w0:=by rw [e0];exact (Below.refl _ _).alloc (Nat.le_refl _) _
 have hr:w0.row? w.heap.size 0 4=some (Q4 n):=by rw [e0];exact World.row?_alloc_at _ _ _ rfl hl
 have HC:Hid (∀ q,q < 4→w0.cell? ⟨w.heap.size,q,none⟩=some (.int .u64 ((lim n q:Nat):Int))):=fun q hq=>by
  have:=World.row?_cell hr hq
  rw [Nat.zero_add,A0O n q hq] at this
  exact this
 have HE:=hid e0
 have HB:=hid hb0
 have HL:Hid (∀ q,lim n q < 18446744073709551616):=fun q=>by unfold lim;omega
 have hw:wW=115792089237316195423570985008687907853269984665640564039457584007913129639936:=by unfold wW;decide
 have HZ:Hid (B1m n 0→n=0):=fun h=>by
  have h0:=h 0 (by omega) (by omega);have h1:=h 1 (by omega) (by omega);have h2:=h 2 (by omega) (by omega);have h3:=h 3 (by omega) (by omega)
  unfold lim at h0 h1 h2 h3
  omega
 have H1:Hid (B1m n 1→n=lim n 0):=fun h=>by
  have h1:=h 1 (by omega) (by omega);have h2:=h 2 (by omega) (by omega);have h3:=h 3 (by omega) (by omega)
  unfold lim at h1 h2 h3 ⊢
  omega
 have HG:Hid (∀ q,1≤q→q < 4→lim n q≠0→18446744073709551616≤n):=fun q h1 h4 hne=>by
  have:q=1∨q=2∨q=3:=by omega
  rcases this with rfl | rfl | rfl
  all_goals (unfold lim at hne;omega)
 clear e0 hb0 hr hn hw hl
 go_enter Tryz.func282,Tryz.ntmps282
 go_wp2_with fail
 rw [← HE.out]
 go_loop [3] (fun i => ∃ q:Nat,q≤4∧i = .int .i64 ((q:Int) - 1)∧B1m n q) (fun i=>(intOf i+1).toNat)
 case atStart=>exact ⟨4,by omega,rfl,fun j h1 h2=>by omega⟩
 case round =>
  obtain ⟨q,hq,rfl,hz⟩:=hrel
  have HZQ:=hid hz
  clear hz
  match q,hq with
  | 0,_ =>
   have d0:decide ((0:Int)≤((0:Nat):Int) - 1)=false:=by decide
   go_wp2_with fail
   go_ret
   exact ⟨⟨0,rfl,by omega,fun h=>by have:=HZ.out HZQ.out;omega,fun _=>by omega⟩,HB.out⟩
  | k+1,hq =>
   have ek:((k+1:Nat):Int) - 1=(k:Int):=by omega
   rw [ek]
   have hk4:k < 4:=by omega
   have hk4z:(k:Int) < 4:=by omega
   have hk0z:(0:Int)≤(k:Int):=by omega
   have d0:decide ((0:Int)≤(k:Int))=true:=decide_eq_true (by omega)
   have c0:=HC.out k hk4
   have HLK:=hid (HL.out k)
   obtain ⟨x,hx⟩:∃ x,x=lim n k:=⟨_,rfl⟩
   rw [← hx] at c0 HLK
   have HX:=hid hx
   clear hx ek
   by_cases h0:x=0
   ·have dx:((x:Int) != 0)=false:=by simp [h0]
    have HN:Hid (B1m n k):=fun j h1 h2=>by
     by_cases hj:j=k
     ·rw [hj,← HX.out,h0]
     ·exact HZQ.out j (by omega) h2
    clear h0
    go_wp2_with fail
    go_round
    case rel=>exact ⟨k,by omega,by go_num,HN.out⟩
    case measure=>first | (simp [intOf];done) | (simp [intOf];omega)
   ·have dx:((x:Int) != 0)=true:=by simpa using h0
    have HCL:=hid (B0I (x:Int) w0 (by omega) (by have:=HLK.out;omega))
    have hb64:=B3c x
    have hm:IntKind.i64.wrap ((k:Int)*64)=(k:Int)*64:=U6 _ (by omega) (by omega)
    have HR:Hid ((18446744073709551616≤n→64≤k*64+Lib.bitLen x)∧(n < 9223372036854775808→k*64+Lib.bitLen x < 64)):=by
     refine ⟨fun h=>?_,fun h=>?_⟩
     ·by_cases h1:k=0
      ·have e:=H1.out (by rw [h1] at HZQ;exact HZQ.out)
       rw [h1] at HX
       have:=HX.out;have:=HLK.out;omega
      ·omega
     ·by_cases h1:k=0
      ·have e:=H1.out (by rw [h1] at HZQ;exact HZQ.out)
       rw [h1] at HX
       have hxn:x=n:=HX.out.trans e.symm
       have:=B3b x 63 (by rw [hxn];omega)
       omega
      ·have:=HG.out k (by omega) hk4 (by rw [← HX.out];exact h0)
       omega
    clear h0
    go_wp2_with fail
    refine HCL.out.mono ?_
    rintro e w1 ⟨rfl,rfl⟩
    rw [Int.toNat_natCast]
    obtain ⟨b,hb⟩:∃ b,b=Lib.bitLen x:=⟨_,rfl⟩
    rw [← hb] at HR hb64 ⊢
    have hbz:(b:Int)≤64:=by omega
    have hb0:(0:Int)≤(b:Int):=by omega
    have hadd:IntKind.i64.wrap ((k:Int)*64+(b:Int))=((k*64+b:Nat):Int):=by rw [U6 _ (by omega) (by omega)];omega
    clear hb
    go_wp2
    go_ret
    exact ⟨⟨k*64+b,by simp,by omega,HR.out.1,HR.out.2⟩,HB.out⟩
end Go.Proofs.YtfflppedbopdpaaGreat
namespace Go.Mun
def A4G (n:Nat):Option Nat:=if n < 9223372036854775808 then some n else none
end Go.Mun
namespace Go.Proofs.YtfflppedbopdpaaGreat
open Go.RowKit Go.Mun

theorem A3g (n:Nat) (hn:n < wW) (w:World):Calls Tryz.prog 203 #[.agg (A3 32 n).toArray] w fun e w'=>e = .returned (.tuple #[.int .i64 (((A4G n).getD 0:Nat):Int),.bool (A4G n).isSome])∧Below w.heap.size w w':=by
 obtain ⟨w0,e0⟩:∃ w0,w0=w.alloc (.cells (A3 32 n).toArray 25):=⟨_,rfl⟩
 have hb0:Below w.heap.size w w0:=by rw [e0];exact (Below.refl _ _).alloc (Nat.le_refl _) _
 have hr:w0.row? w.heap.size 0 32=some (A3 32 n):=by rw [e0];exact World.row?_alloc_at _ _ _ rfl (by simp)
 have HC:=hid (V5 n hn w0)
 have HB:=hid hb0
 have HE:=hid e0
 have HNB:=hid (fun w=>B4f n hn w)
 have okN:=A0k n
 have HL:Hid (lim n 0 < 18446744073709551616∧(n < 18446744073709551616→lim n 0=n)):=⟨B0e n 0,fun h=>by unfold lim;omega⟩
 rw [e0] at hr
 clear hb0 e0 hn
 go_enter Tryz.func203,Tryz.ntmps203
 go_wp2_with fail
 rw [← HE.out]
 refine HC.out.mono ?_
 rintro e w1 ⟨rfl,hb1⟩
 have hB1:=HB.out.trans (hb1.mono HB.out.size)
 obtain ⟨W1,eW1⟩:∃ W1,W1=(w1.alloc (.cells (U7 4).toArray 215)).setCells w1.heap.size 0 (Q4 n):=⟨_,rfl⟩
 have hb2:Below w1.heap.size w1 W1:=by rw [eW1];exact ((Below.refl _ _).alloc (Nat.le_refl _) _).setCells (Nat.le_refl _) _ _
 have hA:Arr W1 w1.heap.size 4 (Q4 n):=by rw [eW1];exact (Arr.new w1 4 (U7 4) 215 rfl).setCells _ okN
 have f4:(w1.alloc (.cells (U7 4).toArray 215)).free? w1.heap.size 0 4=true:=World.free?_alloc_at _ _ rfl (Nat.le_refl _)
 have ra:=hA.row
 have HA:=hid hA
 have HW:=hid eW1
 have HB2:=hid (hB1.trans (hb2.mono hB1.size))
 rw [eW1] at ra
 clear hb1 hB1 hb2 hA eW1 hr
 go_wp2_with fail
 rw [← HW.out]
 refine (HNB.out W1).mono ?_
 rintro e w2 ⟨⟨r,rfl,hr256,hbig,hsm⟩,hb3⟩
 have HB3:=hid (HB2.out.trans (hb3.mono HB2.out.size))
 have hA2:=HA.out.only (S:=fun _=>False) (A0.of_below_size hb3) (fun h=>h)
 have c0:=hA2.cell (i:=0) (by omega) (A0O n 0 (by omega))
 have HR:=hid (And.intro hr256 (And.intro hbig hsm))
 have hl0:=HL.out
 clear hb3 hA2 ra f4 hr256 hbig hsm HC HNB
 by_cases h64:64≤r
 ·have d1:decide ((64:Int)≤(r:Int))=true:=decide_eq_true (by omega)
  have d2:(64≤r)=True:=eq_true h64
  have hI:A4G n=none:=by
   unfold A4G
   rw [if_neg (fun h=>by have:=HR.out.2.2 h;omega)]
  have HI:=hid hI
  clear h64 hI hl0 c0
  go_wp2
  go_ret2
  rw [HI.out]
  exact ⟨rfl,HB3.out⟩
 ·have d1:decide ((64:Int)≤(r:Int))=false:=decide_eq_false (by omega)
  have d2:(64≤r)=False:=eq_false h64
  have hn64:n < 18446744073709551616:=by
   rcases Nat.lt_or_ge n 18446744073709551616 with h | h
   ·exact h
   ·have:=HR.out.2.1 h;omega
  rw [hl0.2 hn64] at c0
  by_cases hg:n < 9223372036854775808
  ·have d3:decide ((9223372036854775807:Int) < (n:Int))=false:=decide_eq_false (by omega)
   have hI:A4G n=some n:=if_pos hg
   have hwn:IntKind.i64.wrap (n:Int)=n:=U6 _ (by omega) (by omega)
   have HI:=hid hI
   clear h64 hI hl0 hn64
   go_wp2
   go_ret2
   rw [HI.out]
   exact ⟨rfl,HB3.out⟩
  ·have d3:decide ((9223372036854775807:Int) < (n:Int))=true:=decide_eq_true (by omega)
   have hI:A4G n=none:=if_neg hg
   have HI:=hid hI
   clear h64 hI hl0 hn64 hg
   go_wp2
   go_ret2
   rw [HI.out]
   exact ⟨rfl,HB3.out⟩
end Go.Proofs.YtfflppedbopdpaaGreat
namespace Go.Mun
open Go.RowKit
theorem Y3 {z:Value} (h:z.cells = #[z]) (k:Nat):Builtin.zeroCells z.cells k=(List.replicate k z).toArray:=by
 rw [h]
 apply Array.ext'
 simp only [Builtin.zeroCells,Array.toList_map,Array.toList_range]
 apply List.ext_getElem
 ·simp
 ·intro i h1 h2
  simp [Nat.mod_one]
theorem A2j {P:Program} {t tn e:TypeId} {z:Value} {bytes:Nat} {kn:IntKind} (E:P4 P t e z 1 bytes) (hzc:z.cells = #[z]) (hz1:z.oneCell'=true) (htn:P.underlying tn=some (.int kn)) (ty:TypeId) (w:World)
  {base:Nat} {v:Value} {n:Nat} {xs:List Value} (hown:w.ownsRow base e 1 v n xs) (k:Nat) (h0:0 < k) (h63:n+k≤maxLen) (hbytes:(n+k)*bytes≤140737488355328) (hbase:base≤w.heap.size) :
  ∃ v' w',(Builtin.append_ #[t,tn] ty #[v,.int .i64 k]).run P w = .ok v' w'∧w'.ownsRow base e 1 v' (n+k) (xs++List.replicate k z)∧w.grownBy w' v.ownBlock∧(∀ g',v'.ownBlock=some g'→v.ownBlock=some g'∨w.heap.size≤g'):=by
 obtain ⟨i,hi,hz,hsz,hb⟩:=E.info
 have ht:=E.slice
 have h63':n+k≤9223372036854775807:=by unfold maxLen at h63;omega
 have hkb:k*i.bytes≤281474976710656:=by
  rw [hb]
  have:k*bytes≤(n+k)*bytes:=Nat.mul_le_mul_right _ (by omega)
  omega
 have hlen:(xs++List.replicate k z).length=(n+k)*1:=by rw [List.length_append,hown.1,List.length_replicate];omega
 have grown:∀ (old:Nat) (row:Option Nat),old < n+k →
   (w.drew.alloc (.cells (xs.toArray++Builtin.zeroCells z.cells k++Builtin.zeroCells z.cells (grownCap w (n+k) old e - (n+k))) e)).ownsRow base e 1
    (.slice (some ⟨w.heap.size,0,none⟩) (n+k) (grownCap w (n+k) old e)) (n+k) (xs++List.replicate k z) ∧
   w.grownBy (w.drew.alloc (.cells (xs.toArray++Builtin.zeroCells z.cells k++Builtin.zeroCells z.cells (grownCap w (n+k) old e - (n+k))) e)) row:=by
  intro old row ho
  have hge:=grownCap_ge w (n+k) old e
  have hcm:grownCap w (n+k) old e≤maxLen:=grownCap_le_maxLen w (n+k) old e h63
  refine ⟨⟨hlen,.inr ⟨w.heap.size,_,_,rfl,hbase,heap_alloc_new w.drew _,hge,hcm,?_,?_⟩⟩,⟨rfl,rfl,rfl,by simp,fun k hk _=>Lib.alloc_old w.drew _ k hk⟩⟩
  ·rw [Y3 hzc,Y3 hzc]
   simp only [Array.size_append,List.size_toArray,List.length_replicate,hown.1]
   omega
  ·rw [Y3 hzc,Y3 hzc]
   simp only [Array.toList_append,List.append_assoc]
   rw [← List.append_assoc,← hlen]
   exact List.take_left
 rcases hown.2 with ⟨rfl,rfl⟩ | ⟨g,cap,cur,rfl,hbg,hg,hnc,hcm,hcs,htake⟩
 ·have hxs:xs = []:=List.eq_nil_of_length_eq_zero (by simpa using hown.1)
  have hr:=Lib.run_append_grow_zeros (P:=P) w t tn ty e i z .i64 kn ht htn hi hz none 0 0 xs (by rw [hxs];simp [Builtin.firstCells]) k h0 (by omega) (by omega) (by omega) hkb (growslice_fits (by omega) (by rw [hb];exact hbytes))
  have hgr:=grown 0 (Value.ownBlock (.slice none 0 0)) (by omega)
  exact ⟨_,_,hr,hgr.1,hgr.2,fun g' hg' => .inr (by simp [Value.ownBlock] at hg';omega)⟩
 ·by_cases hroom:n+k≤cap
  ·have hfit:n*1+(List.replicate k z).length≤cur.size:=by rw [List.length_replicate,hcs];omega
   have hst:=run_storeCells_at P g (n*1) e (List.replicate k z) 0 cur w hg (by simpa using hfit) (fun u hu=>by rw [(List.mem_replicate.1 hu).2];exact hz1)
   simp only [Nat.add_zero] at hst
   have hk:k≠0:=by omega
   have hw:IntKind.i64.wrap (k:Int)=k:=by rw [IntKind.wrap_i64];omega
   have hneg:¬ ((k:Int) < 0):=by omega
   have h48i:¬ (281474976710656 < (k:Int)*(i.bytes:Int)):=by
    rw [← Int.natCast_mul];omega
   have hr:(Builtin.append_ #[t,tn] ty #[.slice (some ⟨g,0,none⟩) n cap,.int .i64 k]).run P w = .ok (.slice (some ⟨g,0,none⟩) (n+k) cap) (w.setRow g (cur.toList.take (n*1)++List.replicate k z++cur.toList.drop (n*1+(List.replicate k z).length)).toArray):=by
    have hzz:=Y3 hzc k
    simp only [Nat.mul_one] at hst ⊢
    simp [Builtin.append_,run_underlying ht,run_underlying htn,sizeOf,typeInfo,zeroValue,hi,hz,hsz,asInt,asIntOf,hw,hneg,hk,h48i,hroom,Addr.add_lit,hzz] at hst ⊢
    rw [hst]
    rfl
   refine ⟨_,_,hr,⟨hlen,.inr ⟨g,cap,_,rfl,hbg,setRow_heap w g cur _ e _ hg,hroom,hcm,?_,?_⟩⟩,⟨rfl,rfl,rfl,by simp,fun k _ hk=>setRow_other w g k _ (fun e=>hk (by simp [Value.ownBlock,e]))⟩,fun g' hg' => .inl hg'⟩
   ·simp only [List.size_toArray,List.length_append,List.length_take,List.length_drop,Array.length_toList,List.length_replicate] at hfit ⊢
    omega
   ·rw [htake,← hlen]
    exact List.take_left
  ·have holds:∀ j u,xs[j]? = some u→w.cell? ((⟨g,0,none⟩:Addr).add j)=some u:=hown.cells (g:=g) rfl
   have hf:=run_firstCells_some (P:=P) w.drew i.size n ⟨g,0,none⟩ n cap xs (by rw [hsz];exact hown.1) holds
   have hr:=Lib.run_append_grow_zeros (P:=P) w t tn ty e i z .i64 kn ht htn hi hz (some ⟨g,0,none⟩) n cap xs (by rw [hf]) k h0 (by omega) (by omega) (by omega) hkb (growslice_fits (by omega) (by rw [hb];exact hbytes))
   have hgr:=grown cap (Value.ownBlock (.slice (some ⟨g,0,none⟩) n cap)) (by omega)
   exact ⟨_,_,hr,hgr.1,hgr.2,fun g' hg' => .inr (by simp [Value.ownBlock] at hg';omega)⟩
theorem A2S {P:Program} {ops:Array Oper} {rest:List Oper} {o:Oper} {a:Act} {Q:Exit→Act→World→Prop} {w:World}
  {t tn e:TypeId} {z:Value} {bytes:Nat} {kn:IntKind} (E:P4 P t e z 1 bytes) (hzc:z.cells = #[z]) (hz1:z.oneCell'=true) (htn:P.underlying tn=some (.int kn)) (hgd:o.guard=none) (s x:Operand)
  (ho:o.op = .call { callee:=.builtin .append,args:=#[s,x],argTypes:=#[t,tn] })
  {base:Nat} {v:Value} {n k:Nat} {xs:List Value} (hown:w.ownsRow base e 1 v n xs) (hs:a.eval s=v) (hx:a.eval x = .int .i64 (k:Int)) (h0:0 < k)
  (h63:n+k≤maxLen) (hbytes:(n+k)*bytes≤140737488355328) (hbase:base≤w.heap.size)
  (h:∀ v' w',w'.ownsRow base e 1 v' (n+k) (xs++List.replicate k z)→w.grownBy w' v.ownBlock→(∀ g',v'.ownBlock=some g'→v.ownBlock=some g'∨w.heap.size≤g')→wpList P ops Q rest (a.put o.dst v') w') :
  wpList P ops Q (o :: rest) a w:=by
 refine wpList_plain hgd fun K hK=>?_
 obtain ⟨v',w',hr,h2,h3,h4⟩:=A2j E hzc hz1 htn o.type w hown k h0 h63 hbytes hbase
 unfold Oper.wp execOp
 simp only [ho,resolve,invoke,builtin,Sem.run_bind,Sem.run_pure,Result.andThen_ok,List.map_toArray,List.map_cons,List.map_nil,hs,hx,hr]
 exact hK _ _ (h v' w' h2 h3 h4)
theorem A2k {P:Program} {t tn e:TypeId} {z:Value} {bytes:Nat} {kn:IntKind} (E:P4 P t e z 1 bytes) (htn:P.underlying tn=some (.int kn)) (ty:TypeId) (w:World)
  {base:Nat} {v:Value} {n:Nat} {xs:List Value} (hown:w.ownsRow base e 1 v n xs) :
  (Builtin.append_ #[t,tn] ty #[v,.int .i64 (0:Int)]).run P w = .ok v w:=by
 obtain ⟨i,hi,hz,hsz,hb⟩:=E.info
 have ht:=E.slice
 have hw:IntKind.i64.wrap (0:Int)=0:=by decide
 rcases hown.2 with ⟨rfl,rfl⟩ | ⟨g,cap,cur,rfl,hbg,hg,hnc,hcm,hcs,htake⟩
 ·simp [Builtin.append_,run_underlying ht,run_underlying htn,sizeOf,typeInfo,zeroValue,hi,hz,hsz,asInt,asIntOf,hw]
 ·have hnc':n≤cap:=hnc
  simp [Builtin.append_,run_underlying ht,run_underlying htn,sizeOf,typeInfo,zeroValue,hi,hz,hsz,asInt,asIntOf,hw,hnc',storeCells]
theorem A09 {P:Program} {ops:Array Oper} {rest:List Oper} {o:Oper} {a:Act} {Q:Exit→Act→World→Prop} {w:World}
  {t tn e:TypeId} {z:Value} {bytes:Nat} {kn:IntKind} (E:P4 P t e z 1 bytes) (hzc:z.cells = #[z]) (hz1:z.oneCell'=true) (htn:P.underlying tn=some (.int kn)) (hgd:o.guard=none) (s x:Operand)
  (ho:o.op = .call { callee:=.builtin .append,args:=#[s,x],argTypes:=#[t,tn] })
  {base:Nat} {v:Value} {n k:Nat} {xs:List Value} (hown:w.ownsRow base e 1 v n xs) (hs:a.eval s=v) (hx:a.eval x = .int .i64 (k:Int))
  (h63:n+k≤maxLen) (hbytes:(n+k)*bytes≤140737488355328) (hbase:base≤w.heap.size)
  (h:∀ v' w',w'.ownsRow base e 1 v' (n+k) (xs++List.replicate k z)→w.grownBy w' v.ownBlock→(∀ g',v'.ownBlock=some g'→v.ownBlock=some g'∨w.heap.size≤g')→wpList P ops Q rest (a.put o.dst v') w') :
  wpList P ops Q (o :: rest) a w:=by
 by_cases h0:0 < k
 ·exact A2S E hzc hz1 htn hgd s x ho hown hs hx h0 h63 hbytes hbase h
 ·obtain rfl:k=0:=by omega
  refine wpList_plain hgd fun K hK=>?_
  have hr:=A2k E htn o.type w hown
  unfold Oper.wp execOp
  have hx':a.eval x = .int .i64 0:=hx
  simp only [ho,resolve,invoke,builtin,Sem.run_bind,Sem.run_pure,Result.andThen_ok,List.map_toArray,List.map_cons,List.map_nil,hs,hx',hr]
  exact hK _ _ (h v w (by simpa using hown) ⟨rfl,rfl,rfl,Nat.le_refl _,fun _ _ _=>rfl⟩ (fun _ h => .inl h))
end Go.Mun
namespace Go.Mun
def K4 (L a n:Nat):Option (Nat × Nat):=
 if n=0 then some (0,0) else if a+n≤1048576 then some (I6 (max (L / 32) ((a+n+31) / 32)) - I6 (L / 32),(max (L / 32) ((a+n+31) / 32) - L / 32)*32) else none
end Go.Mun
namespace Go.Proofs.YtfflppedbopdpaaGreat
open Go.RowKit Go.Mun

def Z6 (w w':World) (b o base:Nat) (mv:Value) (l:J1) (r:Option (Nat × Nat)) (e:Ending):Prop:=match r with
 | none=>e = .returned (.tuple #[.int .i64 0,.bool false])∧Below w.heap.size w w'
 | some (cost,k)=>e = .returned (.tuple #[.int .i64 cost,.bool true])∧(Below w.heap.size w w'∧k=0∨∃ w1 mv',A0 (fun g=>mv.ownBlock=some g) w w1∧w'=w1.setCell ⟨b,o,none⟩ mv'∧w1.ownsRow base 5 1 mv' (l.length+k) (K2 (l++List.replicate k 0))∧∀ g,mv'.ownBlock=some g→mv.ownBlock=some g∨w.heap.size≤g)
theorem B4k {w:World} {b o base:Nat} {mv:Value} {l:J1} (a n:Nat) (ha:a < wW) (hn:n < wW) (h:w.cell? ⟨b,o,none⟩=some mv) (hf:w.free? b o 1=true) (hr:w.ownsRow base 5 1 mv l.length (K2 l))
  (hb:∀ g,mv.ownBlock=some g→¬ g=b) (hl:l.length≤1048576) (hbase:base≤w.heap.size) :
  Calls Tryz.prog 284 #[.pointer (some ⟨b,o,none⟩),.agg (A3 32 a).toArray,.agg (A3 32 n).toArray] w fun e w'=>Z6 w w' b o base mv l (K4 l.length a n) e:=by
 obtain ⟨sa,sc,rfl⟩:=Q7 hr
 have hbl:b < w.heap.size:=C1 hf
 obtain ⟨w0,e0⟩:∃ w0,w0=(w.alloc (.cells (A3 32 a).toArray 25)).alloc (.cells (A3 32 n).toArray 25):=⟨_,rfl⟩
 have hb0:Below w.heap.size w w0:=by rw [e0];exact ((Below.refl _ _).alloc (Nat.le_refl _) _).alloc (by simp) _
 have ra:w0.row? w.heap.size 0 32=some (A3 32 a):=by rw [e0,World.row?_alloc_lt _ (by simp)];exact World.row?_alloc_at _ _ _ rfl (by simp)
 have rn:w0.row? (w.heap.size+1) 0 32=some (A3 32 n):=by rw [e0];exact World.row?_alloc_at _ _ _ (by simp) (by simp)
 have hq:=fun w=>eqW (a:=n) (b:=0) hn (by unfold wW;decide) w
 have HB0:=hid hb0
 have HE:=hid e0
 have HRA:=hid ra
 have HRN:=hid rn
 have HIA:=hid (fun w=>A3g a ha w)
 have HIN:=hid (fun w=>A3g n hn w)
 have HH:=hid h
 have HF:=hid hf
 have HR:=hid hr
 have HBL:=hid hbl
 have HBG:=hid hb
 have HLL:=hid hl
 have HBS:=hid hbase
 rw [e0] at ra rn
 clear e0 hb0 h hf hr hb hl hbase hbl ha hn
 by_cases hn0:n=0
 ·have hd:decide (n=0)=true:=decide_eq_true hn0
  have hG:K4 l.length a n=some (0,0):=if_pos hn0
  have HG:=hid hG
  rw [hd] at hq
  clear hd hn0 hG
  go_enter Tryz.func284,Tryz.ntmps284
  go_wp2
  rw [← HE.out]
  go_ret2
  rw [HG.out]
  exact ⟨rfl,.inl ⟨HB0.out,rfl⟩⟩
 have hd:decide (n=0)=false:=decide_eq_false hn0
 have HN0:=hid hn0
 rw [hd] at hq
 clear hd hn0
 go_enter Tryz.func284,Tryz.ntmps284
 go_wp2_with fail
 rw [← HE.out]
 refine (HIA.out w0).mono ?_
 rintro e w1 ⟨rfl,hb1⟩
 have hB1:=HB0.out.trans (hb1.mono HB0.out.size)
 have rn1:w1.row? (w.heap.size+1) 0 32=some (A3 32 n):=((C7 hb1).1 _ _ _ (World.row?_lt HRN.out)).trans HRN.out
 have HB1:=hid hB1
 clear hb1 hB1 ra rn hq
 go_wp2_with fail
 refine (HIN.out w1).mono ?_
 rintro e w2 ⟨rfl,hb2⟩
 have HB2:=hid (HB1.out.trans (hb2.mono HB1.out.size))
 have c2:w2.cell? ⟨b,o,none⟩=some (.slice sa l.length sc):=(HB2.out.cell (p:=⟨b,o,none⟩) HBL.out).trans HH.out
 have hNone:Hid (¬ a+n≤1048576→K4 l.length a n=none):=fun hx=>by
  show (if n=0 then _ else if _ then _ else _)=_
  rw [if_neg HN0.out,if_neg hx]
 clear hb2 rn1
 by_cases ha:a < 9223372036854775808
 ·have ea:A4G a=some a:=if_pos ha
  rw [ea]
  by_cases hn:n < 9223372036854775808
  ·have en:A4G n=some n:=if_pos hn
   rw [en]
   have sa:(some a).getD 0=a:=rfl
   have sn:(some n).getD 0=n:=rfl
   rw [sa,sn]
   clear sa sn ea en
   by_cases hA:a≤1048576
   ·have d1:decide ((1048576:Int) < (a:Int))=false:=decide_eq_false (by omega)
    have hsub:IntKind.i64.wrap (1048576 - (a:Int))=1048576 - (a:Int):=U6 _ (by omega) (by omega)
    by_cases hK:a+n≤1048576
    ·have d2:decide (1048576 - (a:Int) < (n:Int))=false:=decide_eq_false (by omega)
     obtain ⟨was,hwas⟩:∃ was,was=l.length / 32:=⟨_,rfl⟩
     obtain ⟨wd,hwd⟩:∃ wd,wd=(a+n+31) / 32:=⟨_,rfl⟩
     have t1:Int.tdiv ((l.length:Nat):Int) 32=(was:Int):=by rw [Int.tdiv_eq_ediv_of_nonneg (by omega),hwas];rfl
     have t2:Int.tdiv ((a:Int)+n+32 - 1) 32=(wd:Int):=by rw [Int.tdiv_eq_ediv_of_nonneg (by omega)];omega
     have HG:Hid (K4 l.length a n=some (I6 (max was wd) - I6 was,(max was wd - was)*32)):=by
      show (if n=0 then _ else if _ then _ else _)=_
      rw [if_neg HN0.out,if_pos hK,← hwas,← hwd]
     have hl1:=HLL.out
     have hwl:was≤32768∧was*32≤l.length:=by omega
     have hdl:wd≤32768:=by omega
     have HW:=hid (And.intro hwl hdl)
     have hnz:(0:Int)≤(n:Int)∧(n:Int)≤1048576:=by omega
     have haz:(0:Int)≤(a:Int)∧(a:Int)≤1048576:=by omega
     obtain ⟨hnz0,hnz1⟩:=hnz
     obtain ⟨haz0,haz1⟩:=haz
     have hlz:((l.length:Nat):Int)≤1048576:=by omega
     have hwz:(was:Int)≤32768:=by omega
     have hdz:(wd:Int)≤32768:=by omega
     have hwz0:(0:Int)≤(was:Int):=by omega
     have hdz0:(0:Int)≤(wd:Int):=by omega
     have HR2:=hid (A0.own HR.out (A0.of_below_size HB2.out) (fun _ _ h=>h):w2.ownsRow base 5 1 (.slice sa l.length sc) l.length (K2 l))
     have hf2:w2.free? b o 1=true:=by rw [(C7 HB2.out).2 _ _ _ HBL.out];exact HF.out
     have HF2:=hid hf2
     obtain ⟨wm,hwm⟩:∃ wm,wm=max was wd:=⟨_,rfl⟩
     have hmxz:max (was:Int) (wd:Int)=(wm:Int):=by rw [hwm];omega
     rw [← hwm] at HG
     have hwm1:was≤wm∧wm≤32768:=by omega
     have hmz:(wm:Int)≤32768:=by omega
     have hmz0:(was:Int)≤(wm:Int):=by omega
     obtain ⟨k,hk⟩:∃ k,k=(wm - was)*32:=⟨_,rfl⟩
     have hkz:((wm:Int) - (was:Int))*32=(k:Int):=by omega
     rw [← hk] at HG
     have HK:=hid (show k≤1048576 by omega)
     have hmc:=A3B (show was≤wm from hwm1.1)
     have hm1:=A29 wm (by omega)
     have HSC:Hid (IntKind.i64.wrap (((I6 wm:Nat):Int) - ((I6 was:Nat):Int))=((I6 wm - I6 was:Nat):Int)):=by show _=_;rw [U6 _ (by omega) (by omega)];omega
     have HC1:=hid (fun w=>A8X wm (by omega) w)
     have HC2:=hid (fun w=>A8X was (by omega) w)
     clear hwas hwd hwl hdl hl1 hwm hk hmc hm1 hwm1 hK hA ha hn
     go_wp2_with (at_builtin;go_must (refine A09 (base:=base) (n:=l.length) (k:=k) (xs:=K2 l) A0n rfl rfl Tryz.underlying3 rfl _ _ rfl HR2.out rfl rfl (by have:=HK.out;have:=HLL.out;unfold maxLen;omega) (by have:=HK.out;have:=HLL.out;omega) (by have:=HBS.out;have:=HB2.out.size;omega) ?_))
     intro v3 w3 ho3 hg3 hn3
     have hO3:A0 (fun g=>(Value.slice sa l.length sc).ownBlock=some g) w2 w3:=A0.of_grown hg3
     have hO:Hid (A0 (fun g=>(Value.slice sa l.length sc).ownBlock=some g) w w3):=(A0.mono (S:=fun _=>False) (A0.of_below_size HB2.out) (fun _ (h:False)=>h.elim)).trans hO3 (fun _ h _=>h)
     have hf3:w3.free? b o 1=true:=by rw [hO3.free? (C1 HF2.out) (fun hh=>HBG.out b hh rfl)];exact HF2.out
     have HOW:Hid (w3.ownsRow base 5 1 v3 (l.length+k) (K2 (l++List.replicate k 0))):=by
      have e:K2 (l++List.replicate k 0)=K2 l++List.replicate k (Value.int .u8 0):=by simp [K2]
      show w3.ownsRow _ _ _ _ _ _
      rw [e]
      simpa using ho3
     have hone:=Q7 HOW.out
     obtain ⟨va,vc,rfl⟩:=hone
     have HGR:Hid (∀ g,(Value.slice va (l.length+k) vc).ownBlock=some g→(Value.slice sa l.length sc).ownBlock=some g∨w.heap.size≤g):=by
      intro g hg
      rcases hn3 g hg with h1 | h1
      ·exact .inl h1
      ·exact .inr (by have:=HB2.out.size;omega)
     clear ho3 hg3 hO3 c2 hf2 hn3
     go_wp2_with fail
     refine (HC1.out _).mono ?_
     rintro e w4 ⟨rfl,rfl⟩
     go_wp2_with fail
     refine (HC2.out _).mono ?_
     rintro e w5 ⟨rfl,rfl⟩
     have hsc:=HSC.out
     generalize I6 wm=m1 at *
     generalize I6 was=m2 at *
     go_wp2
     go_ret2
     rw [HG.out]
     exact ⟨rfl,.inr ⟨w3,_,hO.out,rfl,HOW.out,HGR.out⟩⟩
    ·have d2:decide (1048576 - (a:Int) < (n:Int))=true:=decide_eq_true (by omega)
     have HG:=hid (hNone.out hK)
     clear hK hA ha hn c2
     go_wp2
     go_ret2
     rw [HG.out]
     exact ⟨rfl,HB2.out⟩
   ·have d1:decide ((1048576:Int) < (a:Int))=true:=decide_eq_true (by omega)
    have HG:=hid (hNone.out (by omega))
    clear hA ha hn c2
    go_wp2
    go_ret2
    rw [HG.out]
    exact ⟨rfl,HB2.out⟩
  ·have en:A4G n=none:=if_neg hn
   have HG:=hid (hNone.out (by omega))
   rw [en]
   clear en ea ha hn c2
   go_wp2
   go_ret2
   rw [HG.out]
   exact ⟨rfl,HB2.out⟩
 ·have ea:A4G a=none:=if_neg ha
  have HG:=hid (hNone.out (by omega))
  rw [ea]
  clear ea ha c2
  go_wp2
  go_ret2
  rw [HG.out]
  exact ⟨rfl,HB2.out⟩
theorem B58 {w:World} {b o:Nat} {sa:Option Addr} {sc:Nat} {l:J1} (p n:Nat) (hp:p≤1048576) (hn:n≤1048576) (h:w.cell? ⟨b,o,none⟩=some (.slice sa l.length sc)) (hI:G9 w .u8 sa sc l) (hl:l.length≤1048576) :
  Calls Tryz.prog 285 #[.pointer (some ⟨b,o,none⟩),.int .i64 p,.int .i64 n] w fun e w' => ∃ v,e = .returned v∧A3d w w' v (T9 l p n):=by
 have hbl:b < w.heap.size:=World.block_lt_of_cell? _ _ h
 obtain ⟨w0,e0⟩:∃ w0,w0=w.alloc (.cells (J4 n).toArray 5):=⟨_,rfl⟩
 have hb0:Below w.heap.size w w0:=by rw [e0];exact (Below.refl _ _).alloc (Nat.le_refl _) _
 have c0:w0.cell? ⟨b,o,none⟩=some (.slice sa l.length sc):=(hb0.cell (p:=⟨b,o,none⟩) hbl).trans h
 have hw0:Q0 w0 w.heap.size 5 (J4 n):=by rw [e0];exact Q0.new w 5 (J4 n)
 have hmk:∀ w',(Instr.makeSlice 26 (.int .i64 (n:Int)) (.int .i64 (n:Int))).run Tryz.prog w' = .ok (.slice (some ⟨w'.heap.size,0,none⟩) n n) (w'.alloc (.cells (J4 n).toArray 5)):=fun w'=>A5c A0n (n:Int) n rfl (by omega) w'
 have d1:decide ((p:Int) < 0)=false:=decide_eq_false (by omega)
 have d2:decide ((n:Int) < 0)=false:=decide_eq_false (by omega)
 have d3:decide ((1048576:Int) < (n:Int))=false:=decide_eq_false (by omega)
 have HE:=hid e0
 have HB:=hid hb0
 have HW0:=hid hw0
 have HI:=hid (hI.below hb0)
 have HN:=hid hn
 have HL:=hid hl
 rw [e0] at c0
 clear e0 hb0 h hw0 hI hbl
 by_cases hlt:p < l.length
 ·have d4:decide ((p:Int) < (l.length:Int))=true:=decide_eq_true (by omega)
  have d5:(p < l.length)=True:=eq_true hlt
  obtain ⟨gb,off,ha,_,_⟩:=HI.out.at (i:=0) (by omega)
  subst ha
  obtain ⟨o',c',hsl,hI2⟩:=A5a HI.out p (by omega)
  have HI2:=hid hI2
  have hcl:(K2 ((l.drop p).take n)).length=Nat.min (l.length - p) n:=by
   simp only [K2,List.length_map,List.length_take,List.length_drop]
   exact Nat.min_comm _ _
  have HCL:=hid hcl
  have HSRC:Hid (0 < (K2 ((l.drop p).take n)).length→∃ ad,(some ⟨gb,o',none⟩:Option Addr)=some ad∧∀ j v,(K2 ((l.drop p).take n))[j]? = some v→w0.cell? (ad.add j)=some v):=fun hpos=>by
   have h1:0 < (l.drop p).length:=by rw [List.length_drop];omega
   obtain ⟨ad,e,hs⟩:=A2u HI2.out h1
   refine ⟨ad,e,fun j v hv=>hs j v ?_⟩
   have hj:j < ((l.drop p).take n).length:=by have:=(List.getElem?_eq_some_iff.1 hv).1;simpa using this
   have hjn:j < n:=by rw [List.length_take] at hj;omega
   simp only [K2,List.getElem?_map,List.getElem?_take,if_pos hjn] at hv ⊢
   exact hv
  clear hI2 hcl hlt
  go_enter Tryz.func285,Tryz.ntmps285
  go_wp2_with (rw [← HE.out];refine wpList_copy_splice rfl _ _ 26 26 rfl 5 Tryz.underlying26 (by kernel_rfl) (some ⟨w.heap.size,0,none⟩) (some ⟨gb,o',none⟩) n n (l.length - p) c' rfl rfl w.heap.size 0 (J4 n) 5 HW0.out (K2 ((l.drop p).take n)) HCL.out (fun hpos=>⟨rfl,HSRC.out hpos⟩) (by rw [HCL.out];simp [J4];exact Nat.min_le_right _ _) (fun v hv=>by obtain ⟨x,_,rfl⟩:=List.mem_map.1 hv;rfl) w.heap.size w HB.out (Nat.le_refl _) ?_)
  intro w2 hg2 hb2
  have hW2:Q0 w2 w.heap.size 5 (K2 (T9 l p n)):=by rw [← A4t];exact hg2.out
  have hA:=hW2.arr (n:=n) (by simp [K2,N5])
  have HA:=hid hA
  have HB2:=hid hb2
  clear hg2 hb2 hW2 hA hsl
  go_wp2
  go_ret
  exact ⟨_,rfl,⟨⟨some ⟨w.heap.size,0,none⟩,n,by rw [N5];rfl,G9.of_arr HA.out (N5 _ _ _).symm (Nat.le_refl _) (by have:=HN.out;unfold maxLen;omega),fun q hq=>by cases hq;exact Nat.le_refl _⟩,HB2.out⟩⟩
 ·have d4:decide ((p:Int) < (l.length:Int))=false:=decide_eq_false (by omega)
  have d5:(p < l.length)=False:=eq_false hlt
  have d6:(l.length≤p)=True:=eq_true (by omega)
  have hW2:Q0 w0 w.heap.size 5 (K2 (T9 l p n)):=by rw [A9c l p n (by omega)];exact HW0.out
  have HA:=hid (hW2.arr (n:=n) (by simp [K2,N5]))
  clear hW2 hlt
  go_enter Tryz.func285,Tryz.ntmps285
  go_wp2
  rw [← HE.out]
  go_ret
  exact ⟨_,rfl,⟨⟨some ⟨w.heap.size,0,none⟩,n,by rw [N5];rfl,G9.of_arr HA.out (N5 _ _ _).symm (Nat.le_refl _) (by have:=HN.out;unfold maxLen;omega),fun q hq=>by cases hq;exact Nat.le_refl _⟩,HB.out⟩⟩
end Go.Proofs.YtfflppedbopdpaaGreat
namespace Go.Mun
def A0J (l:J1) (p:Nat) (x:J1):J1:=l.take p++(x++l.drop (p+x.length))
theorem A2m (l:J1) (p:Nat) (x:J1) (h:p+x.length≤l.length):(A0J l p x).length=l.length:=by
 unfold A0J;simp;omega
theorem B34 (l:J1) (p:Nat):A0J l p []=l:=by simp [A0J]
end Go.Mun
namespace Go.Proofs.YtfflppedbopdpaaGreat
open Go.RowKit Go.Mun

theorem A4l (l:J1) (p:Nat) (x:J1):splice (K2 l) p (K2 x)=K2 (A0J l p x):=by
 unfold splice A0J
 simp [K2,List.map_take,List.map_drop]
theorem A4d (L:List Value) (p:Nat) (c:List Value) (n:Nat) (h:p+c.length≤n) (hn:n≤L.length):(splice L p c).take n=splice (L.take n) p c:=by
 apply List.ext_getElem?
 intro j
 rw [List.getElem?_take,I9 _ _ _ (by omega),I9 _ _ _ (by rw [List.length_take];omega),List.getElem?_take]
 by_cases h1:j < n
 ·rw [if_pos h1]
  simp only [if_pos h1]
 ·rw [if_neg h1,if_neg (by omega),if_neg (by omega),if_neg h1]
theorem A3o (g p n c:Nat) (hp:p≤n) (hpc:p < c) (hnc:n≤c) (w':World) :
  (Instr.slice 26 (.slice (some ⟨g,0,none⟩) n c) (some (.int .i64 (p:Int))) none none).run Tryz.prog w' = .ok (.slice (some ⟨g,p,none⟩) (n - p) (c - p)) w':=by
 have he:Tryz.prog.elem 26=5:=by kernel_rfl
 have hs:(sizeOf 5).run Tryz.prog w' = .ok 1 w':=by kernel_rfl
 rw [run_slice_l w' 26 (some ⟨g,0,none⟩) n c (by rw [he];exact Tryz.underlying26) .i64 (p:Int) (by omega) (by omega),he,hs]
 simp only [Result.andThen,sliced,Int.toNat_natCast,Nat.mul_one]
 rw [if_neg (by omega),Option.map_some,U9 rfl,Nat.zero_add]
theorem B57 {w:World} {b o base:Nat} {mv:Value} {l:J1} {xa:Option Addr} {m xc:Nat} {x:J1} (p:Nat) (h:w.cell? ⟨b,o,none⟩=some mv) (hr:w.ownsRow base 5 1 mv l.length (K2 l)) (hl:l.length≤1048576)
  (hm:m=x.length) (hI:G9 w .u8 xa xc x) (hfit:p+x.length≤l.length) :
  Calls Tryz.prog 226 #[.pointer (some ⟨b,o,none⟩),.int .i64 p,.slice xa m xc] w fun e w'=>e = .returned (.bool true)∧A0 (fun g=>mv.ownBlock=some g) w w'∧w'.ownsRow base 5 1 mv l.length (K2 (A0J l p x)):=by
 have d1:decide ((p:Int) < 0)=false:=decide_eq_false (by omega)
 by_cases hm0:m=0
 ·have hx:x = []:=List.eq_nil_of_length_eq_zero (by omega)
  have d2:decide ((0:Int) < (m:Int))=false:=decide_eq_false (by omega)
  have d3:(0 < m)=False:=eq_false (by omega)
  have d4:(m=0)=True:=eq_true hm0
  have HR:=hid hr
  subst hx
  rw [B34]
  clear hr hI hm0 hfit hm
  go_enter Tryz.func226,Tryz.ntmps226
  go_wp2
  go_ret
  exact ⟨rfl,A0.refl _ _,HR.out⟩
 ·have hmp:0 < m:=by omega
  have d2:decide ((0:Int) < (m:Int))=true:=decide_eq_true (by omega)
  have d3:(0 < m)=True:=eq_true hmp
  have d4:decide ((l.length:Int) < (p:Int))=false:=decide_eq_false (by omega)
  have d5:(l.length < p)=False:=eq_false (by omega)
  have d6:(p≤l.length)=True:=eq_true (by omega)
  have d7:decide ((l.length:Int) - (p:Int) < (m:Int))=false:=decide_eq_false (by omega)
  have hw7:IntKind.i64.wrap ((l.length:Int) - (p:Int))=(l.length:Int) - p:=U6 _ (by omega) (by omega)
  rcases hr.2 with ⟨hv,h0⟩ | ⟨g,cap,cur,hv,hbg,hg,hnc,hcm,hcs,htake⟩
  ·exfalso;omega
  ·subst hv
   have hnc':l.length≤cap:=hnc
   have hcs':cur.size=cap:=by simpa using hcs
   have htk:cur.toList.take l.length=K2 l:=by simpa using htake
   have hsl:∀ w',(Instr.slice 26 (.slice (some ⟨g,0,none⟩) l.length cap) (some (.int .i64 (p:Int))) none none).run Tryz.prog w' = .ok (.slice (some ⟨g,p,none⟩) (l.length - p) (cap - p)) w':=fun w'=>A3o g p l.length cap (by omega) (by omega) hnc' w'
   obtain ⟨ad,hxa,hsrc⟩:=A2u hI (by omega)
   subst hxa
   have hcl:(K2 x).length=Nat.min m (l.length - p):=by
    rw [show (K2 x).length=x.length by simp [K2],← hm]
    exact (Nat.min_eq_left (by omega)).symm
   have HSRC:=hid hsrc
   have HCL:=hid hcl
   have HG:=hid hg
   have HFIT:Hid (p+(K2 x).length≤cur.size):=by show _≤_;rw [show (K2 x).length=x.length by simp [K2],hcs'];omega
   have HX:=hid (show cur.size=cap∧l.length≤cap∧cap≤maxLen∧base≤g∧cur.toList.take l.length=K2 l∧p+x.length≤l.length from ⟨hcs',hnc',hcm,hbg,htk,hfit⟩)
   clear hr hI hm0 hg hcl hsrc hcs htake hcs' htk hnc hcm hbg hm hfit
   go_enter Tryz.func226,Tryz.ntmps226
   go_wp2_with (refine wpList_copy_own rfl _ _ 26 26 rfl 5 Tryz.underlying26 (by kernel_rfl) g p (l.length - p) (cap - p) ad m xc rfl rfl cur 5 HG.out (K2 x) HCL.out HSRC.out HFIT.out (fun v hv=>by obtain ⟨y,_,rfl⟩:=List.mem_map.1 hv;rfl) ?_)
   go_ret
   obtain ⟨k1,k2,k3,k4,k5,k6⟩:=HX.out
   have hxl:(K2 x).length=x.length:=by simp [K2]
   have hcl:cur.toList.length=cap:=by rw [Array.length_toList];exact k1
   refine ⟨rfl,(A2q w g _).mono (fun i hi=>by have:i=g:=hi;rw [this];rfl),by rw [Nat.mul_one];simp [K2];exact A2m l p x k6,.inr ⟨g,cap,_,rfl,k4,setRow_heap w g cur _ 5 (0,0) HG.out,k2,k3,?_,?_⟩⟩
   ·simp only [List.size_toArray,List.length_append,List.length_take,List.length_drop,hcl,hxl]
    omega
   ·rw [Nat.mul_one,← A4l,← k5]
    have ht:=A4d cur.toList p (K2 x) l.length (by rw [hxl];exact k6) (by omega)
    rw [← ht]
    unfold splice
    rw [hxl]
section
variable {E:Env} {w:World} {own:Go.Mun.Own} {c:FV} {f:Fr} {S:St} {n:Nat}
theorem E6.memory {w1:World} {mv':Value} {m':J1} (h:E6 E w own c f S n) (ho:A0 (fun g=>c.mv.ownBlock=some g) w w1) (hr:w1.ownsRow 0 5 1 mv' m'.length (m'.map (Value.int .u8)))
  (hl:∀ g,mv'.ownBlock=some g→c.mv.ownBlock=some g∨w.heap.size≤g) (hv:Byt m') (hn:m'.length≤1048576∧m'.length % 32=0) :
  E6 E (w1.setCell ⟨E.fb,133,none⟩ mv') own { c with mv:=mv' } { f with mem:=m' } S n:=by
 have hfl:=h.lt
 have hsf:¬ c.mv.ownBlock=some E.fb:=fun e=>(h.mown _ e).2.1 rfl
 have hrow1:w1.row? E.fb 0 141=some (B8 (frS E.rb c f)):=by rw [ho.row? hfl hsf];exact h.row
 have hfree1:w1.free? E.fb 0 141=true:=by rw [ho.free? hfl hsf];exact h.free
 have ho2:A0 (fun b=>b=E.fb∨c.sv.ownBlock=some b∨c.mv.ownBlock=some b∨c.lv.ownBlock=some b) w (w1.setCell ⟨E.fb,133,none⟩ mv'):=
  (ho.mono fun b hb => .inr (.inr (.inl hb))).trans (C6 w1 E.fb 133 mv') (fun i hi _ => .inl hi)
 have hR:∀ b,(b=E.fb∨c.sv.ownBlock=some b∨c.mv.ownBlock=some b∨c.lv.ownBlock=some b)→mu own E.fb E.kp c b:=fun _ h => .inr h
 obtain ⟨cs,hl1,hl2⟩:=h.logs
 have hkb:∀ b,b < w.heap.size→(b=E.fb∨c.sv.ownBlock=some b∨mv'.ownBlock=some b∨c.lv.ownBlock=some b)→(b=E.fb∨c.sv.ownBlock=some b∨c.mv.ownBlock=some b∨c.lv.ownBlock=some b):=by
  rintro b hb (h1 | h1 | h1 | h1)
  ·exact .inl h1
  ·exact .inr (.inl h1)
  ·rcases hl b h1 with h2 | h2
   ·exact .inr (.inr (.inl h2))
   ·omega
  ·exact .inr (.inr (.inr h1))
 have hmu:∀ b,b < w.heap.size→mu own E.fb E.kp { c with mv:=mv' } b→mu own E.fb E.kp c b:=fun b hb hx=>hx.imp id (hkb b hb)
 have hstk:∀ g,c.sv.ownBlock=some g→¬ (g=E.fb∨c.mv.ownBlock=some g):=fun g hg he=>by
  rcases he with he | he
  ·exact (h.sown g hg).2 he
  ·exact (h.mown g he).2.2 hg
 have hlog:∀ g,c.lv.ownBlock=some g→¬ (g=E.fb∨c.mv.ownBlock=some g):=fun g hg he=>by
  rcases he with he | he
  ·exact (h.lown g hg).2.1 he
  ·exact (h.lown g hg).2.2.2 he
 have ho3:A0 (fun b=>b=E.fb∨c.mv.ownBlock=some b) w (w1.setCell ⟨E.fb,133,none⟩ mv'):=
  (ho.mono fun b hb => .inr hb).trans (C6 w1 E.fb 133 mv') (fun i hi _ => .inl hi)
 have hsl:=B0 hr
 have hown:∀ g,mv'.ownBlock=some g→own g=none∧g≠E.fb∧c.sv.ownBlock≠some g:=fun g hg=>by
  rcases hl g hg with h1 | h1
  ·exact h.mown g h1
  ·exact ⟨D4 h.st.lows h1,by omega,fun e=>by have:=B0 h.stk g e;omega⟩
 have hbase:∀ g,mv'.ownBlock=some g→E.w0.heap.size≤g:=fun g hg=>by
  rcases hl g hg with h1 | h1
  ·exact E4 h.mem g h1
  ·have:=h.chg.only.size;omega
 refine h.turn ho2 (B7D mv' hrow1) (by rw [D1 _ (World.free?_sub hfree1 (by omega))];exact hfree1) ⟨rfl,rfl,rfl⟩ rfl rfl hkb ?_ h.sown h.sval h.slen ?_ hown hv hn ⟨cs,?_,?_⟩ ?_ h.llen ?_ ?_ (Nat.le_refl _) h.nxt
 ·exact A0.own h.stk ho3 hstk
 ·exact A0.own (M7 hr hbase) (C6 w1 E.fb 133 mv') (fun g hg=>(hown g hg).2.1)
 ·exact A0.own hl1 ho3 hlog
 ·exact hl2.only ho2 (fun b h => .inl (hR b h)) (fun b hb h=>h.imp (hmu b hb) id)
 ·refine fun g hg=>⟨(h.lown g hg).1,(h.lown g hg).2.1,(h.lown g hg).2.2.1,fun e=>?_⟩
  rcases hl g e with h1 | h1
  ·exact (h.lown g hg).2.2.2 h1
  ·have:=B0 hl1 g hg;omega
 ·exact h.ret.only ho2 (fun b h => .inl (hR b h)) (fun b hb h=>h.imp (hmu b hb) id)
 ·exact h.out.only ho2 (fun b h => .inl (hR b h)) (fun b hb h=>h.imp (hmu b hb) id)
theorem E6.memory2 {w':World} {mv':Value} {m':J1} {gs:Nat} (h:E6 E w own c f S n) (ho3:A0 (fun b=>b=E.fb∨c.mv.ownBlock=some b) w w') (hrow:w'.row? E.fb 0 141=some (B8 (frS E.rb { c with mv:=mv' } { f with mem:=m',gas:=gs }))) (hfree:w'.free? E.fb 0 141=true)
  (hr:w'.ownsRow E.w0.heap.size 5 1 mv' m'.length (m'.map (Value.int .u8))) (hl:∀ g,mv'.ownBlock=some g→c.mv.ownBlock=some g∨w.heap.size≤g) (hv:Byt m') (hn:m'.length≤1048576∧m'.length % 32=0) (hgs:gs≤f.gas) :
  E6 E w' own { c with mv:=mv' } { f with mem:=m',gas:=gs } S n:=by
 have hfl:=h.lt
 have ho2:A0 (fun b=>b=E.fb∨c.sv.ownBlock=some b∨c.mv.ownBlock=some b∨c.lv.ownBlock=some b) w w':=ho3.mono fun b hb=>hb.imp id (fun h => .inr (.inl h))
 have hR:∀ b,(b=E.fb∨c.sv.ownBlock=some b∨c.mv.ownBlock=some b∨c.lv.ownBlock=some b)→mu own E.fb E.kp c b:=fun _ h => .inr h
 obtain ⟨cs,hl1,hl2⟩:=h.logs
 have hkb:∀ b,b < w.heap.size→(b=E.fb∨c.sv.ownBlock=some b∨mv'.ownBlock=some b∨c.lv.ownBlock=some b)→(b=E.fb∨c.sv.ownBlock=some b∨c.mv.ownBlock=some b∨c.lv.ownBlock=some b):=by
  rintro b hb (h1 | h1 | h1 | h1)
  ·exact .inl h1
  ·exact .inr (.inl h1)
  ·rcases hl b h1 with h2 | h2
   ·exact .inr (.inr (.inl h2))
   ·omega
  ·exact .inr (.inr (.inr h1))
 have hmu:∀ b,b < w.heap.size→mu own E.fb E.kp { c with mv:=mv' } b→mu own E.fb E.kp c b:=fun b hb hx=>hx.imp id (hkb b hb)
 have hstk:∀ g,c.sv.ownBlock=some g→¬ (g=E.fb∨c.mv.ownBlock=some g):=fun g hg he=>by
  rcases he with he | he
  ·exact (h.sown g hg).2 he
  ·exact (h.mown g he).2.2 hg
 have hlog:∀ g,c.lv.ownBlock=some g→¬ (g=E.fb∨c.mv.ownBlock=some g):=fun g hg he=>by
  rcases he with he | he
  ·exact (h.lown g hg).2.1 he
  ·exact (h.lown g hg).2.2.2 he
 have hsl:=B0 hr
 have hown:∀ g,mv'.ownBlock=some g→own g=none∧g≠E.fb∧c.sv.ownBlock≠some g:=fun g hg=>by
  rcases hl g hg with h1 | h1
  ·exact h.mown g h1
  ·exact ⟨D4 h.st.lows h1,by omega,fun e=>by have:=B0 h.stk g e;omega⟩
 refine h.turn ho2 hrow hfree ⟨rfl,rfl,rfl⟩ rfl rfl hkb ?_ h.sown h.sval h.slen hr hown hv hn ⟨cs,?_,?_⟩ ?_ h.llen ?_ ?_ hgs h.nxt
 ·exact A0.own h.stk ho3 hstk
 ·exact A0.own hl1 ho3 hlog
 ·exact hl2.only ho2 (fun b h => .inl (hR b h)) (fun b hb h=>h.imp (hmu b hb) id)
 ·refine fun g hg=>⟨(h.lown g hg).1,(h.lown g hg).2.1,(h.lown g hg).2.2.1,fun e=>?_⟩
  rcases hl g e with h1 | h1
  ·exact (h.lown g hg).2.2.2 h1
  ·have:=B0 hl1 g hg;omega
 ·exact h.ret.only ho2 (fun b h => .inl (hR b h)) (fun b hb h=>h.imp (hmu b hb) id)
 ·exact h.out.only ho2 (fun b h => .inl (hR b h)) (fun b hb h=>h.imp (hmu b hb) id)
theorem E6.memput {w1:World} {m':J1} (h:E6 E w own c f S n) (ho:A0 (fun g=>c.mv.ownBlock=some g) w w1) (hr:w1.ownsRow E.w0.heap.size 5 1 c.mv m'.length (m'.map (Value.int .u8)))
  (hv:Byt m') (hn:m'.length≤1048576∧m'.length % 32=0):E6 E w1 own c { f with mem:=m' } S n:=by
 have hfl:=h.lt
 have hsf:¬ c.mv.ownBlock=some E.fb:=fun e=>(h.mown _ e).2.1 rfl
 have ho2:A0 (fun b=>b=E.fb∨c.sv.ownBlock=some b∨c.mv.ownBlock=some b∨c.lv.ownBlock=some b) w w1:=ho.mono fun b hb => .inr (.inr (.inl hb))
 have hR:∀ b,(b=E.fb∨c.sv.ownBlock=some b∨c.mv.ownBlock=some b∨c.lv.ownBlock=some b)→mu own E.fb E.kp c b:=fun _ h => .inr h
 obtain ⟨cs,hl1,hl2⟩:=h.logs
 refine h.turn ho2 (by rw [ho.row? hfl hsf];exact h.row) (by rw [ho.free? hfl hsf];exact h.free) ⟨rfl,rfl,rfl⟩ rfl rfl (fun _ _ hx=>hx) ?_ h.sown h.sval h.slen hr h.mown hv hn ⟨cs,?_,?_⟩ h.lown h.llen ?_ ?_ (Nat.le_refl _) h.nxt
 ·exact A0.own h.stk ho (fun g hg he=>(h.mown g he).2.2 hg)
 ·exact A0.own hl1 ho (fun g hg he=>(h.lown g hg).2.2.2 he)
 ·exact hl2.only ho2 (fun b h => .inl (hR b h)) (fun _ _ h=>h)
 ·exact h.ret.only ho2 (fun b h => .inl (hR b h)) (fun _ _ h=>h)
 ·exact h.out.only ho2 (fun b h => .inl (hR b h)) (fun _ _ h=>h)
end
end Go.Proofs.YtfflppedbopdpaaGreat
namespace Go.Mun
theorem Z5 {L a n cost x:Nat} (hL:L≤1048576∧L % 32=0) (h:K4 L a n=some (cost,x)):L+x≤1048576∧(L+x) % 32=0∧cost≤2150629376∧(n≠0→a+n≤L+x):=by
 unfold K4 at h
 split at h
 ·cases h;exact ⟨by omega,by omega,by omega,fun h=>by contradiction⟩
 ·split at h
  ·cases h
   have hm:max (L / 32) ((a+n+31) / 32)≤32768:=by omega
   have hc:=A29 (max (L / 32) ((a+n+31) / 32)) (by omega)
   refine ⟨by omega,by omega,by omega,fun _=>by omega⟩
  ·cases h
end Go.Mun
namespace Go.Proofs.YtfflppedbopdpaaGreat
open Go.RowKit Go.Mun

theorem A5P {l:J1} (h:Byt l) (x:Nat):Byt (l++List.replicate x 0):=fun y hy=>by
 rcases List.mem_append.1 hy with h1 | h1
 ·exact h y h1
 ·rw [(List.mem_replicate.1 h1).2];exact ⟨by decide,by decide⟩
def A5Y (E:Env) (w w':World) (own:Go.Mun.Own) (c:FV) (f:Fr) (S:St) (k a n:Nat) (e:Ending):Prop:=match K4 f.mem.length a n with
 | none=>e = .returned (.tuple #[.int .i64 0,.bool false])∧Below w.heap.size w w'
 | some (cost,x)=>e = .returned (.tuple #[.int .i64 cost,.bool true])∧∃ mv',E6 E w' own { c with mv:=mv' } { f with mem:=f.mem++List.replicate x 0 } S k∧(∀ g,mv'.ownBlock=some g→c.mv.ownBlock=some g∨w.heap.size≤g)∧A0 (fun b=>b=E.fb∨c.mv.ownBlock=some b) w w'
theorem B6r {E:Env} {w:World} {own:Go.Mun.Own} {c:FV} {f:Fr} {S:St} {k:Nat} (a n:Nat) (ha:a < wW) (hn:n < wW) (h:E6 E w own c f S k) :
  Calls Tryz.prog 284 #[.pointer (some ⟨E.fb,133,none⟩),.agg (A3 32 a).toArray,.agg (A3 32 n).toArray] w fun e w'=>A5Y E w w' own c f S k a n e:=by
 have hbase:E.w0.heap.size≤w.heap.size:=h.chg.only.size
 refine (B4k a n ha hn (B4x h.row) (h.one (by omega)) h.mem (fun g hg=>(h.mown g hg).2.1) h.mlen.1 hbase).mono ?_
 intro e w' hg
 unfold Z6 at hg
 unfold A5Y
 cases er:K4 f.mem.length a n with
 | none =>
  rw [er] at hg
  exact hg
 | some q =>
  obtain ⟨cost,x⟩:=q
  rw [er] at hg
  obtain ⟨rfl,hg⟩:=hg
  have hfit:=Z5 h.mlen er
  refine ⟨rfl,?_⟩
  rcases hg with ⟨hb,rfl⟩ | ⟨w1,mv',ho,rfl,hr,hl⟩
  ·refine ⟨c.mv,?_,fun g hg => .inl hg,A0.mono (S:=fun _=>False) (A0.of_below_size hb) (fun _ (h:False)=>h.elim)⟩
   have:=h.below hb
   rw [List.replicate_zero,List.append_nil]
   exact this
  ·refine ⟨mv',?_,hl,(ho.mono fun b hb => .inr hb).trans (C6 w1 E.fb 133 mv') (fun i hi _ => .inl hi)⟩
   have hlen:(f.mem++List.replicate x 0).length=f.mem.length+x:=by simp
   refine h.memory ho ?_ hl (A5P h.mbyte x) (by rw [hlen];exact ⟨hfit.1,hfit.2.1⟩)
   rw [hlen]
   exact D9 hr (Nat.zero_le _)
end Go.Proofs.YtfflppedbopdpaaGreat
namespace Go.Proofs.YtfflppedbopdpaaGreat
open Go.RowKit Go.Mun
theorem A5Y.one {E:Env} {w w':World} {own:Go.Mun.Own} {c:FV} {f:Fr} {S:St} {k a n:Nat} {e:Ending} (h:A5Y E w w' own c f S k a n e) :
  ∃ (cost:Nat) (ok:Bool),e = .returned (.tuple #[.int .i64 cost,.bool ok])∧A0 (fun b=>b=E.fb∨c.mv.ownBlock=some b) w w' ∧
   ((ok=false∧K4 f.mem.length a n=none∧Below w.heap.size w w')∨(ok=true∧∃ x,K4 f.mem.length a n=some (cost,x)∧∃ mv',E6 E w' own { c with mv:=mv' } { f with mem:=f.mem++List.replicate x 0 } S k∧(∀ g,mv'.ownBlock=some g→c.mv.ownBlock=some g∨w.heap.size≤g))):=by
 unfold A5Y at h
 cases er:K4 f.mem.length a n with
 | none =>
  rw [er] at h
  obtain ⟨rfl,hb⟩:=h
  exact ⟨0,false,rfl,A0.mono (S:=fun _=>False) (A0.of_below_size hb) (fun _ (h:False)=>h.elim),.inl ⟨rfl,rfl,hb⟩⟩
 | some q =>
  obtain ⟨cost,x⟩:=q
  rw [er] at h
  obtain ⟨rfl,mv',h1,h2,h3⟩:=h
  exact ⟨cost,true,rfl,h3,.inr ⟨rfl,x,rfl,mv',h1,h2⟩⟩
def B9Z (E:Env) (w w':World) (own:Go.Mun.Own) (c:FV) (f:Fr) (S:St) (k a n:Nat) (e:Ending):Prop:=
 (K4 f.mem.length a n=none∧e = .panicked [{ v:=A2f 11,recovered:=false }]∧E6 E w' own c f S k) ∨
 ∃ cost x mv',K4 f.mem.length a n=some (cost,x) ∧
  ((cost≤f.gas∧e = .returned (.agg #[.int .i64 ((if n=0 then 0 else a:Nat):Int),.int .i64 (n:Int)])∧E6 E w' own { c with mv:=mv' } { f with mem:=f.mem++List.replicate x 0,gas:=f.gas - cost } S k∧A0 (fun b=>b=E.fb∨c.mv.ownBlock=some b) w w'∧∀ g,mv'.ownBlock=some g→c.mv.ownBlock=some g∨w.heap.size≤g) ∨
   (¬ cost≤f.gas∧e = .panicked [{ v:=A2f 11,recovered:=false }]∧E6 E w' own { c with mv:=mv' } { f with mem:=f.mem++List.replicate x 0 } S k))
theorem A9h {E:Env} {w:World} {own:Go.Mun.Own} {c:FV} {f:Fr} {S:St} {k:Nat} (a n:Nat) (ha:a < wW) (hn:n < wW) (h:E6 E w own c f S k) (hN:E.N≤1099511627776) :
  Calls Tryz.prog 217 #[.pointer (some ⟨E.fb,0,none⟩),.agg (A3 32 a).toArray,.agg (A3 32 n).toArray] w fun e w'=>B9Z E w w' own c f S k a n e:=by
 obtain ⟨w0,e0⟩:∃ w0,w0=((w.alloc (.cells (A3 32 a).toArray 25)).alloc (.cells (A3 32 n).toArray 25)).alloc (.cells (B8 A07).toArray 239):=⟨_,rfl⟩
 have hb0:Below w.heap.size w w0:=by rw [e0];exact (((Below.refl _ _).alloc (Nat.le_refl _) _).alloc (by simp) _).alloc (by simp;omega) _
 have hs0:w0.heap.size=w.heap.size+3:=by rw [e0];simp
 have ra:w0.row? w.heap.size 0 32=some (A3 32 a):=by rw [e0,World.row?_alloc_lt _ (by simp;omega),World.row?_alloc_lt _ (by simp)];exact World.row?_alloc_at _ _ _ rfl (by simp)
 have rn:w0.row? (w.heap.size+1) 0 32=some (A3 32 n):=by rw [e0,World.row?_alloc_lt _ (by simp)];exact World.row?_alloc_at _ _ _ (by simp) (by simp)
 have hf:w0.free? (w.heap.size+1+1) 0 2=true:=by rw [e0];exact World.free?_alloc_at _ _ (by simp) (by simp [X6])
 have hfb:=h.lt
 have hmv:∀ b,c.mv.ownBlock=some b→b < w.heap.size:=B0 h.mem
 have h0:=h.below hb0
 have HO:Hid (∀ W,A0 (fun b=>b=E.fb∨c.mv.ownBlock=some b) w0 W→W.row? w.heap.size 0 32=some (A3 32 a)∧W.row? (w.heap.size+1) 0 32=some (A3 32 n)∧W.free? (w.heap.size+1+1) 0 2=true):=fun W hW =>
  ⟨by rw [hW.row? (by omega) (fun hx=>by rcases hx with h1 | h1;omega;have:=hmv _ h1;omega)];exact ra,
   by rw [hW.row? (by omega) (fun hx=>by rcases hx with h1 | h1;omega;have:=hmv _ h1;omega)];exact rn,
   by rw [hW.free? (by omega) (fun hx=>by rcases hx with h1 | h1;omega;have:=hmv _ h1;omega)];exact hf⟩
 obtain ⟨T,hT⟩:∃ T:World→Prop,T=fun W=>W.row? w.heap.size 0 32=some (A3 32 a)∧W.row? (w.heap.size+1) 0 32=some (A3 32 n):=⟨_,rfl⟩
 have HT:=hid hT
 have HTO:Hid (∀ W,A0 (fun b=>b=E.fb∨c.mv.ownBlock=some b) w0 W→T W):=fun W hW=>by rw [hT];exact ⟨(HO.out W hW).1,(HO.out W hW).2.1⟩
 have hd0:A0 (fun b=>b=E.fb∨c.mv.ownBlock=some b) w0 w0.drew:=⟨rfl,rfl,rfl,Nat.le_refl _,fun _ _ _=>rfl⟩
 have t0:T w0.drew:=HTO.out _ hd0
 have HB:=hid hb0
 have HE:=hid e0
 have HD:=hid hd0
 have H0:=hid h0
 have HG:=hid (fun W (hW:E6 E W own c f S k)=>B6r a n ha hn hW)
 have HIA:=hid (fun w=>A3g a ha w)
 have HIN:=hid (fun w=>A3g n hn w)
 have HQ:=hid (fun w=>eqW (a:=n) (b:=0) hn (by unfold wW;decide) w)
 have HFB:=hid (And.intro hfb hmv)
 have HS:=hid hs0
 have H:=hid h
 clear e0 hb0 hs0 ra rn hf hfb hmv h0 h hT hd0 ha hn
 go_enter Tryz.func217,Tryz.ntmps217
 go_wp2_with fail
 rw [← HE.out]
 refine A7 T [] (.pure 0 (.pure 1 (.pure 2 (.take 3 (.take 4 (.alt 5 (.pure 6 (.pure 7 (.pure 8 (.pure 9 (.pure 10 .fin))))) .stop)))))) (by kernel_rfl) (by kernel_rfl) ?_
 iterate 5
  first
  |refine A2 ?_ rfl (by rfl) (fun w' hs=>?_) (fun _ _ _ h=>h) ?_
   rotate_left
   ·clear hs
    go_simp
    try rfl
   simp only [Act.put,D7,D6,D5]
  |refine A9 ?_ t0 rfl (by rfl) (fun w' hs=>?_) (fun _ _ _ h=>h) ?_
   rotate_left
   ·rw [HT.out] at hs
    obtain ⟨g1,g2⟩:=hs
    go_simp
    try rfl
   simp only [Act.put,D7,D6,D5]
 refine A5 rfl (fun K hK=>?_)
 go_simp
 refine (HG.out _ (H0.out.below (Below.refl _ _).drew)).mono ?_
 rintro e w1 hg
 obtain ⟨cost,ok,rfl,ho1,hcase⟩:=hg.one
 have HO1:Hid (A0 (fun b=>b=E.fb∨c.mv.ownBlock=some b) w0 w1):=HD.out.trans ho1 (fun _ h _=>h)
 have t1:T w1:=HTO.out _ HO1.out
 have HCASE:=hid hcase
 clear hg ho1 hcase
 refine hK.out _ _ t1 ?_
 clear hK K
 iterate 5
  refine A2 ?_ rfl (by rfl) (fun w' hs=>?_) (fun _ _ _ h=>h) ?_
  rotate_left
  ·clear hs
   go_simp
   try rfl
  simp only [Act.put,D7,D6,D5]
 refine C2 ?_
 clear t0 t1
 rcases HCASE.out with ⟨rfl,hk,hbw⟩ | ⟨rfl,x,hk,mv',hfr,hmv'⟩
 ·have HK:=hid hk
  have HF1:=hid (H0.out.below ((Below.refl w0.heap.size w0).drew.trans hbw))
  clear hk hbw
  go_wp2_with fail
  refine (A2I 11 w1).mono ?_
  rintro e w2 ⟨rfl,rfl⟩
  go_wp2
  exact ⟨rfl,.inl ⟨HK.out,rfl,HF1.out⟩⟩
 ·have HK:=hid hk
  have HFR:=hid hfr
  have HSV:=hid hmv'
  clear hk hfr hmv'
  go_wp2_with fail
  refine (A2H 11 w1).mono ?_
  rintro e w2 ⟨rfl,rfl⟩
  go_wp2_with fail
  refine (A1P cost HFR.out hN).mono ?_
  intro e w3 hp
  rcases hp with ⟨hc,rfl,hfr3,ho3⟩ | ⟨hc,rfl,rfl⟩
  ·have HO3:Hid (A0 (fun b=>b=E.fb∨c.mv.ownBlock=some b) w0 w3):=HO1.out.trans ho3 (fun i h _ => .inl h)
   have r3:=HO.out w3 HO3.out
   have HC:=hid hc
   have HF3:=hid hfr3
   have HFIN:Hid (∀ W,Below w3.heap.size w3 W→∀ L,E6 E (W.setCells (w.heap.size+1+1) 0 L) own { c with mv:=mv' } { f with mem:=f.mem++List.replicate x 0,gas:=f.gas - cost } S k∧A0 (fun b=>b=E.fb∨c.mv.ownBlock=some b) w (W.setCells (w.heap.size+1+1) 0 L)):=by
    intro W hW L
    have hf:=HF3.out.below hW
    have hO:A0 (· = w.heap.size+1+1) W (W.setCells (w.heap.size+1+1) 0 L):=(A0.refl (· = w.heap.size+1+1) _).setCells (fun _=>rfl) _ _
    have hw03:A0 (fun b=>b=E.fb∨c.mv.ownBlock=some b) w w3:=(A0.mono (S:=fun _=>False) (A0.of_below_size HB.out) (fun _ (h:False)=>h.elim)).trans HO3.out (fun i h _=>h)
    have hw0:A0 (fun b=>b=E.fb∨c.mv.ownBlock=some b) w W:=A0.trans (T:=fun _=>False) hw03 (A0.of_below_size hW) (fun i (h:False) _=>h.elim)
    have ho:A0 (fun b=>b=E.fb∨c.mv.ownBlock=some b) w (W.setCells (w.heap.size+1+1) 0 L):=hw0.trans hO (fun i h hl=>by have:i=w.heap.size+1+1:=h;omega)
    have hfb:=HFB.out.1
    have hsz:=HS.out
    have hml:∀ g,mv'.ownBlock=some g→c.mv.ownBlock=some g∨w0.heap.size≤g:=HSV.out
    refine ⟨H.out.memory2 ho (by rw [hO.row? hf.lt (by omega)];exact hf.row) (by rw [hO.free? hf.lt (by omega)];exact hf.free) ?_ (fun g hg=>(hml g hg).imp id (fun h=>by omega)) hf.mbyte hf.mlen (Nat.sub_le _ _),ho⟩
    exact A0.own hf.mem hO (fun g hg hx=>by
     have:g=w.heap.size+1+1:=hx
     rcases hml g hg with h1 | h1
     ·have:=HFB.out.2 g h1;omega
     ·omega)
   obtain ⟨r31,r32,f33⟩:=r3
   have hq:=HQ.out
   have HR31:=hid r31
   have HR32:=hid r32
   have HF33:=hid f33
   clear hc hfr3 ho3 r31
   by_cases hn0:n=0
   ·have hd:decide (n=0)=true:=decide_eq_true hn0
    rw [hd] at hq
    have HN0:=hid hn0
    clear hd hn0
    go_wp2
    refine I2 B0X rfl _ rfl rfl f33 rfl ?_
    obtain ⟨q1,q2⟩:=HFIN.out w3 (Below.refl _ _) (B8 A07)
    refine .inr ⟨cost,x,mv',HK.out,.inl ⟨HC.out,?_,q1,q2,fun g hg=>(HSV.out g hg).imp id (fun h=>by have h1:w0.heap.size≤g:=h;have:=HS.out;omega)⟩⟩
    rw [HN0.out,if_pos rfl]
    rfl
   ·have hd:decide (n=0)=false:=decide_eq_false hn0
    rw [hd] at hq
    have HN0:=hid hn0
    have hle:a+n≤1048576:=by
     have e:=HK.out
     unfold K4 at e
     rw [if_neg hn0] at e
     by_cases h1:a+n≤1048576
     ·exact h1
     ·rw [if_neg h1] at e;cases e
    have ea:A4G a=some a:=if_pos (by omega)
    have en:A4G n=some n:=if_pos (by omega)
    have ra3:=HR31.out
    clear hd hn0 hle f33
    go_wp2_with fail
    refine (HIA.out w3).mono ?_
    rintro e w4 ⟨rfl,hb4⟩
    rw [ea]
    have rn4:=((C7 hb4).1 _ _ _ (World.row?_lt HR32.out)).trans HR32.out
    have HB4:=hid hb4
    clear hb4 r32 hq ra3
    go_wp2_with fail
    refine (HIN.out w4).mono ?_
    rintro e w5 ⟨rfl,hb5⟩
    rw [en]
    have HB5:=hid (HB4.out.trans (hb5.mono HB4.out.size))
    have f5:w5.free? (w.heap.size+1+1) 0 2=true:=by rw [(C7 HB5.out).2 _ _ _ (C1 HF33.out)];exact HF33.out
    have hbuild:F8 2 (N8 A07) (B8 A07) [(0,.int .i64 (a:Int)),(1,.int .i64 (n:Int))]=some [.int .i64 (a:Int),.int .i64 (n:Int)]:=rfl
    have gn:(some n).getD 0=n:=rfl
    rw [gn]
    clear hb5 rn4 ea en gn
    go_wp2
    refine I2 B0X rfl _ rfl rfl f5 rfl ?_
    obtain ⟨q1,q2⟩:=HFIN.out w5 HB5.out [.int .i64 (a:Int),.int .i64 (n:Int)]
    refine .inr ⟨cost,x,mv',HK.out,.inl ⟨HC.out,?_,q1,q2,fun g hg=>(HSV.out g hg).imp id (fun h=>by have h1:w0.heap.size≤g:=h;have:=HS.out;omega)⟩⟩
    rw [if_neg HN0.out]
  ·have HC:=hid hc
   clear hc
   go_wp2
   exact ⟨rfl,.inr ⟨cost,x,mv',HK.out,.inr ⟨HC.out,rfl,HFR.out⟩⟩⟩
end Go.Proofs.YtfflppedbopdpaaGreat
namespace Go.Proofs.YtfflppedbopdpaaGreat
open Go.RowKit Go.Mun
theorem B2Z {E:Env} {w:World} {own:Go.Mun.Own} {c:FV} {f:Fr} {S:St} {k:Nat} (p n:Nat) (hp:p≤1048576) (hn:n≤1048576) (h:E6 E w own c f S k) :
  Calls Tryz.prog 219 #[.pointer (some ⟨E.fb,0,none⟩),.agg #[.int .i64 (p:Int),.int .i64 (n:Int)]] w fun e w' => ∃ v,e = .returned v∧A3d w w' v (T9 f.mem p n):=by
 obtain ⟨w0,e0⟩:∃ w0,w0=w.alloc (.cells #[.int .i64 (p:Int),.int .i64 (n:Int)] 239):=⟨_,rfl⟩
 have hb0:Below w.heap.size w w0:=by rw [e0];exact (Below.refl _ _).alloc (Nat.le_refl _) _
 have hr:w0.row? w.heap.size 0 2=some [.int .i64 (p:Int),.int .i64 (n:Int)]:=by rw [e0];exact World.row?_alloc_at [.int .i64 (p:Int),.int .i64 (n:Int)] 239 _ rfl rfl
 have c0:w0.cell? ⟨w.heap.size,0,none⟩=some (.int .i64 (p:Int)):=World.row?_cell hr (show 0 < 2 by omega)
 have c1:w0.cell? ⟨w.heap.size,1,none⟩=some (.int .i64 (n:Int)):=by have:=World.row?_cell hr (show 1 < 2 by omega);rwa [Nat.zero_add] at this
 obtain ⟨T,hT⟩:∃ T:World→Prop,T=fun W=>W.cell? ⟨w.heap.size,0,none⟩=some (.int .i64 (p:Int))∧W.cell? ⟨w.heap.size,1,none⟩=some (.int .i64 (n:Int)):=⟨_,rfl⟩
 have HT:=hid hT
 have HTB:Hid (∀ W,Below w0.heap.size w0 W→T W):=fun W hW=>by
  rw [hT]
  have hl:=World.row?_lt hr
  exact ⟨(hW.cell (p:=⟨w.heap.size,0,none⟩) hl).trans c0,(hW.cell (p:=⟨w.heap.size,1,none⟩) hl).trans c1⟩
 have hd0:Below w0.heap.size w0 w0.drew:=(Below.refl _ _).drew
 have t0:T w0.drew:=HTB.out _ hd0
 have h0:=(h.below hb0).below hd0
 obtain ⟨ma,mc,hmv,_,hIm⟩:=G9.of_own' h0.mem
 have hcell:=B4x h0.row
 rw [hmv] at hcell
 have HG:=hid (B58 p n hp hn hcell hIm h0.mlen.1)
 have HB:=hid hb0
 have HD:=hid hd0
 have HE:=hid e0
 clear e0 hb0 hr c0 c1 hT hd0 h0 h hIm hcell hmv hp hn
 go_enter Tryz.func219,Tryz.ntmps219
 go_wp2_with fail
 rw [← HE.out]
 refine A7 T [] (.pure 0 (.pure 1 (.pure 2 (.pure 3 (.take 4 (.pure 5 (.take 6 (.alt 7 (.pure 8 .fin) .stop)))))))) (by kernel_rfl) (by kernel_rfl) ?_
 iterate 7
  first
  |refine A2 ?_ rfl (by rfl) (fun w' hs=>?_) (fun _ _ _ h=>h) ?_
   rotate_left
   ·clear hs
    go_simp
    try rfl
   simp only [Act.put,D7,D6,D5]
  |refine A9 ?_ t0 rfl (by rfl) (fun w' hs=>?_) (fun _ _ _ h=>h) ?_
   rotate_left
   ·rw [HT.out] at hs
    obtain ⟨g1,g2⟩:=hs
    go_simp
    try rfl
   simp only [Act.put,D7,D6,D5]
 refine A5 rfl (fun K hK=>?_)
 go_simp
 refine HG.out.mono ?_
 rintro e w1 ⟨v,rfl,hnb⟩
 have t1:T w1:=HTB.out _ (HD.out.trans (hnb.below.mono HD.out.size))
 have HNB:Hid (A3d w w1 v (T9 f.mem p n)):=hnb.up (HB.out.trans (HD.out.mono HB.out.size))
 clear hnb
 refine hK.out _ _ t1 ?_
 clear hK K
 refine A2 ?_ rfl (by rfl) (fun w' hs=>?_) (fun _ _ _ h=>h) ?_
 rotate_left
 ·clear hs
  go_simp
  try rfl
 simp only [Act.put,D7,D6,D5]
 refine C2 ?_
 clear t0 t1
 go_wp2
 go_ret
 exact ⟨_,rfl,HNB.out⟩
end Go.Proofs.YtfflppedbopdpaaGreat
namespace Go.Proofs.YtfflppedbopdpaaGreat
open Go.RowKit Go.Mun
def L4 (f:Fr) (S:St) (a x:Nat):Res:=match K4 f.mem.length a 1 with
 | Option.none => .stop 11 f S
 | some (cost,z)=>if cost≤f.gas then .ok { f with mem:=A0J (f.mem++List.replicate z 0) a [((x % 256:Nat):Int)],gas:=f.gas - cost } S else .stop 11 f S
theorem Y9 {l t:J1} {n:Nat} {a:Int} (h:l.drop n=a :: t):l[n]?.getD 0=a∧n < l.length∧l.drop (n+1)=t:=by
 have h1:(l.drop n)[0]? = some a:=by rw [h];rfl
 rw [List.getElem?_drop,Nat.add_zero] at h1
 have h2:n < l.length:=by
  rcases Nat.lt_or_ge n l.length with h2 | h2
  ·exact h2
  ·rw [List.drop_eq_nil_of_le h2] at h;cases h
 refine ⟨by rw [h1];rfl,h2,?_⟩
 rw [← List.drop_drop,h];rfl
theorem Y6 {step:Fr→St→Res} {k:Nat} {f f':Fr} {S S':St} (h:step f S = .ok f' S') (he:f.ended=false) (hn:f.next < f.code.length):U8 step (k+1) f S=U8 step k f' S':=by
 rw [U8,if_neg (by rw [he];rintro (h | h);exact absurd h (by simp);omega),h]
end Go.Proofs.YtfflppedbopdpaaGreat
namespace Go.Proofs.YtfflppedbopdpaaGreat
open Go.RowKit Go.Mun
theorem B1e (n a b c d:Nat) (h0:lim n 0=a) (h1:lim n 1=b) (h2:lim n 2=c) (h3:lim n 3=d):Q4 n = [.int .u64 (a:Int),.int .u64 (b:Int),.int .u64 (c:Int),.int .u64 (d:Int)]:=by
 subst h0 h1 h2 h3;rfl
theorem B2A (m:Nat) (h:m < 18446744073709551616):Q4 m = [.int .u64 (m:Int),.int .u64 0,.int .u64 0,.int .u64 0]:=by
 refine B1e m m 0 0 0 ?_ ?_ ?_ ?_ <;> unfold lim <;> omega
theorem B53 (m n:Nat) (h:n=m+115792089237316195423570985008687907853269984665640564039439137263839420088320) (hm:m < 18446744073709551616) :
  Q4 n = [.int .u64 (m:Int),.int .u64 18446744073709551615,.int .u64 18446744073709551615,.int .u64 18446744073709551615]:=by
 refine B1e n m 18446744073709551615 18446744073709551615 18446744073709551615 ?_ ?_ ?_ ?_ <;> unfold lim <;> omega
theorem A9f {P:Program} {ty:TypeId} (ρ:Operand→Value) (dst:Option Tmp) (parts:List (Nat × Operand)) (t:TypeId) (pos:String) (after:Array Edge) (gd:Option (Nat × Bool)) (w:World):(execOp ρ ⟨dst,.build ty parts.toArray,t,pos,after,gd⟩).run P w=E7 (Z1 P ty (parts.map fun p=>(p.1,ρ p.2)) w):=by
 unfold execOp Z1
 simp only [Sem.run_bind,List.map_toArray]
 cases (Instr.build ty (parts.map fun p=>(p.1,ρ p.2)).toArray).run P w <;> rfl
theorem B8s (ρ:Operand→Value) (dst:Option Tmp) (x:Operand) (t:TypeId) (pos:String) (after:Array Edge) (gd:Option (Nat × Bool)) (w:World):(execOp ρ ⟨dst,.build 215 #[(0,x)],t,pos,after,gd⟩).run Tryz.prog w=E7 (Z1 Tryz.prog 215 [(0,ρ x)] w):=A9f ρ dst [(0,x)] t pos after gd w
theorem B8r (ρ:Operand→Value) (dst:Option Tmp) (x x1 x2 x3:Operand) (t:TypeId) (pos:String) (after:Array Edge) (gd:Option (Nat × Bool)) (w:World):(execOp ρ ⟨dst,.build 215 #[(0,x),(1,x1),(2,x2),(3,x3)],t,pos,after,gd⟩).run Tryz.prog w=E7 (Z1 Tryz.prog 215 [(0,ρ x),(1,ρ x1),(2,ρ x2),(3,ρ x3)] w):=A9f ρ dst [(0,x),(1,x1),(2,x2),(3,x3)] t pos after gd w
attribute [local go_sem ↓] B8s B8r
theorem B29 (m:Nat) (h:m < 18446744073709551616) (w:World):Z1 Tryz.prog 215 [(0,.int .u64 (m:Int))] w = .ok (.agg (Q4 m).toArray) w:=by
 rw [B2A m h];kernel_rfl
theorem B28 (m n:Nat) (h:n=m+115792089237316195423570985008687907853269984665640564039439137263839420088320) (hm:m < 18446744073709551616) (w:World) :
  Z1 Tryz.prog 215 [(0,.int .u64 (m:Int)),(1,.int .u64 18446744073709551615),(2,.int .u64 18446744073709551615),(3,.int .u64 18446744073709551615)] w = .ok (.agg (Q4 n).toArray) w:=by
 rw [B53 m n h hm];kernel_rfl
theorem B5j (n:Int) (hn : -9223372036854775808≤n) (hn':n≤9223372036854775807) (w:World) :
  Calls Tryz.prog 213 #[.int .i64 n] w fun e w'=>e = .returned (.agg (A3 32 (ofW n)).toArray)∧Below w.heap.size w w':=by
 obtain ⟨w0,e0⟩:∃ w0,w0=(w.alloc (.cells (J4 32).toArray 25)).alloc (.cells (U7 4).toArray 215):=⟨_,rfl⟩
 have hb0:Below w.heap.size w w0:=by rw [e0];exact ((Below.refl _ _).alloc (Nat.le_refl _) _).alloc (by simp) _
 have f0:w0.free? w.heap.size 0 32=true:=by rw [e0];simp [go_sem]
 have hz:Arr w0 (w.heap.size+1) 4 (U7 4):=by
  rw [e0];have:=Arr.new (w.alloc (.cells (J4 32).toArray 25)) 4 (U7 4) 215 rfl
  simpa using this
 have HE:=hid e0
 have HB:=hid hb0
 have HF:=hid f0
 obtain ⟨m,hm⟩:∃ m:Nat,IntKind.u64.wrap n=(m:Int):=⟨(IntKind.u64.wrap n).toNat,by rw [IntKind.wrap_u64];omega⟩
 have hml:m < 18446744073709551616:=by rw [IntKind.wrap_u64] at hm;omega
 have kb:=B29 m hml
 by_cases h:n < 0
 ·obtain ⟨M,hM⟩:∃ M:Nat,M=ofW n:=⟨_,rfl⟩
  have hMm:M=m+115792089237316195423570985008687907853269984665640564039439137263839420088320:=by
   rw [IntKind.wrap_u64] at hm;rw [hM];unfold ofW;omega
  have kb2:=B28 m M hMm hml
  have hok:=A0k m
  have hz2:Arr (w0.setCells (w.heap.size+1) 0 (Q4 m)) (w.heap.size+1) 4 (Q4 m):=hz.setCells _ (A0k m)
  have f1:=hz.free
  have f2:=hz2.free
  have hz3:Arr ((w0.setCells (w.heap.size+1) 0 (Q4 m)).setCells (w.heap.size+1) 0 (Q4 M)) (w.heap.size+1) 4 (Q4 M):=hz2.setCells _ (A0k M)
  have r3:=hz3.row
  have hok2:=A0k M
  rw [← hM]
  have HN:=hid hMm
  clear hMm hM hb0 f0 hz hz2 hz3
  rw [e0] at f1 f2 r3
  clear e0
  go_enter Tryz.func213,Tryz.ntmps213
  go_wp2_with fail
  refine (A3y M _).mono ?_
  rintro e w1 ⟨rfl,hb⟩
  rw [← HE.out] at hb
  have hw:Below w.heap.size w ((w0.setCells (w.heap.size+1) 0 (Q4 m)).setCells (w.heap.size+1) 0 (Q4 M)):=(HB.out.setCells (by omega) _ _).setCells (by omega) _ _
  have f5:((w0.setCells (w.heap.size+1) 0 (Q4 m)).setCells (w.heap.size+1) 0 (Q4 M)).free? w.heap.size 0 32=true:=by
   have ho:A0 (· = w.heap.size+1) w0 ((w0.setCells (w.heap.size+1) 0 (Q4 m)).setCells (w.heap.size+1) 0 (Q4 M)):=((A0.refl (· = w.heap.size+1) _).setCells (fun _=>rfl) _ _).setCells (fun _=>rfl) _ _
   rw [ho.free? (C1 HF.out) (by omega)];exact HF.out
  have f6:w1.free? w.heap.size 0 32=true:=by rw [(C7 hb).2 _ _ _ (C1 f5)];exact f5
  have hbe:=D2 32 M
  have HBX:=hid (hw.trans (hb.mono hw.size))
  clear hb hw f5 r3 f1 f2
  go_wp2
  exact I2 A28 rfl _ rfl rfl f6 hbe ⟨rfl,HBX.out.setCells (by omega) _ _⟩
 ·have hMm:ofW n=m:=by
   rw [IntKind.wrap_u64] at hm;unfold ofW;omega
  have hok:=A0k m
  have hz2:Arr (w0.setCells (w.heap.size+1) 0 (Q4 m)) (w.heap.size+1) 4 (Q4 m):=hz.setCells _ (A0k m)
  have f1:=hz.free
  have r3:=hz2.row
  rw [hMm]
  clear hMm hb0 f0 hz hz2
  rw [e0] at f1 r3
  clear e0
  go_enter Tryz.func213,Tryz.ntmps213
  go_wp2_with fail
  refine (A3y m _).mono ?_
  rintro e w1 ⟨rfl,hb⟩
  rw [← HE.out] at hb
  have hw:Below w.heap.size w (w0.setCells (w.heap.size+1) 0 (Q4 m)):=HB.out.setCells (by omega) _ _
  have f5:(w0.setCells (w.heap.size+1) 0 (Q4 m)).free? w.heap.size 0 32=true:=by
   have ho:A0 (· = w.heap.size+1) w0 (w0.setCells (w.heap.size+1) 0 (Q4 m)):=(A0.refl (· = w.heap.size+1) _).setCells (fun _=>rfl) _ _
   rw [ho.free? (C1 HF.out) (by omega)];exact HF.out
  have f6:w1.free? w.heap.size 0 32=true:=by rw [(C7 hb).2 _ _ _ (C1 f5)];exact f5
  have hbe:=D2 32 m
  have HBX:=hid (hw.trans (hb.mono hw.size))
  clear hb hw f5 r3 f1
  go_wp2
  exact I2 A28 rfl _ rfl rfl f6 hbe ⟨rfl,HBX.out.setCells (by omega) _ _⟩
end Go.Proofs.YtfflppedbopdpaaGreat
namespace Go.Proofs.YtfflppedbopdpaaGreat
open Go.RowKit Go.Mun
theorem A8z (b o j:Nat) (hj:j < 32) (w:World):(Instr.sliceAt 25 (.pointer (some ⟨b,o,none⟩)) (some (.int .i64 (j:Int))) none none).run Tryz.prog w = .ok (.slice (some ⟨b,o+j,none⟩) (32 - j) (32 - j)) w:=by
 have hl:Tryz.prog.arrayLen 25=32:=by kernel_rfl
 have he:Tryz.prog.elem 25=5:=by kernel_rfl
 have hs:(sizeOf 5).run Tryz.prog w = .ok 1 w:=by kernel_rfl
 rw [run_sliceAt_array_l w 25 ⟨b,o,none⟩ (by rw [hl,he];exact Tryz.underlying25) .i64 (j:Int) (by omega) (by rw [hl];omega),he,hs,hl]
 simp only [Result.andThen,slicedAt,Int.toNat_natCast,Nat.mul_one]
 rw [if_neg (by omega),U9 rfl]
theorem A5D {E:Env} {v0 wa w1:World} {own:Go.Mun.Own} {c:FV} {f:Fr} {S:St} {k mb gs t:Nat} {m':J1} {mv':Value} {z:Array Value} (h0:E6 E v0 own c f S k) (ea:wa=v0.alloc (.cells z t)) (hmb:mb=v0.heap.size)
  (h1:E6 E w1 own { c with mv:=mv' } { f with mem:=m',gas:=gs } S k) (ho:A0 (fun b=>b=E.fb∨c.mv.ownBlock=some b) wa w1) (hmv:∀ g,mv'.ownBlock=some g→c.mv.ownBlock=some g∨wa.heap.size≤g) (hgs:gs≤f.gas) (L:List Value) :
  E6 E (w1.setCells mb 0 L) own { c with mv:=mv' } { f with mem:=m',gas:=gs } S k:=by
 have hb:Below v0.heap.size v0 wa:=by rw [ea];exact (Below.refl _ _).alloc (Nat.le_refl _) _
 have hsz:wa.heap.size=v0.heap.size+1:=by rw [ea];simp
 have hO:A0 (· = mb) w1 (w1.setCells mb 0 L):=(A0.refl (· = mb) _).setCells (fun _=>rfl) _ _
 have hlt:=h0.lt
 have hml:=B0 h0.mem
 have h01:A0 (fun b=>b=E.fb∨c.mv.ownBlock=some b) v0 w1:=(A0.mono (S:=fun _=>False) (A0.of_below_size hb) (fun _ (h:False)=>h.elim)).trans ho (fun i h _=>h)
 have ho2:A0 (fun b=>b=E.fb∨c.mv.ownBlock=some b) v0 (w1.setCells mb 0 L):=h01.trans hO (fun i h hl=>by have:i=mb:=h;omega)
 refine h0.memory2 ho2 (by rw [hO.row? h1.lt (by omega)];exact h1.row) (by rw [hO.free? h1.lt (by omega)];exact h1.free) ?_ (fun g hg=>(hmv g hg).imp id (fun h=>by omega)) h1.mbyte h1.mlen hgs
 exact A0.own h1.mem hO (fun g hg hx=>by
  have:g=mb:=hx
  rcases hmv g hg with h2 | h2
  ·have:=hml g h2;omega
  ·omega)
def A1D (g a x:Nat) (W:World):Prop:=W.row? g 0 32=some (A3 32 a)∧W.row? g 32 32=some (A3 32 x)
theorem A1D.next {g a x:Nat} {W W':World} (h:A1D g a x W) (hb:Below W.heap.size W W'):A1D g a x W':=
 ⟨((C7 hb).1 _ _ _ (World.row?_lt h.1)).trans h.1,((C7 hb).1 _ _ _ (World.row?_lt h.2)).trans h.2⟩
theorem A1D.only {g a x:Nat} {W W':World} {R:Nat→Prop} (h:A1D g a x W) (ho:A0 R W W') (hR:¬ R g):A1D g a x W':=
 ⟨by rw [ho.row? (World.row?_lt h.1) hR];exact h.1,by rw [ho.row? (World.row?_lt h.2) hR];exact h.2⟩
theorem A1D.lt {g a x:Nat} {W:World} (h:A1D g a x W):g < W.heap.size:=World.row?_lt h.1
theorem A1D.last {g a x:Nat} {W:World} (h:A1D g a x W):G9 W .u8 (some ⟨g,63,none⟩) 1 [((x % 256:Nat):Int)]:=by
 have h1:=World.row?_cell h.2 (i:=31) (by omega)
 rw [B41 x 31 (by omega)] at h1
 refine ⟨fun _=>⟨g,63,rfl,fun i hi=>?_⟩,fun h=>(by cases h),by simp,by simp [maxLen]⟩
 have:i=0:=by simp at hi;exact hi
 subst this
 simpa using h1
theorem B1b {l:J1} {p x:Nat} (h:Byt l):Byt (A0J l p [((x % 256:Nat):Int)]):=by
 intro y hy
 unfold A0J at hy
 rcases List.mem_append.1 hy with h1 | h1
 ·exact h y (List.mem_of_mem_take h1)
 rcases List.mem_append.1 h1 with h1 | h1
 ·rw [List.mem_singleton] at h1
  have:=Nat.mod_lt x (show 0 < 256 by decide)
  omega
 ·exact h y (List.mem_of_mem_drop h1)
theorem B0v {E:Env} {w:World} {own:Go.Mun.Own} {c:FV} {f:Fr} {S:St} {n:Nat} {v:Value} (a x:Nat) (h:E6 E w own c f S n) (hN:E.N≤1099511627776) (hw:Wds E.w0.heap.size w v [a,x]) (hgf:∀ g,v.ownBlock=some g→g≠E.fb∧c.mv.ownBlock≠some g) (ha:a < wW) :
  Calls Tryz.prog 140 #[.pointer (some ⟨E.fb,0,none⟩),v] w (A1E E (L4 f S a x)):=by
 obtain ⟨g,cc,rfl,hgb,hgl,hc1,hc2,hrow⟩:=hw.at (by simp)
 have hg0:=hrow 0 (by simp)
 have hg1:=hrow 1 (by simp)
 simp only [Nat.zero_mul,Nat.one_mul,List.getElem?_cons_zero,List.getElem?_cons_succ,Option.getD_some] at hg0 hg1
 have HGN:=hid (hgf g rfl)
 have HGR:Hid (∀ W W',A1D g a x W→A0 (fun b=>b=E.fb∨c.mv.ownBlock=some b) W W'→A1D g a x W'):=fun W W' h ho=>h.only ho (fun hh=>hh.elim HGN.out.1 HGN.out.2)
 obtain ⟨T,hT⟩:∃ T:World→Prop,T=A1D g a x:=⟨_,rfl⟩
 have HT:=hid hT
 have H0:=hid (h.below (Below.refl _ _).drew)
 have t0:T w.drew:=by rw [hT];exact A1D.next ⟨hg0,hg1⟩ (Below.refl _ _).drew
 have o1:ofW 1=1:=by kernel_rfl
 have O1:=hid (fun w=>B5j 1 (by decide) (by decide) w)
 rw [o1] at O1
 have HG:=hid (fun W (hW:E6 E W own c f S n)=>A9h a 1 ha (by decide) hW hN)
 have H:=hid h
 have hcx:([a,x]:List Nat).length=2:=rfl
 rw [hcx]
 have he1:(if (1:Nat)=0 then 0 else a)=a:=if_neg (by decide)
 have hzl:=X6
 clear hw hrow hgb hgl hc1 hc2 hgf hg0 hg1 hT hcx h o1 ha
 go_enter Tryz.func140,Tryz.ntmps140
 go_wp2_with fail
 refine A7 T [7] (.pure 0 (.pure 1 (.pure 2 (.take 3 (.alt 4 (.alt 5 (.alt 6 (.alt 7 .fin .stop) .stop) (.alt 6 (.alt 5 (.alt 7 .fin .stop) .stop) .stop)) (.alt 6 (.alt 4 (.alt 5 (.alt 7 .fin .stop) .stop) .stop) .stop)))))) (by kernel_rfl) (by kernel_rfl) ?_
 generalize w.drew=v0 at *
 iterate 4
  first
  |refine A2 ?_ rfl (by rfl) (fun w' hs=>?_) (fun _ _ _ h=>h) ?_
   rotate_left
   ·clear hs
    go_simp
    try rfl
   simp only [Act.put,D7,D6,D5]
  |refine A9 ?_ t0 rfl (by rfl) (fun w' hs=>?_) (fun _ _ _ h=>h) ?_
   rotate_left
   ·rw [HT.out] at hs
    obtain ⟨q0,q1⟩:=hs
    go_simp
    try rfl
   simp only [Act.put,D7,D6,D5]
 refine P6 rfl (fun K hK=>?_) ?_
 focus
  go_simp
  refine (O1.out _).mono ?_
  rintro e w1 ⟨rfl,hb⟩
  have H1:=hid (H0.out.below hb)
  have t1:T w1:=by have h1:=t0;rw [HT.out] at h1 ⊢;exact h1.next hb
  clear hb
  refine hK.out _ _ t1 ?_
  clear hK K
  refine P6 rfl (fun K hK=>?_) ?_
  focus
   go_simp
   refine (HG.out _ H1.out).mono ?_
   rintro e w2 (⟨hk,rfl,hfr⟩ | ⟨cost,z,mv',hk,(⟨hc,rfl,hfr,ho,hmv⟩ | ⟨hc,rfl,hfr⟩)⟩)
   ·have HW:Hid (L4 f S a x = .stop 11 f S):=by
     show _=_
     unfold L4;rw [hk]
    have HFR:=hid hfr
    clear hk hfr
    go_wp2
    refine ⟨rfl,?_⟩
    rw [HW.out]
    exact ⟨rfl,own,c,n,f,S,HFR.out,fun h=>absurd h (by decide)⟩
   rotate_left
   ·have HW:Hid (L4 f S a x = .stop 11 f S):=by
     show _=_
     unfold L4;rw [hk];simp only;rw [if_neg hc]
    have HFR:=hid hfr
    clear hk hfr hc
    go_wp2
    refine ⟨rfl,?_⟩
    rw [HW.out]
    exact ⟨rfl,own,_,n,_,S,HFR.out,fun h=>absurd h (by decide)⟩
   rw [he1]
   have HW:Hid (L4 f S a x = .ok { f with mem:=A0J (f.mem++List.replicate z 0) a [((x % 256:Nat):Int)],gas:=f.gas - cost } S):=by
    show _=_
    unfold L4;rw [hk];simp only;rw [if_pos hc]
   have HFIT:=hid ((Z5 H.out.mlen hk).2.2.2 (by decide))
   have HR:=hid hfr
   have t2:T w2:=by have h1:=t1;rw [HT.out] at h1 ⊢;exact HGR.out _ _ h1 ho
   clear hk hfr ho hmv hc
   refine hK.out _ _ t2 ?_
   clear hK K
   refine A5 rfl (fun K hK=>?_)
   go_simp
   obtain ⟨mb,em⟩:∃ mb,mb=w2.heap.size:=⟨_,rfl⟩
   obtain ⟨wa,ea⟩:∃ wa,wa=w2.alloc (.cells (B8 A07).toArray 239):=⟨_,rfl⟩
   have hb:Below w2.heap.size w2 wa:=by rw [ea];exact (Below.refl _ _).alloc (Nat.le_refl _) _
   have HFA:Hid (wa.free? mb 0 2=true):=by show _=_;rw [ea,em];exact World.free?_alloc_at _ _ rfl (by rw [X6];omega)
   have ta:T wa:=by have h1:=t2;rw [HT.out] at h1 ⊢;exact h1.next hb
   have HRA:=hid (HR.out.below hb)
   have HEA:=hid ea
   have HEM:=hid em
   rw [← em,← ea]
   clear hb ea em
   refine hK.out _ _ ta ?_
   clear hK K
   refine J8 rfl (by simp) (fun K hK=>?_)
   have ff7:=HFA.out
   go_simp
   refine hK.out _ _ ?_
   clear hK K
   refine C2 ?_
   have HMBV:Hid (¬ mv'.ownBlock=some mb):=fun e=>by
    have h1:=B0 HR.out.mem mb e;have h2:=HEM.out;omega
   have HZ:Hid (E6 E (wa.setCells mb 0 [.int .i64 (a:Int),.int .i64 1]) own { c with mv:=mv' } { f with mem:=f.mem++List.replicate z 0,gas:=f.gas - cost } S n):=by
    have hb:Below w2.heap.size w2 (wa.setCells mb 0 [.int .i64 (a:Int),.int .i64 1]):=by rw [HEA.out,HEM.out];exact ((Below.refl _ _).alloc (Nat.le_refl _) _).setCells (Nat.le_refl _) _ _
    exact HR.out.below hb
   have ff:=HFA.out
   obtain ⟨wz,ez⟩:∃ wz,wz=wa.setCells mb 0 [.int .i64 (a:Int),.int .i64 1]:=⟨_,rfl⟩
   have hzr:wz.row? mb 0 2=some [.int .i64 (a:Int),.int .i64 1]:=by rw [ez];exact B7 _ ff rfl
   have hzt:A1D g a x wz:=by have h1:=ta;rw [HT.out] at h1;rw [ez];exact h1.only (R:=(· = mb)) ((A0.refl (· = mb) _).setCells (fun _=>rfl) _ _) (fun e=>by have h1:=t2;rw [HT.out] at h1;have h2:=h1.lt;have h3:=HEM.out;omega)
   rw [← ez] at HZ
   have HEZ:=hid ez
   have HZR:=hid hzr
   have HZT:=hid hzt
   clear hzr hzt ez HT t0 t1 t2 ta
  rotate_left
  focus
   refine A5 rfl (fun K hK=>?_)
   go_simp
   obtain ⟨mb,em⟩:∃ mb,mb=w1.heap.size:=⟨_,rfl⟩
   obtain ⟨wa,ea⟩:∃ wa,wa=w1.alloc (.cells (B8 A07).toArray 239):=⟨_,rfl⟩
   have hb:Below w1.heap.size w1 wa:=by rw [ea];exact (Below.refl _ _).alloc (Nat.le_refl _) _
   have HFA:Hid (wa.free? mb 0 2=true):=by show _=_;rw [ea,em];exact World.free?_alloc_at _ _ rfl (by rw [X6];omega)
   have ta:T wa:=by have h1:=t1;rw [HT.out] at h1 ⊢;exact h1.next hb
   have HA:=hid (H1.out.below hb)
   have HEA:=hid ea
   have HEM:=hid em
   rw [← em,← ea]
   clear hb ea em
   refine hK.out _ _ ta ?_
   clear hK K
   refine A5 rfl (fun K hK=>?_)
   go_simp
   refine (HG.out _ HA.out).mono ?_
   rintro e w3 (⟨hk,rfl,hfr⟩ | ⟨cost,z,mv',hk,(⟨hc,rfl,hfr,ho,hmv⟩ | ⟨hc,rfl,hfr⟩)⟩)
   ·have HW:Hid (L4 f S a x = .stop 11 f S):=by
     show _=_
     unfold L4;rw [hk]
    have HFR:=hid hfr
    clear hk hfr
    go_wp2
    refine ⟨rfl,?_⟩
    rw [HW.out]
    exact ⟨rfl,own,c,n,f,S,HFR.out,fun h=>absurd h (by decide)⟩
   rotate_left
   ·have HW:Hid (L4 f S a x = .stop 11 f S):=by
     show _=_
     unfold L4;rw [hk];simp only;rw [if_neg hc]
    have HFR:=hid hfr
    clear hk hfr hc
    go_wp2
    refine ⟨rfl,?_⟩
    rw [HW.out]
    exact ⟨rfl,own,_,n,_,S,HFR.out,fun h=>absurd h (by decide)⟩
   rw [he1]
   have HW:Hid (L4 f S a x = .ok { f with mem:=A0J (f.mem++List.replicate z 0) a [((x % 256:Nat):Int)],gas:=f.gas - cost } S):=by
    show _=_
    unfold L4;rw [hk];simp only;rw [if_pos hc]
   have HFIT:=hid ((Z5 H.out.mlen hk).2.2.2 (by decide))
   have HR:=hid hfr
   have t3:T w3:=by have h1:=ta;rw [HT.out] at h1 ⊢;exact HGR.out _ _ h1 ho
   have HF3:Hid (w3.free? mb 0 2=true):=by
    show _=_
    rw [ho.free? (C1 HFA.out) (fun hx=>by have h1:=HEM.out;have h2:=H1.out.lt;have h3:=B0 H1.out.mem;rcases hx with hx | hx;omega;have:=h3 _ hx;omega)]
    exact HFA.out
   have HO:=hid ho
   have HMV:=hid hmv
   clear hk hfr ho hmv hc
   refine hK.out _ _ t3 ?_
   clear hK K
   refine J8 rfl (by simp) (fun K hK=>?_)
   have ff7:=HF3.out
   go_simp
   refine hK.out _ _ ?_
   clear hK K
   refine C2 ?_
   have HMBV:Hid (¬ mv'.ownBlock=some mb):=fun e=>by
    have h1:=HEM.out;have h3:=H1.out;have h5:wa.heap.size=w1.heap.size+1:=by rw [HEA.out];simp
    rcases HMV.out mb e with h2 | h2
    ·have:=B0 h3.mem mb h2;omega
    ·omega
   have HZ:Hid (E6 E (w3.setCells mb 0 [.int .i64 (a:Int),.int .i64 1]) own { c with mv:=mv' } { f with mem:=f.mem++List.replicate z 0,gas:=f.gas - cost } S n):=
    A5D H1.out HEA.out HEM.out HR.out HO.out HMV.out (Nat.sub_le _ _) _
   have ff:=HF3.out
   obtain ⟨wz,ez⟩:∃ wz,wz=w3.setCells mb 0 [.int .i64 (a:Int),.int .i64 1]:=⟨_,rfl⟩
   have hzr:wz.row? mb 0 2=some [.int .i64 (a:Int),.int .i64 1]:=by rw [ez];exact B7 _ ff rfl
   have hzt:A1D g a x wz:=by have h1:=t3;rw [HT.out] at h1;rw [ez];exact h1.only (R:=(· = mb)) ((A0.refl (· = mb) _).setCells (fun _=>rfl) _ _) (fun e=>by have h1:=t1;rw [HT.out] at h1;have h2:=h1.lt;have h3:=HEM.out;omega)
   rw [← ez] at HZ
   have HEZ:=hid ez
   have HZR:=hid hzr
   have HZT:=hid hzt
   clear hzr hzt ez HT t0 t1 ta t3
 rotate_left 2
 focus
  refine A5 rfl (fun K hK=>?_)
  go_simp
  obtain ⟨mb,em⟩:∃ mb,mb=v0.heap.size:=⟨_,rfl⟩
  obtain ⟨wa,ea⟩:∃ wa,wa=v0.alloc (.cells (B8 A07).toArray 239):=⟨_,rfl⟩
  have hb:Below v0.heap.size v0 wa:=by rw [ea];exact (Below.refl _ _).alloc (Nat.le_refl _) _
  have HFA:Hid (wa.free? mb 0 2=true):=by show _=_;rw [ea,em];exact World.free?_alloc_at _ _ rfl (by rw [X6];omega)
  have ta:T wa:=by have h1:=t0;rw [HT.out] at h1 ⊢;exact h1.next hb
  have HA:=hid (H0.out.below hb)
  have HEA:=hid ea
  have HEM:=hid em
  rw [← em,← ea]
  clear hb ea em
  refine hK.out _ _ ta ?_
  clear hK K
  refine A5 rfl (fun K hK=>?_)
  go_simp
  refine (O1.out _).mono ?_
  rintro e w2 ⟨rfl,hb⟩
  have H2:=hid (HA.out.below hb)
  have t2:T w2:=by have h1:=ta;rw [HT.out] at h1 ⊢;exact h1.next hb
  have HF2:Hid (w2.free? mb 0 2=true):=by show _=_;rw [(C7 hb).2 _ _ _ (C1 HFA.out)];exact HFA.out
  have HB4:=hid hb
  clear hb
  refine hK.out _ _ t2 ?_
  clear hK K
  refine A5 rfl (fun K hK=>?_)
  go_simp
  refine (HG.out _ H2.out).mono ?_
  rintro e w3 (⟨hk,rfl,hfr⟩ | ⟨cost,z,mv',hk,(⟨hc,rfl,hfr,ho,hmv⟩ | ⟨hc,rfl,hfr⟩)⟩)
  ·have HW:Hid (L4 f S a x = .stop 11 f S):=by
    show _=_
    unfold L4;rw [hk]
   have HFR:=hid hfr
   clear hk hfr
   go_wp2
   refine ⟨rfl,?_⟩
   rw [HW.out]
   exact ⟨rfl,own,c,n,f,S,HFR.out,fun h=>absurd h (by decide)⟩
  rotate_left
  ·have HW:Hid (L4 f S a x = .stop 11 f S):=by
    show _=_
    unfold L4;rw [hk];simp only;rw [if_neg hc]
   have HFR:=hid hfr
   clear hk hfr hc
   go_wp2
   refine ⟨rfl,?_⟩
   rw [HW.out]
   exact ⟨rfl,own,_,n,_,S,HFR.out,fun h=>absurd h (by decide)⟩
  rw [he1]
  have HW:Hid (L4 f S a x = .ok { f with mem:=A0J (f.mem++List.replicate z 0) a [((x % 256:Nat):Int)],gas:=f.gas - cost } S):=by
   show _=_
   unfold L4;rw [hk];simp only;rw [if_pos hc]
  have HFIT:=hid ((Z5 H.out.mlen hk).2.2.2 (by decide))
  have HR:=hid hfr
  have t3:T w3:=by have h1:=t2;rw [HT.out] at h1 ⊢;exact HGR.out _ _ h1 ho
  have HF3:Hid (w3.free? mb 0 2=true):=by
   show _=_
   rw [ho.free? (C1 HF2.out) (fun hx=>by have h1:=HEM.out;have h2:=H0.out.lt;have h3:=B0 H0.out.mem;rcases hx with hx | hx;omega;have:=h3 _ hx;omega)]
   exact HF2.out
  have HO:=hid ho
  have HMV:=hid hmv
  clear hk hfr ho hmv hc
  refine hK.out _ _ t3 ?_
  clear hK K
  refine J8 rfl (by simp) (fun K hK=>?_)
  have ff7:=HF3.out
  go_simp
  refine hK.out _ _ ?_
  clear hK K
  refine C2 ?_
  have HMBV:Hid (¬ mv'.ownBlock=some mb):=fun e=>by
   have h1:=HEM.out;have h3:=H0.out;have h5:wa.heap.size=v0.heap.size+1:=by rw [HEA.out];simp
   rcases HMV.out mb e with h2 | h2
   ·have:=B0 h3.mem mb h2;omega
   ·have h4:=HB4.out.size;omega
  have HZ:Hid (E6 E (w3.setCells mb 0 [.int .i64 (a:Int),.int .i64 1]) own { c with mv:=mv' } { f with mem:=f.mem++List.replicate z 0,gas:=f.gas - cost } S n):=
   A5D H0.out HEA.out HEM.out HR.out ((A0.mono (S:=fun _=>False) (A0.of_below_size HB4.out) (fun _ (h:False)=>h.elim)).trans HO.out (fun i h _=>h)) (fun g hg=>(HMV.out g hg).imp id (fun h=>Nat.le_trans HB4.out.size h)) (Nat.sub_le _ _) _
  have ff:=HF3.out
  obtain ⟨wz,ez⟩:∃ wz,wz=w3.setCells mb 0 [.int .i64 (a:Int),.int .i64 1]:=⟨_,rfl⟩
  have hzr:wz.row? mb 0 2=some [.int .i64 (a:Int),.int .i64 1]:=by rw [ez];exact B7 _ ff rfl
  have hzt:A1D g a x wz:=by have h1:=t3;rw [HT.out] at h1;rw [ez];exact h1.only (R:=(· = mb)) ((A0.refl (· = mb) _).setCells (fun _=>rfl) _ _) (fun e=>by have h1:=t0;rw [HT.out] at h1;have h2:=h1.lt;have h3:=HEM.out;omega)
  rw [← ez] at HZ
  have HEZ:=hid ez
  have HZR:=hid hzr
  have HZT:=hid hzt
  clear hzr hzt ez HT t0 ta t2 t3
 all_goals
  obtain ⟨T,hT⟩:∃ T:World→Prop,T=fun W=>W.cell? ⟨mb,0,none⟩=some (.int .i64 (a:Int)):=⟨_,rfl⟩
  have HT:=hid hT
  have tz:T wz.drew:=by rw [hT];exact World.row?_cell HZR.out (show 0 < 2 by omega)
  have hs63:∀ w',(Instr.sliceAt 25 (.pointer (some ⟨g,32,none⟩)) (some (.int .i64 31)) none none).run Tryz.prog w' = .ok (.slice (some ⟨g,63,none⟩) 1 1) w':=fun w'=>A8z g 32 31 (by omega) w'
  clear hT
  have HZD:=hid (HZ.out.below (Below.refl _ _).drew)
  have HZTD:=hid (HZT.out.next (Below.refl _ _).drew)
  have HPUT:=hid (B57 (x:=[((x % 256:Nat):Int)]) a (B4x HZD.out.row) HZD.out.mem HZD.out.mlen.1 rfl HZTD.out.last (by have:=HFIT.out;simpa using this))
  go_wp2_with fail
  rw [← HEZ.out]
  clear ff
  refine A7 T [] (.pure 0 (.pure 1 (.pure 2 (.pure 3 (.take 4 (.pure 5 (.pure 6 (.pure 7 (.alt 8 .fin .stop))))))))) (by kernel_rfl) (by kernel_rfl) ?_
  iterate 8
   first
   |refine A2 ?_ rfl (by rfl) (fun w' hs=>?_) (fun _ _ _ h=>h) ?_
    rotate_left
    ·clear hs
     go_simp
     try rfl
    simp only [Act.put,D7,D6,D5]
   |refine A9 ?_ tz rfl (by rfl) (fun w' hs=>?_) (fun _ _ _ h=>h) ?_
    rotate_left
    ·rw [HT.out] at hs
     go_simp
     try rfl
    simp only [Act.put,D7,D6,D5]
  refine A5 rfl (fun K hK=>?_)
  go_simp
  refine HPUT.out.mono ?_
  rintro e w9 ⟨rfl,ho9,hr9⟩
  have HFIN:=hid (HZD.out.memput (m':=A0J (f.mem++List.replicate z 0) a [((x % 256:Nat):Int)]) ho9 (by rw [A2m _ _ _ (by have:=HFIT.out;simpa using this)];exact hr9) (B1b HZD.out.mbyte) (by rw [A2m _ _ _ (by have:=HFIT.out;simpa using this)];exact HZD.out.mlen))
  have t9:T w9:=by have h1:=tz;rw [HT.out] at h1 ⊢;exact (ho9.cell? (b:=mb) (o:=0) (World.block_lt_of_cell? _ _ h1) (fun hx=>HMBV.out hx)).trans h1
  clear ho9 hr9
  refine hK.out _ _ t9 ?_
  clear hK K
  refine C2 ?_
  go_wp2
  go_end0
  rw [HW.out]
  exact ⟨rfl,own,_,n,HFIN.out⟩
end Go.Proofs.YtfflppedbopdpaaGreat
namespace Go.Proofs.YtfflppedbopdpaaGreat
open Go.RowKit Go.Mun
theorem B4g {E:Env} {w w':World} {own:Go.Mun.Own} {c:FV} {f:Fr} {S:St} {n:Nat} {v:Value} {l:J1} (h:E6 E w own c f S n) (hv:A3d w w' v l) (hb:Byt l) (hn:l.length≤1099511627776):J3 w' (mn E own c) v l:=by
 obtain ⟨⟨a,cc,h1,h2,h3⟩,_⟩:=hv
 refine ⟨⟨a,cc,h1,h2,fun _ p hp hx=>?_⟩,hb,hn⟩
 have hge:=h3 p hp
 obtain ⟨cs,hl1,_⟩:=h.logs
 have hlt:=h.lt
 have hbase:=h.base
 rcases hx with ((hx | hx) | hx | hx | hx | hx) | hx
 ·have:=h.st.lows _ hx;omega
 ·have:=(h.keep _ hx).1;omega
 ·omega
 ·have:=B0 h.stk _ hx;omega
 ·have:=B0 h.mem _ hx;omega
 ·have:=B0 hl1 _ hx;omega
 ·omega
theorem B0n {L a n cost x:Nat} (h:K4 L a n=some (cost,x)):(if n=0 then 0 else a)≤1048576∧n≤1048576:=by
 unfold K4 at h
 by_cases hn:n=0
 ·rw [if_pos hn];omega
 ·rw [if_neg hn] at h ⊢
  by_cases h1:a+n≤1048576
  ·omega
  ·rw [if_neg h1] at h;cases h
end Go.Proofs.YtfflppedbopdpaaGreat
