/- A part of the proof of EvmLogs: ZLgw. -/
import Derived.Test.YtfflppedbopdpaaGreatZKs
import Derived.Test.YtfflppedbopdpaaGreatZGw1
import Derived.Test.YtfflppedbopdpaaGreatZRi2
import Derived.Test.YtfflppedbopdpaaGreatZRef2
import Derived.Test.YtfflppedbopdpaaGreatZRf9
import Derived.Test.YtfflppedbopdpaaGreatZRlp2
import Derived.Test.YtfflppedbopdpaaGreatZEv16
set_option linter.unusedVariables false
set_option maxRecDepth 1000000
set_option maxHeartbeats 8000000
set_option linter.unusedSimpArgs false
namespace Go.Proofs.YtfflppedbopdpaaGreat
open Go.RowKit Go.Mun

structure A50 (w wr:World) (d:Value) (l:J1):Prop where
 below:Below w.heap.size w wr
 own:wr.ownsRow w.heap.size 5 1 d l.length (K2 l)
theorem A4J (a b:J1):K2 (a++b)=K2 a++K2 b:=by simp [K2]
theorem A50.form {w wr:World} {d:Value} {l:J1} (h:A50 w wr d l):∃ a c,d = .slice a l.length c:=E9 h.own
theorem A50.ro {w wr:World} {d:Value} {l:J1} (h:A50 w wr d l) (hb:Byt l) (hn:l.length≤1000):J3 wr (fun _=>False) d l:=by
 obtain ⟨a,c,e,_,hI⟩:=G9.of_own' h.own
 exact ⟨⟨a,c,e,hI,fun _ _ _ h=>h⟩,hb,by omega⟩
theorem A8A (b:Nat) (w:World):(Instr.sliceAt 25 (.pointer (some ⟨b,0,none⟩)) none none none).run Tryz.prog w = .ok (.slice (some ⟨b,0,none⟩) 32 32) w:=by kernel_rfl
theorem A2n (j A B:Nat):(A0x (Z7 j A B)).length=5+33*j:=by
 simp only [A0x,List.length_cons,A4m _ (A25 j A B),A1s];omega
theorem A70 (n A B:Nat) (hn:n < 256) (hA:A < wW) (hB:B < wW) (fl:Bool) (w:World) :
  Calls Tryz.prog 7 #[.int .u8 (n:Int),.agg (A3 32 A).toArray,.agg (A3 32 B).toArray,.bool fl] w fun e w'=>e = .returned (.bool true)∧Below w.heap.size w w':=by
 obtain ⟨k,hk⟩:∃ k,k=n % 5:=⟨_,rfl⟩
 have hk4:k≤4:=by omega
 have hrem:Int.tmod (n:Int) 5=(k:Int):=by rw [Int.tmod_eq_emod_of_nonneg (by omega),hk];omega
 have hwn:IntKind.i64.wrap (n:Int)=(n:Int):=U6 _ (by omega) (by omega)
 have hwk:IntKind.i64.wrap (k:Int)=(k:Int):=U6 _ (by omega) (by omega)
 obtain ⟨w0,e0⟩:∃ w0,w0=(w.alloc (.cells (A3 32 A).toArray 25)).alloc (.cells (A3 32 B).toArray 25):=⟨_,rfl⟩
 have hb0:Below w.heap.size w w0:=by rw [e0];exact ((Below.refl _ _).alloc (Nat.le_refl _) _).alloc (by simp) _
 have ra:w0.row? w.heap.size 0 32=some (A3 32 A):=by rw [e0,World.row?_alloc_lt _ (by simp)];exact World.row?_alloc_at _ _ _ rfl (by simp)
 have rb:w0.row? (w.heap.size+1) 0 32=some (A3 32 B):=by rw [e0];exact World.row?_alloc_at _ _ _ (by simp) (by simp)
 have HLA:=hid (fun w=>B0g w)
 have HE0:=hid e0
 have HB0:=hid hb0
 have HRA:=hid ra
 have HRB:=hid rb
 have HK4:=hid hk4
 have HAB:=hid (And.intro hA hB)
 clear hk e0 hb0 ra rb hn hA hB
 go_enter Tryz.func7,Tryz.ntmps7
 go_wp2_with fail
 rw [← HE0.out]
 refine (HLA.out _).mono ?_
 rintro e w1 ⟨rfl,hb1⟩
 have HB1:=hid (HB0.out.trans (hb1.mono HB0.out.size))
 have HRA1:Hid (w1.row? w.heap.size 0 32=some (A3 32 A)):=((C7 hb1).1 _ _ _ (World.row?_lt HRA.out)).trans HRA.out
 have HRB1:Hid (w1.row? (w.heap.size+1) 0 32=some (A3 32 B)):=((C7 hb1).1 _ _ _ (World.row?_lt HRB.out)).trans HRB.out
 clear hb1
 have hcod:=World.ownsRow_lit (e:=5) (size:=1) w1 #[Value.int .u8 96,.int .u8 170,.int .u8 96,.int .u8 0,.int .u8 83] 5 (Nat.le_refl _) (by decide) rfl
 have HCOD:Hid (A50 w1 (w1.alloc (.cells #[Value.int .u8 96,.int .u8 170,.int .u8 96,.int .u8 0,.int .u8 83] 5)) (.slice (some ⟨w1.heap.size,0,none⟩) 5 5) (A0x (Z7 0 A B))):=⟨(Below.refl _ _).alloc (Nat.le_refl _) _,hcod⟩
 clear hcod
 go_wp2_with fail
 go_loopw [11,12] (fun d i wr => ∃ j:Nat,j≤k∧i = .int .i64 (j:Int)∧A50 w1 wr d (A0x (Z7 j A B))) (fun _ i _=>k - (intOf i).toNat)
 case atStart=>exact ⟨0,by omega,rfl,HCOD.out⟩
 case round =>
  obtain ⟨j,hj,rfl,hr⟩:=hrel
  clear hrem hwn
  by_cases hlt:j < k
  ·have hlt2:(j:Int) < (k:Int):=by omega
   have ra:wr.row? w.heap.size 0 32=some (A3 32 A):=((C7 hr.below).1 _ _ _ (World.row?_lt HRA1.out)).trans HRA1.out
   have rb:wr.row? (w.heap.size+1) 0 32=some (A3 32 B):=((C7 hr.below).1 _ _ _ (World.row?_lt HRB1.out)).trans HRB1.out
   obtain ⟨ca,cc,rfl⟩:=hr.form
   have HR:=hid hr
   obtain ⟨wa,ea⟩:∃ wa,wa=(wr.alloc (.cells (J4 32).toArray 25)).setCells wr.heap.size 0 (A3 32 A):=⟨_,rfl⟩
   have z32:=zU8_len 32
   have fa0:=Y7 wr (J4 32) 25 32 z32
   have hba:Below wr.heap.size wr wa:=by rw [ea];exact ((Below.refl _ _).alloc (Nat.le_refl _) _).setCells (Nat.le_refl _) _ _
   have fa1:wa.free? wr.heap.size 0 32=true:=by rw [ea,World.free?_setCells'];exact fa0
   have rb1:wa.row? (w.heap.size+1) 0 32=some (A3 32 B):=((C7 hba).1 _ _ _ (World.row?_lt rb)).trans rb
   have rx1:wa.row? wr.heap.size 0 32=some (A3 32 A):=by rw [ea];exact B7 _ fa0 (by simp)
   have HRX1:=hid rx1
   have HFA1:=hid fa1
   have HBA:=hid hba
   have HEA:=hid ea
   have fa1':=fa1
   have rb1':=rb1
   rw [ea] at fa1' rb1'
   have HJL:=hid hj
   have l1:=C4 32 A
   have l2:=C4 32 B
   clear hr hba rx1 ea hj fa1 rb1
   by_cases hj2:j % 2=1
   focus
    have hrj:Int.tmod (j:Int) 2=1:=by rw [Int.tmod_eq_emod_of_nonneg (by omega)];omega
    have hpk:B=(if j % 2=1 then B else A):=(if_pos hj2).symm
    have hX:=hid hpk
    clear hj2 hpk
    go_wp2_with fail
    rw [← HEA.out]
    obtain ⟨wq,eq⟩:∃ wq,wq=wa.setCells wr.heap.size 0 (A3 32 B):=⟨_,rfl⟩
    have hq:Hid (Below wr.heap.size wr wq):=by show Below _ _ _;rw [eq];exact HBA.out.setCells (Nat.le_refl _) _ _
    have hrx:Hid (wq.row? wr.heap.size 0 32=some (A3 32 B)):=by show _=_;rw [eq];exact B7 _ HFA1.out (D2 32 B)
    rw [← eq]
    clear eq
    clear hrj ra rb fa0 fa1' rb1' HRX1 HFA1 HEA HBA z32 l1 l2
    have HL5:Hid ((A0x (Z7 j A B)).length=5+33*j):=A2n j A B
    generalize hln:(A0x (Z7 j A B)).length=ln at *
    have HLN:=hid hln
    have HBQ:=hq
    have HOQ:Hid (wq.drew.ownsRow 0 5 1 (.slice ca ln cc) ln (K2 (A0x (Z7 j A B)))):=by
     have h1:=HR.out.own
     rw [hln] at h1
     exact D9 (C3 (C3 h1 hq.out) (Below.refl _ _).drew) (Nat.zero_le _)
    have HRX:Hid (wq.drew.row? wr.heap.size 0 32=some (A3 32 B)):=hrx.out
    have HLQ:Hid (∀ g,(Value.slice ca ln cc).ownBlock=some g→w1.heap.size≤g∧g < wq.heap.size):=fun g hg=>⟨E4 HR.out.own g hg,B0 HOQ.out g hg⟩
    have HSW:Hid (w1.heap.size≤wr.heap.size):=HR.out.below.size
    have HBD:Hid (Below w1.heap.size w1 wq.drew):=HR.out.below.trans ((hq.out.trans ((Below.refl _ _).drew.mono hq.out.size)).mono HR.out.below.size)
    have HGX:Hid (¬ (Value.slice ca ln cc).ownBlock=some wr.heap.size):=fun e=>by have:=B0 HR.out.own wr.heap.size e;omega
    have hs25:∀ w',(Instr.sliceAt 25 (.pointer (some ⟨wr.heap.size,0,none⟩)) none none none).run Tryz.prog w' = .ok (.slice (some ⟨wr.heap.size,0,none⟩) 32 32) w':=fun w'=>A8A wr.heap.size w'
    obtain ⟨T,hT⟩:∃ T:World→Prop,T=fun _=>True:=⟨_,rfl⟩
    have HT:=hid hT
    have t0:T wq.drew:=by rw [hT];trivial
    clear hT hln hq hrx
    go_wp2_with fail
    refine A7 T [] (.pure 0 (.pure 3 (.alt 1 (.alt 2 (.alt 4 (.pure 5 .fin) .stop) .stop) .stop))) (by kernel_rfl) (by kernel_rfl) ?_
    generalize wq.drew=v9 at *
    iterate 2
     refine A2 ?_ rfl (by rfl) (fun w' hs=>?_) (fun _ _ _ h=>h) ?_
     rotate_left
     ·clear hs
      go_simp
      try rfl
     simp only [Act.put,D7,D6,D5]
    refine A5 rfl (fun K hK=>?_)
    go_simp
    obtain ⟨w5,e5⟩:∃ w5,w5=v9.alloc (.cells #[Value.int .u8 127] 5):=⟨_,rfl⟩
    have hb5:Below v9.heap.size v9 w5:=by rw [e5];exact (Below.refl _ _).alloc (Nat.le_refl _) _
    have t1:T w5:=by rw [HT.out];trivial
    rw [← e5]
    have HE5:=hid e5
    have HB5:=hid hb5
    clear e5 hb5
    refine hK.out _ _ t1 ?_
    clear hK K
    refine A5 rfl (fun K hK=>?_)
    have HSRC:Hid (G8 w5 (some ⟨v9.heap.size,0,none⟩) 1 1 1 [.int .u8 127]):=by show G8 _ _ _ _ _ _;rw [HE5.out];exact G8.new v9 (m:=1) (size:=1) (cs:=[Value.int .u8 127]) 5 (0,0) (by decide) 1
    refine K9 A0n rfl _ _ rfl (C3 HOQ.out HB5.out) rfl HSRC.out rfl (by have:=HL5.out;have:=HJL.out;have:=HK4.out;unfold maxLen;omega) (by have:=HL5.out;have:=HJL.out;have:=HK4.out;omega) ?_
    intro v2 w6 hv6 ho6 hn6
    obtain ⟨xa,xc,rfl⟩:=E9 hv6
    have ho96:A0 (fun b=>(Value.slice ca ln cc).ownBlock=some b) v9 w6:=(A0.mono (S:=fun _=>False) (A0.of_below_size HB5.out) (fun _ (h:False)=>h.elim)).trans ho6 (fun i hi _=>hi)
    have HO6:=hid hv6
    have HRX6:Hid (w6.row? wr.heap.size 0 32=some (A3 32 B)):=(ho96.row? (World.row?_lt HRX.out) HGX.out).trans HRX.out
    have HOA:=hid ho96
    have HN6:Hid (∀ g,(Value.slice xa (ln+1) xc).ownBlock=some g→w1.heap.size≤g∧g≠wr.heap.size):=fun g hg=>by
     rcases hn6 g hg with h | h
     ·exact ⟨(HLQ.out g h).1,fun e=>HGX.out (by rw [← e];exact h)⟩
     ·have h1:=HB5.out.size;have h2:=World.row?_lt HRX.out;have h3:=HSW.out;exact ⟨by omega,by omega⟩
    have t2:T w6:=by rw [HT.out];trivial
    clear hv6 ho6 hn6 ho96
    refine hK.out _ _ t2 ?_
    clear hK K
    refine A5 rfl (fun K hK=>?_)
    have hsx:G8 w6 (some ⟨wr.heap.size,0,none⟩) 32 32 1 (A3 32 B):=G8.row (by rw [Nat.mul_one];exact HRX6.out) (by rw [Nat.mul_one];exact D2 32 B) _
    have HSX:=hid hsx
    clear hsx
    refine K9 A0n rfl _ _ rfl HO6.out rfl HSX.out rfl (by have:=HL5.out;have:=HJL.out;have:=HK4.out;unfold maxLen;omega) (by have:=HL5.out;have:=HJL.out;have:=HK4.out;omega) ?_
    intro v3 w7 hv7 ho7 hn7
    have HC7:Hid (A50 w1 w7 v3 (A0x (Z7 (j+1) A B))):=by
     have e1:K2 (A0x (Z7 (j+1) A B))=K2 (A0x (Z7 j A B))++[Value.int .u8 127]++A3 32 B:=by rw [A8h,A6S,← hX.out,A4J,List.append_assoc];rfl
     have e2:(A0x (Z7 (j+1) A B)).length=ln+1+32:=by rw [A2n,HL5.out];omega
     have hb6:Below w1.heap.size w1 w6:=HBD.out.trans (HOA.out.below HBD.out.size (fun i hi=>(HLQ.out i hi).1))
     have hb7:Below w1.heap.size w6 w7:=ho7.below hb6.size (fun i hi=>(HN6.out i hi).1)
     refine ⟨hb6.trans hb7,?_⟩
     rw [e1,e2]
     refine M7 hv7 (fun g hg=>?_)
     rcases hn7 g hg with h | h
     ·exact (HN6.out g h).1
     ·exact Nat.le_trans hb6.size h
   rotate_left
   focus
    have hrj:Int.tmod (j:Int) 2=0:=by rw [Int.tmod_eq_emod_of_nonneg (by omega)];omega
    have hpk:A=(if j % 2=1 then B else A):=(if_neg hj2).symm
    have hX:=hid hpk
    clear hj2 hpk
    go_wp2_with fail
    rw [← HEA.out]
    obtain ⟨wq,eq⟩:∃ wq,wq=wa:=⟨_,rfl⟩
    have hq:Hid (Below wr.heap.size wr wq):=by show Below _ _ _;rw [eq];exact HBA.out
    have hrx:Hid (wq.row? wr.heap.size 0 32=some (A3 32 A)):=by show _=_;rw [eq];exact HRX1.out
    rw [← eq]
    clear eq
    clear hrj ra rb fa0 fa1' rb1' HRX1 HFA1 HEA HBA z32 l1 l2
    have HL5:Hid ((A0x (Z7 j A B)).length=5+33*j):=A2n j A B
    generalize hln:(A0x (Z7 j A B)).length=ln at *
    have HLN:=hid hln
    have HBQ:=hq
    have HOQ:Hid (wq.drew.ownsRow 0 5 1 (.slice ca ln cc) ln (K2 (A0x (Z7 j A B)))):=by
     have h1:=HR.out.own
     rw [hln] at h1
     exact D9 (C3 (C3 h1 hq.out) (Below.refl _ _).drew) (Nat.zero_le _)
    have HRX:Hid (wq.drew.row? wr.heap.size 0 32=some (A3 32 A)):=hrx.out
    have HLQ:Hid (∀ g,(Value.slice ca ln cc).ownBlock=some g→w1.heap.size≤g∧g < wq.heap.size):=fun g hg=>⟨E4 HR.out.own g hg,B0 HOQ.out g hg⟩
    have HSW:Hid (w1.heap.size≤wr.heap.size):=HR.out.below.size
    have HBD:Hid (Below w1.heap.size w1 wq.drew):=HR.out.below.trans ((hq.out.trans ((Below.refl _ _).drew.mono hq.out.size)).mono HR.out.below.size)
    have HGX:Hid (¬ (Value.slice ca ln cc).ownBlock=some wr.heap.size):=fun e=>by have:=B0 HR.out.own wr.heap.size e;omega
    have hs25:∀ w',(Instr.sliceAt 25 (.pointer (some ⟨wr.heap.size,0,none⟩)) none none none).run Tryz.prog w' = .ok (.slice (some ⟨wr.heap.size,0,none⟩) 32 32) w':=fun w'=>A8A wr.heap.size w'
    obtain ⟨T,hT⟩:∃ T:World→Prop,T=fun _=>True:=⟨_,rfl⟩
    have HT:=hid hT
    have t0:T wq.drew:=by rw [hT];trivial
    clear hT hln hq hrx
    go_wp2_with fail
    refine A7 T [] (.pure 0 (.pure 3 (.alt 1 (.alt 2 (.alt 4 (.pure 5 .fin) .stop) .stop) .stop))) (by kernel_rfl) (by kernel_rfl) ?_
    generalize wq.drew=v9 at *
    iterate 2
     refine A2 ?_ rfl (by rfl) (fun w' hs=>?_) (fun _ _ _ h=>h) ?_
     rotate_left
     ·clear hs
      go_simp
      try rfl
     simp only [Act.put,D7,D6,D5]
    refine A5 rfl (fun K hK=>?_)
    go_simp
    obtain ⟨w5,e5⟩:∃ w5,w5=v9.alloc (.cells #[Value.int .u8 127] 5):=⟨_,rfl⟩
    have hb5:Below v9.heap.size v9 w5:=by rw [e5];exact (Below.refl _ _).alloc (Nat.le_refl _) _
    have t1:T w5:=by rw [HT.out];trivial
    rw [← e5]
    have HE5:=hid e5
    have HB5:=hid hb5
    clear e5 hb5
    refine hK.out _ _ t1 ?_
    clear hK K
    refine A5 rfl (fun K hK=>?_)
    have HSRC:Hid (G8 w5 (some ⟨v9.heap.size,0,none⟩) 1 1 1 [.int .u8 127]):=by show G8 _ _ _ _ _ _;rw [HE5.out];exact G8.new v9 (m:=1) (size:=1) (cs:=[Value.int .u8 127]) 5 (0,0) (by decide) 1
    refine K9 A0n rfl _ _ rfl (C3 HOQ.out HB5.out) rfl HSRC.out rfl (by have:=HL5.out;have:=HJL.out;have:=HK4.out;unfold maxLen;omega) (by have:=HL5.out;have:=HJL.out;have:=HK4.out;omega) ?_
    intro v2 w6 hv6 ho6 hn6
    obtain ⟨xa,xc,rfl⟩:=E9 hv6
    have ho96:A0 (fun b=>(Value.slice ca ln cc).ownBlock=some b) v9 w6:=(A0.mono (S:=fun _=>False) (A0.of_below_size HB5.out) (fun _ (h:False)=>h.elim)).trans ho6 (fun i hi _=>hi)
    have HO6:=hid hv6
    have HRX6:Hid (w6.row? wr.heap.size 0 32=some (A3 32 A)):=(ho96.row? (World.row?_lt HRX.out) HGX.out).trans HRX.out
    have HOA:=hid ho96
    have HN6:Hid (∀ g,(Value.slice xa (ln+1) xc).ownBlock=some g→w1.heap.size≤g∧g≠wr.heap.size):=fun g hg=>by
     rcases hn6 g hg with h | h
     ·exact ⟨(HLQ.out g h).1,fun e=>HGX.out (by rw [← e];exact h)⟩
     ·have h1:=HB5.out.size;have h2:=World.row?_lt HRX.out;have h3:=HSW.out;exact ⟨by omega,by omega⟩
    have t2:T w6:=by rw [HT.out];trivial
    clear hv6 ho6 hn6 ho96
    refine hK.out _ _ t2 ?_
    clear hK K
    refine A5 rfl (fun K hK=>?_)
    have hsx:G8 w6 (some ⟨wr.heap.size,0,none⟩) 32 32 1 (A3 32 A):=G8.row (by rw [Nat.mul_one];exact HRX6.out) (by rw [Nat.mul_one];exact D2 32 A) _
    have HSX:=hid hsx
    clear hsx
    refine K9 A0n rfl _ _ rfl HO6.out rfl HSX.out rfl (by have:=HL5.out;have:=HJL.out;have:=HK4.out;unfold maxLen;omega) (by have:=HL5.out;have:=HJL.out;have:=HK4.out;omega) ?_
    intro v3 w7 hv7 ho7 hn7
    have HC7:Hid (A50 w1 w7 v3 (A0x (Z7 (j+1) A B))):=by
     have e1:K2 (A0x (Z7 (j+1) A B))=K2 (A0x (Z7 j A B))++[Value.int .u8 127]++A3 32 A:=by rw [A8h,A6S,← hX.out,A4J,List.append_assoc];rfl
     have e2:(A0x (Z7 (j+1) A B)).length=ln+1+32:=by rw [A2n,HL5.out];omega
     have hb6:Below w1.heap.size w1 w6:=HBD.out.trans (HOA.out.below HBD.out.size (fun i hi=>(HLQ.out i hi).1))
     have hb7:Below w1.heap.size w6 w7:=ho7.below hb6.size (fun i hi=>(HN6.out i hi).1)
     refine ⟨hb6.trans hb7,?_⟩
     rw [e1,e2]
     refine M7 hv7 (fun g hg=>?_)
     rcases hn7 g hg with h | h
     ·exact (HN6.out g h).1
     ·exact Nat.le_trans hb6.size h
   all_goals
    have t3:T w7:=by rw [HT.out];trivial
    clear hv7 ho7 hn7
    refine hK.out _ _ t3 ?_
    clear hK K
    refine A2 ?_ rfl (by rfl) (fun w' hs=>?_) (fun _ _ _ h=>h) ?_
    rotate_left
    ·clear hs
     go_simp
     try rfl
    simp only [Act.put,D7,D6,D5]
    refine C2 ?_
    go_wp2_with fail
    have hk1:IntKind.i64.wrap ((j:Int)+1)=((j+1:Nat):Int):=by rw [U6 _ (by omega) (by omega)];omega
    go_roundw
    case rel=>exact ⟨j+1,by omega,by go_num,HC7.out⟩
    case measure=>simp [intOf];omega
  ·obtain rfl:j=k:=by omega
   clear hlt hj
   have hw1:IntKind.u8.wrap (j:Int)=(j:Int):=by have:=HK4.out;rw [wr8 _ (by omega) (by omega)]
   have hw2:IntKind.u8.wrap (160+(j:Int))=160+(j:Int):=by have:=HK4.out;rw [wr8 _ (by omega) (by omega)]
   have hlt2:¬ (j:Int) < (j:Int):=by omega
   obtain ⟨ca,cc,rfl⟩:=hr.form
   have HL5:Hid ((A0x (Z7 j A B)).length=5+33*j):=A2n j A B
   have HO:=hid hr.own
   have HR:=hid hr.below
   clear hr
   go_wp2_with (at_builtin;go_must (refine M3 A0n rfl _ _ rfl HO.out rfl 10 rfl (cs:=[.int .u8 96,.int .u8 1,.int .u8 96,.int .u8 0,.int .u8 (160+(j:Int)),.int .u8 96,.int .u8 2,.int .u8 96,.int .u8 0,.int .u8 160]) rfl ?e1 ?e2 ?e3 ?e4 ?_))
   case e2=>unfold maxLen;have:=HL5.out;have:=HK4.out;omega
   case e3=>have:=HL5.out;have:=HK4.out;omega
   case e4=>exact HR.out.size
   intro v2 w2 ho2 hg2 _
   have HC1:Hid (A50 w1 w2 v2 (A0x (Z7 j A B)++[96,1,96,0,160+(j:Int),96,2,96,0,160])):=⟨HR.out.grown hg2 HR.out.size (fun k hk=>by have:=(HO.out.lt k hk).1;omega),by
    rw [List.length_append,A4J];exact ho2⟩
   clear ho2 hg2 hw1 hw2 hlt2 HO HR
   obtain ⟨xa,xc,rfl⟩:=HC1.out.form
   obtain ⟨ln,hln⟩:∃ ln,ln=(A0x (Z7 j A B)++[96,1,96,0,160+(j:Int),96,2,96,0,160]).length:=⟨_,rfl⟩
   have HLN:Hid (ln=15+33*j):=by show ln=_;rw [hln,List.length_append,HL5.out];simp;omega
   rw [← hln] at HC1 ⊢
   have HLE:=hid hln
   clear hln
   cases fl with
   | true =>
    have HO:=hid HC1.out.own
    rw [← HLE.out] at HO
    have HR:=hid HC1.out.below
    have HL4:=hid HK4.out
    go_wp2_with (at_builtin;go_must (refine M3 A0n rfl _ _ rfl HO.out rfl 1 rfl (cs:=[.int .u8 254]) rfl ?f1 ?f2 ?f3 ?f4 ?_))
    case f1=>simp [go_sem]
    case f2=>unfold maxLen;have:=HLN.out;have:=HL4.out;omega
    case f3=>have:=HLN.out;have:=HL4.out;omega
    case f4=>exact HR.out.size
    intro v3 w2' ho3 hg3 _
    have HC2:Hid (A50 w1 w2' v3 (A0l (Z7 j A B) true)):=⟨HR.out.grown hg3 HR.out.size (fun k hk=>by have:=(HO.out.lt k hk).1;omega),by
     rw [A5v,A1s,if_pos rfl,List.length_append,A4J,← HLE.out];exact ho3⟩
    clear ho3 hg3 HC1 HO HR
    have hwl:(Z7 j A B).length≤4:=by rw [A1s];exact HK4.out
    have hro:=HC2.out.ro (A82 (B0T j A B) hwl _) (by rw [A5w _ _ (A25 j A B),A1s];have:=HK4.out;split <;> omega)
    have HBO:Hid (∀ W gb,(∀ i (hi:i < (A2h (A0l (Z7 j A B) true) []).length),A6t W gb (0+i*55) (A2h (A0l (Z7 j A B) true) [])[i])→Calls Tryz.prog 15 #[.slice (some ⟨gb,0,none⟩) 3 3,.agg (B8 (I0 (A76 30000) (.slice none 0 0))).toArray] W (A52 W (A5F true (Z7 j A B)) (erG true) 0 [] (A1e true (Z7 j A B)) (stE true (Z7 j A B)))):=fun W gb h =>
     A6Y (c:=3) (l:=(A2h (A0l (Z7 j A B) true) [])) (m:=A76 30000) (ad:=0) (A6W _ _) (A4p hwl) (by show 3≤100;decide) h (by intro x hx;simp [A2h] at hx;rcases hx with rfl | rfl | rfl <;> first | decide | exact (by decide:(0:Int)≤0)) (V1 _ _) (by decide) (A4g _ _ (A25 j A B) hwl) (A4f _ _ (A25 j A B) hwl) (A6G _ _)
    have HASK:=hid (fun w=>B1l 30000 w)
    have HB2:Hid (Below w.heap.size w w2'):=HB1.out.trans (HC2.out.below.mono HB1.out.size)
    have HBC:=hid HC2.out.below
    clear HC2 hwl
    go_wp2_with fail
    refine (B1k hro (V1 _ _)).mono ?_
    rintro e w3 ⟨gb,rfl,hb3,hac⟩
    have HB3:Hid (Below w.heap.size w w3):=HB2.out.trans (hb3.mono HB2.out.size)
    have HBC3:Hid (Below w1.heap.size w1 w3):=HBC.out.trans (hb3.mono HBC.out.size)
    have HAC:=hid hac
    clear hb3 hac hro
    go_wp2_with fail
    refine (HASK.out _).mono ?_
    rintro e w4 ⟨rfl,hb4⟩
    have HB4:Hid (Below w.heap.size w w4):=HB3.out.trans (hb4.mono HB3.out.size)
    have HBC4:Hid (Below w1.heap.size w1 w4):=HBC3.out.trans (hb4.mono HBC3.out.size)
    have HAC4:=hid (fun i hi=>(HAC.out i hi).below hb4)
    clear hb4
    go_wp2_with fail
    refine (HBO.out w4 gb HAC4.out).mono ?_
    rintro e w5 ⟨oa,oc,la,lc,sb,own,n5,rfl,hb5,_,_,hlr⟩
    obtain ⟨O,hO⟩:∃ O,O=A4E (A5F true (Z7 j A B)) (erG true) 0 oa ([]:J1).length oc la (A1e true (Z7 j A B)).length lc:=⟨_,rfl⟩
    have lO:O.length=24:=by rw [hO];exact O7 _ _ _
    have kO:Q3 24 O=true:=by rw [hO];exact N7 _ _ _ _ _ _ _
    rw [← hO]
    have HOO:=hid hO
    have HB5:Hid (Below w.heap.size w w5):=HB4.out.trans (hb5.mono HB4.out.size)
    have HBC5:Hid (Below w1.heap.size w1 w5):=HBC4.out.trans (hb5.mono HBC4.out.size)
    have HLR:=hid hlr
    have f5:=Y7 w5 (B8 L3) 41 24 K1
    obtain ⟨x1,x2,x3⟩:=B6H w5 O kO
    have HX1:=hid x1
    have HX2:=hid x2
    rw [hO] at x2
    have u1:=A0i x2
    have u3:=W6 x2
    simp only [Nat.zero_add] at u1 u3
    rw [← hO] at u1 u3
    clear hb5 hlr hO x1 x2 x3 HBO HASK
    go_wp2_with (go_at_call 17;refine (A7V 12 _).mono ?_;rintro e y ⟨rfl,rfl⟩)
    go_ret
    exact ⟨rfl,HB5.out.trans (HX1.out.mono HB5.out.size)⟩
   | false =>
    have HC2:Hid (A50 w1 w2 (.slice xa ln xc) (A0l (Z7 j A B) false)):=by
     have h1:=HC1.out
     rw [A5v,A1s,if_neg (by decide),List.append_nil];exact h1
    clear HC1
    have hwl:(Z7 j A B).length≤4:=by rw [A1s];exact HK4.out
    have hro:=HC2.out.ro (A82 (B0T j A B) hwl _) (by rw [A5w _ _ (A25 j A B),A1s];have:=HK4.out;split <;> omega)
    have HBO:Hid (∀ W gb,(∀ i (hi:i < (A2h (A0l (Z7 j A B) false) []).length),A6t W gb (0+i*55) (A2h (A0l (Z7 j A B) false) [])[i])→Calls Tryz.prog 15 #[.slice (some ⟨gb,0,none⟩) 3 3,.agg (B8 (I0 (A76 30000) (.slice none 0 0))).toArray] W (A52 W (A5F false (Z7 j A B)) (erG false) 0 [] (A1e false (Z7 j A B)) (stE false (Z7 j A B)))):=fun W gb h =>
     A6Y (c:=3) (l:=(A2h (A0l (Z7 j A B) false) [])) (m:=A76 30000) (ad:=0) (A6W _ _) (A4p hwl) (by show 3≤100;decide) h (by intro x hx;simp [A2h] at hx;rcases hx with rfl | rfl | rfl <;> first | decide | exact (by decide:(0:Int)≤0)) (V1 _ _) (by decide) (A4g _ _ (A25 j A B) hwl) (A4f _ _ (A25 j A B) hwl) (A6G _ _)
    have HASK:=hid (fun w=>B1l 30000 w)
    have HB2:Hid (Below w.heap.size w w2):=HB1.out.trans (HC2.out.below.mono HB1.out.size)
    have HBC:=hid HC2.out.below
    clear HC2 hwl
    go_wp2_with fail
    refine (B1k hro (V1 _ _)).mono ?_
    rintro e w3 ⟨gb,rfl,hb3,hac⟩
    have HB3:Hid (Below w.heap.size w w3):=HB2.out.trans (hb3.mono HB2.out.size)
    have HBC3:Hid (Below w1.heap.size w1 w3):=HBC.out.trans (hb3.mono HBC.out.size)
    have HAC:=hid hac
    clear hb3 hac hro
    go_wp2_with fail
    refine (HASK.out _).mono ?_
    rintro e w4 ⟨rfl,hb4⟩
    have HB4:Hid (Below w.heap.size w w4):=HB3.out.trans (hb4.mono HB3.out.size)
    have HBC4:Hid (Below w1.heap.size w1 w4):=HBC3.out.trans (hb4.mono HBC3.out.size)
    have HAC4:=hid (fun i hi=>(HAC.out i hi).below hb4)
    clear hb4
    go_wp2_with fail
    refine (HBO.out w4 gb HAC4.out).mono ?_
    rintro e w5 ⟨oa,oc,la,lc,sb,own,n5,rfl,hb5,_,_,hlr⟩
    obtain ⟨O,hO⟩:∃ O,O=A4E (A5F false (Z7 j A B)) (erG false) 0 oa ([]:J1).length oc la (A1e false (Z7 j A B)).length lc:=⟨_,rfl⟩
    have lO:O.length=24:=by rw [hO];exact O7 _ _ _
    have kO:Q3 24 O=true:=by rw [hO];exact N7 _ _ _ _ _ _ _
    rw [← hO]
    have HOO:=hid hO
    have HB5:Hid (Below w.heap.size w w5):=HB4.out.trans (hb5.mono HB4.out.size)
    have HBC5:Hid (Below w1.heap.size w1 w5):=HBC4.out.trans (hb5.mono HBC4.out.size)
    have HLR:=hid hlr
    have f5:=Y7 w5 (B8 L3) 41 24 K1
    obtain ⟨x1,x2,x3⟩:=B6H w5 O kO
    have HX1:=hid x1
    have HX2:=hid x2
    rw [hO] at x2
    have u1:=A0i x2
    have u3:=W6 x2
    simp only [Nat.zero_add] at u1 u3
    rw [← hO] at u1 u3
    clear hb5 hlr hO x1 x2 x3 HBO HASK
    obtain ⟨lb,lo,ta,tc,da,dc,hla,g0,_,_,_⟩:=A0M.at (lc:=lc) (n:=2) (l:=A3C 1 (Z7 j A B)) HLR.out (i:=0) (by show 0 < 2;decide)
    subst hla
    obtain ⟨lb',lo',ta1,tc1,da1,dc1,hla,g1,_,_,_⟩:=A0M.at (lc:=lc) (n:=2) (l:=A3C 1 (Z7 j A B)) HLR.out (i:=1) (by show 1 < 2;decide)
    cases hla
    have h0:=g0.below HX1.out
    have h1:=g1.below HX1.out
    have t0c:=h0.topics
    have d0c:=h0.data
    have t1c:=h1.topics
    have d1c:=h1.data
    have s0:=D8 (P:=Tryz.prog) Tryz.underlying26 Tryz.underlying5 Tryz.underlying9 rfl h0.ints
    have s1:=D8 (P:=Tryz.prog) Tryz.underlying26 Tryz.underlying5 Tryz.underlying9 rfl h1.ints
    have lt0:((A3C 1 (Z7 j A B))[0]'(by show 0 < 2;decide)).topics.length=j:=by show ((Z7 j A B).map beN).reverse.length=j;simp [A1s]
    rw [lt0] at t0c
    change _=some (Value.slice da 1 dc) at d0c
    change _=some (Value.slice ta1 0 tc1) at t1c
    change _=some (Value.slice da1 2 dc1) at d1c
    change (convert 26 9 (.slice da 1 dc)).run Tryz.prog _ = .ok (.string ⟨#[170]⟩) _ at s0
    change (convert 26 9 (.slice da1 2 dc1)).run Tryz.prog _ = .ok (.string ⟨#[170,0]⟩) _ at s1
    simp only [Nat.zero_mul,Nat.one_mul,Nat.add_zero] at t0c d0c t1c d1c
    have hkk:((j:Int) != (j:Int))=false:=by simp
    clear h0 h1 lt0
    go_wp2_with fail
    obtain ⟨w6,e6⟩:∃ w6,w6=(w5.alloc (.cells (B8 L3).toArray 41)).setCells w5.heap.size 0 O:=⟨_,rfl⟩
    obtain ⟨rb,erb⟩:∃ rb,rb=w5.heap.size:=⟨_,rfl⟩
    rw [← e6]
    rw [← erb]
    have HX16:Hid (Below w5.heap.size w5 w6):=by show Below _ _ _;rw [e6];exact HX1.out
    have hx26:w6.row? rb 0 24=some O:=by rw [e6,erb];exact HX2.out
    rw [HOO.out] at hx26
    have HX26:=hid hx26
    have G0:=hid (g0.below HX16.out)
    have G1:=hid (g1.below HX16.out)
    have HB6:Hid (Below w.heap.size w w6):=HB5.out.trans (HX16.out.mono HB5.out.size)
    have HA6:Hid (w6.row? w.heap.size 0 32=some (A3 32 A)∧w6.row? (w.heap.size+1) 0 32=some (A3 32 B)):=by
     have hb:Below w1.heap.size w1 w6:=HBC5.out.trans (HX16.out.mono HBC5.out.size)
     exact ⟨((C7 hb).1 _ _ _ (World.row?_lt HRA1.out)).trans HRA1.out,((C7 hb).1 _ _ _ (World.row?_lt HRB1.out)).trans HRB1.out⟩
    clear t0c d0c t1c d1c s0 s1 hkk f5 u1 u3 e6 hx26 g0 g1 lO kO erb
    go_loopw [17] (fun ix wz => ∃ i:Nat,i≤j∧ix = .int .i64 (i:Int)∧Below w6.heap.size w6 wz) (fun ix _=>j - (intOf ix).toNat)
    case atStart=>exact ⟨0,by omega,rfl,Below.refl _ _⟩
    case round =>
     obtain ⟨i,hi,rfl,hbz⟩:=hrel
     by_cases hlt:i < j
     ·have hlt2:(i:Int) < (j:Int):=by omega
      have HJ4:=hid HK4.out
      have hw1:IntKind.i64.wrap ((j:Int) - 1)=(j:Int) - 1:=U6 _ (by omega) (by omega)
      have hw2:IntKind.i64.wrap ((j:Int) - 1 - (i:Int))=(j:Int) - 1 - (i:Int):=U6 _ (by omega) (by omega)
      have ra:wr.row? w.heap.size 0 32=some (A3 32 A):=((C7 hbz).1 _ _ _ (World.row?_lt HA6.out.1)).trans HA6.out.1
      have rb5:wr.row? (w.heap.size+1) 0 32=some (A3 32 B):=((C7 hbz).1 _ _ _ (World.row?_lt HA6.out.2)).trans HA6.out.2
      obtain ⟨wa,ea⟩:∃ wa,wa=(wr.alloc (.cells (J4 32).toArray 25)).setCells wr.heap.size 0 (A3 32 A):=⟨_,rfl⟩
      have z32:=zU8_len 32
      have fa0:=Y7 wr (J4 32) 25 32 z32
      have hba:Below wr.heap.size wr wa:=by rw [ea];exact ((Below.refl _ _).alloc (Nat.le_refl _) _).setCells (Nat.le_refl _) _ _
      have fa1:wa.free? wr.heap.size 0 32=true:=by rw [ea,World.free?_setCells'];exact fa0
      have rb1:wa.row? (w.heap.size+1) 0 32=some (A3 32 B):=((C7 hba).1 _ _ _ (World.row?_lt rb5)).trans rb5
      have rx1:wa.row? wr.heap.size 0 32=some (A3 32 A):=by rw [ea];exact B7 _ fa0 (by simp)
      have HRX1:=hid rx1
      have HFA1:=hid fa1
      have HBA:=hid hba
      have HBZ:=hid hbz
      have HEA:=hid ea
      have fa1':=fa1
      have rb1':=rb1
      rw [ea] at fa1' rb1'
      have l1:=C4 32 A
      have l2:=C4 32 B
      have hti:i < (tsB j A B).reverse.length:=by rw [List.length_reverse,A7m];exact hlt
      have HTI:=hid hti
      have hval:(tsB j A B).reverse[i]'HTI.out=if (j - 1 - i) % 2=1 then B else A:=B5m hlt
      have HVAL:=hid hval
      have hiI:(i:Int) < (j:Int):=hlt2
      have HII:=hid hlt
      clear hbz hba rx1 ea hi fa1 rb1 hti hval
      by_cases hj2:(j - 1 - i) % 2=1
      focus
       have hrj:Int.tmod ((j:Int) - 1 - (i:Int)) 2=1:=by rw [Int.tmod_eq_emod_of_nonneg (by omega)];omega
       rw [if_pos hj2] at HVAL
       clear hj2
       go_wp2_with fail
       rw [← HEA.out]
       obtain ⟨wq,eq⟩:∃ wq,wq=wa.setCells wr.heap.size 0 (A3 32 B):=⟨_,rfl⟩
       have hq:Hid (Below wr.heap.size wr wq):=by show Below _ _ _;rw [eq];exact HBA.out.setCells (Nat.le_refl _) _ _
       have hrx:Hid (wq.row? wr.heap.size 0 32=some (A3 32 B)):=by show _=_;rw [eq];exact B7 _ HFA1.out (D2 32 B)
       rw [← eq]
       clear eq
       clear hrj ra rb5 fa0 fa1' rb1' HRX1 HFA1 HEA HBA z32 l1 l2 hw1 hw2
       have HB6Q:Hid (Below w6.heap.size w6 wq.drew):=HBZ.out.trans ((hq.out.trans ((Below.refl _ _).drew.mono hq.out.size)).mono HBZ.out.size)
       have g0:=G0.out.below HB6Q.out
       have gt:=g0.topics
       have hwa:=g0.words
       have hto:((A3C 1 (Z7 j A B))[0]'(by show 0 < 2;decide)).topics=(tsB j A B).reverse:=by show ((Z7 j A B).map beN).reverse=_;rw [B0U HAB.out.1 HAB.out.2]
       rw [hto] at gt hwa
       have htl:(tsB j A B).reverse.length=j:=by rw [List.length_reverse,A7m]
       rw [htl] at gt
       obtain ⟨tb,to,hta,hrt⟩:=hwa.at HTI.out
       rw [HVAL.out] at hrt
       subst hta
       have hro:wq.drew.row? rb 0 24=some (A4E (A5F false (Z7 j A B)) (erG false) 0 oa ([]:J1).length oc (some ⟨lb,lo,none⟩) (A1e false (Z7 j A B)).length lc):=((C7 HB6Q.out).1 _ _ _ (World.row?_lt HX26.out)).trans HX26.out
       have u3:=W6 hro
       simp only [Nat.zero_mul,Nat.zero_add,Nat.add_zero] at gt u3
       change _=some (Value.slice (some ⟨lb,lo,none⟩) 2 lc) at u3
       have hrx2:wq.drew.row? wr.heap.size 0 32=some (A3 32 B):=hrx.out
       have hneq:∀ w,(binOp .neq 25 (.agg (A3 32 B).toArray) (.agg (A3 32 B).toArray)).run Tryz.prog w = .ok (.bool false) w:=fun w=>by
        have:=A5o (fun d=>A7a (a:=B) (b:=B) HAB.out.2 HAB.out.2 w d)
        simpa using this
       have HNQ:=hid hneq
       obtain ⟨T,hT⟩:∃ T:World→Prop,T=fun W=>W.cell? ⟨rb,3,none⟩=some (Value.slice (some ⟨lb,lo,none⟩) 2 lc)∧W.cell? ⟨lb,lo+20,none⟩=some (Value.slice (some ⟨tb,to,none⟩) j tc)∧W.row? tb (to+i*32) 32=some (A3 32 B)∧W.row? wr.heap.size 0 32=some (A3 32 B):=⟨_,rfl⟩
      rotate_left
      focus
       have hrj:Int.tmod ((j:Int) - 1 - (i:Int)) 2=0:=by rw [Int.tmod_eq_emod_of_nonneg (by omega)];omega
       rw [if_neg hj2] at HVAL
       clear hj2
       go_wp2_with fail
       rw [← HEA.out]
       obtain ⟨wq,eq⟩:∃ wq,wq=wa:=⟨_,rfl⟩
       have hq:Hid (Below wr.heap.size wr wq):=by show Below _ _ _;rw [eq];exact HBA.out
       have hrx:Hid (wq.row? wr.heap.size 0 32=some (A3 32 A)):=by show _=_;rw [eq];exact HRX1.out
       rw [← eq]
       clear eq
       clear hrj ra rb5 fa0 fa1' rb1' HRX1 HFA1 HEA HBA z32 l1 l2 hw1 hw2
       have HB6Q:Hid (Below w6.heap.size w6 wq.drew):=HBZ.out.trans ((hq.out.trans ((Below.refl _ _).drew.mono hq.out.size)).mono HBZ.out.size)
       have g0:=G0.out.below HB6Q.out
       have gt:=g0.topics
       have hwa:=g0.words
       have hto:((A3C 1 (Z7 j A B))[0]'(by show 0 < 2;decide)).topics=(tsB j A B).reverse:=by show ((Z7 j A B).map beN).reverse=_;rw [B0U HAB.out.1 HAB.out.2]
       rw [hto] at gt hwa
       have htl:(tsB j A B).reverse.length=j:=by rw [List.length_reverse,A7m]
       rw [htl] at gt
       obtain ⟨tb,to,hta,hrt⟩:=hwa.at HTI.out
       rw [HVAL.out] at hrt
       subst hta
       have hro:wq.drew.row? rb 0 24=some (A4E (A5F false (Z7 j A B)) (erG false) 0 oa ([]:J1).length oc (some ⟨lb,lo,none⟩) (A1e false (Z7 j A B)).length lc):=((C7 HB6Q.out).1 _ _ _ (World.row?_lt HX26.out)).trans HX26.out
       have u3:=W6 hro
       simp only [Nat.zero_mul,Nat.zero_add,Nat.add_zero] at gt u3
       change _=some (Value.slice (some ⟨lb,lo,none⟩) 2 lc) at u3
       have hrx2:wq.drew.row? wr.heap.size 0 32=some (A3 32 A):=hrx.out
       have hneq:∀ w,(binOp .neq 25 (.agg (A3 32 A).toArray) (.agg (A3 32 A).toArray)).run Tryz.prog w = .ok (.bool false) w:=fun w=>by
        have:=A5o (fun d=>A7a (a:=A) (b:=A) HAB.out.1 HAB.out.1 w d)
        simpa using this
       have HNQ:=hid hneq
       obtain ⟨T,hT⟩:∃ T:World→Prop,T=fun W=>W.cell? ⟨rb,3,none⟩=some (Value.slice (some ⟨lb,lo,none⟩) 2 lc)∧W.cell? ⟨lb,lo+20,none⟩=some (Value.slice (some ⟨tb,to,none⟩) j tc)∧W.row? tb (to+i*32) 32=some (A3 32 A)∧W.row? wr.heap.size 0 32=some (A3 32 A):=⟨_,rfl⟩
      all_goals
       have HT:=hid hT
       have t0:T wq.drew:=by rw [hT];exact ⟨u3,gt,hrt,hrx2⟩
       clear hT g0 gt hwa hto htl hrt hro u3 hrx2 hneq hrx hq
       go_wp2_with fail
       refine A7 T [] (.pure 0 (.take 1 (.pure 2 (.pure 3 (.take 4 (.pure 5 (.pure 6 (.take 7 (.take 8 (.pure 9 .fin)))))))))) (by kernel_rfl) (by kernel_rfl) ?_
       iterate 9
        first
        |refine A2 ?_ rfl (by rfl) (fun w' hs=>?_) (fun _ _ _ h=>h) ?_
         rotate_left
         ·clear hs
          go_simp
          try rfl
         simp only [Act.put,D7,D6,D5]
        |refine A9 ?_ t0 rfl (by rfl) (fun w' hs=>?_) (fun _ _ _ h=>h) ?_
         rotate_left
         ·rw [HT.out] at hs
          obtain ⟨q1,q2,q3,q4⟩:=hs
          go_simp
          try rfl
         simp only [Act.put,D7,D6,D5]
       refine A2 (.bool false) rfl (by rfl) (fun w' hs=>?_) (fun _ _ _ h=>h) ?_
       ·clear hs
        exact A5J _ _ _ _ _ _ _ _ _ _ _ B64 rfl rfl (HNQ.out _)
       simp only [Act.put,D7,D6,D5]
       refine C2 ?_
       go_wp2_with fail
       have hk1:IntKind.i64.wrap ((i:Int)+1)=((i+1:Nat):Int):=by rw [U6 _ (by omega) (by omega)];omega
       go_roundw
       case rel=>exact ⟨i+1,by omega,by go_num,HB6Q.out⟩
       case measure=>simp [intOf];omega
     ·obtain rfl:i=j:=by omega
      have HB6Q:Hid (Below w6.heap.size w6 wr.drew):=hbz.trans ((Below.refl _ _).drew.mono hbz.size)
      have hlt2:¬ (i:Int) < (i:Int):=by omega
      have g0:=G0.out.below HB6Q.out
      have g1:=G1.out.below HB6Q.out
      have ga:=g0.addr
      have gt:=g1.topics
      change wr.drew.row? lb (lo+0*22) 20=some (A3 20 1) at ga
      change _=some (Value.slice ta1 0 tc1) at gt
      have hro:wr.drew.row? rb 0 24=some (A4E (A5F false (Z7 i A B)) (erG false) 0 oa ([]:J1).length oc (some ⟨lb,lo,none⟩) (A1e false (Z7 i A B)).length lc):=((C7 HB6Q.out).1 _ _ _ (World.row?_lt HX26.out)).trans HX26.out
      have u3:=W6 hro
      simp only [Nat.zero_mul,Nat.one_mul,Nat.zero_add,Nat.add_zero] at ga gt u3
      change _=some (Value.slice (some ⟨lb,lo,none⟩) 2 lc) at u3
      have HQ:Hid (∀ w,(binOp .eql 23 (.agg (A3 20 1).toArray) (.agg (A3 20 1).toArray)).run Tryz.prog w = .ok (.bool true) w):=by
       show ∀ w,_
       intro w
       have:=B0A (fun d=>B1w (a:=1) (b:=1) (by decide) (by decide) w d)
       simpa using this
      have HN1:=hid (fun w=>Y5 1 (by decide) w)
      obtain ⟨T,hT⟩:∃ T:World→Prop,T=fun W=>W.cell? ⟨rb,3,none⟩=some (Value.slice (some ⟨lb,lo,none⟩) 2 lc)∧W.cell? ⟨lb,lo+22+20,none⟩=some (Value.slice ta1 0 tc1)∧W.row? lb lo 20=some (A3 20 1):=⟨_,rfl⟩
      have HT:=hid hT
      have HTB:Hid (∀ W W',T W→Below W.heap.size W W'→T W'):=by
       show ∀ W W',T W→Below W.heap.size W W'→T W'
       rw [hT]
       exact fun W W' ⟨x1,x2,x3⟩ hb=>⟨(hb.cell (World.block_lt_of_cell? W _ x1)).trans x1,(hb.cell (World.block_lt_of_cell? W _ x2)).trans x2,((C7 hb).1 _ _ _ (World.row?_lt x3)).trans x3⟩
      have t0:T wr.drew:=by rw [hT];exact ⟨u3,gt,ga⟩
      clear hT g0 g1 ga gt hro u3 hbz
      go_wp2_with fail
      refine A7 T [] (.pure 0 (.take 1 (.pure 2 (.pure 3 (.take 4 (.alt 5 (.pure 6 (.pure 7 (.pure 8 (.take 9 (.pure 10 (.pure 11 (.take 12 (.pure 13 (.pure 14 (.pure 15 (.pure 16 .fin))))))))))) .stop)))))) (by kernel_rfl) (by kernel_rfl) ?_
      iterate 5
       first
       |refine A2 ?_ rfl (by rfl) (fun w' hs=>?_) (fun _ _ _ h=>h) ?_
        rotate_left
        ·clear hs
         go_simp
         try rfl
        simp only [Act.put,D7,D6,D5]
       |refine A9 ?_ t0 rfl (by rfl) (fun w' hs=>?_) (fun _ _ _ h=>h) ?_
        rotate_left
        ·rw [HT.out] at hs
         obtain ⟨q1,q2,q3⟩:=hs
         go_simp
         try rfl
        simp only [Act.put,D7,D6,D5]
      refine A5 rfl (fun K hK=>?_)
      go_simp
      refine (HN1.out _).mono ?_
      rintro e w7 ⟨rfl,hb7⟩
      have t1:T w7:=HTB.out _ _ t0 hb7
      have HB7:=hid hb7
      clear hb7
      refine hK.out _ _ t1 ?_
      clear hK K
      refine A2 (.bool true) rfl (by rfl) (fun w' hs=>?_) (fun _ _ _ h=>h) ?_
      ·clear hs
       exact B1v _ _ _ _ _ _ _ _ _ _ _ B4D rfl rfl (HQ.out _)
      simp only [Act.put,D7,D6,D5]
      iterate 10
       first
       |refine A2 ?_ rfl (by rfl) (fun w' hs=>?_) (fun _ _ _ h=>h) ?_
        rotate_left
        ·clear hs
         go_simp
         try rfl
        simp only [Act.put,D7,D6,D5]
       |refine A9 ?_ t1 rfl (by rfl) (fun w' hs=>?_) (fun _ _ _ h=>h) ?_
        rotate_left
        ·rw [HT.out] at hs
         obtain ⟨q1,q2,q3⟩:=hs
         go_simp
         try rfl
        simp only [Act.put,D7,D6,D5]
      refine C2 ?_
      go_wp2
      go_ret
      have h1:Below w6.heap.size w6 w7:=HB6Q.out.trans (HB7.out.mono HB6Q.out.size)
      exact ⟨rfl,HB6.out.trans (h1.mono HB6.out.size)⟩
theorem B0W (l:J1) (n:Nat) (h:Byt l) (hn:l.length=n):K2 l=A3 n (beN l):=by
 subst hn
 unfold A3
 rw [A5R l h]
 rfl
section
variable {w0:World} {own0:Go.Mun.Own} {sb rb tb:Nat} {cx:Ctx} {tab:Y2} {m:Msg} {dv d0:Value} {l0:J1} {w:World} {own:Go.Mun.Own} {S:St} {M:List (Nat × St)} {n:Nat}
end
end Go.Proofs.YtfflppedbopdpaaGreat
namespace Go.Proofs.YtfflppedbopdpaaGreat
open Go.RowKit Go.Mun
theorem A9k (a0:Int) (h0:(Lit.int .u8 a0).wf=true) (L1:List Int) (hL1:L1.length=32) (hx1:∀ x∈L1,0≤x∧x≤255) (L2:List Int) (hL2:L2.length=32) (hx2:∀ x∈L2,0≤x∧x≤255) (b:Bool) (w:World) :
  Calls Tryz.prog 7 #[.int .u8 a0,.agg (K2 L1).toArray,.agg (K2 L2).toArray,.bool b] w fun e w'=>e = .returned (.bool true)∧Below w.heap.size w w':=by
 have hu:=B6S h0
 obtain ⟨t,ht⟩:∃ t:Nat,a0=t:=⟨a0.toNat,by omega⟩
 subst ht
 have hB1:Byt L1:=fun x h=>⟨(hx1 x h).1,by have:=(hx1 x h).2;omega⟩
 have hB2:Byt L2:=fun x h=>⟨(hx2 x h).1,by have:=(hx2 x h).2;omega⟩
 rw [B0W L1 32 hB1 hL1,B0W L2 32 hB2 hL2]
 have hs1:=A37 L1 hB1
 have hs2:=A37 L2 hB2
 rw [hL1] at hs1
 rw [hL2] at hs2
 exact A70 t _ _ (by omega) (Nat.lt_of_lt_of_eq hs1 A2Z) (Nat.lt_of_lt_of_eq hs2 A2Z) b w
end Go.Proofs.YtfflppedbopdpaaGreat
