/- A part of the proof of EvmLogs: ZWrd4. -/
import Derived.Test.YtfflppedbopdpaaGreatZWrdQ
import Derived.Test.YtfflppedbopdpaaGreatZSeq
import Derived.Test.YtfflppedbopdpaaGreatZSt9
import Derived.Test.YtfflppedbopdpaaGreatZSt2
set_option linter.unusedVariables false
set_option maxRecDepth 1000000
set_option maxHeartbeats 8000000
set_option linter.unusedSimpArgs false
namespace Go.Proofs.YtfflppedbopdpaaGreat
open Go.RowKit Go.Mun

theorem _root_.Go.Mun.Arr.below {w w':World} {b n:Nat} {L:List Value} (h:Arr w b n L) (k:Below w.heap.size w w'):Arr w' b n L:=h.only (S:=fun _=>False) (A0.of_below_size k) id
structure A0d (w w0:World) (n m:Nat):Prop where
 below:Below w.heap.size w w0
 x:w0.row? w.heap.size 0 32=some (A3 32 n)
 y:w0.row? (w.heap.size+1) 0 32=some (A3 32 m)
theorem A0d.start (w:World) (n m:Nat):A0d w ((w.alloc (.cells (A3 32 n).toArray 25)).alloc (.cells (A3 32 m).toArray 25)) n m:=
 ⟨((Below.refl _ _).alloc (Nat.le_refl _) _).alloc (by simp) _,by rw [World.row?_alloc_lt _ (by simp)];exact World.row?_alloc_at _ _ _ rfl (by simp),World.row?_alloc_at _ _ _ (by simp) (by simp)⟩
theorem A0d.lt {w w0:World} {n m:Nat} (h:A0d w w0 n m):w.heap.size < w0.heap.size∧w.heap.size+1 < w0.heap.size:=⟨World.row?_lt h.x,World.row?_lt h.y⟩
theorem A0d.on {w w0 w1:World} {n m:Nat} (h:A0d w w0 n m) (hb:Below w0.heap.size w0 w1):A0d w w1 n m:=
 ⟨h.below.trans (hb.mono h.below.size),by rw [(C7 hb).1 _ _ _ h.lt.1];exact h.x,by rw [(C7 hb).1 _ _ _ h.lt.2];exact h.y⟩
theorem A0d.out {w w0 w1:World} {n m:Nat} (h:A0d w w0 n m) (ho:A0 (fun b=>w.heap.size+1 < b) w0 w1):A0d w w1 n m:=
 ⟨h.below.trans (ho.below h.below.size (fun i hi=>by omega)),by rw [ho.row? h.lt.1 (by omega)];exact h.x,by rw [ho.row? h.lt.2 (by omega)];exact h.y⟩

theorem A41 (n m:Nat) (hn:n < wW) (hm:m < wW) (w:World) :
  Calls Tryz.prog 100 #[.agg (A3 32 n).toArray,.agg (A3 32 m).toArray] w fun e w'=>e = .returned (.int .i64 (T5 n m))∧Below w.heap.size w w':=by
 obtain ⟨w0,e0⟩:∃ w0,w0=(w.alloc (.cells (A3 32 n).toArray 25)).alloc (.cells (A3 32 m).toArray 25):=⟨_,rfl⟩
 have hx:A0d w w0.drew n m:=by rw [e0];exact (A0d.start w n m).on (Below.refl _ _).drew
 have HE:=hid e0
 have hl1:(A3 32 n).length=32:=by simp
 have hl2:(A3 32 m).length=32:=by simp
 obtain ⟨T,hT⟩:∃ T:World→Prop,T=fun w'=>A0d w w' n m:=⟨_,rfl⟩
 have HT:=hid hT
 have t0:T w0.drew:=by rw [hT];exact hx
 clear e0 hx hT
 go_enter Tryz.func100,Tryz.ntmps100
 go_wp2_with fail
 rw [← HE.out]
 refine A0e T [] [(true,0),(true,2),(false,1),(false,3),(false,4),(false,5)] (by kernel_rfl) (by kernel_rfl) ?_
 refine Q9 (.agg (A3 32 n).toArray) t0 rfl (by rfl) (fun w' hs=>?_) (fun _ _ _ h=>h) ?_
 ·rw [HT.out] at hs
  have q1:=hs.x;have q2:=hs.y
  go_simp
 refine Q9 (.agg (A3 32 m).toArray) t0 rfl (by rfl) (fun w' hs=>?_) (fun _ _ _ h=>h) ?_
 ·rw [HT.out] at hs
  have q1:=hs.x;have q2:=hs.y
  go_simp
 simp only [Act.put,D7,D6,D5]
 refine P7 rfl (fun K hK=>?_)
 go_simp
 refine (V5 n hn _).mono ?_
 rintro e w1 ⟨rfl,hb⟩
 have t1:T w1:=by rw [HT.out] at t0 ⊢;exact t0.on hb
 clear hb
 refine hK.out _ _ t1 ?_
 clear hK K
 refine P7 rfl (fun K hK=>?_)
 go_simp
 refine (V5 m hm _).mono ?_
 rintro e w2 ⟨rfl,hb⟩
 have t2:T w2:=by rw [HT.out] at t1 ⊢;exact t1.on hb
 clear hb
 refine hK.out _ _ t2 ?_
 clear hK K
 refine P7 rfl (fun K hK=>?_)
 go_simp
 refine (B50 n m hn hm _).mono ?_
 rintro e w3 ⟨rfl,hb⟩
 have t3:T w3:=by rw [HT.out] at t2 ⊢;exact t2.on hb
 clear hb
 refine hK.out _ _ t3 ?_
 clear hK K
 refine P7 rfl (fun K hK=>?_)
 go_simp
 refine hK.out _ _ t3 (A2o ?_)
 clear hK K
 rw [HT.out] at t3
 have HB:=hid t3.below
 clear t3
 go_wp2
 go_ret
 exact ⟨rfl,HB.out⟩
theorem A42 (n m:Nat) (hn:n < wW) (hm:m < wW) (w:World) :
  Calls Tryz.prog 86 #[.agg (A3 32 n).toArray,.agg (A3 32 m).toArray] w fun e w'=>e = .returned (.agg (A3 32 (n+m)).toArray)∧Below w.heap.size w w':=by
 obtain ⟨w0,e0⟩:∃ w0,w0=((w.alloc (.cells (A3 32 n).toArray 25)).alloc (.cells (A3 32 m).toArray 25)).alloc (.cells (J4 32).toArray 25):=⟨_,rfl⟩
 have hx:A0d w w0.drew n m:=by rw [e0];exact (A0d.start w n m).on ((Below.refl _ _).alloc (Nat.le_refl _) _).drew
 have hf:w0.drew.free? (w.heap.size+1+1) 0 32=true:=by rw [e0];simp [go_sem]
 have HE:=hid e0
 have hl1:(A3 32 n).length=32:=by simp
 have hl2:(A3 32 m).length=32:=by simp
 have hok:=D2 32 (n+m)
 obtain ⟨T,hT⟩:∃ T:World→Prop,T=fun w'=>A0d w w' n m∧w'.free? (w.heap.size+1+1) 0 32=true:=⟨_,rfl⟩
 have HT:=hid hT
 have t0:T w0.drew:=by rw [hT];exact ⟨hx,hf⟩
 have hlt:∀ w1,T w1→w.heap.size+1+1 < w1.heap.size:=by rw [hT];intro w1 h;exact C1 h.2
 have HLT:=hid hlt
 have hts:∀ w1 p,T w1→w.heap.size+1+1 < p→T (w1.setCells p 0 (Q4 (n+m))):=by
  rw [hT];intro w1 p h1 hp
  exact ⟨h1.1.out ((A0.refl _ _).setCells (by omega) _ _),by rw [World.free?_setCells'];exact h1.2⟩
 have HTS:=hid hts
 clear hlt hts
 have tb:∀ w1 w2,T w1→Below w1.heap.size w1 w2→T w2:=by
  rw [hT];intro w1 w2 h1 hb
  exact ⟨h1.1.on hb,by rw [(C7 hb).2 _ _ _ (C1 h1.2)];exact h1.2⟩
 have HTB:=hid tb
 clear e0 hx hf hT tb
 go_enter Tryz.func86,Tryz.ntmps86
 go_wp2_with fail
 rw [← HE.out]
 have tt:=t0
 clear t0
 refine A7 T [] (.take 0 (.take 2 (.alt 1 (.alt 3 (.alt 4 (.take 5 (.take 6 (.take 7 (.alt 8 (.alt 9 (.alt 10 .fin .stop) .stop) .stop)))) (.alt 8 (.alt 4 (.take 5 (.take 6 (.take 7 (.alt 9 (.alt 10 .fin .stop) .stop)))) .stop) .stop)) (.alt 8 (.alt 3 (.alt 4 (.take 5 (.take 6 (.take 7 (.alt 9 (.alt 10 .fin .stop) .stop)))) .stop) .stop) .stop)) (.alt 8 (.alt 1 (.alt 3 (.alt 4 (.take 5 (.take 6 (.take 7 (.alt 9 (.alt 10 .fin .stop) .stop)))) .stop) .stop) .stop) .stop)))) (by kernel_rfl) (by kernel_rfl) ?_
 refine A9 (.agg (A3 32 n).toArray) tt rfl (by rfl) (fun w' hs=>?_) (fun _ _ _ h=>h) ?_
 ·rw [HT.out] at hs
  have q1:=hs.1.x;have q2:=hs.1.y
  go_simp
 simp only [Act.put,D7,D6,D5]
 refine A9 (.agg (A3 32 m).toArray) tt rfl (by rfl) (fun w' hs=>?_) (fun _ _ _ h=>h) ?_
 ·rw [HT.out] at hs
  have q1:=hs.1.x;have q2:=hs.1.y
  go_simp
 simp only [Act.put,D7,D6,D5]
 refine P6 rfl (fun K hK=>?_) ?_
 focus
  go_simp
  refine (V5 n hn _).mono ?_
  rintro e w1 ⟨rfl,hb⟩
  have tt':T w1:=HTB.out _ _ tt hb
  clear hb tt
  refine hK.out _ _ tt' ?_
  clear hK K
  replace tt:=tt'
  clear tt'
  refine P6 rfl (fun K hK=>?_) ?_
  focus
   go_simp
   refine (V5 m hm _).mono ?_
   rintro e w2 ⟨rfl,hb⟩
   have tt':T w2:=HTB.out _ _ tt hb
   clear hb tt
   refine hK.out _ _ tt' ?_
   clear hK K
   replace tt:=tt'
   clear tt'
   refine P6 rfl (fun K hK=>?_) ?_
   focus
    go_simp
    refine (A4N n m hn hm _).mono ?_
    rintro e w3 ⟨rfl,hb⟩
    have tt':T w3:=HTB.out _ _ tt hb
    clear hb tt
    refine hK.out _ _ tt' ?_
    clear hK K
    replace tt:=tt'
    clear tt'
    refine A9 (.tuple #[.agg (Q4 (n+m)).toArray,.int .u64 ((n+m) / wW:Nat)]) tt rfl (by rfl) (fun w' hs=>?_) (fun _ _ _ h=>h) ?_
    ·go_simp
    simp only [Act.put,D7,D6,D5]
    refine A9 (.agg (Q4 (n+m)).toArray) tt rfl (by rfl) (fun w' hs=>?_) (fun _ _ _ h=>h) ?_
    ·go_simp
    simp only [Act.put,D7,D6,D5]
    refine A9 (.int .u64 ((n+m) / wW:Nat)) tt rfl (by rfl) (fun w' hs=>?_) (fun _ _ _ h=>h) ?_
    ·go_simp
    simp only [Act.put,D7,D6,D5]
    refine A5 rfl (fun K hK=>?_)
    go_simp
    have hz:Arr (w3.alloc (.cells (U7 4).toArray 215)) w3.heap.size 4 (U7 4):=Arr.new w3 4 (U7 4) 215 rfl
    have hgt:w.heap.size+1+1 < w3.heap.size:=HLT.out (w3) tt
    refine hK.out _ _ (HTB.out _ _ tt ((Below.refl _ _).alloc (Nat.le_refl _) _)) ?_
    clear hK K
    replace tt:T (w3.alloc (.cells (U7 4).toArray 215)):=HTB.out _ _ tt ((Below.refl _ _).alloc (Nat.le_refl _) _)
    have f9:(w3.alloc (.cells (U7 4).toArray 215)).free? (w3.heap.size) 0 4=true:=hz.free
    have hz2:Arr ((w3.alloc (.cells (U7 4).toArray 215)).setCells (w3.heap.size) 0 (Q4 (n+m))) (w3.heap.size) 4 (Q4 (n+m)):=hz.setCells _ (A0k _)
    have t9:T ((w3.alloc (.cells (U7 4).toArray 215)).setCells (w3.heap.size) 0 (Q4 (n+m))):=HTS.out _ _ tt hgt
   rotate_left
   focus
    refine A5 rfl (fun K hK=>?_)
    go_simp
    have hz:Arr (w2.alloc (.cells (U7 4).toArray 215)) w2.heap.size 4 (U7 4):=Arr.new w2 4 (U7 4) 215 rfl
    have hgt:w.heap.size+1+1 < w2.heap.size:=HLT.out (w2) tt
    refine hK.out _ _ (HTB.out _ _ tt ((Below.refl _ _).alloc (Nat.le_refl _) _)) ?_
    clear hK K
    replace tt:T (w2.alloc (.cells (U7 4).toArray 215)):=HTB.out _ _ tt ((Below.refl _ _).alloc (Nat.le_refl _) _)
    refine A5 rfl (fun K hK=>?_)
    go_simp
    refine (A4N n m hn hm _).mono ?_
    rintro e w3 ⟨rfl,hb⟩
    have tt':T w3:=HTB.out _ _ tt hb
    replace hz:=hz.below hb
    clear hb tt
    refine hK.out _ _ tt' ?_
    clear hK K
    replace tt:=tt'
    clear tt'
    refine A9 (.tuple #[.agg (Q4 (n+m)).toArray,.int .u64 ((n+m) / wW:Nat)]) tt rfl (by rfl) (fun w' hs=>?_) (fun _ _ _ h=>h) ?_
    ·go_simp
    simp only [Act.put,D7,D6,D5]
    refine A9 (.agg (Q4 (n+m)).toArray) tt rfl (by rfl) (fun w' hs=>?_) (fun _ _ _ h=>h) ?_
    ·go_simp
    simp only [Act.put,D7,D6,D5]
    refine A9 (.int .u64 ((n+m) / wW:Nat)) tt rfl (by rfl) (fun w' hs=>?_) (fun _ _ _ h=>h) ?_
    ·go_simp
    simp only [Act.put,D7,D6,D5]
    have f9:w3.free? (w2.heap.size) 0 4=true:=hz.free
    have hz2:Arr (w3.setCells (w2.heap.size) 0 (Q4 (n+m))) (w2.heap.size) 4 (Q4 (n+m)):=hz.setCells _ (A0k _)
    have t9:T (w3.setCells (w2.heap.size) 0 (Q4 (n+m))):=HTS.out _ _ tt hgt
  rotate_left 2
  focus
   refine A5 rfl (fun K hK=>?_)
   go_simp
   have hz:Arr (w1.alloc (.cells (U7 4).toArray 215)) w1.heap.size 4 (U7 4):=Arr.new w1 4 (U7 4) 215 rfl
   have hgt:w.heap.size+1+1 < w1.heap.size:=HLT.out (w1) tt
   refine hK.out _ _ (HTB.out _ _ tt ((Below.refl _ _).alloc (Nat.le_refl _) _)) ?_
   clear hK K
   replace tt:T (w1.alloc (.cells (U7 4).toArray 215)):=HTB.out _ _ tt ((Below.refl _ _).alloc (Nat.le_refl _) _)
   refine A5 rfl (fun K hK=>?_)
   go_simp
   refine (V5 m hm _).mono ?_
   rintro e w2 ⟨rfl,hb⟩
   have tt':T w2:=HTB.out _ _ tt hb
   replace hz:=hz.below hb
   clear hb tt
   refine hK.out _ _ tt' ?_
   clear hK K
   replace tt:=tt'
   clear tt'
   refine A5 rfl (fun K hK=>?_)
   go_simp
   refine (A4N n m hn hm _).mono ?_
   rintro e w3 ⟨rfl,hb⟩
   have tt':T w3:=HTB.out _ _ tt hb
   replace hz:=hz.below hb
   clear hb tt
   refine hK.out _ _ tt' ?_
   clear hK K
   replace tt:=tt'
   clear tt'
   refine A9 (.tuple #[.agg (Q4 (n+m)).toArray,.int .u64 ((n+m) / wW:Nat)]) tt rfl (by rfl) (fun w' hs=>?_) (fun _ _ _ h=>h) ?_
   ·go_simp
   simp only [Act.put,D7,D6,D5]
   refine A9 (.agg (Q4 (n+m)).toArray) tt rfl (by rfl) (fun w' hs=>?_) (fun _ _ _ h=>h) ?_
   ·go_simp
   simp only [Act.put,D7,D6,D5]
   refine A9 (.int .u64 ((n+m) / wW:Nat)) tt rfl (by rfl) (fun w' hs=>?_) (fun _ _ _ h=>h) ?_
   ·go_simp
   simp only [Act.put,D7,D6,D5]
   have f9:w3.free? (w1.heap.size) 0 4=true:=hz.free
   have hz2:Arr (w3.setCells (w1.heap.size) 0 (Q4 (n+m))) (w1.heap.size) 4 (Q4 (n+m)):=hz.setCells _ (A0k _)
   have t9:T (w3.setCells (w1.heap.size) 0 (Q4 (n+m))):=HTS.out _ _ tt hgt
 rotate_left 3
 focus
  refine A5 rfl (fun K hK=>?_)
  go_simp
  have hz:Arr (w0.drew.alloc (.cells (U7 4).toArray 215)) w0.heap.size 4 (U7 4):=Arr.new w0.drew 4 (U7 4) 215 rfl
  have hgt:w.heap.size+1+1 < w0.heap.size:=HLT.out (w0.drew) tt
  refine hK.out _ _ (HTB.out _ _ tt ((Below.refl _ _).alloc (Nat.le_refl _) _)) ?_
  clear hK K
  replace tt:T (w0.drew.alloc (.cells (U7 4).toArray 215)):=HTB.out _ _ tt ((Below.refl _ _).alloc (Nat.le_refl _) _)
  refine A5 rfl (fun K hK=>?_)
  go_simp
  refine (V5 n hn _).mono ?_
  rintro e w1 ⟨rfl,hb⟩
  have tt':T w1:=HTB.out _ _ tt hb
  replace hz:=hz.below hb
  clear hb tt
  refine hK.out _ _ tt' ?_
  clear hK K
  replace tt:=tt'
  clear tt'
  refine A5 rfl (fun K hK=>?_)
  go_simp
  refine (V5 m hm _).mono ?_
  rintro e w2 ⟨rfl,hb⟩
  have tt':T w2:=HTB.out _ _ tt hb
  replace hz:=hz.below hb
  clear hb tt
  refine hK.out _ _ tt' ?_
  clear hK K
  replace tt:=tt'
  clear tt'
  refine A5 rfl (fun K hK=>?_)
  go_simp
  refine (A4N n m hn hm _).mono ?_
  rintro e w3 ⟨rfl,hb⟩
  have tt':T w3:=HTB.out _ _ tt hb
  replace hz:=hz.below hb
  clear hb tt
  refine hK.out _ _ tt' ?_
  clear hK K
  replace tt:=tt'
  clear tt'
  refine A9 (.tuple #[.agg (Q4 (n+m)).toArray,.int .u64 ((n+m) / wW:Nat)]) tt rfl (by rfl) (fun w' hs=>?_) (fun _ _ _ h=>h) ?_
  ·go_simp
  simp only [Act.put,D7,D6,D5]
  refine A9 (.agg (Q4 (n+m)).toArray) tt rfl (by rfl) (fun w' hs=>?_) (fun _ _ _ h=>h) ?_
  ·go_simp
  simp only [Act.put,D7,D6,D5]
  refine A9 (.int .u64 ((n+m) / wW:Nat)) tt rfl (by rfl) (fun w' hs=>?_) (fun _ _ _ h=>h) ?_
  ·go_simp
  simp only [Act.put,D7,D6,D5]
  have f9:w3.free? (w0.heap.size) 0 4=true:=hz.free
  have hz2:Arr (w3.setCells (w0.heap.size) 0 (Q4 (n+m))) (w0.heap.size) 4 (Q4 (n+m)):=hz.setCells _ (A0k _)
  have t9:T (w3.setCells (w0.heap.size) 0 (Q4 (n+m))):=HTS.out _ _ tt hgt
 all_goals
  refine A5 rfl (fun K hK=>?_)
  go_simp
  clear hz
  refine hK.out _ _ t9 ?_
  clear hK K
  refine A5 rfl (fun K hK=>?_)
  go_simp
  refine hK.out _ _ t9 ?_
  clear hK K
  refine C2 ?_
  have c9:=hz2.row
  rw [HT.out] at t9
  have B9:=hid t9.1.below
  have F9:=t9.2
  clear hz2 t9
  generalize ew:World.setCells _ _ _ _=W at *
  clear ew
  go_wp2_with fail
  refine (A3y (n+m) _).mono ?_
  rintro e w4 ⟨rfl,hb⟩
  have hk:w4.free? (w.heap.size+1+1) 0 32=true:=by rw [(C7 hb).2 _ _ _ (C1 F9)];exact F9
  have HB:=hid (B9.out.trans (hb.mono B9.out.size))
  go_wp2
  exact I2 A28 rfl _ rfl rfl hk hok ⟨rfl,HB.out.setCells (by omega) _ _⟩
theorem B3s (n m:Nat) (hn:n < wW) (hm:m < wW) (w:World) :
  Calls Tryz.prog 88 #[.agg (A3 32 n).toArray,.agg (A3 32 m).toArray] w fun e w'=>e = .returned (.agg (A3 32 ((n+wW - m) % wW)).toArray)∧Below w.heap.size w w':=by
 obtain ⟨w0,e0⟩:∃ w0,w0=((w.alloc (.cells (A3 32 n).toArray 25)).alloc (.cells (A3 32 m).toArray 25)).alloc (.cells (J4 32).toArray 25):=⟨_,rfl⟩
 have hx:A0d w w0.drew n m:=by rw [e0];exact (A0d.start w n m).on ((Below.refl _ _).alloc (Nat.le_refl _) _).drew
 have hf:w0.drew.free? (w.heap.size+1+1) 0 32=true:=by rw [e0];simp [go_sem]
 have HE:=hid e0
 have hl1:(A3 32 n).length=32:=by simp
 have hl2:(A3 32 m).length=32:=by simp
 have hok:=D2 32 ((n+wW - m) % wW)
 obtain ⟨T,hT⟩:∃ T:World→Prop,T=fun w'=>A0d w w' n m∧w'.free? (w.heap.size+1+1) 0 32=true:=⟨_,rfl⟩
 have HT:=hid hT
 have t0:T w0.drew:=by rw [hT];exact ⟨hx,hf⟩
 have tb:∀ w1 w2,T w1→Below w1.heap.size w1 w2→T w2:=by
  rw [hT];intro w1 w2 h1 hb
  exact ⟨h1.1.on hb,by rw [(C7 hb).2 _ _ _ (C1 h1.2)];exact h1.2⟩
 have HTB:=hid tb
 clear e0 hx hf hT tb
 go_enter Tryz.func88,Tryz.ntmps88
 go_wp2_with fail
 rw [← HE.out]
 refine A0e T [6] [(true,0),(true,2),(false,1),(false,3),(false,4),(false,5),(false,6)] (by kernel_rfl) (by kernel_rfl) ?_
 refine Q9 (.agg (A3 32 n).toArray) t0 rfl (by rfl) (fun w' hs=>?_) (fun _ _ _ h=>h) ?_
 ·rw [HT.out] at hs
  have q1:=hs.1.x;have q2:=hs.1.y
  go_simp
 refine Q9 (.agg (A3 32 m).toArray) t0 rfl (by rfl) (fun w' hs=>?_) (fun _ _ _ h=>h) ?_
 ·rw [HT.out] at hs
  have q1:=hs.1.x;have q2:=hs.1.y
  go_simp
 simp only [Act.put,D7,D6,D5]
 refine P7 rfl (fun K hK=>?_)
 go_simp
 refine (V5 n hn _).mono ?_
 rintro e w1 ⟨rfl,hb⟩
 have t1:T w1:=HTB.out _ _ t0 hb
 clear hb
 refine hK.out _ _ t1 ?_
 clear hK K
 refine P7 rfl (fun K hK=>?_)
 go_simp
 refine (V5 m hm _).mono ?_
 rintro e w2 ⟨rfl,hb⟩
 have t2:T w2:=HTB.out _ _ t1 hb
 clear hb
 refine hK.out _ _ t2 ?_
 clear hK K
 refine P7 rfl (fun K hK=>?_)
 go_simp
 refine (B5Z n m hn hm _).mono ?_
 rintro e w3 ⟨rfl,hb⟩
 have t3:T w3:=HTB.out _ _ t2 hb
 clear hb
 refine hK.out _ _ t3 ?_
 clear hK K
 refine P7 rfl (fun K hK=>?_)
 go_simp
 refine (A3y ((n+wW - m) % wW) _).mono ?_
 rintro e w4 ⟨rfl,hb⟩
 have t4:T w4:=HTB.out _ _ t3 hb
 clear hb
 refine hK.out _ _ t4 ?_
 clear hK K
 have t4':=t4
 rw [HT.out] at t4'
 have HB:=hid t4'.1.below
 have hk:=t4'.2
 clear t4'
 refine B7Q rfl (by simp) (fun K hK=>?_)
 go_simp
 have hok2:Q3 32 (A3 32 ((n+wW - m) % wW))=true:=D2 _ _
 refine hK.out _ _ (A2o ?_)
 clear hK K
 go_wp2
 exact I2 A28 rfl _ rfl rfl hk hok ⟨rfl,HB.out.setCells (by omega) _ _⟩

def V6 (old now:Nat):Nat:=if old=0∧now≠0 then 20000 else 5000
theorem B2T (n m:Nat) (hn:n < wW) (hm:m < wW) (w:World) :
  Calls Tryz.prog 227 #[.agg (A3 32 n).toArray,.agg (A3 32 m).toArray] w fun e w'=>e = .returned (.int .i64 (V6 n m:Nat))∧Below w.heap.size w w':=by
 obtain ⟨w0,e0⟩:∃ w0,w0=(w.alloc (.cells (A3 32 n).toArray 25)).alloc (.cells (A3 32 m).toArray 25):=⟨_,rfl⟩
 have hx:A0d w w0 n m:=by rw [e0];exact A0d.start w n m
 have HE:=hid e0
 have hl1:(A3 32 n).length=32:=by simp
 have hl2:(A3 32 m).length=32:=by simp
 have HB:=hid hx.below
 have q1:=hx.x
 have q2:=hx.y
 have z25:=B46
 clear e0 hx
 go_enter Tryz.func227,Tryz.ntmps227
 go_wp2_with fail
 rw [← HE.out]
 rw [eqW hn (show (0:Nat) < wW by decide)]
 by_cases h0:n=0
 ·have hd:decide (n=0)=true:=by simp [h0]
  rw [hd]
  go_simp
  go_wp2_with fail
  rw [eqW hm (show (0:Nat) < wW by decide)]
  by_cases h1:m=0
  ·have hd1:decide (m=0)=true:=by simp [h1]
   rw [hd1]
   go_simp
   go_wp2
   go_ret
   exact ⟨by simp [V6,h0,h1],HB.out⟩
  ·have hd1:decide (m=0)=false:=by simp [h1]
   rw [hd1]
   go_simp
   go_wp2
   go_ret
   exact ⟨by simp [V6,h0,h1],HB.out⟩
 ·have hd:decide (n=0)=false:=by simp [h0]
  rw [hd]
  go_simp
  go_wp2
  go_ret
  exact ⟨by simp [V6,h0],HB.out⟩
theorem _root_.Go.Mun.StateAt.bal {T:UTy} {w:World} {own:Own} {sb:Nat} {S:St} {M:List (Nat × St)} {n:Nat} (h:StateAt T w own sb S M n) (a:Nat):(S a).bal < wW:=by
 obtain ⟨mb,uv,mv,last,E,U,mk,h,_⟩:=h
 cases e:I3 a E with
 | none=>rw [h.out a e];show (0:Nat) < wW;decide
 | some p=>exact (h.acc (a,p) (L7 e)).bal
theorem _root_.Go.Mun.StateAt.lows {T:UTy} {w:World} {own:Own} {sb:Nat} {S:St} {M:List (Nat × St)} {n:Nat} (h:StateAt T w own sb S M n):∀ b,own b≠none→b < w.heap.size:=by
 obtain ⟨mb,uv,mv,last,E,U,mk,h,_⟩:=h
 exact h.low
theorem A75 (k n:Nat):A3 k (n % 256 ^ k)=A3 k n:=by
 unfold A3 be
 apply List.ext_getElem
 ·simp
 intro i h1 h2
 simp only [List.getElem_map,List.getElem_range]
 have hi:i < k:=by simpa using h2
 have:n % 256 ^ k / 256 ^ (k - 1 - i) % 256=n / 256 ^ (k - 1 - i) % 256:=by
  have e:256 ^ k=256 ^ (k - 1 - i)*(256*256 ^ i):=by
   rw [← Nat.pow_succ',← Nat.pow_add];congr 1;omega
  rw [e,Nat.mod_mul_right_div_self,Nat.mod_mul_right_mod]
 rw [this]
theorem B8v (n:Nat):A3 32 (n % wW)=A3 32 n:=A75 32 n
theorem A4R {n m:Nat} (h:n < m):T5 n m = -1:=by simp [T5,h]
theorem A4S {n m:Nat} (h:¬ n < m):¬ T5 n m < 0:=by unfold T5;rw [if_neg h];split <;> omega
structure A9F (w w0:World) (a b v:Nat):Prop where
 below:Below w.heap.size w w0
 x:w0.row? w.heap.size 0 20=some (A3 20 a)
 y:w0.row? (w.heap.size+1) 0 20=some (A3 20 b)
 z:w0.row? (w.heap.size+1+1) 0 32=some (A3 32 v)
theorem A9F.start (w:World) (a b v:Nat):A9F w (((w.alloc (.cells (A3 20 a).toArray 23)).alloc (.cells (A3 20 b).toArray 23)).alloc (.cells (A3 32 v).toArray 25)) a b v:=
 ⟨(((Below.refl _ _).alloc (Nat.le_refl _) _).alloc (by simp) _).alloc (by simp;omega) _,by rw [World.row?_alloc_lt _ (by simp;omega),World.row?_alloc_lt _ (by simp)];exact World.row?_alloc_at _ _ _ rfl (by simp),
  by rw [World.row?_alloc_lt _ (by simp)];exact World.row?_alloc_at _ _ _ (by simp) (by simp),World.row?_alloc_at _ _ _ (by simp) (by simp)⟩
theorem A9F.on {w w0 w1:World} {a b v:Nat} (h:A9F w w0 a b v) (hb:Below w0.heap.size w0 w1):A9F w w1 a b v:=
 ⟨h.below.trans (hb.mono h.below.size),by rw [(C7 hb).1 _ _ _ (World.row?_lt h.x)];exact h.x,by rw [(C7 hb).1 _ _ _ (World.row?_lt h.y)];exact h.y,by rw [(C7 hb).1 _ _ _ (World.row?_lt h.z)];exact h.z⟩
theorem B5u {w:World} {own:Own} {sb:Nat} {S:St} {M:List (Nat × St)} {n:Nat} (h:StateAt TU w own sb S M n) (a b v:Nat) (ha:a < wA) (hb':b < wA) (hv:v < wW) (hn:n < 1099511627776) :
  Calls Tryz.prog 234 #[.pointer (some ⟨sb,0,none⟩),.agg (A3 20 a).toArray,.agg (A3 20 b).toArray,.agg (A3 32 v).toArray] w fun e w' =>
   e = .returned (.bool (S.move a b v).isSome)∧∃ own',StateAt TU w' own' sb ((S.move a b v).getD S) M (n+1+1)∧T6 w w' own own':=by
 have hl0:(A3 20 a).length=20:=by simp
 have hl1:(A3 20 b).length=20:=by simp
 have hl2:(A3 32 v).length=32:=by simp
 have hba:=h.bal a
 have hbb:=h.bal b
 have hlw:=h.lows
 have HLW:=hid hlw
 obtain ⟨w0,e0⟩:∃ w0,w0=((w.alloc (.cells (A3 20 a).toArray 23)).alloc (.cells (A3 20 b).toArray 23)).alloc (.cells (A3 32 v).toArray 25):=⟨_,rfl⟩
 have hx:A9F w w0 a b v:=by rw [e0];exact A9F.start w a b v
 obtain ⟨T,hT⟩:∃ T:World→Prop,T=fun w'=>A9F w w' a b v∧StateAt TU w' own sb S M n:=⟨_,rfl⟩
 have HT:=hid hT
 have HE:=hid e0
 have t0:T w0.drew:=by rw [hT];exact ⟨hx.on (Below.refl _ _).drew,h.below hx.below.drew⟩
 have tb:∀ w1 w2,T w1→Below w1.heap.size w1 w2→T w2:=by
  rw [hT];intro w1 w2 h1 hb;exact ⟨h1.1.on hb,h1.2.below hb⟩
 have HTB:=hid tb
 have ts:∀ w1,T w1→StateAt TU w1 own sb S M n:=by rw [hT];intro w1 h;exact h.2
 have HTS:=hid ts
 have tg:∀ w1,T w1→Below w.heap.size w w1:=by rw [hT];intro w1 h;exact h.1.below
 have HTG:=hid tg
 have tend:∀ w1,T w1→∃ own',StateAt TU w1 own' sb S M (n+1+1)∧T6 w w1 own own':=by
  rw [hT];intro w1 h;exact ⟨own,h.2.mono (by omega),T6.below own h.1.below⟩
 have HTE:=hid tend
 have tl:∀ w1,T w1→w.heap.size+1+1 < w1.heap.size:=by rw [hT];intro w1 h;exact World.row?_lt h.1.z
 have HLT:=hid tl
 have tc:∀ w1 p,T w1→w.heap.size+1+1 < p→own p=none→T (w1.setCells p 0 (A3 32 ((S b).bal+v))):=by
  rw [hT];intro w1 p h1 hp hpn
  have ho:A0 (· = p) w1 (w1.setCells p 0 (A3 32 ((S b).bal+v))):=(A0.refl (· = p) _).setCells (fun _=>rfl) _ _
  refine ⟨⟨h1.1.below.setCells (by omega) _ _,?_,?_,?_⟩,h1.2.only ho (fun q hq=>by rw [hq];exact hpn)⟩
  ·rw [ho.row? (World.row?_lt h1.1.x) (by omega)];exact h1.1.x
  ·rw [ho.row? (World.row?_lt h1.1.y) (by omega)];exact h1.1.y
  ·rw [ho.row? (World.row?_lt h1.1.z) (by omega)];exact h1.1.z
 have HTC:=hid tc
 obtain ⟨R,hR⟩:∃ R:World→Prop,R=fun w'=>w'.row? w.heap.size 0 20=some (A3 20 a)∧w'.row? (w.heap.size+1+1) 0 32=some (A3 32 v):=⟨_,rfl⟩
 have HR:=hid hR
 have tr:∀ w1,T w1→R w1:=by rw [hT,hR];intro w1 h;exact ⟨h.1.x,h.1.z⟩
 have HTR:=hid tr
 clear h e0 hx hT tb ts tg tend hlw tl tc hR tr
 go_enter Tryz.func234,Tryz.ntmps234
 go_wp2_with fail
 rw [← HE.out]
 refine A0e T [] [(true,0),(true,1),(true,3),(false,2),(false,4),(false,5)] (by kernel_rfl) (by kernel_rfl) ?_
 refine Q9 (.pointer (some ⟨sb,0,none⟩)) t0 rfl (by rfl) (fun w' hs=>?_) (fun _ _ _ h=>h) ?_
 ·go_simp
 refine Q9 (.agg (A3 20 a).toArray) t0 rfl (by rfl) (fun w' hs=>?_) (fun _ _ _ h=>h) ?_
 ·rw [HT.out] at hs
  have q1:=hs.1.x;have q2:=hs.1.y;have q3:=hs.1.z
  go_simp
 refine Q9 (.agg (A3 32 v).toArray) t0 rfl (by rfl) (fun w' hs=>?_) (fun _ _ _ h=>h) ?_
 ·rw [HT.out] at hs
  have q1:=hs.1.x;have q2:=hs.1.y;have q3:=hs.1.z
  go_simp
 simp only [Act.put,D7,D6,D5]
 refine P7 rfl (fun K hK=>?_)
 go_simp
 refine (A0v (HTS.out _ t0) a ha).mono ?_
 rintro e w1 ⟨rfl,hb⟩
 have t1:T w1:=HTB.out _ _ t0 hb
 clear hb
 refine hK.out _ _ t1 ?_
 clear hK K
 refine P7 rfl (fun K hK=>?_)
 go_simp
 refine (A41 _ v hba hv _).mono ?_
 rintro e w2 ⟨rfl,hb⟩
 have t2:T w2:=HTB.out _ _ t1 hb
 clear hb
 refine hK.out _ _ t2 ?_
 clear hK K
 by_cases hlt:(S a).bal < v
 ·rw [A4R hlt]
  refine P7 rfl (fun K hK=>?_)
  go_simp
  refine hK.out _ _ t2 (A2o ?_)
  clear hK K
  go_wp2
  go_ret
  have hm:S.move a b v=none:=by simp [St.move,hlt]
  rw [hm]
  exact ⟨rfl,HTE.out _ t2⟩
 have hcn:=A4S hlt
 generalize T5 (S a).bal v=c at *
 refine P7 rfl (fun K hK=>?_)
 go_simp
 refine hK.out _ _ t2 (A2o ?_)
 clear hK K
 clear t0 t1
 have tt:T w2.drew:=HTB.out _ _ t2 (Below.refl _ _).drew
 clear t2
 go_wp2_with fail
 refine A7 T [] (.take 0 (.take 1 (.take 3 (.alt 2 (.alt 4 (.alt 5 (.alt 6 .fin .stop) .stop) (.alt 5 (.alt 4 (.alt 6 .fin .stop) .stop) .stop)) (.alt 5 (.alt 2 (.alt 4 (.alt 6 .fin .stop) .stop) .stop) .stop))))) (by kernel_rfl) (by kernel_rfl) ?_
 refine A9 (.pointer (some ⟨sb,0,none⟩)) tt rfl (by rfl) (fun w' hs=>?_) (fun _ _ _ h=>h) ?_
 ·go_simp
 simp only [Act.put,D7,D6,D5]
 refine A9 (.agg (A3 20 b).toArray) tt rfl (by rfl) (fun w' hs=>?_) (fun _ _ _ h=>h) ?_
 ·rw [HT.out] at hs
  have q1:=hs.1.x;have q2:=hs.1.y;have q3:=hs.1.z
  go_simp
 simp only [Act.put,D7,D6,D5]
 refine A9 (.agg (A3 32 v).toArray) tt rfl (by rfl) (fun w' hs=>?_) (fun _ _ _ h=>h) ?_
 ·rw [HT.out] at hs
  have q1:=hs.1.x;have q2:=hs.1.y;have q3:=hs.1.z
  go_simp
 simp only [Act.put,D7,D6,D5]
 refine P6 rfl (fun K hK=>?_) ?_
 focus
  go_simp
  refine (A0v (HTS.out _ tt) b hb').mono ?_
  rintro e w4 ⟨rfl,hb⟩
  have tt':T w4:=HTB.out _ _ tt hb
  clear hb tt
  refine hK.out _ _ tt' ?_
  clear hK K
  have tt:=tt'
  clear tt'
  refine P6 rfl (fun K hK=>?_) ?_
  focus
   go_simp
   refine (A42 _ v hbb hv _).mono ?_
   rintro e w5 ⟨rfl,hb⟩
   have tt':T w5:=HTB.out _ _ tt hb
   clear hb tt
   refine hK.out _ _ tt' ?_
   clear hK K
   have tt:=tt'
   clear tt'
   refine A5 rfl (fun K hK=>?_)
   go_simp
   have hz:Arr (w5.alloc (.cells (J4 32).toArray 25)) w5.heap.size 32 (J4 32):=Arr.new (w5) 32 (J4 32) 25 (by simp)
   have hgt:w.heap.size≤w5.heap.size:=(HTG.out (w5) tt).size
   have hgt3:w.heap.size+1+1 < w5.heap.size:=HLT.out (w5) tt
   have tt':T (w5.alloc (.cells (J4 32).toArray 25)):=HTB.out _ _ tt ((Below.refl _ _).alloc (Nat.le_refl _) _)
   clear tt
   refine hK.out _ _ tt' ?_
   clear hK K
   have tt:=tt'
   clear tt'
   have f9:(w5.alloc (.cells (J4 32).toArray 25)).free? (w5.heap.size) 0 32=true:=hz.free
   have z9:Arr ((w5.alloc (.cells (J4 32).toArray 25)).setCells (w5.heap.size) 0 (A3 32 ((S b).bal+v))) (w5.heap.size) 32 (A3 32 ((S b).bal+v)):=hz.setCells _ (D2 _ _)
   have hpn:own (w5.heap.size)=none:=D4 HLW.out hgt
   have t9:T ((w5.alloc (.cells (J4 32).toArray 25)).setCells (w5.heap.size) 0 (A3 32 ((S b).bal+v))):=HTC.out _ _ tt hgt3 hpn
  rotate_left
  focus
   refine A5 rfl (fun K hK=>?_)
   go_simp
   have hz:Arr (w4.alloc (.cells (J4 32).toArray 25)) w4.heap.size 32 (J4 32):=Arr.new (w4) 32 (J4 32) 25 (by simp)
   have hgt:w.heap.size≤w4.heap.size:=(HTG.out (w4) tt).size
   have hgt3:w.heap.size+1+1 < w4.heap.size:=HLT.out (w4) tt
   have tt':T (w4.alloc (.cells (J4 32).toArray 25)):=HTB.out _ _ tt ((Below.refl _ _).alloc (Nat.le_refl _) _)
   clear tt
   refine hK.out _ _ tt' ?_
   clear hK K
   have tt:=tt'
   clear tt'
   refine A5 rfl (fun K hK=>?_)
   go_simp
   refine (A42 _ v hbb hv _).mono ?_
   rintro e w5 ⟨rfl,hb⟩
   have tt':T w5:=HTB.out _ _ tt hb
   replace hz:=hz.below hb
   clear hb tt
   refine hK.out _ _ tt' ?_
   clear hK K
   have tt:=tt'
   clear tt'
   have f9:w5.free? (w4.heap.size) 0 32=true:=hz.free
   have z9:Arr (w5.setCells (w4.heap.size) 0 (A3 32 ((S b).bal+v))) (w4.heap.size) 32 (A3 32 ((S b).bal+v)):=hz.setCells _ (D2 _ _)
   have hpn:own (w4.heap.size)=none:=D4 HLW.out hgt
   have t9:T (w5.setCells (w4.heap.size) 0 (A3 32 ((S b).bal+v))):=HTC.out _ _ tt hgt3 hpn
 rotate_left 2
 focus
  refine A5 rfl (fun K hK=>?_)
  go_simp
  have hz:Arr (w2.drew.alloc (.cells (J4 32).toArray 25)) w2.heap.size 32 (J4 32):=Arr.new (w2.drew) 32 (J4 32) 25 (by simp)
  have hgt:w.heap.size≤w2.heap.size:=(HTG.out (w2.drew) tt).size
  have hgt3:w.heap.size+1+1 < w2.heap.size:=HLT.out (w2.drew) tt
  have tt':T (w2.drew.alloc (.cells (J4 32).toArray 25)):=HTB.out _ _ tt ((Below.refl _ _).alloc (Nat.le_refl _) _)
  clear tt
  refine hK.out _ _ tt' ?_
  clear hK K
  have tt:=tt'
  clear tt'
  refine A5 rfl (fun K hK=>?_)
  go_simp
  refine (A0v (HTS.out _ tt) b hb').mono ?_
  rintro e w4 ⟨rfl,hb⟩
  have tt':T w4:=HTB.out _ _ tt hb
  replace hz:=hz.below hb
  clear hb tt
  refine hK.out _ _ tt' ?_
  clear hK K
  have tt:=tt'
  clear tt'
  refine A5 rfl (fun K hK=>?_)
  go_simp
  refine (A42 _ v hbb hv _).mono ?_
  rintro e w5 ⟨rfl,hb⟩
  have tt':T w5:=HTB.out _ _ tt hb
  replace hz:=hz.below hb
  clear hb tt
  refine hK.out _ _ tt' ?_
  clear hK K
  have tt:=tt'
  clear tt'
  have f9:w5.free? (w2.heap.size) 0 32=true:=hz.free
  have z9:Arr (w5.setCells (w2.heap.size) 0 (A3 32 ((S b).bal+v))) (w2.heap.size) 32 (A3 32 ((S b).bal+v)):=hz.setCells _ (D2 _ _)
  have hpn:own (w2.heap.size)=none:=D4 HLW.out hgt
  have t9:T (w5.setCells (w2.heap.size) 0 (A3 32 ((S b).bal+v))):=HTC.out _ _ tt hgt3 hpn
 all_goals
  have hok:=D2 32 ((S b).bal+v)
  refine A5 rfl (fun K hK=>?_)
  go_simp
  clear hz
  refine hK.out _ _ t9 ?_
  clear hK K
  refine C2 ?_
  have c9:=z9.row
  clear z9 f9 hok tt
  generalize ew:World.setCells _ _ _ _=W at *
  clear ew
  have x9:=t9
  rw [HT.out] at x9
  have q1:=x9.1.x
  have q2:=x9.1.y
  have q3:=x9.1.z
  clear x9
  go_wp2_with fail
  rw [eqA ha hb']
  by_cases hab:a=b
  ·have hd:decide (a=b)=true:=by simp [hab]
   rw [hd]
   go_simp
   go_wp2
   go_ret
   have hm:S.move a b v=some S:=by unfold St.move;rw [if_neg hlt,if_pos hab]
   rw [hm]
   exact ⟨rfl,HTE.out _ t9⟩
  have hd:decide (a=b)=false:=by simp [hab]
  rw [hd]
  go_simp
  go_wp2_with fail
  rw [← B8v]
  refine (A41 _ v (Nat.mod_lt _ (by decide)) hv _).mono ?_
  rintro e w6 ⟨rfl,hb6⟩
  have t6:T w6:=HTB.out _ _ t9 hb6
  have c6:w6.row? _ 0 32=_:=((C7 hb6).1 _ _ _ (World.row?_lt c9)).trans c9
  clear hb6 c9 t9
  by_cases hov:wW≤(S b).bal+v
  ·have hlo:((S b).bal+v) % wW < v:=by rw [Nat.mod_eq_sub_mod hov,Nat.mod_eq_of_lt (by omega)];omega
   rw [A4R hlo]
   go_simp
   go_wp2
   go_ret
   have hm:S.move a b v=none:=by unfold St.move;rw [if_neg hlt,if_neg hab,if_pos hov]
   rw [hm]
   exact ⟨rfl,HTE.out _ t6⟩
  have hmod:((S b).bal+v) % wW=(S b).bal+v:=Nat.mod_eq_of_lt (by omega)
  rw [hmod]
  have hcn2:¬ T5 ((S b).bal+v) v < 0:=A4S (by omega)
  generalize T5 ((S b).bal+v) v=c2 at *
  go_simp
  have x6:=t6
  rw [HT.out] at x6
  have q1:=x6.1.x
  have q2:=x6.1.y
  have q3:=x6.1.z
  clear x6
  go_wp2_with fail
  refine A0e R [] [(true,0),(true,1),(true,2),(true,3),(true,5),(false,4),(false,6),(false,7)] (by kernel_rfl) (by kernel_rfl) ?_
  have t7:T w6.drew:=HTB.out _ _ t6 (Below.refl _ _).drew
  have c7:w6.drew.row? _ 0 32=_:=c6
  clear t6 c6
  have r7:=HTR.out _ t7
  refine Q9 (.pointer (some ⟨sb,0,none⟩)) r7 rfl (by rfl) (fun w' hs=>?_) (fun _ _ _ h=>h) ?_
  ·go_simp
  refine Q9 (.agg (A3 20 a).toArray) r7 rfl (by rfl) (fun w' hs=>?_) (fun _ _ _ h=>h) ?_
  ·rw [HR.out] at hs
   have q1:=hs.1;have q3:=hs.2
   go_simp
  refine Q9 (.pointer (some ⟨sb,0,none⟩)) r7 rfl (by rfl) (fun w' hs=>?_) (fun _ _ _ h=>h) ?_
  ·go_simp
  refine Q9 (.agg (A3 20 a).toArray) r7 rfl (by rfl) (fun w' hs=>?_) (fun _ _ _ h=>h) ?_
  ·rw [HR.out] at hs
   have q1:=hs.1;have q3:=hs.2
   go_simp
  refine Q9 (.agg (A3 32 v).toArray) r7 rfl (by rfl) (fun w' hs=>?_) (fun _ _ _ h=>h) ?_
  ·rw [HR.out] at hs
   have q1:=hs.1;have q3:=hs.2
   go_simp
  simp only [Act.put,D7,D6,D5]
  refine P7 rfl (fun K hK=>?_)
  go_simp
  refine (A0v (HTS.out _ t7) a ha).mono ?_
  rintro e w8 ⟨rfl,hb⟩
  have t8:T w8:=HTB.out _ _ t7 hb
  have r8:=HTR.out _ t8
  have c8:w8.row? _ 0 32=_:=((C7 hb).1 _ _ _ (World.row?_lt c7)).trans c7
  clear hb c7 t7
  refine hK.out _ _ r8 ?_
  clear hK K
  refine P7 rfl (fun K hK=>?_)
  go_simp
  refine (B3s _ v hba hv _).mono ?_
  rintro e w9 ⟨rfl,hb⟩
  have t9:T w9:=HTB.out _ _ t8 hb
  have r9:=HTR.out _ t9
  have c9:w9.row? _ 0 32=_:=((C7 hb).1 _ _ _ (World.row?_lt c8)).trans c8
  clear hb c8 t8
  refine hK.out _ _ r9 ?_
  clear hK K
  have hsub:((S a).bal+wW - v) % wW=(S a).bal - v:=by rw [show (S a).bal+wW - v=((S a).bal - v)+wW by omega,Nat.add_mod_right,Nat.mod_eq_of_lt (by omega)]
  rw [hsub]
  refine P7 rfl (fun K hK=>?_)
  go_simp
  refine (A21 (HTS.out _ t9) a ((S a).bal - v) ha (by omega) (by omega)).mono ?_
  rintro e wA ⟨rfl,own1,hsA,gA⟩
  rw [HT.out] at t9
  have hx9:=t9.1
  clear t9
  have rA:R wA:=by rw [HR.out];exact ⟨K5 hx9.x (D4 HLW.out (by omega)) gA,K5 hx9.z (D4 HLW.out (by omega)) gA⟩
  have q2:wA.row? (w.heap.size+1) 0 20=some (A3 20 b):=K5 hx9.y (D4 HLW.out (by omega)) gA
  have cA:wA.row? _ 0 32=_:=K5 c9 hpn gA
  have HB9:=hid hx9.below
  have HgA:=hid gA
  have HsA:=hid hsA
  clear hx9 c9 gA hsA
  refine hK.out _ _ rA (A2o ?_)
  clear hK K
  go_wp2_with fail
  refine (A21 HsA.out b ((S b).bal+v) hb' (by omega) (by omega)).mono ?_
  rintro e wB ⟨rfl,own2,hsB,gB⟩
  have HsB:=hid hsB
  have HgB:=hid gB
  clear hsB gB
  go_wp2
  go_ret
  have hm:S.move a b v=some ((S.setBal a ((S a).bal - v)).setBal b ((S b).bal+v)):=by unfold St.move;rw [if_neg hlt,if_neg hab,if_neg hov]
  rw [hm]
  exact ⟨rfl,own2,HsB.out,((T6.below own HB9.out).trans HgA.out).trans HgB.out⟩
end Go.Proofs.YtfflppedbopdpaaGreat
