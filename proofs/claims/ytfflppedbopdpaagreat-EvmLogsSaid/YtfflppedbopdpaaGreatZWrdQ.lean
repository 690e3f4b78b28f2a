/- A part of the proof of EvmLogs: ZWrdQ. -/
import Derived.Test.YtfflppedbopdpaaGreatZWrdP
import Derived.Shelf.Spec.BitsCarry
set_option linter.unusedVariables false
set_option maxRecDepth 1000000
set_option maxHeartbeats 8000000
set_option linter.unusedSimpArgs false
namespace Go.Mun

theorem A2J (n k:Nat):n % 2 ^ (64*(k+1))=2 ^ (64*k)*lim n k+n % 2 ^ (64*k):=by
 unfold lim
 rw [show 64*(k+1)=64*k+64 by omega,Nat.pow_add,Nat.mod_mul,Nat.add_comm]
def A0b (n m k:Nat):Nat:=(n % 2 ^ (64*k)+m % 2 ^ (64*k)) / 2 ^ (64*k)
theorem B4M (n m k:Nat):A0b n m k≤1:=by
 unfold A0b
 have hp:0 < 2 ^ (64*k):=Nat.pow_pos (by decide)
 have h1:=Nat.mod_lt n hp
 have h2:=Nat.mod_lt m hp
 generalize 2 ^ (64*k)=P at *
 have:n % P+m % P < P*2:=by omega
 have:=Nat.div_lt_of_lt_mul this
 omega
theorem B0G (n m k:Nat):(lim n k+lim m k+A0b n m k) / 18446744073709551616=A0b n m (k+1):=by
 have e:A0b n m (k+1)=(2 ^ (64*k)*(lim n k+lim m k)+(n % 2 ^ (64*k)+m % 2 ^ (64*k))) / 2 ^ (64*(k+1)):=by
  unfold A0b
  rw [A2J n k,A2J m k]
  have:=Nat.mul_add (2 ^ (64*k)) (lim n k) (lim m k)
  congr 1;omega
 rw [e,show 64*(k+1)=64*k+64 by omega,Nat.pow_add,← Nat.div_div_eq_div_mul,Nat.mul_add_div (Nat.pow_pos (by decide))]
 rfl
theorem B6L (n m k:Nat):(n+m) / 2 ^ (64*k)=n / 2 ^ (64*k)+m / 2 ^ (64*k)+A0b n m k:=by
 unfold A0b
 have h1:=Nat.div_add_mod n (2 ^ (64*k))
 have h2:=Nat.div_add_mod m (2 ^ (64*k))
 have hp:0 < 2 ^ (64*k):=Nat.pow_pos (by decide)
 generalize 2 ^ (64*k)=P at *
 have:n+m=P*(n / P+m / P)+(n % P+m % P):=by rw [Nat.mul_add];omega
 conv=>lhs;rw [this]
 rw [Nat.mul_add_div hp]
theorem B6a (n m k:Nat):(lim n k+lim m k+A0b n m k) % 18446744073709551616=lim (n+m) k:=by
 have e:lim (n+m) k=(n / 2 ^ (64*k)+m / 2 ^ (64*k)+A0b n m k) % 18446744073709551616:=by
  show (n+m) / 2 ^ (64*k) % 2 ^ 64=_
  rw [B6L]
 rw [e]
 unfold lim
 generalize n / 2 ^ (64*k)=a
 generalize m / 2 ^ (64*k)=b
 omega
theorem B6b (n k:Nat) (h:k < 4):lim (n % wW) k=lim n k:=by
 unfold lim wW
 rw [show (256:Nat)=64*k+(256 - 64*k) by omega,Nat.pow_add,Nat.mod_mul_right_div_self,show 256 - 64*k=64+(192 - 64*k) by omega,Nat.pow_add,Nat.mod_mul_right_mod]
theorem B27 (n m:Nat) (hn:n < wW) (hm:m < wW):A0b n m 4=(n+m) / wW:=by
 unfold A0b
 rw [show 64*4=256 from rfl,Nat.mod_eq_of_lt (show n < 2 ^ 256 from hn),Nat.mod_eq_of_lt (show m < 2 ^ 256 from hm)];rfl
def Y1 (n m k:Nat):Nat:=if n % 2 ^ (64*k) < m % 2 ^ (64*k) then 1 else 0
theorem A7d (n m k:Nat):Y1 n m k≤1:=by unfold Y1;split <;> omega
theorem A9u (n m k:Nat):(if lim n k < lim m k+Y1 n m k then 1 else 0)=Y1 n m (k+1):=by
 unfold Y1
 rw [A2J n k,A2J m k]
 have hp:0 < 2 ^ (64*k):=Nat.pow_pos (by decide)
 have h1:=Nat.mod_lt n hp
 have h2:=Nat.mod_lt m hp
 generalize 2 ^ (64*k)=P at *
 generalize lim n k=a at *
 generalize lim m k=b at *
 generalize n % P=r at *
 generalize m % P=s at *
 rcases Nat.lt_trichotomy a b with h | h | h
 ·have:P*(a+1)≤P*b:=Nat.mul_le_mul_left _ h
  rw [Nat.mul_add] at this
  rw [if_pos (by split <;> omega),if_pos (by omega)]
 ·subst h
  by_cases h3:r < s
  ·rw [if_pos h3,if_pos (by omega),if_pos (by omega)]
  ·rw [if_neg h3,if_neg (by omega),if_neg (by omega)]
 ·have:P*(b+1)≤P*a:=Nat.mul_le_mul_left _ h
  rw [Nat.mul_add] at this
  rw [if_neg (by split <;> omega),if_neg (by omega)]
theorem B5o (n m k W:Nat) (hm:m≤W) (hW:∃ c,W=2 ^ (64*k)*c):(n+W - m) / 2 ^ (64*k)+Y1 n m k+m / 2 ^ (64*k)=n / 2 ^ (64*k)+W / 2 ^ (64*k):=by
 obtain ⟨c,rfl⟩:=hW
 unfold Y1
 have h1:=Nat.div_add_mod n (2 ^ (64*k))
 have h2:=Nat.div_add_mod m (2 ^ (64*k))
 have hp:0 < 2 ^ (64*k):=Nat.pow_pos (by decide)
 have h3:=Nat.mod_lt n hp
 have h4:=Nat.mod_lt m hp
 generalize 2 ^ (64*k)=P at *
 generalize n / P=a at *
 generalize m / P=b at *
 generalize n % P=r at *
 generalize m % P=s at *
 rw [Nat.mul_div_cancel_left _ hp]
 by_cases h:r < s
 ·rw [if_pos h]
  have hbc:b+1≤c:=by
   rcases Nat.lt_or_ge b c with h5 | h5
   ·exact h5
   ·have:=Nat.mul_le_mul_left P h5;omega
  have e:n+P*c - m=P*(a+c - b - 1)+(r+P - s):=by
   have e1:P*(a+c - b - 1)+P*b+P=P*a+P*c:=by
    rw [← Nat.mul_add,← Nat.mul_succ,← Nat.mul_add];congr 1;omega
   omega
  rw [e,Nat.mul_add_div hp,Nat.div_eq_of_lt (by omega)];omega
 ·rw [if_neg h]
  have hbc:b≤c:=by
   rcases Nat.lt_or_ge c b with h5 | h5
   ·have:=Nat.mul_le_mul_left P (show c+1≤b from h5);rw [Nat.mul_add] at this;omega
   ·exact h5
  have e:n+P*c - m=P*(a+c - b)+(r - s):=by
   have e1:P*(a+c - b)+P*b=P*a+P*c:=by
    rw [← Nat.mul_add,← Nat.mul_add];congr 1;omega
   omega
  rw [e,Nat.mul_add_div hp,Nat.div_eq_of_lt (by omega)];omega
theorem B4n (n m k:Nat) (hm:m < wW) (hk:k < 4):(lim n k+18446744073709551616 - lim m k - Y1 n m k) % 18446744073709551616=lim ((n+wW - m) % wW) k:=by
 rw [B6b _ _ hk]
 have hd:=B5o n m k wW (by omega) ⟨2 ^ (256 - 64*k),by unfold wW;rw [← Nat.pow_add];congr 1;omega⟩
 have hw:wW / 2 ^ (64*k)=18446744073709551616*2 ^ (192 - 64*k):=by
  unfold wW
  rw [show (256:Nat)=64*k+(64+(192 - 64*k)) by omega,Nat.pow_add,Nat.mul_div_cancel_left _ (Nat.pow_pos (by decide)),Nat.pow_add]
 rw [hw] at hd
 have hb:=A7d n m k
 unfold lim
 rw [show (2:Nat) ^ 64=18446744073709551616 from rfl]
 generalize (n+wW - m) / 2 ^ (64*k)=x at *
 generalize n / 2 ^ (64*k)=a at *
 generalize m / 2 ^ (64*k)=b at *
 generalize 2 ^ (192 - 64*k)=c at *
 omega
def T5 (n m:Nat):Int:=if n < m then -1 else if m < n then 1 else 0
theorem A2P (n k:Nat):n / 2 ^ (64*k)=18446744073709551616*(n / 2 ^ (64*(k+1)))+lim n k:=by
 unfold lim
 rw [show 64*(k+1)=64*k+64 by omega,Nat.pow_add,← Nat.div_div_eq_div_mul]
 have:=Nat.div_add_mod (n / 2 ^ (64*k)) (2 ^ 64)
 omega
theorem B4K (n m k:Nat) (h:n / 2 ^ (64*(k+1))=m / 2 ^ (64*(k+1))) (hl:lim n k < lim m k):n < m:=by
 have h1:=A2P n k
 have h2:=A2P m k
 have:n / 2 ^ (64*k) < m / 2 ^ (64*k):=by omega
 exact Nat.lt_of_not_le fun hle=>by have:=Nat.div_le_div_right (c:=2 ^ (64*k)) hle;omega
theorem B8k (n m k:Nat) (h:n / 2 ^ (64*(k+1))=m / 2 ^ (64*(k+1))) (hl:lim n k=lim m k):n / 2 ^ (64*k)=m / 2 ^ (64*k):=by
 rw [A2P n k,A2P m k,h,hl]
end Go.Mun
namespace Go.Proofs.YtfflppedbopdpaaGreat
open Go.RowKit Go.Mun

theorem B9V (x y c:Nat) (hc:c≤1) (w:World):(callFunc 276 #[.int .u64 x,.int .u64 y,.int .u64 c]).run Tryz.prog w =
  .ok (.value (.tuple #[.int .u64 (((x+y+c) % 18446744073709551616:Nat):Int),.int .u64 (((x+y+c) / 18446744073709551616:Nat):Int)])) w:=by
 rw [run_callFunc_extern Tryz.func276 (by kernel_rfl) (by kernel_rfl) (by kernel_rfl) (e:=add64Entry) (by kernel_rfl),run_add64 x y c (by omega) (by omega) (by omega) (by omega)]
 simp only [Result.andThen]
 congr 5 <;> omega
theorem B8Y (x y b:Nat) (hb:b≤1) (w:World):(callFunc 278 #[.int .u64 x,.int .u64 y,.int .u64 b]).run Tryz.prog w =
  .ok (.value (.tuple #[.int .u64 (((x+18446744073709551616 - y - b) % 18446744073709551616:Nat):Int),.int .u64 ((if x < y+b then 1 else 0:Nat):Int)])) w:=by
 rw [run_callFunc_extern Tryz.func278 (by kernel_rfl) (by kernel_rfl) (by kernel_rfl) (e:=sub64Entry) (by kernel_rfl),run_sub64 x y b hb]
 rfl

theorem B50 (n m:Nat) (hn:n < wW) (hm:m < wW) (w:World) :
  Calls Tryz.prog 206 #[.agg (Q4 n).toArray,.agg (Q4 m).toArray] w fun e w'=>e = .returned (.int .i64 (T5 n m))∧Below w.heap.size w w':=by
 have h0:n / 2 ^ (64*(3+1))=m / 2 ^ (64*(3+1)):=by
  rw [show 64*(3+1)=256 from rfl,Nat.div_eq_of_lt (show n < 2 ^ 256 from hn),Nat.div_eq_of_lt (show m < 2 ^ 256 from hm)]
 have H0:=hid h0
 have hl1:(Q4 n).length=4:=by simp
 have hl2:(Q4 m).length=4:=by simp
 clear h0 hn hm
 go_enter Tryz.func206,Tryz.ntmps206
 go_wp2_with fail
 go_loopw [5] (fun i wr => ∃ k:Nat,k≤4∧i = .int .i64 ((k:Int) - 1)∧n / 2 ^ (64*k)=m / 2 ^ (64*k)∧Below w.heap.size w wr∧Arr wr w.heap.size 4 (Q4 n)∧Arr wr (w.heap.size+1) 4 (Q4 m)) (fun i _=>(intOf i+1).toNat)
 case atStart =>
  refine ⟨4,by omega,rfl,H0.out,((Below.refl _ _).alloc (Nat.le_refl _) _).alloc (by simp) _,(Arr.new w 4 (Q4 n) 215 hl1).alloc _,?_⟩
  have:=Arr.new (w.alloc (.cells (Q4 n).toArray 215)) 4 (Q4 m) 215 hl2
  simpa using this
 case round =>
  obtain ⟨k,hk,rfl,hd,hb,ha1,ha2⟩:=hrel
  by_cases h1:1≤k
  ·obtain ⟨j,rfl⟩:∃ j,k=j+1:=⟨k - 1,by omega⟩
   have e1:((j+1:Nat):Int) - 1=(j:Int):=by omega
   rw [e1]
   have hj4:j < 4:=by omega
   have b0:(j:Int) < 4:=by omega
   have c1:=ha1.cell hj4 (A0O n j hj4)
   have c2:=ha2.cell hj4 (A0O m j hj4)
   have d1:wr.drew.cell? ⟨w.heap.size,j,none⟩=some (.int .u64 (lim n j:Nat)):=c1
   have d2:wr.drew.cell? ⟨w.heap.size+1,j,none⟩=some (.int .u64 (lim m j:Nat)):=c2
   have d1':wr.drew.drew.cell? ⟨w.heap.size,j,none⟩=some (.int .u64 (lim n j:Nat)):=c1
   have d2':wr.drew.drew.cell? ⟨w.heap.size+1,j,none⟩=some (.int .u64 (lim m j:Nat)):=c2
   have HD:=hid hd
   have HB:=hid hb
   have HA:=hid (And.intro ha1 ha2)
   have HX:Hid (∀ x y,x=lim n j→y=lim m j→(x < y→n < m)∧(y < x→m < n)∧(x=y→n / 2 ^ (64*j)=m / 2 ^ (64*j))):=by
    rintro x y rfl rfl
    exact ⟨B4K n m j hd,B4K m n j hd.symm,B8k n m j hd⟩
   clear hd hb ha1 ha2 c1 c2 e1
   generalize hx:lim n j=x at *
   generalize hy:lim m j=y at *
   obtain ⟨q1,q2,q3⟩:=HX.out x y rfl rfl
   have HQ:=hid (And.intro q1 (And.intro q2 q3))
   clear q1 q2 q3 hx hy HX
   by_cases hlt:x < y
   ·have b1:(x:Int) < (y:Int):=by omega
    go_wp2_with fail
    refine F4 (by kernel_rfl) (by kernel_rfl) ?_
    repeat still_step
    refine wpStill_nil ?_
    go_wp2
    go_ret
    have:=HQ.out.1 hlt
    refine ⟨by unfold T5;rw [if_pos this];rfl,HB.out.drew⟩
   ·have b1:¬ (x:Int) < (y:Int):=by omega
    by_cases hgt:y < x
    ·have b2:(y:Int) < (x:Int):=by omega
     go_wp2_with fail
     refine F4 (by kernel_rfl) (by kernel_rfl) ?_
     repeat still_step
     refine wpStill_nil ?_
     go_wp2_with fail
     refine F4 (by kernel_rfl) (by kernel_rfl) ?_
     repeat still_step
     refine wpStill_nil ?_
     go_wp2
     go_ret
     have:=HQ.out.2.1 hgt
     refine ⟨by unfold T5;rw [if_neg (by omega),if_pos this];rfl,HB.out.drew.drew⟩
    ·have b2:¬ (y:Int) < (x:Int):=by omega
     have hxy:x=y:=by omega
     have HE:=hid (HQ.out.2.2 hxy)
     clear hxy hlt hgt
     go_wp2_with fail
     refine F4 (by kernel_rfl) (by kernel_rfl) ?_
     repeat still_step
     refine wpStill_nil ?_
     go_wp2_with fail
     refine F4 (by kernel_rfl) (by kernel_rfl) ?_
     repeat still_step
     refine wpStill_nil ?_
     go_wp2_with fail
     go_roundw
     case rel=>exact ⟨j,by omega,rfl,HE.out,HB.out.drew.drew,HA.out.1.drew.drew,HA.out.2.drew.drew⟩
     case measure=>simp [intOf]
  ·obtain rfl:k=0:=by omega
   have he:n=m:=by simpa using hd
   have HE:=hid he
   have HB:=hid hb
   clear hd hb ha1 ha2 he
   go_wp2
   go_ret
   exact ⟨by unfold T5;rw [HE.out,if_neg (by omega),if_neg (by omega)];rfl,HB.out⟩
def pnC (r k:Nat):List Value:=(List.range 4).map fun q => .int .u64 (if q < k then lim r q else 0:Nat)
theorem B5S (r k:Nat):(pnC r k).length=4:=by simp [pnC]
theorem B37 (r:Nat):pnC r 0=U7 4:=by rfl
theorem A8U (r:Nat):pnC r 4=Q4 r:=by
 unfold pnC Q4
 refine List.map_congr_left fun q hq=>?_
 rw [if_pos (List.mem_range.1 hq)]
theorem B5R (r k:Nat) (h:k < 4):(pnC r k).set k (.int .u64 (lim r k:Nat))=pnC r (k+1):=by
 apply List.ext_getElem?
 intro j
 rw [List.getElem?_set]
 by_cases e:k=j
 ·subst e
  rw [if_pos rfl,if_pos (by rw [B5S];exact h)]
  simp [pnC,h]
 ·rw [if_neg e]
  unfold pnC
  by_cases hj:j < 4
  ·simp only [List.getElem?_map,List.getElem?_range hj,Option.map_some]
   congr 3
   by_cases h1:j < k
   ·rw [if_pos h1,if_pos (by omega)]
   ·rw [if_neg h1,if_neg (by omega)]
  ·rw [List.getElem?_eq_none (by simp;omega),List.getElem?_eq_none (by simp;omega)]
structure A4H (w wr:World) (n m r k o:Nat):Prop where
 below:Below w.heap.size w wr
 xs:Arr wr w.heap.size 4 (Q4 n)
 ys:Arr wr (w.heap.size+1) 4 (Q4 m)
 res:wr.free? (w.heap.size+1+1) 0 4=true
 out:Arr wr (w.heap.size+1+1+1) 4 (pnC r k)
theorem A4H.drew {w wr:World} {n m r k o:Nat} (h:A4H w wr n m r k o):A4H w wr.drew n m r k o:=⟨h.below.drew,h.xs.drew,h.ys.drew,h.res,h.out.drew⟩
theorem A4H.start (w:World) (n m r:Nat):A4H w ((((w.alloc (.cells (Q4 n).toArray 215)).alloc (.cells (Q4 m).toArray 215)).alloc (.cells (U7 4).toArray 215)).alloc (.cells (U7 4).toArray 215)) n m r 0 0:=by
 refine ⟨((((Below.refl _ _).alloc (Nat.le_refl _) _).alloc (by simp) _).alloc (by simp;omega) _).alloc (by simp;omega) _,(((Arr.new w 4 (Q4 n) 215 (by simp)).alloc _).alloc _).alloc _,?_,by simp [go_sem],?_⟩
 ·have:=((Arr.new (w.alloc (.cells (Q4 n).toArray 215)) 4 (Q4 m) 215 (by simp)).alloc (.cells (U7 4).toArray 215)).alloc (.cells (U7 4).toArray 215)
  simpa using this
 ·rw [B37]
  have:=Arr.new (((w.alloc (.cells (Q4 n).toArray 215)).alloc (.cells (Q4 m).toArray 215)).alloc (.cells (U7 4).toArray 215)) 4 (U7 4) 215 (by simp)
  simpa using this
theorem A4H.step {w wr:World} {n m r k o:Nat} (h:A4H w wr n m r k o) (hk:k < 4):A4H w (wr.setCell ⟨w.heap.size+1+1+1,k,none⟩ (.int .u64 (lim r k:Nat))) n m r (k+1) o:=by
 refine ⟨h.below.setCell (by simp;omega) _,h.xs.setCell_other (by omega) _,h.ys.setCell_other (by omega) _,by rw [D0];exact h.res,?_⟩
 have:=h.out.set hk (.int .u64 (lim r k:Nat))
 rwa [B5R r k hk] at this

theorem A4N (n m:Nat) (hn:n < wW) (hm:m < wW) (w:World) :
  Calls Tryz.prog 192 #[.agg (Q4 n).toArray,.agg (Q4 m).toArray] w fun e w'=>e = .returned (.tuple #[.agg (Q4 (n+m)).toArray,.int .u64 ((n+m) / wW:Nat)])∧Below w.heap.size w w':=by
 have hl1:(Q4 n).length=4:=by simp
 have hl2:(Q4 m).length=4:=by simp
 have HC:=hid (B27 n m hn hm)
 clear hn hm
 go_enter Tryz.func192,Tryz.ntmps192
 go_wp2_with fail
 go_loopw [9,7] (fun i c wr => ∃ k:Nat,k≤4∧i = .int .i64 k∧c = .int .u64 (A0b n m k:Nat)∧A4H w wr n m (n+m) k 0) (fun i _ _=>4 - (intOf i).toNat)
 case atStart =>
  refine ⟨0,by omega,rfl,?_,A4H.start w n m _⟩
  simp [A0b]
 case round =>
  obtain ⟨k,hk,rfl,rfl,hr⟩:=hrel
  by_cases hlt:k < 4
  ·have b0:(k:Int) < 4:=by omega
   have d1:wr.drew.cell? ⟨w.heap.size,k,none⟩=some (.int .u64 (lim n k:Nat)):=hr.xs.cell hlt (A0O n k hlt)
   have d2:wr.drew.cell? ⟨w.heap.size+1,k,none⟩=some (.int .u64 (lim m k:Nat)):=hr.ys.cell hlt (A0O m k hlt)
   have f0:wr.drew.free? (w.heap.size+1+1+1) k 1=true:=hr.out.free1 hlt
   have ha:=fun w'=>B9V (lim n k) (lim m k) (A0b n m k) (B4M n m k) w'
   have HL:Hid ((lim n k+lim m k+A0b n m k) % 18446744073709551616=lim (n+m) k∧(lim n k+lim m k+A0b n m k) / 18446744073709551616=A0b n m (k+1)):=⟨B6a n m k,B0G n m k⟩
   have HR:=hid hr
   rw [HL.out.1,HL.out.2] at ha
   have m6:IntKind.i64.wrap (k:Int)=(k:Int):=U6 _ (by omega) (by omega)
   clear hr HL
   generalize hx:lim n k=x at *
   generalize hy:lim m k=y at *
   generalize hz:lim (n+m) k=z at *
   generalize hc:A0b n m k=c at *
   generalize hc':A0b n m (k+1)=c' at *
   have HZ:=hid hz
   have HC':=hid hc'
   clear hx hy hz hc hc'
   go_wp2_with fail
   obtain ⟨T,hT⟩:∃ T:World→Prop,T=fun w'=>w'.cell? ⟨w.heap.size,k,none⟩=some (.int .u64 x)∧w'.cell? ⟨w.heap.size+1,k,none⟩=some (.int .u64 y):=⟨_,rfl⟩
   have HT:=hid hT
   have t0:T wr.drew:=by rw [hT];exact ⟨d1,d2⟩
   clear hT
   refine S8 T [0,1,2,3,4,5,6,7,8,9,10,11,12] [13,14] (by kernel_rfl) (by kernel_rfl) t0 ?_
   refine A6 (.int .i64 k) rfl (by rfl) (fun w' hs=>?_) (fun _ _ _ h=>h) ?_
   ·go_simp
   refine A6 (.int .i64 k) rfl (by rfl) (fun w' hs=>?_) (fun _ _ _ h=>h) ?_
   ·go_simp
   refine A6 (.pointer (some ⟨w.heap.size,k,none⟩)) rfl (by rfl) (fun w' hs=>?_) (fun _ _ _ h=>h) ?_
   ·go_simp
   refine A6 (.int .u64 x) rfl (by rfl) (fun w' hs=>?_) (fun _ _ _ h=>h) ?_
   ·rw [HT.out] at hs
    obtain ⟨s1,s2⟩:=hs
    go_simp
   refine A6 (.int .i64 k) rfl (by rfl) (fun w' hs=>?_) (fun _ _ _ h=>h) ?_
   ·go_simp
   refine A6 (.pointer (some ⟨w.heap.size+1,k,none⟩)) rfl (by rfl) (fun w' hs=>?_) (fun _ _ _ h=>h) ?_
   ·go_simp
   refine A6 (.int .u64 y) rfl (by rfl) (fun w' hs=>?_) (fun _ _ _ h=>h) ?_
   ·rw [HT.out] at hs
    obtain ⟨s1,s2⟩:=hs
    go_simp
   refine A6 (.int .u64 c) rfl (by rfl) (fun w' hs=>?_) (fun _ _ _ h=>h) ?_
   ·go_simp
   refine A6 (.tuple #[.int .u64 z,.int .u64 c']) rfl (by rfl) (fun w' hs=>?_) (fun _ _ _ h=>h) ?_
   ·go_simp
   refine A6 (.tuple #[.int .u64 z,.int .u64 c']) rfl (by rfl) (fun w' hs=>?_) (fun _ _ _ h=>h) ?_
   ·go_simp
   refine A6 (.int .u64 z) rfl (by rfl) (fun w' hs=>?_) (fun _ _ _ h=>h) ?_
   ·go_simp
   refine A6 (.int .u64 c') rfl (by rfl) (fun w' hs=>?_) (fun _ _ _ h=>h) ?_
   ·go_simp
   refine A6 (.pointer (some ⟨w.heap.size+1+1+1,k,none⟩)) rfl (by rfl) (fun w' hs=>?_) (fun _ _ _ h=>h) ?_
   ·go_simp
   refine P5 ?_
   simp only [Act.put,D7,D6,D5]
   have t1:T (wr.drew.setCell ⟨w.heap.size+1+1+1,k,none⟩ (.int .u64 z)):=by
    rw [HT.out] at t0 ⊢
    exact ⟨(World.cell?_setCell_other _ _ _ _ (by simp <;> omega)).trans t0.1,(World.cell?_setCell_other _ _ _ _ (by simp <;> omega)).trans t0.2⟩
   refine C5 rfl (fun K hK=>?_)
   go_simp
   refine hK.out _ _ t1 ?_
   clear hK K
   refine C5 rfl (fun K hK=>?_)
   go_simp
   refine hK.out _ _ t1 (V4 ?_)
   clear hK K
   go_wp2_with fail
   go_roundw
   case rel=>exact ⟨k+1,by omega,by go_num,by rw [HC'.out],by rw [← HZ.out];exact (HR.out.step hlt).drew⟩
   case measure=>simp [intOf];omega
  ·obtain rfl:k=4:=by omega
   have hr1:=hr.out.row
   rw [A8U] at hr1
   have hf:=hr.res
   have hok:=A0k (n+m)
   rw [HC.out]
   have HB:=hid hr.below
   clear hr
   go_wp2
   exact A1I A8m rfl _ _ rfl rfl rfl (B7 _ hf hok) ⟨rfl,HB.out.setCells (by omega) _ _⟩
theorem B5Z (n m:Nat) (hn:n < wW) (hm:m < wW) (w:World) :
  Calls Tryz.prog 195 #[.agg (Q4 n).toArray,.agg (Q4 m).toArray] w fun e w'=>e = .returned (.agg (Q4 ((n+wW - m) % wW)).toArray)∧Below w.heap.size w w':=by
 have hl1:(Q4 n).length=4:=by simp
 have hl2:(Q4 m).length=4:=by simp
 have HM:=hid hm
 clear hn hm
 go_enter Tryz.func195,Tryz.ntmps195
 go_wp2_with fail
 go_loopw [8,6] (fun i c wr => ∃ k:Nat,k≤4∧i = .int .i64 k∧c = .int .u64 (Y1 n m k:Nat)∧A4H w wr n m ((n+wW - m) % wW) k 0) (fun i _ _=>4 - (intOf i).toNat)
 case atStart =>
  refine ⟨0,by omega,rfl,?_,A4H.start w n m _⟩
  simp [Y1,Nat.mod_one]
 case round =>
  obtain ⟨k,hk,rfl,rfl,hr⟩:=hrel
  by_cases hlt:k < 4
  ·have b0:(k:Int) < 4:=by omega
   have d1:wr.drew.cell? ⟨w.heap.size,k,none⟩=some (.int .u64 (lim n k:Nat)):=hr.xs.cell hlt (A0O n k hlt)
   have d2:wr.drew.cell? ⟨w.heap.size+1,k,none⟩=some (.int .u64 (lim m k:Nat)):=hr.ys.cell hlt (A0O m k hlt)
   have f0:wr.drew.free? (w.heap.size+1+1+1) k 1=true:=hr.out.free1 hlt
   have ha:=fun w'=>B8Y (lim n k) (lim m k) (Y1 n m k) (A7d n m k) w'
   have HL:Hid ((lim n k+18446744073709551616 - lim m k - Y1 n m k) % 18446744073709551616=lim ((n+wW - m) % wW) k∧(if lim n k < lim m k+Y1 n m k then 1 else 0)=Y1 n m (k+1)):=⟨B4n n m k HM.out hlt,A9u n m k⟩
   have HR:=hid hr
   rw [HL.out.1,HL.out.2] at ha
   have m6:IntKind.i64.wrap (k:Int)=(k:Int):=U6 _ (by omega) (by omega)
   clear hr HL
   generalize hx:lim n k=x at *
   generalize hy:lim m k=y at *
   generalize hz:lim ((n+wW - m) % wW) k=z at *
   generalize hc:Y1 n m k=c at *
   generalize hc':Y1 n m (k+1)=c' at *
   have HZ:=hid hz
   have HC':=hid hc'
   clear hx hy hz hc hc'
   go_wp2_with fail
   obtain ⟨T,hT⟩:∃ T:World→Prop,T=fun w'=>w'.cell? ⟨w.heap.size,k,none⟩=some (.int .u64 x)∧w'.cell? ⟨w.heap.size+1,k,none⟩=some (.int .u64 y):=⟨_,rfl⟩
   have HT:=hid hT
   have t0:T wr.drew:=by rw [hT];exact ⟨d1,d2⟩
   clear hT
   refine S8 T [0,1,2,3,4,5,6,7,8,9,10,11,12] [13,14] (by kernel_rfl) (by kernel_rfl) t0 ?_
   refine A6 (.int .i64 k) rfl (by rfl) (fun w' hs=>?_) (fun _ _ _ h=>h) ?_
   ·go_simp
   refine A6 (.int .i64 k) rfl (by rfl) (fun w' hs=>?_) (fun _ _ _ h=>h) ?_
   ·go_simp
   refine A6 (.pointer (some ⟨w.heap.size,k,none⟩)) rfl (by rfl) (fun w' hs=>?_) (fun _ _ _ h=>h) ?_
   ·go_simp
   refine A6 (.int .u64 x) rfl (by rfl) (fun w' hs=>?_) (fun _ _ _ h=>h) ?_
   ·rw [HT.out] at hs
    obtain ⟨s1,s2⟩:=hs
    go_simp
   refine A6 (.int .i64 k) rfl (by rfl) (fun w' hs=>?_) (fun _ _ _ h=>h) ?_
   ·go_simp
   refine A6 (.pointer (some ⟨w.heap.size+1,k,none⟩)) rfl (by rfl) (fun w' hs=>?_) (fun _ _ _ h=>h) ?_
   ·go_simp
   refine A6 (.int .u64 y) rfl (by rfl) (fun w' hs=>?_) (fun _ _ _ h=>h) ?_
   ·rw [HT.out] at hs
    obtain ⟨s1,s2⟩:=hs
    go_simp
   refine A6 (.int .u64 c) rfl (by rfl) (fun w' hs=>?_) (fun _ _ _ h=>h) ?_
   ·go_simp
   refine A6 (.tuple #[.int .u64 z,.int .u64 c']) rfl (by rfl) (fun w' hs=>?_) (fun _ _ _ h=>h) ?_
   ·go_simp
   refine A6 (.tuple #[.int .u64 z,.int .u64 c']) rfl (by rfl) (fun w' hs=>?_) (fun _ _ _ h=>h) ?_
   ·go_simp
   refine A6 (.int .u64 z) rfl (by rfl) (fun w' hs=>?_) (fun _ _ _ h=>h) ?_
   ·go_simp
   refine A6 (.int .u64 c') rfl (by rfl) (fun w' hs=>?_) (fun _ _ _ h=>h) ?_
   ·go_simp
   refine A6 (.pointer (some ⟨w.heap.size+1+1+1,k,none⟩)) rfl (by rfl) (fun w' hs=>?_) (fun _ _ _ h=>h) ?_
   ·go_simp
   refine P5 ?_
   simp only [Act.put,D7,D6,D5]
   have t1:T (wr.drew.setCell ⟨w.heap.size+1+1+1,k,none⟩ (.int .u64 z)):=by
    rw [HT.out] at t0 ⊢
    exact ⟨(World.cell?_setCell_other _ _ _ _ (by simp <;> omega)).trans t0.1,(World.cell?_setCell_other _ _ _ _ (by simp <;> omega)).trans t0.2⟩
   refine C5 rfl (fun K hK=>?_)
   go_simp
   refine hK.out _ _ t1 ?_
   clear hK K
   refine C5 rfl (fun K hK=>?_)
   go_simp
   refine hK.out _ _ t1 (V4 ?_)
   clear hK K
   go_wp2_with fail
   go_roundw
   case rel=>exact ⟨k+1,by omega,by go_num,by rw [HC'.out],by rw [← HZ.out];exact (HR.out.step hlt).drew⟩
   case measure=>simp [intOf];omega
  ·obtain rfl:k=4:=by omega
   have hr1:=hr.out.row
   rw [A8U] at hr1
   have hf:=hr.res
   have hok:=A0k ((n+wW - m) % wW)
   have HB:=hid hr.below
   clear hr
   go_wp2
   exact I2 A8m rfl _ rfl rfl hf hok ⟨rfl,HB.out.setCells (by omega) _ _⟩
end Go.Proofs.YtfflppedbopdpaaGreat
