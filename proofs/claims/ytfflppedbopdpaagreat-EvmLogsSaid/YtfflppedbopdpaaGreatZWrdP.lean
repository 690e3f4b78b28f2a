/- A part of the proof of EvmLogs: ZWrdP. -/
import Derived.Test.YtfflppedbopdpaaGreatZSta
import Derived.Laws.BitsAllLaws
import Derived.Test.YtfflppedbopdpaaGreatZTy3
import Derived.Test.YtfflppedbopdpaaGreatZFrm2
import Derived.Test.YtfflppedbopdpaaGreatZSeq
set_option linter.unusedVariables false
set_option maxRecDepth 1000000
set_option maxHeartbeats 8000000
set_option linter.unusedSimpArgs false
namespace Go.Mun
open Go.RowKit

def lim (n q:Nat):Nat:=n / 2 ^ (64*q) % 2 ^ 64
theorem B0e (n q:Nat):lim n q < 18446744073709551616:=Nat.mod_lt _ (by decide)
theorem A04 (a b:Nat) (h:a≤b):2 ^ b=2 ^ a*2 ^ (b - a):=by rw [← Nat.pow_add];congr 1;omega
theorem B6c (c b k q:Nat) (hb:b < 256):lim (2 ^ (8*(k+1))*c+b*2 ^ (8*k)) q=lim (2 ^ (8*(k+1))*c) q+if q=k / 8 then b*2 ^ (8*(k % 8)) else 0:=by
 have hk:2 ^ (8*(k+1))=2 ^ (8*k)*256:=by rw [show 8*(k+1)=8*k+8 by omega,Nat.pow_add]
 have e0:2 ^ (8*(k+1))*c+b*2 ^ (8*k)=2 ^ (8*k)*(256*c+b):=by rw [hk,Nat.mul_add,Nat.mul_assoc,Nat.mul_comm b]
 have e1:2 ^ (8*(k+1))*c=2 ^ (8*k)*(256*c):=by rw [hk,Nat.mul_assoc]
 rw [e0,e1]
 unfold lim
 rcases Nat.lt_trichotomy q (k / 8) with h | h | h
 ·rw [if_neg (by omega),A04 (64*q) (8*k) (by omega),Nat.mul_assoc,Nat.mul_assoc,Nat.mul_div_cancel_left _ (Nat.pow_pos (by decide)),Nat.mul_div_cancel_left _ (Nat.pow_pos (by decide)),
   A04 64 (8*k - 64*q) (by omega),Nat.mul_assoc,Nat.mul_assoc,Nat.mul_mod_right,Nat.mul_mod_right]
 ·rw [if_pos h,h,A04 (64*(k / 8)) (8*k) (by omega),Nat.mul_assoc,Nat.mul_assoc,Nat.mul_div_cancel_left _ (Nat.pow_pos (by decide)),Nat.mul_div_cancel_left _ (Nat.pow_pos (by decide))]
  rw [show 8*k - 64*(k / 8)=8*(k % 8) by omega]
  have h64:2 ^ 64=2 ^ (8*(k % 8))*2 ^ (64 - 8*(k % 8)):=A04 _ _ (by omega)
  rw [h64,Nat.mul_mod_mul_left,Nat.mul_mod_mul_left,Nat.mul_comm b,← Nat.mul_add]
  congr 1
  have h56:2 ^ (64 - 8*(k % 8))=256*2 ^ (56 - 8*(k % 8)):=by rw [show (256:Nat)=2 ^ 8 from rfl,← Nat.pow_add];congr 1;omega
  rw [h56,Nat.mul_mod_mul_left,Nat.mod_mul]
  have:(256*c+b) / 256=c:=by omega
  rw [this];omega
 ·rw [if_neg (by omega),Nat.add_zero]
  have hp:2 ^ (64*q)=2 ^ (8*k)*(256*2 ^ (64*q - 8*k - 8)):=by
   rw [show (256:Nat)=2 ^ 8 from rfl,← Nat.pow_add,← Nat.pow_add];congr 1;omega
  rw [hp,Nat.mul_div_mul_left _ _ (Nat.pow_pos (by decide)),Nat.mul_div_mul_left _ _ (Nat.pow_pos (by decide)),← Nat.div_div_eq_div_mul,← Nat.div_div_eq_div_mul]
  congr 2
  omega
def A0a (n i:Nat):Nat:=2 ^ (8*(32 - i))*(n / 2 ^ (8*(32 - i)))
theorem B0k (n:Nat) (h:n < wW):A0a n 0=0:=by
 unfold A0a
 rw [Nat.div_eq_of_lt (by unfold wW at h;exact h)]
theorem B2P (n:Nat):A0a n 32=n:=by simp [A0a]
theorem B0l (n i:Nat) (h:i < 32):A0a n (i+1)=2 ^ (8*(31 - i+1))*(n / 2 ^ (8*(32 - i)))+(n / 256 ^ (31 - i) % 256)*2 ^ (8*(31 - i)):=by
 unfold A0a
 have e:32 - (i+1)=31 - i:=by omega
 have e2:32 - i=31 - i+1:=by omega
 rw [e,e2]
 generalize 31 - i=k
 have hk:2 ^ (8*(k+1))=2 ^ (8*k)*256:=by rw [show 8*(k+1)=8*k+8 by omega,Nat.pow_add]
 have h256:256 ^ k=2 ^ (8*k):=by rw [show (256:Nat)=2 ^ 8 from rfl,← Nat.pow_mul]
 rw [h256,hk,← Nat.div_div_eq_div_mul,Nat.mul_assoc,Nat.mul_comm (n / 2 ^ (8*k) % 256),← Nat.mul_add]
 congr 1
 omega
theorem A83 (n i q:Nat) (h:i < 32):lim (A0a n (i+1)) q=lim (A0a n i) q+if q=(31 - i) / 8 then (n / 256 ^ (31 - i) % 256)*2 ^ (8*((31 - i) % 8)) else 0:=by
 rw [B0l n i h,B6c _ _ _ _ (Nat.mod_lt _ (by decide))]
 unfold A0a
 rw [show 32 - i=31 - i+1 by omega]
theorem A7Q (n i:Nat) (h:i < 32):∃ c,lim (A0a n i) ((31 - i) / 8)=2 ^ (8*((31 - i) % 8)+8)*c:=by
 unfold A0a lim
 rw [show 32 - i=31 - i+1 by omega]
 generalize 31 - i=k at *
 rw [A04 (64*(k / 8)) (8*(k+1)) (by omega),Nat.mul_assoc,Nat.mul_div_cancel_left _ (Nat.pow_pos (by decide)),show 8*(k+1) - 64*(k / 8)=8*(k % 8)+8 by omega,
  show 2 ^ 64=2 ^ (8*(k % 8)+8)*2 ^ (64 - (8*(k % 8)+8)) from A04 _ _ (by omega),Nat.mul_mod_mul_left]
 exact ⟨_,rfl⟩
theorem B7Y (n i:Nat) (h:i < 32):bits .or .u64 ((lim (A0a n i) ((31 - i) / 8):Nat):Int) (((n / 256 ^ (31 - i) % 256)*2 ^ (8*((31 - i) % 8)):Nat):Int)=((lim (A0a n (i+1)) ((31 - i) / 8):Nat):Int):=by
 have hb:(n / 256 ^ (31 - i) % 256)*2 ^ (8*((31 - i) % 8)) < 2 ^ (8*((31 - i) % 8)+8):=by
  rw [Nat.pow_add,Nat.mul_comm];exact Nat.mul_lt_mul_of_pos_left (Nat.mod_lt _ (by decide)) (Nat.pow_pos (by decide))
 have h64:(n / 256 ^ (31 - i) % 256)*2 ^ (8*((31 - i) % 8)) < 18446744073709551616:=by
  refine Nat.lt_of_lt_of_le hb ?_
  exact Nat.pow_le_pow_right (by decide) (show 8*((31 - i) % 8)+8≤64 by omega)
 rw [u64_or_nat _ _ (B0e _ _) h64,A83 n i _ h,if_pos rfl]
 obtain ⟨c,hc⟩:=A7Q n i h
 rw [hc,Nat.two_pow_add_eq_or_of_lt hb]
theorem B4o (n k:Nat):lim n (k / 8) / 2 ^ (8*(k % 8)) % 256=n / 256 ^ k % 256:=by
 unfold lim
 have h1:2 ^ 64=2 ^ (8*(k % 8))*(256*2 ^ (56 - 8*(k % 8))):=by rw [show (256:Nat)=2 ^ 8 from rfl,← Nat.pow_add,← Nat.pow_add];congr 1;omega
 rw [h1,Nat.mod_mul_right_div_self,Nat.mod_mul_right_mod,Nat.div_div_eq_div_mul,← Nat.pow_add,show 64*(k / 8)+8*(k % 8)=8*k by omega,show (256:Nat) ^ k=2 ^ (8*k) by rw [show (256:Nat)=2 ^ 8 from rfl,← Nat.pow_mul]]

def Q4 (n:Nat):List Value:=(List.range 4).map fun q => .int .u64 (lim n q:Nat)
@[go_sem,simp] theorem B97 (n:Nat):(Q4 n).length=4:=by simp [Q4]
@[go_sem,simp] theorem A0k (n:Nat):Q3 4 (Q4 n)=true:=rfl
theorem A0O (n q:Nat) (h:q < 4):(Q4 n)[q]? = some (.int .u64 (lim n q:Nat)):=by simp [Q4,h]
theorem B52 (n m q:Nat) (h:∀ j,j < 4→lim m j=if j=q then lim m q else lim n j):(Q4 n).set q (.int .u64 (lim m q:Nat))=Q4 m:=by
 apply List.ext_getElem?
 intro j
 rw [List.getElem?_set]
 by_cases hj:j < 4
 ·rw [A0O m j hj,A0O n j hj,h j hj]
  by_cases e:q=j
  ·subst e;simp [hj]
  ·rw [if_neg e,if_neg (Ne.symm e)]
 ·rw [List.getElem?_eq_none (by simp;omega),List.getElem?_eq_none (by simp;omega)]
  split
  ·split
   ·rename_i h1 h2;simp at h2;omega
   ·rfl
  ·rfl
end Go.Mun
namespace Go.Proofs.YtfflppedbopdpaaGreat
open Go.RowKit Go.Mun

theorem B68:U7 4=Q4 0:=by rfl
theorem B41 (n i:Nat) (h:i < 32):(A3 32 n)[i]? = some (.int .u8 ((n / 256 ^ (31 - i) % 256:Nat):Int)):=by
 simp [A3,be,h]
structure B1T (w wr:World) (n i:Nat):Prop where
 below:Below w.heap.size w wr
 arr:Arr wr (w.heap.size+1+1) 4 (Q4 (A0a n i))
 free:wr.free? (w.heap.size+1) 0 4=true
theorem B1T.drew {w wr:World} {n i:Nat} (h:B1T w wr n i):B1T w wr.drew n i:=⟨h.below.drew,h.arr.drew,h.free⟩

theorem V5 (n:Nat) (hn:n < wW) (w:World) :
  Calls Tryz.prog 191 #[.agg (A3 32 n).toArray] w fun e w'=>e = .returned (.agg (Q4 n).toArray)∧Below w.heap.size w w':=by
 have hl:(A3 32 n).length=32:=by simp
 have hix:∀ (i:Nat),i < 32→∀ w',(Instr.index 25 (.agg (A3 32 n).toArray) (.int .i64 i)).run Tryz.prog w' = .ok (.int .u8 ((n / 256 ^ (31 - i) % 256:Nat):Int)) w':=by
  intro i hi w'
  exact A6e Tryz.underlying25 Tryz.underlying5 (by kernel_rfl) (A3 32 n) i hi (B41 n i hi) w'
 have HIx:=hid hix
 have hz:=B0k n hn
 have HZ:=hid hz
 clear hix hz
 go_enter Tryz.func191,Tryz.ntmps191
 go_wp2_with fail
 go_loopw [8] (fun i wr => ∃ k:Nat,k≤32∧i = .int .i64 k∧B1T w wr n k) (fun i _=>32 - (intOf i).toNat)
 case atStart =>
  refine ⟨0,by omega,rfl,(((Below.refl _ _).alloc (Nat.le_refl _) _).alloc (by simp) _).alloc (by simp;omega) _,?_,by simp [go_sem]⟩
  rw [HZ.out]
  have:=Arr.new ((w.alloc (.cells (A3 32 n).toArray 25)).alloc (.cells (U7 4).toArray 215)) 4 (Q4 0) 215 rfl
  simpa [B68] using this
 case round =>
  obtain ⟨k,hk,rfl,hr⟩:=hrel
  by_cases hlt:k < 32
  ·obtain ⟨y,ey⟩:∃ y:Nat,y=n / 256 ^ (31 - k) % 256:=⟨_,rfl⟩
   have hi:=HIx.out k hlt wr
   rw [← ey] at hi
   have hy:y < 256:=by omega
   obtain ⟨kk,ek⟩:∃ kk,kk=31 - k:=⟨_,rfl⟩
   obtain ⟨j,ej⟩:∃ j,j=kk / 8:=⟨_,rfl⟩
   obtain ⟨r,er⟩:∃ j,j=kk % 8:=⟨_,rfl⟩
   obtain ⟨q,eq⟩:∃ j,j=8*r:=⟨_,rfl⟩
   have hj4:j < 4:=by omega
   have c0:wr.drew.cell? ⟨w.heap.size+1+1,j,none⟩=some (.int .u64 (lim (A0a n k) j:Nat)):=hr.arr.cell hj4 (A0O _ _ hj4)
   have f0:wr.drew.free? (w.heap.size+1+1) j 1=true:=hr.arr.free1 hj4
   have b0:(j:Int) < 4:=by omega
   have p31:(31:Int) - (k:Int)=(kk:Int):=by omega
   have p31':IntKind.i64.wrap ((31:Int) - (k:Int))=(kk:Int):=by rw [U6 _ (by omega) (by omega)];omega
   have m1:(kk:Int).tdiv 8=(j:Int):=by rw [Int.tdiv_eq_ediv_of_nonneg (by omega)];omega
   have m2:(kk:Int).tmod 8=(r:Int):=by rw [Int.tmod_eq_emod_of_nonneg (by omega)];omega
   have m1':(kk:Int) / 8=(j:Int):=by omega
   have m2':(kk:Int) % 8=(r:Int):=by omega
   have m3:IntKind.i64.wrap (8*(r:Int))=(q:Int):=by rw [U6 _ (by omega) (by omega)];omega
   have m4:IntKind.u64.wrap (y:Int)=(y:Int):=wrU _ (by omega) (by omega)
   have m5:¬ 64 < q:=by omega
   have m6:IntKind.i64.wrap (j:Int)=(j:Int):=U6 _ (by omega) (by omega)
   have m7:min q 64=q:=by omega
   have hq64:(q:Int)≤64:=by omega
   have hpow:y*2 ^ q < 18446744073709551616:=by
    have h1:y*2 ^ q < 256*2 ^ q:=Nat.mul_lt_mul_of_pos_right hy (Nat.pow_pos (by decide))
    have h2:256*2 ^ q≤2 ^ 64:=by
     rw [show (256:Nat)=2 ^ 8 from rfl,← Nat.pow_add];exact Nat.pow_le_pow_right (by decide) (by omega)
    omega
   have m8:IntKind.u64.wrap ((y:Int)*2 ^ q)=((y*2 ^ q:Nat):Int):=by
    rw [show ((y:Int)*2 ^ q)=((y*2 ^ q:Nat):Int) by push_cast;rfl];exact wrU _ (by omega) (by omega)
   have hor:=B7Y n k hlt
   rw [← ey,← ek,← ej,← er,← eq] at hor
   have HOr:=hid hor
   have HP:=hid m8
   have HL:Hid (∀ q',q' < 4→lim (A0a n (k+1)) q'=if q'=j then lim (A0a n (k+1)) j else lim (A0a n k) q'):=by
    intro q' _
    have h1:=A83 n k q' hlt
    rw [← ek,← ej] at h1
    by_cases e:q'=j
    ·rw [if_pos e,e]
    ·rw [if_neg e,h1,if_neg e,Nat.add_zero]
   have HR:=hid hr.drew
   clear hr ey ek ej er eq hor hpow m8
   generalize lim (A0a n k) j=x at *
   go_wp2_with fail
   refine A7j 12 (by kernel_rfl) (by kernel_rfl) ?_
   simp only [List.take_succ_cons,List.take_zero,List.drop_succ_cons,List.drop_zero]
   repeat still_step
   refine wpStill_nil ?_
   generalize wr.drew=wd at *
   go_wp2
   go_roundw
   case rel =>
    refine ⟨k+1,by omega,by go_num,HR.out.below.setCell (by simp;omega) _,?_,by rw [D0];exact HR.out.free⟩
    rw [HP.out,HOr.out]
    have:=HR.out.arr.set hj4 (.int .u64 (lim (A0a n (k+1)) j:Nat))
    rwa [B52 _ _ _ HL.out] at this
   case measure=>simp [intOf];omega
  ·obtain rfl:k=32:=by omega
   have hr1:=hr.arr.row
   rw [B2P] at hr1
   have hf:=hr.free
   have hok:=A0k n
   have HB:=hid hr.below
   clear hr
   go_wp2
   exact I2 A8m rfl _ rfl rfl hf hok ⟨rfl,HB.out.setCells (by omega) _ _⟩

structure ToW (w wr:World) (n k:Nat):Prop where
 below:Below w.heap.size w wr
 xs:Arr wr w.heap.size 4 (Q4 n)
 res:wr.free? (w.heap.size+1) 0 32=true
 out:Arr wr (w.heap.size+1+1) 32 (beZ 32 n k)
theorem A3y (n:Nat) (w:World) :
  Calls Tryz.prog 193 #[.agg (Q4 n).toArray] w fun e w'=>e = .returned (.agg (A3 32 n).toArray)∧Below w.heap.size w w':=by
 have hl:(Q4 n).length=4:=by simp
 go_enter Tryz.func193,Tryz.ntmps193
 go_wp2_with fail
 go_loopw [6] (fun i wr => ∃ k:Nat,k≤32∧i = .int .i64 k∧ToW w wr n k) (fun i _=>32 - (intOf i).toNat)
 case atStart =>
  refine ⟨0,by omega,rfl,(((Below.refl _ _).alloc (Nat.le_refl _) _).alloc (by simp) _).alloc (by simp;omega) _,?_,by simp [go_sem],?_⟩
  ·exact ((Arr.new w 4 (Q4 n) 215 hl).alloc _).alloc _
  ·rw [B42]
   have:=Arr.new ((w.alloc (.cells (Q4 n).toArray 215)).alloc (.cells (J4 32).toArray 25)) 32 (J4 32) 25 (by simp)
   simpa using this
 case round =>
  obtain ⟨k,hk,rfl,hr⟩:=hrel
  by_cases hlt:k < 32
  ·obtain ⟨kk,ek⟩:∃ kk,kk=31 - k:=⟨_,rfl⟩
   obtain ⟨j,ej⟩:∃ j,j=kk / 8:=⟨_,rfl⟩
   obtain ⟨r,er⟩:∃ j,j=kk % 8:=⟨_,rfl⟩
   obtain ⟨q,eq⟩:∃ j,j=8*r:=⟨_,rfl⟩
   have hj4:j < 4:=by omega
   have c0:wr.cell? ⟨w.heap.size,j,none⟩=some (.int .u64 (lim n j:Nat)):=hr.xs.cell hj4 (A0O _ _ hj4)
   have f0:wr.free? (w.heap.size+1+1) k 1=true:=hr.out.free1 hlt
   have b0:(j:Int) < 4:=by omega
   have p31:(31:Int) - (k:Int)=(kk:Int):=by omega
   have m1:(kk:Int).tdiv 8=(j:Int):=by rw [Int.tdiv_eq_ediv_of_nonneg (by omega)];omega
   have m2:(kk:Int).tmod 8=(r:Int):=by rw [Int.tmod_eq_emod_of_nonneg (by omega)];omega
   have m1':(kk:Int) / 8=(j:Int):=by omega
   have m2':(kk:Int) % 8=(r:Int):=by omega
   have m3:IntKind.i64.wrap (8*(r:Int))=(q:Int):=by rw [U6 _ (by omega) (by omega)];omega
   have m5:¬ 64 < q:=by omega
   have m6:IntKind.i64.wrap (j:Int)=(j:Int):=U6 _ (by omega) (by omega)
   have m7:min q 64=q:=by omega
   have hq64:(q:Int)≤64:=by omega
   have HL:Hid (lim n j / 2 ^ q % 256=n / 256 ^ (31 - k) % 256):=by
    unfold Hid
    rw [eq,er,ej,← ek];exact B4o n kk
   have HR:=hid hr
   have hlim:=B0e n j
   clear hr ek ej er eq
   generalize hx:lim n j=x at *
   go_wp2_with fail
   go_roundw
   case rel =>
    refine ⟨k+1,by omega,by go_num,HR.out.below.setCell (by simp;omega) _,?_,by rw [D0];exact HR.out.res,?_⟩
    ·exact HR.out.xs.setCell_other (by omega) _
    ·have:=HR.out.out.set hlt (.int .u8 ((n / 256 ^ (31 - k) % 256:Nat):Int))
     rw [← Z2 _ _ _ (by rw [B1J _ _ _ (by omega)];exact hlt),B6J 32 n k hlt _ rfl] at this
     have e:((x:Int) / 2 ^ q % 256)=((n / 256 ^ (31 - k) % 256:Nat):Int):=by rw [← HL.out];simp
     rw [e];exact this
   case measure=>simp [intOf];omega
  ·obtain rfl:k=32:=by omega
   have hr1:=hr.out.row
   rw [B43] at hr1
   have hf:=hr.res
   have hok:=D2 32 n
   have HB:=hid hr.below
   clear hr
   go_wp2
   exact I2 A28 rfl _ rfl rfl hf hok ⟨rfl,HB.out.setCells (by omega) _ _⟩
end Go.Proofs.YtfflppedbopdpaaGreat
