/- A part of the proof of EvmLoops: XRw0. -/
import Derived.Test.YtfflppedbopdpaaGreatXWrd4
import Derived.Test.YtfflppedbopdpaaGreatXOps3
import Derived.StillTailTactics
import Derived.Shelf.SlGeneric
import Derived.Shelf.SlSortCmp.NoneTotal
import Derived.Ground.SlsfProg
import Derived.Test.YtfflppedbopdpaaGreatProg
import Derived.Test.YtfflppedbopdpaaGreatXCx0
import Derived.Lib.Hide
import Derived.Test.YtfflppedbopdpaaGreatXPlain
import Derived.RangeFuncNested
import Derived.RangeFuncBound
import Derived.RangeFuncCalls
import Derived.RangeFuncLeaves
import Derived.Shelf.Abstract
import Derived.Shelf.RegionOpen
import Derived.WalkKit
import Derived.OwnWalkIn
import Derived.TacticsInMore
import Derived.LoopNIn
import Derived.LoopIn
import Derived.Maps.AppendAt
import Derived.Test.YtfflppedbopdpaaGreatXEv1
import Derived.Test.YtfflppedbopdpaaGreatXSt2
set_option linter.unusedVariables false
set_option maxRecDepth 1000000
set_option maxHeartbeats 8000000
set_option linter.unusedSimpArgs false
namespace Go.Mun
open Go.RowKit

def Dig (l:List Int):Prop:=∀ x∈l,0≤x∧x < 65536
def I6:List Int→Nat
 | []=>0
 | x :: l=>x.toNat+65536*I6 l
def dg:Nat→Nat→List Int
 | 0,_ => []
 | k+1,v=>((v % 65536:Nat):Int) :: dg k (v / 65536)
def dat (l:List Int) (i:Nat):Int:=l[i]?.getD 0
@[simp] theorem A70 (k v:Nat):(dg k v).length=k:=by
 induction k generalizing v with
 | zero=>rfl
 | succ k ih=>simp [dg,ih]
theorem B8e (k v:Nat):Dig (dg k v):=by
 induction k generalizing v with
 | zero=>intro x hx;cases hx
 | succ k ih =>
  intro x hx
  rcases List.mem_cons.1 hx with rfl | hx
  ·omega
  ·exact ih _ x hx
theorem B66 (k v i:Nat) (h:i < k):(dg k v)[i]? = some ((v / 65536 ^ i % 65536:Nat):Int):=by
 induction k generalizing v i with
 | zero=>omega
 | succ k ih =>
  cases i with
  | zero=>simp [dg]
  | succ i =>
   simp only [dg,List.getElem?_cons_succ]
   rw [ih _ _ (by omega),Nat.div_div_eq_div_mul,Nat.pow_succ,Nat.mul_comm]
theorem B6A (k v:Nat):I6 (dg k v)=v % 65536 ^ k:=by
 induction k generalizing v with
 | zero=>simp [dg,I6,Nat.mod_one]
 | succ k ih =>
  simp only [dg,I6,ih,Int.toNat_natCast]
  rw [Nat.pow_succ,Nat.mul_comm (65536 ^ k),Nat.mod_mul]
theorem A0X {x:Int} {l:List Int} (h:Dig (x :: l)):(0≤x∧x < 65536)∧Dig l:=⟨h x (by simp),fun y hy=>h y (by simp [hy])⟩
theorem B1S:∀ {l:List Int},Dig l→I6 l < 65536 ^ l.length
 | [],_=>by simp [I6]
 | x :: l,h=>by
  obtain ⟨h1,h2⟩:=A0X h
  have:=B1S h2
  simp only [I6,List.length_cons,Nat.pow_succ]
  omega
theorem B1T:∀ {l:List Int},Dig l→dg l.length (I6 l)=l
 | [],_=>rfl
 | x :: l,h=>by
  obtain ⟨h1,h2⟩:=A0X h
  simp only [I6,List.length_cons,dg]
  have e1:(x.toNat+65536*I6 l) % 65536=x.toNat:=by omega
  have e2:(x.toNat+65536*I6 l) / 65536=I6 l:=by omega
  rw [e1,e2,B1T h2,Int.toNat_of_nonneg h1.1]
theorem A1E:∀ (l m:List Int),I6 (l++m)=I6 l+65536 ^ l.length*I6 m
 | [],m=>by simp [I6]
 | x :: l,m=>by
  simp only [List.cons_append,I6,A1E l m,List.length_cons,Nat.pow_succ]
  rw [Nat.mul_add,Nat.mul_comm (65536 ^ l.length) 65536,Nat.mul_assoc];omega
theorem A3m {l m:List Int} (h:Dig l) (k:Dig m):Dig (l++m):=fun x hx=>by
 rcases List.mem_append.1 hx with hx | hx
 ·exact h x hx
 ·exact k x hx
theorem A1c {l:List Int} (h:Dig l) (i:Nat):0≤dat l i∧dat l i < 65536:=by
 unfold dat
 cases e:l[i]? with
 | none=>simp
 | some x=>exact h x (List.mem_of_getElem? e)
theorem A01 {l:List Int} {i:Nat} (h:l.length≤i):dat l i=0:=by unfold dat;rw [List.getElem?_eq_none h];rfl
theorem A1v (x:Int) (l:List Int):dat (x :: l) 0=x:=rfl
theorem U2 (x:Int) (l:List Int) (i:Nat):dat (x :: l) (i+1)=dat l i:=by simp [dat]
theorem A1X:∀ (l:List Int) (i:Nat),I6 (l.take (i+1))=I6 (l.take i)+65536 ^ i*(dat l i).toNat
 | [],i=>by simp [I6,dat]
 | x :: l,0=>by simp [I6,dat]
 | x :: l,i+1=>by
  rw [List.take_succ_cons,List.take_succ_cons,U2]
  simp only [I6,A1X l i]
  rw [Nat.mul_add,Nat.pow_succ,Nat.mul_comm (65536 ^ i) 65536,Nat.mul_assoc];omega
theorem A0N {l:List Int} {i:Nat} (h:l.length≤i):I6 (l.take i)=I6 l:=by rw [List.take_of_length_le h]
theorem A2A:∀ {a b:List Int},(∀ i,dat a i=dat b i)→I6 a=I6 b
 | [],[],_=>rfl
 | [],y :: b,h=>by
  have h0:=h 0
  have:=A2A (a:=[]) (b:=b) (fun i=>by have:=h (i+1);rw [U2] at this;rw [← this];simp [dat])
  rw [A1v] at h0
  simp only [I6] at this ⊢
  rw [← this,← h0];simp [dat]
 | x :: a,[],h=>by
  have h0:=h 0
  have:=A2A (a:=a) (b:=[]) (fun i=>by have:=h (i+1);rw [U2] at this;rw [this];simp [dat])
  rw [A1v] at h0
  simp only [I6] at this ⊢
  rw [this,h0];simp [dat]
 | x :: a,y :: b,h=>by
  have h0:=h 0
  have:=A2A (a:=a) (b:=b) (fun i=>by have:=h (i+1);rw [U2,U2] at this;exact this)
  rw [A1v,A1v] at h0
  simp only [I6]
  rw [this,h0]
theorem A1j:∀ {a b:List Int} {j:Nat},Dig a→Dig b→(∀ i,j < i→dat a i=dat b i)→dat a j < dat b j→I6 a < I6 b
 | [],[],j,_,_,_,h=>by simp [dat] at h
 | x :: a,[],j,ha,_,_,h=>by
  have:=(A1c ha j).1
  rw [A01 (l:=[]) (by simp)] at h;omega
 | [],y :: b,0,_,hb,_,h=>by
  rw [A1v,A01 (by simp)] at h
  simp only [I6];omega
 | [],y :: b,j+1,_,hb,he,h=>by
  rw [U2,A01 (by simp)] at h
  have:=A1j (a:=[]) (b:=b) (j:=j) (fun x hx=>by cases hx) (A0X hb).2 (fun i hi=>by have:=he (i+1) (by omega);rw [U2] at this;rw [← this];simp [dat]) (by rw [A01 (by simp)];exact h)
  simp only [I6] at this ⊢;omega
 | x :: a,y :: b,0,ha,hb,he,h=>by
  rw [A1v,A1v] at h
  have:=A2A (a:=a) (b:=b) (fun i=>by have:=he (i+1) (by omega);rw [U2,U2] at this;exact this)
  have h1:=(A0X ha).1
  simp only [I6,this];omega
 | x :: a,y :: b,j+1,ha,hb,he,h=>by
  rw [U2,U2] at h
  have:=A1j (a:=a) (b:=b) (j:=j) (A0X ha).2 (A0X hb).2 (fun i hi=>by have:=he (i+1) (by omega);rw [U2,U2] at this;exact this) h
  have h1:=(A0X ha).1
  have h2:=(A0X hb).1
  simp only [I6];omega
theorem B3w (A B P o c x y:Nat) (h:o+P*c=A+B):(o+P*((c+x+y) % 65536))+(P*65536)*((c+x+y) / 65536)=(A+P*x)+(B+P*y):=by
 have e:=Nat.mod_add_div (c+x+y) 65536
 have h1:P*((c+x+y) % 65536)+(P*65536)*((c+x+y) / 65536)=P*(c+x+y):=by
  rw [Nat.mul_assoc,← Nat.mul_add,e]
 rw [Nat.add_assoc,h1,Nat.mul_add,Nat.mul_add];omega
theorem B2m (A B P o c x y z d:Nat) (h:o+B=A+P*c) (hz:z+y+c=x+65536*d):(o+P*z)+(B+P*y)+P*65536*0=(A+P*x)+(P*65536)*d+(P*c - P*c):=by
 have h1:P*(z+y+c)=P*(x+65536*d):=by rw [hz]
 rw [Nat.mul_add,Nat.mul_add,Nat.mul_add,← Nat.mul_assoc] at h1
 omega
theorem A9Y (A B P o c x y z d:Nat) (h:o+B=A+P*c) (hz:z+y+c=x+65536*d):(o+P*z)+(B+P*y)=(A+P*x)+(P*65536)*d:=by
 have:=B2m A B P o c x y z d h hz
 omega
theorem B3h (v i:Nat):v / 256 ^ (2*i) % 256+256*(v / 256 ^ (2*i+1) % 256)=v / 65536 ^ i % 65536:=by
 have e:(256:Nat) ^ (2*i)=65536 ^ i:=by rw [Nat.pow_mul]
 rw [Nat.pow_succ,← Nat.div_div_eq_div_mul,e]
 omega
theorem B6D (v i:Nat):v / 65536 ^ i % 65536 % 256=v / 256 ^ (2*i) % 256:=by
 have e:(256:Nat) ^ (2*i)=65536 ^ i:=by rw [Nat.pow_mul]
 rw [e];omega
theorem B4H (v i:Nat):v / 65536 ^ i % 65536 / 256=v / 256 ^ (2*i+1) % 256:=by
 have e:(256:Nat) ^ (2*i)=65536 ^ i:=by rw [Nat.pow_mul]
 rw [Nat.pow_succ,← Nat.div_div_eq_div_mul,e];omega
theorem B8f (k v i:Nat) (h:i < k):dat (dg k v) i=((v / 65536 ^ i % 65536:Nat):Int):=by unfold dat;rw [B66 k v i h];rfl
theorem B6B {l:List Int} (h:Dig l) (i:Nat):dat l i=((I6 l / 65536 ^ i % 65536:Nat):Int):=by
 by_cases hi:i < l.length
 ·rw [← B8f l.length _ i hi,B1T h]
 ·rw [A01 (by omega)]
  have h1:=B1S h
  have h2:65536 ^ l.length≤65536 ^ i:=Nat.pow_le_pow_right (by decide) (by omega)
  rw [Nat.div_eq_of_lt (by omega)];rfl
theorem A4C (a b:Nat) (ha:a < 9223372036854775808) (hb:b < 9223372036854775808):bits .or .i64 (a:Int) (b:Int)=((a ||| b:Nat):Int):=by
 have h1:((BitVec.ofInt 64 (a:Int)) ||| (BitVec.ofInt 64 (b:Int))).toNat=a ||| b:=by
  rw [BitVec.toNat_or,BitVec.toNat_ofInt,BitVec.toNat_ofInt]
  congr 1 <;> omega
 have h2:a ||| b < 2 ^ 63:=Nat.or_lt_two_pow (by omega) (by omega)
 show IntKind.i64.wrap (((BitVec.ofInt 64 (a:Int)) ||| (BitVec.ofInt 64 (b:Int))).toNat:Int)=_
 rw [h1,V3 _ (by omega) (by omega)]
theorem B0C (x y:Nat) (hx:x < 256) (hy:y < 256):bits .or .i64 (x:Int) ((y:Int)*256)=((x+256*y:Nat):Int):=by
 have h1:x ||| (y*256)=x+256*y:=by
  have:=Nat.two_pow_add_eq_or_of_lt (i:=8) (b:=x) hx y
  rw [show y*256=2 ^ 8*y by omega,Nat.or_comm,← this];omega
 have h2:=A4C x (y*256) (by omega) (by omega)
 rw [Int.natCast_mul] at h2
 rw [show ((256:Nat):Int)=256 from rfl] at h2
 rw [h2,h1]
end Go.Mun
namespace Go.Proofs.YtfflppedbopdpaaGreat
open Go.RowKit Go.Mun

structure A1H (w:World) (ad:Option Addr) (c:Nat) (l:List Int):Prop where
 ints:I7 w .i64 ad c l
 dig:Dig l
 len:l.length≤100000
theorem A1H.below {w w':World} {ad:Option Addr} {c:Nat} {l:List Int} (h:A1H w ad c l) (hb:Below w.heap.size w w'):A1H w' ad c l:=⟨h.ints.below hb,h.dig,h.len⟩
theorem A9C {a b:List Int} (h:∀ i,dat a i=dat b i):T5 (I6 a) (I6 b)=0:=by rw [A2A h];simp [T5]
theorem A9B {n m:Nat} (h:n < m):T5 n m = -1:=by unfold T5;simp [h]
theorem B1X {n m:Nat} (h:m < n):T5 n m=1:=by unfold T5;rw [if_neg (by omega)];simp;omega
theorem B31 {w:World} {aa ab:Option Addr} {ca cb:Nat} {a b:List Int} (ha:A1H w aa ca a) (hb:A1H w ab cb b) :
  Calls Tryz.prog 171 #[.slice aa a.length ca,.slice ab b.length cb] w fun e w'=>e = .returned (.int .i64 (T5 (I6 a) (I6 b)))∧Below w.heap.size w w':=by
 obtain ⟨na,hna⟩:∃ n,n=a.length:=⟨_,rfl⟩
 obtain ⟨nb,hnb⟩:∃ n,n=b.length:=⟨_,rfl⟩
 obtain ⟨N,hN⟩:∃ N,N=max na nb:=⟨_,rfl⟩
 have HA:=hid ha
 have HB:=hid hb
 have hla:na≤100000:=by rw [hna];exact ha.len
 have hlb:nb≤100000:=by rw [hnb];exact hb.len
 have HNA:=hid hna
 have HNB:=hid hnb
 have hN1:na≤N:=by omega
 have hN2:nb≤N:=by omega
 have hN3:N≤100000:=by omega
 rw [← hna,← hnb]
 have HI:Hid (∀ i,N≤i→dat a i=dat b i):=fun i hi=>by rw [A01 (by omega),A01 (by omega)]
 by_cases hnn:na < nb
 ·have eN:nb=N:=by omega
  have hgt:(na:Int) < nb:=by omega
  subst eN
  clear hna hnb hN1 hN2 hN ha hb hnn
  go_enter Tryz.func171,Tryz.ntmps171
  go_wp2
  go_loopw [6] (fun ix wr => ∃ k:Nat,k≤nb∧ix = .int .i64 ((k:Int) - 1)∧wr=w∧Hid (∀ i,k≤i→dat a i=dat b i)) (fun ix _=>(intOf ix+1).toNat)
  case atStart=>exact ⟨nb,Nat.le_refl _,by go_num,rfl,HI⟩
  case round =>
   obtain ⟨k,hk,rfl,rfl,HK⟩:=hrel
   by_cases hk0:k=0
   ·have hd:decide ((k:Int) - 1 ≥ 0)=false:=decide_eq_false (by omega)
    have hd2:decide ((0:Int)≤(k:Int) - 1)=false:=decide_eq_false (by omega)
    have HR:Hid (T5 (I6 a) (I6 b)=0):=A9C fun i=>HK.out i (by omega)
    go_wp2
    go_ret
    exact ⟨by rw [HR.out];rfl,Below.refl _ _⟩
   ·obtain ⟨j,rfl⟩:∃ j,k=j+1:=⟨k - 1,by omega⟩
    have ej:((j+1:Nat):Int) - 1=(j:Int):=by omega
    rw [ej]
    obtain ⟨x,hx⟩:∃ x,x=dat a j:=⟨_,rfl⟩
    obtain ⟨y,hy⟩:∃ y,y=dat b j:=⟨_,rfl⟩
    have HX:=hid hx
    have HY:=hid hy
    have HC:Hid (if x < y then T5 (I6 a) (I6 b) = -1 else if y < x then T5 (I6 a) (I6 b)=1 else ∀ i,j≤i→dat a i=dat b i):=by
     show ite _ _ _
     split
     ·rename_i h
      exact A9B (A1j (j:=j) HA.out.dig HB.out.dig (fun i hi=>HK.out i (by omega)) (by rw [← hx,← hy];exact h))
     ·rename_i h1
      split
      ·rename_i h
       exact B1X (A1j (j:=j) HB.out.dig HA.out.dig (fun i hi=>(HK.out i (by omega)).symm) (by rw [← hx,← hy];exact h))
      ·rename_i h2
       intro i hi
       by_cases e:i=j
       ·subst e;rw [← hx,← hy];omega
       ·exact HK.out i (by omega)
    clear hk0 hx hy ej
    by_cases hja:j < na
    ·by_cases hjb:j < nb
     ·have hj0:(0:Int)≤j:=by omega
      obtain ⟨ba,oa,rfl,hla2,hca⟩:=HA.out.ints.at (i:=j) (by have:=HNA.out;omega)
      have hcella:=hca j (by have:=HNA.out;omega)
      have halt:(j:Int) < na:=by omega
      have ea:a[j]?.getD 0=x:=HX.out.symm
      rw [ea] at hcella
      clear hca ea hla2 hja
      obtain ⟨bb,ob,rfl,hlb2,hcb⟩:=HB.out.ints.at (i:=j) (by have:=HNB.out;omega)
      have hcellb:=hcb j (by have:=HNB.out;omega)
      have hblt:(j:Int) < nb:=by omega
      have eb:b[j]?.getD 0=y:=HY.out.symm
      rw [eb] at hcellb
      clear hcb eb hlb2 hjb
      by_cases hlt:(x:Int) < y
      ·have hres:=HC.out
       rw [if_pos hlt] at hres
       have HR:=hid hres
       clear hres
       go_wp2
       go_ret
       exact ⟨by rw [HR.out];rfl,Below.refl _ _⟩
      ·by_cases hgt:(y:Int) < x
       ·have hres:=HC.out
        rw [if_neg hlt,if_pos hgt] at hres
        have HR:=hid hres
        clear hres
        go_wp2
        go_ret
        exact ⟨by rw [HR.out];rfl,Below.refl _ _⟩
       ·have hres:=HC.out
        rw [if_neg hlt,if_neg hgt] at hres
        have HR:=hid hres
        clear hres
        go_wp2
        go_roundw
        case rel=>exact ⟨j,by omega,by go_num,by simp,HR.out⟩
        case measure=>first | (simp [intOf];done) | (simp [intOf];omega)
     ·have hj0:(0:Int)≤j:=by omega
      obtain ⟨ba,oa,rfl,hla2,hca⟩:=HA.out.ints.at (i:=j) (by have:=HNA.out;omega)
      have hcella:=hca j (by have:=HNA.out;omega)
      have halt:(j:Int) < na:=by omega
      have ea:a[j]?.getD 0=x:=HX.out.symm
      rw [ea] at hcella
      clear hca ea hla2 hja
      have hblt:¬ (j:Int) < nb:=by omega
      obtain rfl:y=0:=by rw [HY.out];exact A01 (by have:=HNB.out;omega)
      clear hjb
      by_cases hlt:(x:Int) < 0
      ·have hres:=HC.out
       rw [if_pos hlt] at hres
       have HR:=hid hres
       clear hres
       go_wp2
       go_ret
       exact ⟨by rw [HR.out];rfl,Below.refl _ _⟩
      ·by_cases hgt:(0:Int) < x
       ·have hres:=HC.out
        rw [if_neg hlt,if_pos hgt] at hres
        have HR:=hid hres
        clear hres
        go_wp2
        go_ret
        exact ⟨by rw [HR.out];rfl,Below.refl _ _⟩
       ·have hres:=HC.out
        rw [if_neg hlt,if_neg hgt] at hres
        have HR:=hid hres
        clear hres
        go_wp2
        go_roundw
        case rel=>exact ⟨j,by omega,by go_num,by simp,HR.out⟩
        case measure=>first | (simp [intOf];done) | (simp [intOf];omega)
    ·by_cases hjb:j < nb
     ·have hj0:(0:Int)≤j:=by omega
      have halt:¬ (j:Int) < na:=by omega
      obtain rfl:x=0:=by rw [HX.out];exact A01 (by have:=HNA.out;omega)
      clear hja
      obtain ⟨bb,ob,rfl,hlb2,hcb⟩:=HB.out.ints.at (i:=j) (by have:=HNB.out;omega)
      have hcellb:=hcb j (by have:=HNB.out;omega)
      have hblt:(j:Int) < nb:=by omega
      have eb:b[j]?.getD 0=y:=HY.out.symm
      rw [eb] at hcellb
      clear hcb eb hlb2 hjb
      by_cases hlt:(0:Int) < y
      ·have hres:=HC.out
       rw [if_pos hlt] at hres
       have HR:=hid hres
       clear hres
       go_wp2
       go_ret
       exact ⟨by rw [HR.out];rfl,Below.refl _ _⟩
      ·by_cases hgt:(y:Int) < 0
       ·have hres:=HC.out
        rw [if_neg hlt,if_pos hgt] at hres
        have HR:=hid hres
        clear hres
        go_wp2
        go_ret
        exact ⟨by rw [HR.out];rfl,Below.refl _ _⟩
       ·have hres:=HC.out
        rw [if_neg hlt,if_neg hgt] at hres
        have HR:=hid hres
        clear hres
        go_wp2
        go_roundw
        case rel=>exact ⟨j,by omega,by go_num,by simp,HR.out⟩
        case measure=>first | (simp [intOf];done) | (simp [intOf];omega)
     ·exfalso;omega
 ·have eN:na=N:=by omega
  have hgt:¬ (na:Int) < nb:=by omega
  subst eN
  clear hna hnb hN1 hN ha hb hnn
  go_enter Tryz.func171,Tryz.ntmps171
  go_wp2
  go_loopw [6] (fun ix wr => ∃ k:Nat,k≤na∧ix = .int .i64 ((k:Int) - 1)∧wr=w∧Hid (∀ i,k≤i→dat a i=dat b i)) (fun ix _=>(intOf ix+1).toNat)
  case atStart=>exact ⟨na,Nat.le_refl _,by go_num,rfl,HI⟩
  case round =>
   obtain ⟨k,hk,rfl,rfl,HK⟩:=hrel
   by_cases hk0:k=0
   ·have hd:decide ((k:Int) - 1 ≥ 0)=false:=decide_eq_false (by omega)
    have hd2:decide ((0:Int)≤(k:Int) - 1)=false:=decide_eq_false (by omega)
    have HR:Hid (T5 (I6 a) (I6 b)=0):=A9C fun i=>HK.out i (by omega)
    go_wp2
    go_ret
    exact ⟨by rw [HR.out];rfl,Below.refl _ _⟩
   ·obtain ⟨j,rfl⟩:∃ j,k=j+1:=⟨k - 1,by omega⟩
    have ej:((j+1:Nat):Int) - 1=(j:Int):=by omega
    rw [ej]
    obtain ⟨x,hx⟩:∃ x,x=dat a j:=⟨_,rfl⟩
    obtain ⟨y,hy⟩:∃ y,y=dat b j:=⟨_,rfl⟩
    have HX:=hid hx
    have HY:=hid hy
    have HC:Hid (if x < y then T5 (I6 a) (I6 b) = -1 else if y < x then T5 (I6 a) (I6 b)=1 else ∀ i,j≤i→dat a i=dat b i):=by
     show ite _ _ _
     split
     ·rename_i h
      exact A9B (A1j (j:=j) HA.out.dig HB.out.dig (fun i hi=>HK.out i (by omega)) (by rw [← hx,← hy];exact h))
     ·rename_i h1
      split
      ·rename_i h
       exact B1X (A1j (j:=j) HB.out.dig HA.out.dig (fun i hi=>(HK.out i (by omega)).symm) (by rw [← hx,← hy];exact h))
      ·rename_i h2
       intro i hi
       by_cases e:i=j
       ·subst e;rw [← hx,← hy];omega
       ·exact HK.out i (by omega)
    clear hk0 hx hy ej
    by_cases hja:j < na
    ·by_cases hjb:j < nb
     ·have hj0:(0:Int)≤j:=by omega
      obtain ⟨ba,oa,rfl,hla2,hca⟩:=HA.out.ints.at (i:=j) (by have:=HNA.out;omega)
      have hcella:=hca j (by have:=HNA.out;omega)
      have halt:(j:Int) < na:=by omega
      have ea:a[j]?.getD 0=x:=HX.out.symm
      rw [ea] at hcella
      clear hca ea hla2 hja
      obtain ⟨bb,ob,rfl,hlb2,hcb⟩:=HB.out.ints.at (i:=j) (by have:=HNB.out;omega)
      have hcellb:=hcb j (by have:=HNB.out;omega)
      have hblt:(j:Int) < nb:=by omega
      have eb:b[j]?.getD 0=y:=HY.out.symm
      rw [eb] at hcellb
      clear hcb eb hlb2 hjb
      by_cases hlt:(x:Int) < y
      ·have hres:=HC.out
       rw [if_pos hlt] at hres
       have HR:=hid hres
       clear hres
       go_wp2
       go_ret
       exact ⟨by rw [HR.out];rfl,Below.refl _ _⟩
      ·by_cases hgt:(y:Int) < x
       ·have hres:=HC.out
        rw [if_neg hlt,if_pos hgt] at hres
        have HR:=hid hres
        clear hres
        go_wp2
        go_ret
        exact ⟨by rw [HR.out];rfl,Below.refl _ _⟩
       ·have hres:=HC.out
        rw [if_neg hlt,if_neg hgt] at hres
        have HR:=hid hres
        clear hres
        go_wp2
        go_roundw
        case rel=>exact ⟨j,by omega,by go_num,by simp,HR.out⟩
        case measure=>first | (simp [intOf];done) | (simp [intOf];omega)
     ·have hj0:(0:Int)≤j:=by omega
      obtain ⟨ba,oa,rfl,hla2,hca⟩:=HA.out.ints.at (i:=j) (by have:=HNA.out;omega)
      have hcella:=hca j (by have:=HNA.out;omega)
      have halt:(j:Int) < na:=by omega
      have ea:a[j]?.getD 0=x:=HX.out.symm
      rw [ea] at hcella
      clear hca ea hla2 hja
      have hblt:¬ (j:Int) < nb:=by omega
      obtain rfl:y=0:=by rw [HY.out];exact A01 (by have:=HNB.out;omega)
      clear hjb
      by_cases hlt:(x:Int) < 0
      ·have hres:=HC.out
       rw [if_pos hlt] at hres
       have HR:=hid hres
       clear hres
       go_wp2
       go_ret
       exact ⟨by rw [HR.out];rfl,Below.refl _ _⟩
      ·by_cases hgt:(0:Int) < x
       ·have hres:=HC.out
        rw [if_neg hlt,if_pos hgt] at hres
        have HR:=hid hres
        clear hres
        go_wp2
        go_ret
        exact ⟨by rw [HR.out];rfl,Below.refl _ _⟩
       ·have hres:=HC.out
        rw [if_neg hlt,if_neg hgt] at hres
        have HR:=hid hres
        clear hres
        go_wp2
        go_roundw
        case rel=>exact ⟨j,by omega,by go_num,by simp,HR.out⟩
        case measure=>first | (simp [intOf];done) | (simp [intOf];omega)
    ·by_cases hjb:j < nb
     ·have hj0:(0:Int)≤j:=by omega
      have halt:¬ (j:Int) < na:=by omega
      obtain rfl:x=0:=by rw [HX.out];exact A01 (by have:=HNA.out;omega)
      clear hja
      obtain ⟨bb,ob,rfl,hlb2,hcb⟩:=HB.out.ints.at (i:=j) (by have:=HNB.out;omega)
      have hcellb:=hcb j (by have:=HNB.out;omega)
      have hblt:(j:Int) < nb:=by omega
      have eb:b[j]?.getD 0=y:=HY.out.symm
      rw [eb] at hcellb
      clear hcb eb hlb2 hjb
      by_cases hlt:(0:Int) < y
      ·have hres:=HC.out
       rw [if_pos hlt] at hres
       have HR:=hid hres
       clear hres
       go_wp2
       go_ret
       exact ⟨by rw [HR.out];rfl,Below.refl _ _⟩
      ·by_cases hgt:(y:Int) < 0
       ·have hres:=HC.out
        rw [if_neg hlt,if_pos hgt] at hres
        have HR:=hid hres
        clear hres
        go_wp2
        go_ret
        exact ⟨by rw [HR.out];rfl,Below.refl _ _⟩
       ·have hres:=HC.out
        rw [if_neg hlt,if_neg hgt] at hres
        have HR:=hid hres
        clear hres
        go_wp2
        go_roundw
        case rel=>exact ⟨j,by omega,by go_num,by simp,HR.out⟩
        case measure=>first | (simp [intOf];done) | (simp [intOf];omega)
     ·exfalso;omega
end Go.Proofs.YtfflppedbopdpaaGreat
namespace Go.Mun
open Go.RowKit
def zDg (n:Nat):List Value:=List.replicate n (.int .i64 0)
def dcL (L:List Int):List Value:=L.map (Value.int .i64)
@[go_sem,simp] theorem B91 (n:Nat):(zDg n).length=n:=by simp [zDg]
@[go_sem,simp] theorem B99 (L:List Int):(dcL L).length=L.length:=by simp [dcL]
theorem A9z (n:Nat):dcL (List.replicate n 0)=zDg n:=by simp [dcL,zDg]
theorem B1V (L:List Int) (i:Nat) (x:Int):(dcL L).set i (.int .i64 x)=dcL (L.set i x):=by simp [dcL,List.map_set]
theorem A4v {P:Program} {t e:TypeId} (E:V0 P t e (.int .i64 0) 1 8) (x:Int) (n:Nat) (hx:x=n) (hn:n≤16777216) (w:World) :
  (Instr.makeSlice t (.int .i64 x) (.int .i64 x)).run P w = .ok (.slice (some ⟨w.heap.size,0,none⟩) n n) (w.alloc (.cells (zDg n).toArray e)):=by
 subst hx
 obtain ⟨i,hi,hz,hsz,hb⟩:=E.info
 have:=run_make (P:=P) w t e i _ E.slice hi hz .i64 .i64 n n (by omega) (Int.le_refl _) (by rw [hb];omega) (by omega)
 simp only [Int.toNat_natCast,hsz,Nat.mul_one] at this
 rw [this]
 have e0:madeCells (Value.int .i64 0).cells n=(zDg n).toArray:=by
  apply Array.ext
  ·simp [madeCells]
  ·intro i h1 h2
   simp [madeCells,zDg,Value.cells]
   have:i % 1=0:=Nat.mod_one i
   simp [this]
 rw [e0]
def dgZ (n v k:Nat):List Int:=(dg n v).take k++List.replicate (n - k) 0
theorem B4I (n v:Nat):dgZ n v 0=List.replicate n 0:=by simp [dgZ]
theorem B6F (n v:Nat):dgZ n v n=dg n v:=by simp [dgZ,List.take_of_length_le]
theorem B6E (n v k:Nat) (h:k < n):(dgZ n v k).set k ((v / 65536 ^ k % 65536:Nat):Int)=dgZ n v (k+1):=by
 apply List.ext_getElem?
 intro i
 unfold dgZ
 rw [List.getElem?_set]
 by_cases hik:k=i
 ·subst hik
  rw [if_pos rfl,if_pos (by simp;omega),List.getElem?_append_left (by simp;omega),List.getElem?_take,if_pos (by omega),B66 _ _ _ h]
 ·rw [if_neg hik]
  by_cases hi:i < k
  ·rw [List.getElem?_append_left (by simp;omega),List.getElem?_append_left (by simp;omega),List.getElem?_take,List.getElem?_take,if_pos hi,if_pos (by omega)]
  ·rw [List.getElem?_append_right (by simp;omega),List.getElem?_append_right (by simp;omega)]
   simp only [List.length_take,A70]
   rw [Nat.min_eq_left (by omega),Nat.min_eq_left (by omega),List.getElem?_replicate,List.getElem?_replicate]
   by_cases h2:i < n
   ·rw [if_pos (by omega),if_pos (by omega)]
   ·rw [if_neg (by omega),if_neg (by omega)]
end Go.Mun
namespace Go.Proofs.YtfflppedbopdpaaGreat
open Go.RowKit Go.Mun

structure A6w (v k:Nat) (w wr:World):Prop where
 below:Below w.heap.size w wr
 box:wr.row? w.heap.size 0 32=some (A3 32 v)
 arr:Arr wr (w.heap.size+1) 16 (dcL (dgZ 16 v k))
theorem A6w.start (v:Nat) (w:World):A6w v 0 w ((w.alloc (.cells (A3 32 v).toArray 25)).alloc (.cells (zDg 16).toArray 3)):=by
 refine ⟨((Below.refl _ _).alloc (Nat.le_refl _) _).alloc (by simp) _,?_,⟨?_,?_⟩⟩
 ·rw [World.row?_alloc_lt _ (by simp)];exact World.row?_alloc_at _ _ _ rfl (by simp)
 ·rw [B4I,A9z];exact World.row?_alloc_at _ _ _ (by simp) (by simp)
 ·exact World.free?_alloc_at _ _ (by simp) (by simp)
theorem A6w.drew {v k:Nat} {w wr:World} (h:A6w v k w wr):A6w v k w wr.drew:=⟨h.below.drew,h.box,⟨h.arr.row,h.arr.free⟩⟩
theorem A6w.next {v k:Nat} {w wr:World} (h:A6w v k w wr) (hk:k < 16):A6w v (k+1) w (wr.setCell ⟨w.heap.size+1,k,none⟩ (.int .i64 ((v / 65536 ^ k % 65536:Nat):Int))):=by
 refine ⟨h.below.setCell (p:=⟨w.heap.size+1,k,none⟩) (Nat.le_succ _) _,?_,?_⟩
 ·rw [A0b _ (by omega)];exact h.box
 ·have:=h.arr.set hk (.int .i64 ((v / 65536 ^ k % 65536:Nat):Int))
  rw [B1V,B6E 16 v k hk] at this
  exact this
theorem B45 (n v i:Nat) (h:i < n):(A3 n v)[i]? = some (.int .u8 ((v / 256 ^ (n - 1 - i) % 256:Nat):Int)):=by
 unfold A3 be
 rw [List.getElem?_map,List.getElem?_map,List.getElem?_range h];rfl
theorem A9g {w:World} {b n:Nat} {L:List Int} (h:w.row? b 0 n=some (dcL L)) (hn:n≤100000):I7 w .i64 (some ⟨b,0,none⟩) n L:=by
 have hl:L.length=n:=by have:=World.row?_len h;simpa using this
 refine ⟨fun _=>⟨b,0,rfl,fun i hi=>?_⟩,fun e=>(by cases e),by omega,by unfold maxLen;omega⟩
 rw [World.row?_cell h (by omega)]
 unfold dcL
 rw [List.getElem?_map,List.getElem?_eq_getElem hi];rfl
theorem A1g (v:Nat) (w:World) :
  Calls Tryz.prog 172 #[.agg (A3 32 v).toArray] w fun e w' => ∃ ad,e = .returned (.slice ad 16 16)∧Below w.heap.size w w'∧A1H w' ad 16 (dg 16 v):=by
 have hmk:∀ w',(Instr.makeSlice 192 (.int .i64 16) (.int .i64 16)).run Tryz.prog w' = .ok (.slice (some ⟨w'.heap.size,0,none⟩) 16 16) (w'.alloc (.cells (zDg 16).toArray 3)):=fun w'=>A4v A2S 16 16 rfl (by decide) w'
 have hl1:=B0 32 v
 have HS:=hid (A6w.start v w)
 go_enter Tryz.func172,Tryz.ntmps172
 go_wp2_with fail
 go_loopw [4] (fun ix wr => ∃ k:Nat,k≤16∧ix = .int .i64 (k:Int)∧Hid (A6w v k w wr)) (fun ix _=>16 - (intOf ix).toNat)
 case atStart=>exact ⟨0,by omega,rfl,HS⟩
 case round =>
  obtain ⟨k,hk,rfl,HR⟩:=hrel
  by_cases hlt:k < 16
  ·have hI:(k:Int) < 16:=by omega
   have hd:decide ((k:Int) < 16)=true:=decide_eq_true hI
   obtain ⟨x,hx⟩:∃ x:Nat,x=v / 256 ^ (2*k) % 256:=⟨_,rfl⟩
   obtain ⟨y,hy⟩:∃ y:Nat,y=v / 256 ^ (2*k+1) % 256:=⟨_,rfl⟩
   obtain ⟨z,hz⟩:∃ z:Nat,z=v / 65536 ^ k % 65536:=⟨_,rfl⟩
   have hxy:x+256*y=z:=by rw [hx,hy,hz];exact B3h v k
   have hx8:x < 256:=by omega
   have hy8:y < 256:=by omega
   have hor:=B0C x y hx8 hy8
   rw [hxy] at hor
   obtain ⟨i1,hi1⟩:∃ i1:Nat,i1=31 - 2*k:=⟨_,rfl⟩
   obtain ⟨i2,hi2⟩:∃ i2:Nat,i2=30 - 2*k:=⟨_,rfl⟩
   have e1:(31:Int) - 2*k=i1:=by omega
   have e2:(30:Int) - 2*k=i2:=by omega
   have hw1:IntKind.i64.wrap (2*(k:Int))=2*(k:Int):=V3 _ (by omega) (by omega)
   have hw2:IntKind.i64.wrap (31 - 2*(k:Int))=(i1:Int):=by rw [V3 _ (by omega) (by omega)];exact e1
   have hw3:IntKind.i64.wrap (30 - 2*(k:Int))=(i2:Int):=by rw [V3 _ (by omega) (by omega)];exact e2
   have h1:i1 < 32:=by omega
   have h2:i2 < 32:=by omega
   have c1:wr.drew.cell? ⟨w.heap.size,i1,none⟩=some (.int .u8 (x:Int)):=by
    have:=World.row?_cell HR.out.box h1
    rw [Nat.zero_add,B45 32 v i1 h1,show 32 - 1 - i1=2*k by omega,← hx] at this
    exact this
   have c2:wr.drew.cell? ⟨w.heap.size,i2,none⟩=some (.int .u8 (y:Int)):=by
    have:=World.row?_cell HR.out.box h2
    rw [Nat.zero_add,B45 32 v i2 h2,show 32 - 1 - i2=2*k+1 by omega,← hy] at this
    exact this
   have hf:wr.drew.free? (w.heap.size+1) k 1=true:=World.free?_sub HR.out.arr.free (by omega)
   have HN:=hid (HR.out.drew.next hlt)
   rw [← hz] at HN
   have hJ1:(i1:Int) < 32:=by omega
   have hJ2:(i2:Int) < 32:=by omega
   clear hx hy hz hxy hi1 hi2 hlt e1 e2
   go_wp2_with fail
   go_still_tail 16,(by kernel_rfl)
   go_wp2
   go_roundw
   case rel=>exact ⟨k+1,by omega,by go_num,HN⟩
   case measure=>simp [intOf];omega
  ·obtain rfl:k=16:=by omega
   clear hlt
   go_wp2
   go_ret
   have hr:=HR.out.arr.row
   rw [B6F] at hr
   exact ⟨_,rfl,HR.out.below,A9g hr (by decide),B8e 16 v,by simp⟩
structure A8b (v k:Nat) (w wr:World):Prop where
 below:Below w.heap.size w wr
 res:wr.free? w.heap.size 0 32=true
 free:wr.free? (w.heap.size+1) 0 32=true
 row:∃ L:List Int,wr.row? (w.heap.size+1) 0 32=some (u8L L)∧L.length=32∧∀ i,i < 32→32 - 2*k≤i→L[i]?.getD 0=((v / 256 ^ (31 - i) % 256:Nat):Int)
theorem A8b.start (v:Nat) (w:World):A8b v 0 w ((w.alloc (.cells (K0 32).toArray 25)).alloc (.cells (K0 32).toArray 25)):=by
 refine ⟨((Below.refl _ _).alloc (Nat.le_refl _) _).alloc (by simp) _,?_,?_,List.replicate 32 0,?_,by simp,fun i hi h=>by omega⟩
 ·rw [World.free?_alloc_lt _ (by simp)];exact World.free?_alloc_at _ _ rfl (by simp)
 ·exact World.free?_alloc_at _ _ (by simp) (by simp)
 ·rw [A6c];exact World.row?_alloc_at _ _ _ (by simp) (by simp)
theorem A8b.next {v k:Nat} {w wr:World} (h:A8b v k w wr) (hk:k < 16) {x y:Nat} (hx:x=v / 256 ^ (2*k) % 256) (hy:y=v / 256 ^ (2*k+1) % 256) {i1 i2:Nat} (h1:i1=31 - 2*k) (h2:i2=30 - 2*k) :
  A8b v (k+1) w ((wr.setCell ⟨w.heap.size+1,i1,none⟩ (.int .u8 (x:Int))).setCell ⟨w.heap.size+1,i2,none⟩ (.int .u8 (y:Int))):=by
 obtain ⟨L,r,hl,hv⟩:=h.row
 have f1:=World.free?_sub h.free (o':=i1) (n':=1) (by omega)
 have f2:=World.free?_sub h.free (o':=i2) (n':=1) (by omega)
 have f2':(wr.setCell ⟨w.heap.size+1,i1,none⟩ (.int .u8 (x:Int))).free? (w.heap.size+1) i2 1=true:=by rw [D8 _ f1];exact f2
 refine ⟨(h.below.setCell (p:=⟨w.heap.size+1,i1,none⟩) (Nat.le_succ _) _).setCell (p:=⟨w.heap.size+1,i2,none⟩) (Nat.le_succ _) _,?_,?_,(L.set i1 x).set i2 y,?_,by simpa using hl,?_⟩
 ·rw [D8 _ f2',D8 _ f1];exact h.res
 ·rw [D8 _ f2',D8 _ f1];exact h.free
 ·have r1:=G9 (.int .u8 (x:Int)) r (Nat.zero_le _) (show i1 < 0+32 by omega)
  rw [Nat.sub_zero,A4M L _ (by omega)] at r1
  have r2:=G9 (.int .u8 (y:Int)) r1 (Nat.zero_le _) (show i2 < 0+32 by omega)
  rw [Nat.sub_zero,A4M _ _ (by simp;omega)] at r2
  exact r2
 ·intro i hi hi2
  rw [List.getElem?_set,List.getElem?_set]
  by_cases e2:i2=i
  ·rw [if_pos e2,if_pos (by simp;omega),hy,show 31 - i=2*k+1 by omega];rfl
  ·rw [if_neg e2]
   by_cases e1:i1=i
   ·rw [if_pos e1,if_pos (by omega),hx,show 31 - i=2*k by omega];rfl
   ·rw [if_neg e1];exact hv i hi (by omega)
theorem A8b.done {v:Nat} {w wr:World} (h:A8b v 16 w wr):wr.row? (w.heap.size+1) 0 32=some (A3 32 v):=by
 obtain ⟨L,r,hl,hv⟩:=h.row
 rw [r]
 have:L=be 32 v:=by
  apply List.ext_getElem (by simpa using hl)
  intro i g1 g2
  have hi:i < 32:=by omega
  have:=hv i hi (by omega)
  rw [List.getElem?_eq_getElem g1] at this
  simp only [Option.getD_some] at this
  rw [this]
  simp [be]
 rw [this];rfl
theorem A6R {w:World} {ad:Option Addr} {c:Nat} {l:List Int} (hd:A1H w ad c l) (h16:16≤l.length) :
  Calls Tryz.prog 244 #[.slice ad l.length c] w fun e w'=>e = .returned (.agg (A3 32 (I6 l)).toArray)∧Below w.heap.size w w':=by
 obtain ⟨m,hm⟩:∃ m,m=l.length:=⟨_,rfl⟩
 obtain ⟨v,hv⟩:∃ v,v=I6 l:=⟨_,rfl⟩
 have HD:=hid hd
 have hlen:m≤100000:=by rw [hm];exact hd.len
 have HM:=hid hm
 have HV:=hid hv
 have HS:=hid (A8b.start v w)
 rw [← hm,← hv]
 rw [← hm] at h16
 have hb32:=C7 32 v
 clear hm hv hd
 go_enter Tryz.func244,Tryz.ntmps244
 go_wp2_with fail
 go_loopw [4] (fun ix wr => ∃ k:Nat,k≤16∧ix = .int .i64 (k:Int)∧Hid (A8b v k w wr)) (fun ix _=>16 - (intOf ix).toNat)
 case atStart=>exact ⟨0,by omega,rfl,HS⟩
 case round =>
  obtain ⟨k,hk,rfl,HR⟩:=hrel
  by_cases hlt:k < 16
  ·have hI:(k:Int) < 16:=by omega
   have hI2:(k:Int) < m:=by omega
   have hIN:k < m:=by omega
   obtain ⟨d,hdd⟩:∃ d:Nat,d=v / 65536 ^ k % 65536:=⟨_,rfl⟩
   have hd16:d < 65536:=by rw [hdd];exact Nat.mod_lt _ (by decide)
   obtain ⟨x,hx⟩:∃ x:Nat,x=d % 256:=⟨_,rfl⟩
   obtain ⟨y,hy⟩:∃ y:Nat,y=d / 256:=⟨_,rfl⟩
   have hxv:Hid (x=v / 256 ^ (2*k) % 256):=by rw [hx,hdd];exact B6D v k
   have hyv:Hid (y=v / 256 ^ (2*k+1) % 256):=by rw [hy,hdd];exact B4H v k
   have hx8:x < 256:=by omega
   have hy8:y < 256:=by omega
   have b1:bits .and .i64 (d:Int) 255=(x:Int):=by rw [A31];omega
   have b2:(d:Int) / 256=(y:Int):=by omega
   have b3:IntKind.u8.wrap (x:Int)=(x:Int):=wr8 _ (by omega) (by omega)
   have b4:IntKind.u8.wrap (y:Int)=(y:Int):=wr8 _ (by omega) (by omega)
   obtain ⟨i1,hi1⟩:∃ i1:Nat,i1=31 - 2*k:=⟨_,rfl⟩
   obtain ⟨i2,hi2⟩:∃ i2:Nat,i2=30 - 2*k:=⟨_,rfl⟩
   have hw1:IntKind.i64.wrap (2*(k:Int))=2*(k:Int):=V3 _ (by omega) (by omega)
   have hw2:IntKind.i64.wrap (31 - 2*(k:Int))=(i1:Int):=by rw [V3 _ (by omega) (by omega)];omega
   have hw3:IntKind.i64.wrap (30 - 2*(k:Int))=(i2:Int):=by rw [V3 _ (by omega) (by omega)];omega
   have h1:i1 < 32:=by omega
   have h2:i2 < 32:=by omega
   have hJ1:(i1:Int) < 32:=by omega
   have hJ2:(i2:Int) < 32:=by omega
   obtain ⟨b,off,rfl,hbl,hc⟩:=HD.out.ints.at (i:=k) (by have:=HM.out;omega)
   have hcell:wr.cell? ⟨b,off+k,none⟩=some (.int .i64 (d:Int)):=by
    have e1:=hc k (by have:=HM.out;omega)
    have e2:l[k]?.getD 0=(d:Int):=by
     have:=B6B HD.out.dig k
     unfold dat at this
     rw [this,← HV.out,hdd]
    rw [e2] at e1
    exact (HR.out.below.cell (p:=⟨b,off+k,none⟩) hbl).trans e1
   have f1:=World.free?_sub HR.out.free (o':=i1) (n':=1) (by omega)
   have f2:=World.free?_sub HR.out.free (o':=i2) (n':=1) (by omega)
   have hne:b≠w.heap.size+1:=by omega
   have f2':(wr.setCell ⟨w.heap.size+1,i1,none⟩ (.int .u8 (x:Int))).free? (w.heap.size+1) i2 1=true:=by rw [D8 _ f1];exact f2
   have hcell2:(wr.setCell ⟨w.heap.size+1,i1,none⟩ (.int .u8 (x:Int))).cell? ⟨b,off+k,none⟩=some (.int .i64 (d:Int)):=by
    exact (World.cell?_setCells_block (w:=wr) (w.heap.size+1) i1 ⟨b,off+k,none⟩ [.int .u8 (x:Int)] hne).trans hcell
   have HN:=hid (HR.out.next hlt hxv.out hyv.out hi1 hi2)
   clear hdd hx hy hi1 hi2 hlt hc hbl hd16
   go_wp2
   go_roundw
   case rel=>exact ⟨k+1,by omega,by go_num,HN⟩
   case measure=>simp [intOf];omega
  ·obtain rfl:k=16:=by omega
   have hr:=HR.out.done
   have hf:=HR.out.res
   have HB:=hid HR.out.below
   clear hlt
   go_wp2
   refine F2 A1L rfl _ rfl rfl hf hb32 ?_
   exact ⟨rfl,HB.out.setCells (Nat.le_refl _) _ _⟩
structure B6T (a b:List Int) (w wr:World) (v:Value) (k c:Nat) (done:List Int):Prop where
 len:done.length=k
 dig:Dig done
 val:I6 done+65536 ^ k*c=I6 (a.take k)+I6 (b.take k)
 c1:c≤1
 own:wr.ownsRow w.heap.size 3 1 v done.length (done.map (Value.int .i64))
 below:Below w.heap.size w wr
theorem B3u (m:Int):bits .and .i64 m 65535=m % 65536:=A9I m 16 (by decide)
theorem B6T.next {a b:List Int} {w wr w1:World} {v v':Value} {k c x y:Nat} {done:List Int} (h:B6T a b w wr v k c done) (ha:dat a k=(x:Int)) (hb:dat b k=(y:Int)) (hx:x < 65536) (hy:y < 65536)
  (ho:w1.ownsRow w.heap.size 3 1 v' (done.length+1) (done.map (Value.int .i64)++[.int .i64 (((c+x+y) % 65536:Nat):Int)])) (hg:wr.grownBy w1 v.ownBlock):B6T a b w w1 v' (k+1) ((c+x+y) / 65536) (done++[(((c+x+y) % 65536:Nat):Int)]):=by
 obtain ⟨h1,h2,h3,h4,h5,h6⟩:=h
 refine ⟨by simp [h1],A3m h2 (fun z hz=>by simp at hz;omega),?_,by omega,by simpa using ho,h6.grown hg h6.size (fun k hk=>(h5.lt k hk).1)⟩
 rw [A1E,A1X,A1X,h1,ha,hb]
 have:=B3w (I6 (a.take k)) (I6 (b.take k)) (65536 ^ k) (I6 done) c x y h3
 simp only [I6,Int.toNat_natCast,Nat.pow_succ] at this ⊢
 rw [Nat.mul_zero,Nat.add_zero]
 exact this
structure B1f (w0 w:World) (v:Value) (l:List Int):Prop where
 below:Below w0.heap.size w0 w
 own:w.ownsRow w0.heap.size 3 1 v l.length (l.map (Value.int .i64))
 dig:Dig l
theorem B1f.at {w0 w:World} {v:Value} {l:List Int} (h:B1f w0 w v l) (hl:l.length≤100000):∃ ad c,v = .slice ad l.length c∧A1H w ad c l:=by
 obtain ⟨ad,c,e,_,hI⟩:=I7.of_own' h.own
 exact ⟨ad,c,e,hI,h.dig,hl⟩
theorem B32 {w:World} {aa ab:Option Addr} {ca cb:Nat} {a b:List Int} (ha:A1H w aa ca a) (hb:A1H w ab cb b) (hl:b.length=a.length) :
  Calls Tryz.prog 245 #[.slice aa a.length ca,.slice ab b.length cb] w fun e w' => ∃ v l,e = .returned v∧B1f w w' v l∧l.length=a.length+1∧I6 l=I6 a+I6 b:=by
 obtain ⟨m,hm⟩:∃ m,m=a.length:=⟨_,rfl⟩
 have HA:=hid ha
 have HB:=hid hb
 have hlen:m≤100000:=by rw [hm];exact ha.len
 have HL:Hid (b.length=m):=by rw [hm];exact hl
 have HM:=hid hm
 rw [hl,← hm]
 clear hm ha hb hl
 go_enter Tryz.func245,Tryz.ntmps245
 go_wp2_with fail
 go_loopw [5,6,7] (fun v cx ix wr => ∃ (k c:Nat) (done:List Int),k≤m∧ix = .int .i64 (k:Int)∧cx = .int .i64 (c:Int)∧Hid (B6T a b w wr v k c done)) (fun _ _ ix _=>m - (intOf ix).toNat)
 case atStart=>exact ⟨0,0,[],by omega,rfl,rfl,rfl,fun x hx=>(by cases hx),by simp [I6],by omega,World.ownsRow_nil _ _ _ _,Below.refl _ _⟩
 case round =>
  obtain ⟨k,c,done,hk,rfl,rfl,HR⟩:=hrel
  have hc1:=HR.out.c1
  by_cases hlt:k < m
  ·have hI:(k:Int) < m:=by omega
   obtain ⟨ba,oa,rfl,hla,hca⟩:=HA.out.ints.at (i:=k) (by have:=HM.out;omega)
   obtain ⟨bb,ob,rfl,hlb,hcb⟩:=HB.out.ints.at (i:=k) (by have:=HL.out;omega)
   obtain ⟨x,hx⟩:∃ x:Nat,dat a k=(x:Int):=⟨(dat a k).toNat,by have:=(A1c HA.out.dig k).1;omega⟩
   obtain ⟨y,hy⟩:∃ y:Nat,dat b k=(y:Int):=⟨(dat b k).toNat,by have:=(A1c HB.out.dig k).1;omega⟩
   have hx6:x < 65536:=by have:=(A1c HA.out.dig k).2;omega
   have hy6:y < 65536:=by have:=(A1c HB.out.dig k).2;omega
   have c1:wr.cell? ⟨ba,oa+k,none⟩=some (.int .i64 (x:Int)):=by
    rw [← hx];exact (HR.out.below.cell (p:=⟨ba,oa+k,none⟩) hla).trans (hca k (by have:=HM.out;omega))
   have c2:wr.cell? ⟨bb,ob+k,none⟩=some (.int .i64 (y:Int)):=by
    rw [← hy];exact (HR.out.below.cell (p:=⟨bb,ob+k,none⟩) hlb).trans (hcb k (by have:=HL.out;omega))
   obtain ⟨s,hs⟩:∃ s,s=c+x+y:=⟨_,rfl⟩
   obtain ⟨lo,hlo⟩:∃ lo,lo=s % 65536:=⟨_,rfl⟩
   obtain ⟨hi,hhi⟩:∃ hi,hi=s / 65536:=⟨_,rfl⟩
   have w1:IntKind.i64.wrap ((c:Int)+(x:Int))=(c:Int)+(x:Int):=V3 _ (by omega) (by omega)
   have w2:IntKind.i64.wrap ((c:Int)+(x:Int)+(y:Int))=(s:Int):=by rw [V3 _ (by omega) (by omega)];omega
   have b1:bits .and .i64 (s:Int) 65535=(lo:Int):=by rw [B3u];omega
   have b2:(s:Int) / 65536=(hi:Int):=by omega
   have HX:=hid hx
   have HY:=hid hy
   have HLO:Hid (lo=(c+x+y) % 65536):=by rw [hlo,hs];rfl
   have HHI:Hid (hi=(c+x+y) / 65536):=by rw [hhi,hs];rfl
   have hsz:=HR.out.below.size
   have hdl:done.length=k:=HR.out.len
   clear hx hy hs hlo hhi hca hcb hla hlb hlt
   go_wp2_with (at_builtin;go_must (refine S5 A2S rfl _ _ rfl HR.out.own rfl 1 rfl rfl ?c1 ?c2 ?c3 ?c4 ?_))
   case c1=>simp [Value.oneCell']
   case c2=>unfold maxLen;omega
   case c3=>omega
   case c4=>exact hsz
   intro v' w3 ho hg _
   rw [HLO.out] at ho
   have HN:=hid (HR.out.next HX.out HY.out hx6 hy6 (by rw [hdl];exact ho) hg)
   rw [← HHI.out] at HN
   clear ho hg
   go_wp2
   go_roundw
   case rel=>exact ⟨k+1,hi,_,by omega,by go_num,rfl,HN⟩
   case measure=>simp [intOf];omega
  ·obtain rfl:k=m:=by omega
   have hI:¬ (k:Int) < k:=by omega
   have hsz:=HR.out.below.size
   have hdl:done.length=k:=HR.out.len
   clear hlt
   go_wp2_with (at_builtin;go_must (refine S5 A2S rfl _ _ rfl HR.out.own rfl 1 rfl rfl ?d1 ?d2 ?d3 ?d4 ?_))
   case d2=>unfold maxLen;omega
   case d3=>omega
   intro v' w3 ho hg _
   have HO:=hid ho
   have HB3:=hid (HR.out.below.grown hg hsz (fun k hk=>(HR.out.own.lt k hk).1))
   clear ho hg
   go_wp2
   go_ret
   refine ⟨_,done++[(c:Int)],rfl,⟨HB3.out,by simpa [hdl] using HO.out,A3m HR.out.dig (fun z hz=>by simp at hz;omega)⟩,by simp [hdl],?_⟩
   have:=HR.out.val
   rw [A0N (by have:=HM.out;omega),A0N (by have:=HL.out;omega)] at this
   rw [A1E,hdl]
   simp only [I6,Int.toNat_natCast,Nat.mul_zero,Nat.add_zero]
   exact this
def A6n (n:Nat) (l:List Int):List Int:=l++List.replicate (n - l.length) 0
theorem B37 (n:Nat) (l:List Int) (x:Int) (h:l.length < n):(A6n n l).set l.length x=A6n n (l++[x]):=by
 unfold A6n
 rw [List.set_append_right _ _ (Nat.le_refl _),Nat.sub_self]
 obtain ⟨m,hm⟩:∃ m,n - l.length=m+1:=⟨n - l.length - 1,by omega⟩
 rw [hm,List.replicate_succ,List.set_cons_zero,List.length_append,show n - (l.length + [x].length)=m by simp;omega]
 simp
structure A9Q (a b:List Int) (m:Nat) (w wr:World) (k c:Nat) (done:List Int):Prop where
 len:done.length=k
 dig:Dig done
 val:I6 done+I6 (b.take k)=I6 (a.take k)+65536 ^ k*c
 c1:c≤1
 arr:Arr wr w.heap.size m (dcL (A6n m done))
 below:Below w.heap.size w wr
theorem A9Q.next {a b:List Int} {m:Nat} {w wr:World} {k c x y z d:Nat} {done:List Int} (h:A9Q a b m w wr k c done) (hk:k < m) (ha:dat a k=(x:Int)) (hb:dat b k=(y:Int)) (hz:z < 65536) (hd:d≤1) (he:z+y+c=x+65536*d) :
  A9Q a b m w (wr.setCell ⟨w.heap.size,k,none⟩ (.int .i64 (z:Int))) (k+1) d (done++[(z:Int)]):=by
 obtain ⟨h1,h2,h3,h4,h5,h6⟩:=h
 refine ⟨by simp [h1],A3m h2 (fun q hq=>by simp at hq;omega),?_,hd,?_,h6.setCell (p:=⟨w.heap.size,k,none⟩) (Nat.le_refl _) _⟩
 ·rw [A1E,A1X,A1X,h1,ha,hb]
  have:=A9Y (I6 (a.take k)) (I6 (b.take k)) (65536 ^ k) (I6 done) c x y z d h3 he
  simp only [I6,Int.toNat_natCast,Nat.pow_succ,Nat.mul_zero,Nat.add_zero] at this ⊢
  exact this
 ·have:=h5.set hk (.int .i64 (z:Int))
  rw [B1V] at this
  have e:(A6n m done).set k (z:Int)=A6n m (done++[(z:Int)]):=by
   rw [← h1];exact B37 m done z (by omega)
  rw [e] at this
  exact this
theorem A9Q.drew {a b:List Int} {m:Nat} {w wr:World} {k c:Nat} {done:List Int} (h:A9Q a b m w wr k c done):A9Q a b m w wr.drew k c done:=⟨h.len,h.dig,h.val,h.c1,⟨h.arr.row,h.arr.free⟩,h.below.drew⟩
theorem B3Z {w:World} {aa ab:Option Addr} {ca cb:Nat} {a b:List Int} (ha:A1H w aa ca a) (hb:A1H w ab cb b) (hl:b.length≤a.length) :
  Calls Tryz.prog 246 #[.slice aa a.length ca,.slice ab b.length cb] w fun e w' => ∃ ad,e = .returned (.slice ad a.length a.length)∧Below w.heap.size w w'∧∃ l,A1H w' ad a.length l∧l.length=a.length∧∃ d,d≤1∧I6 l+I6 b=I6 a+65536 ^ a.length*d:=by
 obtain ⟨m,hm⟩:∃ m,m=a.length:=⟨_,rfl⟩
 obtain ⟨mb,hmb⟩:∃ mb,mb=b.length:=⟨_,rfl⟩
 have hmk:∀ w',(Instr.makeSlice 192 (.int .i64 (m:Int)) (.int .i64 (m:Int))).run Tryz.prog w' = .ok (.slice (some ⟨w'.heap.size,0,none⟩) m m) (w'.alloc (.cells (zDg m).toArray 3)):=fun w'=>A4v A2S (m:Int) m rfl (by have:=ha.len;omega) w'
 obtain ⟨w0,e0⟩:∃ w0,w0=w.alloc (.cells (zDg m).toArray 3):=⟨_,rfl⟩
 have hs:A9Q a b m w w0 0 0 []:=by
  rw [e0]
  refine ⟨rfl,fun x hx=>(by cases hx),by simp [I6],by omega,⟨?_,?_⟩,(Below.refl _ _).alloc (Nat.le_refl _) _⟩
  ·have:A6n m []=List.replicate m 0:=by simp [A6n]
   rw [this,A9z];exact World.row?_alloc_at _ _ _ rfl (by simp)
  ·exact World.free?_alloc_at _ _ rfl (by simp)
 have HS:=hid hs
 have HE:=hid e0
 have HA:=hid ha
 have HB:=hid hb
 have hlen:m≤100000:=by rw [hm];exact ha.len
 have hlb:mb≤m:=by omega
 have HM:=hid hm
 have HMB:=hid hmb
 rw [← hm,← hmb]
 clear hm hmb ha hb hl hs e0
 go_enter Tryz.func246,Tryz.ntmps246
 go_wp2_with fail
 rw [← HE.out]
 go_loopw [6,7] (fun cx ix wr => ∃ (k c:Nat) (done:List Int),k≤m∧ix = .int .i64 (k:Int)∧cx = .int .i64 (c:Int)∧Hid (A9Q a b m w wr k c done)) (fun _ ix _=>m - (intOf ix).toNat)
 case atStart=>exact ⟨0,0,[],by omega,rfl,rfl,HS⟩
 case round =>
  obtain ⟨k,c,done,hk,rfl,rfl,HR⟩:=hrel
  have hc1:=HR.out.c1
  by_cases hlt:k < m
  ·have hI:(k:Int) < m:=by omega
   have hIN:k < m:=hlt
   have hf:wr.free? w.heap.size k 1=true:=World.free?_sub HR.out.arr.free (by omega)
   obtain ⟨ba,oa,rfl,hla,hca⟩:=HA.out.ints.at (i:=k) (by have:=HM.out;omega)
   obtain ⟨x,hx⟩:∃ x:Nat,dat a k=(x:Int):=⟨(dat a k).toNat,by have:=(A1c HA.out.dig k).1;omega⟩
   have hx6:x < 65536:=by have:=(A1c HA.out.dig k).2;omega
   have c1:wr.cell? ⟨ba,oa+k,none⟩=some (.int .i64 (x:Int)):=by
    rw [← hx];exact (HR.out.below.cell (p:=⟨ba,oa+k,none⟩) hla).trans (hca k (by have:=HM.out;omega))
   have HX:=hid hx
   clear hx hca
   obtain ⟨y,hy⟩:∃ y:Nat,dat b k=(y:Int):=⟨(dat b k).toNat,by have:=(A1c HB.out.dig k).1;omega⟩
   have hy6:y < 65536:=by have:=(A1c HB.out.dig k).2;omega
   have HY:=hid hy
   have w1:IntKind.i64.wrap ((x:Int) - (c:Int))=(x:Int) - (c:Int):=V3 _ (by omega) (by omega)
   have w2:IntKind.i64.wrap ((x:Int) - (c:Int) - (y:Int))=(x:Int) - (c:Int) - (y:Int):=V3 _ (by omega) (by omega)
   have w3:IntKind.i64.wrap ((x:Int) - (c:Int) - (y:Int)+65536)=(x:Int) - (c:Int) - (y:Int)+65536:=V3 _ (by omega) (by omega)
   by_cases hkb:k < mb
   ·have hJ:(k:Int) < mb:=by omega
    obtain ⟨bb,ob,rfl,hlb2,hcb⟩:=HB.out.ints.at (i:=k) (by have:=HMB.out;omega)
    have c2:wr.cell? ⟨bb,ob+k,none⟩=some (.int .i64 (y:Int)):=by
     rw [← hy];exact (HR.out.below.cell (p:=⟨bb,ob+k,none⟩) hlb2).trans (hcb k (by have:=HMB.out;omega))
    clear hy hcb hlb2
    by_cases hneg:(x:Int) - (c:Int) - (y:Int) < 0
    ·obtain ⟨z,hz⟩:∃ z:Nat,(x:Int) - (c:Int) - (y:Int)+65536=(z:Int):=⟨((x:Int) - (c:Int) - (y:Int)+65536).toNat,by omega⟩
     have HN:=hid (HR.out.next hlt HX.out HY.out (z:=z) (d:=1) (by omega) (by omega) (by omega))
     have w3':IntKind.i64.wrap ((x:Int) - (c:Int) - (y:Int)+65536)=(z:Int):=by rw [w3,hz]
     clear w3 hz
     go_wp2
     go_roundw
     case rel=>exact ⟨k+1,1,_,by omega,by go_num,rfl,HN⟩
     case measure=>simp [intOf];omega
    ·obtain ⟨z,hz⟩:∃ z:Nat,(x:Int) - (c:Int) - (y:Int)=(z:Int):=⟨((x:Int) - (c:Int) - (y:Int)).toNat,by omega⟩
     have HN:=hid (HR.out.next hlt HX.out HY.out (z:=z) (d:=0) (by omega) (by omega) (by omega))
     rw [← hz] at HN
     clear hz
     go_wp2
     go_roundw
     case rel=>exact ⟨k+1,0,_,by omega,by go_num,rfl,HN⟩
     case measure=>simp [intOf];omega
   ·have hJ:¬ (k:Int) < mb:=by omega
    obtain rfl:y=0:=by
     have:dat b k=0:=A01 (by have:=HMB.out;omega)
     rw [this] at hy;omega
    clear hy w2 w3
    by_cases hneg:(x:Int) - (c:Int) < 0
    ·obtain ⟨z,hz⟩:∃ z:Nat,(x:Int) - (c:Int)+65536=(z:Int):=⟨((x:Int) - (c:Int)+65536).toNat,by omega⟩
     have HN:=hid (HR.out.next hlt HX.out HY.out (z:=z) (d:=1) (by omega) (by omega) (by omega))
     have w3':IntKind.i64.wrap ((x:Int) - (c:Int)+65536)=(z:Int):=by rw [V3 _ (by omega) (by omega),hz]
     clear hz
     go_wp2
     go_roundw
     case rel=>exact ⟨k+1,1,_,by omega,by go_num,rfl,HN⟩
     case measure=>simp [intOf];omega
    ·obtain ⟨z,hz⟩:∃ z:Nat,(x:Int) - (c:Int)=(z:Int):=⟨((x:Int) - (c:Int)).toNat,by omega⟩
     have HN:=hid (HR.out.next hlt HX.out HY.out (z:=z) (d:=0) (by omega) (by omega) (by omega))
     rw [← hz] at HN
     clear hz
     go_wp2
     go_roundw
     case rel=>exact ⟨k+1,0,_,by omega,by go_num,rfl,HN⟩
     case measure=>simp [intOf];omega
  ·obtain rfl:k=m:=by omega
   have hI:¬ (k:Int) < k:=by omega
   clear hlt
   go_wp2
   go_ret
   have hr:=HR.out.arr.row
   have hdl:=HR.out.len
   have e:A6n k done=done:=by unfold A6n;rw [hdl,Nat.sub_self];simp
   rw [e] at hr
   have:=HR.out.val
   rw [A0N (l:=a) (by have:=HM.out;omega),A0N (l:=b) (by have:=HMB.out;omega)] at this
   exact ⟨_,rfl,HR.out.below,done,⟨A9g hr (by omega),HR.out.dig,by omega⟩,hdl,c,hc1,this⟩
theorem A1Y {n:Nat} (h:n < wW):I6 (dg 16 n)=n:=by
 rw [B6A,show (65536:Nat) ^ 16=wW by rw [A23]];exact Nat.mod_eq_of_lt h
theorem A52 (k n m:Nat) (h:n % 256 ^ k=m % 256 ^ k):A3 k n=A3 k m:=by
 rw [← A77 k n,← A77 k m,h]
theorem A7A (n m:Nat) (hn:n < wW) (hm:m < wW) (w:World) :
  Calls Tryz.prog 65 #[.agg (A3 32 n).toArray,.agg (A3 32 m).toArray] w fun e w'=>e = .returned (.int .i64 (T5 n m))∧Below w.heap.size w w':=by
 obtain ⟨w0,e0⟩:∃ w0,w0=(w.alloc (.cells (A3 32 n).toArray 25)).alloc (.cells (A3 32 m).toArray 25):=⟨_,rfl⟩
 have hx:Z1 w w0.drew n m:=by rw [e0];exact (Z1.start w n m).on (Below.refl _ _).drew
 obtain ⟨T,hT⟩:∃ T:World→Prop,T=fun w'=>Z1 w w' n m:=⟨_,rfl⟩
 have t0:T w0.drew:=by rw [hT];exact hx
 have HTB:Hid (∀ W W',T W→Below W.heap.size W W'→T W'):=by
  rw [hT];intro W W' hW hb;exact hW.on hb
 have HE:=hid e0
 have hl1:(A3 32 n).length=32:=by simp
 have hl2:(A3 32 m).length=32:=by simp
 have HT:=hid hT
 have EN:=hid (A1Y hn)
 have EM:=hid (A1Y hm)
 clear e0 hx hT
 go_enter Tryz.func65,Tryz.ntmps65
 go_wp2_with fail
 rw [← HE.out]
 refine A6 T [] (.take 0 (.take 2 (.alt 1 (.alt 3 (.alt 4 (.pure 5 .fin) .stop) .stop) .stop))) (by kernel_rfl) (by kernel_rfl) ?_
 iterate 2
  refine A9 ?_ t0 rfl (by rfl) (fun w' hs=>?_) (fun _ _ _ h=>h) ?_
  rotate_left
  ·rw [HT.out] at hs
   have q1:=hs.x;have q2:=hs.y
   go_simp
   try rfl
  simp only [Act.put,D6,D5,D4]
 refine A8 rfl (fun K hK=>?_)
 go_simp
 refine (A1g n _).mono ?_
 rintro e w1 ⟨ad1,rfl,hb,hd1⟩
 have t1:=HTB.out _ _ t0 hb
 have HD1:=hid hd1
 clear hb hd1
 refine hK.out _ _ t1 ?_
 clear hK K
 refine A8 rfl (fun K hK=>?_)
 go_simp
 refine (A1g m _).mono ?_
 rintro e w2 ⟨ad2,rfl,hb,hd2⟩
 have t2:=HTB.out _ _ t1 hb
 have HD1b:=hid (HD1.out.below hb)
 have HD2:=hid hd2
 clear hb hd2
 refine hK.out _ _ t2 ?_
 clear hK K
 refine A8 rfl (fun K hK=>?_)
 go_simp
 have hcm:=B31 HD1b.out HD2.out
 simp only [A70,EN.out,EM.out] at hcm
 refine hcm.mono ?_
 rintro e w3 ⟨rfl,hb⟩
 have t3:=HTB.out _ _ t2 hb
 clear hb hcm
 refine hK.out _ _ t3 ?_
 clear hK K
 refine A0 ?_ rfl (by rfl) (fun w' hs=>?_) (fun _ _ _ h=>h) ?_
 rotate_left
 ·clear hs
  go_simp
  try rfl
 simp only [Act.put,D6,D5,D4]
 refine C3 ?_
 rw [HT.out] at t3
 have HB:=hid t3.below
 clear t0 t1 t2 t3
 go_wp2
 go_ret
 exact ⟨rfl,HB.out⟩
theorem B5O (n m:Nat) (hn:n < wW) (hm:m < wW) (w:World) :
  Calls Tryz.prog 173 #[.agg (A3 32 n).toArray,.agg (A3 32 m).toArray] w fun e w'=>e = .returned (.agg (A3 32 (n+m)).toArray)∧Below w.heap.size w w':=by
 obtain ⟨w0,e0⟩:∃ w0,w0=((w.alloc (.cells (A3 32 n).toArray 25)).alloc (.cells (A3 32 m).toArray 25)).alloc (.cells (K0 32).toArray 25):=⟨_,rfl⟩
 have hx:Z1 w w0.drew n m:=by rw [e0];exact (Z1.start w n m).on ((Below.refl _ _).alloc (Nat.le_refl _) _).drew
 have hf:w0.drew.free? (w.heap.size+1+1) 0 32=true:=by rw [e0];exact World.free?_alloc_at _ _ (by simp) (by simp)
 obtain ⟨T,hT⟩:∃ T:World→Prop,T=fun w'=>Z1 w w' n m∧w'.free? (w.heap.size+1+1) 0 32=true:=⟨_,rfl⟩
 have t0:T w0.drew:=by rw [hT];exact ⟨hx,hf⟩
 have HTB:Hid (∀ W W',T W→Below W.heap.size W W'→T W'):=by
  rw [hT];intro W W' hW hb;exact ⟨hW.1.on hb,((D2 hb).2 _ _ _ (C4 hW.2)).trans hW.2⟩
 have HE:=hid e0
 have hl1:(A3 32 n).length=32:=by simp
 have hl2:(A3 32 m).length=32:=by simp
 have HT:=hid hT
 have EN:=hid (A1Y hn)
 have EM:=hid (A1Y hm)
 clear e0 hx hT hf
 go_enter Tryz.func173,Tryz.ntmps173
 go_wp2_with fail
 rw [← HE.out]
 refine A6 T [6] (.take 0 (.take 2 (.alt 1 (.alt 3 (.alt 4 (.alt 5 (.alt 6 .fin .stop) .stop) .stop) .stop) .stop))) (by kernel_rfl) (by kernel_rfl) ?_
 iterate 2
  refine A9 ?_ t0 rfl (by rfl) (fun w' hs=>?_) (fun _ _ _ h=>h) ?_
  rotate_left
  ·rw [HT.out] at hs
   have q1:=hs.1.x;have q2:=hs.1.y
   go_simp
   try rfl
  simp only [Act.put,D6,D5,D4]
 refine A8 rfl (fun K hK=>?_)
 go_simp
 refine (A1g n _).mono ?_
 rintro e w1 ⟨ad1,rfl,hb,hd1⟩
 have t1:=HTB.out _ _ t0 hb
 have HD1:=hid hd1
 clear hb hd1
 refine hK.out _ _ t1 ?_
 clear hK K
 refine A8 rfl (fun K hK=>?_)
 go_simp
 refine (A1g m _).mono ?_
 rintro e w2 ⟨ad2,rfl,hb,hd2⟩
 have t2:=HTB.out _ _ t1 hb
 have HD1b:=hid (HD1.out.below hb)
 have HD2:=hid hd2
 clear hb hd2
 refine hK.out _ _ t2 ?_
 clear hK K
 refine A8 rfl (fun K hK=>?_)
 go_simp
 have had:=B32 HD1b.out HD2.out (by simp)
 simp only [A70,EN.out,EM.out] at had
 refine had.mono ?_
 rintro e w3 ⟨v3,l3,rfl,hd3,hl3,hv3⟩
 obtain ⟨ad3,c3,rfl,hd4⟩:=hd3.at (by omega)
 have t3:=HTB.out _ _ t2 hd3.below
 have HD4:=hid hd4
 have HL3:=hid hl3
 have EV:Hid (A3 32 (I6 l3)=A3 32 (n+m)):=by show _=_;rw [hv3]
 clear hd3 hd4 had hv3 hl3
 refine hK.out _ _ t3 ?_
 clear hK K
 refine A8 rfl (fun K hK=>?_)
 go_simp
 have hwd:=A6R HD4.out (by have:=HL3.out;omega)
 rw [EV.out] at hwd
 refine hwd.mono ?_
 rintro e w4 ⟨rfl,hb⟩
 have t4:=HTB.out _ _ t3 hb
 have hbo:=C7 32 (n+m)
 clear hb hwd
 refine hK.out _ _ t4 ?_
 clear hK K
 refine L0 rfl (by simp) (fun K hK=>?_)
 go_simp
 rw [HT.out] at t4
 have t5:=t4.2
 go_simp
 refine hK.out _ _ ?_
 clear hK K
 refine C3 ?_
 have HB:=hid t4.1.below
 clear t0 t1 t2 t3 t4
 go_wp2
 refine F2 A1L rfl _ rfl rfl t5 hbo ?_
 exact ⟨rfl,HB.out.setCells (Nat.le_trans (Nat.le_succ _) (Nat.le_succ _)) _ _⟩
theorem B1t (n m:Nat) (hn:n < wW) (hm:m < wW) (w:World) :
  Calls Tryz.prog 174 #[.agg (A3 32 n).toArray,.agg (A3 32 m).toArray] w fun e w'=>e = .returned (.agg (A3 32 (n+wW - m)).toArray)∧Below w.heap.size w w':=by
 obtain ⟨w0,e0⟩:∃ w0,w0=((w.alloc (.cells (A3 32 n).toArray 25)).alloc (.cells (A3 32 m).toArray 25)).alloc (.cells (K0 32).toArray 25):=⟨_,rfl⟩
 have hx:Z1 w w0.drew n m:=by rw [e0];exact (Z1.start w n m).on ((Below.refl _ _).alloc (Nat.le_refl _) _).drew
 have hf:w0.drew.free? (w.heap.size+1+1) 0 32=true:=by rw [e0];exact World.free?_alloc_at _ _ (by simp) (by simp)
 obtain ⟨T,hT⟩:∃ T:World→Prop,T=fun w'=>Z1 w w' n m∧w'.free? (w.heap.size+1+1) 0 32=true:=⟨_,rfl⟩
 have t0:T w0.drew:=by rw [hT];exact ⟨hx,hf⟩
 have HTB:Hid (∀ W W',T W→Below W.heap.size W W'→T W'):=by
  rw [hT];intro W W' hW hb;exact ⟨hW.1.on hb,((D2 hb).2 _ _ _ (C4 hW.2)).trans hW.2⟩
 have HE:=hid e0
 have hl1:(A3 32 n).length=32:=by simp
 have hl2:(A3 32 m).length=32:=by simp
 have HT:=hid hT
 have EN:=hid (A1Y hn)
 have EM:=hid (A1Y hm)
 clear e0 hx hT hf
 go_enter Tryz.func174,Tryz.ntmps174
 go_wp2_with fail
 rw [← HE.out]
 refine A6 T [6] (.take 0 (.take 2 (.alt 1 (.alt 3 (.alt 4 (.alt 5 (.alt 6 .fin .stop) .stop) .stop) .stop) .stop))) (by kernel_rfl) (by kernel_rfl) ?_
 iterate 2
  refine A9 ?_ t0 rfl (by rfl) (fun w' hs=>?_) (fun _ _ _ h=>h) ?_
  rotate_left
  ·rw [HT.out] at hs
   have q1:=hs.1.x;have q2:=hs.1.y
   go_simp
   try rfl
  simp only [Act.put,D6,D5,D4]
 refine A8 rfl (fun K hK=>?_)
 go_simp
 refine (A1g n _).mono ?_
 rintro e w1 ⟨ad1,rfl,hb,hd1⟩
 have t1:=HTB.out _ _ t0 hb
 have HD1:=hid hd1
 clear hb hd1
 refine hK.out _ _ t1 ?_
 clear hK K
 refine A8 rfl (fun K hK=>?_)
 go_simp
 refine (A1g m _).mono ?_
 rintro e w2 ⟨ad2,rfl,hb,hd2⟩
 have t2:=HTB.out _ _ t1 hb
 have HD1b:=hid (HD1.out.below hb)
 have HD2:=hid hd2
 clear hb hd2
 refine hK.out _ _ t2 ?_
 clear hK K
 refine A8 rfl (fun K hK=>?_)
 go_simp
 have had:=B3Z HD1b.out HD2.out (by simp)
 simp only [A70,EN.out,EM.out] at had
 refine had.mono ?_
 rintro e w3 ⟨ad3,rfl,hb3,l3,hd4,hl3,d3,hd3,hv3⟩
 have t3:=HTB.out _ _ t2 hb3
 have hd5:A1H w3 ad3 16 l3:=hd4
 have HD4:=hid hd5
 have HL3:=hid hl3
 have EV:Hid (A3 32 (I6 l3)=A3 32 (n+wW - m)):=by
  refine A52 32 _ _ ?_
  rw [show (65536:Nat) ^ 16=256 ^ 32 by decide] at hv3
  have hw:wW=256 ^ 32:=A23
  rw [hw] at hn hm ⊢
  generalize (256:Nat) ^ 32=P at *
  have hd:d3=0∨d3=1:=by omega
  rcases hd with rfl | rfl
  ·have e1:I6 l3+P=n+P - m:=by omega
   rw [← e1,Nat.add_mod_right]
  ·have e1:I6 l3=n+P - m:=by omega
   rw [e1]
 clear hb3 hd4 hd5 had hv3 hl3
 refine hK.out _ _ t3 ?_
 clear hK K
 refine A8 rfl (fun K hK=>?_)
 go_simp
 have hwd:=A6R (c:=16) (ad:=ad3) HD4.out (by have:=HL3.out;omega)
 rw [EV.out,HL3.out] at hwd
 refine hwd.mono ?_
 rintro e w4 ⟨rfl,hb⟩
 have t4:=HTB.out _ _ t3 hb
 have hbo:=C7 32 (n+wW - m)
 clear hb hwd
 refine hK.out _ _ t4 ?_
 clear hK K
 refine L0 rfl (by simp) (fun K hK=>?_)
 go_simp
 rw [HT.out] at t4
 have t5:=t4.2
 go_simp
 refine hK.out _ _ ?_
 clear hK K
 refine C3 ?_
 have HB:=hid t4.1.below
 clear t0 t1 t2 t3 t4
 go_wp2
 refine F2 A1L rfl _ rfl rfl t5 hbo ?_
 exact ⟨rfl,HB.out.setCells (Nat.le_trans (Nat.le_succ _) (Nat.le_succ _)) _ _⟩
end Go.Proofs.YtfflppedbopdpaaGreat
namespace Go.Proofs
open Go.Shelf
def Tryz.sortA_ren:Go.Shelf.Ren:=⟨fun | 6=>183 | 15=>272 | 14=>271 | 28=>338 | 29=>339 | 20=>330 | 21=>331 | 22=>332 | 23=>333 | 24=>334 | 25=>335 | 26=>336 | 27=>337 | 46=>361 | 47=>362 | 48=>363 | 49=>364 | 50=>365 | 57=>375 | n=>n,fun | 22=>150 | 24=>23 | 25=>156 | 3=>3 | 39=>89 | 0=>0 | 53=>315 | 55=>112 | 4=>4 | 46=>309 | 45=>308 | 50=>107 | 5=>5 | 9=>9 | 66=>332 | 70=>336 | 76=>347 | 77=>348 | n=>n,fun | n=>n⟩
theorem Tryz.sortA:Go.Proofs.SlLaysF0.n6 Tryz.prog Tryz.sortA_ren:={
 mixed:=by kernel_rfl
 f6:=⟨Tryz.f183.name,by decide,Tryz.func183.trans (congrArg some (by kernel_rfl))⟩
 f14:=⟨Tryz.f271.name,by decide,Tryz.func271.trans (congrArg some (by kernel_rfl))⟩
 f15:=Tryz.func272.trans (congrArg some (by kernel_rfl))
 f20:=⟨Tryz.f330.name,by decide,Tryz.func330.trans (congrArg some (by kernel_rfl))⟩
 f21:=⟨Tryz.f331.name,by decide,Tryz.func331.trans (congrArg some (by kernel_rfl))⟩
 f22:=⟨Tryz.f332.name,by decide,Tryz.func332.trans (congrArg some (by kernel_rfl))⟩
 f23:=⟨Tryz.f333.name,by decide,Tryz.func333.trans (congrArg some (by kernel_rfl))⟩
 f24:=⟨Tryz.f334.name,by decide,Tryz.func334.trans (congrArg some (by kernel_rfl))⟩
 f25:=⟨Tryz.f335.name,by decide,Tryz.func335.trans (congrArg some (by kernel_rfl))⟩
 f26:=⟨Tryz.f336.name,by decide,Tryz.func336.trans (congrArg some (by kernel_rfl))⟩
 f27:=⟨Tryz.f337.name,by decide,Tryz.func337.trans (congrArg some (by kernel_rfl))⟩
 f28:=Tryz.func338.trans (congrArg some (by kernel_rfl))
 f29:=Tryz.func339.trans (congrArg some (by kernel_rfl))
 f46:=⟨Tryz.f361.name,by decide,Tryz.func361.trans (congrArg some (by kernel_rfl))⟩
 f47:=Tryz.func362.trans (congrArg some (by kernel_rfl))
 f48:=Tryz.func363.trans (congrArg some (by kernel_rfl))
 f49:=⟨Tryz.f364.name,by decide,Tryz.func364.trans (congrArg some (by kernel_rfl))⟩
 f50:=⟨Tryz.f365.name,by decide,Tryz.func365.trans (congrArg some (by kernel_rfl))⟩
 f57:=⟨Tryz.f375.name,by decide,Tryz.func375.trans (congrArg some (by kernel_rfl))⟩
 t0:=Tryz.underlying0
 a0:=Tryz.isAgg0
 z0:=Tryz.sizeOf0
 v0:=Tryz.zeroValue0
 t3:=Tryz.underlying3
 a3:=Tryz.isAgg3
 z3:=Tryz.sizeOf3
 v3:=Tryz.zeroValue3
 t4:=Tryz.underlying4
 a4:=Tryz.isAgg4
 z4:=Tryz.sizeOf4
 v4:=Tryz.zeroValue4
 t5:=Tryz.underlying5
 a5:=Tryz.isAgg5
 z5:=Tryz.sizeOf5
 v5:=Tryz.zeroValue5
 t9:=Tryz.underlying9
 a9:=Tryz.isAgg9
 z9:=Tryz.sizeOf9
 v9:=Tryz.zeroValue9
 t22:=Tryz.underlying150
 a22:=Tryz.isAgg150
 z22:=Tryz.sizeOf150
 v22:=Tryz.zeroValue150
 t25:=Tryz.underlying156
 a25:=Tryz.isAgg156
 z25:=Tryz.sizeOf156
 v25:=Tryz.zeroValue156
 t39:=Tryz.underlying89
 a39:=Tryz.isAgg89
 z39:=Tryz.sizeOf89
 v39:=Tryz.zeroValue89
 t45:=Tryz.underlying308
 a45:=Tryz.isAgg308
 z45:=Tryz.sizeOf308
 v45:=Tryz.zeroValue308
 t46:=Tryz.underlying309
 a46:=Tryz.isAgg309
 z46:=Tryz.sizeOf309
 v46:=Tryz.zeroValue309
 t50:=Tryz.underlying107
 a50:=Tryz.isAgg107
 z50:=Tryz.sizeOf107
 v50:=Tryz.zeroValue107
 t53:=Tryz.underlying315
 a53:=Tryz.isAgg315
 z53:=Tryz.sizeOf315
 v53:=Tryz.zeroValue315
 t55:=Tryz.underlying112
 a55:=Tryz.isAgg112
 z55:=Tryz.sizeOf112
 v55:=Tryz.zeroValue112
 t66:=Tryz.underlying332
 a66:=Tryz.isAgg332
 z66:=Tryz.sizeOf332
 v66:=Tryz.zeroValue332
 t70:=Tryz.underlying336
 a70:=Tryz.isAgg336
 z70:=Tryz.sizeOf336
 v70:=Tryz.zeroValue336
 t76:=Tryz.underlying347
 a76:=Tryz.isAgg347
 z76:=Tryz.sizeOf347
 v76:=Tryz.zeroValue347
 t77:=Tryz.underlying348
 a77:=Tryz.isAgg348
 z77:=Tryz.sizeOf348
 v77:=Tryz.zeroValue348 }
end Go.Proofs
namespace Go.Mun
open Go.RowKit Go.Sort
open Go.Proofs (ltOf)
abbrev A6x:={ x:Nat // x < wA }
instance:Inhabited A6x:=⟨⟨0,by unfold wA;decide⟩⟩
def adE (x:A6x):List Value:=A3 20 x.1
theorem A32 (x:A6x):(adE x).length=20:=B0 _ _
def adC (x y:A6x):Int:=A71 x.1 y.1
theorem A54 (x y:A6x):ltOf adC x y=decide (x.1 < y.1):=by
 unfold ltOf adC A71
 by_cases h:x.1 < y.1
 ·simp [h]
 ·simp only [h,if_false]
  by_cases h2:y.1 < x.1 <;> simp [h2]
theorem B6O:SWO (ltOf adC):=by
 refine ⟨fun x=>?_,fun x y z h1 h2=>?_,fun x y z h1 h2=>?_⟩ <;> simp only [A54,decide_eq_true_eq,decide_eq_false_iff_not] at * <;> omega
theorem B6N (x y:A6x) (h1:ltOf adC x y=false) (h2:ltOf adC y x=false):x=y:=by
 simp only [A54,decide_eq_false_iff_not] at h1 h2
 exact Subtype.ext (by omega)
theorem B16:∀ (l:List A6x) (t:Nat),t < l.length*20→(Y1 (l.map Subtype.val))[t]? = some ((adE l[t / 20]!)[t % 20]!)
 | [],t,h=>by simp at h
 | a :: l,t,h=>by
  have h2:Y1 ((a :: l).map Subtype.val)=adE a++Y1 (l.map Subtype.val):=by simp [Y1,adE]
  rw [h2]
  by_cases ht:t < 20
  ·rw [List.getElem?_append_left (by rw [A32];exact ht),Nat.div_eq_of_lt ht,Nat.mod_eq_of_lt ht]
   have hl:t < (adE a).length:=by rw [A32];exact ht
   simp [List.getElem!_eq_getElem?_getD,hl]
  ·obtain ⟨u,rfl⟩:∃ u,t=u+20:=⟨t - 20,by omega⟩
   rw [List.getElem?_append_right (by rw [A32];omega),A32,Nat.add_sub_cancel,B16 l u (by simp at h;omega)]
   rw [Nat.add_div_right u (by decide),Nat.add_mod_right]
   simp
theorem A63 (l:List A6x):(flatK adE 20 l.toArray).toList=Y1 (l.map Subtype.val):=by
 apply List.ext_getElem?
 intro t
 by_cases ht:t < l.length*20
 ·rw [B16 l t ht]
  have hs:t < (flatK adE 20 l.toArray).size:=by simpa using ht
  have:=get_flatK adE 20 l.toArray t (by simpa using ht)
  rw [getElem!_pos _ t hs] at this
  rw [Array.getElem?_toList,Array.getElem?_eq_getElem hs,this]
  simp
 ·rw [List.getElem?_eq_none (by simp;omega),List.getElem?_eq_none (by simp;omega)]
theorem B1w {w:World} {n₀ g n cap size:Nat} {e:TypeId} {xs:List Value} (h:w.ownsRow n₀ e size (.slice (some ⟨g,0,none⟩) n cap) n xs) (F:Array Value) (hF:F.size=n*size) (m:Nat) (os:Array Obj) :
  (grow (putRow id (Go.Sort.ahead w m) g 0 F) os).ownsRow n₀ e size (.slice (some ⟨g,0,none⟩) n cap) n F.toList:=by
 rcases h.2 with ⟨h1,_⟩ | ⟨g',cap',cur,h1,hb,hh,hn,hm,hs,ht⟩
 ·cases h1
 cases h1
 refine ⟨by simpa using hF,.inr ⟨g,cap,putCells id 0 F cur,rfl,hb,?_,hn,hm,by simpa [putCells] using hs,?_⟩⟩
 ·have hlt:=(Array.getElem?_eq_some_iff.1 hh).1
  have hh2:(Go.Sort.ahead w m).heap[g]? = some (.cells cur e (0,0)):=hh
  show ((putRow id (Go.Sort.ahead w m) g 0 F).heap++os)[g]? = _
  rw [Array.getElem?_append_left (by rw [size_putRow];exact hlt)]
  show ((Go.Sort.ahead w m).heap.modify g (onCells (putCells id 0 F)))[g]? = _
  rw [Array.getElem?_modify,hh2]
  simp [onCells]
 ·apply List.ext_getElem?
  intro i
  have hle:n*size≤cap*size:=Nat.mul_le_mul_right _ hn
  rw [List.getElem?_take]
  by_cases hi:i < n*size
  ·rw [if_pos hi]
   have hic:i < cur.size:=by omega
   have hiF:i < F.size:=by omega
   simp [putCells,hic,hiF,getElem!_pos]
  ·rw [if_neg hi]
   have hiF:¬ i < F.size:=by omega
   simp [hiF]
end Go.Mun
namespace Go.Proofs.YtfflppedbopdpaaGreat
open Go.RowKit Go.Mun Go.Sort
theorem B6s (w:World):(isAgg 23).run Tryz.prog w = .ok true w:=by kernel_rfl
theorem B3S (w:World):(Go.sizeOf 23).run Tryz.prog w = .ok 20 w:=by kernel_rfl
theorem A4I {w:World} {v:Value} {n₀:Nat} {ss:List Nat} (hs:∀ a∈ss,a < wA) (hown:w.ownsRow n₀ 23 20 v ss.length (Y1 ss)) (hsz:ss.length≤4000000) :
  Calls Tryz.prog 183 #[v,.func (.func 77) #[] #[]] w fun e w'=>e = .returned (.tuple #[])∧∃ rs:List Nat,rs.Perm ss∧rs.Pairwise (·≤·)∧w'.ownsRow n₀ 23 20 v ss.length (Y1 rs)∧Below n₀ w w':=by
 have hcase:=hown.2
 rcases hcase with ⟨rfl,h0⟩ | ⟨g,cap,cur,rfl,hb,hh,hn,hm,hcs,ht⟩
 ·have he:ss = []:=List.eq_nil_of_length_eq_zero h0
  subst he
  have hc:=AnyF.slices_SortFunc_none Tryz.sortA none 0 (.func (.func 77) #[] #[]) w
  refine Calls.mono hc ?_
  rintro e w' ⟨rfl,rfl⟩
  exact ⟨rfl,[],List.Perm.refl _,List.Pairwise.nil,hown,Below.refl _ _⟩
 ·obtain ⟨l,hl⟩:∃ l:List A6x,l.map Subtype.val=ss:=⟨ss.attach.map fun a=>⟨a.1,hs a.1 a.2⟩,by simp⟩
  have hll:l.length=ss.length:=by rw [← hl];simp
  have hlt:g < w.heap.size:=(Array.getElem?_eq_some_iff.1 hh).1
  have hfl:=A63 l
  rw [hl] at hfl
  have hH:HoldsK adE 20 w g 0 l.toArray:=by
   intro j hj
   have hj':j < (Y1 ss).length:=by simpa [hll] using hj
   have hgj:(Y1 ss)[j]? = some ((flatK adE 20 l.toArray)[j]!):=by
    rw [← hfl,Array.getElem?_toList,getElem!_pos _ j hj,Array.getElem?_eq_getElem hj]
   constructor
   ·rw [Nat.zero_add]
    show _=some ((flatK adE 20 l.toArray)[j]!)
    rw [← hgj,← ht,List.getElem?_take,if_pos (by simpa using hj'),Array.getElem?_toList]
    unfold World.cell?
    simp only [hh]
    rfl
   ·unfold World.frozen?
    simp only [hh]
    simp
  have eg:∀ args w,(callFunc 77 args).run Tryz.prog w = .ok (.enter 77 args) w:=enters_of Tryz.func77 (by kernel_rfl) rfl
  have hcmp:CmpLays Tryz.prog 77 #[] adE 20 adC g 0 l.toArray.size w:=fun _ _ _ _ x y=>B3k x.1 y.1 x.2 y.2 _
  have hc:=AnyQ.slices_SortFunc_total Tryz.sortA 20 B6s B3S adE A32 (fun x=>M8 (C7 20 x.1)) adC B6O 77 #[] g 0 cap l.toArray w eg hcmp hH hlt (by simp;omega) B6N
  have hcs2:l.toArray.size=ss.length:=by simp [hll]
  rw [hcs2] at hc
  refine Calls.mono hc ?_
  rintro e w' ⟨rfl,m,os,rfl⟩
  refine ⟨rfl,(l.mergeSort fun x y => !(ltOf adC) y x).map Subtype.val,?_,?_,?_,?_⟩
  ·rw [← hl];exact (List.mergeSort_perm l _).map _
  ·rw [List.pairwise_map]
   refine (List.pairwise_mergeSort (le:=fun x y:A6x => !(ltOf adC) y x) ?_ ?_ l).imp ?_
   ·intro a b c;simp only [A54,Bool.not_eq_true',decide_eq_false_iff_not];omega
   ·intro a b;simp only [A54,Bool.or_eq_true,Bool.not_eq_true',decide_eq_false_iff_not];omega
   ·intro a b;simp only [A54,Bool.not_eq_true',decide_eq_false_iff_not];omega
  ·rw [← A63]
   exact B1w hown _ (by rw [size_flatK];simp [hll]) m os
  ·refine ⟨rfl,rfl,rfl,?_,fun k hk=>?_⟩
   ·show w.heap.size≤((putRowK adE 20 (Go.Sort.ahead w m) g 0 _).heap++os).size
    rw [Array.size_append]
    unfold putRowK
    rw [size_putRow]
    show w.heap.size≤w.heap.size+_
    omega
   ·show ((w.heap.modify g (onCells _))++os)[k]? = _
    rw [Array.getElem?_append_left (by rw [Array.size_modify];omega),Array.getElem?_modify,if_neg (by omega)]
end Go.Proofs.YtfflppedbopdpaaGreat
namespace Go.Proofs.YtfflppedbopdpaaGreat
open Go.RowKit Go.Mun Go.Maps Go.Shelf
theorem B0X (F:Fence) (n:Nat) (hF0:F.fn 182) (hF:F.fn 270) (hG:F.fn 184) (hro:F.round=none) (hn:4≤n) (Bm:Nat) (ks:List Nat) (w:World) (hN:ks.length≤4000000)
  (hseq:∀ w':World,Below w.heap.size w w'→SeqStopsK F (n - 1 - 1) Tryz.prog 184 #[.pointer (some ⟨Bm,0,none⟩)] (fun a:Nat => #[adV a]) KeepsWalks (fun ss=>ss.Perm ks) (fun _=>True) ks.length w') :
  CallsIn F n Tryz.prog 182 #[.func (.func 184) #[] #[.pointer (some ⟨Bm,0,none⟩)]] w fun e W' => ∃ v ss,e = .returned v∧ss.Perm ks∧W'.ownsRow w.heap.size 23 20 v ss.length (Y1 ss)∧(v = .slice none 0 0↔ss = [])∧Below w.heap.size w W':=by
 refine callsIn_of_wp Tryz.func182 rfl hF0 ?_ hro
 have hap:=A79 F (n - 1) hF hG hro (by omega) Bm ks w hN hseq
 clear hseq
 have h1:1≤n:=by omega
 simp only [Tryz.ntmps182,List.size_toArray,List.length_cons,List.length_nil,Nat.reduceAdd,Nat.reduceSub,Array.replicate_succ,Array.replicate_zero,List.push_toArray,List.append_toArray,List.nil_append,List.cons_append]
 gi_wp2_with (gi_at_call 270;refine hap.mono ?_;rintro e w' ⟨v,ss,rfl,hp,hrow,hnil,hB⟩)
 go_ret
 exact ⟨v,ss,rfl,hp,hrow,hnil,hB⟩
theorem A6t (Bm b nn:Nat) (D:DataW Unit) (ks:List Nat) (w:World) (hks:∀ a∈ks,a < wA) (hd:ks.Nodup) (hN:ks.length≤4000000) (hsz:Maps.size D=ks.length)
  (h1:∀ kl,Maps.has D kl=true→∃ a∈ks,keyOf Tryz.prog 23 (adV a)=some kl) (h2:∀ a∈ks,∀ kl,keyOf Tryz.prog 23 (adV a)=some kl→Maps.has D kl=true)
  (hBm:Bm < w.heap.size) (hm:w.cell? ⟨Bm,0,none⟩=some (.map (some b))) (hown:w.ownsMap Tryz.prog 23 R0 b nn D) :
  Calls Tryz.prog 182 #[.func (.func 184) #[] #[.pointer (some ⟨Bm,0,none⟩)]] w fun e W' => ∃ v ss,e = .returned v∧ss.Perm ks∧W'.ownsRow w.heap.size 23 20 v ss.length (Y1 ss)∧(v = .slice none 0 0↔ss = [])∧Below w.heap.size w W':=by
 refine (callsIn_wide (n:=4)).1 (B0X Fence.wide 4 trivial trivial trivial rfl (by omega) Bm ks w hN fun w' hb=>?_)
 refine B6n Fence.wide 2 trivial rfl (by omega) Bm b nn D ks w' hks hd hsz h1 h2 (Nat.lt_of_lt_of_le hBm hb.size) ((hb.cell (p:=⟨Bm,0,none⟩) hBm).trans hm) ?_
 have hbl:=hown.lt
 obtain ⟨es,clock,hbk,Ft,hs,hD⟩:=hown
 exact ⟨es,clock,(hb.block b hbl).trans hbk,Ft,hs,hD⟩
theorem B2U (m:Value) (w:World) (hm:m.oneCell'=true):Calls Tryz.prog 76 #[m] w fun e w'=>e = .returned (.func (.func 184) #[] #[.pointer (some ⟨w.heap.size,0,none⟩)])∧w'=w.alloc (.cells #[m] 90):=by
 go_enter Tryz.func76,Tryz.ntmps76
 go_wp2
 go_ret
 exact ⟨rfl,rfl⟩
theorem A7u (sv:Value) (ks:List Nat) (w:World) (hks:∀ a∈ks,a < wA) (hN:ks.length≤4000000)
  (hcol:Calls Tryz.prog 182 #[sv] w fun e W' => ∃ v ss,e = .returned v∧ss.Perm ks∧W'.ownsRow w.heap.size 23 20 v ss.length (Y1 ss)∧(v = .slice none 0 0↔ss = [])∧Below w.heap.size w W') :
  Calls Tryz.prog 75 #[sv,.func (.func 77) #[] #[]] w fun e W' => ∃ v ss,e = .returned v∧ss.Perm ks∧ss.Pairwise (·≤·)∧W'.ownsRow w.heap.size 23 20 v ss.length (Y1 ss)∧Below w.heap.size w W':=by
 have HS:=hid (fun (W:World) (v:Value) (ss:List Nat) (hp:ss.Perm ks) (hr:W.ownsRow w.heap.size 23 20 v ss.length (Y1 ss))=>A4I (w:=W) (fun a ha=>hks a (hp.mem_iff.1 ha)) hr (by rw [hp.length_eq];exact hN))
 clear hks hN
 go_enter Tryz.func75,Tryz.ntmps75
 go_wp2_with (first
  | (go_at_call 182;refine hcol.mono ?_;rintro e w1 ⟨v,ss,rfl,hp,hrow,hnil,hB⟩;clear hnil)
  | (go_at_call 183;refine (HS.out _ v ss hp hrow).mono ?_;rintro e w2 ⟨rfl,rs,hp2,hpw,hrow2,hB2⟩))
 go_ret
 exact ⟨v,rs,rfl,hp2.trans hp,hpw,by rw [hp2.length_eq];exact hrow2,hB.trans hB2⟩
end Go.Proofs.YtfflppedbopdpaaGreat
namespace Go.Proofs.YtfflppedbopdpaaGreat
open Go.RowKit Go.Mun Go.Maps Go.Shelf
attribute [local go_sem] Oper.semAt_some
attribute [local go_sem ↓] A2I
attribute [local irreducible] A3 K0
theorem B3C (a:Nat):wdV a = .agg (A3 32 a).toArray:=rfl
theorem B6m (F:Fence) (n:Nat) (hF:F.fn 188) (hro:F.round=none) (hn:1≤n) (Bm b nn:Nat) (D:DataW Unit) (ks:List Nat) (w:World)
  (hks:∀ a∈ks,a < wW) (hd:ks.Nodup) (hsz:Maps.size D=ks.length) (h1:∀ kl,Maps.has D kl=true→∃ a∈ks,keyOf Tryz.prog 25 (wdV a)=some kl) (h2:∀ a∈ks,∀ kl,keyOf Tryz.prog 25 (wdV a)=some kl→Maps.has D kl=true)
  (hBm:Bm < w.heap.size) (hm:w.cell? ⟨Bm,0,none⟩=some (.map (some b))) (hown:w.ownsMap Tryz.prog 25 R0 b nn D) :
  SeqStopsK F n Tryz.prog 188 #[.pointer (some ⟨Bm,0,none⟩)] (fun a:Nat => #[wdV a]) KeepsWalks (fun ss=>ss.Perm ks) (fun _=>True) ks.length w:=by
 intro l J Jx W hW hJ hJx hY h0
 have hm':W.cell? ⟨Bm,0,none⟩=some (.map (some b)):=(hW.cell (p:=⟨Bm,0,none⟩) hBm).trans hm
 have hown':W.ownsMap Tryz.prog 25 R0 b nn D:=by
  have hbl:=hown.lt
  obtain ⟨es,clock,hb,Ft,hs,hD⟩:=hown
  exact ⟨es,clock,(hW.block b hbl).trans hb,Ft,hs,hD⟩
 clear hm hown hW
 refine callsIn_of_wp Tryz.func188 rfl hF ?_ hro
 try simp only [Tryz.ntmps188,List.size_toArray,List.length_cons,List.length_nil,Nat.reduceAdd,Nat.reduceSub,Array.replicate_succ,Array.replicate_zero,List.push_toArray,List.append_toArray,List.nil_append,List.cons_append]
 gi_wp2_with (first
  | (gi_at_range;refine wpListIn_range_own _ rfl _ 84 rfl 25 25 A5L.keyed Tryz.underlying84 _ b nn _ rfl hown' ?_;intro w0 hrg0 hg0 hs0)
  | gi_in)
 try go_frame
 gi_loopw [3] (fun _ wr => ∃ (left:Lit→Bool) (cnt:Nat) (ss:List Nat),wr.ranges Tryz.prog 25 R0 b W.heap.size nn D left cnt∧ss.length+cnt≤Maps.size D∧A56 Tryz.prog 25 wdV wW ks left ss∧J ss wr)
  (fun _ wr=>wr.rangeLeft b W.heap.size)
 case atStart =>
  exact ⟨_,_,[],hrg0,by simp,A56.start h1 h2,hJ [] W w0 none h0 hg0 (fun r e=>by cases e)⟩
 case round =>
  obtain ⟨left,cnt,ss,hrg,hcs,hC,hJs⟩:=hrel
  gi_wp2_with (first
   | (gi_at_next;refine wpListIn_next_ranges _ rfl _ rfl 25 A5L.keyed R0 id id (fun key kl hk=>⟨key,rfl⟩) (fun v _ _=>⟨v,rfl⟩) b W.heap.size nn _ _ _ rfl hrg ?_ ?_)
   | gi_in)
  ·intro hc0 hl0
   gi_wp2
   go_end0
   exact ⟨⟨_,rfl⟩,.inl ⟨ss,hC.perm A5L hks hd hl0,hJs⟩⟩
  ·intro x c kl yd yp w2 cnt2 hkey hlk hv hat hrg2 hlt hg2 hs2 hen
   obtain ⟨a,ha,hxa,hns,hC2⟩:=hC.step A5L hks hkey hlk
   obtain rfl:x=wdV a:=hxa
   have hJ2:J ss w2:=hJ ss wr w2 (some W.heap.size) hJs hg2 (fun r e=>by cases e;exact ⟨Nat.le_refl _,hrg.iter_walk⟩)
   clear hs2 hv hat
   have hf2:(w2.alloc (.cells (K0 32).toArray 25)).free? w2.heap.size 0 32=true:=World.free?_alloc_at _ _ rfl (by simp [K0])
   have hok:=C7 32 a
   have hlen:=L2 hok
   generalize hw3:(w2.alloc (.cells (K0 32).toArray 25)).setCells w2.heap.size 0 (A3 32 a)=w3
   have hb3:Below w2.heap.size w2 w3:=by rw [← hw3];exact ((Below.refl _ w2).alloc (Nat.le_refl _) _).setCells (Nat.le_refl _) _ _
   have hJ3:J ss w3:=hJ ss w2 w3 none hJ2 ⟨hb3.1,hb3.2,hb3.3,hb3.size,fun k hk _=>hb3.block k hk⟩ (fun r e=>by cases e)
   have hr3:w3.row? w2.heap.size 0 32=some (A3 32 a):=by
    have hz:(K0 32).length=32:=by simp [K0]
    rw [← hw3,World.row?_setCells_lay 0 (A3 32 a) (Nat.le_refl _) (by rw [hlen];exact Nat.le_refl _),World.row?_alloc_at _ _ _ rfl hz]
    show some (lay (K0 32) 0 (A3 32 a))=_
    rw [A3M _ _ (by rw [hlen,hz])]
   obtain ⟨fn,tmps,assign,body,hy,hR⟩:=hY ss a w3 hJ3 (by omega)
   have hk3:KeepsWalks w2 w3:=⟨hb3.size,fun k o h _=>(hb3.block k (Array.getElem?_eq_some_iff.1 h).1).trans h⟩
   simp only [B3C] at hy hen ⊢
   gi_wp2
   refine hR.mono ?_
   rintro e W3 (⟨rfl,hJ4,hk4⟩ | ⟨rfl,hJ4⟩)
   ·gi_wp2
    have hrg3:=(hrg2.of_walks hk3).of_walks hk4
    go_roundw
    case rel=>exact ⟨_,cnt2,ss++[a],hrg3,by simp;omega,hC2,hJ4⟩
    case measure=>rw [hrg3.left_eq,hrg.left_eq];exact hlt
   ·gi_wp2
    refine bodyPost_ret (results_none rfl _ _ _) rfl ?_
    exact ⟨⟨_,rfl⟩,.inr ⟨_,trivial,hJ4⟩⟩
end Go.Proofs.YtfflppedbopdpaaGreat
namespace Go.Proofs.YtfflppedbopdpaaGreat
open Go.RowKit Go.Mun Go.Maps Go.Shelf
attribute [local go_sem] Oper.semAt_some
attribute [local go_sem ↓] A2I
attribute [local irreducible] A3 K0
theorem B2p (l:List Nat) (x:Nat):D3 (l++[x])=D3 l++A3 32 x:=by simp [D3]
theorem B9w:(Tryz.prog.info? 25).map (fun i=>(i.zero,i.size,i.bytes))=some (some (.agg (K0 32).toArray),32,32):=by kernel_rfl
theorem A78 (F:Fence) (n:Nat) (hF:F.fn 273) (hG:F.fn 188) (hro:F.round=none) (hn:3≤n) (Bm:Nat) (ks:List Nat) (w:World) (hN:ks.length≤4000000)
  (hseq:∀ w':World,Below w.heap.size w w'→SeqStopsK F (n - 1) Tryz.prog 188 #[.pointer (some ⟨Bm,0,none⟩)] (fun a:Nat => #[wdV a]) KeepsWalks (fun ss=>ss.Perm ks) (fun _=>True) ks.length w') :
  CallsIn F n Tryz.prog 273 #[.slice none 0 0,.func (.func 188) #[] #[.pointer (some ⟨Bm,0,none⟩)]] w fun e W' => ∃ v ss,e = .returned v∧ss.Perm ks∧W'.ownsRow w.heap.size 25 32 v ss.length (D3 ss)∧(v = .slice none 0 0↔ss = [])∧Below w.heap.size w W':=by
 obtain ⟨i0,hi,hz0,hz1,hz2⟩:=info_parts B9w
 have h1:1≤n:=by omega
 refine callsIn_of_wp_marks Tryz.func273 rfl hF ?_ hro
 try simp only [Tryz.ntmps273,List.size_toArray,List.length_cons,List.length_nil,Nat.reduceAdd,Nat.reduceSub,Array.replicate_succ,Array.replicate_zero,List.push_toArray,List.append_toArray,List.nil_append,List.cons_append]
 gi_wp2
 obtain ⟨W0,hW0⟩:∃ W0,w.alloc (.cells #[.slice none 0 0] 56)=W0:=⟨_,rfl⟩
 have hsz:W0.heap.size=w.heap.size+1:=by rw [← hW0];simp
 have hB0:Boxed W0 w.heap.size 56 (.slice none 0 0):=by rw [← hW0];exact Boxed.new _ _ _
 have hBW:Below w.heap.size w W0:=by rw [← hW0];exact (Below.refl _ w).alloc (Nat.le_refl _) _
 rw [hW0]
 have hO1:OwnFrom W0.heap.size (fun (pre:List Nat) W => ∃ v,Boxed W w.heap.size 56 v∧W.ownsRow w.heap.size 25 32 v pre.length (D3 pre)∧(v = .slice none 0 0↔pre = [])):=
  _root_.Go.Own.from (holdsRow_own (β:=List Nat) w.heap.size w.heap.size 56 25 32 (fun pre=>pre.length) D3 (fun pre v=>v = .slice none 0 0↔pre = [])) _
 have hO2:OwnFrom W0.heap.size (fun (_:List Nat) W=>Below w.heap.size w W):=ownFrom_below (Nat.le_refl _) (by rw [hsz];omega)
 have hOI:=OwnFrom.and hO1 hO2
 refine wpIn_rangeFunc_ownH hro h1 (gf:=188) (lb:=#[.pointer (some ⟨Bm,0,none⟩)]) rfl hG (enters_of Tryz.func188 (by kernel_rfl) rfl)
  (hseq W0 hBW) walksK_t walksK_b (Below.refl _ _) (fun _=>rfl)
  (fun pre W=>(∃ v,Boxed W w.heap.size 56 v∧W.ownsRow w.heap.size 25 32 v pre.length (D3 pre)∧(v = .slice none 0 0↔pre = []))∧Below w.heap.size w W)
  (fun _ _ _=>False)
  hOI
  (fun _ _ _ _ _ h _ _=>h)
  ⟨⟨_,hB0,World.ownsRow_nil _ _ _ _,by simp⟩,hBW⟩
  (fun x a' W => ∃ Bx,w.heap.size < Bx∧W.row? Bx 0 32=some (A3 32 x)∧a'={ tmps:=#[.slice none 0 0,.func (.func 188) #[] #[.pointer (some ⟨Bm,0,none⟩)],.pointer (some ⟨w.heap.size,0,none⟩),undef,.slice none 0 0,.pointer (some ⟨Bx,0,none⟩),.func (.func 188) #[] #[.pointer (some ⟨Bm,0,none⟩)],wdV x,undef,undef,undef,undef,undef],defers:=[] })
  (fun x a' s X Y row h hg hr=>by
   obtain ⟨Bx,hB,hrow,e⟩:=h
   exact ⟨Bx,hB,B1r Bx 32 _ () X Y row hrow hg (fun r e=>(hr r e).2),e⟩) ?assign ?body ?done ?stop
 case assign =>
  rintro l pre x W K ⟨⟨v,hv,hrow,hnil⟩,hB⟩ hK
  have hf2:(W.alloc (.cells (K0 32).toArray 25)).free? W.heap.size 0 32=true:=World.free?_alloc_at _ _ rfl (by simp [zU8_len])
  have hok:=C7 32 x
  have hlen:=L2 hok
  have hr3:((W.alloc (.cells (K0 32).toArray 25)).setCells W.heap.size 0 (A3 32 x)).row? W.heap.size 0 32=some (A3 32 x):=by
   rw [World.row?_setCells_lay 0 (A3 32 x) (Nat.le_refl _) (by rw [hlen];exact Nat.le_refl _),World.row?_alloc_at _ _ _ rfl (zU8_len 32)]
   show some (lay (K0 32) 0 (A3 32 x))=_
   rw [A3M _ _ (by rw [hlen,zU8_len])]
  have hb3:Below W.heap.size W ((W.alloc (.cells (K0 32).toArray 25)).setCells W.heap.size 0 (A3 32 x)):=((Below.refl _ W).alloc (Nat.le_refl _) _).setCells (Nat.le_refl _) _ _
  simp only [B3C] at hK ⊢
  gi_wp2
  refine hK _ _ ((Below.keepsOthers hb3).from _) (Below.keepsWalks hb3) ⟨⟨v,?_,?_,hnil⟩,?_⟩ ⟨_,?_,hr3,rfl⟩
  ·exact Boxed.kept hv (Below.asGrown hb3) (by simp)
  ·exact hrow.kept (Below.asGrown hb3) (by cases v.ownBlock <;> simp)
  ·exact hB.trans (hb3.mono hB.size)
  ·exact Nat.lt_of_lt_of_le hv.lt (Nat.le_refl _)
 case body =>
  rintro l pre x a' W hl _ ⟨⟨v,hv,hrow,hnil⟩,hB⟩ ⟨Bx,hBx,hrx,rfl⟩ hlt
  have hvc:=hv.cell
  have hok:=C7 32 x
  have hlen:=L2 hok
  have hsW:=hB.size
  gi_wp2_with (gi_at_builtin;go_must (refine wpListIn_append_own _ rfl _ _ 56 rfl w.heap.size 25 i0 _ 32 32 Tryz.underlying56 hi hz0 hz1 hz2 (by simp [Value.cells,zU8_len]) (by decide) _ _ _ rfl (hrow.alloc _) ⟨W.heap.size,0,none⟩ 1 1 (A3 32 x) rfl (by rw [hlen]) (A3Y _ _ _) (M8 hok) (by unfold maxLen;omega) (by omega) (by simp;omega) ?_);intro v' w1 hown' hgrow _;obtain ⟨g',cap',rfl⟩:=ownsRow_succ hown';obtain ⟨hv1,hv2,hr2,hk2,hb2⟩:=hv.appended (by decide) hrow hB.size (Nat.le_refl _) hown' hgrow;have hc1:=hv1.cell;have hf1:=Boxed.free hv1)
  refine ⟨hk2.from _,hk2.walks,⟨⟨_,hv2,?_,?_⟩,?_⟩⟩
  ·rw [B2p];simpa using hr2
  ·simp
  ·exact hB.trans hb2
 case done =>
  rintro D xs W hD hp ⟨⟨v,hv,hrow,hnil⟩,hB⟩ hK
  have hvc:=hv.cell
  gi_wp2
  refine ⟨by simp,.inl ⟨_,_,rfl,run_takeDeferred hK,?_⟩⟩
  refine ⟨_,results_tmp rfl _ _ _,v,xs,rfl,hp,ownsRow_putObj hrow _ hK rfl,hnil,hB.trans (belowK_b (w:=w) (Nat.le_refl _) W D _ _ (by omega) hK rfl rfl)⟩
 case stop =>
  rintro D c pre W hD _ h _
  exact h.elim
end Go.Proofs.YtfflppedbopdpaaGreat
namespace Go.Proofs.YtfflppedbopdpaaGreat
open Go.RowKit Go.Mun Go.Maps Go.Shelf
theorem B0W (F:Fence) (n:Nat) (hF0:F.fn 186) (hF:F.fn 273) (hG:F.fn 188) (hro:F.round=none) (hn:4≤n) (Bm:Nat) (ks:List Nat) (w:World) (hN:ks.length≤4000000)
  (hseq:∀ w':World,Below w.heap.size w w'→SeqStopsK F (n - 1 - 1) Tryz.prog 188 #[.pointer (some ⟨Bm,0,none⟩)] (fun a:Nat => #[wdV a]) KeepsWalks (fun ss=>ss.Perm ks) (fun _=>True) ks.length w') :
  CallsIn F n Tryz.prog 186 #[.func (.func 188) #[] #[.pointer (some ⟨Bm,0,none⟩)]] w fun e W' => ∃ v ss,e = .returned v∧ss.Perm ks∧W'.ownsRow w.heap.size 25 32 v ss.length (D3 ss)∧(v = .slice none 0 0↔ss = [])∧Below w.heap.size w W':=by
 refine callsIn_of_wp Tryz.func186 rfl hF0 ?_ hro
 have hap:=A78 F (n - 1) hF hG hro (by omega) Bm ks w hN hseq
 clear hseq
 have h1:1≤n:=by omega
 simp only [Tryz.ntmps186,List.size_toArray,List.length_cons,List.length_nil,Nat.reduceAdd,Nat.reduceSub,Array.replicate_succ,Array.replicate_zero,List.push_toArray,List.append_toArray,List.nil_append,List.cons_append]
 gi_wp2_with (gi_at_call 273;refine hap.mono ?_;rintro e w' ⟨v,ss,rfl,hp,hrow,hnil,hB⟩)
 go_ret
 exact ⟨v,ss,rfl,hp,hrow,hnil,hB⟩
theorem A50 (Bm b nn:Nat) (D:DataW Unit) (ks:List Nat) (w:World) (hks:∀ a∈ks,a < wW) (hd:ks.Nodup) (hN:ks.length≤4000000) (hsz:Maps.size D=ks.length)
  (h1:∀ kl,Maps.has D kl=true→∃ a∈ks,keyOf Tryz.prog 25 (wdV a)=some kl) (h2:∀ a∈ks,∀ kl,keyOf Tryz.prog 25 (wdV a)=some kl→Maps.has D kl=true)
  (hBm:Bm < w.heap.size) (hm:w.cell? ⟨Bm,0,none⟩=some (.map (some b))) (hown:w.ownsMap Tryz.prog 25 R0 b nn D) :
  Calls Tryz.prog 186 #[.func (.func 188) #[] #[.pointer (some ⟨Bm,0,none⟩)]] w fun e W' => ∃ v ss,e = .returned v∧ss.Perm ks∧W'.ownsRow w.heap.size 25 32 v ss.length (D3 ss)∧(v = .slice none 0 0↔ss = [])∧Below w.heap.size w W':=by
 refine (callsIn_wide (n:=4)).1 (B0W Fence.wide 4 trivial trivial trivial rfl (by omega) Bm ks w hN fun w' hb=>?_)
 refine B6m Fence.wide 2 trivial rfl (by omega) Bm b nn D ks w' hks hd hsz h1 h2 (Nat.lt_of_lt_of_le hBm hb.size) ((hb.cell (p:=⟨Bm,0,none⟩) hBm).trans hm) ?_
 have hbl:=hown.lt
 obtain ⟨es,clock,hbk,Ft,hs,hD⟩:=hown
 exact ⟨es,clock,(hb.block b hbl).trans hbk,Ft,hs,hD⟩
theorem B0t (m:Value) (w:World) (hm:m.oneCell'=true):Calls Tryz.prog 80 #[m] w fun e w'=>e = .returned (.func (.func 188) #[] #[.pointer (some ⟨w.heap.size,0,none⟩)])∧w'=w.alloc (.cells #[m] 84):=by
 go_enter Tryz.func80,Tryz.ntmps80
 go_wp2
 go_ret
 exact ⟨rfl,rfl⟩
end Go.Proofs.YtfflppedbopdpaaGreat
namespace Go.Proofs
open Go.Shelf
def Tryz.sortW_ren:Go.Shelf.Ren:=⟨fun | 6=>187 | 15=>272 | 14=>274 | 28=>338 | 29=>339 | 20=>340 | 21=>341 | 22=>342 | 23=>343 | 24=>344 | 25=>345 | 26=>346 | 27=>347 | 46=>366 | 47=>362 | 48=>363 | 49=>367 | 50=>368 | 57=>376 | n=>n,fun | 22=>56 | 24=>25 | 25=>132 | 3=>3 | 39=>89 | 0=>0 | 53=>315 | 55=>112 | 4=>4 | 46=>309 | 45=>308 | 50=>107 | 5=>5 | 9=>9 | 66=>332 | 70=>336 | 76=>347 | 77=>348 | n=>n,fun | n=>n⟩
theorem Tryz.sortW:Go.Proofs.SlLaysF0.n6 Tryz.prog Tryz.sortW_ren:={
 mixed:=by kernel_rfl
 f6:=⟨Tryz.f187.name,by decide,Tryz.func187.trans (congrArg some (by kernel_rfl))⟩
 f14:=⟨Tryz.f274.name,by decide,Tryz.func274.trans (congrArg some (by kernel_rfl))⟩
 f15:=Tryz.func272.trans (congrArg some (by kernel_rfl))
 f20:=⟨Tryz.f340.name,by decide,Tryz.func340.trans (congrArg some (by kernel_rfl))⟩
 f21:=⟨Tryz.f341.name,by decide,Tryz.func341.trans (congrArg some (by kernel_rfl))⟩
 f22:=⟨Tryz.f342.name,by decide,Tryz.func342.trans (congrArg some (by kernel_rfl))⟩
 f23:=⟨Tryz.f343.name,by decide,Tryz.func343.trans (congrArg some (by kernel_rfl))⟩
 f24:=⟨Tryz.f344.name,by decide,Tryz.func344.trans (congrArg some (by kernel_rfl))⟩
 f25:=⟨Tryz.f345.name,by decide,Tryz.func345.trans (congrArg some (by kernel_rfl))⟩
 f26:=⟨Tryz.f346.name,by decide,Tryz.func346.trans (congrArg some (by kernel_rfl))⟩
 f27:=⟨Tryz.f347.name,by decide,Tryz.func347.trans (congrArg some (by kernel_rfl))⟩
 f28:=Tryz.func338.trans (congrArg some (by kernel_rfl))
 f29:=Tryz.func339.trans (congrArg some (by kernel_rfl))
 f46:=⟨Tryz.f366.name,by decide,Tryz.func366.trans (congrArg some (by kernel_rfl))⟩
 f47:=Tryz.func362.trans (congrArg some (by kernel_rfl))
 f48:=Tryz.func363.trans (congrArg some (by kernel_rfl))
 f49:=⟨Tryz.f367.name,by decide,Tryz.func367.trans (congrArg some (by kernel_rfl))⟩
 f50:=⟨Tryz.f368.name,by decide,Tryz.func368.trans (congrArg some (by kernel_rfl))⟩
 f57:=⟨Tryz.f376.name,by decide,Tryz.func376.trans (congrArg some (by kernel_rfl))⟩
 t0:=Tryz.underlying0
 a0:=Tryz.isAgg0
 z0:=Tryz.sizeOf0
 v0:=Tryz.zeroValue0
 t3:=Tryz.underlying3
 a3:=Tryz.isAgg3
 z3:=Tryz.sizeOf3
 v3:=Tryz.zeroValue3
 t4:=Tryz.underlying4
 a4:=Tryz.isAgg4
 z4:=Tryz.sizeOf4
 v4:=Tryz.zeroValue4
 t5:=Tryz.underlying5
 a5:=Tryz.isAgg5
 z5:=Tryz.sizeOf5
 v5:=Tryz.zeroValue5
 t9:=Tryz.underlying9
 a9:=Tryz.isAgg9
 z9:=Tryz.sizeOf9
 v9:=Tryz.zeroValue9
 t22:=Tryz.underlying56
 a22:=Tryz.isAgg56
 z22:=Tryz.sizeOf56
 v22:=Tryz.zeroValue56
 t25:=Tryz.underlying132
 a25:=Tryz.isAgg132
 z25:=Tryz.sizeOf132
 v25:=Tryz.zeroValue132
 t39:=Tryz.underlying89
 a39:=Tryz.isAgg89
 z39:=Tryz.sizeOf89
 v39:=Tryz.zeroValue89
 t45:=Tryz.underlying308
 a45:=Tryz.isAgg308
 z45:=Tryz.sizeOf308
 v45:=Tryz.zeroValue308
 t46:=Tryz.underlying309
 a46:=Tryz.isAgg309
 z46:=Tryz.sizeOf309
 v46:=Tryz.zeroValue309
 t50:=Tryz.underlying107
 a50:=Tryz.isAgg107
 z50:=Tryz.sizeOf107
 v50:=Tryz.zeroValue107
 t53:=Tryz.underlying315
 a53:=Tryz.isAgg315
 z53:=Tryz.sizeOf315
 v53:=Tryz.zeroValue315
 t55:=Tryz.underlying112
 a55:=Tryz.isAgg112
 z55:=Tryz.sizeOf112
 v55:=Tryz.zeroValue112
 t66:=Tryz.underlying332
 a66:=Tryz.isAgg332
 z66:=Tryz.sizeOf332
 v66:=Tryz.zeroValue332
 t70:=Tryz.underlying336
 a70:=Tryz.isAgg336
 z70:=Tryz.sizeOf336
 v70:=Tryz.zeroValue336
 t76:=Tryz.underlying347
 a76:=Tryz.isAgg347
 z76:=Tryz.sizeOf347
 v76:=Tryz.zeroValue347
 t77:=Tryz.underlying348
 a77:=Tryz.isAgg348
 z77:=Tryz.sizeOf348
 v77:=Tryz.zeroValue348 }
end Go.Proofs
namespace Go.Proofs.YtfflppedbopdpaaGreat
open Go.RowKit Go.Mun

theorem A3Z (a:Option Addr) (n c:Nat) (l:List Int) (hn:n=l.length) (hn2:n≤70000000000000) (w:World) (hI:I7 w .u8 a c l) :
  Calls Tryz.prog 45 #[.slice a n c] w fun e w' => ∃ v,e = .returned v∧B5a w w' v l:=by
 cases a with
 | none =>
  have hc:=hI.nil rfl
  have hl:=hI.len
  subst hc
  have:l = []:=List.eq_nil_of_length_eq_zero (by omega)
  subst this
  subst hn
  have hq:=A5h w
  go_enter Tryz.func45,Tryz.ntmps45
  go_wp2
  go_ret
  exact ⟨_,rfl,⟨rfl,.inl ⟨rfl,rfl⟩⟩,Below.refl _ _⟩
 | some p =>
  have HI:=hid hI
  have HN:=hid hn
  have hq:=A6K n c p w
  have hm:n≤maxLen:=by unfold maxLen;omega
  have hs:=HI.out.below ((Below.refl _ _).alloc (Nat.le_refl _) (.cells #[] 5))
  have HS:=hid (F0.ints hs)
  have HO:Hid ((w.alloc (.cells #[] 5)).ownsRow w.heap.size 5 1 (.slice (some ⟨w.heap.size,0,none⟩) 0 0) 0 []):=World.ownsRow_lit (e:=5) (size:=1) w #[] 0 (Nat.le_refl _) (by decide) rfl
  clear hI hn hs
  go_enter Tryz.func45,Tryz.ntmps45
  go_wp2_with (at_builtin;go_must (refine A02 (base:=w.heap.size) (n:=0) (xs:=[]) A5Y rfl _ _ rfl HO.out rfl rfl HN.out (HI.out.below ((Below.refl _ _).alloc (Nat.le_refl _) (.cells #[] 5))) ?c3 ?c4 ?c5 ?_))
  case c3=>omega
  case c4=>omega
  case c5=>simp
  intro v3 w3 ho3 hg3
  have H3:Hid (B5a w w3 v3 l):=by
   refine ⟨?_,((Below.refl _ _).alloc (Nat.le_refl _) _).grown hg3 (by simp) (fun k hk=>by simp [Value.ownBlock] at hk;omega)⟩
   rw [← HN.out];exact ho3
  clear ho3 hg3
  go_wp2
  go_ret
  exact ⟨_,rfl,H3.out⟩

def B6S (a:Nat) (x:Acc):Ac:=⟨a,(x.nonce:Int),x.bal,x.code⟩
theorem A1R {w:World} {b b' e e' s s' n n':Nat} {v v':Value} {xs xs':List Value} (h:w.ownsRow b e s v n xs) (h':w.ownsRow b' e' s' v' n' xs') (he:e≠e'):v.ownBlock=none∨v.ownBlock≠v'.ownBlock:=by
 rcases h.2 with ⟨rfl,_⟩ | ⟨g,cap,cur,rfl,_,hg,_⟩
 ·exact .inl rfl
 ·rcases h'.2 with ⟨rfl,_⟩ | ⟨g',cap',cur',rfl,_,hg',_⟩
  ·exact .inr (by simp [Value.ownBlock])
  ·refine .inr fun e2=>?_
   have:g=g':=by simpa [Value.ownBlock] using e2
   subst this
   rw [hg] at hg'
   cases hg'
   exact he rfl
theorem A7g:∀ (l:List Nat) (i:Nat) (hi:i < l.length),((Y1 l).drop (i*20)).take 20=A3 20 l[i]
 | [],i,hi=>by simp at hi
 | a :: l,0,_=>by
  have:Y1 (a :: l)=A3 20 a++Y1 l:=by simp [Y1]
  rw [this,Nat.zero_mul,List.drop_zero,List.take_append_of_le_length (by simp),List.take_of_length_le (by simp)]
  rfl
 | a :: l,i+1,hi=>by
  have:Y1 (a :: l)=A3 20 a++Y1 l:=by simp [Y1]
  have hlen:(A3 20 a).length=20:=by simp
  rw [this,show (i+1)*20=(A3 20 a).length+i*20 by rw [hlen];omega,← List.drop_drop,List.drop_left]
  simpa using A7g l i (by simpa using hi)
theorem B5E {w:World} {g:Nat} {l:List Nat} {i:Nat} (hr:w.row? g 0 (l.length*20)=some (Y1 l)) (hi:i < l.length):w.row? g (i*20) 20=some (A3 20 l[i]):=by
 have h1:=World.row?_sub hr (o':=i*20) (n':=20) (by omega) (by omega)
 rw [h1,Nat.sub_zero,A7g l i hi]
theorem B12 (a:Nat) (n:Int) (b:Nat) (x:Option Addr) (k c:Nat) (code:V1):I1 55 (O7 L9) (B7 L9) [(0,.agg (A3 20 a).toArray),(1,.int .i64 n),(2,.agg (A3 32 b).toArray),(3,.slice x k c)]=some (B7 (P4 ⟨a,n,b,code⟩ (.slice x k c) (.slice none 0 0))):=by
 rw [G7 _ _ _ X1]
 ·rfl
 ·rw [B62]
  refine C1 ?_ (C1 ?_ (C1 ?_ (C1 ?_ (L4 _))))
  ·show some 20=some (A3 20 a).length;rw [B0]
  ·rfl
  ·show some 32=some (A3 32 b).length;rw [B0]
  ·rfl
def B2f (S:St) (l:List Nat):Prop:=l.Pairwise (· < ·)∧∀ a,a∈l↔a < wA∧¬ (S a).empty
theorem A5X (x:Acc):x.emptyB=true↔x.empty:=by unfold Acc.emptyB;simp
theorem B4p {S:St} {ks ss:List Nat} (hp:ss.Perm ks) (hd:ks.Nodup) (hlt:∀ a∈ks,a < wA) (hout:∀ a,a ∉ ks→S a=Acc.none) (hs:ss.Pairwise (·≤·)):B2f S (ss.filter fun a => !(S a).emptyB):=by
 refine ⟨?_,fun a=>?_⟩
 ·have h1:ss.Nodup:=hp.nodup_iff.2 hd
  have h2:ss.Pairwise (· < ·):=by
   have:=hs.and h1
   exact this.imp fun {a b} h=>by have:=h.1;have:=h.2;omega
  exact h2.filter _
 ·rw [List.mem_filter,hp.mem_iff]
  constructor
  ·rintro ⟨h1,h2⟩
   refine ⟨hlt a h1,fun h3=>?_⟩
   rw [(A5X _).2 h3] at h2
   cases h2
  ·rintro ⟨h1,h2⟩
   refine ⟨?_,?_⟩
   ·by_cases hm:a∈ks
    ·exact hm
    ·exact absurd (by rw [hout a hm];exact ⟨rfl,rfl,rfl,fun _=>rfl⟩) h2
   ·cases he:(S a).emptyB with
    | false=>rfl
    | true=>exact absurd ((A5X _).1 he) h2
theorem A0o {w:World} {b e s n:Nat} {v:Value} {xs:List Value} (h:w.ownsRow b e s v n xs):∃ ad c,v = .slice ad n c:=by
 rcases h.2 with ⟨rfl,rfl⟩ | ⟨g,cap,cur,rfl,_⟩
 ·exact ⟨none,0,rfl⟩
 ·exact ⟨_,_,rfl⟩
theorem B1b (x:Ac) (p:Option Addr) (n c:Nat):P0 55 (B7 (P4 x (.slice p n c) (.slice none 0 0)))=true:=by
 refine A1a (L8 _ _ _) fun s hs=>?_
 simp only [P4,List.mem_cons,List.not_mem_nil,or_false] at hs
 rcases hs with rfl | rfl | rfl | rfl | rfl
 all_goals first | rfl | (rw [B0];exact C7 _ _)
end Go.Proofs.YtfflppedbopdpaaGreat
