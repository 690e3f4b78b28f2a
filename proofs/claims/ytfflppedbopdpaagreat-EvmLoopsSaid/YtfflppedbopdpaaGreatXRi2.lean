/- A part of the proof of EvmLoops: XRi2. -/
import Derived.Test.YtfflppedbopdpaaGreatXRs10
import Derived.Test.YtfflppedbopdpaaGreatXRef1
set_option linter.unusedVariables false
set_option maxRecDepth 1000000
set_option maxHeartbeats 8000000
set_option linter.unusedSimpArgs false
namespace Go.Proofs.YtfflppedbopdpaaGreat
open Go.RowKit Go.Mun
theorem A5a:X0 Tryz.prog 142 5:=⟨⟨_,Tryz.underlying142,rfl⟩,by kernel_rfl⟩
def A1r:List Value:=A4i.c
section
variable (ρ:Operand→Value) (dst:Option Tmp) (x y z:Operand) (parts:List (Nat × Operand)) (t:TypeId) (pos:String) (after:Array Edge) (gd:Option (Nat × Bool)) (w:World)
theorem B9s:(execOp ρ ⟨dst,.load 142 x,t,pos,after,gd⟩).run Tryz.prog w=F7 (A1D Tryz.prog 142 5 (ρ x) w):=A0M ρ dst x t pos after gd w A5a
theorem B85:(execOp ρ ⟨dst,.store 142 x y,t,pos,after,gd⟩).run Tryz.prog w=L1 (A0f Tryz.prog 142 5 (ρ x) (ρ y) w):=P8 ρ dst x y t pos after gd w A5a
theorem B9V:(execOp ρ ⟨dst,.alloc 142,t,pos,after,gd⟩).run Tryz.prog w = .ok (.value (.pointer (some ⟨w.heap.size,0,none⟩))) (w.alloc (.cells A1r.toArray 142)):=P9 ρ dst t pos after gd w (fun _=>by kernel_rfl)
theorem B9G:(execOp ρ ⟨dst,.build 142 #[],t,pos,after,gd⟩).run Tryz.prog w = .ok (.value (.agg A1r.toArray)) w:=A4l (fun _=>by kernel_rfl) ρ dst t pos after gd w
end
attribute [go_sem ↓] B9s B85 B9V B9G

theorem A1Z (n:Nat):(str (Z2 n)).size≤2:=by
 rw [A8w];unfold Z2;split <;> simp
theorem A6L (r:Int) (h0:0≤r) (h1:r < 10) (w:World) :
  (Instr.slice 9 (.string ⟨#[48,49,50,51,52,53,54,55,56,57,97,98,99,100,101,102]⟩) (some (.int .i64 r)) (some (.int .i64 (r+1))) none).run Tryz.prog w = .ok (.string (str [dU r.toNat])) w:=by
 obtain ⟨n,rfl⟩:=Int.eq_ofNat_of_zero_le h0
 obtain rfl | rfl | rfl | rfl | rfl | rfl | rfl | rfl | rfl | rfl:n=0∨n=1∨n=2∨n=3∨n=4∨n=5∨n=6∨n=7∨n=8∨n=9:=by omega
 all_goals (clear h0 h1;kernel_rfl)

theorem A69 (n:Nat) (hn:n < 10) (x:Int) (hx:x=(n:Int)) (w:World):Calls Tryz.prog 300 #[.int .i64 x] w fun e w'=>e = .returned (.string (str (Z2 n)))∧w=w':=by
 have x0:0≤x:=by omega
 have x9:x≤9:=by omega
 have em:x % 10=x:=by omega
 have hs:=fun wx=>A6L x x0 (by omega) wx
 have HD:Hid (str [dU x.toNat]=str (Z2 n)):=hid (by
  unfold Z2
  rw [if_neg (by omega),List.nil_append,hx,Int.toNat_natCast,Nat.mod_eq_of_lt hn])
 clear hx
 go_enter Tryz.func300,Tryz.ntmps300
 go_wp2
 go_ret
 exact ⟨by rw [← HD.out];rfl,rfl⟩
theorem A2a (n:Nat) (hn:n < 100) (x:Int) (hx:x=(n:Int)) (w:World):Calls Tryz.prog 300 #[.int .i64 x] w fun e w'=>e = .returned (.string (str (Z2 n)))∧w=w':=by
 by_cases h9:n < 10
 ·exact A69 n h9 x hx w
 ·have x0:10≤x:=by omega
  have x9:x≤99:=by omega
  obtain ⟨r,hr⟩:∃ r,r=x % 10:=⟨_,rfl⟩
  have r0:0≤r:=by omega
  have r1:r≤9:=by omega
  have em:x % 10=r:=hr.symm
  have hs:=fun wx=>A6L r r0 (by omega) wx
  have HD:Hid (str (Z2 (n / 10))++str [dU r.toNat]=str (Z2 n)):=hid (by
   rw [A1m]
   unfold Z2
   rw [if_neg (by omega),if_pos (by omega),List.nil_append]
   have e1:n / 10 % 10=n / 10:=by omega
   have e2:r.toNat=n % 10:=by omega
   rw [e1,e2])
  have HX:=hid hx
  clear hr hx
  go_enter Tryz.func300,Tryz.ntmps300
  go_wp2_with fail
  refine (A69 (n / 10) (by omega) _ (by have:=HX.out;omega) _).mono ?_
  rintro e w1 ⟨rfl,rfl⟩
  have z1:=A1Z (n / 10)
  have z2:(str [dU r.toNat]).size≤2:=by rw [A8w];simp
  go_wp2
  go_ret
  exact ⟨by rw [← HD.out];rfl,rfl⟩
attribute [local irreducible] Inf.c A1r K3
theorem A5N:P0 5 A1r=true:=by unfold A1r Inf.c;rfl
theorem Inf.ok (x:Inf):P0 5 x.c=true:=by unfold Inf.c;simp [P0,Value.oneCell']

def A2u (m:Nat):Bool:=decide (96≤m) && decide (m < 165)
theorem B0n (m:Nat) (hm:m < 256) (w:World):Calls Tryz.prog 247 #[.int .u8 (m:Int)] w fun e w'=>e = .returned (.tuple #[.agg (T7 m).c.toArray,.bool (A2u m)])∧Below w.heap.size w w':=by
 have hf:Hid ((w.alloc (.cells A1r.toArray 142)).free? w.heap.size 0 5=true):=hid (World.free?_alloc_at _ _ rfl (by rw [L2 A5N];decide))
 obtain ⟨x,hx⟩:∃ x:Int,x=(m:Int):=⟨_,rfl⟩
 rw [← hx]
 have x0:0≤x:=by omega
 have x1:x≤255:=by omega
 by_cases h1:96≤m∧m < 128
 ·have hr:T7 m=⟨x,([80,85,83,72]++Z2 (m - 95)),0,1,3⟩:=by unfold T7;rw [if_pos h1,hx]
  have hk:A2u m=true:=by unfold A2u;simp;omega
  have HN:=hid (show ⟨#[80,85,83,72]⟩++str (Z2 (m - 95))=str (([80,85,83,72]++Z2 (m - 95))) by rw [show (⟨#[80,85,83,72]⟩:ByteArray)=str [80,85,83,72] from rfl,A1m])
  have g0:96≤x:=by omega
  have g1:x < 128:=by omega
  have HX:=hid hx
  have H1:=hid h1
  rw [hr,hk]
  have z1:=A1Z (m - 95)
  generalize ([80,85,83,72]++Z2 (m - 95))=nm at *
  have hok:P0 5 [.int .u8 x,.string (str nm),.int .i64 (0),.int .i64 (1),.int .i64 (3)]=true:=by simp [P0,Value.oneCell']
  clear hr hk hx h1 hm
  have hff:=hf.out
  go_enter Tryz.func247,Tryz.ntmps247
  go_wp2_with fail
  refine (A2a (m - 95) (by have:=H1.out;omega) _ (by have:=HX.out;have:=H1.out;omega) _).mono ?_
  rintro e w1 ⟨rfl,rfl⟩
  have hnn:=HN.out
  generalize str (Z2 (m - 95))=ds at *
  go_wp2
  exact A1P A5a rfl [.int .u8 x,.string (str nm),.int .i64 (0),.int .i64 (1),.int .i64 (3)] _ rfl rfl rfl (B8 _ hf.out hok) ⟨by unfold Inf.c;rfl,((Below.refl _ _).alloc (Nat.le_refl _) _).setCells (Nat.le_refl _) _ _⟩
 by_cases h2:128≤m∧m < 144
 ·have hr:T7 m=⟨x,([68,85,80]++Z2 (m - 127)),x - 127,x - 126,3⟩:=by unfold T7;rw [if_neg h1];rw [if_pos h2,hx]
  have hk:A2u m=true:=by unfold A2u;simp;omega
  have HN:=hid (show ⟨#[68,85,80]⟩++str (Z2 (m - 127))=str (([68,85,80]++Z2 (m - 127))) by rw [show (⟨#[68,85,80]⟩:ByteArray)=str [68,85,80] from rfl,A1m])
  have g0:128≤x:=by omega
  have g1:x < 144:=by omega
  have HX:=hid hx
  have H1:=hid h2
  rw [hr,hk]
  have z1:=A1Z (m - 127)
  generalize ([68,85,80]++Z2 (m - 127))=nm at *
  have hok:P0 5 [.int .u8 x,.string (str nm),.int .i64 (x - 127),.int .i64 (x - 126),.int .i64 (3)]=true:=by simp [P0,Value.oneCell']
  clear hr hk hx h1 h2 hm
  have hff:=hf.out
  go_enter Tryz.func247,Tryz.ntmps247
  go_wp2_with fail
  refine (A2a (m - 127) (by have:=H1.out;omega) _ (by have:=HX.out;have:=H1.out;omega) _).mono ?_
  rintro e w1 ⟨rfl,rfl⟩
  have hnn:=HN.out
  generalize str (Z2 (m - 127))=ds at *
  go_wp2
  exact A1P A5a rfl [.int .u8 x,.string (str nm),.int .i64 (x - 127),.int .i64 (x - 126),.int .i64 (3)] _ rfl rfl rfl (B8 _ hf.out hok) ⟨by unfold Inf.c;rfl,((Below.refl _ _).alloc (Nat.le_refl _) _).setCells (Nat.le_refl _) _ _⟩
 by_cases h3:144≤m∧m < 160
 ·have hr:T7 m=⟨x,([83,87,65,80]++Z2 (m - 143)),x - 142,x - 142,3⟩:=by unfold T7;rw [if_neg h1];rw [if_neg h2];rw [if_pos h3,hx]
  have hk:A2u m=true:=by unfold A2u;simp;omega
  have HN:=hid (show ⟨#[83,87,65,80]⟩++str (Z2 (m - 143))=str (([83,87,65,80]++Z2 (m - 143))) by rw [show (⟨#[83,87,65,80]⟩:ByteArray)=str [83,87,65,80] from rfl,A1m])
  have g0:144≤x:=by omega
  have g1:x < 160:=by omega
  have HX:=hid hx
  have H1:=hid h3
  rw [hr,hk]
  have z1:=A1Z (m - 143)
  generalize ([83,87,65,80]++Z2 (m - 143))=nm at *
  have hok:P0 5 [.int .u8 x,.string (str nm),.int .i64 (x - 142),.int .i64 (x - 142),.int .i64 (3)]=true:=by simp [P0,Value.oneCell']
  clear hr hk hx h1 h2 h3 hm
  have hff:=hf.out
  go_enter Tryz.func247,Tryz.ntmps247
  go_wp2_with fail
  refine (A2a (m - 143) (by have:=H1.out;omega) _ (by have:=HX.out;have:=H1.out;omega) _).mono ?_
  rintro e w1 ⟨rfl,rfl⟩
  have hnn:=HN.out
  generalize str (Z2 (m - 143))=ds at *
  go_wp2
  exact A1P A5a rfl [.int .u8 x,.string (str nm),.int .i64 (x - 142),.int .i64 (x - 142),.int .i64 (3)] _ rfl rfl rfl (B8 _ hf.out hok) ⟨by unfold Inf.c;rfl,((Below.refl _ _).alloc (Nat.le_refl _) _).setCells (Nat.le_refl _) _ _⟩
 by_cases h4:160≤m∧m < 165
 ·have hr:T7 m=⟨x,([76,79,71]++Z2 (m - 160)),x - 158,0,375*(x - 159)⟩:=by unfold T7;rw [if_neg h1];rw [if_neg h2];rw [if_neg h3];rw [if_pos h4,hx]
  have hk:A2u m=true:=by unfold A2u;simp;omega
  have HN:=hid (show ⟨#[76,79,71]⟩++str (Z2 (m - 160))=str (([76,79,71]++Z2 (m - 160))) by rw [show (⟨#[76,79,71]⟩:ByteArray)=str [76,79,71] from rfl,A1m])
  have g0:160≤x:=by omega
  have g1:x < 165:=by omega
  have HX:=hid hx
  have H1:=hid h4
  rw [hr,hk]
  have z1:=A1Z (m - 160)
  generalize ([76,79,71]++Z2 (m - 160))=nm at *
  have hok:P0 5 [.int .u8 x,.string (str nm),.int .i64 (x - 158),.int .i64 (0),.int .i64 (375*(x - 159))]=true:=by simp [P0,Value.oneCell']
  clear hr hk hx h1 h2 h3 h4 hm
  have hff:=hf.out
  go_enter Tryz.func247,Tryz.ntmps247
  go_wp2_with fail
  refine (A2a (m - 160) (by have:=H1.out;omega) _ (by have:=HX.out;have:=H1.out;omega) _).mono ?_
  rintro e w1 ⟨rfl,rfl⟩
  have hnn:=HN.out
  generalize str (Z2 (m - 160))=ds at *
  go_wp2
  exact A1P A5a rfl [.int .u8 x,.string (str nm),.int .i64 (x - 158),.int .i64 (0),.int .i64 (375*(x - 159))] _ rfl rfl rfl (B8 _ hf.out hok) ⟨by unfold Inf.c;rfl,((Below.refl _ _).alloc (Nat.le_refl _) _).setCells (Nat.le_refl _) _ _⟩
 ·have hr:T7 m=A4i:=by unfold T7;rw [if_neg h1,if_neg h2,if_neg h3,if_neg h4]
  have hk:A2u m=false:=by unfold A2u;simp;omega
  rw [hr,hk]
  have hh:Hid (x < 96∨165≤x):=hid (by omega)
  have hz:A4i.c=A1r:=by unfold A1r;rfl
  rw [hz]
  have hff:=hf.out
  have hok:=A5N
  clear hr hk hx h1 h2 h3 h4 hm hz
  by_cases hlo:x < 96
  focus
   clear hh
  rotate_left
  focus
   have hhi:165≤x:=by have:=hh.out;omega
   clear hh hlo
  all_goals
   go_enter Tryz.func247,Tryz.ntmps247
   go_wp2
   exact A1P A5a rfl _ _ rfl rfl rfl (B8 _ hf.out hok) ⟨rfl,((Below.refl _ _).alloc (Nat.le_refl _) _).setCells (Nat.le_refl _) _ _⟩
end Go.Proofs.YtfflppedbopdpaaGreat
namespace Go.Mun
open Go.RowKit
theorem A4y (k:Nat):(A0K k).length=256:=by simp [A0K]
theorem A8Y (k:Nat):(A0K k).set k (T7 k)=A0K (k+1):=by
 apply List.ext_getElem (by simp [A0K])
 intro i h1 h2
 simp only [List.getElem_set,A0K,List.getElem_map,List.getElem_range]
 by_cases hi:k=i
 ·subst hi;simp
 ·rw [if_neg hi]
  by_cases h3:i < k
  ·rw [if_pos h3,if_pos (by omega)]
  ·rw [if_neg h3,if_neg (by omega)]
theorem A7B:A0K 0=List.replicate 256 A4i:=by
 have h:∀ n:Nat,((List.range n).map fun i=>if i < 0 then T7 i else A4i)=List.replicate n A4i:=by
  intro n
  apply List.ext_getElem (by rw [List.length_map,List.length_range,List.length_replicate])
  intro i h1 h2
  rw [List.getElem_map,List.getElem_replicate,if_neg (Nat.not_lt_zero _)]
 exact h 256
theorem B2Y (k:Nat):(A2y k).length=256:=by
 unfold A2y
 have:∀ (xs l:List Inf),l.length=256→(xs.foldl (fun l x=>l.set x.op.toNat x) l).length=256:=by
  intro xs
  induction xs with
  | nil=>intro l h;exact h
  | cons x xs ih=>intro l h;exact ih _ (by simpa using h)
 exact this _ _ (A4y 256)
theorem B2X (k:Nat) (x:Inf) (h:A0l[k]? = some x):(A2y k).set x.op.toNat x=A2y (k+1):=by
 unfold A2y
 rw [List.take_add_one,h,List.foldl_append]
 rfl
theorem B3G:∀ k:Fin 69,∃ x,A0l[k.1]? = some x∧0≤x.op∧x.op < 256:=by
 intro k
 have:∀ k:Fin 69,0≤(A0l[k.1]?.getD A4i).op∧(A0l[k.1]?.getD A4i).op < 256:=by decide +kernel
 have h:=this k
 have hl:k.1 < A0l.length:=k.2
 rw [List.getElem?_eq_getElem hl] at h ⊢
 exact ⟨_,rfl,h⟩
end Go.Mun
namespace Go.Proofs.YtfflppedbopdpaaGreat
open Go.RowKit Go.Mun
def A4B:List Value:=K3 (List.replicate 256 A4i)
theorem B3F:X0 Tryz.prog 143 1280:=⟨⟨_,Tryz.underlying143,rfl⟩,by kernel_rfl⟩
section
variable (ρ:Operand→Value) (dst:Option Tmp) (x y z:Operand) (parts:List (Nat × Operand)) (t:TypeId) (pos:String) (after:Array Edge) (gd:Option (Nat × Bool)) (w:World)
theorem B9r:(execOp ρ ⟨dst,.load 143 x,t,pos,after,gd⟩).run Tryz.prog w=F7 (A1D Tryz.prog 143 1280 (ρ x) w):=A0M ρ dst x t pos after gd w B3F
theorem B84:(execOp ρ ⟨dst,.store 143 x y,t,pos,after,gd⟩).run Tryz.prog w=L1 (A0f Tryz.prog 143 1280 (ρ x) (ρ y) w):=P8 ρ dst x y t pos after gd w B3F
theorem B9U:(execOp ρ ⟨dst,.alloc 143,t,pos,after,gd⟩).run Tryz.prog w = .ok (.value (.pointer (some ⟨w.heap.size,0,none⟩))) (w.alloc (.cells A4B.toArray 143)):=P9 ρ dst t pos after gd w (fun _=>by kernel_rfl)
end
attribute [go_sem ↓] B9r B84 B9U
theorem A4h:A4B.length=1280:=by unfold A4B;rw [A1W,List.length_replicate]
attribute [local irreducible] Inf.c A1r K3 A4B

structure A21 (l:List Inf) (w wr:World):Prop where
 below:Below w.heap.size w wr
 size:w.heap.size+1 < wr.heap.size
 res:wr.free? w.heap.size 0 1280=true
 free:wr.free? (w.heap.size+1) 0 1280=true
 row:wr.row? (w.heap.size+1) 0 1280=some (K3 l)
 len:l.length=256

theorem A21.start (w:World):A21 (A0K 0) w ((w.alloc (.cells A4B.toArray 143)).alloc (.cells A4B.toArray 143)):=by
 have hs:(w.alloc (.cells A4B.toArray 143)).heap.size=w.heap.size+1:=by simp
 refine ⟨((Below.refl _ _).alloc (Nat.le_refl _) _).alloc (by simp) _,by simp,?_,?_,?_,A4y 0⟩
 ·rw [World.free?_alloc_lt _ (by simp)];exact World.free?_alloc_at _ _ rfl (by rw [A4h];decide)
 ·rw [← hs];exact World.free?_alloc_at _ _ rfl (by rw [A4h];decide)
 ·rw [← hs,World.row?_alloc_at _ _ _ rfl A4h,A7B];unfold A4B;rfl
theorem A21.next {l:List Inf} {w wr w2:World} (h:A21 l w wr) (hb:Below wr.heap.size wr w2):A21 l w w2:=by
 obtain ⟨h1,h2,h3,h4,h5,h6⟩:=h
 have l1:=C4 h3
 have l2:=C4 h4
 exact ⟨h1.trans (hb.mono h1.size),Nat.lt_of_lt_of_le h2 hb.size,A4D hb l1 h3,A4D hb l2 h4,by rw [(D2 hb).1 _ _ _ l2];exact h5,h6⟩
theorem A21.drew {l:List Inf} {w wr:World} (h:A21 l w wr):A21 l w wr.drew:=⟨h.below.drew,h.size,h.res,h.free,h.row,h.len⟩
theorem A21.set {l:List Inf} {w wr:World} (h:A21 l w wr) (i:Nat) (hi:i < 256) (x:Inf):A21 (l.set i x) w (wr.setCells (w.heap.size+1) (i*5) x.c):=by
 obtain ⟨h1,h2,h3,h4,h5,h6⟩:=h
 have hc:x.c.length=5:=by unfold Inf.c;rfl
 refine ⟨h1.setCells (by omega) _ _,by simpa using h2,by rw [World.free?_setCells'];exact h3,by rw [World.free?_setCells'];exact h4,?_,by simpa using h6⟩
 rw [World.row?_setCells_in (i*5) x.c h5 (Nat.zero_le _) (by rw [hc];omega),Nat.sub_zero,Nat.mul_comm i 5,A61 l i x (by omega)]
theorem A21.at {l:List Inf} {w wr:World} (h:A21 l w wr) (i:Nat) (hi:i < 256):wr.free? (w.heap.size+1) (i*5) 5=true:=
 World.free?_sub h.free (by omega)

def A9L (b:Nat) (wr:World):Prop:=∀ (i:Nat) (x:Inf),A0l[i]? = some x→wr.row? b (i*5) 5=some x.c
theorem A9L.new (w:World):A9L w.heap.size (w.alloc (.cells (K3 A0l).toArray 142)):=by
 intro i x hx
 have hi:i < A0l.length:=(List.getElem?_eq_some_iff.1 hx).1
 have hl:A0l.length=69:=rfl
 rw [World.row?_alloc_sub _ _ _ rfl (by rw [A1W];omega),Nat.mul_comm i 5,A5M _ i x hx]
theorem A9L.set {b b' o:Nat} {cs:List Value} {wr:World} (h:A9L b wr) (hb:b≠b'):A9L b (wr.setCells b' o cs):=by
 intro i x hx
 rw [World.row?_setCells_other _ _ _ hb];exact h i x hx
theorem B24 {w:World} {b o:Nat} {x:Inf} (h:w.row? b o 5=some x.c):w.cell? ⟨b,o,none⟩=some (.int .u8 x.op):=by
 have:=World.row?_cell h (i:=0) (by decide)
 simp only [Nat.add_zero] at this
 rw [this];unfold Inf.c;rfl
theorem B5L (w:World):Calls Tryz.prog 176 #[] w fun e w'=>e = .returned (.agg (K3 A0c).toArray)∧Below w.heap.size w w':=by
 go_enter Tryz.func176,Tryz.ntmps176
 go_wp2
 go_loopw [2] (fun i wr => ∃ k:Nat,k≤256∧i = .int .i64 (k:Int)∧Hid (A21 (A0K k) w wr)) (fun i _=>256 - (intOf i).toNat)
 case atStart=>exact ⟨0,by omega,rfl,hid (A21.start w)⟩
 case round =>
  obtain ⟨k,hk,rfl,HR⟩:=hrel
  by_cases hlt:k < 256
  ·go_wp2_with fail
   refine (B0n k hlt _).mono ?_
   rintro e w1 ⟨rfl,hb⟩
   have H1:=hid (HR.out.next hb)
   have hf:=H1.out.at k hlt
   have hok:=Inf.ok (T7 k)
   have HS:=hid (A8Y k)
   clear hb
   generalize hx:T7 k=x at *
   clear hx
   go_wp2
   go_roundw
   case rel=>exact ⟨k+1,by omega,by go_num,hid (by have:=H1.out.set k hlt x;rw [HS.out] at this;exact this)⟩
   case measure=>simp [intOf];omega
  ·have hk256:k=256:=by omega
   rw [hk256] at HR
   have hge:256≤k:=by omega
   clear hk256
   go_wp2_with fail
   refine (B2F _).mono ?_
   rintro e w1 ⟨rfl,hw1⟩
   have hb:=(Below.refl wr.heap.size wr).alloc (Nat.le_refl _) (.cells (K3 A0l).toArray 142)
   have ht:=A9L.new wr
   rw [hw1] at hb ht
   have A1:=hid (HR.out.next hb)
   have T1:=hid ht
   have hne:wr.heap.size≠w.heap.size+1:=by have:=HR.out.size;omega
   clear hb ht hw1
   generalize wr.heap.size=Bt at *
   go_wp2
   go_loopw [4] (fun i wr => ∃ k:Nat,k≤69∧i = .int .i64 (k:Int)∧Hid (A21 (A2y k) w wr)∧Hid (A9L Bt wr)) (fun i _=>69 - (intOf i).toNat)
   case atStart=>exact ⟨0,by omega,rfl,A1,T1⟩
   case round =>
    obtain ⟨k,hk,rfl,HR,HT⟩:=hrel
    by_cases hlt:k < 69
    ·obtain ⟨x,hx,x0,x1⟩:=B3G ⟨k,hlt⟩
     simp only at hx
     obtain ⟨o,ho⟩:=Int.eq_ofNat_of_zero_le x0
     have hrow:=HT.out k x hx
     have hcell:=B24 hrow
     rw [ho] at hcell x1
     have ho256:o < 256:=by omega
     have hf:=HR.out.at o ho256
     have hok:=Inf.ok x
     have HS:Hid ((A2y k).set o x=A2y (k+1)):=hid (by
      have:=B2X k x hx
      rw [ho,Int.toNat_natCast] at this;exact this)
     clear hx ho x0
     go_wp2
     go_region_held3 (fun w'=>w'.cell? ⟨Bt,k*5,none⟩=some (.int .u8 (o:Int))∧w'.row? Bt (k*5) 5=some (Inf.c x)) (first | exact ⟨hcell,hrow⟩ | exact ⟨(World.cell?_setCells_block _ _ _ _ hne).trans hcell,(World.row?_setCells_other _ _ _ hne).trans hrow⟩) ((fail))
     go_wp2
     go_roundw
     case rel=>exact ⟨k+1,by omega,by go_num,hid (by have:=HR.out.drew.set o ho256 x;rw [HS.out] at this;exact this),hid (A9L.set (wr:=wr.drew) HT.out hne)⟩
     case measure=>simp [intOf];omega
    ·have hk69:k=69:=by omega
     have hge2:69≤k:=by omega
     rw [hk69] at HR
     clear hk69
     have hr1:=HR.out.row
     have hr2:=HR.out.res
     have hok:P0 1280 (K3 (A2y 69))=true:=by
      have:=A9i (A2y 69)
      rw [B2Y] at this
      exact this
     have hbl:=HR.out.below
     have HBL:=hid hbl
     clear hbl
     go_wp2
     exact F2 B3F rfl _ rfl rfl hr2 hok ⟨rfl,HBL.out.setCells (Nat.le_refl _) _ _⟩
end Go.Proofs.YtfflppedbopdpaaGreat
namespace Go.Proofs.YtfflppedbopdpaaGreat
open Go.RowKit Go.Mun
theorem B0z:A1x L9 = [20,1,32,1,1]:=by kernel_rfl
theorem A9F (a b:Nat) (p:Option Addr) (k c:Nat):I1 55 (O7 L9) (B7 L9) [(0,.agg (A3 20 a).toArray),(2,.agg (A3 32 b).toArray),(3,.slice p k c)]=some (B7 (P4 ⟨a,0,b,[]⟩ (.slice p k c) (.slice none 0 0))):=by
 rw [G7 _ _ _ X1]
 ·rfl
 ·rw [B0z]
  refine C1 ?_ (C1 ?_ (C1 rfl (L4 _)))
  ·show some 20=some (A3 20 a).length;rw [B0]
  ·show some 32=some (A3 32 b).length;rw [B0]
theorem A9E (a b:Nat):I1 55 (O7 L9) (B7 L9) [(0,.agg (A3 20 a).toArray),(2,.agg (A3 32 b).toArray)]=some (B7 (P4 ⟨a,0,b,[]⟩ (.slice none 0 0) (.slice none 0 0))):=by
 rw [G7 _ _ _ X1]
 ·rfl
 ·rw [B0z]
  refine C1 ?_ (C1 ?_ (L4 _))
  ·show some 20=some (A3 20 a).length;rw [B0]
  ·show some 32=some (A3 32 b).length;rw [B0]
theorem B7z:A1w Tryz.prog 45 35 55 2 (B7 [B7 L9,B7 L9]):=⟨Tryz.underlying45,⟨_,.agg (B7 L9).toArray,rfl,by kernel_rfl,by kernel_rfl,by kernel_rfl⟩,by decide,by kernel_rfl,by decide⟩
def B0N (p:List (Nat × Value)):Option (List Value):=I1 (2*55) ((List.range 2).map fun i=>(i*55,55)) (B7 [B7 L9,B7 L9]) p
theorem B8j (ρ:Operand→Value) (dst:Option Tmp) (x y:Operand) (t:TypeId) (pos:String) (after:Array Edge) (gd:Option (Nat × Bool)) (w:World) :
  (execOp ρ ⟨dst,.buildSlice 45 2 #[(0,x),(1,y)],t,pos,after,gd⟩).run Tryz.prog w=F7 (A4F Tryz.prog 45 35 2 [(0,ρ x),(1,ρ y)] w (B0N [(0,ρ x),(1,ρ y)])):=
 A1i ρ dst t pos after gd w B7z [(0,x),(1,y)]
theorem B0M (a b:List Value) (ha:a.length=55) (hb:b.length=55):B0N [(0,.agg a.toArray),(1,.agg b.toArray)]=some (B7 [a,b]):=by
 unfold B0N
 have h1:A1x [B7 L9,B7 L9] = [55,55]:=by kernel_rfl
 have h3:O7 [B7 L9,B7 L9]=(List.range 2).map fun i=>(i*55,55):=by kernel_rfl
 rw [← h3,G7 _ _ _ (by kernel_rfl)]
 ·rfl
 ·rw [h1]
  refine C1 ?_ (C1 ?_ (L4 _))
  ·show some 55=some a.length;rw [ha]
  ·show some 55=some b.length;rw [hb]
attribute [go_sem ↓] B8j
def B4e (code:V1):List Ac:=[⟨1,0,1000,code⟩,⟨2,0,5000,[]⟩]
theorem B6k {w:World} {cv:Value} {code:V1} (hc:K8 w (fun _=>False) cv code) :
  Calls Tryz.prog 25 #[cv] w fun e w' => ∃ b,e = .returned (.slice (some ⟨b,0,none⟩) 2 2)∧Below w.heap.size w w'∧∀ i (hi:i < (B4e code).length),A6y w' b (0+i*55) (B4e code)[i]:=by
 obtain ⟨⟨ca,cc,rfl,hci,hcx⟩,hcb,hcl⟩:=hc
 have HC:Hid (K8 w (fun _=>False) (.slice ca code.length cc) code):=⟨⟨ca,cc,rfl,hci,hcx⟩,hcb,hcl⟩
 have o1:ofW 1000=1000:=by kernel_rfl
 have o2:ofW 5000=5000:=by kernel_rfl
 have N1:=hid (fun w=>X6 1 (by decide) w)
 have N2:=hid (fun w=>X6 2 (by decide) w)
 have O1:=hid (fun w=>A4b 1000 (by decide) (by decide) w)
 have O2:=hid (fun w=>A4b 5000 (by decide) (by decide) w)
 rw [o1] at O1
 rw [o2] at O2
 have b1:=A9F 1 1000 ca code.length cc
 have b2:=A9E 2 5000
 have bf:=B0M (B7 (P4 ⟨1,0,1000,[]⟩ (.slice ca code.length cc) (.slice none 0 0))) (B7 (P4 ⟨2,0,5000,[]⟩ (.slice none 0 0) (.slice none 0 0))) (L8 _ _ _) (L8 _ _ _)
 clear hci hcx hcb hcl o1 o2
 go_enter Tryz.func25,Tryz.ntmps25
 go_wp2_with fail
 refine (N1.out _).mono ?_
 rintro e w1 ⟨rfl,h1⟩
 go_wp2_with fail
 refine (O1.out _).mono ?_
 rintro e w2 ⟨rfl,h2⟩
 go_wp2_with fail
 refine (N2.out _).mono ?_
 rintro e w3 ⟨rfl,h3⟩
 go_wp2_with fail
 refine (O2.out _).mono ?_
 rintro e w4 ⟨rfl,h4⟩
 have hb:Below w.heap.size w w4:=((h1.trans (h2.mono h1.size)).trans (h3.mono (by have:=h1.size;have:=h2.size;omega))).trans (h4.mono (by have:=h1.size;have:=h2.size;have:=h3.size;omega))
 have HB:=hid hb
 clear h1 h2 h3 h4 hb
 go_wp2
 go_ret
 refine ⟨_,rfl,HB.out.alloc HB.out.size _,fun i hi=>?_⟩
 have r:=World.row?_alloc_at (w:=w4) (B7 [B7 (P4 ⟨1,0,1000,[]⟩ (.slice ca code.length cc) (.slice none 0 0)),B7 (P4 ⟨2,0,5000,[]⟩ (.slice none 0 0) (.slice none 0 0))]) 35 (0,0) rfl (n:=110) (by rw [I0,I0,L8,L8];rfl)
 have hb2:=HB.out.alloc HB.out.size (.cells (B7 [B7 (P4 ⟨1,0,1000,[]⟩ (.slice ca code.length cc) (.slice none 0 0)),B7 (P4 ⟨2,0,5000,[]⟩ (.slice none 0 0) (.slice none 0 0))]).toArray 35)
 match i,hi with
 | 0,_=>exact ⟨⟨_,J5 r (i:=0) rfl (by simp [A5]) (by simp),HC.out.below hb2⟩,by show 1 < wA;decide,by show 1000 < wW;decide,by show (0:Int)≤_;decide⟩
 | 1,_=>exact ⟨⟨_,J5 r (i:=1) rfl (by simp [A7,A5]) (by simp),V6 _ _⟩,by show 2 < wA;decide,by show 5000 < wW;decide,by show (0:Int)≤_;decide⟩
 | i+2,hi=>exact absurd hi (by simp [B4e])
end Go.Proofs.YtfflppedbopdpaaGreat
namespace Go.Proofs.YtfflppedbopdpaaGreat
open Go.RowKit Go.Mun
def A3X:V1:=[96,5,96,0,85]
def A4K:Msg:=⟨0,2,1,0,0,0,[],30000,0,false⟩
def stA:St:=A0G (B4e A3X)
def A92:St:=(stA.setBal 2 5000).setBal 1 1000
theorem B9n:stA.move A4K.frm A4K.to A4K.value=some A92:=by kernel_rfl
theorem B4s:A1x A2W = [1,20,20,20,32,32,1,1,1,1]:=by kernel_rfl
theorem B4V:I1 129 (O7 A2W) (B7 A2W) [(1,.agg (A3 20 2).toArray),(2,.agg (A3 20 1).toArray),(7,.int .i64 30000)]=some (B7 (I2 A4K (.slice none 0 0))):=by
 rw [G7 _ _ _ A3p]
 ·rfl
 ·rw [B4s]
  refine C1 ?_ (C1 ?_ (C1 rfl (L4 _)))
  ·show some 20=some (A3 20 2).length;rw [B0]
  ·show some 20=some (A3 20 1).length;rw [B0]
theorem A4U (e:Int) (w:World):Calls Tryz.prog 17 #[.int .i64 e] w fun r w'=>r = .returned (.int .i64 e)∧w'=w:=by
 go_enter Tryz.func17,Tryz.ntmps17
 go_wp2
 go_ret
 exact ⟨rfl,rfl⟩
end Go.Proofs.YtfflppedbopdpaaGreat
namespace Go.Proofs.YtfflppedbopdpaaGreat
open Go.RowKit Go.Mun
structure Q5 where
 (w0:World) (own0:Go.Mun.Own) (sb fb:Nat) (m0:Msg) (dv:Value) (cx:Ctx) (M0:List (Nat × St)) (N:Nat)
structure RFV where
 (code data sv mv told out lv jv:Value) (tl:List Value)
def rfS (E:Q5) (c:RFV) (f:Fr):List (List Value):=
 [[.pointer (some ⟨E.sb,0,none⟩)],B7 (I2 E.m0 E.dv),B7 (A1y E.cx),A3 20 f.m.to,[c.code],[c.data],A3 32 f.m.value,[.bool f.m.static],[.int .i64 f.gas],[.int .i64 f.next],[c.sv],[c.mv],[c.told],[c.out],[c.lv],[.bool f.ended],c.tl]
theorem B5J (E:Q5) (c:RFV) (f:Fr) (h:c.tl.length=1280):(B7 (rfS E c f)).length=1516:=by simp only [rfS,I0,N8];simp [h]
def rmu (own:Go.Mun.Own) (fb:Nat) (c:RFV) (b:Nat):Prop:=hot own b∨b=fb∨c.sv.ownBlock=some b∨c.mv.ownBlock=some b
structure C9 (E:Q5) (w:World) (own:Go.Mun.Own) (c:RFV) (f:Fr) (S:St) (M:List (Nat × St)) (n:Nat):Prop where
 row:w.row? E.fb 0 1516=some (B7 (rfS E c f))
 free:w.free? E.fb 0 1516=true
 tlen:c.tl.length=1280
 base:E.w0.heap.size≤E.fb
 fown:own E.fb=none
 chg:K1 E.w0 w E.own0 own
 mok:A14 f.m
 stk:w.ownsRow E.w0.heap.size 25 32 c.sv f.stack.length (D3 f.stack)
 sown:∀ g,c.sv.ownBlock=some g→own g=none∧g≠E.fb
 sval:∀ x∈f.stack,x < wW
 slen:f.stack.length≤1024
 mem:w.ownsRow E.w0.heap.size 5 1 c.mv f.mem.length (f.mem.map (Value.int .u8))
 mown:∀ g,c.mv.ownBlock=some g→own g=none∧g≠E.fb∧c.sv.ownBlock≠some g
 mbyte:Byt f.mem
 mlen:f.mem.length≤1048576∧f.mem.length % 32=0
 logs:f.logs = []∧c.lv = .slice none 0 0
 code:K8 w (rmu own E.fb c) c.code f.code
 data:K8 w (rmu own E.fb c) c.data f.m.data
 out:K8 w (rmu own E.fb c) c.out f.out
 told:K8 w (rmu own E.fb c) c.told f.ret
 jmp:c.jv≠.nilFunc→∃ ja jc,c.jv = .slice ja (jumps f.code f.code.length 0).length jc∧I7 w .i64 ja jc (jumps f.code f.code.length 0)∧(jumps f.code f.code.length 0≠[]→∀ p,ja=some p→¬ rmu own E.fb c p.block)
 st:RState w own E.sb S M n
 ms:∃ T,M=E.M0++T
 cnt:n+f.gas≤E.N
 lim:E.N≤999000
 nxt:f.next≤2199023255552
section
variable {w:World} {E:Q5} {c:RFV} {f:Fr}
theorem B0k (h:w.row? E.fb 0 1516=some (B7 (rfS E c f))):w.cell? ⟨E.fb,0,none⟩=some (.pointer (some ⟨E.sb,0,none⟩)):=D1 h (i:=0) rfl (by simp [rfS,A7,A5])
theorem B1s (h:w.row? E.fb 0 1516=some (B7 (rfS E c f))):w.row? E.fb 173 20=some (A3 20 f.m.to):=J5 h (i:=3) rfl (by simp [rfS,A7,A5]) (by simp)
theorem A7z (h:w.row? E.fb 0 1516=some (B7 (rfS E c f))):w.cell? ⟨E.fb,193,none⟩=some (c.code):=D1 h (i:=4) rfl (by simp [rfS,A7,A5])
theorem B2z (h:w.row? E.fb 0 1516=some (B7 (rfS E c f))):w.cell? ⟨E.fb,227,none⟩=some (.bool f.m.static):=D1 h (i:=7) rfl (by simp [rfS,A7,A5])
theorem B0l (h:w.row? E.fb 0 1516=some (B7 (rfS E c f))):w.cell? ⟨E.fb,228,none⟩=some (.int .i64 f.gas):=D1 h (i:=8) rfl (by simp [rfS,A7,A5])
theorem A8U (h:w.row? E.fb 0 1516=some (B7 (rfS E c f))):w.cell? ⟨E.fb,229,none⟩=some (.int .i64 f.next):=D1 h (i:=9) rfl (by simp [rfS,A7,A5])
theorem A5p (h:w.row? E.fb 0 1516=some (B7 (rfS E c f))):w.cell? ⟨E.fb,230,none⟩=some (c.sv):=D1 h (i:=10) rfl (by simp [rfS,A7,A5])
theorem B3W (h:w.row? E.fb 0 1516=some (B7 (rfS E c f))):w.cell? ⟨E.fb,233,none⟩=some (c.out):=D1 h (i:=13) rfl (by simp [rfS,A7,A5])
theorem B9h (h:w.row? E.fb 0 1516=some (B7 (rfS E c f))):w.cell? ⟨E.fb,234,none⟩=some (c.lv):=D1 h (i:=14) rfl (by simp [rfS,A7,A5])
theorem B3X (h:w.row? E.fb 0 1516=some (B7 (rfS E c f))):w.cell? ⟨E.fb,235,none⟩=some (.bool f.ended):=D1 h (i:=15) rfl (by simp [rfS,A7,A5])
theorem C0r (h:w.row? E.fb 0 1516=some (B7 (rfS E c f))) (hl:c.tl.length=1280):w.row? E.fb 236 1280=some c.tl:=J5 h (i:=16) rfl (by simp [rfS,A7,A5]) hl.symm
theorem B0j (x:Value) (h:w.row? E.fb 0 1516=some (B7 (rfS E c f))):(w.setCell ⟨E.fb,193,none⟩ (x)).row? E.fb 0 1516=some (B7 (rfS E ({ c with code:=x }) (f))):=J9 h (i:=4) rfl _ (by simp [rfS,A7,A5])
theorem B2x (x:Nat) (h:w.row? E.fb 0 1516=some (B7 (rfS E c f))):(w.setCell ⟨E.fb,228,none⟩ (.int .i64 (x:Int))).row? E.fb 0 1516=some (B7 (rfS E (c) ({ f with gas:=x }))):=J9 h (i:=8) rfl _ (by simp [rfS,A7,A5])
theorem B3V (x:Nat) (h:w.row? E.fb 0 1516=some (B7 (rfS E c f))):(w.setCell ⟨E.fb,229,none⟩ (.int .i64 (x:Int))).row? E.fb 0 1516=some (B7 (rfS E (c) ({ f with next:=x }))):=J9 h (i:=9) rfl _ (by simp [rfS,A7,A5])
theorem B3U (x:Value) (h:w.row? E.fb 0 1516=some (B7 (rfS E c f))):(w.setCell ⟨E.fb,230,none⟩ (x)).row? E.fb 0 1516=some (B7 (rfS E ({ c with sv:=x }) (f))):=J9 h (i:=10) rfl _ (by simp [rfS,A7,A5])
theorem A8T (x:Bool) (h:w.row? E.fb 0 1516=some (B7 (rfS E c f))):(w.setCell ⟨E.fb,235,none⟩ (.bool x)).row? E.fb 0 1516=some (B7 (rfS E (c) ({ f with ended:=x }))):=J9 h (i:=15) rfl _ (by simp [rfS,A7,A5])
theorem B5I (L:List Value) (hL:L.length=c.tl.length) (h:w.row? E.fb 0 1516=some (B7 (rfS E c f))):(w.setCells E.fb 236 L).row? E.fb 0 1516=some (B7 (rfS E ({ c with tl:=L }) f)):=A1C h (i:=16) rfl hL (by simp [rfS,A7,A5])
end
section
variable {E:Q5} {w w':World} {own:Go.Mun.Own} {c:RFV} {f:Fr} {S:St} {M:List (Nat × St)} {n:Nat}
theorem A3O {R:Nat→Prop} {own':Go.Mun.Own} {c':RFV} {l:List Int} {jv:Value} {fb:Nat} (h:jv≠.nilFunc→∃ ja jc,jv = .slice ja l.length jc∧I7 w .i64 ja jc l∧(l≠[]→∀ p,ja=some p→¬ rmu own fb c p.block)) (ho:A2 R w w') (hR:∀ b,R b→rmu own fb c b) (hX:∀ b,b < w.heap.size→rmu own' fb c' b→rmu own fb c b) :
  jv≠.nilFunc→∃ ja jc,jv = .slice ja l.length jc∧I7 w' .i64 ja jc l∧(l≠[]→∀ p,ja=some p→¬ rmu own' fb c' p.block):=by
 intro hj
 obtain ⟨ja,jc,hj1,hj2,hj3⟩:=h hj
 refine ⟨ja,jc,hj1,⟨fun hn=>?_,hj2.nil,hj2.len,hj2.cap⟩,fun hn p hp hx=>?_⟩
 ·obtain ⟨b,off,ha,hlt,hcl⟩:=hj2.at (i:=0) (List.length_pos_iff.2 hn)
  exact ⟨b,off,ha,fun i hi=>by rw [ho.cell? hlt (fun hr=>hj3 hn _ ha (hR _ hr))];exact hcl i hi⟩
 ·obtain ⟨b,off,ha,hlt,hcl⟩:=hj2.at (i:=0) (List.length_pos_iff.2 hn)
  rw [ha] at hp;cases hp
  exact hj3 hn _ ha (hX _ hlt hx)
theorem C9.lt (h:C9 E w own c f S M n):E.fb < w.heap.size:=World.row?_lt h.row
theorem C9.one (h:C9 E w own c f S M n) {i:Nat} (hi:i < 1516):w.free? E.fb i 1=true:=World.free?_sub h.free (by omega)
theorem C9.below (h:C9 E w own c f S M n) (hb:Below w.heap.size w w'):C9 E w' own c f S M n:=by
 have ho:A2 (fun _=>False) w w':=A2.of_below_size hb
 exact { h with
  row:=by rw [ho.row? h.lt (fun h=>h)];exact h.row
  free:=by rw [ho.free? h.lt (fun h=>h)];exact h.free
  chg:=h.chg.trans (K1.below own hb)
  stk:=A2.own h.stk ho (fun _ _ h=>h)
  mem:=A2.own h.mem ho (fun _ _ h=>h)
  code:=h.code.below hb
  data:=h.data.below hb
  out:=h.out.below hb
  told:=h.told.below hb
  jmp:=A3O h.jmp ho (fun _ h=>h.elim) (fun _ _ h=>h)
  st:=h.st.below hb }
theorem C9.cells {c':RFV} {f':Fr} (h:C9 E w own c f S M n) (ho:A2 (fun b=>b=E.fb) w w') (hr:w'.row? E.fb 0 1516=some (B7 (rfS E c' f'))) (hfr:w'.free? E.fb 0 1516=true) (hcs:c'.sv=c.sv∧c'.mv=c.mv∧c'.code=c.code∧c'.data=c.data∧c'.lv=c.lv∧c'.told=c.told∧c'.jv=c.jv) (htl:c'.tl.length=1280)
  (h1:f'.m=f.m) (h2:f'.code=f.code) (h3:f'.stack=f.stack) (h4:f'.mem=f.mem) (h5:f'.ret=f.ret) (h7:f'.logs=f.logs) (hg:f'.gas≤f.gas) (hx:f'.next≤2199023255552) (hout:K8 w' (rmu own E.fb c') c'.out f'.out):C9 E w' own c' f' S M n:=by
 obtain ⟨e1,e2,e3,e4,e5,e6,e7⟩:=hcs
 have hrm:rmu own E.fb c'=rmu own E.fb c:=by unfold rmu;rw [e1,e2]
 have hF:∀ b,b=E.fb→rmu own E.fb c b:=fun _ h => .inr (.inl h)
 have hI:∀ b,b < w.heap.size→rmu own E.fb c b→rmu own E.fb c b:=fun _ _ h=>h
 have hO:A2 (hot E.own0) E.w0 w':=h.chg.only.trans ho (fun i hi he=>by have:i=E.fb:=hi;have:=h.base;omega)
 refine { row := hr, free := hfr, tlen := htl, base := h.base, fown := h.fown, chg := ⟨h.chg.ext, hO⟩, mok := by rw [h1]; exact h.mok, stk := ?_, sown := by rw [e1]; exact h.sown, sval := by rw [h3]; exact h.sval, slen := by rw [h3]; exact h.slen, mem := ?_, mown := by rw [e1, e2]; exact h.mown,
          mbyte:=by rw [h4];exact h.mbyte,mlen:=by rw [h4];exact h.mlen,logs:=by rw [h7,e5];exact h.logs,code:=?_,data:=?_,out:=hout,told:=?_,jmp:=?_,st:=h.st.only ho (fun b hb=>by have e:b=E.fb:=hb;rw [e];exact h.fown),ms:=h.ms,cnt:=by have:=h.cnt;omega,lim:=h.lim,nxt:=hx }
 ·rw [e1,h3];exact A2.own h.stk ho (fun g hg=>(h.sown g hg).2)
 ·rw [e2,h4];exact A2.own h.mem ho (fun g hg=>(h.mown g hg).2.1)
 ·rw [hrm,e3,h2];exact h.code.only ho hF hI
 ·rw [hrm,e4,h1];exact h.data.only ho hF hI
 ·rw [hrm,e6,h5];exact h.told.only ho hF hI
 ·rw [e7,h2];exact A3O h.jmp ho hF (fun b _ hx=>by rw [← hrm];exact hx)
theorem C9.outKept (h:C9 E w own c f S M n) (ho:A2 (fun b=>b=E.fb) w w'):K8 w' (rmu own E.fb c) c.out f.out:=h.out.only ho (fun _ h => .inr (.inl h)) (fun _ _ h=>h)
theorem C9.gas (h:C9 E w own c f S M n) (x:Nat) (hx:x≤f.gas):C9 E (w.setCell ⟨E.fb,228,none⟩ (.int .i64 x)) own c { f with gas:=x } S M n:=
 h.cells (E5 _ _ _ _) (B2x x h.row) (by rw [D8 _ (h.one (by omega))];exact h.free) ⟨rfl,rfl,rfl,rfl,rfl,rfl,rfl⟩ h.tlen rfl rfl rfl rfl rfl rfl hx h.nxt (h.outKept (E5 _ _ _ _))
theorem C9.pc (h:C9 E w own c f S M n) (x:Nat) (hx:x≤2199023255552):C9 E (w.setCell ⟨E.fb,229,none⟩ (.int .i64 x)) own c { f with next:=x } S M n:=
 h.cells (E5 _ _ _ _) (B3V x h.row) (by rw [D8 _ (h.one (by omega))];exact h.free) ⟨rfl,rfl,rfl,rfl,rfl,rfl,rfl⟩ h.tlen rfl rfl rfl rfl rfl rfl (Nat.le_refl _) hx (h.outKept (E5 _ _ _ _))
theorem C9.ended (h:C9 E w own c f S M n) (x:Bool):C9 E (w.setCell ⟨E.fb,235,none⟩ (.bool x)) own c { f with ended:=x } S M n:=
 h.cells (E5 _ _ _ _) (A8T x h.row) (by rw [D8 _ (h.one (by omega))];exact h.free) ⟨rfl,rfl,rfl,rfl,rfl,rfl,rfl⟩ h.tlen rfl rfl rfl rfl rfl rfl (Nat.le_refl _) h.nxt (h.outKept (E5 _ _ _ _))
theorem C9.table (h:C9 E w own c f S M n) (L:List Value) (hL:L.length=1280):C9 E (w.setCells E.fb 236 L) own { c with tl:=L } f S M n:=by
 have ho:A2 (fun b=>b=E.fb) w (w.setCells E.fb 236 L):=A2.setCells (S:=fun b=>b=E.fb) (A2.refl _ _) (fun _=>rfl) _ _
 exact h.cells ho (B5I L (hL.trans h.tlen.symm) h.row) (by rw [World.free?_setCells'];exact h.free) ⟨rfl,rfl,rfl,rfl,rfl,rfl,rfl⟩ hL rfl rfl rfl rfl rfl rfl (Nat.le_refl _) h.nxt (h.outKept ho)
theorem C9.stack {w1:World} {sv':Value} {st':List Nat} (h:C9 E w own c f S M n) (ho:A2 (fun g=>c.sv.ownBlock=some g) w w1) (hr:w1.ownsRow 0 25 32 sv' st'.length (D3 st'))
  (hl:∀ g,sv'.ownBlock=some g→c.sv.ownBlock=some g∨w.heap.size≤g) (hv:∀ x∈st',x < wW) (hn:st'.length≤1024) :
  C9 E (w1.setCell ⟨E.fb,230,none⟩ sv') own { c with sv:=sv' } { f with stack:=st' } S M n:=by
 have hfl:=h.lt
 have hsf:¬ c.sv.ownBlock=some E.fb:=fun e=>(h.sown _ e).2 rfl
 have hrow1:w1.row? E.fb 0 1516=some (B7 (rfS E c f)):=by rw [ho.row? hfl hsf];exact h.row
 have hfree1:w1.free? E.fb 0 1516=true:=by rw [ho.free? hfl hsf];exact h.free
 have ho2:A2 (fun b=>b=E.fb∨c.sv.ownBlock=some b) w (w1.setCell ⟨E.fb,230,none⟩ sv'):=
  (ho.mono fun b hb => .inr hb).trans (E5 w1 E.fb 230 sv') (fun i hi _ => .inl hi)
 have hR:∀ b,(b=E.fb∨c.sv.ownBlock=some b)→rmu own E.fb c b:=fun b hb=>hb.elim (fun e => .inr (.inl e)) (fun e => .inr (.inr (.inl e)))
 have hmu:∀ b,b < w.heap.size→rmu own E.fb { c with sv:=sv' } b→rmu own E.fb c b:=by
  rintro b hb (h1 | h1 | h1 | h1)
  ·exact .inl h1
  ·exact .inr (.inl h1)
  ·rcases hl b h1 with h2 | h2
   ·exact .inr (.inr (.inl h2))
   ·omega
  ·exact .inr (.inr (.inr h1))
 have hown:∀ g,sv'.ownBlock=some g→own g=none∧g≠E.fb:=fun g hg=>by
  rcases hl g hg with h1 | h1
  ·exact h.sown g h1
  ·exact ⟨E4 h.st.lows h1,by omega⟩
 have hbase:∀ g,sv'.ownBlock=some g→E.w0.heap.size≤g:=fun g hg=>by
  rcases hl g hg with h1 | h1
  ·exact L7 h.stk g h1
  ·have:=h.chg.only.size;omega
 have hnone:∀ b,(b=E.fb∨c.sv.ownBlock=some b)→own b=none:=fun b hb=>hb.elim (fun e=>by rw [e];exact h.fown) (fun e=>(h.sown b e).1)
 have hge:∀ b,(b=E.fb∨c.sv.ownBlock=some b)→E.w0.heap.size≤b:=fun b hb=>hb.elim (fun e=>by rw [e];exact h.base) (fun e=>L7 h.stk b e)
 have hmem:∀ g,c.mv.ownBlock=some g→¬ (g=E.fb∨c.sv.ownBlock=some g):=fun g hg he=>by
  rcases he with he | he
  ·exact (h.mown g hg).2.1 he
  ·exact (h.mown g hg).2.2 he
 exact { row := B3U sv' hrow1, free := by rw [D8 _ (World.free?_sub hfree1 (by omega))]; exact hfree1, tlen := h.tlen, base := h.base, fown := h.fown, chg := ⟨h.chg.ext, h.chg.only.trans ho2 (fun i hi he => by have := hge i hi; omega)⟩, mok := h.mok,
         stk:=A2.own (Y8 hr hbase) (E5 w1 E.fb 230 sv') (fun g hg=>(hown g hg).2),sown:=hown,sval:=hv,slen:=hn,mem:=A2.own h.mem ho2 hmem,
         mown:=fun g hg=>⟨(h.mown g hg).1,(h.mown g hg).2.1,fun e=>by
          rcases hl g e with h1 | h1
          ·exact (h.mown g hg).2.2 h1
          ·have:=C8 h.mem g hg;omega⟩
         mbyte:=h.mbyte,mlen:=h.mlen,logs:=h.logs,code:=h.code.only ho2 hR hmu,data:=h.data.only ho2 hR hmu,out:=h.out.only ho2 hR hmu,told:=h.told.only ho2 hR hmu,jmp:=A3O h.jmp ho2 hR hmu,st:=h.st.only ho2 hnone,ms:=h.ms,cnt:=h.cnt,lim:=h.lim,nxt:=h.nxt }
end
theorem C9.jumps {E:Q5} {w w':World} {own:Go.Mun.Own} {c:RFV} {f:Fr} {S:St} {M:List (Nat × St)} {n:Nat} {v:Value} (h:C9 E w own c f S M n) (hb:Below w.heap.size w w') (hv:w'.ownsRow w.heap.size 3 1 v (jumps f.code f.code.length 0).length ((jumps f.code f.code.length 0).map (Value.int .i64))):C9 E w' own { c with jv:=v } f S M n:=by
 have h1:=h.below hb
 obtain ⟨ja,jc,e,_,hI⟩:=I7.of_own' hv
 have hrm:∀ b,rmu own E.fb { c with jv:=v } b→rmu own E.fb c b:=fun b hb=>hb
 refine { h1 with jmp:=fun _=>⟨ja,jc,e,hI,fun hn p hp hx=>?_⟩ }
 have h2:=L7 hv p.block (by rw [e,hp];rfl)
 rcases hx with hx | hx | hx | hx
 ·have:=h.st.lows _ hx.1;omega
 ·have:=h.lt;omega
 ·have:=C8 h.stk _ hx;omega
 ·have:=C8 h.mem _ hx;omega
end Go.Proofs.YtfflppedbopdpaaGreat
namespace Go.Proofs.YtfflppedbopdpaaGreat
open Go.RowKit Go.Mun
theorem A3E (x:Int) (h0:0≤x) (h1:x≤255) (w:World) :
  Calls Tryz.prog 180 #[.int .u8 x] w fun e w'=>e = .returned (.int .i64 (K2 x))∧w=w':=by
 by_cases h:x < 96
 ·go_enter Tryz.func180,Tryz.ntmps180
  go_wp2
  go_ret
  exact ⟨Mun.ret_int (by unfold K2;rw [if_neg (by omega)]),rfl⟩
 by_cases h':127 < x
 ·go_enter Tryz.func180,Tryz.ntmps180
  go_wp2
  go_ret
  exact ⟨Mun.ret_int (by unfold K2;rw [if_neg (by omega)]),rfl⟩
 ·go_enter Tryz.func180,Tryz.ntmps180
  go_wp2
  go_ret
  exact ⟨Mun.ret_int (by unfold K2;rw [if_pos (by omega)]),rfl⟩
theorem B2H (a:Option Addr) (cap:Nat) (l:List Int) (w:World) (hi:I7 w .u8 a cap l) (hb:∀ i,i < l.length→0≤l[i]?.getD 0∧l[i]?.getD 0≤255) (hlen:l.length≤1099511627776) :
  Calls Tryz.prog 175 #[.slice a l.length cap] w fun e w' => ∃ v,e = .returned v∧w'.ownsRow w.heap.size 3 1 v (jumps l l.length 0).length ((jumps l l.length 0).map (Value.int .i64))∧Below w.heap.size w w':=by
 have HB:=hid hb
 have HI:=hid hi
 clear hb hi
 go_enter Tryz.func175,Tryz.ntmps175
 go_wp2
 go_loopw [3,4] (fun v i wr => ∃ (k n:Nat) (done:List Int),k≤l.length+32∧i = .int .i64 k∧A9P l w.heap.size w wr v k done n) (fun _ i _=>l.length+32 - (intOf i).toNat)
 case atStart=>exact ⟨0,l.length,[],by omega,rfl,⟨rfl,by omega,by omega,by simp,World.ownsRow_nil _ _ _ _,Below.refl _ _⟩⟩
 case round =>
  obtain ⟨k,n,done,hk,rfl,hr⟩:=hrel
  by_cases hlt:k < l.length
  ·obtain ⟨b,off,rfl,hbl,hc⟩:=HI.out.at hlt
   have hck:wr.cell? ⟨b,off+k,none⟩=some (.int .u8 (l[k]?.getD 0)):=(hr.below.cell (p:=⟨b,off+k,none⟩) hbl).trans (hc k hlt)
   clear hc
   have hr0:=(HB.out k hlt).1
   have hr1:=(HB.out k hlt).2
   have hob:=A5y _ hr1
   have hd:=hr.dlen
   have hsz:=hr.below.size
   have HR:=hid hr
   clear hr
   generalize hx:l[k]?.getD 0=x at *
   by_cases h91:x=91
   ·have h91':(x == 91)=true:=by simpa using h91
    have HX:=hid h91
    clear h91
    go_wp2_with (first | (go_at_call 180;refine (A3E _ hr0 hr1 _).mono ?_;rintro e w' ⟨rfl,rfl⟩) | (at_builtin;refine S5 A2S rfl _ _ rfl HR.out.own rfl 1 rfl rfl ?c1 ?c2 ?c3 ?c4 ?_))
    case c1=>simp [Value.oneCell']
    case c2=>unfold maxLen;omega
    case c3=>omega
    case c4=>exact hsz
    intro v' w1 ho hg _
    have hck1:w1.cell? ⟨b,off+k,none⟩=some (.int .u8 x):=hg.cell hck (fun e=>by have:=(HR.out.own.lt b e.symm).1;omega)
    go_wp2_with (go_at_call 180;refine (A3E _ hr0 hr1 _).mono ?_;rintro e w' ⟨rfl,rfl⟩)
    go_roundw
    case rel=>exact ⟨k+1+(K2 x).toNat,n - 1,done++[(k:Int)],by omega,by go_num,by have:=HR.out.step_yes hlt (by rw [hx];exact HX.out) ho hg hsz;rw [hx] at this;exact this⟩
    case measure=>simp [intOf];omega
   ·have h91':(x == 91)=false:=by simpa using h91
    go_wp2_with (go_at_call 180;refine (A3E _ hr0 hr1 _).mono ?_;rintro e w' ⟨rfl,rfl⟩)
    go_roundw
    case rel=>exact ⟨k+1+(K2 x).toNat,n - 1,done,by omega,by go_num,by have:=HR.out.step_no hlt (by rw [hx];exact h91) (by rw [hx];exact hr1);rw [hx] at this;exact this⟩
    case measure=>simp [intOf];omega
  ·go_wp2
   go_ret
   have:=hr.tot
   rw [A6Z _ _ _ (by omega),List.append_nil] at this
   rw [← this]
   exact ⟨_,rfl,hr.own,hr.below⟩
end Go.Proofs.YtfflppedbopdpaaGreat
namespace Go.Proofs.YtfflppedbopdpaaGreat
open Go.RowKit Go.Mun
theorem B5R {w:World} {b o:Nat} {sv:Value} {l:List Nat} (x:Nat) (h:w.cell? ⟨b,o,none⟩=some sv) (hf:w.free? b o 1=true) (hr:w.ownsRow 0 25 32 sv l.length (D3 l))
  (hb:∀ g,sv.ownBlock=some g→¬ g=b) (hl:l.length < 1024) :
  Calls Tryz.prog 260 #[.pointer (some ⟨b,o,none⟩),.agg (A3 32 x).toArray] w fun e w'=>e = .returned (.bool true) ∧
   ∃ w1 sv',A2 (fun g=>sv.ownBlock=some g) w w1∧w'=w1.setCell ⟨b,o,none⟩ sv'∧w1.ownsRow 0 25 32 sv' (l++[x]).length (D3 (l++[x]))∧∀ g,sv'.ownBlock=some g→sv.ownBlock=some g∨w.heap.size≤g:=by
 obtain ⟨a,c,rfl⟩:=X7 hr
 have hbl:b < w.heap.size:=C4 hf
 have hxl:(A3 32 x).length=32:=by simp
 have HLW:Hid (∀ g,(Value.slice a l.length c).ownBlock=some g→g < w.heap.size):=fun g hg=>C8 hr g hg
 obtain ⟨w0,e0⟩:∃ w0,w0=w.alloc (.cells (A3 32 x).toArray 25):=⟨_,rfl⟩
 have o0:A2 (fun _=>False) w w0:=by rw [e0];exact (A2.refl _ _).alloc _
 have hq:w0.cell? ⟨b,o,none⟩=some (.slice a l.length c):=by rw [o0.cell? hbl (fun h=>h)];exact h
 have hx:w0.row? w.heap.size 0 32=some (A3 32 x):=by rw [e0];exact World.row?_alloc_at _ _ _ rfl (by simp)
 have hr0:w0.ownsRow 0 25 32 (.slice a l.length c) l.length (D3 l):=A2.own hr o0 (fun _ _ h=>h)
 have hf0:w0.free? b o 1=true:=by rw [o0.free? hbl (fun h=>h)];exact hf
 have hsz:b < w0.heap.size∧w.heap.size < w0.heap.size:=⟨Nat.lt_of_lt_of_le hbl o0.size,World.row?_lt hx⟩
 have HR0:=hid hr0
 have HO0:=hid o0
 have HF0:=hid hf0
 have HSZ:=hid hsz
 have HE:=hid e0
 have hq':(w.alloc (.cells (A3 32 x).toArray 25)).cell? ⟨b,o,none⟩=some (.slice a l.length c):=by rw [← e0];exact hq
 clear e0 o0 hr0 hr h hf hf0 hsz
 generalize hn:l.length=n at *
 have HN:=hid hn
 clear hn
 obtain ⟨T,hT⟩:∃ T:World→Prop,T=fun w'=>w'.cell? ⟨b,o,none⟩=some (.slice a n c)∧w'.row? w.heap.size 0 32=some (A3 32 x):=⟨_,rfl⟩
 have HT:=hid hT
 have t0:T w0.drew:=by rw [hT];exact ⟨hq,hx⟩
 clear hT
 have hge:¬ (1024:Int)≤n:=by omega
 have hge2:¬ 1024≤n:=by omega
 go_enter Tryz.func260,Tryz.ntmps260
 go_wp2_with fail
 rw [← HE.out]
 clear hq'
 refine A1A T [10] [0,1,2,3,4,5] [6,7,8,9,10] (by kernel_rfl) (by kernel_rfl) t0 ?_
 refine A4 (.pointer (some ⟨b,o,none⟩)) rfl (by rfl) (fun w' hs=>?_) (fun _ _ _ h=>h) ?_
 ·go_simp
 refine A4 (.pointer (some ⟨b,o,none⟩)) rfl (by rfl) (fun w' hs=>?_) (fun _ _ _ h=>h) ?_
 ·go_simp
 refine A4 (.pointer (some ⟨b,o,none⟩)) rfl (by rfl) (fun w' hs=>?_) (fun _ _ _ h=>h) ?_
 ·go_simp
 refine A4 (.pointer (some ⟨b,o,none⟩)) rfl (by rfl) (fun w' hs=>?_) (fun _ _ _ h=>h) ?_
 ·go_simp
 refine A4 (.slice a n c) rfl (by rfl) (fun w' hs=>?_) (fun _ _ _ h=>h) ?_
 ·rw [HT.out] at hs
  obtain ⟨s1,s2⟩:=hs
  go_simp
 refine A4 (.agg (A3 32 x).toArray) rfl (by rfl) (fun w' hs=>?_) (fun _ _ _ h=>h) ?_
 ·rw [HT.out] at hs
  obtain ⟨s1,s2⟩:=hs
  go_simp
 refine P2 ?_
 simp only [Act.put,D6,D5,D4]
 have t1:T (w0.drew.alloc (.cells (A3 32 x).toArray 25)):=by
  rw [HT.out]
  exact ⟨(World.cell?_alloc_lt _ _ _ HSZ.out.1).trans hq,(World.row?_alloc_lt _ HSZ.out.2).trans hx⟩
 refine C6 rfl (fun K hK=>?_)
 go_simp
 refine hK.out _ _ t1 ?_
 clear hK K
 have hr1:(w0.drew.alloc (.cells (A3 32 x).toArray 25)).ownsRow 0 25 32 (.slice a n c) n (D3 l):=A2.own (S:=fun _=>False) HR0.out ((A2.refl _ _).drew.alloc _) (fun _ _ h=>h)
 refine C6 rfl (fun K hK=>?_)
 refine O6 A7Y rfl _ _ rfl hr1 rfl (F0.new w0.drew (m:=1) (size:=32) (cs:=A3 32 x) 25 (0,0) (C7 32 x) 1) rfl (by unfold maxLen;omega) (by omega) ?_
 intro sv' w3 hr3 ho3 hl3
 have o13:A2 (fun g=>(Value.slice a n c).ownBlock=some g) w w3:=(((HO0.out.mono (fun _ h=>h.elim)).drew.alloc _).trans ho3 (fun i hi _=>hi))
 have hbn:¬ (Value.slice a n c).ownBlock=some b:=fun e=>hb b e rfl
 have o03:A2 (fun g=>(Value.slice a n c).ownBlock=some g) w0 w3:=((A2.refl _ _).drew.alloc _).trans ho3 (fun i hi _=>hi)
 have hxn:¬ (Value.slice a n c).ownBlock=some w.heap.size:=fun e=>by have:=HLW.out _ e;omega
 have t3:T w3:=by
  rw [HT.out]
  exact ⟨(o03.cell? HSZ.out.1 hbn).trans hq,(o03.row? HSZ.out.2 hxn).trans hx⟩
 have hv3:sv'.oneCell'=true:=by obtain ⟨_,_,rfl⟩:=X7 hr3;rfl
 have hf3:w3.free? b o 1=true:=by rw [o03.free? HSZ.out.1 hbn];exact HF0.out
 have HA:Hid (∃ w1 sv'',A2 (fun g=>(Value.slice a n c).ownBlock=some g) w w1∧w3.setCell ⟨b,o,none⟩ sv'=w1.setCell ⟨b,o,none⟩ sv''∧w1.ownsRow 0 25 32 sv'' (l++[x]).length (D3 (l++[x]))∧∀ g,sv''.ownBlock=some g→(Value.slice a n c).ownBlock=some g∨w.heap.size≤g):=by
  refine ⟨w3,sv',o13,rfl,?_,fun g hg=>?_⟩
  ·rw [List.length_append,HN.out,A4u,A8y];exact hr3
  ·rcases hl3 g hg with h | h
   ·exact .inl h
   ·have h1:=HSZ.out.2
    have h':w0.heap.size+1≤g:=by first | exact h | simpa using h
    exact .inr (by omega)
 clear hr3 ho3 hl3 o13 o03
 refine hK.out _ _ t3 ?_
 clear hK K
 refine C6 rfl (fun K hK=>?_)
 go_simp
 refine hK.out _ _ t3 ?_
 clear hK K
 refine C6 rfl (fun K hK=>?_)
 go_simp
 refine hK.out _ _ t3 ?_
 clear hK K
 refine A7k rfl (by decide) (fun K hK=>?_)
 go_simp
 refine hK.out _ _ (V9 ?_)
 clear hK K
 generalize w3.setCell ⟨b,o,none⟩ sv'=w4 at *
 go_wp2
 go_ret
 exact ⟨rfl,HA.out⟩
theorem A7D {E:Q5} {w:World} {own:Go.Mun.Own} {c:RFV} {f:Fr} {S:St} {M:List (Nat × St)} {n:Nat} (x:Nat) (hx:x < wW) (hl:f.stack.length < 1024) (h:C9 E w own c f S M n) :
  Calls Tryz.prog 260 #[.pointer (some ⟨E.fb,230,none⟩),.agg (A3 32 x).toArray] w fun e w'=>e = .returned (.bool true)∧∃ c',C9 E w' own c' { f with stack:=f.stack++[x] } S M n∧c'.tl=c.tl∧c'.jv=c.jv:=by
 refine (B5R x (A5p h.row) (h.one (by omega)) (E8 h.stk (Nat.zero_le _)) (fun g hg=>(h.sown g hg).2) hl).mono ?_
 rintro e w' ⟨rfl,w1,sv',ho,rfl,hr,hb⟩
 refine ⟨rfl,_,h.stack ho hr hb (fun y hy=>?_) (by simp;omega),rfl,rfl⟩
 rcases List.mem_append.1 hy with hy | hy
 ·exact h.sval y hy
 ·obtain rfl:=List.mem_singleton.1 hy;exact hx
end Go.Proofs.YtfflppedbopdpaaGreat
namespace Go.Proofs.YtfflppedbopdpaaGreat
open Go.RowKit Go.Mun
theorem A6f (a:Option Addr) (n c k:Nat) (hk:k≤c) (w:World):(Instr.slice 56 (.slice a n c) none (some (.int .i64 (k:Int))) none).run Tryz.prog w = .ok (.slice a k c) w:=by
 have he:Tryz.prog.elem 56=25:=by kernel_rfl
 have hs:(sizeOf 25).run Tryz.prog w = .ok 32 w:=by kernel_rfl
 rw [run_slice_h w 56 a n c (by rw [he];exact Tryz.underlying56) .i64 (k:Int) (by omega) (by omega),he,hs]
 have ha:(if c=0 then a else a.map (·.add (0*32)))=a:=by
  split
  ·rfl
  ·cases a with
   | none=>rfl
   | some a=>simp [Addr.add]
 simp only [Result.andThen,sliced,Int.toNat_natCast,Nat.sub_zero,ha]
theorem B2q (l:List Nat) (i:Nat) (hi:i < l.length):((D3 l).drop (i*32)).take 32=A3 32 l[i]:=by
 rw [A2H,List.drop_eq_getElem_cons hi]
 have:D3 (l[i] :: l.drop (i+1))=A3 32 l[i]++D3 (l.drop (i+1)):=by unfold D3;rw [List.flatMap_cons]
 rw [this,List.take_left' (by simp)]
theorem B7J {w:World} {b o:Nat} {sv:Value} {l:List Nat} (k:Nat) (h:w.cell? ⟨b,o,none⟩=some sv) (hf:w.free? b o 1=true) (hr:w.ownsRow 0 25 32 sv l.length (D3 l))
  (hk:k≤l.length) (hl:l.length≤1024) :
  Calls Tryz.prog 263 #[.pointer (some ⟨b,o,none⟩),.int .i64 (k:Int)] w fun e w' => ∃ v sv' w1,e = .returned (.tuple #[v,.bool true])∧w'=w1.setCell ⟨b,o,none⟩ sv'∧Below w.heap.size w w1 ∧
   w1.ownsRow w.heap.size 25 32 v k (D3 (l.reverse.take k))∧w1.ownsRow 0 25 32 sv' (l.take (l.length - k)).length (D3 (l.take (l.length - k)))∧∀ g,sv'.ownBlock=some g→sv.ownBlock=some g:=by
 have hbl:b < w.heap.size:=C4 hf
 obtain ⟨a,c,rfl⟩:=E1 hr
 have hcap:l.length≤c:=by
  rcases hr.2 with ⟨e,h0⟩ | ⟨g,c',cur,e,_,_,h3,_⟩
  ·omega
  ·injection e with e1 e2 e3;omega
 obtain ⟨n,hn⟩:∃ n,n=l.length:=⟨_,rfl⟩
 have HTK:Hid (w.ownsRow 0 25 32 (.slice a (n - k) c) (l.take (n - k)).length (D3 (l.take (n - k)))):=by
  rw [hn]
  have hlen:(l.take (l.length - k)).length=l.length - k:=by rw [List.length_take,Nat.min_eq_left (Nat.sub_le _ _)]
  rcases hr.2 with ⟨e,h0⟩ | ⟨g,c',cur,e,_,_,_,_⟩
  ·have:l = []:=List.eq_nil_of_length_eq_zero h0
   subst this
   injection e with e1 e2 e3
   subst e1 e3
   show World.ownsRow _ _ _ _ _ _ _
   rw [show ([]:List Nat).length - k=0 by simp]
   exact World.ownsRow_nil _ _ _ _
  ·injection e with e1 e2 e3
   subst e1 e3
   have:=own_take hr (Nat.sub_le l.length k)
   rw [stkC_take] at this
   rw [hlen]
   exact this
 have HAT:Hid (∀ j,j < n→∃ g,a=some ⟨g,0,none⟩∧g < w.heap.size∧w.row? g ((n - 1 - j)*32) 32=some (A3 32 (l.reverse[j]?.getD 0))):=by
  intro j hj
  obtain ⟨g,c',e,_,_,_,hrow,_⟩:=I3 hr (by omega)
  cases e
  refine ⟨g,rfl,World.row?_lt hrow,?_⟩
  have h1:=World.row?_sub hrow (o':=(n - 1 - j)*32) (n':=32) (Nat.zero_le _) (by omega)
  rw [h1,Nat.sub_zero,B2q l (n - 1 - j) (by omega),List.getElem?_reverse (by omega),List.getElem?_eq_getElem (by omega)]
  simp only [Option.getD_some]
  congr 2
  ·congr 1;omega
 have hsl:=A6f a n c (n - k) (by omega)
 have hnk:IntKind.i64.wrap ((n:Int) - (k:Int))=((n - k:Nat):Int):=by rw [V3 _ (by omega) (by omega)];omega
 have hlt:¬ (k:Int) < 0:=by omega
 have hgt:¬ (n:Int) < (k:Int):=by omega
 rw [← hn] at h hcap hk hl ⊢
 have HF:=hid hf
 have HN:=hid hn
 have HH:=hid h
 clear hr hn hf
 go_enter Tryz.func263,Tryz.ntmps263
 go_wp2_with fail
 go_loopw [6,7] (fun u ix wr => ∃ j:Nat,j≤k∧ix = .int .i64 (j:Int)∧Hid (Below w.heap.size w wr∧wr.ownsRow w.heap.size 25 32 u j (D3 (l.reverse.take j)))) (fun _ ix _=>k - (intOf ix).toNat)
 case atStart=>exact ⟨0,by omega,rfl,Below.refl _ _,World.ownsRow_nil _ _ _ _⟩
 case round =>
  obtain ⟨j,hj,rfl,HR⟩:=hrel
  have c1:wr.cell? ⟨b,o,none⟩=some (.slice a n c):=(HR.out.1.cell (p:=⟨b,o,none⟩) hbl).trans HH.out
  have hsz:=HR.out.1.size
  by_cases hjk:j < k
  ·have hI:(j:Int) < k:=by omega
   obtain ⟨g,rfl,hg,hr0⟩:=HAT.out j (by omega)
   obtain ⟨y,hy⟩:∃ y,y=l.reverse[j]?.getD 0:=⟨_,rfl⟩
   rw [← hy] at hr0
   obtain ⟨i1,hi1⟩:∃ i1,i1=n - 1 - j:=⟨_,rfl⟩
   rw [← hi1] at hr0
   have e1:IntKind.i64.wrap ((n:Int) - 1)=(n:Int) - 1:=V3 _ (by omega) (by omega)
   have e2:IntKind.i64.wrap ((n:Int) - 1 - (j:Int))=(i1:Int):=by rw [V3 _ (by omega) (by omega)];omega
   have hi2:i1 < n:=by omega
   have hi2I:(i1:Int) < n:=by omega
   have hly:=B0 32 y
   have hrw:wr.row? g (i1*32) 32=some (A3 32 y):=((D2 HR.out.1).1 _ _ _ hg).trans hr0
   obtain ⟨T,hT⟩:∃ T:World→Prop,T=fun W=>W.cell? ⟨b,o,none⟩=some (.slice (some ⟨g,0,none⟩) n c)∧W.row? g (i1*32) 32=some (A3 32 y):=⟨_,rfl⟩
   have HT:=hid hT
   have t0:T wr.drew:=by rw [hT];exact ⟨c1,hrw⟩
   have HTKE:Hid (l.reverse.take (j+1)=l.reverse.take j++[y]):=by
    show _=_
    rw [List.take_add_one,hy]
    have:j < l.reverse.length:=by rw [List.length_reverse,← HN.out];omega
    rw [List.getElem?_eq_getElem this];rfl
   have hbw:b < wr.heap.size:=by omega
   have hgw:g < wr.heap.size:=by omega
   have hok:=C7 32 y
   have hww:w.heap.size≤wr.heap.size:=hsz
   have HRW:Hid (w.row? g (i1*32) 32=some (A3 32 y)):=hr0
   clear hT hy hi1 hr0 hrw c1 hlt hgt hsl
   go_wp2_with fail
   refine A6 T [] (.pure 0 (.pure 1 (.pure 2 (.pure 3 (.take 4 (.pure 5 (.pure 6 (.pure 7 (.take 8 (.pure 9 (.pure 10 (.pure 11 (.pure 12 (.pure 13 (.take 14 (.alt 15 (.alt 16 (.pure 17 .fin) .stop) .stop)))))))))))))))) (by kernel_rfl) (by kernel_rfl) ?_
   iterate 15
    first
    |refine A0 ?_ rfl (by rfl) (fun w' hs=>?_) (fun _ _ _ h=>h) ?_
     rotate_left
     ·clear hs
      go_simp
      try rfl
     simp only [Act.put,D6,D5,D4]
    |refine A9 ?_ t0 rfl (by rfl) (fun w' hs=>?_) (fun _ _ _ h=>h) ?_
     rotate_left
     ·rw [HT.out] at hs
      obtain ⟨s1,s2⟩:=hs
      go_simp
      try rfl
     simp only [Act.put,D6,D5,D4]
   refine A8 rfl (fun K hK=>?_)
   go_simp
   have t1:T (wr.drew.alloc (.cells (A3 32 y).toArray 25)):=by
    rw [HT.out] at t0 ⊢
    exact ⟨(World.cell?_alloc_lt _ _ _ hbw).trans t0.1,(World.row?_alloc_lt _ hgw).trans t0.2⟩
   refine hK.out _ _ t1 ?_
   clear hK K
   refine A8 rfl (fun K hK=>?_)
   have hown:(wr.drew.alloc (.cells (A3 32 y).toArray 25)).ownsRow w.heap.size 25 32 _ j (D3 (l.reverse.take j)):=A2.own (S:=fun _=>False) HR.out.2 ((A2.refl _ _).drew.alloc _) (fun _ _ h=>h)
   have hge:=L7 hown
   refine O6 A7Y rfl _ _ rfl (E8 hown (Nat.zero_le _)) rfl (F0.new wr.drew (m:=1) (size:=32) (cs:=A3 32 y) 25 (0,0) hok 1) rfl (by unfold maxLen;omega) (by omega) ?_
   intro u' w3 hr3 ho3 hl3
   have hB3:Below w.heap.size w w3:=(HR.out.1.trans (((Below.refl _ _).drew.alloc (Nat.le_refl _) _).mono hsz)).trans (ho3.below (by simp;omega) (fun i hi=>hge i hi))
   have hr3':w3.ownsRow w.heap.size 25 32 u' (j+1) (D3 (l.reverse.take (j+1))):=by
    rw [HTKE.out]
    have e:D3 (l.reverse.take j++[y])=D3 (l.reverse.take j)++A3 32 y:=by simp [D3]
    rw [e]
    exact Y8 hr3 (fun g2 hg2=>by
     rcases hl3 g2 hg2 with h | h
     ·exact hge g2 h
     ·simp at h;omega)
   have t3:T w3:=by
    rw [HT.out]
    exact ⟨(hB3.cell (p:=⟨b,o,none⟩) hbl).trans HH.out,((D2 hB3).1 _ _ _ hg).trans HRW.out⟩
   have HN3:Hid (Below w.heap.size w w3∧w3.ownsRow w.heap.size 25 32 u' (j+1) (D3 (l.reverse.take (j+1)))):=⟨hB3,hr3'⟩
   clear hr3 ho3 hl3 hown hge hB3 hr3'
   refine hK.out _ _ t3 ?_
   clear hK K
   refine A0 ?_ rfl (by rfl) (fun w' hs=>?_) (fun _ _ _ h=>h) ?_
   rotate_left
   ·clear hs
    go_simp
    try rfl
   simp only [Act.put,D6,D5,D4]
   refine C3 ?_
   clear t0 t1 t3
   go_wp2_with fail
   go_roundw
   case rel=>exact ⟨j+1,by omega,by go_num,HN3⟩
   case measure=>simp [intOf];omega
  ·obtain rfl:j=k:=by omega
   have hI:¬ (j:Int) < j:=by omega
   have hfw:wr.free? b o 1=true:=((D2 HR.out.1).2 _ _ _ hbl).trans HF.out
   have hfd:wr.drew.free? b o 1=true:=hfw
   have cd:wr.drew.cell? ⟨b,o,none⟩=some (.slice a n c):=c1
   clear hjk
   go_wp2_with fail
   go_still_tail 13,(by kernel_rfl)
   go_wp2
   go_ret2
   refine ⟨_,_,wr.drew,rfl,rfl,HR.out.1.drew,HR.out.2,?_,fun g hg=>by cases a <;> exact hg⟩
   have:=C2 HTK.out (HR.out.1.drew)
   exact this
end Go.Proofs.YtfflppedbopdpaaGreat
namespace Go.Mun
def A20 (l:V1) (p n:Nat):V1:=(l.drop p++List.replicate n 0).take n
theorem A0V (l:V1) (p n:Nat):(A20 l p n).length=n:=by
 unfold A20
 rw [List.length_take,List.length_append,List.length_replicate]
 omega
end Go.Mun
namespace Go.Proofs.YtfflppedbopdpaaGreat
open Go.RowKit Go.Mun

def U3 (w:World) (b:Nat) (t:TypeId) (L:List Value):Prop:=w.heap[b]? = some (.cells L.toArray t (0,0))
theorem U3.new (w:World) (t:TypeId) (L:List Value):U3 (w.alloc (.cells L.toArray t)) w.heap.size t L:=heap_alloc_new w (.cells L.toArray t)
theorem U3.lt {w:World} {b:Nat} {t:TypeId} {L:List Value} (h:U3 w b t L):b < w.heap.size:=(Array.getElem?_eq_some_iff.1 h).1
theorem U3.set {w:World} {b:Nat} {t:TypeId} {L:List Value} (h:U3 w b t L) (i:Nat) (v:Value):U3 (w.setCell ⟨b,i,none⟩ v) b t (L.set i v):=by
 have:=A08 (w:=w) (b:=b) (o:=i) L.toArray t (0,0) v h
 unfold U3
 rw [this,List.setIfInBounds_toArray]
theorem U3.only {w w':World} {S:Nat→Prop} {b:Nat} {t:TypeId} {L:List Value} (h:U3 w b t L) (ho:A2 S w w') (hs:¬ S b):U3 w' b t L:=(ho.block b h.lt hs).trans h
theorem U3.below {w w':World} {b:Nat} {t:TypeId} {L:List Value} (h:U3 w b t L) (hb:Below w.heap.size w w'):U3 w' b t L:=h.only (S:=fun _=>False) (A2.of_below_size hb) (fun h=>h)
theorem U3.arr {w:World} {b n:Nat} {t:TypeId} {L:List Value} (h:U3 w b t L) (hn:L.length=n):Arr w b n L:=by
 subst hn
 refine ⟨?_,?_⟩
 ·unfold World.row?
  rw [show w.heap[b]? = _ from h]
  simp
 ·unfold World.free?
  rw [show w.heap[b]? = _ from h]
  simp
theorem A85 (w:World) (g:Nat) (cs:Array Value):A2 (· = g) w (w.setRow g cs):=
 ⟨rfl,rfl,rfl,by simp [World.setRow],fun k _ hs=>setRow_other w g k cs hs⟩
theorem A5d {P:Program} {ops:Array Oper} {o:Oper} {a:Act} {w:World} {K:Act→World→Prop} {Q:Exit→Act→World→Prop} {E:Prop} (hgd:o.guard=none) (d s:Operand) (dT sT:TypeId)
  (ho:o.op = .call { callee:=.builtin .copy,args:=#[d,s],argTypes:=#[dT,sT] }) (elem:TypeId) (hu:P.underlying dT=some (.slice elem)) (hsz:(P.info? elem).map (·.size)=some 1)
  (dp sp:Option Addr) (dLen dCap sLen sCap:Nat) (hd:a.eval d = .slice dp dLen dCap) (hs:a.eval s = .slice sp sLen sCap)
  (g off:Nat) (cur:List Value) (t:TypeId) (hg:U3 w g t cur) (cs:List Value) (hn:cs.length=Nat.min sLen dLen)
  (hpos:0 < cs.length→dp=some ⟨g,off,none⟩∧∃ ad,sp=some ad∧∀ j v,cs[j]? = some v→w.cell? (ad.add j)=some v)
  (hfit:off+cs.length≤cur.length) (h1:∀ v∈cs,v.oneCell'=true)
  (h:∀ w',Hid (U3 w' g t (splice cur off cs))→A2 (· = g) w w'→K (a.put o.dst (goInt cs.length)) w') :
  if Region.wanted o (yielded ops a.tmps)=true then Oper.wp P o a w K Q else E:=by
 have hw:Region.wanted o (yielded ops a.tmps)=true:=by simp [Region.wanted,hgd]
 rw [if_pos hw]
 by_cases h0:cs.length=0
 ·obtain rfl:cs = []:=List.eq_nil_of_length_eq_zero h0
  have hrun:=run_copy_none (P:=P) w dT sT o.type elem dp sp dLen dCap sLen sCap hu hsz (by simpa using hn.symm)
  unfold Oper.wp
  simp [execOp,ho,resolve,invoke,builtin,hd,hs,hrun,Result.andThen]
  exact h w (show U3 _ _ _ _ by simpa [splice] using hg) (A2.refl _ _)
 ·obtain ⟨rfl,ad,rfl,hsrc⟩:=hpos (by omega)
  have hrun:=run_copy_row (P:=P) w dT sT o.type elem g off dLen dCap ad sLen sCap cur.toArray t cs hu hsz hg hn hsrc (by simpa using hfit) h1
  unfold Oper.wp
  simp [execOp,ho,resolve,invoke,builtin,hd,hs,hrun,Result.andThen]
  exact h _ (show _=_ by simpa [splice] using setRow_heap w g _ _ t _ hg) (A85 _ _ _)
theorem A9f {w:World} {a:Option Addr} {c:Nat} {l:V1} (hI:I7 w .u8 a c l) (hl:0 < l.length):∃ ad,a=some ad∧∀ j v,(u8L l)[j]? = some v→w.cell? (ad.add j)=some v:=by
 obtain ⟨b,off,ha,hbl,hc⟩:=hI.at hl
 refine ⟨_,ha,fun j v hv=>?_⟩
 have hj:j < l.length:=by have:=(List.getElem?_eq_some_iff.1 hv).1;simpa using this
 have h2:v = .int .u8 (l[j]?.getD 0):=by
  rw [List.getElem?_eq_getElem (by simpa using hj)] at hv
  rw [List.getElem?_eq_getElem hj]
  simp [u8L] at hv
  simpa using hv.symm
 rw [h2,show (⟨b,off,none⟩:Addr).add j=⟨b,off+j,none⟩ from Z0 rfl]
 exact hc j hj
theorem B20 {w:World} {b off c:Nat} {L:V1} (h:I7 w .u8 (some ⟨b,off,none⟩) c L) (p q:Nat) (hpq:p+q≤L.length) (hp:p < c):I7 w .u8 (some ⟨b,off+p,none⟩) (c - p) ((L.drop p).take q):=by
 have hl:=h.len
 have hll:((L.drop p).take q).length=q:=by rw [List.length_take,List.length_drop];omega
 refine ⟨fun hn=>?_,fun e=>(by cases e),(by rw [hll];omega),Nat.le_trans (Nat.sub_le _ _) h.cap⟩
 have hq:0 < q:=by rw [← hll];exact List.length_pos_iff.2 hn
 obtain ⟨b',o',ha,_,hc⟩:=h.at (i:=0) (by omega)
 cases ha
 refine ⟨b,off+p,rfl,fun i hi=>?_⟩
 rw [hll] at hi
 have:=hc (p+i) (by omega)
 rw [Nat.add_assoc,this,List.getElem?_take,if_pos hi,List.getElem?_drop]
theorem A97 {w:World} {b off c:Nat} {L:V1} (h:I7 w .u8 (some ⟨b,off,none⟩) c L) (p:Nat) (hp0:p≤L.length) :
  ∃ o' c',(∀ w',(Instr.slice 26 (.slice (some ⟨b,off,none⟩) L.length c) (some (.int .i64 (p:Int))) none none).run Tryz.prog w' = .ok (.slice (some ⟨b,o',none⟩) (L.length - p) c') w')∧I7 w .u8 (some ⟨b,o',none⟩) c' (L.drop p):=by
 have hl:=h.len
 have he:Tryz.prog.elem 26=5:=by kernel_rfl
 have hs:∀ w',(sizeOf 5).run Tryz.prog w' = .ok 1 w':=fun w'=>by kernel_rfl
 by_cases hp:p < c
 ·refine ⟨off+p,c - p,fun w'=>?_,?_⟩
  ·rw [run_slice_l w' 26 (some ⟨b,off,none⟩) L.length c (by rw [he];exact Tryz.underlying26) .i64 (p:Int) (by omega) (by omega),he,hs]
   simp only [Result.andThen,sliced,Int.toNat_natCast,Nat.mul_one]
   rw [if_neg (by omega),Option.map_some,Z0 rfl]
  ·have:=B20 h p (L.length - p) (by omega) hp
   rw [List.take_of_length_le (by rw [List.length_drop];omega)] at this
   exact this
 ·have hpc:c=p:=by omega
  have hlp:L.length=p:=by omega
  refine ⟨off,0,fun w'=>?_,⟨fun hn=>absurd (List.drop_of_length_le (by omega)) hn,fun e=>(by cases e),by simp [hlp],Nat.zero_le _⟩⟩
  rw [run_slice_l w' 26 (some ⟨b,off,none⟩) L.length c (by rw [he];exact Tryz.underlying26) .i64 (p:Int) (by omega) (by omega),he,hs]
  simp only [Result.andThen,sliced,Int.toNat_natCast,Nat.mul_one]
  rw [if_pos hpc,hpc,Nat.sub_self]
theorem B4w (l:V1) (p n:Nat) (h:l.length≤p):u8L (A20 l p n)=K0 n:=by
 unfold A20
 rw [List.drop_of_length_le h,List.nil_append,List.take_of_length_le (by simp)]
 simp [u8L,K0]
theorem A9l (l:V1) (p n:Nat):splice (K0 n) 0 (u8L ((l.drop p).take n))=u8L (A20 l p n):=by
 unfold splice A20
 rw [List.take_zero,List.nil_append,Nat.zero_add,List.take_append]
 simp only [u8L,List.map_append,List.length_map]
 congr 1
 rw [List.length_take]
 simp [K0,List.drop_replicate,List.take_replicate]
 omega
end Go.Proofs.YtfflppedbopdpaaGreat
namespace Go.Proofs.YtfflppedbopdpaaGreat
open Go.RowKit Go.Mun
theorem B5N {w:World} {sa:Option Addr} {sc:Nat} {l:V1} (p n:Nat) (hp:p≤4398046511104) (hn:n≤1048576) (hI:I7 w .u8 sa sc l) (hl:l.length≤1099511627776) :
  Calls Tryz.prog 259 #[.slice sa l.length sc,.int .i64 p,.int .i64 n] w fun e w' => ∃ v,e = .returned v∧A8c w w' v (A20 l p n):=by
 obtain ⟨w0,e0⟩:∃ w0,w0=w.alloc (.cells (K0 n).toArray 5):=⟨_,rfl⟩
 have hb0:Below w.heap.size w w0:=by rw [e0];exact (Below.refl _ _).alloc (Nat.le_refl _) _
 have hw0:U3 w0 w.heap.size 5 (K0 n):=by rw [e0];exact U3.new w 5 (K0 n)
 have hmk:∀ w',(Instr.makeSlice 26 (.int .i64 (n:Int)) (.int .i64 (n:Int))).run Tryz.prog w' = .ok (.slice (some ⟨w'.heap.size,0,none⟩) n n) (w'.alloc (.cells (K0 n).toArray 5)):=fun w'=>B0d A5Y (n:Int) n rfl (by omega) w'
 have HE:=hid e0
 have HB:=hid hb0
 have HW0:=hid hw0
 have HI:=hid (hI.below hb0)
 have HN:=hid hn
 have HL:=hid hl
 clear e0 hb0 hw0 hI
 by_cases hlt:p < l.length
 ·have d4:decide ((p:Int) < (l.length:Int))=true:=decide_eq_true (by omega)
  have d5:(p < l.length)=True:=eq_true hlt
  obtain ⟨gb,off,ha,_,_⟩:=HI.out.at (i:=0) (by omega)
  subst ha
  obtain ⟨o',c',hsl,hI2⟩:=A97 HI.out p (by omega)
  have HI2:=hid hI2
  have hcl:(u8L ((l.drop p).take n)).length=Nat.min (l.length - p) n:=by
   simp only [u8L,List.length_map,List.length_take,List.length_drop]
   exact Nat.min_comm _ _
  have HCL:=hid hcl
  have HSRC:Hid (0 < (u8L ((l.drop p).take n)).length→∃ ad,(some ⟨gb,o',none⟩:Option Addr)=some ad∧∀ j v,(u8L ((l.drop p).take n))[j]? = some v→w0.cell? (ad.add j)=some v):=fun hpos=>by
   have h1:0 < (l.drop p).length:=by rw [List.length_drop];omega
   obtain ⟨ad,e,hs⟩:=A9f HI2.out h1
   refine ⟨ad,e,fun j v hv=>hs j v ?_⟩
   have hj:j < ((l.drop p).take n).length:=by have:=(List.getElem?_eq_some_iff.1 hv).1;simpa using this
   have hjn:j < n:=by rw [List.length_take] at hj;omega
   simp only [u8L,List.getElem?_map,List.getElem?_take,if_pos hjn] at hv ⊢
   exact hv
  clear hI2 hcl hlt
  go_enter Tryz.func259,Tryz.ntmps259
  go_wp2_with (rw [← HE.out];refine wpList_copy_splice rfl _ _ 26 26 rfl 5 Tryz.underlying26 (by kernel_rfl) (some ⟨w.heap.size,0,none⟩) (some ⟨gb,o',none⟩) n n (l.length - p) c' rfl rfl w.heap.size 0 (K0 n) 5 HW0.out (u8L ((l.drop p).take n)) HCL.out (fun hpos=>⟨rfl,HSRC.out hpos⟩) (by rw [HCL.out];simp [K0];exact Nat.min_le_right _ _) (fun v hv=>by obtain ⟨x,_,rfl⟩:=List.mem_map.1 hv;rfl) w.heap.size w HB.out (Nat.le_refl _) ?_)
  intro w2 hg2 hb2
  have hW2:U3 w2 w.heap.size 5 (u8L (A20 l p n)):=by rw [← A9l];exact hg2.out
  have hA:=hW2.arr (n:=n) (by simp [u8L,A0V])
  have HA:=hid hA
  have HB2:=hid hb2
  clear hg2 hb2 hW2 hA hsl
  go_wp2
  go_ret
  exact ⟨_,rfl,⟨⟨some ⟨w.heap.size,0,none⟩,n,by rw [A0V];rfl,I7.of_arr HA.out (A0V _ _ _).symm (Nat.le_refl _) (by have:=HN.out;unfold maxLen;omega),fun q hq=>by cases hq;exact Nat.le_refl _⟩,HB2.out⟩⟩
 ·have d4:decide ((p:Int) < (l.length:Int))=false:=decide_eq_false (by omega)
  have d5:(p < l.length)=False:=eq_false hlt
  have d6:(l.length≤p)=True:=eq_true (by omega)
  have hW2:U3 w0 w.heap.size 5 (u8L (A20 l p n)):=by rw [B4w l p n (by omega)];exact HW0.out
  have HA:=hid (hW2.arr (n:=n) (by simp [u8L,A0V]))
  clear hW2 hlt
  go_enter Tryz.func259,Tryz.ntmps259
  go_wp2
  rw [← HE.out]
  go_ret
  exact ⟨_,rfl,⟨⟨some ⟨w.heap.size,0,none⟩,n,by rw [A0V];rfl,I7.of_arr HA.out (A0V _ _ _).symm (Nat.le_refl _) (by have:=HN.out;unfold maxLen;omega),fun q hq=>by cases hq;exact Nat.le_refl _⟩,HB.out⟩⟩
end Go.Proofs.YtfflppedbopdpaaGreat
namespace Go.Proofs.YtfflppedbopdpaaGreat
open Go.RowKit Go.Mun
theorem A9m {l:V1} (h:Byt l) (p n:Nat):Byt (A20 l p n):=fun x hx=>by
 unfold A20 at hx
 rcases List.mem_append.1 (List.mem_of_mem_take hx) with h1 | h1
 ·exact h x (List.mem_of_mem_drop h1)
 ·rw [List.eq_of_mem_replicate h1];decide
theorem B2j {L:V1} {k:Nat} (hb:Byt L) (hl:L.length=k) (hk:k≤32):splice (K0 32) (32 - k) (u8L L)=A3 32 (beN L):=by
 have h1:=A75 (List.replicate (32 - k) 0++L) (A72 (A4n _) hb)
 have h2:(List.replicate (32 - k) (0:Int)++L).length=32:=by simp [hl];omega
 rw [h2,A4o] at h1
 unfold A3
 rw [h1]
 unfold splice K0 u8L
 rw [List.take_replicate,List.drop_replicate,List.length_map,hl,List.map_append,List.map_replicate,Nat.min_eq_left (by omega),show 32 - (32 - k+k)=0 by omega]
 simp
def A84 (f:Fr) (k:Nat):Nat:=beN (A20 f.code (f.next+1) k)
theorem B5X {E:Q5} {w:World} {own:Go.Mun.Own} {c:RFV} {f:Fr} {S:St} {M:List (Nat × St)} {n:Nat} (h:C9 E w own c f S M n) (k:Nat) (hk:k≤32):A84 f k < wW:=by
 have h1:=A76 (A20 f.code (f.next+1) k) (A9m h.code.byte _ _)
 rw [A0V] at h1
 have h3:256 ^ k≤256 ^ 32:=Nat.pow_le_pow_right (by decide) hk
 unfold A84
 rw [← A23];omega
def RDo (E:Q5) (jv:Value) (r:Res) (e:Ending) (w:World):Prop:=
 match r with
 | .ok f S=>e = .returned (.int .i64 0)∧∃ own c M n,C9 E w own c f S M n∧c.tl=K3 A0c∧c.jv=jv
 | .stop x f _=>e = .returned (.int .i64 (x:Int))∧x≠0∧∃ own c M n f' S',C9 E w own c f' S' M n∧(x=15→f'.gas=f.gas∧f'.out=f.out)
 | .none=>True
theorem B35 {E:Q5} {w:World} {own:Go.Mun.Own} {c:RFV} {f:Fr} {S:St} {M:List (Nat × St)} {n:Nat} (m:Nat) (hm:96≤m∧m≤127) (h:C9 E w own c f S M n) (htl:c.tl=K3 A0c) (hl:f.stack.length < 1024) :
  Calls Tryz.prog 179 #[.pointer (some ⟨E.fb,0,none⟩),.int .u8 (m:Int),c.jv] w (RDo E c.jv (.ok { f with stack:=f.stack++[A84 f (m - 95)] } S)):=by
 obtain ⟨k,hk⟩:∃ k,k=m - 95:=⟨_,rfl⟩
 have hk32:k≤32:=by omega
 have hk1:1≤k:=by omega
 rw [← hk]
 obtain ⟨x,hx⟩:∃ x,x=A84 f k:=⟨_,rfl⟩
 have hxW:x < wW:=by rw [hx];exact B5X h k hk32
 obtain ⟨w1,e1⟩:∃ w1,w1=w.alloc (.cells (K0 32).toArray 25):=⟨_,rfl⟩
 have hb1:Below w.heap.size w w1:=by rw [e1];exact (Below.refl _ _).alloc (Nat.le_refl _) _
 have hwh:U3 w1 w.heap.size 25 (K0 32):=by rw [e1];exact U3.new w 25 (K0 32)
 obtain ⟨⟨ca,cc,hcv,hci,_⟩,hcb,hcl⟩:=h.code
 have c193:=A7z h.row
 have c229:=A8U h.row
 rw [hcv] at c193
 obtain ⟨cl,hcln⟩:∃ cl,cl=f.code.length:=⟨_,rfl⟩
 rw [← hcln] at c193 hcl
 obtain ⟨pc,hpc⟩:∃ pc,pc=f.next:=⟨_,rfl⟩
 rw [← hpc] at c229
 have hpcl:pc≤2199023255552:=by rw [hpc];exact h.nxt
 have hlt:=h.lt
 have hown:=A3E (m:Int) (by omega) (by omega)
 have hom:K2 (m:Int)=(k:Int):=by unfold K2;rw [if_pos (by omega)];omega
 rw [hom] at hown
 have hm1:(96:Int)≤m:=by omega
 have hm2:(m:Int) < 128:=by omega
 have hd1:decide ((96:Int)≤m)=true:=decide_eq_true hm1
 have hd2:decide ((m:Int) < 128)=true:=decide_eq_true hm2
 obtain ⟨j,hj⟩:∃ j,j=32 - k:=⟨_,rfl⟩
 have hi1:IntKind.i64.wrap (32 - (k:Int))=(j:Int):=by rw [V3 _ (by omega) (by omega)];omega
 have hi2:IntKind.i64.wrap ((pc:Int)+1)=((pc+1:Nat):Int):=by rw [V3 _ (by omega) (by omega)];omega
 obtain ⟨p1,hp1⟩:∃ p1,p1=pc+1:=⟨_,rfl⟩
 rw [← hp1] at hi2
 have hs25:=fun b=>B1n b j (by omega)
 have HCUT:Hid (∀ W,Below w.heap.size w W→Calls Tryz.prog 259 #[.slice ca cl cc,.int .i64 (p1:Int),.int .i64 (k:Int)] W fun e w' => ∃ v,e = .returned v∧A8c W w' v (A20 f.code p1 k)):=by
  intro W hW
  rw [hcln]
  exact B5N p1 k (by omega) (by omega) (hci.below hW) (by rw [← hcln];exact hcl)
 have HXO:Hid (A84 f k=x):=hx.symm
 have HX:Hid (x=beN (A20 f.code p1 k)):=by show _=_;rw [hx,hp1,hpc];rfl
 obtain ⟨L,hL⟩:∃ L,L=A20 f.code p1 k:=⟨_,rfl⟩
 have hLb:Byt L:=by rw [hL];exact A9m hcb _ _
 have hLl:L.length=k:=by rw [hL];exact A0V _ _ _
 rw [← hL] at HCUT HX
 have HWT:Hid (splice (K0 32) j (u8L L)=A3 32 x):=by show _=_;rw [hj,HX.out];exact B2j hLb hLl hk32
 have HLB:=hid hLb
 have HLL:=hid hLl
 obtain ⟨T,hT⟩:∃ T:World→Prop,T=fun W=>W.cell? ⟨E.fb,193,none⟩=some (.slice ca cl cc)∧W.cell? ⟨E.fb,229,none⟩=some (.int .i64 (pc:Int)):=⟨_,rfl⟩
 have HT:=hid hT
 have HTB:Hid (∀ W,Below w.heap.size w W→T W):=by
  rw [hT];intro W hb
  exact ⟨(hb.cell (p:=⟨E.fb,193,none⟩) hlt).trans c193,(hb.cell (p:=⟨E.fb,229,none⟩) hlt).trans c229⟩
 have t0:T w1.drew:=HTB.out _ hb1.drew
 have H:=hid h
 have HTL:=hid htl
 have HE:=hid e1
 have HB1:=hid hb1
 have HWH:=hid hwh
 have HL:=hid hl
 have HJ:Hid (32 - j=k):=by show _=_;omega
 have hjl:j < 32:=by omega
 have hjk:j+k=32:=by omega
 clear htl hT hx e1 hb1 hwh hcv hci hcb h c193 c229 hcln hpc hom hp1 hL hLb hLl hl hk hj hm
 go_enter Tryz.func179,Tryz.ntmps179
 go_wp2_with fail
 rw [← HE.out]
 refine (hown _).mono ?_
 rintro e w2 ⟨rfl,rfl⟩
 go_wp2_with fail
 refine A6 T [] (.pure 0 (.pure 1 (.pure 2 (.pure 3 (.pure 4 (.pure 5 (.take 6 (.pure 7 (.pure 8 (.pure 9 (.take 10 (.pure 11 (.pure 12 (.alt 13 (.alt 14 .fin .stop) .stop)))))))))))))) (by kernel_rfl) (by kernel_rfl) ?_
 iterate 13
  first
  |refine A0 ?_ rfl (by rfl) (fun w' hs=>?_) (fun _ _ _ h=>h) ?_
   rotate_left
   ·clear hs
    go_simp
    try rfl
   simp only [Act.put,D6,D5,D4]
  |refine A9 ?_ t0 rfl (by rfl) (fun w' hs=>?_) (fun _ _ _ h=>h) ?_
   rotate_left
   ·rw [HT.out] at hs
    obtain ⟨s1,s2⟩:=hs
    go_simp
    try rfl
   simp only [Act.put,D6,D5,D4]
 refine A8 rfl (fun K hK=>?_)
 go_simp
 refine (HCUT.out _ HB1.out.drew).mono ?_
 rintro e w3 ⟨v,rfl,hnb⟩
 obtain ⟨⟨va,vc,ev,hvi,hva⟩,hb3⟩:=hnb
 subst ev
 have HB3:Hid (Below w.heap.size w w3):=HB1.out.drew.trans (hb3.mono HB1.out.drew.size)
 have t3:=HTB.out _ HB3.out
 have HWH3:Hid (U3 w3 w.heap.size 25 (K0 32)):=U3.below (w:=w1.drew) HWH.out hb3
 have HVI:=hid hvi
 have hvl:L.length=k:=HLL.out
 rw [hvl]
 clear hb3 hvi hva
 refine hK.out _ _ t3 ?_
 clear hK K
 refine A8 rfl (fun K hK=>?_)
 refine A5d rfl _ _ 26 26 rfl 5 Tryz.underlying26 (by kernel_rfl) (some ⟨w.heap.size,j,none⟩) va (32 - j) (32 - j) k vc rfl rfl w.heap.size j (K0 32) 25 HWH3.out (u8L L) (by rw [HJ.out,A7m,hvl];simp) (fun hpos=>⟨rfl,A9f HVI.out (by simpa using hpos)⟩) (by rw [A7m,hvl,zU8_len];omega) (M8 (B7b L _ rfl)) ?_
 intro w4 hw4 ho4
 rw [HWT.out] at hw4
 have HB4:Hid (Below w.heap.size w w4):=HB3.out.trans (ho4.below HB3.out.size (fun i hi=>by have:i=w.heap.size:=hi;omega))
 have t4:=HTB.out _ HB4.out
 have HA4:=hid (hw4.out.arr (n:=32) (by simp))
 clear hw4 ho4
 refine hK.out _ _ t4 ?_
 clear hK K
 refine C3 ?_
 clear t0 t3 t4
 have hr4:w4.drew.row? w.heap.size 0 32=some (A3 32 x):=HA4.out.row
 obtain ⟨T2,hT2⟩:∃ T2:World→Prop,T2=fun W=>W.row? w.heap.size 0 32=some (A3 32 x):=⟨_,rfl⟩
 have HT:=hid hT2
 have t5:T2 w4.drew:=by rw [hT2];exact hr4
 have HP:=hid (A7D x hxW HL.out (H.out.below HB4.out.drew))
 have hl32:=B0 32 x
 clear hT2 hr4
 go_wp2_with fail
 refine A6 T2 [4] (.pure 0 (.pure 1 (.pure 2 (.take 3 (.alt 4 .fin .stop))))) (by kernel_rfl) (by kernel_rfl) ?_
 iterate 4
  first
  |refine A0 ?_ rfl (by rfl) (fun w' hs=>?_) (fun _ _ _ h=>h) ?_
   rotate_left
   ·clear hs
    go_simp
    try rfl
   simp only [Act.put,D6,D5,D4]
  |refine A9 ?_ t5 rfl (by rfl) (fun w' hs=>?_) (fun _ _ _ h=>h) ?_
   rotate_left
   ·rw [HT.out] at hs
    have s1:=hs
    go_simp
    try rfl
   simp only [Act.put,D6,D5,D4]
 refine L0 rfl (by simp) (fun K hK=>?_)
 go_simp
 refine HP.out.mono ?_
 rintro e w5 ⟨rfl,c',h5,ht5,hj5⟩
 have H5:=hid h5
 have HT5:=hid (ht5.trans HTL.out)
 have HJ5:=hid hj5
 clear h5 ht5 hj5
 refine hK.out _ _ ?_
 clear hK K
 refine C3 ?_
 clear t5
 go_wp2
 go_ret
 exact ⟨rfl,own,c',M,n,by rw [HXO.out];exact H5.out,HT5.out,HJ5.out⟩
end Go.Proofs.YtfflppedbopdpaaGreat
namespace Go.Proofs.YtfflppedbopdpaaGreat
open Go.RowKit Go.Mun
theorem B1u {E:Q5} {w:World} {own:Go.Mun.Own} {c:RFV} {f:Fr} {S:St} {M:List (Nat × St)} {n:Nat} (k:Nat) (hk:k≤f.stack.length) (h:C9 E w own c f S M n) :
  Calls Tryz.prog 263 #[.pointer (some ⟨E.fb,230,none⟩),.int .i64 (k:Int)] w fun e w' => ∃ v c',e = .returned (.tuple #[v,.bool true])∧C9 E w' own c' { f with stack:=f.stack.take (f.stack.length - k) } S M n∧(c'.tl=c.tl∧c'.jv=c.jv) ∧
   w'.ownsRow w.heap.size 25 32 v k (D3 (f.stack.reverse.take k))∧(∀ g,v.ownBlock=some g→own g=none∧c'.sv.ownBlock≠some g∧c'.mv.ownBlock≠some g):=by
 refine (B7J k (A5p h.row) (h.one (by omega)) (E8 h.stk (Nat.zero_le _)) hk h.slen).mono ?_
 rintro e w' ⟨v,sv',w1,rfl,rfl,hb,hv,hs,hg⟩
 have hvg:=L7 hv
 refine ⟨v,_,rfl,h.stack (A2.of_below_size hb) hs (fun g hg2 => .inl (hg g hg2)) (fun y hy=>h.sval y (List.mem_of_mem_take hy)) (Nat.le_trans (by rw [List.length_take];exact Nat.min_le_right _ _) h.slen),⟨rfl,rfl⟩,?_,fun g hg2=>⟨E4 h.st.lows (hvg g hg2),fun e=>?_,fun e=>?_⟩⟩
 ·exact A2.own hv (E5 w1 E.fb 230 sv') (fun g hg2 e=>by have e2:g=E.fb:=e;have:=hvg g hg2;have:=h.lt;omega)
 ·have h1:=hg g e
  have:=C8 h.stk g h1
  have:=hvg g hg2
  omega
 ·have:=C8 h.mem g e
  have:=hvg g hg2
  omega
theorem C1e:A0c[0]? = some ⟨0,[83,84,79,80],0,0,0⟩:=by kernel_rfl
theorem A5q {E:Q5} {w:World} {own:Go.Mun.Own} {c:RFV} {f:Fr} {S:St} {M:List (Nat × St)} {n:Nat} (h:C9 E w own c f S M n) (htl:c.tl=K3 A0c) (m:Nat) (x:Inf) (hx:A0c[m]? = some x):w.row? E.fb (236+m*5) 5=some x.c:=by
 have hm:m < 256:=by have:=(List.getElem?_eq_some_iff.1 hx).1;rw [A3Q] at this;exact this
 have h1:=C0r h.row h.tlen
 have h2:=World.row?_sub h1 (o':=236+m*5) (n':=5) (by omega) (by omega)
 rw [h2,htl,show 236+m*5 - 236=5*m by omega,A5M A0c m x hx]
theorem A8P {E:Q5} {w:World} {own:Go.Mun.Own} {c:RFV} {f:Fr} {S:St} {M:List (Nat × St)} {n:Nat} {v jv:Value} (h:C9 E w own c f S M n) :
  Calls Tryz.prog 269 #[.pointer (some ⟨E.fb,0,none⟩),.int .u8 0,v,jv] w fun e w'=>e = .returned (.int .i64 0)∧C9 E w' own c { f with ended:=true } S M n:=by
 have hf:=h.one (i:=235) (by omega)
 have H:=hid (h.ended true)
 clear h
 go_enter Tryz.func269,Tryz.ntmps269
 go_wp2
 go_ret
 exact ⟨rfl,H.out⟩
theorem B34 {E:Q5} {w:World} {own:Go.Mun.Own} {c:RFV} {f:Fr} {S:St} {M:List (Nat × St)} {n:Nat} (h:C9 E w own c f S M n) (htl:c.tl=K3 A0c) :
  Calls Tryz.prog 179 #[.pointer (some ⟨E.fb,0,none⟩),.int .u8 0,c.jv] w (RDo E c.jv (.ok { f with ended:=true } S)):=by
 have hr:=A5q h htl 0 _ C1e
 have hc:w.cell? ⟨E.fb,238,none⟩=some (.int .i64 0):=by
  have:=World.row?_cell hr (i:=2) (by omega)
  rw [this];unfold Inf.c;rfl
 obtain ⟨T,hT⟩:∃ T:World→Prop,T=fun W=>W.cell? ⟨E.fb,238,none⟩=some (.int .i64 0):=⟨_,rfl⟩
 have HT:=hid hT
 have t0:T w.drew:=by rw [hT];exact hc
 have HP:=hid (B1u 0 (Nat.zero_le _) (h.below (Below.refl _ _).drew))
 have HTL:=hid htl
 clear h htl hr hc hT
 go_enter Tryz.func179,Tryz.ntmps179
 go_wp2_with fail
 refine A6 T [10] (.pure 0 (.pure 1 (.pure 2 (.pure 3 (.pure 4 (.pure 5 (.pure 6 (.pure 7 (.pure 8 (.take 9 (.alt 10 (.pure 11 (.pure 12 (.pure 13 (.pure 14 (.pure 15 .fin))))) .stop))))))))))) (by kernel_rfl) (by kernel_rfl) ?_
 iterate 10
  first
  |refine A0 ?_ rfl (by rfl) (fun w' hs=>?_) (fun _ _ _ h=>h) ?_
   rotate_left
   ·clear hs
    go_simp
    try rfl
   simp only [Act.put,D6,D5,D4]
  |refine A9 ?_ t0 rfl (by rfl) (fun w' hs=>?_) (fun _ _ _ h=>h) ?_
   rotate_left
   ·rw [HT.out] at hs
    have s1:=hs
    go_simp
    try rfl
   simp only [Act.put,D6,D5,D4]
 refine L0 rfl (by simp) (fun K hK=>?_)
 go_simp
 refine HP.out.mono ?_
 rintro e w1 ⟨v,c1,rfl,h1,⟨ht1,hj1⟩,_,_⟩
 have H1:=hid h1
 have HT1:=hid (ht1.trans HTL.out)
 have HJ1:=hid hj1
 clear h1 ht1 hj1
 refine hK.out _ _ ?_
 clear hK K
 iterate 5
  refine A0 ?_ rfl (by rfl) (fun w' hs=>?_) (fun _ _ _ h=>h) ?_
  rotate_left
  ·clear hs
   go_simp
   try rfl
  simp only [Act.put,D6,D5,D4]
 refine C3 ?_
 have HST:Hid (C9 E w1 own c1 f S M n):=by
  have:=H1.out
  rw [show f.stack.take (f.stack.length - 0)=f.stack by simp] at this
  exact this
 clear t0
 go_wp2_with fail
 refine (A8P HST.out).mono ?_
 rintro e w2 ⟨rfl,h2⟩
 have H2:=hid h2
 clear h2
 go_wp2
 go_ret
 exact ⟨rfl,own,c1,M,n,H2.out,HT1.out,HJ1.out⟩
end Go.Proofs.YtfflppedbopdpaaGreat
