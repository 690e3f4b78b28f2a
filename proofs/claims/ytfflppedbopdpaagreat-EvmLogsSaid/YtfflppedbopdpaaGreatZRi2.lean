/- A part of the proof of EvmLogs: ZRi2. -/
import Derived.Test.YtfflppedbopdpaaGreatZRs12
import Derived.Test.YtfflppedbopdpaaGreatZRef1
set_option linter.unusedVariables false
set_option maxRecDepth 1000000
set_option maxHeartbeats 8000000
set_option linter.unusedSimpArgs false
namespace Go.Proofs.YtfflppedbopdpaaGreat
open Go.RowKit Go.Mun
theorem A43:V3 Tryz.prog 142 5:=⟨⟨_,Tryz.underlying142,rfl⟩,by kernel_rfl⟩
def A1i:List Value:=A32.c
section
variable (ρ:Operand→Value) (dst:Option Tmp) (x y z:Operand) (parts:List (Nat × Operand)) (t:TypeId) (pos:String) (after:Array Edge) (gd:Option (Nat × Bool)) (w:World)
theorem B9s:(execOp ρ ⟨dst,.load 142 x,t,pos,after,gd⟩).run Tryz.prog w=E7 (A1g Tryz.prog 142 5 (ρ x) w):=A0m ρ dst x t pos after gd w A43
theorem B9a:(execOp ρ ⟨dst,.store 142 x y,t,pos,after,gd⟩).run Tryz.prog w=J9 (Y4 Tryz.prog 142 5 (ρ x) (ρ y) w):=O9 ρ dst x y t pos after gd w A43
theorem B9T:(execOp ρ ⟨dst,.alloc 142,t,pos,after,gd⟩).run Tryz.prog w = .ok (.value (.pointer (some ⟨w.heap.size,0,none⟩))) (w.alloc (.cells A1i.toArray 142)):=P0 ρ dst t pos after gd w (fun _=>by kernel_rfl)
theorem B9D:(execOp ρ ⟨dst,.build 142 #[],t,pos,after,gd⟩).run Tryz.prog w = .ok (.value (.agg A1i.toArray)) w:=A33 (fun _=>by kernel_rfl) ρ dst t pos after gd w
end
attribute [go_sem ↓] B9s B9a B9T B9D

theorem A1S (n:Nat):(str (Y0 n)).size≤2:=by
 rw [A8p];unfold Y0;split <;> simp
theorem A6I (r:Int) (h0:0≤r) (h1:r < 10) (w:World) :
  (Instr.slice 9 (.string ⟨#[48,49,50,51,52,53,54,55,56,57,97,98,99,100,101,102]⟩) (some (.int .i64 r)) (some (.int .i64 (r+1))) none).run Tryz.prog w = .ok (.string (str [dU r.toNat])) w:=by
 obtain ⟨n,rfl⟩:=Int.eq_ofNat_of_zero_le h0
 obtain rfl | rfl | rfl | rfl | rfl | rfl | rfl | rfl | rfl | rfl:n=0∨n=1∨n=2∨n=3∨n=4∨n=5∨n=6∨n=7∨n=8∨n=9:=by omega
 all_goals (clear h0 h1;kernel_rfl)

theorem A7b (n:Nat) (hn:n < 10) (x:Int) (hx:x=(n:Int)) (w:World):Calls Tryz.prog 300 #[.int .i64 x] w fun e w'=>e = .returned (.string (str (Y0 n)))∧w=w':=by
 have x0:0≤x:=by omega
 have x9:x≤9:=by omega
 have em:x % 10=x:=by omega
 have hs:=fun wx=>A6I x x0 (by omega) wx
 have HD:Hid (str [dU x.toNat]=str (Y0 n)):=hid (by
  unfold Y0
  rw [if_neg (by omega),List.nil_append,hx,Int.toNat_natCast,Nat.mod_eq_of_lt hn])
 clear hx
 go_enter Tryz.func300,Tryz.ntmps300
 go_wp2
 go_ret
 exact ⟨by rw [← HD.out];rfl,rfl⟩
theorem A13 (n:Nat) (hn:n < 100) (x:Int) (hx:x=(n:Int)) (w:World):Calls Tryz.prog 300 #[.int .i64 x] w fun e w'=>e = .returned (.string (str (Y0 n)))∧w=w':=by
 by_cases h9:n < 10
 ·exact A7b n h9 x hx w
 ·have x0:10≤x:=by omega
  have x9:x≤99:=by omega
  obtain ⟨r,hr⟩:∃ r,r=x % 10:=⟨_,rfl⟩
  have r0:0≤r:=by omega
  have r1:r≤9:=by omega
  have em:x % 10=r:=hr.symm
  have hs:=fun wx=>A6I r r0 (by omega) wx
  have HD:Hid (str (Y0 (n / 10))++str [dU r.toNat]=str (Y0 n)):=hid (by
   rw [A1b]
   unfold Y0
   rw [if_neg (by omega),if_pos (by omega),List.nil_append]
   have e1:n / 10 % 10=n / 10:=by omega
   have e2:r.toNat=n % 10:=by omega
   rw [e1,e2])
  have HX:=hid hx
  clear hr hx
  go_enter Tryz.func300,Tryz.ntmps300
  go_wp2_with fail
  refine (A7b (n / 10) (by omega) _ (by have:=HX.out;omega) _).mono ?_
  rintro e w1 ⟨rfl,rfl⟩
  have z1:=A1S (n / 10)
  have z2:(str [dU r.toNat]).size≤2:=by rw [A8p];simp
  go_wp2
  go_ret
  exact ⟨by rw [← HD.out];rfl,rfl⟩
attribute [local irreducible] Inf.c A1i L6
theorem A5z:Q3 5 A1i=true:=by unfold A1i Inf.c;rfl
theorem Inf.ok (x:Inf):Q3 5 x.c=true:=by unfold Inf.c;simp [Q3,Value.oneCell']

def A2l (m:Nat):Bool:=decide (96≤m) && decide (m < 165)
theorem A93 (m:Nat) (hm:m < 256) (w:World):Calls Tryz.prog 247 #[.int .u8 (m:Int)] w fun e w'=>e = .returned (.tuple #[.agg (T7 m).c.toArray,.bool (A2l m)])∧Below w.heap.size w w':=by
 have hf:Hid ((w.alloc (.cells A1i.toArray 142)).free? w.heap.size 0 5=true):=hid (World.free?_alloc_at _ _ rfl (by rw [K6 A5z];decide))
 obtain ⟨x,hx⟩:∃ x:Int,x=(m:Int):=⟨_,rfl⟩
 rw [← hx]
 have x0:0≤x:=by omega
 have x1:x≤255:=by omega
 by_cases h1:96≤m∧m < 128
 ·have hr:T7 m=⟨x,([80,85,83,72]++Y0 (m - 95)),0,1,3⟩:=by unfold T7;rw [if_pos h1,hx]
  have hk:A2l m=true:=by unfold A2l;simp;omega
  have HN:=hid (show ⟨#[80,85,83,72]⟩++str (Y0 (m - 95))=str (([80,85,83,72]++Y0 (m - 95))) by rw [show (⟨#[80,85,83,72]⟩:ByteArray)=str [80,85,83,72] from rfl,A1b])
  have g0:96≤x:=by omega
  have g1:x < 128:=by omega
  have HX:=hid hx
  have H1:=hid h1
  rw [hr,hk]
  have z1:=A1S (m - 95)
  generalize ([80,85,83,72]++Y0 (m - 95))=nm at *
  have hok:Q3 5 [.int .u8 x,.string (str nm),.int .i64 (0),.int .i64 (1),.int .i64 (3)]=true:=by simp [Q3,Value.oneCell']
  clear hr hk hx h1 hm
  have hff:=hf.out
  go_enter Tryz.func247,Tryz.ntmps247
  go_wp2_with fail
  refine (A13 (m - 95) (by have:=H1.out;omega) _ (by have:=HX.out;have:=H1.out;omega) _).mono ?_
  rintro e w1 ⟨rfl,rfl⟩
  have hnn:=HN.out
  generalize str (Y0 (m - 95))=ds at *
  go_wp2
  exact A1I A43 rfl [.int .u8 x,.string (str nm),.int .i64 (0),.int .i64 (1),.int .i64 (3)] _ rfl rfl rfl (B7 _ hf.out hok) ⟨by unfold Inf.c;rfl,((Below.refl _ _).alloc (Nat.le_refl _) _).setCells (Nat.le_refl _) _ _⟩
 by_cases h2:128≤m∧m < 144
 ·have hr:T7 m=⟨x,([68,85,80]++Y0 (m - 127)),x - 127,x - 126,3⟩:=by unfold T7;rw [if_neg h1];rw [if_pos h2,hx]
  have hk:A2l m=true:=by unfold A2l;simp;omega
  have HN:=hid (show ⟨#[68,85,80]⟩++str (Y0 (m - 127))=str (([68,85,80]++Y0 (m - 127))) by rw [show (⟨#[68,85,80]⟩:ByteArray)=str [68,85,80] from rfl,A1b])
  have g0:128≤x:=by omega
  have g1:x < 144:=by omega
  have HX:=hid hx
  have H1:=hid h2
  rw [hr,hk]
  have z1:=A1S (m - 127)
  generalize ([68,85,80]++Y0 (m - 127))=nm at *
  have hok:Q3 5 [.int .u8 x,.string (str nm),.int .i64 (x - 127),.int .i64 (x - 126),.int .i64 (3)]=true:=by simp [Q3,Value.oneCell']
  clear hr hk hx h1 h2 hm
  have hff:=hf.out
  go_enter Tryz.func247,Tryz.ntmps247
  go_wp2_with fail
  refine (A13 (m - 127) (by have:=H1.out;omega) _ (by have:=HX.out;have:=H1.out;omega) _).mono ?_
  rintro e w1 ⟨rfl,rfl⟩
  have hnn:=HN.out
  generalize str (Y0 (m - 127))=ds at *
  go_wp2
  exact A1I A43 rfl [.int .u8 x,.string (str nm),.int .i64 (x - 127),.int .i64 (x - 126),.int .i64 (3)] _ rfl rfl rfl (B7 _ hf.out hok) ⟨by unfold Inf.c;rfl,((Below.refl _ _).alloc (Nat.le_refl _) _).setCells (Nat.le_refl _) _ _⟩
 by_cases h3:144≤m∧m < 160
 ·have hr:T7 m=⟨x,([83,87,65,80]++Y0 (m - 143)),x - 142,x - 142,3⟩:=by unfold T7;rw [if_neg h1];rw [if_neg h2];rw [if_pos h3,hx]
  have hk:A2l m=true:=by unfold A2l;simp;omega
  have HN:=hid (show ⟨#[83,87,65,80]⟩++str (Y0 (m - 143))=str (([83,87,65,80]++Y0 (m - 143))) by rw [show (⟨#[83,87,65,80]⟩:ByteArray)=str [83,87,65,80] from rfl,A1b])
  have g0:144≤x:=by omega
  have g1:x < 160:=by omega
  have HX:=hid hx
  have H1:=hid h3
  rw [hr,hk]
  have z1:=A1S (m - 143)
  generalize ([83,87,65,80]++Y0 (m - 143))=nm at *
  have hok:Q3 5 [.int .u8 x,.string (str nm),.int .i64 (x - 142),.int .i64 (x - 142),.int .i64 (3)]=true:=by simp [Q3,Value.oneCell']
  clear hr hk hx h1 h2 h3 hm
  have hff:=hf.out
  go_enter Tryz.func247,Tryz.ntmps247
  go_wp2_with fail
  refine (A13 (m - 143) (by have:=H1.out;omega) _ (by have:=HX.out;have:=H1.out;omega) _).mono ?_
  rintro e w1 ⟨rfl,rfl⟩
  have hnn:=HN.out
  generalize str (Y0 (m - 143))=ds at *
  go_wp2
  exact A1I A43 rfl [.int .u8 x,.string (str nm),.int .i64 (x - 142),.int .i64 (x - 142),.int .i64 (3)] _ rfl rfl rfl (B7 _ hf.out hok) ⟨by unfold Inf.c;rfl,((Below.refl _ _).alloc (Nat.le_refl _) _).setCells (Nat.le_refl _) _ _⟩
 by_cases h4:160≤m∧m < 165
 ·have hr:T7 m=⟨x,([76,79,71]++Y0 (m - 160)),x - 158,0,375*(x - 159)⟩:=by unfold T7;rw [if_neg h1];rw [if_neg h2];rw [if_neg h3];rw [if_pos h4,hx]
  have hk:A2l m=true:=by unfold A2l;simp;omega
  have HN:=hid (show ⟨#[76,79,71]⟩++str (Y0 (m - 160))=str (([76,79,71]++Y0 (m - 160))) by rw [show (⟨#[76,79,71]⟩:ByteArray)=str [76,79,71] from rfl,A1b])
  have g0:160≤x:=by omega
  have g1:x < 165:=by omega
  have HX:=hid hx
  have H1:=hid h4
  rw [hr,hk]
  have z1:=A1S (m - 160)
  generalize ([76,79,71]++Y0 (m - 160))=nm at *
  have hok:Q3 5 [.int .u8 x,.string (str nm),.int .i64 (x - 158),.int .i64 (0),.int .i64 (375*(x - 159))]=true:=by simp [Q3,Value.oneCell']
  clear hr hk hx h1 h2 h3 h4 hm
  have hff:=hf.out
  go_enter Tryz.func247,Tryz.ntmps247
  go_wp2_with fail
  refine (A13 (m - 160) (by have:=H1.out;omega) _ (by have:=HX.out;have:=H1.out;omega) _).mono ?_
  rintro e w1 ⟨rfl,rfl⟩
  have hnn:=HN.out
  generalize str (Y0 (m - 160))=ds at *
  go_wp2
  exact A1I A43 rfl [.int .u8 x,.string (str nm),.int .i64 (x - 158),.int .i64 (0),.int .i64 (375*(x - 159))] _ rfl rfl rfl (B7 _ hf.out hok) ⟨by unfold Inf.c;rfl,((Below.refl _ _).alloc (Nat.le_refl _) _).setCells (Nat.le_refl _) _ _⟩
 ·have hr:T7 m=A32:=by unfold T7;rw [if_neg h1,if_neg h2,if_neg h3,if_neg h4]
  have hk:A2l m=false:=by unfold A2l;simp;omega
  rw [hr,hk]
  have hh:Hid (x < 96∨165≤x):=hid (by omega)
  have hz:A32.c=A1i:=by unfold A1i;rfl
  rw [hz]
  have hff:=hf.out
  have hok:=A5z
  clear hr hk hx h1 h2 h3 h4 hm hz
  by_cases hlo:x < 96
  focus
   clear hh
  rotate_left
  focus
   have hhi:165≤x:=by have:=hh.out;omega
   clear hh hlo
  all_goals
   go_enter Tryz.func247,Tryz.ntmps247
   go_wp2
   exact A1I A43 rfl _ _ rfl rfl rfl (B7 _ hf.out hok) ⟨rfl,((Below.refl _ _).alloc (Nat.le_refl _) _).setCells (Nat.le_refl _) _ _⟩
end Go.Proofs.YtfflppedbopdpaaGreat
namespace Go.Mun
open Go.RowKit
theorem A4k (k:Nat):(A0A k).length=256:=by simp [A0A]
theorem A8M (k:Nat):(A0A k).set k (T7 k)=A0A (k+1):=by
 apply List.ext_getElem (by simp [A0A])
 intro i h1 h2
 simp only [List.getElem_set,A0A,List.getElem_map,List.getElem_range]
 by_cases hi:k=i
 ·subst hi;simp
 ·rw [if_neg hi]
  by_cases h3:i < k
  ·rw [if_pos h3,if_pos (by omega)]
  ·rw [if_neg h3,if_neg (by omega)]
theorem A7C:A0A 0=List.replicate 256 A32:=by
 have h:∀ n:Nat,((List.range n).map fun i=>if i < 0 then T7 i else A32)=List.replicate n A32:=by
  intro n
  apply List.ext_getElem (by rw [List.length_map,List.length_range,List.length_replicate])
  intro i h1 h2
  rw [List.getElem_map,List.getElem_replicate,if_neg (Nat.not_lt_zero _)]
 exact h 256
theorem B2J (k:Nat):(A2t k).length=256:=by
 unfold A2t
 have:∀ (xs l:List Inf),l.length=256→(xs.foldl (fun l x=>l.set x.op.toNat x) l).length=256:=by
  intro xs
  induction xs with
  | nil=>intro l h;exact h
  | cons x xs ih=>intro l h;exact ih _ (by simpa using h)
 exact this _ _ (A4k 256)
theorem B2I (k:Nat) (x:Inf) (h:A0f[k]? = some x):(A2t k).set x.op.toNat x=A2t (k+1):=by
 unfold A2t
 rw [List.take_add_one,h,List.foldl_append]
 rfl
theorem B3z:∀ k:Fin 69,∃ x,A0f[k.1]? = some x∧0≤x.op∧x.op < 256:=by
 intro k
 have:∀ k:Fin 69,0≤(A0f[k.1]?.getD A32).op∧(A0f[k.1]?.getD A32).op < 256:=by decide +kernel
 have h:=this k
 have hl:k.1 < A0f.length:=k.2
 rw [List.getElem?_eq_getElem hl] at h ⊢
 exact ⟨_,rfl,h⟩
end Go.Mun
namespace Go.Proofs.YtfflppedbopdpaaGreat
open Go.RowKit Go.Mun
def A4r:List Value:=L6 (List.replicate 256 A32)
theorem B3w:V3 Tryz.prog 143 1280:=⟨⟨_,Tryz.underlying143,rfl⟩,by kernel_rfl⟩
section
variable (ρ:Operand→Value) (dst:Option Tmp) (x y z:Operand) (parts:List (Nat × Operand)) (t:TypeId) (pos:String) (after:Array Edge) (gd:Option (Nat × Bool)) (w:World)
theorem B9r:(execOp ρ ⟨dst,.load 143 x,t,pos,after,gd⟩).run Tryz.prog w=E7 (A1g Tryz.prog 143 1280 (ρ x) w):=A0m ρ dst x t pos after gd w B3w
theorem B89:(execOp ρ ⟨dst,.store 143 x y,t,pos,after,gd⟩).run Tryz.prog w=J9 (Y4 Tryz.prog 143 1280 (ρ x) (ρ y) w):=O9 ρ dst x y t pos after gd w B3w
theorem B9S:(execOp ρ ⟨dst,.alloc 143,t,pos,after,gd⟩).run Tryz.prog w = .ok (.value (.pointer (some ⟨w.heap.size,0,none⟩))) (w.alloc (.cells A4r.toArray 143)):=P0 ρ dst t pos after gd w (fun _=>by kernel_rfl)
end
attribute [go_sem ↓] B9r B89 B9S
theorem A31:A4r.length=1280:=by unfold A4r;rw [A1O,List.length_replicate]
attribute [local irreducible] Inf.c A1i L6 A4r

structure A2W (l:List Inf) (w wr:World):Prop where
 below:Below w.heap.size w wr
 size:w.heap.size+1 < wr.heap.size
 res:wr.free? w.heap.size 0 1280=true
 free:wr.free? (w.heap.size+1) 0 1280=true
 row:wr.row? (w.heap.size+1) 0 1280=some (L6 l)
 len:l.length=256

theorem A2W.start (w:World):A2W (A0A 0) w ((w.alloc (.cells A4r.toArray 143)).alloc (.cells A4r.toArray 143)):=by
 have hs:(w.alloc (.cells A4r.toArray 143)).heap.size=w.heap.size+1:=by simp
 refine ⟨((Below.refl _ _).alloc (Nat.le_refl _) _).alloc (by simp) _,by simp,?_,?_,?_,A4k 0⟩
 ·rw [World.free?_alloc_lt _ (by simp)];exact World.free?_alloc_at _ _ rfl (by rw [A31];decide)
 ·rw [← hs];exact World.free?_alloc_at _ _ rfl (by rw [A31];decide)
 ·rw [← hs,World.row?_alloc_at _ _ _ rfl A31,A7C];unfold A4r;rfl
theorem A2W.next {l:List Inf} {w wr w2:World} (h:A2W l w wr) (hb:Below wr.heap.size wr w2):A2W l w w2:=by
 obtain ⟨h1,h2,h3,h4,h5,h6⟩:=h
 have l1:=C1 h3
 have l2:=C1 h4
 exact ⟨h1.trans (hb.mono h1.size),Nat.lt_of_lt_of_le h2 hb.size,A4u hb l1 h3,A4u hb l2 h4,by rw [(C7 hb).1 _ _ _ l2];exact h5,h6⟩
theorem A2W.drew {l:List Inf} {w wr:World} (h:A2W l w wr):A2W l w wr.drew:=⟨h.below.drew,h.size,h.res,h.free,h.row,h.len⟩
theorem A2W.set {l:List Inf} {w wr:World} (h:A2W l w wr) (i:Nat) (hi:i < 256) (x:Inf):A2W (l.set i x) w (wr.setCells (w.heap.size+1) (i*5) x.c):=by
 obtain ⟨h1,h2,h3,h4,h5,h6⟩:=h
 have hc:x.c.length=5:=by unfold Inf.c;rfl
 refine ⟨h1.setCells (by omega) _ _,by simpa using h2,by rw [World.free?_setCells'];exact h3,by rw [World.free?_setCells'];exact h4,?_,by simpa using h6⟩
 rw [World.row?_setCells_in (i*5) x.c h5 (Nat.zero_le _) (by rw [hc];omega),Nat.sub_zero,Nat.mul_comm i 5,A61 l i x (by omega)]
theorem A2W.at {l:List Inf} {w wr:World} (h:A2W l w wr) (i:Nat) (hi:i < 256):wr.free? (w.heap.size+1) (i*5) 5=true:=
 World.free?_sub h.free (by omega)

def A9A (b:Nat) (wr:World):Prop:=∀ (i:Nat) (x:Inf),A0f[i]? = some x→wr.row? b (i*5) 5=some x.c
theorem A9A.new (w:World):A9A w.heap.size (w.alloc (.cells (L6 A0f).toArray 142)):=by
 intro i x hx
 have hi:i < A0f.length:=(List.getElem?_eq_some_iff.1 hx).1
 have hl:A0f.length=69:=rfl
 rw [World.row?_alloc_sub _ _ _ rfl (by rw [A1O];omega),Nat.mul_comm i 5,A5y _ i x hx]
theorem A9A.set {b b' o:Nat} {cs:List Value} {wr:World} (h:A9A b wr) (hb:b≠b'):A9A b (wr.setCells b' o cs):=by
 intro i x hx
 rw [World.row?_setCells_other _ _ _ hb];exact h i x hx
theorem B2O {w:World} {b o:Nat} {x:Inf} (h:w.row? b o 5=some x.c):w.cell? ⟨b,o,none⟩=some (.int .u8 x.op):=by
 have:=World.row?_cell h (i:=0) (by decide)
 simp only [Nat.add_zero] at this
 rw [this];unfold Inf.c;rfl
theorem B5J (w:World):Calls Tryz.prog 176 #[] w fun e w'=>e = .returned (.agg (L6 A0P).toArray)∧Below w.heap.size w w':=by
 go_enter Tryz.func176,Tryz.ntmps176
 go_wp2
 go_loopw [2] (fun i wr => ∃ k:Nat,k≤256∧i = .int .i64 (k:Int)∧Hid (A2W (A0A k) w wr)) (fun i _=>256 - (intOf i).toNat)
 case atStart=>exact ⟨0,by omega,rfl,hid (A2W.start w)⟩
 case round =>
  obtain ⟨k,hk,rfl,HR⟩:=hrel
  by_cases hlt:k < 256
  ·go_wp2_with fail
   refine (A93 k hlt _).mono ?_
   rintro e w1 ⟨rfl,hb⟩
   have H1:=hid (HR.out.next hb)
   have hf:=H1.out.at k hlt
   have hok:=Inf.ok (T7 k)
   have HS:=hid (A8M k)
   clear hb
   generalize hx:T7 k=x at *
   clear hx
   go_wp2
   go_roundw
   case rel=>exact ⟨k+1,by omega,by go_num,hid (by have:=H1.out.set k hlt x;rw [HS.out] at this;exact this)⟩
   case measure=>simp [intOf];omega
  ·have hk256:k=256:=by omega
   rw [hk256] at HR
   have hge:256≤k:=by omega
   clear hk256
   go_wp2_with fail
   refine (B2m _).mono ?_
   rintro e w1 ⟨rfl,hw1⟩
   have hb:=(Below.refl wr.heap.size wr).alloc (Nat.le_refl _) (.cells (L6 A0f).toArray 142)
   have ht:=A9A.new wr
   rw [hw1] at hb ht
   have A1:=hid (HR.out.next hb)
   have T1:=hid ht
   have hne:wr.heap.size≠w.heap.size+1:=by have:=HR.out.size;omega
   clear hb ht hw1
   generalize wr.heap.size=Bt at *
   go_wp2
   go_loopw [4] (fun i wr => ∃ k:Nat,k≤69∧i = .int .i64 (k:Int)∧Hid (A2W (A2t k) w wr)∧Hid (A9A Bt wr)) (fun i _=>69 - (intOf i).toNat)
   case atStart=>exact ⟨0,by omega,rfl,A1,T1⟩
   case round =>
    obtain ⟨k,hk,rfl,HR,HT⟩:=hrel
    by_cases hlt:k < 69
    ·obtain ⟨x,hx,x0,x1⟩:=B3z ⟨k,hlt⟩
     simp only at hx
     obtain ⟨o,ho⟩:=Int.eq_ofNat_of_zero_le x0
     have hrow:=HT.out k x hx
     have hcell:=B2O hrow
     rw [ho] at hcell x1
     have ho256:o < 256:=by omega
     have hf:=HR.out.at o ho256
     have hok:=Inf.ok x
     have HS:Hid ((A2t k).set o x=A2t (k+1)):=hid (by
      have:=B2I k x hx
      rw [ho,Int.toNat_natCast] at this;exact this)
     clear hx ho x0
     go_wp2
     go_region_held3 (fun w'=>w'.cell? ⟨Bt,k*5,none⟩=some (.int .u8 (o:Int))∧w'.row? Bt (k*5) 5=some (Inf.c x)) (first | exact ⟨hcell,hrow⟩ | exact ⟨(World.cell?_setCells_block _ _ _ _ hne).trans hcell,(World.row?_setCells_other _ _ _ hne).trans hrow⟩) ((fail))
     go_wp2
     go_roundw
     case rel=>exact ⟨k+1,by omega,by go_num,hid (by have:=HR.out.drew.set o ho256 x;rw [HS.out] at this;exact this),hid (A9A.set (wr:=wr.drew) HT.out hne)⟩
     case measure=>simp [intOf];omega
    ·have hk69:k=69:=by omega
     have hge2:69≤k:=by omega
     rw [hk69] at HR
     clear hk69
     have hr1:=HR.out.row
     have hr2:=HR.out.res
     have hok:Q3 1280 (L6 (A2t 69))=true:=by
      have:=A89 (A2t 69)
      rw [B2J] at this
      exact this
     have hbl:=HR.out.below
     have HBL:=hid hbl
     clear hbl
     go_wp2
     exact I2 B3w rfl _ rfl rfl hr2 hok ⟨rfl,HBL.out.setCells (Nat.le_refl _) _ _⟩
end Go.Proofs.YtfflppedbopdpaaGreat
namespace Go.Proofs.YtfflppedbopdpaaGreat
open Go.RowKit Go.Mun
theorem B0f:A1n L8 = [20,1,32,1,1]:=by kernel_rfl
theorem A9t (a b:Nat) (p:Option Addr) (k c:Nat):F8 55 (N8 L8) (B8 L8) [(0,.agg (A3 20 a).toArray),(2,.agg (A3 32 b).toArray),(3,.slice p k c)]=some (B8 (Q8 ⟨a,0,b,[]⟩ (.slice p k c) (.slice none 0 0))):=by
 rw [F7 _ _ _ W4]
 ·rfl
 ·rw [B0f]
  refine C0 ?_ (C0 ?_ (C0 rfl (L0 _)))
  ·show some 20=some (A3 20 a).length;rw [C4]
  ·show some 32=some (A3 32 b).length;rw [C4]
theorem A9s (a b:Nat):F8 55 (N8 L8) (B8 L8) [(0,.agg (A3 20 a).toArray),(2,.agg (A3 32 b).toArray)]=some (B8 (Q8 ⟨a,0,b,[]⟩ (.slice none 0 0) (.slice none 0 0))):=by
 rw [F7 _ _ _ W4]
 ·rfl
 ·rw [B0f]
  refine C0 ?_ (C0 ?_ (L0 _))
  ·show some 20=some (A3 20 a).length;rw [C4]
  ·show some 32=some (A3 32 b).length;rw [C4]
theorem B7y:A1l Tryz.prog 45 35 55 2 (B8 [B8 L8,B8 L8]):=⟨Tryz.underlying45,⟨_,.agg (B8 L8).toArray,rfl,by kernel_rfl,by kernel_rfl,by kernel_rfl⟩,by decide,by kernel_rfl,by decide⟩
def B0t (p:List (Nat × Value)):Option (List Value):=F8 (2*55) ((List.range 2).map fun i=>(i*55,55)) (B8 [B8 L8,B8 L8]) p
theorem B8o (ρ:Operand→Value) (dst:Option Tmp) (x y:Operand) (t:TypeId) (pos:String) (after:Array Edge) (gd:Option (Nat × Bool)) (w:World) :
  (execOp ρ ⟨dst,.buildSlice 45 2 #[(0,x),(1,y)],t,pos,after,gd⟩).run Tryz.prog w=E7 (A4w Tryz.prog 45 35 2 [(0,ρ x),(1,ρ y)] w (B0t [(0,ρ x),(1,ρ y)])):=
 A05 ρ dst t pos after gd w B7y [(0,x),(1,y)]
theorem B0s (a b:List Value) (ha:a.length=55) (hb:b.length=55):B0t [(0,.agg a.toArray),(1,.agg b.toArray)]=some (B8 [a,b]):=by
 unfold B0t
 have h1:A1n [B8 L8,B8 L8] = [55,55]:=by kernel_rfl
 have h3:N8 [B8 L8,B8 L8]=(List.range 2).map fun i=>(i*55,55):=by kernel_rfl
 rw [← h3,F7 _ _ _ (by kernel_rfl)]
 ·rfl
 ·rw [h1]
  refine C0 ?_ (C0 ?_ (L0 _))
  ·show some 55=some a.length;rw [ha]
  ·show some 55=some b.length;rw [hb]
attribute [go_sem ↓] B8o
def B4c (code:J1):List Ac:=[⟨1,0,1000,code⟩,⟨2,0,5000,[]⟩]
theorem B6l {w:World} {cv:Value} {code:J1} (hc:J3 w (fun _=>False) cv code) :
  Calls Tryz.prog 25 #[cv] w fun e w' => ∃ b,e = .returned (.slice (some ⟨b,0,none⟩) 2 2)∧Below w.heap.size w w'∧∀ i (hi:i < (B4c code).length),A6t w' b (0+i*55) (B4c code)[i]:=by
 obtain ⟨⟨ca,cc,rfl,hci,hcx⟩,hcb,hcl⟩:=hc
 have HC:Hid (J3 w (fun _=>False) (.slice ca code.length cc) code):=⟨⟨ca,cc,rfl,hci,hcx⟩,hcb,hcl⟩
 have o1:ofW 1000=1000:=by kernel_rfl
 have o2:ofW 5000=5000:=by kernel_rfl
 have N1:=hid (fun w=>Y5 1 (by decide) w)
 have N2:=hid (fun w=>Y5 2 (by decide) w)
 have O1:=hid (fun w=>A3Y 1000 (by decide) (by decide) w)
 have O2:=hid (fun w=>A3Y 5000 (by decide) (by decide) w)
 rw [o1] at O1
 rw [o2] at O2
 have b1:=A9t 1 1000 ca code.length cc
 have b2:=A9s 2 5000
 have bf:=B0s (B8 (Q8 ⟨1,0,1000,[]⟩ (.slice ca code.length cc) (.slice none 0 0))) (B8 (Q8 ⟨2,0,5000,[]⟩ (.slice none 0 0) (.slice none 0 0))) (K0 _ _ _) (K0 _ _ _)
 clear hci hcx hcb hcl o1 o2
 go_enter Tryz.func25,Tryz.ntmps25
 go_wp2_with fail
 refine (N1.out _).mono ?_
 rintro e w1 ⟨rfl,h1⟩
 go_wp2_with fail
 refine (O1.out _).mono ?_
 rintro e w2 ⟨rfl,h2⟩
 go_wp2_with fail
 refine (N2.out _).mono ?_
 rintro e w3 ⟨rfl,h3⟩
 go_wp2_with fail
 refine (O2.out _).mono ?_
 rintro e w4 ⟨rfl,h4⟩
 have hb:Below w.heap.size w w4:=((h1.trans (h2.mono h1.size)).trans (h3.mono (by have:=h1.size;have:=h2.size;omega))).trans (h4.mono (by have:=h1.size;have:=h2.size;have:=h3.size;omega))
 have HB:=hid hb
 clear h1 h2 h3 h4 hb
 go_wp2
 go_ret
 refine ⟨_,rfl,HB.out.alloc HB.out.size _,fun i hi=>?_⟩
 have r:=World.row?_alloc_at (w:=w4) (B8 [B8 (Q8 ⟨1,0,1000,[]⟩ (.slice ca code.length cc) (.slice none 0 0)),B8 (Q8 ⟨2,0,5000,[]⟩ (.slice none 0 0) (.slice none 0 0))]) 35 (0,0) rfl (n:=110) (by rw [G7,G7,K0,K0];rfl)
 have hb2:=HB.out.alloc HB.out.size (.cells (B8 [B8 (Q8 ⟨1,0,1000,[]⟩ (.slice ca code.length cc) (.slice none 0 0)),B8 (Q8 ⟨2,0,5000,[]⟩ (.slice none 0 0) (.slice none 0 0))]).toArray 35)
 match i,hi with
 | 0,_=>exact ⟨⟨_,I5 r (i:=0) rfl (by simp [A4]) (by simp),HC.out.below hb2⟩,by show 1 < wA;decide,by show 1000 < wW;decide,by show (0:Int)≤_;decide⟩
 | 1,_=>exact ⟨⟨_,I5 r (i:=1) rfl (by simp [A8,A4]) (by simp),V1 _ _⟩,by show 2 < wA;decide,by show 5000 < wW;decide,by show (0:Int)≤_;decide⟩
 | i+2,hi=>exact absurd hi (by simp [B4c])
end Go.Proofs.YtfflppedbopdpaaGreat
namespace Go.Proofs.YtfflppedbopdpaaGreat
open Go.RowKit Go.Mun
def A3K:J1:=[96,5,96,0,85]
def A4F:Msg:=⟨0,2,1,0,0,0,[],30000,0,false⟩
def stA:St:=A1m (B4c A3K)
def A9O:St:=(stA.setBal 2 5000).setBal 1 1000
theorem B9o:stA.move A4F.frm A4F.to A4F.value=some A9O:=by kernel_rfl
theorem B4q:A1n A2R = [1,20,20,20,32,32,1,1,1,1]:=by kernel_rfl
theorem B4U:F8 129 (N8 A2R) (B8 A2R) [(1,.agg (A3 20 2).toArray),(2,.agg (A3 20 1).toArray),(7,.int .i64 30000)]=some (B8 (I0 A4F (.slice none 0 0))):=by
 rw [F7 _ _ _ A3e]
 ·rfl
 ·rw [B4q]
  refine C0 ?_ (C0 ?_ (C0 rfl (L0 _)))
  ·show some 20=some (A3 20 2).length;rw [C4]
  ·show some 20=some (A3 20 1).length;rw [C4]
theorem A7V (e:Int) (w:World):Calls Tryz.prog 17 #[.int .i64 e] w fun r w'=>r = .returned (.int .i64 e)∧w'=w:=by
 go_enter Tryz.func17,Tryz.ntmps17
 go_wp2
 go_ret
 exact ⟨rfl,rfl⟩
end Go.Proofs.YtfflppedbopdpaaGreat
namespace Go.Proofs.YtfflppedbopdpaaGreat
open Go.RowKit Go.Mun
structure U3 where
 (w0:World) (own0:Go.Mun.Own) (sb fb:Nat) (m0:Msg) (dv:Value) (cx:Ctx) (M0:List (Nat × St)) (N:Nat)
structure RFV where
 (code data sv mv told out lv jv:Value) (tl:List Value)
def rfS (E:U3) (c:RFV) (f:Fr):List (List Value):=
 [[.pointer (some ⟨E.sb,0,none⟩)],B8 (I0 E.m0 E.dv),B8 (A1o E.cx),A3 20 f.m.to,[c.code],[c.data],A3 32 f.m.value,[.bool f.m.static],[.int .i64 f.gas],[.int .i64 f.next],[c.sv],[c.mv],[c.told],[c.out],[c.lv],[.bool f.ended],c.tl]
theorem B5I (E:U3) (c:RFV) (f:Fr) (h:c.tl.length=1280):(B8 (rfS E c f)).length=1516:=by simp only [rfS,G7,N9];simp [h]
def rmu (own:Go.Mun.Own) (fb:Nat) (c:RFV) (b:Nat):Prop:=hot own b∨b=fb∨c.sv.ownBlock=some b∨c.mv.ownBlock=some b∨c.lv.ownBlock=some b
def rmn (E:U3) (own:Go.Mun.Own) (c:RFV) (b:Nat):Prop:=rmu own E.fb c b∨b < E.w0.heap.size
structure C9 (E:U3) (w:World) (own:Go.Mun.Own) (c:RFV) (f:Fr) (S:St) (M:List (Nat × St)) (n:Nat):Prop where
 row:w.row? E.fb 0 1516=some (B8 (rfS E c f))
 free:w.free? E.fb 0 1516=true
 tlen:c.tl.length=1280
 base:E.w0.heap.size≤E.fb
 fown:own E.fb=none
 chg:K8 E.w0 w E.own0 own
 mok:A1X f.m
 stk:w.ownsRow E.w0.heap.size 25 32 c.sv f.stack.length (D3 f.stack)
 sown:∀ g,c.sv.ownBlock=some g→own g=none∧g≠E.fb
 sval:∀ x∈f.stack,x < wW
 slen:f.stack.length≤1024
 mem:w.ownsRow E.w0.heap.size 5 1 c.mv f.mem.length (f.mem.map (Value.int .u8))
 mown:∀ g,c.mv.ownBlock=some g→own g=none∧g≠E.fb∧c.sv.ownBlock≠some g
 mbyte:Byt f.mem
 mlen:f.mem.length≤1048576∧f.mem.length % 32=0
 logs:∃ cs,w.ownsRow E.w0.heap.size 58 22 c.lv f.logs.length cs∧U5 w (rmn E own c) cs f.logs
 lown:∀ g,c.lv.ownBlock=some g→own g=none∧g≠E.fb∧c.sv.ownBlock≠some g∧c.mv.ownBlock≠some g
 code:J3 w (rmu own E.fb c) c.code f.code
 data:J3 w (rmu own E.fb c) c.data f.m.data
 out:J3 w (rmn E own c) c.out f.out
 told:J3 w (rmu own E.fb c) c.told f.ret
 jmp:c.jv≠.nilFunc→∃ ja jc,c.jv = .slice ja (jumps f.code f.code.length 0).length jc∧G9 w .i64 ja jc (jumps f.code f.code.length 0)∧(jumps f.code f.code.length 0≠[]→∀ p,ja=some p→¬ rmu own E.fb c p.block)
 st:RState w own E.sb S M n
 ms:∃ T,M=E.M0++T
 cnt:n+f.gas≤E.N
 lim:E.N≤999000
 nxt:f.next≤2199023255552
section
variable {w:World} {E:U3} {c:RFV} {f:Fr}
theorem B7I (h:w.row? E.fb 0 1516=some (B8 (rfS E c f))):w.cell? ⟨E.fb,0,none⟩=some (.pointer (some ⟨E.sb,0,none⟩)):=C8 h (i:=0) rfl (by simp [rfS,A8,A4])
theorem B5H (h:w.row? E.fb 0 1516=some (B8 (rfS E c f))):w.row? E.fb 173 20=some (A3 20 f.m.to):=I5 h (i:=3) rfl (by simp [rfS,A8,A4]) (by simp)
theorem A7y (h:w.row? E.fb 0 1516=some (B8 (rfS E c f))):w.cell? ⟨E.fb,193,none⟩=some (c.code):=C8 h (i:=4) rfl (by simp [rfS,A8,A4])
theorem B2g (h:w.row? E.fb 0 1516=some (B8 (rfS E c f))):w.cell? ⟨E.fb,227,none⟩=some (.bool f.m.static):=C8 h (i:=7) rfl (by simp [rfS,A8,A4])
theorem A92 (h:w.row? E.fb 0 1516=some (B8 (rfS E c f))):w.cell? ⟨E.fb,228,none⟩=some (.int .i64 f.gas):=C8 h (i:=8) rfl (by simp [rfS,A8,A4])
theorem A8J (h:w.row? E.fb 0 1516=some (B8 (rfS E c f))):w.cell? ⟨E.fb,229,none⟩=some (.int .i64 f.next):=C8 h (i:=9) rfl (by simp [rfS,A8,A4])
theorem A8I (h:w.row? E.fb 0 1516=some (B8 (rfS E c f))):w.cell? ⟨E.fb,230,none⟩=some (c.sv):=C8 h (i:=10) rfl (by simp [rfS,A8,A4])
theorem B09 (h:w.row? E.fb 0 1516=some (B8 (rfS E c f))):w.cell? ⟨E.fb,231,none⟩=some (c.mv):=C8 h (i:=11) rfl (by simp [rfS,A8,A4])
theorem B3U (h:w.row? E.fb 0 1516=some (B8 (rfS E c f))):w.cell? ⟨E.fb,233,none⟩=some (c.out):=C8 h (i:=13) rfl (by simp [rfS,A8,A4])
theorem B6U (h:w.row? E.fb 0 1516=some (B8 (rfS E c f))):w.cell? ⟨E.fb,234,none⟩=some (c.lv):=C8 h (i:=14) rfl (by simp [rfS,A8,A4])
theorem B3V (h:w.row? E.fb 0 1516=some (B8 (rfS E c f))):w.cell? ⟨E.fb,235,none⟩=some (.bool f.ended):=C8 h (i:=15) rfl (by simp [rfS,A8,A4])
theorem C0s (h:w.row? E.fb 0 1516=some (B8 (rfS E c f))) (hl:c.tl.length=1280):w.row? E.fb 236 1280=some c.tl:=I5 h (i:=16) rfl (by simp [rfS,A8,A4]) hl.symm
theorem A91 (x:Value) (h:w.row? E.fb 0 1516=some (B8 (rfS E c f))):(w.setCell ⟨E.fb,193,none⟩ (x)).row? E.fb 0 1516=some (B8 (rfS E ({ c with code:=x }) (f))):=E8 h (i:=4) rfl _ (by simp [rfS,A8,A4])
theorem B2e (x:Nat) (h:w.row? E.fb 0 1516=some (B8 (rfS E c f))):(w.setCell ⟨E.fb,228,none⟩ (.int .i64 (x:Int))).row? E.fb 0 1516=some (B8 (rfS E (c) ({ f with gas:=x }))):=E8 h (i:=8) rfl _ (by simp [rfS,A8,A4])
theorem B3R (x:Nat) (h:w.row? E.fb 0 1516=some (B8 (rfS E c f))):(w.setCell ⟨E.fb,229,none⟩ (.int .i64 (x:Int))).row? E.fb 0 1516=some (B8 (rfS E (c) ({ f with next:=x }))):=E8 h (i:=9) rfl _ (by simp [rfS,A8,A4])
theorem B3Q (x:Value) (h:w.row? E.fb 0 1516=some (B8 (rfS E c f))):(w.setCell ⟨E.fb,230,none⟩ (x)).row? E.fb 0 1516=some (B8 (rfS E ({ c with sv:=x }) (f))):=E8 h (i:=10) rfl _ (by simp [rfS,A8,A4])
theorem B3S (x:Value) (h:w.row? E.fb 0 1516=some (B8 (rfS E c f))):(w.setCell ⟨E.fb,231,none⟩ (x)).row? E.fb 0 1516=some (B8 (rfS E ({ c with mv:=x }) (f))):=E8 h (i:=11) rfl _ (by simp [rfS,A8,A4])
theorem A8H (x:Bool) (h:w.row? E.fb 0 1516=some (B8 (rfS E c f))):(w.setCell ⟨E.fb,235,none⟩ (.bool x)).row? E.fb 0 1516=some (B8 (rfS E (c) ({ f with ended:=x }))):=E8 h (i:=15) rfl _ (by simp [rfS,A8,A4])
theorem B5G (L:List Value) (hL:L.length=c.tl.length) (h:w.row? E.fb 0 1516=some (B8 (rfS E c f))):(w.setCells E.fb 236 L).row? E.fb 0 1516=some (B8 (rfS E ({ c with tl:=L }) f)):=A1x h (i:=16) rfl hL (by simp [rfS,A8,A4])
end
section
variable {E:U3} {w w':World} {own:Go.Mun.Own} {c:RFV} {f:Fr} {S:St} {M:List (Nat × St)} {n:Nat}
theorem A1N {R:Nat→Prop} {own':Go.Mun.Own} {c':RFV} {l:List Int} {jv:Value} {fb:Nat} (h:jv≠.nilFunc→∃ ja jc,jv = .slice ja l.length jc∧G9 w .i64 ja jc l∧(l≠[]→∀ p,ja=some p→¬ rmu own fb c p.block)) (ho:A0 R w w') (hR:∀ b,R b→rmu own fb c b) (hX:∀ b,b < w.heap.size→rmu own' fb c' b→rmu own fb c b) :
  jv≠.nilFunc→∃ ja jc,jv = .slice ja l.length jc∧G9 w' .i64 ja jc l∧(l≠[]→∀ p,ja=some p→¬ rmu own' fb c' p.block):=by
 intro hj
 obtain ⟨ja,jc,hj1,hj2,hj3⟩:=h hj
 refine ⟨ja,jc,hj1,⟨fun hn=>?_,hj2.nil,hj2.len,hj2.cap⟩,fun hn p hp hx=>?_⟩
 ·obtain ⟨b,off,ha,hlt,hcl⟩:=hj2.at (i:=0) (List.length_pos_iff.2 hn)
  exact ⟨b,off,ha,fun i hi=>by rw [ho.cell? hlt (fun hr=>hj3 hn _ ha (hR _ hr))];exact hcl i hi⟩
 ·obtain ⟨b,off,ha,hlt,hcl⟩:=hj2.at (i:=0) (List.length_pos_iff.2 hn)
  rw [ha] at hp;cases hp
  exact hj3 hn _ ha (hX _ hlt hx)
theorem C9.lt (h:C9 E w own c f S M n):E.fb < w.heap.size:=World.row?_lt h.row
theorem C9.one (h:C9 E w own c f S M n) {i:Nat} (hi:i < 1516):w.free? E.fb i 1=true:=World.free?_sub h.free (by omega)
theorem C9.below (h:C9 E w own c f S M n) (hb:Below w.heap.size w w'):C9 E w' own c f S M n:=by
 have ho:A0 (fun _=>False) w w':=A0.of_below_size hb
 exact { h with
  row:=by rw [ho.row? h.lt (fun h=>h)];exact h.row
  free:=by rw [ho.free? h.lt (fun h=>h)];exact h.free
  chg:=h.chg.trans (K8.below own hb)
  stk:=A0.own h.stk ho (fun _ _ h=>h)
  mem:=A0.own h.mem ho (fun _ _ h=>h)
  code:=h.code.below hb
  data:=h.data.below hb
  out:=h.out.below hb
  told:=h.told.below hb
  logs:=(fun ⟨cs,a,b⟩=>⟨cs,A0.own a ho (fun _ _ h=>h),b.only ho (fun _ h=>h.elim) (fun _ _ h=>h)⟩) h.logs
  jmp:=A1N h.jmp ho (fun _ h=>h.elim) (fun _ _ h=>h)
  st:=h.st.below hb }
theorem C9.cells {c':RFV} {f':Fr} (h:C9 E w own c f S M n) (ho:A0 (fun b=>b=E.fb) w w') (hr:w'.row? E.fb 0 1516=some (B8 (rfS E c' f'))) (hfr:w'.free? E.fb 0 1516=true) (hcs:c'.sv=c.sv∧c'.mv=c.mv∧c'.code=c.code∧c'.data=c.data∧c'.lv=c.lv∧c'.told=c.told∧c'.jv=c.jv) (htl:c'.tl.length=1280)
  (h1:f'.m=f.m) (h2:f'.code=f.code) (h3:f'.stack=f.stack) (h4:f'.mem=f.mem) (h5:f'.ret=f.ret) (h7:f'.logs=f.logs) (hg:f'.gas≤f.gas) (hx:f'.next≤2199023255552) (hout:J3 w' (rmn E own c') c'.out f'.out):C9 E w' own c' f' S M n:=by
 obtain ⟨e1,e2,e3,e4,e5,e6,e7⟩:=hcs
 have hrm:rmu own E.fb c'=rmu own E.fb c:=by unfold rmu;rw [e1,e2,e5]
 have hrn:rmn E own c'=rmn E own c:=by funext b;unfold rmn;rw [hrm]
 have hF:∀ b,b=E.fb→rmu own E.fb c b:=fun _ h => .inr (.inl h)
 have hI:∀ b,b < w.heap.size→rmu own E.fb c b→rmu own E.fb c b:=fun _ _ h=>h
 have hO:A0 (hot E.own0) E.w0 w':=h.chg.only.trans ho (fun i hi he=>by have:i=E.fb:=hi;have:=h.base;omega)
 refine { row := hr, free := hfr, tlen := htl, base := h.base, fown := h.fown, chg := ⟨h.chg.ext, hO⟩, mok := by rw [h1]; exact h.mok, stk := ?_, sown := by rw [e1]; exact h.sown, sval := by rw [h3]; exact h.sval, slen := by rw [h3]; exact h.slen, mem := ?_, mown := by rw [e1, e2]; exact h.mown,
          mbyte:=by rw [h4];exact h.mbyte,mlen:=by rw [h4];exact h.mlen,logs:=?_,lown:=by rw [e1,e2,e5];exact h.lown,code:=?_,data:=?_,out:=hout,told:=?_,jmp:=?_,st:=h.st.only ho (fun b hb=>by have e:b=E.fb:=hb;rw [e];exact h.fown),ms:=h.ms,cnt:=by have:=h.cnt;omega,lim:=h.lim,nxt:=hx }
 ·rw [e1,h3];exact A0.own h.stk ho (fun g hg=>(h.sown g hg).2)
 ·rw [e2,h4];exact A0.own h.mem ho (fun g hg=>(h.mown g hg).2.1)
 ·rw [hrn,h7,e5];exact (fun ⟨cs,a,b⟩=>⟨cs,A0.own a ho (fun g hg=>(h.lown g hg).2.1),b.only ho (fun b hb => .inl (hF b hb)) (fun _ _ h=>h)⟩) h.logs
 ·rw [hrm,e3,h2];exact h.code.only ho hF hI
 ·rw [hrm,e4,h1];exact h.data.only ho hF hI
 ·rw [hrm,e6,h5];exact h.told.only ho hF hI
 ·rw [e7,h2];exact A1N h.jmp ho hF (fun b _ hx=>by rw [← hrm];exact hx)
theorem C9.outKept (h:C9 E w own c f S M n) (ho:A0 (fun b=>b=E.fb) w w'):J3 w' (rmn E own c) c.out f.out:=h.out.only ho (fun _ h => .inl (.inr (.inl h))) (fun _ _ h=>h)
theorem C9.gas (h:C9 E w own c f S M n) (x:Nat) (hx:x≤f.gas):C9 E (w.setCell ⟨E.fb,228,none⟩ (.int .i64 x)) own c { f with gas:=x } S M n:=
 h.cells (C6 _ _ _ _) (B2e x h.row) (by rw [D1 _ (h.one (by omega))];exact h.free) ⟨rfl,rfl,rfl,rfl,rfl,rfl,rfl⟩ h.tlen rfl rfl rfl rfl rfl rfl hx h.nxt (h.outKept (C6 _ _ _ _))
theorem C9.pc (h:C9 E w own c f S M n) (x:Nat) (hx:x≤2199023255552):C9 E (w.setCell ⟨E.fb,229,none⟩ (.int .i64 x)) own c { f with next:=x } S M n:=
 h.cells (C6 _ _ _ _) (B3R x h.row) (by rw [D1 _ (h.one (by omega))];exact h.free) ⟨rfl,rfl,rfl,rfl,rfl,rfl,rfl⟩ h.tlen rfl rfl rfl rfl rfl rfl (Nat.le_refl _) hx (h.outKept (C6 _ _ _ _))
theorem C9.ended (h:C9 E w own c f S M n) (x:Bool):C9 E (w.setCell ⟨E.fb,235,none⟩ (.bool x)) own c { f with ended:=x } S M n:=
 h.cells (C6 _ _ _ _) (A8H x h.row) (by rw [D1 _ (h.one (by omega))];exact h.free) ⟨rfl,rfl,rfl,rfl,rfl,rfl,rfl⟩ h.tlen rfl rfl rfl rfl rfl rfl (Nat.le_refl _) h.nxt (h.outKept (C6 _ _ _ _))
theorem C9.table (h:C9 E w own c f S M n) (L:List Value) (hL:L.length=1280):C9 E (w.setCells E.fb 236 L) own { c with tl:=L } f S M n:=by
 have ho:A0 (fun b=>b=E.fb) w (w.setCells E.fb 236 L):=A0.setCells (S:=fun b=>b=E.fb) (A0.refl _ _) (fun _=>rfl) _ _
 exact h.cells ho (B5G L (hL.trans h.tlen.symm) h.row) (by rw [World.free?_setCells'];exact h.free) ⟨rfl,rfl,rfl,rfl,rfl,rfl,rfl⟩ hL rfl rfl rfl rfl rfl rfl (Nat.le_refl _) h.nxt (h.outKept ho)
theorem C9.stack {w1:World} {sv':Value} {st':List Nat} (h:C9 E w own c f S M n) (ho:A0 (fun g=>c.sv.ownBlock=some g) w w1) (hr:w1.ownsRow 0 25 32 sv' st'.length (D3 st'))
  (hl:∀ g,sv'.ownBlock=some g→c.sv.ownBlock=some g∨w.heap.size≤g) (hv:∀ x∈st',x < wW) (hn:st'.length≤1024) :
  C9 E (w1.setCell ⟨E.fb,230,none⟩ sv') own { c with sv:=sv' } { f with stack:=st' } S M n:=by
 have hfl:=h.lt
 have hsf:¬ c.sv.ownBlock=some E.fb:=fun e=>(h.sown _ e).2 rfl
 have hrow1:w1.row? E.fb 0 1516=some (B8 (rfS E c f)):=by rw [ho.row? hfl hsf];exact h.row
 have hfree1:w1.free? E.fb 0 1516=true:=by rw [ho.free? hfl hsf];exact h.free
 have ho2:A0 (fun b=>b=E.fb∨c.sv.ownBlock=some b) w (w1.setCell ⟨E.fb,230,none⟩ sv'):=
  (ho.mono fun b hb => .inr hb).trans (C6 w1 E.fb 230 sv') (fun i hi _ => .inl hi)
 have hR:∀ b,(b=E.fb∨c.sv.ownBlock=some b)→rmu own E.fb c b:=fun b hb=>hb.elim (fun e => .inr (.inl e)) (fun e => .inr (.inr (.inl e)))
 have hmu:∀ b,b < w.heap.size→rmu own E.fb { c with sv:=sv' } b→rmu own E.fb c b:=by
  rintro b hb (h1 | h1 | h1 | h1)
  ·exact .inl h1
  ·exact .inr (.inl h1)
  ·rcases hl b h1 with h2 | h2
   ·exact .inr (.inr (.inl h2))
   ·omega
  ·exact .inr (.inr (.inr h1))
 have hown:∀ g,sv'.ownBlock=some g→own g=none∧g≠E.fb:=fun g hg=>by
  rcases hl g hg with h1 | h1
  ·exact h.sown g h1
  ·exact ⟨D4 h.st.lows h1,by omega⟩
 have hbase:∀ g,sv'.ownBlock=some g→E.w0.heap.size≤g:=fun g hg=>by
  rcases hl g hg with h1 | h1
  ·exact E4 h.stk g h1
  ·have:=h.chg.only.size;omega
 have hnone:∀ b,(b=E.fb∨c.sv.ownBlock=some b)→own b=none:=fun b hb=>hb.elim (fun e=>by rw [e];exact h.fown) (fun e=>(h.sown b e).1)
 have hge:∀ b,(b=E.fb∨c.sv.ownBlock=some b)→E.w0.heap.size≤b:=fun b hb=>hb.elim (fun e=>by rw [e];exact h.base) (fun e=>E4 h.stk b e)
 have hlog:∀ g,c.lv.ownBlock=some g→¬ (g=E.fb∨c.sv.ownBlock=some g):=fun g hg he=>by
  rcases he with he | he
  ·exact (h.lown g hg).2.1 he
  ·exact (h.lown g hg).2.2.1 he
 obtain ⟨lcs,hlo1,hlo2⟩:=h.logs
 have hmem:∀ g,c.mv.ownBlock=some g→¬ (g=E.fb∨c.sv.ownBlock=some g):=fun g hg he=>by
  rcases he with he | he
  ·exact (h.mown g hg).2.1 he
  ·exact (h.mown g hg).2.2 he
 exact { row := B3Q sv' hrow1, free := by rw [D1 _ (World.free?_sub hfree1 (by omega))]; exact hfree1, tlen := h.tlen, base := h.base, fown := h.fown, chg := ⟨h.chg.ext, h.chg.only.trans ho2 (fun i hi he => by have := hge i hi; omega)⟩, mok := h.mok,
         stk:=A0.own (M7 hr hbase) (C6 w1 E.fb 230 sv') (fun g hg=>(hown g hg).2),sown:=hown,sval:=hv,slen:=hn,mem:=A0.own h.mem ho2 hmem,
         mown:=fun g hg=>⟨(h.mown g hg).1,(h.mown g hg).2.1,fun e=>by
          rcases hl g e with h1 | h1
          ·exact (h.mown g hg).2.2 h1
          ·have:=B0 h.mem g hg;omega⟩
         mbyte:=h.mbyte,mlen:=h.mlen,logs:=⟨lcs,A0.own hlo1 ho2 hlog,hlo2.only ho2 (fun b hb => .inl (hR b hb)) (fun b hb h=>h.imp (hmu b hb) id)⟩,
         lown:=fun g hg=>⟨(h.lown g hg).1,(h.lown g hg).2.1,fun e=>by
          rcases hl g e with h1 | h1
          ·exact (h.lown g hg).2.2.1 h1
          ·have:=B0 hlo1 g hg;omega,(h.lown g hg).2.2.2⟩,
         code:=h.code.only ho2 hR hmu,data:=h.data.only ho2 hR hmu,out:=h.out.only ho2 (fun b hb => .inl (hR b hb)) (fun b hb h=>h.imp (hmu b hb) id),told:=h.told.only ho2 hR hmu,jmp:=A1N h.jmp ho2 hR hmu,st:=h.st.only ho2 hnone,ms:=h.ms,cnt:=h.cnt,lim:=h.lim,nxt:=h.nxt }
end
theorem C9.jumps {E:U3} {w w':World} {own:Go.Mun.Own} {c:RFV} {f:Fr} {S:St} {M:List (Nat × St)} {n:Nat} {v:Value} (h:C9 E w own c f S M n) (hb:Below w.heap.size w w') (hv:w'.ownsRow w.heap.size 3 1 v (jumps f.code f.code.length 0).length ((jumps f.code f.code.length 0).map (Value.int .i64))):C9 E w' own { c with jv:=v } f S M n:=by
 have h1:=h.below hb
 obtain ⟨ja,jc,e,_,hI⟩:=G9.of_own' hv
 have hrm:∀ b,rmu own E.fb { c with jv:=v } b→rmu own E.fb c b:=fun b hb=>hb
 refine { h1 with jmp:=fun _=>⟨ja,jc,e,hI,fun hn p hp hx=>?_⟩ }
 have h2:=E4 hv p.block (by rw [e,hp];rfl)
 rcases hx with hx | hx | hx | hx | hx
 ·have:=h.st.lows _ hx.1;omega
 ·have:=h.lt;omega
 ·have:=B0 h.stk _ hx;omega
 ·have:=B0 h.mem _ hx;omega
 ·obtain ⟨_,hlo,_⟩:=h.logs
  have:=B0 hlo _ hx;omega
end Go.Proofs.YtfflppedbopdpaaGreat
namespace Go.Proofs.YtfflppedbopdpaaGreat
open Go.RowKit Go.Mun
theorem A3u (x:Int) (h0:0≤x) (h1:x≤255) (w:World) :
  Calls Tryz.prog 180 #[.int .u8 x] w fun e w'=>e = .returned (.int .i64 (J6 x))∧w=w':=by
 by_cases h:x < 96
 ·go_enter Tryz.func180,Tryz.ntmps180
  go_wp2
  go_ret
  exact ⟨Mun.ret_int (by unfold J6;rw [if_neg (by omega)]),rfl⟩
 by_cases h':127 < x
 ·go_enter Tryz.func180,Tryz.ntmps180
  go_wp2
  go_ret
  exact ⟨Mun.ret_int (by unfold J6;rw [if_neg (by omega)]),rfl⟩
 ·go_enter Tryz.func180,Tryz.ntmps180
  go_wp2
  go_ret
  exact ⟨Mun.ret_int (by unfold J6;rw [if_pos (by omega)]),rfl⟩
theorem B2n (a:Option Addr) (cap:Nat) (l:List Int) (w:World) (hi:G9 w .u8 a cap l) (hb:∀ i,i < l.length→0≤l[i]?.getD 0∧l[i]?.getD 0≤255) (hlen:l.length≤1099511627776) :
  Calls Tryz.prog 175 #[.slice a l.length cap] w fun e w' => ∃ v,e = .returned v∧w'.ownsRow w.heap.size 3 1 v (jumps l l.length 0).length ((jumps l l.length 0).map (Value.int .i64))∧Below w.heap.size w w':=by
 have HB:=hid hb
 have HI:=hid hi
 clear hb hi
 go_enter Tryz.func175,Tryz.ntmps175
 go_wp2
 go_loopw [3,4] (fun v i wr => ∃ (k n:Nat) (done:List Int),k≤l.length+32∧i = .int .i64 k∧A9D l w.heap.size w wr v k done n) (fun _ i _=>l.length+32 - (intOf i).toNat)
 case atStart=>exact ⟨0,l.length,[],by omega,rfl,⟨rfl,by omega,by omega,by simp,World.ownsRow_nil _ _ _ _,Below.refl _ _⟩⟩
 case round =>
  obtain ⟨k,n,done,hk,rfl,hr⟩:=hrel
  by_cases hlt:k < l.length
  ·obtain ⟨b,off,rfl,hbl,hc⟩:=HI.out.at hlt
   have hck:wr.cell? ⟨b,off+k,none⟩=some (.int .u8 (l[k]?.getD 0)):=(hr.below.cell (p:=⟨b,off+k,none⟩) hbl).trans (hc k hlt)
   clear hc
   have hr0:=(HB.out k hlt).1
   have hr1:=(HB.out k hlt).2
   have hob:=A5m _ hr1
   have hd:=hr.dlen
   have hsz:=hr.below.size
   have HR:=hid hr
   clear hr
   generalize hx:l[k]?.getD 0=x at *
   by_cases h91:x=91
   ·have h91':(x == 91)=true:=by simpa using h91
    have HX:=hid h91
    clear h91
    go_wp2_with (first | (go_at_call 180;refine (A3u _ hr0 hr1 _).mono ?_;rintro e w' ⟨rfl,rfl⟩) | (at_builtin;refine M3 A2O rfl _ _ rfl HR.out.own rfl 1 rfl rfl ?c1 ?c2 ?c3 ?c4 ?_))
    case c1=>simp [Value.oneCell']
    case c2=>unfold maxLen;omega
    case c3=>omega
    case c4=>exact hsz
    intro v' w1 ho hg _
    have hck1:w1.cell? ⟨b,off+k,none⟩=some (.int .u8 x):=hg.cell hck (fun e=>by have:=(HR.out.own.lt b e.symm).1;omega)
    go_wp2_with (go_at_call 180;refine (A3u _ hr0 hr1 _).mono ?_;rintro e w' ⟨rfl,rfl⟩)
    go_roundw
    case rel=>exact ⟨k+1+(J6 x).toNat,n - 1,done++[(k:Int)],by omega,by go_num,by have:=HR.out.step_yes hlt (by rw [hx];exact HX.out) ho hg hsz;rw [hx] at this;exact this⟩
    case measure=>simp [intOf];omega
   ·have h91':(x == 91)=false:=by simpa using h91
    go_wp2_with (go_at_call 180;refine (A3u _ hr0 hr1 _).mono ?_;rintro e w' ⟨rfl,rfl⟩)
    go_roundw
    case rel=>exact ⟨k+1+(J6 x).toNat,n - 1,done,by omega,by go_num,by have:=HR.out.step_no hlt (by rw [hx];exact h91) (by rw [hx];exact hr1);rw [hx] at this;exact this⟩
    case measure=>simp [intOf];omega
  ·go_wp2
   go_ret
   have:=hr.tot
   rw [A6Z _ _ _ (by omega),List.append_nil] at this
   rw [← this]
   exact ⟨_,rfl,hr.own,hr.below⟩
end Go.Proofs.YtfflppedbopdpaaGreat
namespace Go.Proofs.YtfflppedbopdpaaGreat
open Go.RowKit Go.Mun
theorem B5P {w:World} {b o:Nat} {sv:Value} {l:List Nat} (x:Nat) (h:w.cell? ⟨b,o,none⟩=some sv) (hf:w.free? b o 1=true) (hr:w.ownsRow 0 25 32 sv l.length (D3 l))
  (hb:∀ g,sv.ownBlock=some g→¬ g=b) (hl:l.length < 1024) :
  Calls Tryz.prog 260 #[.pointer (some ⟨b,o,none⟩),.agg (A3 32 x).toArray] w fun e w'=>e = .returned (.bool true) ∧
   ∃ w1 sv',A0 (fun g=>sv.ownBlock=some g) w w1∧w'=w1.setCell ⟨b,o,none⟩ sv'∧w1.ownsRow 0 25 32 sv' (l++[x]).length (D3 (l++[x]))∧∀ g,sv'.ownBlock=some g→sv.ownBlock=some g∨w.heap.size≤g:=by
 obtain ⟨a,c,rfl⟩:=Q7 hr
 have hbl:b < w.heap.size:=C1 hf
 have hxl:(A3 32 x).length=32:=by simp
 have HLW:Hid (∀ g,(Value.slice a l.length c).ownBlock=some g→g < w.heap.size):=fun g hg=>B0 hr g hg
 obtain ⟨w0,e0⟩:∃ w0,w0=w.alloc (.cells (A3 32 x).toArray 25):=⟨_,rfl⟩
 have o0:A0 (fun _=>False) w w0:=by rw [e0];exact (A0.refl _ _).alloc _
 have hq:w0.cell? ⟨b,o,none⟩=some (.slice a l.length c):=by rw [o0.cell? hbl (fun h=>h)];exact h
 have hx:w0.row? w.heap.size 0 32=some (A3 32 x):=by rw [e0];exact World.row?_alloc_at _ _ _ rfl (by simp)
 have hr0:w0.ownsRow 0 25 32 (.slice a l.length c) l.length (D3 l):=A0.own hr o0 (fun _ _ h=>h)
 have hf0:w0.free? b o 1=true:=by rw [o0.free? hbl (fun h=>h)];exact hf
 have hsz:b < w0.heap.size∧w.heap.size < w0.heap.size:=⟨Nat.lt_of_lt_of_le hbl o0.size,World.row?_lt hx⟩
 have HR0:=hid hr0
 have HO0:=hid o0
 have HF0:=hid hf0
 have HSZ:=hid hsz
 have HE:=hid e0
 have hq':(w.alloc (.cells (A3 32 x).toArray 25)).cell? ⟨b,o,none⟩=some (.slice a l.length c):=by rw [← e0];exact hq
 clear e0 o0 hr0 hr h hf hf0 hsz
 generalize hn:l.length=n at *
 have HN:=hid hn
 clear hn
 obtain ⟨T,hT⟩:∃ T:World→Prop,T=fun w'=>w'.cell? ⟨b,o,none⟩=some (.slice a n c)∧w'.row? w.heap.size 0 32=some (A3 32 x):=⟨_,rfl⟩
 have HT:=hid hT
 have t0:T w0.drew:=by rw [hT];exact ⟨hq,hx⟩
 clear hT
 have hge:¬ (1024:Int)≤n:=by omega
 have hge2:¬ 1024≤n:=by omega
 go_enter Tryz.func260,Tryz.ntmps260
 go_wp2_with fail
 rw [← HE.out]
 clear hq'
 refine A1t T [10] [0,1,2,3,4,5] [6,7,8,9,10] (by kernel_rfl) (by kernel_rfl) t0 ?_
 refine A6 (.pointer (some ⟨b,o,none⟩)) rfl (by rfl) (fun w' hs=>?_) (fun _ _ _ h=>h) ?_
 ·go_simp
 refine A6 (.pointer (some ⟨b,o,none⟩)) rfl (by rfl) (fun w' hs=>?_) (fun _ _ _ h=>h) ?_
 ·go_simp
 refine A6 (.pointer (some ⟨b,o,none⟩)) rfl (by rfl) (fun w' hs=>?_) (fun _ _ _ h=>h) ?_
 ·go_simp
 refine A6 (.pointer (some ⟨b,o,none⟩)) rfl (by rfl) (fun w' hs=>?_) (fun _ _ _ h=>h) ?_
 ·go_simp
 refine A6 (.slice a n c) rfl (by rfl) (fun w' hs=>?_) (fun _ _ _ h=>h) ?_
 ·rw [HT.out] at hs
  obtain ⟨s1,s2⟩:=hs
  go_simp
 refine A6 (.agg (A3 32 x).toArray) rfl (by rfl) (fun w' hs=>?_) (fun _ _ _ h=>h) ?_
 ·rw [HT.out] at hs
  obtain ⟨s1,s2⟩:=hs
  go_simp
 refine P5 ?_
 simp only [Act.put,D7,D6,D5]
 have t1:T (w0.drew.alloc (.cells (A3 32 x).toArray 25)):=by
  rw [HT.out]
  exact ⟨(World.cell?_alloc_lt _ _ _ HSZ.out.1).trans hq,(World.row?_alloc_lt _ HSZ.out.2).trans hx⟩
 refine C5 rfl (fun K hK=>?_)
 go_simp
 refine hK.out _ _ t1 ?_
 clear hK K
 have hr1:(w0.drew.alloc (.cells (A3 32 x).toArray 25)).ownsRow 0 25 32 (.slice a n c) n (D3 l):=A0.own (S:=fun _=>False) HR0.out ((A0.refl _ _).drew.alloc _) (fun _ _ h=>h)
 refine C5 rfl (fun K hK=>?_)
 refine K9 A71 rfl _ _ rfl hr1 rfl (G8.new w0.drew (m:=1) (size:=32) (cs:=A3 32 x) 25 (0,0) (D2 32 x) 1) rfl (by unfold maxLen;omega) (by omega) ?_
 intro sv' w3 hr3 ho3 hl3
 have o13:A0 (fun g=>(Value.slice a n c).ownBlock=some g) w w3:=(((HO0.out.mono (fun _ h=>h.elim)).drew.alloc _).trans ho3 (fun i hi _=>hi))
 have hbn:¬ (Value.slice a n c).ownBlock=some b:=fun e=>hb b e rfl
 have o03:A0 (fun g=>(Value.slice a n c).ownBlock=some g) w0 w3:=((A0.refl _ _).drew.alloc _).trans ho3 (fun i hi _=>hi)
 have hxn:¬ (Value.slice a n c).ownBlock=some w.heap.size:=fun e=>by have:=HLW.out _ e;omega
 have t3:T w3:=by
  rw [HT.out]
  exact ⟨(o03.cell? HSZ.out.1 hbn).trans hq,(o03.row? HSZ.out.2 hxn).trans hx⟩
 have hv3:sv'.oneCell'=true:=by obtain ⟨_,_,rfl⟩:=Q7 hr3;rfl
 have hf3:w3.free? b o 1=true:=by rw [o03.free? HSZ.out.1 hbn];exact HF0.out
 have HA:Hid (∃ w1 sv'',A0 (fun g=>(Value.slice a n c).ownBlock=some g) w w1∧w3.setCell ⟨b,o,none⟩ sv'=w1.setCell ⟨b,o,none⟩ sv''∧w1.ownsRow 0 25 32 sv'' (l++[x]).length (D3 (l++[x]))∧∀ g,sv''.ownBlock=some g→(Value.slice a n c).ownBlock=some g∨w.heap.size≤g):=by
  refine ⟨w3,sv',o13,rfl,?_,fun g hg=>?_⟩
  ·rw [List.length_append,HN.out,A4e,A8q];exact hr3
  ·rcases hl3 g hg with h | h
   ·exact .inl h
   ·have h1:=HSZ.out.2
    have h':w0.heap.size+1≤g:=by first | exact h | simpa using h
    exact .inr (by omega)
 clear hr3 ho3 hl3 o13 o03
 refine hK.out _ _ t3 ?_
 clear hK K
 refine C5 rfl (fun K hK=>?_)
 go_simp
 refine hK.out _ _ t3 ?_
 clear hK K
 refine C5 rfl (fun K hK=>?_)
 go_simp
 refine hK.out _ _ t3 ?_
 clear hK K
 refine A7k rfl (by decide) (fun K hK=>?_)
 go_simp
 refine hK.out _ _ (V4 ?_)
 clear hK K
 generalize w3.setCell ⟨b,o,none⟩ sv'=w4 at *
 go_wp2
 go_ret
 exact ⟨rfl,HA.out⟩
theorem B7K {E:U3} {w:World} {own:Go.Mun.Own} {c:RFV} {f:Fr} {S:St} {M:List (Nat × St)} {n:Nat} (x:Nat) (hx:x < wW) (hl:f.stack.length < 1024) (h:C9 E w own c f S M n) :
  Calls Tryz.prog 260 #[.pointer (some ⟨E.fb,230,none⟩),.agg (A3 32 x).toArray] w fun e w'=>e = .returned (.bool true)∧∃ c',C9 E w' own c' { f with stack:=f.stack++[x] } S M n∧c'.tl=c.tl∧c'.jv=c.jv:=by
 refine (B5P x (A8I h.row) (h.one (by omega)) (D9 h.stk (Nat.zero_le _)) (fun g hg=>(h.sown g hg).2) hl).mono ?_
 rintro e w' ⟨rfl,w1,sv',ho,rfl,hr,hb⟩
 refine ⟨rfl,_,h.stack ho hr hb (fun y hy=>?_) (by simp;omega),rfl,rfl⟩
 rcases List.mem_append.1 hy with hy | hy
 ·exact h.sval y hy
 ·obtain rfl:=List.mem_singleton.1 hy;exact hx
end Go.Proofs.YtfflppedbopdpaaGreat
namespace Go.Proofs.YtfflppedbopdpaaGreat
open Go.RowKit Go.Mun
theorem A6c (a:Option Addr) (n c k:Nat) (hk:k≤c) (w:World):(Instr.slice 56 (.slice a n c) none (some (.int .i64 (k:Int))) none).run Tryz.prog w = .ok (.slice a k c) w:=by
 have he:Tryz.prog.elem 56=25:=by kernel_rfl
 have hs:(sizeOf 25).run Tryz.prog w = .ok 32 w:=by kernel_rfl
 rw [run_slice_h w 56 a n c (by rw [he];exact Tryz.underlying56) .i64 (k:Int) (by omega) (by omega),he,hs]
 have ha:(if c=0 then a else a.map (·.add (0*32)))=a:=by
  split
  ·rfl
  ·cases a with
   | none=>rfl
   | some a=>simp [Addr.add]
 simp only [Result.andThen,sliced,Int.toNat_natCast,Nat.sub_zero,ha]
theorem B15 (l:List Nat) (i:Nat) (hi:i < l.length):((D3 l).drop (i*32)).take 32=A3 32 l[i]:=by
 rw [A02,List.drop_eq_getElem_cons hi]
 have:D3 (l[i] :: l.drop (i+1))=A3 32 l[i]++D3 (l.drop (i+1)):=by unfold D3;rw [List.flatMap_cons]
 rw [this,List.take_left' (by simp)]
theorem B33 {w:World} {b o:Nat} {sv:Value} {l:List Nat} (k:Nat) (h:w.cell? ⟨b,o,none⟩=some sv) (hf:w.free? b o 1=true) (hr:w.ownsRow 0 25 32 sv l.length (D3 l))
  (hk:k≤l.length) (hl:l.length≤1024) :
  Calls Tryz.prog 263 #[.pointer (some ⟨b,o,none⟩),.int .i64 (k:Int)] w fun e w' => ∃ v sv' w1,e = .returned (.tuple #[v,.bool true])∧w'=w1.setCell ⟨b,o,none⟩ sv'∧Below w.heap.size w w1 ∧
   w1.ownsRow w.heap.size 25 32 v k (D3 (l.reverse.take k))∧w1.ownsRow 0 25 32 sv' (l.take (l.length - k)).length (D3 (l.take (l.length - k)))∧∀ g,sv'.ownBlock=some g→sv.ownBlock=some g:=by
 have hbl:b < w.heap.size:=C1 hf
 obtain ⟨a,c,rfl⟩:=E9 hr
 have hcap:l.length≤c:=by
  rcases hr.2 with ⟨e,h0⟩ | ⟨g,c',cur,e,_,_,h3,_⟩
  ·omega
  ·injection e with e1 e2 e3;omega
 obtain ⟨n,hn⟩:∃ n,n=l.length:=⟨_,rfl⟩
 have HTK:Hid (w.ownsRow 0 25 32 (.slice a (n - k) c) (l.take (n - k)).length (D3 (l.take (n - k)))):=by
  rw [hn]
  have hlen:(l.take (l.length - k)).length=l.length - k:=by rw [List.length_take,Nat.min_eq_left (Nat.sub_le _ _)]
  rcases hr.2 with ⟨e,h0⟩ | ⟨g,c',cur,e,_,_,_,_⟩
  ·have:l = []:=List.eq_nil_of_length_eq_zero h0
   subst this
   injection e with e1 e2 e3
   subst e1 e3
   show World.ownsRow _ _ _ _ _ _ _
   rw [show ([]:List Nat).length - k=0 by simp]
   exact World.ownsRow_nil _ _ _ _
  ·injection e with e1 e2 e3
   subst e1 e3
   have:=own_take hr (Nat.sub_le l.length k)
   rw [A3S] at this
   rw [hlen]
   exact this
 have HAT:Hid (∀ j,j < n→∃ g,a=some ⟨g,0,none⟩∧g < w.heap.size∧w.row? g ((n - 1 - j)*32) 32=some (A3 32 (l.reverse[j]?.getD 0))):=by
  intro j hj
  obtain ⟨g,c',e,_,_,_,hrow,_⟩:=J5 hr (by omega)
  cases e
  refine ⟨g,rfl,World.row?_lt hrow,?_⟩
  have h1:=World.row?_sub hrow (o':=(n - 1 - j)*32) (n':=32) (Nat.zero_le _) (by omega)
  rw [h1,Nat.sub_zero,B15 l (n - 1 - j) (by omega),List.getElem?_reverse (by omega),List.getElem?_eq_getElem (by omega)]
  simp only [Option.getD_some]
  congr 2
  ·congr 1;omega
 have hsl:=A6c a n c (n - k) (by omega)
 have hnk:IntKind.i64.wrap ((n:Int) - (k:Int))=((n - k:Nat):Int):=by rw [U6 _ (by omega) (by omega)];omega
 have hlt:¬ (k:Int) < 0:=by omega
 have hgt:¬ (n:Int) < (k:Int):=by omega
 rw [← hn] at h hcap hk hl ⊢
 have HF:=hid hf
 have HN:=hid hn
 have HH:=hid h
 clear hr hn hf
 go_enter Tryz.func263,Tryz.ntmps263
 go_wp2_with fail
 go_loopw [6,7] (fun u ix wr => ∃ j:Nat,j≤k∧ix = .int .i64 (j:Int)∧Hid (Below w.heap.size w wr∧wr.ownsRow w.heap.size 25 32 u j (D3 (l.reverse.take j)))) (fun _ ix _=>k - (intOf ix).toNat)
 case atStart=>exact ⟨0,by omega,rfl,Below.refl _ _,World.ownsRow_nil _ _ _ _⟩
 case round =>
  obtain ⟨j,hj,rfl,HR⟩:=hrel
  have c1:wr.cell? ⟨b,o,none⟩=some (.slice a n c):=(HR.out.1.cell (p:=⟨b,o,none⟩) hbl).trans HH.out
  have hsz:=HR.out.1.size
  by_cases hjk:j < k
  ·have hI:(j:Int) < k:=by omega
   obtain ⟨g,rfl,hg,hr0⟩:=HAT.out j (by omega)
   obtain ⟨y,hy⟩:∃ y,y=l.reverse[j]?.getD 0:=⟨_,rfl⟩
   rw [← hy] at hr0
   obtain ⟨i1,hi1⟩:∃ i1,i1=n - 1 - j:=⟨_,rfl⟩
   rw [← hi1] at hr0
   have e1:IntKind.i64.wrap ((n:Int) - 1)=(n:Int) - 1:=U6 _ (by omega) (by omega)
   have e2:IntKind.i64.wrap ((n:Int) - 1 - (j:Int))=(i1:Int):=by rw [U6 _ (by omega) (by omega)];omega
   have hi2:i1 < n:=by omega
   have hi2I:(i1:Int) < n:=by omega
   have hly:=C4 32 y
   have hrw:wr.row? g (i1*32) 32=some (A3 32 y):=((C7 HR.out.1).1 _ _ _ hg).trans hr0
   obtain ⟨T,hT⟩:∃ T:World→Prop,T=fun W=>W.cell? ⟨b,o,none⟩=some (.slice (some ⟨g,0,none⟩) n c)∧W.row? g (i1*32) 32=some (A3 32 y):=⟨_,rfl⟩
   have HT:=hid hT
   have t0:T wr.drew:=by rw [hT];exact ⟨c1,hrw⟩
   have HTKE:Hid (l.reverse.take (j+1)=l.reverse.take j++[y]):=by
    show _=_
    rw [List.take_add_one,hy]
    have:j < l.reverse.length:=by rw [List.length_reverse,← HN.out];omega
    rw [List.getElem?_eq_getElem this];rfl
   have hbw:b < wr.heap.size:=by omega
   have hgw:g < wr.heap.size:=by omega
   have hok:=D2 32 y
   have hww:w.heap.size≤wr.heap.size:=hsz
   have HRW:Hid (w.row? g (i1*32) 32=some (A3 32 y)):=hr0
   clear hT hy hi1 hr0 hrw c1 hlt hgt hsl
   go_wp2_with fail
   refine A7 T [] (.pure 0 (.pure 1 (.pure 2 (.pure 3 (.take 4 (.pure 5 (.pure 6 (.pure 7 (.take 8 (.pure 9 (.pure 10 (.pure 11 (.pure 12 (.pure 13 (.take 14 (.alt 15 (.alt 16 (.pure 17 .fin) .stop) .stop)))))))))))))))) (by kernel_rfl) (by kernel_rfl) ?_
   iterate 15
    first
    |refine A2 ?_ rfl (by rfl) (fun w' hs=>?_) (fun _ _ _ h=>h) ?_
     rotate_left
     ·clear hs
      go_simp
      try rfl
     simp only [Act.put,D7,D6,D5]
    |refine A9 ?_ t0 rfl (by rfl) (fun w' hs=>?_) (fun _ _ _ h=>h) ?_
     rotate_left
     ·rw [HT.out] at hs
      obtain ⟨s1,s2⟩:=hs
      go_simp
      try rfl
     simp only [Act.put,D7,D6,D5]
   refine A5 rfl (fun K hK=>?_)
   go_simp
   have t1:T (wr.drew.alloc (.cells (A3 32 y).toArray 25)):=by
    rw [HT.out] at t0 ⊢
    exact ⟨(World.cell?_alloc_lt _ _ _ hbw).trans t0.1,(World.row?_alloc_lt _ hgw).trans t0.2⟩
   refine hK.out _ _ t1 ?_
   clear hK K
   refine A5 rfl (fun K hK=>?_)
   have hown:(wr.drew.alloc (.cells (A3 32 y).toArray 25)).ownsRow w.heap.size 25 32 _ j (D3 (l.reverse.take j)):=A0.own (S:=fun _=>False) HR.out.2 ((A0.refl _ _).drew.alloc _) (fun _ _ h=>h)
   have hge:=E4 hown
   refine K9 A71 rfl _ _ rfl (D9 hown (Nat.zero_le _)) rfl (G8.new wr.drew (m:=1) (size:=32) (cs:=A3 32 y) 25 (0,0) hok 1) rfl (by unfold maxLen;omega) (by omega) ?_
   intro u' w3 hr3 ho3 hl3
   have hB3:Below w.heap.size w w3:=(HR.out.1.trans (((Below.refl _ _).drew.alloc (Nat.le_refl _) _).mono hsz)).trans (ho3.below (by simp;omega) (fun i hi=>hge i hi))
   have hr3':w3.ownsRow w.heap.size 25 32 u' (j+1) (D3 (l.reverse.take (j+1))):=by
    rw [HTKE.out]
    have e:D3 (l.reverse.take j++[y])=D3 (l.reverse.take j)++A3 32 y:=by simp [D3]
    rw [e]
    exact M7 hr3 (fun g2 hg2=>by
     rcases hl3 g2 hg2 with h | h
     ·exact hge g2 h
     ·simp at h;omega)
   have t3:T w3:=by
    rw [HT.out]
    exact ⟨(hB3.cell (p:=⟨b,o,none⟩) hbl).trans HH.out,((C7 hB3).1 _ _ _ hg).trans HRW.out⟩
   have HN3:Hid (Below w.heap.size w w3∧w3.ownsRow w.heap.size 25 32 u' (j+1) (D3 (l.reverse.take (j+1)))):=⟨hB3,hr3'⟩
   clear hr3 ho3 hl3 hown hge hB3 hr3'
   refine hK.out _ _ t3 ?_
   clear hK K
   refine A2 ?_ rfl (by rfl) (fun w' hs=>?_) (fun _ _ _ h=>h) ?_
   rotate_left
   ·clear hs
    go_simp
    try rfl
   simp only [Act.put,D7,D6,D5]
   refine C2 ?_
   clear t0 t1 t3
   go_wp2_with fail
   go_roundw
   case rel=>exact ⟨j+1,by omega,by go_num,HN3⟩
   case measure=>simp [intOf];omega
  ·obtain rfl:j=k:=by omega
   have hI:¬ (j:Int) < j:=by omega
   have hfw:wr.free? b o 1=true:=((C7 HR.out.1).2 _ _ _ hbl).trans HF.out
   have hfd:wr.drew.free? b o 1=true:=hfw
   have cd:wr.drew.cell? ⟨b,o,none⟩=some (.slice a n c):=c1
   clear hjk
   go_wp2_with fail
   go_still_tail 13,(by kernel_rfl)
   go_wp2
   go_ret2
   refine ⟨_,_,wr.drew,rfl,rfl,HR.out.1.drew,HR.out.2,?_,fun g hg=>by cases a <;> exact hg⟩
   have:=C3 HTK.out (HR.out.1.drew)
   exact this
end Go.Proofs.YtfflppedbopdpaaGreat
namespace Go.Mun
def T9 (l:J1) (p n:Nat):J1:=(l.drop p++List.replicate n 0).take n
theorem N5 (l:J1) (p n:Nat):(T9 l p n).length=n:=by
 unfold T9
 rw [List.length_take,List.length_append,List.length_replicate]
 omega
end Go.Mun
namespace Go.Proofs.YtfflppedbopdpaaGreat
open Go.RowKit Go.Mun

def Q0 (w:World) (b:Nat) (t:TypeId) (L:List Value):Prop:=w.heap[b]? = some (.cells L.toArray t (0,0))
theorem Q0.new (w:World) (t:TypeId) (L:List Value):Q0 (w.alloc (.cells L.toArray t)) w.heap.size t L:=heap_alloc_new w (.cells L.toArray t)
theorem Q0.lt {w:World} {b:Nat} {t:TypeId} {L:List Value} (h:Q0 w b t L):b < w.heap.size:=(Array.getElem?_eq_some_iff.1 h).1
theorem Q0.set {w:World} {b:Nat} {t:TypeId} {L:List Value} (h:Q0 w b t L) (i:Nat) (v:Value):Q0 (w.setCell ⟨b,i,none⟩ v) b t (L.set i v):=by
 have:=A0X (w:=w) (b:=b) (o:=i) L.toArray t (0,0) v h
 unfold Q0
 rw [this,List.setIfInBounds_toArray]
theorem Q0.only {w w':World} {S:Nat→Prop} {b:Nat} {t:TypeId} {L:List Value} (h:Q0 w b t L) (ho:A0 S w w') (hs:¬ S b):Q0 w' b t L:=(ho.block b h.lt hs).trans h
theorem Q0.below {w w':World} {b:Nat} {t:TypeId} {L:List Value} (h:Q0 w b t L) (hb:Below w.heap.size w w'):Q0 w' b t L:=h.only (S:=fun _=>False) (A0.of_below_size hb) (fun h=>h)
theorem Q0.arr {w:World} {b n:Nat} {t:TypeId} {L:List Value} (h:Q0 w b t L) (hn:L.length=n):Arr w b n L:=by
 subst hn
 refine ⟨?_,?_⟩
 ·unfold World.row?
  rw [show w.heap[b]? = _ from h]
  simp
 ·unfold World.free?
  rw [show w.heap[b]? = _ from h]
  simp
theorem A2q (w:World) (g:Nat) (cs:Array Value):A0 (· = g) w (w.setRow g cs):=
 ⟨rfl,rfl,rfl,by simp [World.setRow],fun k _ hs=>setRow_other w g k cs hs⟩
theorem A47 {P:Program} {ops:Array Oper} {o:Oper} {a:Act} {w:World} {K:Act→World→Prop} {Q:Exit→Act→World→Prop} {E:Prop} (hgd:o.guard=none) (d s:Operand) (dT sT:TypeId)
  (ho:o.op = .call { callee:=.builtin .copy,args:=#[d,s],argTypes:=#[dT,sT] }) (elem:TypeId) (hu:P.underlying dT=some (.slice elem)) (hsz:(P.info? elem).map (·.size)=some 1)
  (dp sp:Option Addr) (dLen dCap sLen sCap:Nat) (hd:a.eval d = .slice dp dLen dCap) (hs:a.eval s = .slice sp sLen sCap)
  (g off:Nat) (cur:List Value) (t:TypeId) (hg:Q0 w g t cur) (cs:List Value) (hn:cs.length=Nat.min sLen dLen)
  (hpos:0 < cs.length→dp=some ⟨g,off,none⟩∧∃ ad,sp=some ad∧∀ j v,cs[j]? = some v→w.cell? (ad.add j)=some v)
  (hfit:off+cs.length≤cur.length) (h1:∀ v∈cs,v.oneCell'=true)
  (h:∀ w',Hid (Q0 w' g t (splice cur off cs))→A0 (· = g) w w'→K (a.put o.dst (goInt cs.length)) w') :
  if Region.wanted o (yielded ops a.tmps)=true then Oper.wp P o a w K Q else E:=by
 have hw:Region.wanted o (yielded ops a.tmps)=true:=by simp [Region.wanted,hgd]
 rw [if_pos hw]
 by_cases h0:cs.length=0
 ·obtain rfl:cs = []:=List.eq_nil_of_length_eq_zero h0
  have hrun:=run_copy_none (P:=P) w dT sT o.type elem dp sp dLen dCap sLen sCap hu hsz (by simpa using hn.symm)
  unfold Oper.wp
  simp [execOp,ho,resolve,invoke,builtin,hd,hs,hrun,Result.andThen]
  exact h w (show Q0 _ _ _ _ by simpa [splice] using hg) (A0.refl _ _)
 ·obtain ⟨rfl,ad,rfl,hsrc⟩:=hpos (by omega)
  have hrun:=run_copy_row (P:=P) w dT sT o.type elem g off dLen dCap ad sLen sCap cur.toArray t cs hu hsz hg hn hsrc (by simpa using hfit) h1
  unfold Oper.wp
  simp [execOp,ho,resolve,invoke,builtin,hd,hs,hrun,Result.andThen]
  exact h _ (show _=_ by simpa [splice] using setRow_heap w g _ _ t _ hg) (A2q _ _ _)
theorem A2u {w:World} {a:Option Addr} {c:Nat} {l:J1} (hI:G9 w .u8 a c l) (hl:0 < l.length):∃ ad,a=some ad∧∀ j v,(K2 l)[j]? = some v→w.cell? (ad.add j)=some v:=by
 obtain ⟨b,off,ha,hbl,hc⟩:=hI.at hl
 refine ⟨_,ha,fun j v hv=>?_⟩
 have hj:j < l.length:=by have:=(List.getElem?_eq_some_iff.1 hv).1;simpa using this
 have h2:v = .int .u8 (l[j]?.getD 0):=by
  rw [List.getElem?_eq_getElem (by simpa using hj)] at hv
  rw [List.getElem?_eq_getElem hj]
  simp [K2] at hv
  simpa using hv.symm
 rw [h2,show (⟨b,off,none⟩:Addr).add j=⟨b,off+j,none⟩ from U9 rfl]
 exact hc j hj
theorem B2K {w:World} {b off c:Nat} {L:J1} (h:G9 w .u8 (some ⟨b,off,none⟩) c L) (p q:Nat) (hpq:p+q≤L.length) (hp:p < c):G9 w .u8 (some ⟨b,off+p,none⟩) (c - p) ((L.drop p).take q):=by
 have hl:=h.len
 have hll:((L.drop p).take q).length=q:=by rw [List.length_take,List.length_drop];omega
 refine ⟨fun hn=>?_,fun e=>(by cases e),(by rw [hll];omega),Nat.le_trans (Nat.sub_le _ _) h.cap⟩
 have hq:0 < q:=by rw [← hll];exact List.length_pos_iff.2 hn
 obtain ⟨b',o',ha,_,hc⟩:=h.at (i:=0) (by omega)
 cases ha
 refine ⟨b,off+p,rfl,fun i hi=>?_⟩
 rw [hll] at hi
 have:=hc (p+i) (by omega)
 rw [Nat.add_assoc,this,List.getElem?_take,if_pos hi,List.getElem?_drop]
theorem A5a {w:World} {b off c:Nat} {L:J1} (h:G9 w .u8 (some ⟨b,off,none⟩) c L) (p:Nat) (hp0:p≤L.length) :
  ∃ o' c',(∀ w',(Instr.slice 26 (.slice (some ⟨b,off,none⟩) L.length c) (some (.int .i64 (p:Int))) none none).run Tryz.prog w' = .ok (.slice (some ⟨b,o',none⟩) (L.length - p) c') w')∧G9 w .u8 (some ⟨b,o',none⟩) c' (L.drop p):=by
 have hl:=h.len
 have he:Tryz.prog.elem 26=5:=by kernel_rfl
 have hs:∀ w',(sizeOf 5).run Tryz.prog w' = .ok 1 w':=fun w'=>by kernel_rfl
 by_cases hp:p < c
 ·refine ⟨off+p,c - p,fun w'=>?_,?_⟩
  ·rw [run_slice_l w' 26 (some ⟨b,off,none⟩) L.length c (by rw [he];exact Tryz.underlying26) .i64 (p:Int) (by omega) (by omega),he,hs]
   simp only [Result.andThen,sliced,Int.toNat_natCast,Nat.mul_one]
   rw [if_neg (by omega),Option.map_some,U9 rfl]
  ·have:=B2K h p (L.length - p) (by omega) hp
   rw [List.take_of_length_le (by rw [List.length_drop];omega)] at this
   exact this
 ·have hpc:c=p:=by omega
  have hlp:L.length=p:=by omega
  refine ⟨off,0,fun w'=>?_,⟨fun hn=>absurd (List.drop_of_length_le (by omega)) hn,fun e=>(by cases e),by simp [hlp],Nat.zero_le _⟩⟩
  rw [run_slice_l w' 26 (some ⟨b,off,none⟩) L.length c (by rw [he];exact Tryz.underlying26) .i64 (p:Int) (by omega) (by omega),he,hs]
  simp only [Result.andThen,sliced,Int.toNat_natCast,Nat.mul_one]
  rw [if_pos hpc,hpc,Nat.sub_self]
theorem A9c (l:J1) (p n:Nat) (h:l.length≤p):K2 (T9 l p n)=J4 n:=by
 unfold T9
 rw [List.drop_of_length_le h,List.nil_append,List.take_of_length_le (by simp)]
 simp [K2,J4]
theorem A4t (l:J1) (p n:Nat):splice (J4 n) 0 (K2 ((l.drop p).take n))=K2 (T9 l p n):=by
 unfold splice T9
 rw [List.take_zero,List.nil_append,Nat.zero_add,List.take_append]
 simp only [K2,List.map_append,List.length_map]
 congr 1
 rw [List.length_take]
 simp [J4,List.drop_replicate,List.take_replicate]
 omega
end Go.Proofs.YtfflppedbopdpaaGreat
namespace Go.Proofs.YtfflppedbopdpaaGreat
open Go.RowKit Go.Mun
theorem B1a {w:World} {sa:Option Addr} {sc:Nat} {l:J1} (p n:Nat) (hp:p≤4398046511104) (hn:n≤1048576) (hI:G9 w .u8 sa sc l) (hl:l.length≤1099511627776) :
  Calls Tryz.prog 259 #[.slice sa l.length sc,.int .i64 p,.int .i64 n] w fun e w' => ∃ v,e = .returned v∧A3d w w' v (T9 l p n):=by
 obtain ⟨w0,e0⟩:∃ w0,w0=w.alloc (.cells (J4 n).toArray 5):=⟨_,rfl⟩
 have hb0:Below w.heap.size w w0:=by rw [e0];exact (Below.refl _ _).alloc (Nat.le_refl _) _
 have hw0:Q0 w0 w.heap.size 5 (J4 n):=by rw [e0];exact Q0.new w 5 (J4 n)
 have hmk:∀ w',(Instr.makeSlice 26 (.int .i64 (n:Int)) (.int .i64 (n:Int))).run Tryz.prog w' = .ok (.slice (some ⟨w'.heap.size,0,none⟩) n n) (w'.alloc (.cells (J4 n).toArray 5)):=fun w'=>A5c A0n (n:Int) n rfl (by omega) w'
 have HE:=hid e0
 have HB:=hid hb0
 have HW0:=hid hw0
 have HI:=hid (hI.below hb0)
 have HN:=hid hn
 have HL:=hid hl
 clear e0 hb0 hw0 hI
 by_cases hlt:p < l.length
 ·have d4:decide ((p:Int) < (l.length:Int))=true:=decide_eq_true (by omega)
  have d5:(p < l.length)=True:=eq_true hlt
  obtain ⟨gb,off,ha,_,_⟩:=HI.out.at (i:=0) (by omega)
  subst ha
  obtain ⟨o',c',hsl,hI2⟩:=A5a HI.out p (by omega)
  have HI2:=hid hI2
  have hcl:(K2 ((l.drop p).take n)).length=Nat.min (l.length - p) n:=by
   simp only [K2,List.length_map,List.length_take,List.length_drop]
   exact Nat.min_comm _ _
  have HCL:=hid hcl
  have HSRC:Hid (0 < (K2 ((l.drop p).take n)).length→∃ ad,(some ⟨gb,o',none⟩:Option Addr)=some ad∧∀ j v,(K2 ((l.drop p).take n))[j]? = some v→w0.cell? (ad.add j)=some v):=fun hpos=>by
   have h1:0 < (l.drop p).length:=by rw [List.length_drop];omega
   obtain ⟨ad,e,hs⟩:=A2u HI2.out h1
   refine ⟨ad,e,fun j v hv=>hs j v ?_⟩
   have hj:j < ((l.drop p).take n).length:=by have:=(List.getElem?_eq_some_iff.1 hv).1;simpa using this
   have hjn:j < n:=by rw [List.length_take] at hj;omega
   simp only [K2,List.getElem?_map,List.getElem?_take,if_pos hjn] at hv ⊢
   exact hv
  clear hI2 hcl hlt
  go_enter Tryz.func259,Tryz.ntmps259
  go_wp2_with (rw [← HE.out];refine wpList_copy_splice rfl _ _ 26 26 rfl 5 Tryz.underlying26 (by kernel_rfl) (some ⟨w.heap.size,0,none⟩) (some ⟨gb,o',none⟩) n n (l.length - p) c' rfl rfl w.heap.size 0 (J4 n) 5 HW0.out (K2 ((l.drop p).take n)) HCL.out (fun hpos=>⟨rfl,HSRC.out hpos⟩) (by rw [HCL.out];simp [J4];exact Nat.min_le_right _ _) (fun v hv=>by obtain ⟨x,_,rfl⟩:=List.mem_map.1 hv;rfl) w.heap.size w HB.out (Nat.le_refl _) ?_)
  intro w2 hg2 hb2
  have hW2:Q0 w2 w.heap.size 5 (K2 (T9 l p n)):=by rw [← A4t];exact hg2.out
  have hA:=hW2.arr (n:=n) (by simp [K2,N5])
  have HA:=hid hA
  have HB2:=hid hb2
  clear hg2 hb2 hW2 hA hsl
  go_wp2
  go_ret
  exact ⟨_,rfl,⟨⟨some ⟨w.heap.size,0,none⟩,n,by rw [N5];rfl,G9.of_arr HA.out (N5 _ _ _).symm (Nat.le_refl _) (by have:=HN.out;unfold maxLen;omega),fun q hq=>by cases hq;exact Nat.le_refl _⟩,HB2.out⟩⟩
 ·have d4:decide ((p:Int) < (l.length:Int))=false:=decide_eq_false (by omega)
  have d5:(p < l.length)=False:=eq_false hlt
  have d6:(l.length≤p)=True:=eq_true (by omega)
  have hW2:Q0 w0 w.heap.size 5 (K2 (T9 l p n)):=by rw [A9c l p n (by omega)];exact HW0.out
  have HA:=hid (hW2.arr (n:=n) (by simp [K2,N5]))
  clear hW2 hlt
  go_enter Tryz.func259,Tryz.ntmps259
  go_wp2
  rw [← HE.out]
  go_ret
  exact ⟨_,rfl,⟨⟨some ⟨w.heap.size,0,none⟩,n,by rw [N5];rfl,G9.of_arr HA.out (N5 _ _ _).symm (Nat.le_refl _) (by have:=HN.out;unfold maxLen;omega),fun q hq=>by cases hq;exact Nat.le_refl _⟩,HB.out⟩⟩
end Go.Proofs.YtfflppedbopdpaaGreat
namespace Go.Proofs.YtfflppedbopdpaaGreat
open Go.RowKit Go.Mun
theorem A3I {l:J1} (h:Byt l) (p n:Nat):Byt (T9 l p n):=fun x hx=>by
 unfold T9 at hx
 rcases List.mem_append.1 (List.mem_of_mem_take hx) with h1 | h1
 ·exact h x (List.mem_of_mem_drop h1)
 ·rw [List.eq_of_mem_replicate h1];decide
theorem B1Y {L:J1} {k:Nat} (hb:Byt L) (hl:L.length=k) (hk:k≤32):splice (J4 32) (32 - k) (K2 L)=A3 32 (beN L):=by
 have h1:=A5R (List.replicate (32 - k) 0++L) (A73 (A34 _) hb)
 have h2:(List.replicate (32 - k) (0:Int)++L).length=32:=by simp [hl];omega
 rw [h2,A36] at h1
 unfold A3
 rw [h1]
 unfold splice J4 K2
 rw [List.take_replicate,List.drop_replicate,List.length_map,hl,List.map_append,List.map_replicate,Nat.min_eq_left (by omega),show 32 - (32 - k+k)=0 by omega]
 simp
def A99 (f:Fr) (k:Nat):Nat:=beN (T9 f.code (f.next+1) k)
theorem B5V {E:U3} {w:World} {own:Go.Mun.Own} {c:RFV} {f:Fr} {S:St} {M:List (Nat × St)} {n:Nat} (h:C9 E w own c f S M n) (k:Nat) (hk:k≤32):A99 f k < wW:=by
 have h1:=A37 (T9 f.code (f.next+1) k) (A3I h.code.byte _ _)
 rw [N5] at h1
 have h3:256 ^ k≤256 ^ 32:=Nat.pow_le_pow_right (by decide) hk
 unfold A99
 rw [← A2Z];omega
def RDo (E:U3) (jv:Value) (r:Res) (e:Ending) (w:World):Prop:=
 match r with
 | .ok f S=>e = .returned (.int .i64 0)∧∃ own c M n,C9 E w own c f S M n∧c.tl=L6 A0P∧c.jv=jv
 | .stop x f _=>e = .returned (.int .i64 (x:Int))∧x≠0∧∃ own c M n f' S',C9 E w own c f' S' M n∧(x=15→f'.gas=f.gas∧f'.out=f.out)
 | .none=>True
theorem B32 {E:U3} {w:World} {own:Go.Mun.Own} {c:RFV} {f:Fr} {S:St} {M:List (Nat × St)} {n:Nat} (m:Nat) (hm:96≤m∧m≤127) (h:C9 E w own c f S M n) (htl:c.tl=L6 A0P) (hl:f.stack.length < 1024) :
  Calls Tryz.prog 179 #[.pointer (some ⟨E.fb,0,none⟩),.int .u8 (m:Int),c.jv] w (RDo E c.jv (.ok { f with stack:=f.stack++[A99 f (m - 95)] } S)):=by
 obtain ⟨k,hk⟩:∃ k,k=m - 95:=⟨_,rfl⟩
 have hk32:k≤32:=by omega
 have hk1:1≤k:=by omega
 rw [← hk]
 obtain ⟨x,hx⟩:∃ x,x=A99 f k:=⟨_,rfl⟩
 have hxW:x < wW:=by rw [hx];exact B5V h k hk32
 obtain ⟨w1,e1⟩:∃ w1,w1=w.alloc (.cells (J4 32).toArray 25):=⟨_,rfl⟩
 have hb1:Below w.heap.size w w1:=by rw [e1];exact (Below.refl _ _).alloc (Nat.le_refl _) _
 have hwh:Q0 w1 w.heap.size 25 (J4 32):=by rw [e1];exact Q0.new w 25 (J4 32)
 obtain ⟨⟨ca,cc,hcv,hci,_⟩,hcb,hcl⟩:=h.code
 have c193:=A7y h.row
 have c229:=A8J h.row
 rw [hcv] at c193
 obtain ⟨cl,hcln⟩:∃ cl,cl=f.code.length:=⟨_,rfl⟩
 rw [← hcln] at c193 hcl
 obtain ⟨pc,hpc⟩:∃ pc,pc=f.next:=⟨_,rfl⟩
 rw [← hpc] at c229
 have hpcl:pc≤2199023255552:=by rw [hpc];exact h.nxt
 have hlt:=h.lt
 have hown:=A3u (m:Int) (by omega) (by omega)
 have hom:J6 (m:Int)=(k:Int):=by unfold J6;rw [if_pos (by omega)];omega
 rw [hom] at hown
 have hm1:(96:Int)≤m:=by omega
 have hm2:(m:Int) < 128:=by omega
 have hd1:decide ((96:Int)≤m)=true:=decide_eq_true hm1
 have hd2:decide ((m:Int) < 128)=true:=decide_eq_true hm2
 obtain ⟨j,hj⟩:∃ j,j=32 - k:=⟨_,rfl⟩
 have hi1:IntKind.i64.wrap (32 - (k:Int))=(j:Int):=by rw [U6 _ (by omega) (by omega)];omega
 have hi2:IntKind.i64.wrap ((pc:Int)+1)=((pc+1:Nat):Int):=by rw [U6 _ (by omega) (by omega)];omega
 obtain ⟨p1,hp1⟩:∃ p1,p1=pc+1:=⟨_,rfl⟩
 rw [← hp1] at hi2
 have hs25:=fun b=>B05 b j (by omega)
 have HCUT:Hid (∀ W,Below w.heap.size w W→Calls Tryz.prog 259 #[.slice ca cl cc,.int .i64 (p1:Int),.int .i64 (k:Int)] W fun e w' => ∃ v,e = .returned v∧A3d W w' v (T9 f.code p1 k)):=by
  intro W hW
  rw [hcln]
  exact B1a p1 k (by omega) (by omega) (hci.below hW) (by rw [← hcln];exact hcl)
 have HXO:Hid (A99 f k=x):=hx.symm
 have HX:Hid (x=beN (T9 f.code p1 k)):=by show _=_;rw [hx,hp1,hpc];rfl
 obtain ⟨L,hL⟩:∃ L,L=T9 f.code p1 k:=⟨_,rfl⟩
 have hLb:Byt L:=by rw [hL];exact A3I hcb _ _
 have hLl:L.length=k:=by rw [hL];exact N5 _ _ _
 rw [← hL] at HCUT HX
 have HWT:Hid (splice (J4 32) j (K2 L)=A3 32 x):=by show _=_;rw [hj,HX.out];exact B1Y hLb hLl hk32
 have HLB:=hid hLb
 have HLL:=hid hLl
 obtain ⟨T,hT⟩:∃ T:World→Prop,T=fun W=>W.cell? ⟨E.fb,193,none⟩=some (.slice ca cl cc)∧W.cell? ⟨E.fb,229,none⟩=some (.int .i64 (pc:Int)):=⟨_,rfl⟩
 have HT:=hid hT
 have HTB:Hid (∀ W,Below w.heap.size w W→T W):=by
  rw [hT];intro W hb
  exact ⟨(hb.cell (p:=⟨E.fb,193,none⟩) hlt).trans c193,(hb.cell (p:=⟨E.fb,229,none⟩) hlt).trans c229⟩
 have t0:T w1.drew:=HTB.out _ hb1.drew
 have H:=hid h
 have HTL:=hid htl
 have HE:=hid e1
 have HB1:=hid hb1
 have HWH:=hid hwh
 have HL:=hid hl
 have HJ:Hid (32 - j=k):=by show _=_;omega
 have hjl:j < 32:=by omega
 have hjk:j+k=32:=by omega
 clear htl hT hx e1 hb1 hwh hcv hci hcb h c193 c229 hcln hpc hom hp1 hL hLb hLl hl hk hj hm
 go_enter Tryz.func179,Tryz.ntmps179
 go_wp2_with fail
 rw [← HE.out]
 refine (hown _).mono ?_
 rintro e w2 ⟨rfl,rfl⟩
 go_wp2_with fail
 refine A7 T [] (.pure 0 (.pure 1 (.pure 2 (.pure 3 (.pure 4 (.pure 5 (.take 6 (.pure 7 (.pure 8 (.pure 9 (.take 10 (.pure 11 (.pure 12 (.alt 13 (.alt 14 .fin .stop) .stop)))))))))))))) (by kernel_rfl) (by kernel_rfl) ?_
 iterate 13
  first
  |refine A2 ?_ rfl (by rfl) (fun w' hs=>?_) (fun _ _ _ h=>h) ?_
   rotate_left
   ·clear hs
    go_simp
    try rfl
   simp only [Act.put,D7,D6,D5]
  |refine A9 ?_ t0 rfl (by rfl) (fun w' hs=>?_) (fun _ _ _ h=>h) ?_
   rotate_left
   ·rw [HT.out] at hs
    obtain ⟨s1,s2⟩:=hs
    go_simp
    try rfl
   simp only [Act.put,D7,D6,D5]
 refine A5 rfl (fun K hK=>?_)
 go_simp
 refine (HCUT.out _ HB1.out.drew).mono ?_
 rintro e w3 ⟨v,rfl,hnb⟩
 obtain ⟨⟨va,vc,ev,hvi,hva⟩,hb3⟩:=hnb
 subst ev
 have HB3:Hid (Below w.heap.size w w3):=HB1.out.drew.trans (hb3.mono HB1.out.drew.size)
 have t3:=HTB.out _ HB3.out
 have HWH3:Hid (Q0 w3 w.heap.size 25 (J4 32)):=Q0.below (w:=w1.drew) HWH.out hb3
 have HVI:=hid hvi
 have hvl:L.length=k:=HLL.out
 rw [hvl]
 clear hb3 hvi hva
 refine hK.out _ _ t3 ?_
 clear hK K
 refine A5 rfl (fun K hK=>?_)
 refine A47 rfl _ _ 26 26 rfl 5 Tryz.underlying26 (by kernel_rfl) (some ⟨w.heap.size,j,none⟩) va (32 - j) (32 - j) k vc rfl rfl w.heap.size j (J4 32) 25 HWH3.out (K2 L) (by rw [HJ.out,A7l,hvl];simp) (fun hpos=>⟨rfl,A2u HVI.out (by simpa using hpos)⟩) (by rw [A7l,hvl,zU8_len];omega) (M9 (B69 L _ rfl)) ?_
 intro w4 hw4 ho4
 rw [HWT.out] at hw4
 have HB4:Hid (Below w.heap.size w w4):=HB3.out.trans (ho4.below HB3.out.size (fun i hi=>by have:i=w.heap.size:=hi;omega))
 have t4:=HTB.out _ HB4.out
 have HA4:=hid (hw4.out.arr (n:=32) (by simp))
 clear hw4 ho4
 refine hK.out _ _ t4 ?_
 clear hK K
 refine C2 ?_
 clear t0 t3 t4
 have hr4:w4.drew.row? w.heap.size 0 32=some (A3 32 x):=HA4.out.row
 obtain ⟨T2,hT2⟩:∃ T2:World→Prop,T2=fun W=>W.row? w.heap.size 0 32=some (A3 32 x):=⟨_,rfl⟩
 have HT:=hid hT2
 have t5:T2 w4.drew:=by rw [hT2];exact hr4
 have HP:=hid (B7K x hxW HL.out (H.out.below HB4.out.drew))
 have hl32:=C4 32 x
 clear hT2 hr4
 go_wp2_with fail
 refine A7 T2 [4] (.pure 0 (.pure 1 (.pure 2 (.take 3 (.alt 4 .fin .stop))))) (by kernel_rfl) (by kernel_rfl) ?_
 iterate 4
  first
  |refine A2 ?_ rfl (by rfl) (fun w' hs=>?_) (fun _ _ _ h=>h) ?_
   rotate_left
   ·clear hs
    go_simp
    try rfl
   simp only [Act.put,D7,D6,D5]
  |refine A9 ?_ t5 rfl (by rfl) (fun w' hs=>?_) (fun _ _ _ h=>h) ?_
   rotate_left
   ·rw [HT.out] at hs
    have s1:=hs
    go_simp
    try rfl
   simp only [Act.put,D7,D6,D5]
 refine J8 rfl (by simp) (fun K hK=>?_)
 go_simp
 refine HP.out.mono ?_
 rintro e w5 ⟨rfl,c',h5,ht5,hj5⟩
 have H5:=hid h5
 have HT5:=hid (ht5.trans HTL.out)
 have HJ5:=hid hj5
 clear h5 ht5 hj5
 refine hK.out _ _ ?_
 clear hK K
 refine C2 ?_
 clear t5
 go_wp2
 go_ret
 exact ⟨rfl,own,c',M,n,by rw [HXO.out];exact H5.out,HT5.out,HJ5.out⟩
end Go.Proofs.YtfflppedbopdpaaGreat
namespace Go.Proofs.YtfflppedbopdpaaGreat
open Go.RowKit Go.Mun
theorem B6W {E:U3} {w:World} {own:Go.Mun.Own} {c:RFV} {f:Fr} {S:St} {M:List (Nat × St)} {n:Nat} (k:Nat) (hk:k≤f.stack.length) (h:C9 E w own c f S M n) :
  Calls Tryz.prog 263 #[.pointer (some ⟨E.fb,230,none⟩),.int .i64 (k:Int)] w fun e w' => ∃ v c',e = .returned (.tuple #[v,.bool true])∧C9 E w' own c' { f with stack:=f.stack.take (f.stack.length - k) } S M n∧(c'.tl=c.tl∧c'.jv=c.jv) ∧
   w'.ownsRow w.heap.size 25 32 v k (D3 (f.stack.reverse.take k))∧(∀ g,v.ownBlock=some g→own g=none∧c'.sv.ownBlock≠some g∧c'.mv.ownBlock≠some g):=by
 refine (B33 k (A8I h.row) (h.one (by omega)) (D9 h.stk (Nat.zero_le _)) hk h.slen).mono ?_
 rintro e w' ⟨v,sv',w1,rfl,rfl,hb,hv,hs,hg⟩
 have hvg:=E4 hv
 refine ⟨v,_,rfl,h.stack (A0.of_below_size hb) hs (fun g hg2 => .inl (hg g hg2)) (fun y hy=>h.sval y (List.mem_of_mem_take hy)) (Nat.le_trans (by rw [List.length_take];exact Nat.min_le_right _ _) h.slen),⟨rfl,rfl⟩,?_,fun g hg2=>⟨D4 h.st.lows (hvg g hg2),fun e=>?_,fun e=>?_⟩⟩
 ·exact A0.own hv (C6 w1 E.fb 230 sv') (fun g hg2 e=>by have e2:g=E.fb:=e;have:=hvg g hg2;have:=h.lt;omega)
 ·have h1:=hg g e
  have:=B0 h.stk g h1
  have:=hvg g hg2
  omega
 ·have:=B0 h.mem g e
  have:=hvg g hg2
  omega
theorem C0F:A0P[0]? = some ⟨0,[83,84,79,80],0,0,0⟩:=by kernel_rfl
theorem A7x {E:U3} {w:World} {own:Go.Mun.Own} {c:RFV} {f:Fr} {S:St} {M:List (Nat × St)} {n:Nat} (h:C9 E w own c f S M n) (htl:c.tl=L6 A0P) (m:Nat) (x:Inf) (hx:A0P[m]? = some x):w.row? E.fb (236+m*5) 5=some x.c:=by
 have hm:m < 256:=by have:=(List.getElem?_eq_some_iff.1 hx).1;rw [A3F] at this;exact this
 have h1:=C0s h.row h.tlen
 have h2:=World.row?_sub h1 (o':=236+m*5) (n':=5) (by omega) (by omega)
 rw [h2,htl,show 236+m*5 - 236=5*m by omega,A5y A0P m x hx]
theorem A8F {E:U3} {w:World} {own:Go.Mun.Own} {c:RFV} {f:Fr} {S:St} {M:List (Nat × St)} {n:Nat} {v jv:Value} (h:C9 E w own c f S M n) :
  Calls Tryz.prog 269 #[.pointer (some ⟨E.fb,0,none⟩),.int .u8 0,v,jv] w fun e w'=>e = .returned (.int .i64 0)∧C9 E w' own c { f with ended:=true } S M n:=by
 have hf:=h.one (i:=235) (by omega)
 have H:=hid (h.ended true)
 clear h
 go_enter Tryz.func269,Tryz.ntmps269
 go_wp2
 go_ret
 exact ⟨rfl,H.out⟩
theorem B31 {E:U3} {w:World} {own:Go.Mun.Own} {c:RFV} {f:Fr} {S:St} {M:List (Nat × St)} {n:Nat} (h:C9 E w own c f S M n) (htl:c.tl=L6 A0P) :
  Calls Tryz.prog 179 #[.pointer (some ⟨E.fb,0,none⟩),.int .u8 0,c.jv] w (RDo E c.jv (.ok { f with ended:=true } S)):=by
 have hr:=A7x h htl 0 _ C0F
 have hc:w.cell? ⟨E.fb,238,none⟩=some (.int .i64 0):=by
  have:=World.row?_cell hr (i:=2) (by omega)
  rw [this];unfold Inf.c;rfl
 obtain ⟨T,hT⟩:∃ T:World→Prop,T=fun W=>W.cell? ⟨E.fb,238,none⟩=some (.int .i64 0):=⟨_,rfl⟩
 have HT:=hid hT
 have t0:T w.drew:=by rw [hT];exact hc
 have HP:=hid (B6W 0 (Nat.zero_le _) (h.below (Below.refl _ _).drew))
 have HTL:=hid htl
 clear h htl hr hc hT
 go_enter Tryz.func179,Tryz.ntmps179
 go_wp2_with fail
 refine A7 T [10] (.pure 0 (.pure 1 (.pure 2 (.pure 3 (.pure 4 (.pure 5 (.pure 6 (.pure 7 (.pure 8 (.take 9 (.alt 10 (.pure 11 (.pure 12 (.pure 13 (.pure 14 (.pure 15 .fin))))) .stop))))))))))) (by kernel_rfl) (by kernel_rfl) ?_
 iterate 10
  first
  |refine A2 ?_ rfl (by rfl) (fun w' hs=>?_) (fun _ _ _ h=>h) ?_
   rotate_left
   ·clear hs
    go_simp
    try rfl
   simp only [Act.put,D7,D6,D5]
  |refine A9 ?_ t0 rfl (by rfl) (fun w' hs=>?_) (fun _ _ _ h=>h) ?_
   rotate_left
   ·rw [HT.out] at hs
    have s1:=hs
    go_simp
    try rfl
   simp only [Act.put,D7,D6,D5]
 refine J8 rfl (by simp) (fun K hK=>?_)
 go_simp
 refine HP.out.mono ?_
 rintro e w1 ⟨v,c1,rfl,h1,⟨ht1,hj1⟩,_,_⟩
 have H1:=hid h1
 have HT1:=hid (ht1.trans HTL.out)
 have HJ1:=hid hj1
 clear h1 ht1 hj1
 refine hK.out _ _ ?_
 clear hK K
 iterate 5
  refine A2 ?_ rfl (by rfl) (fun w' hs=>?_) (fun _ _ _ h=>h) ?_
  rotate_left
  ·clear hs
   go_simp
   try rfl
  simp only [Act.put,D7,D6,D5]
 refine C2 ?_
 have HST:Hid (C9 E w1 own c1 f S M n):=by
  have:=H1.out
  rw [show f.stack.take (f.stack.length - 0)=f.stack by simp] at this
  exact this
 clear t0
 go_wp2_with fail
 refine (A8F HST.out).mono ?_
 rintro e w2 ⟨rfl,h2⟩
 have H2:=hid h2
 clear h2
 go_wp2
 go_ret
 exact ⟨rfl,own,c1,M,n,H2.out,HT1.out,HJ1.out⟩
end Go.Proofs.YtfflppedbopdpaaGreat
