/- A part of the proof of EvmLoops: XTb2. -/
import Derived.Test.YtfflppedbopdpaaGreatXSl4
import Derived.Test.YtfflppedbopdpaaGreatXWrd4
import Derived.Test.YtfflppedbopdpaaGreatXEv16
import Derived.Lib.Strings
import Derived.Lib.Slices
import Derived.Lib.Small
import Derived.Lib.Walk
import Derived.Lib.BitFns
import Derived.Deep.Light
import Derived.Test.YtfflppedbopdpaaGreatXSl1
import Derived.Test.YtfflppedbopdpaaGreatXRs4
import Derived.Test.YtfflppedbopdpaaGreatXRw0
import Derived.Test.YtfflppedbopdpaaGreatXRef1
import Derived.Test.YtfflppedbopdpaaGreatXWrdP
import Derived.Test.YtfflppedbopdpaaGreatXTy4
set_option linter.unusedVariables false
set_option maxRecDepth 1000000
set_option maxHeartbeats 8000000
set_option linter.unusedSimpArgs false
namespace Go.Proofs.YtfflppedbopdpaaGreat
open Go.RowKit Go.Mun

section
variable {E:Env} {w:World} {own:Go.Mun.Own} {c:FV} {f:Fr} {S:St} {n:Nat} {v:Value}
theorem B6w (a b y G bx:Nat) (hy:y < wW) (hl:f.stack.length < 1024) (h:I8 E w own c f S n) (hw:Wds E.w0.heap.size w v [a,b]) (hbx:w.cell? ⟨bx,0,none⟩=some (fnV G)) (hF:∀ args W,(callFunc G args).run Tryz.prog W = .ok (.enter G args) W)
  (hG:∀ W,Calls Tryz.prog G #[.agg (A3 32 a).toArray,.agg (A3 32 b).toArray] W fun e w'=>e = .returned (.agg (A3 32 y).toArray)∧Below W.heap.size W w') :
  Calls Tryz.prog 189 #[.pointer (some ⟨E.fb,0,none⟩),v,.pointer (some ⟨bx,0,none⟩)] w (Z4 E (.ok { f with stack:=f.stack++[y] } S)):=by
 obtain ⟨g,cc,rfl,hgb,hgl,hc1,hc2,hrow⟩:=hw.at (by simp)
 have hg0:=hrow 0 (by simp)
 have hg1:=hrow 1 (by simp)
 simp only [Nat.zero_mul,Nat.one_mul,List.getElem?_cons_zero,List.getElem?_cons_succ,Option.getD_some] at hg0 hg1
 obtain ⟨T,hT⟩:∃ T:World→Prop,T=fun W=>I8 E W own c f S n∧W.row? g 0 32=some (A3 32 a)∧W.row? g 32 32=some (A3 32 b)∧W.cell? ⟨bx,0,none⟩=some (.func (.func G) #[] #[]):=⟨_,rfl⟩
 have HT:=hid hT
 have HTB:Hid (∀ W W',T W→Below W.heap.size W W'→T W'):=by
  show ∀ W W',T W→Below W.heap.size W W'→T W'
  rw [hT]
  intro W W' h hb
  exact ⟨h.1.below hb,((D2 hb).1 _ _ _ (World.row?_lt h.2.1)).trans h.2.1,((D2 hb).1 _ _ _ (World.row?_lt h.2.2.1)).trans h.2.2.1,(hb.cell (World.block_lt_of_cell? _ _ h.2.2.2)).trans h.2.2.2⟩
 have HTG:Hid (∀ W,T W→I8 E W own c f S n):=by show ∀ W,T W→_;rw [hT];intro W h;exact h.1
 have t0:T w.drew:=by rw [hT];exact ⟨h.below (Below.refl _ _).drew,hg0,hg1,hbx⟩
 have HGG:=hid hG
 have hla:=B0 32 a
 have hlb:=B0 32 b
 have hcx:([a,b]:List Nat).length=2:=rfl
 rw [hcx]
 clear hcx h hw hrow hgb hgl hc1 hc2 hG hT hg0 hg1 hbx
 go_enter Tryz.func189,Tryz.ntmps189
 go_wp2_with fail
 refine A1I T [9] (.pure 0 (.take 1 (.pure 2 (.pure 3 (.take 4 (.pure 5 (.pure 6 (.take 7 (.alt 8 (.alt 9 .fin .stop) .stop))))))))) (by kernel_rfl) (by kernel_rfl) ?_
 iterate 8
  first
  |refine A0 ?_ rfl (by rfl) (fun w' hs=>?_) (fun _ _ _ h=>h) ?_
   rotate_left
   ·clear hs
    go_simp
    try rfl
   simp only [Act.put,D6,D5,D4]
  |refine A9 ?_ t0 rfl (by rfl) (fun w' hs=>?_) (fun _ _ _ h=>h) ?_
   rotate_left
   ·rw [HT.out] at hs
    obtain ⟨_,g1,g2,g3⟩:=hs
    go_simp
    try rfl
   simp only [Act.put,D6,D5,D4]
 refine A8 rfl (fun K hK=>?_)
 go_simp
 refine (HGG.out _).mono ?_
 rintro e w1 ⟨rfl,hb1⟩
 have t1:T w1:=HTB.out _ _ t0 hb1
 clear hb1
 refine hK.out _ _ t1 ?_
 clear hK K
 refine L0 rfl (by simp) (fun K hK=>?_)
 go_simp
 refine (A7G y hy hl (HTG.out _ t1)).mono ?_
 rintro e w2 ⟨rfl,c',h2⟩
 have H2:=hid h2
 clear h2
 refine hK.out _ _ ?_
 clear hK K
 refine C3 ?_
 go_wp2
 go_end0
 exact ⟨rfl,own,c',n,H2.out⟩
theorem B5k {own:Go.Mun.Own} {sb rb tb:Nat} {cx:Ctx} {tab:Z7} (h:A0j w own sb rb tb cx tab) (ht:A2o tab) {k f G:Nat} (z:Int) (hz:z=k) (hk:k < 256) (hm:(k,f,some G)∈A5g) :
  ∃ b,(Instr.lookup 100 (.map (some tb)) (.int .u8 z) false).run Tryz.prog w = .ok (.func (.func f) #[] #[.pointer (some ⟨b,0,none⟩)]) w∧w.cell? ⟨b,0,none⟩=some (fnV G):=by
 subst hz
 obtain ⟨b,h1,h2⟩:=ht _ hm
 have:=h.map.look B6o Tryz.underlying100 (B1g w) hk
 rw [h1] at this
 exact ⟨b,this,(h.boxes _ h2).1⟩
theorem B8a (k G a b y:Nat) (hk:k < 95) (hm:(k,189,some G)∈A5g) (hF:∀ args W,(callFunc G args).run Tryz.prog W = .ok (.enter G args) W) (ht:A2o E.tab) (hy:y < wW) (hl:f.stack.length < 1024) (h:I8 E w own c f S n) (hw:Wds E.w0.heap.size w v [a,b])
  (hG:∀ W,Calls Tryz.prog G #[.agg (A3 32 a).toArray,.agg (A3 32 b).toArray] W fun e w'=>e = .returned (.agg (A3 32 y).toArray)∧Below W.heap.size W w') :
  Calls Tryz.prog 374 #[.pointer (some ⟨E.fb,0,none⟩),.int .u8 (k:Int),v] w (Z4 E (.ok { f with stack:=f.stack++[y] } S)):=by
 have hr0:=h.run.chg h.chg
 have c0:=A2h h.row
 have c1:=hr0.tp
 obtain ⟨bx,hlk,hbx⟩:=B5k hr0 ht k rfl (by omega) hm
 have HS:=hid (B6w a b y G bx hy hl h hw hbx hF hG)
 have d1:decide ((95:Int)≤(k:Int))=false:=decide_eq_false (by omega)
 have d3:decide ((160:Int)≤(k:Int))=false:=decide_eq_false (by omega)
 clear hr0 ht h hm hk hbx hG hF hy hl hw
 go_enter Tryz.func374,Tryz.ntmps374
 go_wp2_with fail
 refine HS.out.mono ?_
 rintro e w2 ⟨rfl,hp⟩
 have HP:=hid hp
 clear hp
 go_wp2
 go_end0
 exact ⟨rfl,HP.out⟩
theorem B8b (a b:Nat) (ha:a < wW) (hb:b < wW) (ht:A2o E.tab) (hl:f.stack.length < 1024) (h:I8 E w own c f S n) (hw:Wds E.w0.heap.size w v [a,b]) :
  Calls Tryz.prog 374 #[.pointer (some ⟨E.fb,0,none⟩),.int .u8 3,v] w (Z4 E (.ok { f with stack:=f.stack++[(a+wW - b) % wW] } S)):=
 B8a 3 88 a b _ (by decide) (by decide) (fun _ _=>rfl) ht (Nat.mod_lt _ (by unfold wW;omega)) hl h hw (fun W=>A8n a b ha hb W)
end
end Go.Proofs.YtfflppedbopdpaaGreat
namespace Go.Proofs.YtfflppedbopdpaaGreat
open Go.RowKit Go.Mun
theorem B70 (x:Int) (w:World):Calls Tryz.prog 288 #[.int .i64 x] w fun e w'=>e = .returned (.bool false)∧w=w':=by
 have hx:((x:Int) == x)=true:=by simp
 go_enter Tryz.func288,Tryz.ntmps288
 go_wp2
 go_ret
 exact ⟨rfl,rfl⟩
theorem B6q (x:Int) (w:World):Calls Tryz.prog 349 #[.int .i64 x] w fun e w'=>e = .returned (.bool false)∧w=w':=by
 have hx:((x:Int) == x)=true:=by simp
 go_enter Tryz.func349,Tryz.ntmps349
 go_wp2
 go_ret
 exact ⟨rfl,rfl⟩
theorem B4L (x y:Int) (w:World):Calls Tryz.prog 287 #[.int .i64 x,.int .i64 y] w fun e w'=>e = .returned (.bool (decide (x < y)))∧w=w':=by
 go_enter Tryz.func287,Tryz.ntmps287
 go_wp2_with (go_at_call 349;refine (B6q _ _).mono ?_;rintro e w1 ⟨rfl,rfl⟩)
 go_ret
 exact ⟨rfl,rfl⟩
theorem A7y {l:List Int} (hs:l.Pairwise (· < ·)) {i j:Nat} (hij:i < j) (hj:j < l.length):l[i]'(by omega) < l[j]:=List.pairwise_iff_getElem.1 hs i j (by omega) hj hij
theorem B04 {w:World} {a:Option Addr} {c:Nat} {l:List Int} (hI:I7 w .i64 a c l) (hs:l.Pairwise (· < ·)) (hl:l.length≤1099511627776) (x:Int) (hx : -9223372036854775808≤x∧x≤9223372036854775807) :
  Calls Tryz.prog 229 #[.slice a l.length c,.int .i64 x] w fun e w' => ∃ i:Nat,e = .returned (.tuple #[.int .i64 (i:Int),.bool (decide (x∈l))])∧w'=w:=by
 have HI:Hid (∀ i (hi:i < l.length),∃ b off,a=some ⟨b,off,none⟩∧w.cell? ⟨b,off+i,none⟩=some (.int .i64 (l[i]'hi))):=by
  intro i hi
  obtain ⟨b,off,h1,_,h2⟩:=hI.at hi
  exact ⟨b,off,h1,by have:=h2 i hi;rw [List.getElem?_eq_getElem hi] at this;exact this⟩
 have HS:=hid hs
 obtain ⟨n,hn⟩:∃ n,n=l.length:=⟨_,rfl⟩
 rw [← hn] at hl ⊢
 have HN:=hid hn
 obtain ⟨d,hd⟩:∃ d,d=decide (x∈l):=⟨_,rfl⟩
 have HD:=hid hd
 rw [← hd]
 clear hI hs hn hd
 go_enter Tryz.func229,Tryz.ntmps229
 go_wp2_with fail
 go_loopw [7,8,9] (fun u v _ wr=>wr=w∧∃ i j:Nat,u = .int .i64 (i:Int)∧v = .int .i64 (j:Int)∧i≤j∧j≤n∧(∀ k (hk:k < l.length),k < i→l[k]'hk < x)∧(∀ k (hk:k < l.length),j≤k→x≤l[k]'hk)) (fun u v _ _=>(intOf v).toNat - (intOf u).toNat)
 case atStart=>exact ⟨rfl,0,n,rfl,rfl,by omega,by omega,fun k hk h=>by omega,fun k hk h=>by have:=HN.out;omega⟩
 case round =>
  obtain ⟨rfl,i,j,rfl,rfl,hij,hjn,h1,h2⟩:=hrel
  by_cases hlt:i < j
  ·have hm:(i+j) / 2 < l.length:=by have:=HN.out;omega
   obtain ⟨b,off,rfl,hc⟩:=HI.out _ hm
   have hdI:decide ((i:Int) < (j:Int))=true:=decide_eq_true (by omega)
   have hlI:((i:Int) < (j:Int)):=by omega
   have k1:IntKind.i64.wrap ((i:Int)+(j:Int))=((i+j:Nat):Int):=by rw [V3 _ (by omega) (by omega)];omega
   have H1:=hid h1
   have H2:=hid h2
   clear h1 h2
   go_wp2_with fail
   refine (B4L _ _ _).mono ?_
   rintro e w1 ⟨rfl,rfl⟩
   by_cases hc2:l[(i+j) / 2] < x
   ·have hd:decide (l[(i+j) / 2] < x)=true:=decide_eq_true hc2
    rw [hd]
    have k2:IntKind.i64.wrap (((i:Int)+(j:Int)) / 2+1)=(((i+j) / 2+1:Nat):Int):=by rw [V3 _ (by omega) (by omega)];omega
    have HC2:=hid hc2
    clear hd hc2
    go_wp2
    go_roundw
    case rel =>
     refine ⟨trivial,(i+j) / 2+1,j,by simp,rfl,by omega,hjn,fun k hk hk2=>?_,H2.out⟩
     rcases Nat.lt_or_ge k ((i+j) / 2) with h | h
     ·exact Int.lt_trans (A7y HS.out h hm) HC2.out
     ·have e:k=(i+j) / 2:=by omega
      subst e;exact HC2.out
    case measure=>simp [intOf];omega
   ·have hd:decide (l[(i+j) / 2] < x)=false:=decide_eq_false hc2
    rw [hd]
    have HC2:Hid (x≤l[(i+j) / 2]):=by show x≤_;omega
    clear hd hc2
    go_wp2
    go_roundw
    case rel =>
     refine ⟨trivial,i,(i+j) / 2,rfl,by simp,by omega,by omega,H1.out,fun k hk hk2=>?_⟩
     rcases Nat.lt_or_ge ((i+j) / 2) k with h | h
     ·exact Int.le_of_lt (Int.lt_of_le_of_lt HC2.out (A7y HS.out h hk))
     ·have e:k=(i+j) / 2:=by omega
      subst e;exact HC2.out
    case measure=>simp [intOf];omega
  ·have hlI:¬ ((i:Int) < (j:Int)):=by omega
   obtain rfl:i=j:=by omega
   have hmem:x∈l↔∃ h:i < l.length,l[i]=x:=by
    constructor
    ·intro h
     obtain ⟨k,hk,e⟩:=List.mem_iff_getElem.1 h
     rcases Nat.lt_trichotomy k i with h3 | h3 | h3
     ·have:=h1 k hk h3;omega
     ·subst h3;exact ⟨hk,e⟩
     ·have:=h2 i (by omega) (Nat.le_refl _)
      have:=A7y HS.out h3 hk
      omega
    ·rintro ⟨h,rfl⟩;exact List.getElem_mem _
   have HM:=hid hmem
   clear h1 h2 hmem
   by_cases hin:i < l.length
   ·obtain ⟨b,off,rfl,hc⟩:=HI.out i hin
    have hdI:((i:Int) < (n:Int)):=by have:=HN.out;omega
    by_cases he:l[i]=x
    focus
     have hd:(l[i] == x)=true:=by simp [he]
     obtain rfl:d=true:=HD.out.trans (decide_eq_true (HM.out.2 ⟨hin,he⟩))
    rotate_left
    focus
     have hd:(l[i] == x)=false:=by simp [he]
     obtain rfl:d=false:=HD.out.trans (decide_eq_false (fun h=>he (HM.out.1 h).2))
    all_goals
     clear he
     go_wp2_with (go_at_call 288;refine (B70 _ _).mono ?_;rintro e w1 ⟨rfl,rfl⟩)
     go_ret2
     first | exact ⟨i,rfl,rfl⟩ | exact ⟨⟨i,rfl⟩,rfl⟩ | exact ⟨i,rfl⟩
   ·have hdI:¬ ((i:Int) < (n:Int)):=by have:=HN.out;omega
    obtain rfl:d=false:=HD.out.trans (decide_eq_false (fun h=>hin (HM.out.1 h).1))
    go_wp2
    go_ret2
    first | exact ⟨i,rfl,rfl⟩ | exact ⟨⟨i,rfl⟩,rfl⟩ | exact ⟨i,rfl⟩
end Go.Proofs.YtfflppedbopdpaaGreat
namespace Go.Proofs.YtfflppedbopdpaaGreat
open Go.RowKit Go.Mun
theorem A7N:(Lib.len8tab.size:Int)=256:=by
 have:Lib.len8tab.size=256:=by decide
 omega
theorem A0P (k a b:Nat) (hk:k≤56) (ha:a≤8) (hb:b=k+a):RowKit.wrap64 ((k:Int)+RowKit.wrap64 (a:Int))=(b:Int):=by
 unfold RowKit.wrap64
 omega
theorem B2i (a:Nat) (ha:a≤8):RowKit.wrap64 (RowKit.wrap64 (a:Int))=(a:Int):=by
 unfold RowKit.wrap64
 omega
theorem B3A (a:Nat) (ha:a≤8):RowKit.wrap64 (a:Int)=(a:Int):=by
 unfold RowKit.wrap64
 omega
theorem A0U (y:Int) (h:y.toNat < Lib.len8tab.size):((Lib.len8tab[y.toNat]'h).toNat:Int)=Lib.len8 y:=by
 unfold Lib.len8
 rw [getElem?_pos Lib.len8tab y.toNat h]
 rfl

theorem B03 (x:Int) (w:World) (h0:0≤x) (h1:x≤18446744073709551615) :
  Calls Tryz.prog 339 #[.int .u64 x] w fun e w'=>e = .returned (.int .i64 (Lib.bitLen x.toNat))∧w'=w:=by
 go_enter Tryz.func339,Tryz.ntmps339
 go_wp2
 all_goals first
  | (go_ret;refine ⟨congrArg Ending.returned (congrArg (Value.int IntKind.i64) ?_),rfl⟩;go_light)
  | (exfalso
     go_light
     have hs:=A7N
     omega)
 all_goals first
  | (rw [A0U (x / 4294967296 / 65536 / 256) _,Lib.len8_of (x / 4294967296 / 65536 / 256) (by omega) (by omega)]
     have e:(x / 4294967296 / 65536 / 256).toNat=x.toNat / 72057594037927936:=by omega
     have l:=Lib.bitLen_le8' (x / 4294967296 / 65536 / 256) (by omega) (by omega)
     have s:=Lib.bitLen_shift56 x.toNat (by omega) (by omega)
     rw [e] at l ⊢
     exact A0P 56 _ _ (by decide) l s)
  | (rw [A0U (x / 4294967296 / 65536) _,Lib.len8_of (x / 4294967296 / 65536) (by omega) (by omega)]
     have e:(x / 4294967296 / 65536).toNat=x.toNat / 281474976710656:=by omega
     have l:=Lib.bitLen_le8' (x / 4294967296 / 65536) (by omega) (by omega)
     have s:=Lib.bitLen_shift48 x.toNat (by omega) (by omega)
     rw [e] at l ⊢
     exact A0P 48 _ _ (by decide) l s)
  | (rw [A0U (x / 4294967296 / 256) _,Lib.len8_of (x / 4294967296 / 256) (by omega) (by omega)]
     have e:(x / 4294967296 / 256).toNat=x.toNat / 1099511627776:=by omega
     have l:=Lib.bitLen_le8' (x / 4294967296 / 256) (by omega) (by omega)
     have s:=Lib.bitLen_shift40 x.toNat (by omega) (by omega)
     rw [e] at l ⊢
     exact A0P 40 _ _ (by decide) l s)
  | (rw [A0U (x / 4294967296) _,Lib.len8_of (x / 4294967296) (by omega) (by omega)]
     have e:(x / 4294967296).toNat=x.toNat / 4294967296:=by omega
     have l:=Lib.bitLen_le8' (x / 4294967296) (by omega) (by omega)
     have s:=Lib.bitLen_shift32 x.toNat (by omega) (by omega)
     rw [e] at l ⊢
     exact A0P 32 _ _ (by decide) l s)
  | (rw [A0U (x / 65536 / 256) _,Lib.len8_of (x / 65536 / 256) (by omega) (by omega)]
     have e:(x / 65536 / 256).toNat=x.toNat / 16777216:=by omega
     have l:=Lib.bitLen_le8' (x / 65536 / 256) (by omega) (by omega)
     have s:=Lib.bitLen_shift24 x.toNat (by omega) (by omega)
     rw [e] at l ⊢
     exact A0P 24 _ _ (by decide) l s)
  | (rw [A0U (x / 65536) _,Lib.len8_of (x / 65536) (by omega) (by omega)]
     have e:(x / 65536).toNat=x.toNat / 65536:=by omega
     have l:=Lib.bitLen_le8' (x / 65536) (by omega) (by omega)
     have s:=Lib.bitLen_shift16 x.toNat (by omega) (by omega)
     rw [e] at l ⊢
     exact A0P 16 _ _ (by decide) l s)
  | (rw [A0U (x / 256) _,Lib.len8_of (x / 256) (by omega) (by omega)]
     have e:(x / 256).toNat=x.toNat / 256:=by omega
     have l:=Lib.bitLen_le8' (x / 256) (by omega) (by omega)
     have s:=Lib.bitLen_shift8 x.toNat (by omega) (by omega)
     rw [e] at l ⊢
     exact A0P 8 _ _ (by decide) l s)
  | (rw [A0U (x) _,Lib.len8_of (x) (by omega) (by omega)]
     have e:(x).toNat=x.toNat:=by omega
     have l:=Lib.bitLen_le8' (x) (by omega) (by omega)
     rw [e] at l ⊢
     first | exact B2i _ l | exact A0P 0 _ _ (by decide) l (by omega) | exact B3A _ l)

end Go.Proofs.YtfflppedbopdpaaGreat
namespace Go.Proofs.YtfflppedbopdpaaGreat
open Go.RowKit Go.Mun
theorem A7c:∀ (f x k:Nat),x < 2 ^ k→Lib.bitLenAux f x≤k
 | 0,_,_,_=>Nat.zero_le _
 | f+1,x,k,h=>by
  unfold Lib.bitLenAux
  split
  ·exact Nat.zero_le _
  ·rename_i hx
   match k,h with
   | 0,h=>simp at h;omega
   | k+1,h =>
    have:=A7c f (x / 2) k (by rw [Nat.pow_succ] at h;omega)
    omega
theorem B3p (x k:Nat) (h:x < 2 ^ k):Lib.bitLen x≤k:=A7c 64 x k h
theorem B3q (x:Nat):Lib.bitLen x≤64:=by
 have key:∀ f x,Lib.bitLenAux f x≤f:=by
  intro f
  induction f with
  | zero=>intro x;exact Nat.zero_le _
  | succ f ih =>
   intro x
   unfold Lib.bitLenAux
   split
   ·exact Nat.zero_le _
   ·have:=ih (x / 2);omega
 exact key 64 x
def B1J (n q:Nat):Prop:=∀ j,q≤j→j < 4→lim n j=0
theorem B4h (n:Nat) (hn:n < wW) (w:World):Calls Tryz.prog 282 #[.agg (Q4 n).toArray] w fun e w'=>(∃ r:Nat,e = .returned (.int .i64 r)∧r≤256∧(18446744073709551616≤n→64≤r)∧(n < 9223372036854775808→r < 64))∧Below w.heap.size w w':=by
 have hl:(Q4 n).length=4:=by simp
 obtain ⟨w0,e0⟩:∃ w0,w0=w.alloc (.cells (Q4 n).toArray 215):=⟨_,rfl⟩
 have hb0:Below w.heap.size w w0:=by rw [e0];exact (Below.refl _ _).alloc (Nat.le_refl _) _
 have hr:w0.row? w.heap.size 0 4=some (Q4 n):=by rw [e0];exact World.row?_alloc_at _ _ _ rfl hl
 have HC:Hid (∀ q,q < 4→w0.cell? ⟨w.heap.size,q,none⟩=some (.int .u64 ((lim n q:Nat):Int))):=fun q hq=>by
  have:=World.row?_cell hr hq
  rw [Nat.zero_add,A0Z n q hq] at this
  exact this
 have HE:=hid e0
 have HB:=hid hb0
 have HL:Hid (∀ q,lim n q < 18446744073709551616):=fun q=>by unfold lim;omega
 have hw:wW=115792089237316195423570985008687907853269984665640564039457584007913129639936:=by unfold wW;decide
 have HZ:Hid (B1J n 0→n=0):=fun h=>by
  have h0:=h 0 (by omega) (by omega);have h1:=h 1 (by omega) (by omega);have h2:=h 2 (by omega) (by omega);have h3:=h 3 (by omega) (by omega)
  unfold lim at h0 h1 h2 h3
  omega
 have H1:Hid (B1J n 1→n=lim n 0):=fun h=>by
  have h1:=h 1 (by omega) (by omega);have h2:=h 2 (by omega) (by omega);have h3:=h 3 (by omega) (by omega)
  unfold lim at h1 h2 h3 ⊢
  omega
 have HG:Hid (∀ q,1≤q→q < 4→lim n q≠0→18446744073709551616≤n):=fun q h1 h4 hne=>by
  have:q=1∨q=2∨q=3:=by omega
  rcases this with rfl | rfl | rfl
  all_goals (unfold lim at hne;omega)
 clear e0 hb0 hr hn hw hl
 go_enter Tryz.func282,Tryz.ntmps282
 go_wp2_with fail
 rw [← HE.out]
 go_loop [3] (fun i => ∃ q:Nat,q≤4∧i = .int .i64 ((q:Int) - 1)∧B1J n q) (fun i=>(intOf i+1).toNat)
 case atStart=>exact ⟨4,by omega,rfl,fun j h1 h2=>by omega⟩
 case round =>
  obtain ⟨q,hq,rfl,hz⟩:=hrel
  have HZQ:=hid hz
  clear hz
  match q,hq with
  | 0,_ =>
   have d0:decide ((0:Int)≤((0:Nat):Int) - 1)=false:=by decide
   go_wp2_with fail
   go_ret
   exact ⟨⟨0,rfl,by omega,fun h=>by have:=HZ.out HZQ.out;omega,fun _=>by omega⟩,HB.out⟩
  | k+1,hq =>
   have ek:((k+1:Nat):Int) - 1=(k:Int):=by omega
   rw [ek]
   have hk4:k < 4:=by omega
   have hk4z:(k:Int) < 4:=by omega
   have hk0z:(0:Int)≤(k:Int):=by omega
   have d0:decide ((0:Int)≤(k:Int))=true:=decide_eq_true (by omega)
   have c0:=HC.out k hk4
   have HLK:=hid (HL.out k)
   obtain ⟨x,hx⟩:∃ x,x=lim n k:=⟨_,rfl⟩
   rw [← hx] at c0 HLK
   have HX:=hid hx
   clear hx ek
   by_cases h0:x=0
   ·have dx:((x:Int) != 0)=false:=by simp [h0]
    have HN:Hid (B1J n k):=fun j h1 h2=>by
     by_cases hj:j=k
     ·rw [hj,← HX.out,h0]
     ·exact HZQ.out j (by omega) h2
    clear h0
    go_wp2_with fail
    go_round
    case rel=>exact ⟨k,by omega,by go_num,HN.out⟩
    case measure=>first | (simp [intOf];done) | (simp [intOf];omega)
   ·have dx:((x:Int) != 0)=true:=by simpa using h0
    have HCL:=hid (B03 (x:Int) w0 (by omega) (by have:=HLK.out;omega))
    have hb64:=B3q x
    have hm:IntKind.i64.wrap ((k:Int)*64)=(k:Int)*64:=V3 _ (by omega) (by omega)
    have HR:Hid ((18446744073709551616≤n→64≤k*64+Lib.bitLen x)∧(n < 9223372036854775808→k*64+Lib.bitLen x < 64)):=by
     refine ⟨fun h=>?_,fun h=>?_⟩
     ·by_cases h1:k=0
      ·have e:=H1.out (by rw [h1] at HZQ;exact HZQ.out)
       rw [h1] at HX
       have:=HX.out;have:=HLK.out;omega
      ·omega
     ·by_cases h1:k=0
      ·have e:=H1.out (by rw [h1] at HZQ;exact HZQ.out)
       rw [h1] at HX
       have hxn:x=n:=HX.out.trans e.symm
       have:=B3p x 63 (by rw [hxn];omega)
       omega
      ·have:=HG.out k (by omega) hk4 (by rw [← HX.out];exact h0)
       omega
    clear h0
    go_wp2_with fail
    refine HCL.out.mono ?_
    rintro e w1 ⟨rfl,rfl⟩
    rw [Int.toNat_natCast]
    obtain ⟨b,hb⟩:∃ b,b=Lib.bitLen x:=⟨_,rfl⟩
    rw [← hb] at HR hb64 ⊢
    have hbz:(b:Int)≤64:=by omega
    have hb0:(0:Int)≤(b:Int):=by omega
    have hadd:IntKind.i64.wrap ((k:Int)*64+(b:Int))=((k*64+b:Nat):Int):=by rw [V3 _ (by omega) (by omega)];omega
    clear hb
    go_wp2
    go_ret
    exact ⟨⟨k*64+b,by simp,by omega,HR.out.1,HR.out.2⟩,HB.out⟩
end Go.Proofs.YtfflppedbopdpaaGreat
namespace Go.Mun
def A9h (n:Nat):Option Nat:=if n < 9223372036854775808 then some n else none
end Go.Mun
namespace Go.Proofs.YtfflppedbopdpaaGreat
open Go.RowKit Go.Mun

theorem B3B (n:Nat) (hn:n < wW) (w:World):Calls Tryz.prog 203 #[.agg (A3 32 n).toArray] w fun e w'=>e = .returned (.tuple #[.int .i64 (((A9h n).getD 0:Nat):Int),.bool (A9h n).isSome])∧Below w.heap.size w w':=by
 obtain ⟨w0,e0⟩:∃ w0,w0=w.alloc (.cells (A3 32 n).toArray 25):=⟨_,rfl⟩
 have hb0:Below w.heap.size w w0:=by rw [e0];exact (Below.refl _ _).alloc (Nat.le_refl _) _
 have hr:w0.row? w.heap.size 0 32=some (A3 32 n):=by rw [e0];exact World.row?_alloc_at _ _ _ rfl (by simp)
 have HC:=hid (W4 n hn w0)
 have HB:=hid hb0
 have HE:=hid e0
 have HNB:=hid (fun w=>B4h n hn w)
 have okN:=A0r n
 have HL:Hid (lim n 0 < 18446744073709551616∧(n < 18446744073709551616→lim n 0=n)):=⟨B0y n 0,fun h=>by unfold lim;omega⟩
 rw [e0] at hr
 clear hb0 e0 hn
 go_enter Tryz.func203,Tryz.ntmps203
 go_wp2_with fail
 rw [← HE.out]
 refine HC.out.mono ?_
 rintro e w1 ⟨rfl,hb1⟩
 have hB1:=HB.out.trans (hb1.mono HB.out.size)
 obtain ⟨W1,eW1⟩:∃ W1,W1=(w1.alloc (.cells (U5 4).toArray 215)).setCells w1.heap.size 0 (Q4 n):=⟨_,rfl⟩
 have hb2:Below w1.heap.size w1 W1:=by rw [eW1];exact ((Below.refl _ _).alloc (Nat.le_refl _) _).setCells (Nat.le_refl _) _ _
 have hA:Arr W1 w1.heap.size 4 (Q4 n):=by rw [eW1];exact (Arr.new w1 4 (U5 4) 215 rfl).setCells _ okN
 have f4:(w1.alloc (.cells (U5 4).toArray 215)).free? w1.heap.size 0 4=true:=World.free?_alloc_at _ _ rfl (Nat.le_refl _)
 have ra:=hA.row
 have HA:=hid hA
 have HW:=hid eW1
 have HB2:=hid (hB1.trans (hb2.mono hB1.size))
 rw [eW1] at ra
 clear hb1 hB1 hb2 hA eW1 hr
 go_wp2_with fail
 rw [← HW.out]
 refine (HNB.out W1).mono ?_
 rintro e w2 ⟨⟨r,rfl,hr256,hbig,hsm⟩,hb3⟩
 have HB3:=hid (HB2.out.trans (hb3.mono HB2.out.size))
 have hA2:=HA.out.only (S:=fun _=>False) (A2.of_below_size hb3) (fun h=>h)
 have c0:=hA2.cell (i:=0) (by omega) (A0Z n 0 (by omega))
 have HR:=hid (And.intro hr256 (And.intro hbig hsm))
 have hl0:=HL.out
 clear hb3 hA2 ra f4 hr256 hbig hsm HC HNB
 by_cases h64:64≤r
 ·have d1:decide ((64:Int)≤(r:Int))=true:=decide_eq_true (by omega)
  have d2:(64≤r)=True:=eq_true h64
  have hI:A9h n=none:=by
   unfold A9h
   rw [if_neg (fun h=>by have:=HR.out.2.2 h;omega)]
  have HI:=hid hI
  clear h64 hI hl0 c0
  go_wp2
  go_ret2
  rw [HI.out]
  exact ⟨rfl,HB3.out⟩
 ·have d1:decide ((64:Int)≤(r:Int))=false:=decide_eq_false (by omega)
  have d2:(64≤r)=False:=eq_false h64
  have hn64:n < 18446744073709551616:=by
   rcases Nat.lt_or_ge n 18446744073709551616 with h | h
   ·exact h
   ·have:=HR.out.2.1 h;omega
  rw [hl0.2 hn64] at c0
  by_cases hg:n < 9223372036854775808
  ·have d3:decide ((9223372036854775807:Int) < (n:Int))=false:=decide_eq_false (by omega)
   have hI:A9h n=some n:=if_pos hg
   have hwn:IntKind.i64.wrap (n:Int)=n:=V3 _ (by omega) (by omega)
   have HI:=hid hI
   clear h64 hI hl0 hn64
   go_wp2
   go_ret2
   rw [HI.out]
   exact ⟨rfl,HB3.out⟩
  ·have d3:decide ((9223372036854775807:Int) < (n:Int))=true:=decide_eq_true (by omega)
   have hI:A9h n=none:=if_neg hg
   have HI:=hid hI
   clear h64 hI hl0 hn64 hg
   go_wp2
   go_ret2
   rw [HI.out]
   exact ⟨rfl,HB3.out⟩
end Go.Proofs.YtfflppedbopdpaaGreat
namespace Go.Proofs.YtfflppedbopdpaaGreat
open Go.RowKit Go.Mun
theorem A3l (l:List Int):∀ n i,(jumps l n i).Pairwise (· < ·)∧∀ x∈jumps l n i,(i:Int)≤x∧x < l.length
 | 0,_=>by simp [jumps]
 | n+1,i=>by
  obtain ⟨h1,h2⟩:=A3l l n (i+1+(K2 (l[i]?.getD 0)).toNat)
  rw [jumps]
  by_cases hi:i < l.length
  ·rw [if_pos hi]
   refine ⟨List.pairwise_append.2 ⟨by split <;> simp,h1,fun a ha b hb=>?_⟩,fun x hx=>?_⟩
   ·have:=(h2 b hb).1
    split at ha
    ·rw [List.mem_singleton] at ha;subst ha;omega
    ·cases ha
   ·rcases List.mem_append.1 hx with hx | hx
    ·split at hx
     ·rw [List.mem_singleton] at hx;subst hx;omega
     ·cases hx
    ·have:=h2 x hx;omega
  ·rw [if_neg hi];simp
def goJ (f:Fr) (S:St) (k:Nat):Res:=if (k:Int)∈jumps f.code f.code.length 0 then .ok { f with next:=k } S else .stop 13 f S
section
variable {E:Env} {w:World} {own:Go.Mun.Own} {c:FV} {f:Fr} {S:St} {n:Nat} {v:Value}
theorem A3T (k:Nat):goJ f S k≠.none:=by unfold goJ;split <;> simp
theorem A9s (k:Nat) (l:List Nat) (hk:k < wW) (h:I8 E w own c f S n) (hw:Wds E.w0.heap.size w v (k :: l)) :
  Calls Tryz.prog 143 #[.pointer (some ⟨E.fb,0,none⟩),v] w (Z4 E (goJ f S k)):=by
 obtain ⟨g,cc,rfl,hgb,hgl,hc1,hc2,hrow⟩:=hw.at (by simp)
 have hg0:=hrow 0 (by simp)
 simp only [Nat.zero_mul,List.getElem?_cons_zero,Option.getD_some] at hg0
 have HW:=hid (B3B k hk w)
 have hlk:=B0 32 k
 have hcl:(0:Int) < ((k :: l).length:Int):=by simp only [List.length_cons];omega
 obtain ⟨m,hm⟩:∃ m,m=(k :: l).length:=⟨_,rfl⟩
 rw [← hm] at hcl ⊢
 have H:=hid h
 obtain ⟨r,hr⟩:∃ r,r=goJ f S k:=⟨_,rfl⟩
 rw [← hr]
 have HRES:=hid hr
 clear h hw hrow hgb hgl hc1 hc2 hm hr
 go_enter Tryz.func143,Tryz.ntmps143
 go_wp2_with fail
 refine HW.out.mono ?_
 rintro e w1 ⟨rfl,hb1⟩
 have h1:=H.out.below hb1
 obtain ⟨ja,jc,hjv,hji,_⟩:=h1.jmp
 have cj:=B4x h1.row
 rw [hjv] at cj
 obtain ⟨hr1,hr2⟩:=A3l f.code f.code.length 0
 have hcd:=h1.code.len
 have hjl:(jumps f.code f.code.length 0).length≤1099511627776:=Nat.le_trans (A4g _ _ _) hcd
 have f7:=h1.one (i:=135) (by omega)
 have H1:=hid h1
 have HR:=hid hr2
 have HCD:=hid hcd
 have HJ:=hid (fun x hx=>B04 hji hr1 hjl x hx)
 obtain ⟨J,hJ⟩:∃ J,J=jumps f.code f.code.length 0:=⟨_,rfl⟩
 have HJJ:=hid hJ
 rw [← hJ] at cj HJ HR
 obtain ⟨jl,hjl2⟩:∃ jl,jl=J.length:=⟨_,rfl⟩
 rw [← hjl2] at cj HJ
 clear h1 hjv hji hr1 hr2 hcd hjl hb1 HW hJ hjl2
 have HGY:Hid ((k:Int)∈J→r = .ok { f with next:=k } S):=fun hin=>by rw [HRES.out];unfold goJ;rw [← HJJ.out,if_pos hin]
 have HGN:Hid (¬ (k:Int)∈J→r = .stop 13 f S):=fun hin=>by rw [HRES.out];unfold goJ;rw [← HJJ.out,if_neg hin]
 clear HRES HJJ
 by_cases hk63:k < 9223372036854775808
 ·have ei:A9h k=some k:=if_pos hk63
  rw [ei]
  simp only [Option.getD_some,Option.isSome_some]
  obtain ⟨d,hd⟩:∃ d,d=decide ((k:Int)∈J):=⟨_,rfl⟩
  have HJK:=hid (HJ.out (k:Int) (by omega))
  rw [← hd] at HJK
  clear ei HJ
  go_wp2_with fail
  refine HJK.out.mono ?_
  rintro e w2 ⟨i,rfl,rfl⟩
  cases d with
  | true =>
   have hin:(k:Int)∈J:=of_decide_eq_true hd.symm
   obtain rfl:=HGY.out hin
   have hkb:k≤2199023255552:=by have:=(HR.out _ hin).2;have:=HCD.out;omega
   clear hd hin HGY HGN
   go_wp2_with (go_at_call 225;refine (A2N _ _).mono ?_;rintro e w3 ⟨rfl,rfl⟩)
   go_end0
   exact ⟨rfl,own,c,n,H1.out.next k hkb⟩
  | false =>
   have hin:¬ (k:Int)∈J:=of_decide_eq_false hd.symm
   obtain rfl:=HGN.out hin
   clear hd hin HGY HGN
   go_wp2_with (go_at_call 225;refine (A2c _ _).mono ?_;rintro e w3 ⟨rfl,rfl⟩)
   exact ⟨rfl,rfl,own,c,n,f,S,H1.out,fun h=>by cases h⟩
 ·have ei:A9h k=none:=if_neg hk63
  rw [ei]
  simp only [Option.getD_none,Option.isSome_none]
  have hin:¬ (k:Int)∈J:=fun h=>by have:=(HR.out _ h).2;have:=HCD.out;omega
  obtain rfl:=HGN.out hin
  have HJK:=hid (HJ.out 0 (by omega))
  obtain ⟨d,hd⟩:∃ d,d=decide ((0:Int)∈J):=⟨_,rfl⟩
  rw [← hd] at HJK
  clear ei HJ hin hd HGY HGN
  go_wp2_with fail
  refine HJK.out.mono ?_
  rintro e w2 ⟨i,rfl,rfl⟩
  go_wp2_with (go_at_call 225;refine (A2c _ _).mono ?_;rintro e w3 ⟨rfl,rfl⟩)
  exact ⟨rfl,rfl,own,c,n,f,S,H1.out,fun h=>by cases h⟩
theorem B0Q (k b:Nat) (hk:k < wW) (hb:b < wW) (h:I8 E w own c f S n) (hw:Wds E.w0.heap.size w v [k,b]) :
  Calls Tryz.prog 144 #[.pointer (some ⟨E.fb,0,none⟩),v] w (Z4 E (if b=0 then .ok f S else goJ f S k)):=by
 have HJ:=hid (A9s k [b] hk h hw)
 obtain ⟨g,cc,rfl,hgb,hgl,hc1,hc2,hrow⟩:=hw.at (by simp)
 have hg1:=hrow 1 (by simp)
 simp only [Nat.one_mul,List.getElem?_cons_zero,List.getElem?_cons_succ,Option.getD_some] at hg1
 have hlk:=B0 32 b
 have HQ:=eqW (a:=b) (b:=0) hb (by unfold wW;omega) w
 have H:=hid h
 have hcx:([k,b]:List Nat).length=2:=rfl
 rw [hcx] at HJ ⊢
 clear h hw hrow hgb hgl hc1 hc2 hcx hk
 by_cases hb0:b=0
 ·have hd:decide (b=0)=true:=decide_eq_true hb0
  rw [if_pos hb0]
  rw [hd] at HQ
  clear hd hb0 HJ hb
  go_enter Tryz.func144,Tryz.ntmps144
  go_wp2
  go_end0
  exact ⟨rfl,own,c,n,H.out⟩
 ·have hd:decide (b=0)=false:=decide_eq_false hb0
  rw [if_neg hb0]
  rw [hd] at HQ
  have HG:=hid (A3T (f:=f) (S:=S) k)
  obtain ⟨r,hr⟩:∃ r,r=goJ f S k:=⟨_,rfl⟩
  rw [← hr] at HJ HG ⊢
  clear hd hb0 hb hr
  go_enter Tryz.func144,Tryz.ntmps144
  go_wp2_with fail
  refine HJ.out.mono ?_
  intro e w2 hp
  rcases Z4.split HG.out hp with ⟨rfl,hp⟩ | ⟨y,rfl,hp⟩
  ·have HP:=hid hp
   clear hp
   go_wp2
   go_end0
   exact HP.out
  ·have HP:=hid hp
   clear hp
   go_wp2
   exact ⟨rfl,HP.out⟩
end
end Go.Proofs.YtfflppedbopdpaaGreat
namespace Go.Proofs.YtfflppedbopdpaaGreat
open Go.RowKit Go.Mun
theorem A5k {w:World} {b i:Nat} {v:Value} (h:w.cell? ⟨b,i,none⟩=some v):w.setCell ⟨b,i,none⟩ v=w:=by
 suffices e:(w.setCell ⟨b,i,none⟩ v).heap=w.heap by
  have e2:w.setCell ⟨b,i,none⟩ v={ w with heap:=(w.setCell ⟨b,i,none⟩ v).heap }:=rfl
  rw [e2,e]
 unfold World.cell? at h
 unfold World.setCell
 apply Array.ext
 ·simp
 ·intro k h1 h2
  simp only [Array.getElem_modify]
  split
  ·rename_i e
   subst e
   rw [Array.getElem?_eq_getElem h2] at h
   cases hc:w.heap[b] with
   | cells c elem frozen =>
    rw [hc] at h
    simp only [Option.isSome_none,Bool.false_eq_true,if_false] at h ⊢
    have:c.setIfInBounds i v=c:=by
     apply Array.ext
     ·simp
     ·intro j j1 j2
      rw [Array.getElem_setIfInBounds]
      split
      ·rename_i e;subst e
       rw [Array.getElem?_eq_getElem j2] at h
       cases h;rfl
      ·rfl
    rw [this]
   | _=>rfl
  ·rfl
section
variable {E:Env} {w:World} {own:Go.Mun.Own} {c:FV} {f:Fr} {S:St} {n:Nat} {v:Value}
theorem B2o (x:Nat) (hx:x < wW) (hl:f.stack.length < 1024) (h:I8 E w own c f S n) :
  Calls Tryz.prog 275 #[.pointer (some ⟨E.fb,132,none⟩),.agg (A3 32 x).toArray] w fun e w'=>e = .returned (.bool true)∧∃ c',I8 E w' own c' { f with stack:=f.stack++[x] } S n:=by
 refine (A8x x (A5R h.row) (h.one (by omega)) (E8 h.stk (Nat.zero_le _)) (fun g hg=>(h.sown g hg).2) hl).mono ?_
 rintro e w' ⟨rfl,w1,sv',ho,rfl,hr,hb⟩
 refine ⟨rfl,_,h.stack ho hr hb (fun y hy=>?_) (by simp;omega)⟩
 rcases List.mem_append.1 hy with hy | hy
 ·exact h.sval y hy
 ·obtain rfl:=List.mem_singleton.1 hy;exact hx
theorem B3J (k:Nat) (h:I8 E w own c f S n) (hk:1≤k∧k≤f.stack.length) (hl:f.stack.length < 1024) :
  Calls Tryz.prog 378 #[.pointer (some ⟨E.fb,132,none⟩),.int .i64 (k:Int)] w fun e w'=>e = .returned (.bool true)∧∃ c',I8 E w' own c' { f with stack:=f.stack++[P3 f (k - 1)] } S n:=by
 obtain ⟨m,hm⟩:∃ m,m=f.stack.length:=⟨_,rfl⟩
 obtain ⟨i,hi⟩:∃ i,i=f.stack.length - k:=⟨_,rfl⟩
 have hil:i < f.stack.length:=by omega
 obtain ⟨x,hx⟩:∃ x,x=f.stack[i]'hil:=⟨_,rfl⟩
 have hxx:P3 f (k - 1)=x:=by rw [A7n (by omega),hx];congr 1;omega
 rw [hxx]
 have hxW:x < wW:=by rw [hx];exact h.sval _ (List.getElem_mem hil)
 obtain ⟨g,sc,hsv,hrow⟩:=X2 (b:=E.w0.heap.size) h.stk hil
 rw [← hx] at hrow
 have csv:=A5R h.row
 rw [hsv,← hm] at csv
 have csv1:=csv
 have HROW:=hid hrow
 have d1:decide ((k:Int) < 1)=false:=decide_eq_false (by omega)
 have d1n:(k < 1)=False:=eq_false (by omega)
 have d2:decide ((m:Int) < (k:Int))=false:=decide_eq_false (by omega)
 have d2n:(m < k)=False:=eq_false (by omega)
 have hw1:IntKind.i64.wrap ((m:Int) - (k:Int))=(i:Int):=by rw [V3 _ (by have:=h.slen;omega) (by have:=h.slen;omega)];omega
 have him:i < m:=by omega
 have HP:=hid (B2o x hxW hl (h.below (Below.refl _ _).drew))
 have hlx:=B0 32 x
 have HMK:=hid hk
 clear h hrow hsv hxx hx hi hil hl hm hxW hk csv
 go_enter Tryz.func378,Tryz.ntmps378
 go_wp2_with fail
 have q1:w.drew.cell? ⟨E.fb,132,none⟩=some (.slice (some ⟨g,0,none⟩) m sc):=csv1
 have q2:w.drew.row? g (i*32) 32=some (A3 32 x):=HROW.out
 go_still_tail 14,(by kernel_rfl)
 go_wp2_with fail
 refine HP.out.mono ?_
 rintro e w2 ⟨rfl,c2,h2⟩
 have HC:=hid h2
 clear h2
 go_wp2
 go_ret
 exact ⟨rfl,c2,HC.out⟩
theorem B6z (m:Nat) (hm:128≤m∧m≤143) (h:I8 E w own c f S n) (hs:m - 127≤f.stack.length) (hl:f.stack.length < 1024) :
  Calls Tryz.prog 371 #[.pointer (some ⟨E.fb,0,none⟩),.int .u8 (m:Int)] w (Z4 E (.ok { f with stack:=f.stack++[P3 f (m - 128)] } S)):=by
 have HD:=hid (B3J (m - 127) h ⟨by omega,hs⟩ hl)
 rw [show m - 127 - 1=m - 128 by omega,show ((m - 127:Nat):Int)=(m:Int) % 16+1 by omega] at HD
 have d1:decide ((m:Int) < 144)=true:=decide_eq_true (by omega)
 clear h hs hl
 go_enter Tryz.func371,Tryz.ntmps371
 go_wp2_with fail
 refine HD.out.mono ?_
 rintro e w2 ⟨rfl,c2,h2⟩
 have H2:=hid h2
 clear h2
 go_wp2
 go_end0
 exact ⟨rfl,own,c2,n,H2.out⟩
theorem I8.words {w1:World} {st':List Nat} (h:I8 E w own c f S n) (ho:A2 (fun g=>c.sv.ownBlock=some g) w w1) (hr:w1.ownsRow 0 25 32 c.sv st'.length (D3 st')) (hv:∀ x∈st',x < wW) (hn:st'.length≤1024) :
  I8 E w1 own c { f with stack:=st' } S n:=by
 have h1:=h.stack ho hr (fun g hg => .inl hg) hv hn
 have hc:w1.cell? ⟨E.fb,132,none⟩=some c.sv:=by
  rw [ho.cell? h.lt (fun e=>(h.sown _ e).2 rfl)]
  exact A5R h.row
 rw [A5k hc] at h1
 exact h1
end
end Go.Proofs.YtfflppedbopdpaaGreat
namespace Go.Proofs.YtfflppedbopdpaaGreat
open Go.RowKit Go.Mun
def A2n (l:List Nat) (k:Nat):List Nat:=(l.set (l.length - 1) (l.getD (l.length - 1 - k) 0)).set (l.length - 1 - k) (l.getD (l.length - 1) 0)
theorem B1M {l:List Nat} (h:∀ x∈l,x < wW) (i:Nat):l.getD i 0 < wW:=by
 rw [List.getD_eq_getElem?_getD]
 cases e:l[i]? with
 | none=>show 0 < wW;unfold wW;omega
 | some x=>exact h x (List.mem_of_getElem? e)
theorem A8u {l:List Nat} (h:∀ x∈l,x < wW) (k:Nat):∀ x∈A2n l k,x < wW:=by
 intro x hx
 unfold A2n at hx
 rcases List.mem_or_eq_of_mem_set hx with hx | rfl
 ·rcases List.mem_or_eq_of_mem_set hx with hx | rfl
  ·exact h x hx
  ·exact B1M h _
 ·exact B1M h _
section
variable {E:Env} {w:World} {own:Go.Mun.Own} {c:FV} {f:Fr} {S:St} {n:Nat} {v:Value}
theorem B2n (k:Nat) (h:I8 E w own c f S n) (hk:1≤k∧k < f.stack.length) :
  Calls Tryz.prog 379 #[.pointer (some ⟨E.fb,132,none⟩),.int .i64 (k:Int)] w fun e w'=>e = .returned (.bool true)∧I8 E w' own c { f with stack:=A2n f.stack k } S n:=by
 obtain ⟨m,hm⟩:∃ m,m=f.stack.length:=⟨_,rfl⟩
 obtain ⟨p,hp⟩:∃ p,p=f.stack.length - 1:=⟨_,rfl⟩
 obtain ⟨q,hq⟩:∃ q,q=f.stack.length - 1 - k:=⟨_,rfl⟩
 have hpl:p < f.stack.length:=by omega
 have hql:q < f.stack.length:=by omega
 obtain ⟨x,hx⟩:∃ x,x=f.stack[p]'hpl:=⟨_,rfl⟩
 obtain ⟨y,hy⟩:∃ y,y=f.stack[q]'hql:=⟨_,rfl⟩
 have hsw:A2n f.stack k=(f.stack.set p y).set q x:=by
  unfold A2n
  rw [← hq,← hp,hx,hy]
  simp [List.getD_eq_getElem?_getD,hpl,hql]
 have hx1:=hsw ▸ A8u h.sval k
 rw [hsw]
 obtain ⟨g,sc,hsv,_,_,_,hrow,hfree⟩:=I3 h.stk (by omega)
 have csv:=A5R h.row
 rw [hsv,← hm] at csv
 have r1:w.row? g (p*32) 32=some (A3 32 x):=by rw [World.row?_sub hrow (Nat.zero_le _) (by omega),Nat.sub_zero,A2r _ p hpl,hx]
 have r2:w.row? g (q*32) 32=some (A3 32 y):=by rw [World.row?_sub hrow (Nat.zero_le _) (by omega),Nat.sub_zero,A2r _ q hql,hy]
 have f1:w.drew.free? g (p*32) 32=true:=World.free?_sub hfree (by omega)
 have f2:w.drew.free? g (q*32) 32=true:=World.free?_sub hfree (by omega)
 have hsl:=h.slen
 have w1:IntKind.i64.wrap ((m:Int) - 1)=(p:Int):=by rw [V3 _ (by omega) (by omega)];omega
 have w2:IntKind.i64.wrap ((p:Int) - (k:Int))=(q:Int):=by rw [V3 _ (by omega) (by omega)];omega
 have d1:decide ((k:Int) < 1)=false:=decide_eq_false (by omega)
 have d1n:(k < 1)=False:=eq_false (by omega)
 have d2:decide ((p:Int) < (k:Int))=false:=decide_eq_false (by omega)
 have d2n:(p < k)=False:=eq_false (by omega)
 have hpm:p < m:=by omega
 have hqm:q < m:=by omega
 have hlx:=B0 32 x
 have hly:=B0 32 y
 have okx:=C7 32 x
 have oky:=C7 32 y
 have H:=hid h
 have HST:=hid h.stk
 rw [hsv,← hm] at HST
 have HSV:Hid (c.sv = .slice (some ⟨g,0,none⟩) m sc):=by show c.sv=_;rw [hsv,hm]
 have HM:=hid hm
 have HX1:=hid hx1
 have HPQ:Hid (p < f.stack.length∧q < f.stack.length):=⟨hpl,hql⟩
 obtain ⟨T,hT⟩:∃ T:World→Prop,T=fun W=>W.cell? ⟨E.fb,132,none⟩=some (.slice (some ⟨g,0,none⟩) m sc)∧W.row? g (p*32) 32=some (A3 32 x)∧W.row? g (q*32) 32=some (A3 32 y):=⟨_,rfl⟩
 have HT:=hid hT
 have t0:T w.drew:=by rw [hT];exact ⟨csv,r1,r2⟩
 have hkm:k < m:=by omega
 clear h hsv hrow hfree hx hy hpl hql hsw hm hp hq hk hx1 hT r1 r2 hsl
 go_enter Tryz.func379,Tryz.ntmps379
 go_wp2_with fail
 refine A6 T [29,31] (.pure 0 (.pure 1 (.pure 2 (.take 3 (.pure 4 (.pure 5 (.pure 6 (.pure 7 (.take 8 (.pure 9 (.pure 10 (.pure 11 (.pure 12 (.pure 13 (.pure 14 (.take 15 (.pure 16 (.pure 17 (.pure 18 (.pure 19 (.take 20 (.pure 21 (.pure 22 (.pure 23 (.take 24 (.pure 25 (.pure 26 (.take 27 (.pure 28 (.alt 29 (.pure 30 (.alt 31 .fin .stop)) .stop)))))))))))))))))))))))))))))) (by kernel_rfl) (by kernel_rfl) ?_
 iterate 29
  first
  |refine A0 ?_ rfl (by rfl) (fun w' hs=>?_) (fun _ _ _ h=>h) ?_
   rotate_left
   ·clear hs
    go_simp
    try rfl
   simp only [Act.put,D6,D5,D4]
  |refine A9 ?_ t0 rfl (by rfl) (fun w' hs=>?_) (fun _ _ _ h=>h) ?_
   rotate_left
   ·rw [HT.out] at hs
    obtain ⟨s0,s1,s2⟩:=hs
    go_simp
    try rfl
   simp only [Act.put,D6,D5,D4]
 refine L0 rfl (by simp) (fun K hK=>?_)
 go_simp
 refine hK.out _ _ ?_
 clear hK K
 refine A0 ?_ rfl (by rfl) (fun w' hs=>?_) (fun _ _ _ h=>h) ?_
 rotate_left
 ·clear hs
  go_simp
  try rfl
 simp only [Act.put,D6,D5,D4]
 have f2':(w.drew.setCells g (p*32) (A3 32 y)).free? g (q*32) 32=true:=by rw [World.free?_setCells'];exact f2
 refine L0 rfl (by simp) (fun K hK=>?_)
 go_simp
 refine hK.out _ _ ?_
 clear hK K
 refine C3 ?_
 go_wp2
 go_ret
 refine ⟨rfl,?_⟩
 have HH:=H.out.below (Below.refl w.heap.size w).drew
 have hs0:w.drew.ownsRow E.w0.heap.size 25 32 (.slice (some ⟨g,0,none⟩) m sc) m (D3 f.stack):=HST.out
 have hs1:=A0n hs0 (p*32) (A3 32 y) (by rw [B0];omega)
 rw [A1n _ _ _ HPQ.out.1] at hs1
 have hs2:=A0n hs1 (q*32) (A3 32 x) (by rw [B0];omega)
 rw [A1n _ _ _ (by rw [List.length_set];exact HPQ.out.2)] at hs2
 have hO:A2 (fun b=>c.sv.ownBlock=some b) w.drew ((w.drew.setCells g (p*32) (A3 32 y)).setCells g (q*32) (A3 32 x)):=((A2.refl _ _).setCells (fun _=>by rw [HSV.out];rfl) _ _).setCells (fun _=>by rw [HSV.out];rfl) _ _
 refine HH.words hO ?_ HX1.out (by simp only [List.length_set];exact HH.slen)
 rw [HSV.out]
 simp only [List.length_set]
 try rw [← HM.out]
 exact E8 hs2 (Nat.zero_le _)
theorem B4C (m:Nat) (hm:144≤m∧m≤159) (h:I8 E w own c f S n) (hs:m - 143 < f.stack.length) :
  Calls Tryz.prog 371 #[.pointer (some ⟨E.fb,0,none⟩),.int .u8 (m:Int)] w (Z4 E (.ok { f with stack:=A2n f.stack (m - 143) } S)):=by
 have HD:=hid (B2n (m - 143) h ⟨by omega,hs⟩)
 rw [show ((m - 143:Nat):Int)=(m:Int) % 16+1 by omega] at HD
 have d1:decide ((m:Int) < 144)=false:=decide_eq_false (by omega)
 clear h hs
 go_enter Tryz.func371,Tryz.ntmps371
 go_wp2_with fail
 refine HD.out.mono ?_
 rintro e w2 ⟨rfl,h2⟩
 have H2:=hid h2
 clear h2
 go_wp2
 go_end0
 exact ⟨rfl,own,c,n,H2.out⟩
end
end Go.Proofs.YtfflppedbopdpaaGreat
namespace Go.Proofs.YtfflppedbopdpaaGreat
open Go.RowKit Go.Mun
def A9J (f:Fr) (S:St) (op:Int) (v:List Nat):Res:=
 if op=91 then .ok f S
 else if op=21 then (match v with | [k]=>if f.stack.length < 1024 then .ok { f with stack:=f.stack++[if k=0 then 1 else 0] } S else .none | _ => .none)
 else if op=3 then (match v with | [a,b]=>if f.stack.length < 1024 then .ok { f with stack:=f.stack++[(a+wW - b) % wW] } S else .none | _ => .none)
 else if op=86 then (match v with | [k]=>goJ f S k | _ => .none)
 else if op=87 then (match v with | [k,b]=>if b=0 then .ok f S else goJ f S k | _ => .none)
 else B3x f S op v
def turnL (f:Fr) (S:St) (op:Int):Res:=
 if 128≤op∧op≤143 then (if op.toNat - 127≤f.stack.length∧f.stack.length < 1024 then .ok { f with stack:=f.stack++[P3 f (op.toNat - 128)] } S else .none)
 else if 144≤op∧op≤159 then (if op.toNat - 143 < f.stack.length then .ok { f with stack:=A2n f.stack (op.toNat - 143) } S else .none)
 else .none
def M3:Fr→St→Res:=V5 A9J turnL
theorem A5e {sb rb tb:Nat} {cx:Ctx} {tab:Z7} (ht:A2o tab):A3n sb rb tb cx tab M3:=by
 intro E w own c f S n h1 h2 h3 h4 h5 hN h hlt hne
 have htt:A2o E.tab:=by rw [h5];exact ht
 refine B0I h hN hlt A9J turnL hne ?_ ?_
 ·intro w' own' c' f' n' v l hf hn2 hw hv hb hg
  unfold A9J at hn2 ⊢
  split at hn2
  ·rename_i hc
   rw [if_pos hc,hc]
   exact A7Z 91 137 (by decide) (by decide) (by decide) (by decide) (fun _ _=>rfl) htt hf (by simp) (B4E hf)
  rename_i hc1
  rw [if_neg hc1]
  split at hn2
  ·rename_i hc
   rw [if_pos hc,hc]
   match l,hw,hv,hb,hn2 with
   | [k],hw,hv,hb,hn2 =>
    simp only at hn2 ⊢
    split at hn2
    ·rename_i hd
     rw [if_pos hd]
     exact A7Z 21 106 (by decide) (by decide) (by decide) (by decide) (fun _ _=>rfl) htt hf (by simp) (B0R k (hv k (by simp)) hd hf hw)
    ·exact absurd rfl hn2
   | [],_,_,_,hn2=>exact absurd rfl hn2
   | _ :: _ :: _,_,_,_,hn2=>exact absurd rfl hn2
  rename_i hc2
  rw [if_neg hc2]
  split at hn2
  ·rename_i hc
   rw [if_pos hc,hc]
   match l,hw,hv,hb,hn2 with
   | [a,b],hw,hv,hb,hn2 =>
    simp only at hn2 ⊢
    split at hn2
    ·rename_i hd
     rw [if_pos hd]
     exact B8b a b (hv a (by simp)) (hv b (by simp)) htt hd hf hw
    ·exact absurd rfl hn2
   | [],_,_,_,hn2=>exact absurd rfl hn2
   | [_],_,_,_,hn2=>exact absurd rfl hn2
   | _ :: _ :: _ :: _,_,_,_,hn2=>exact absurd rfl hn2
  rename_i hc3
  rw [if_neg hc3]
  split at hn2
  ·rename_i hc
   rw [if_pos hc,hc]
   match l,hw,hv,hb,hn2 with
   | [k],hw,hv,hb,hn2=>exact A7Z 86 143 (by decide) (by decide) (by decide) (by decide) (fun _ _=>rfl) htt hf (A3T k) (A9s k [] (hv k (by simp)) hf hw)
   | [],_,_,_,hn2=>exact absurd rfl hn2
   | _ :: _ :: _,_,_,_,hn2=>exact absurd rfl hn2
  rename_i hc4
  rw [if_neg hc4]
  split at hn2
  ·rename_i hc
   rw [if_pos hc,hc]
   match l,hw,hv,hb,hn2 with
   | [k,b],hw,hv,hb,hn2=>exact A7Z 87 144 (by decide) (by decide) (by decide) (by decide) (fun _ _=>rfl) htt hf hn2 (B0Q k b (hv k (by simp)) (hv b (by simp)) hf hw)
   | [],_,_,_,hn2=>exact absurd rfl hn2
   | [_],_,_,_,hn2=>exact absurd rfl hn2
   | _ :: _ :: _ :: _,_,_,_,hn2=>exact absurd rfl hn2
  rename_i hc5
  rw [if_neg hc5]
  exact B6P htt hN hf hn2 hw hv hb
 ·intro w' own' c' f' n' hf hn2
  unfold turnL at hn2 ⊢
  split at hn2
  ·rename_i hc
   rw [if_pos hc]
   split at hn2
   ·rename_i hd
    rw [if_pos hd]
    obtain ⟨m,hm⟩:∃ m:Nat,X8 f=m:=⟨(X8 f).toNat,by omega⟩
    rw [hm] at hc hd ⊢
    simp only [Int.toNat_natCast] at hd ⊢
    exact B6z m ⟨by omega,by omega⟩ hf hd.1 hd.2
   ·exact absurd rfl hn2
  rename_i hc1
  rw [if_neg hc1]
  split at hn2
  ·rename_i hc
   rw [if_pos hc]
   split at hn2
   ·rename_i hd
    rw [if_pos hd]
    obtain ⟨m,hm⟩:∃ m:Nat,X8 f=m:=⟨(X8 f).toNat,by omega⟩
    rw [hm] at hc hd ⊢
    simp only [Int.toNat_natCast] at hd ⊢
    exact B4C m ⟨by omega,by omega⟩ hf hd
   ·exact absurd rfl hn2
  ·exact absurd rfl hn2
end Go.Proofs.YtfflppedbopdpaaGreat
namespace Go.Proofs.YtfflppedbopdpaaGreat
open Go.RowKit Go.Mun
def B8d (f:Fr) (S:St) (x:Int):Res:=
 if x=0 then .ok { f with ended:=true } S
 else if 96≤x∧x≤127 then .ok { f with stack:=f.stack++[A84 f (x.toNat - 95)] } S
 else if x=85 then .ok { f with stack:=f.stack.take (f.stack.length - 2) } (S.setSlot f.m.to (P3 f 0) (P3 f 1))
 else .none
theorem A8s (E:Q5):A9N E U8 B8d where
 price:=by
  intro w own c f S M n h htl hn
  unfold U8 at hn ⊢
  by_cases h85:opR f=85
  ·rw [if_pos h85] at hn ⊢
   by_cases hl:2≤f.stack.length
   ·rw [if_pos hl]
    rw [h85]
    refine (A6m h hl).mono ?_
    rintro e w' ⟨rfl,hb⟩
    refine ⟨rfl,?_,⟨own,c,M,n,h.below hb,htl,rfl⟩,A2.of_below_size hb⟩
    unfold I4
    split <;> omega
   ·rw [if_neg hl] at hn
    exact absurd rfl hn
  ·rw [if_neg h85] at hn ⊢
   by_cases hx:B1y (opR f)=true∧opR f≠10
   ·rw [if_pos hx]
    refine (A7E (opR f) (B54 hx.1) hx.2 h85 E.fb w).mono ?_
    rintro e w' ⟨rfl,rfl⟩
    exact ⟨rfl,by decide,⟨own,c,M,n,h,htl,rfl⟩,A2.refl _ _⟩
   ·rw [if_neg hx] at hn
    exact absurd rfl hn
 act:=by
  intro w own c f S M n p q g h htl _ ho hp hq hd hcost
  unfold B8d at hd ⊢
  by_cases h0:opR f=0
  ·rw [if_pos h0,h0]
   exact B34 h htl
  rw [if_neg h0] at hd ⊢
  by_cases h1:96≤opR f∧opR f≤127
  ·rw [if_pos h1]
   obtain ⟨m,hm,hop⟩:=A7J h
   rw [hop] at h1 ho ⊢
   have hpq:p=0∧q=1:=by
    unfold ofL at ho
    rw [if_pos h1] at ho
    cases ho
    exact ⟨rfl,rfl⟩
   rw [show ((m:Int)).toNat - 95=m - 95 by omega]
   exact B35 m (by omega) h htl (by omega)
  rw [if_neg h1] at hd ⊢
  by_cases h2:opR f=85
  ·rw [if_pos h2]
   rw [h2] at ho hcost ⊢
   have ho2:ofL 85=some (2,0,0):=by kernel_rfl
   rw [ho2] at ho
   cases ho
   have hl:2≤f.stack.length:=by omega
   have hslack:n+2+f.gas≤E.N:=by
    obtain ⟨f0,f1,k,hk,hc⟩:=hcost
    unfold U8 at hk
    rw [if_pos rfl] at hk
    split at hk
    ·cases hk
     have:5000≤I4 ((S f0.m.to).slots (P3 f0 0)) (P3 f0 1):=by unfold I4;split <;> omega
     omega
    ·cases hk
   refine A2K (x:=85) (p:=2) (q:=0) (g:=0) (by omega) h htl ho2 hl (by simp) ?_
   intro W v c' h' htl' hjv hv hvo
   rw [B7l hl] at hv
   refine (A7x (k:=P3 f 0) (x:=P3 f 1) h' hslack (A0J h 0) (A0J h 1) (E8 hv (Nat.zero_le _))).mono ?_
   rintro e w' ⟨rfl,own',h3,_⟩
   exact ⟨rfl,own',c',M,n+2,h3,htl',hjv⟩
  rw [if_neg h2] at hd ⊢
  exact absurd rfl hd
end Go.Proofs.YtfflppedbopdpaaGreat
namespace Go.Proofs.YtfflppedbopdpaaGreat
open Go.RowKit Go.Mun
theorem B5P {E:Q5} {w:World} {own:Go.Mun.Own} {c:RFV} {f:Fr} {S:St} {M:List (Nat × St)} {n:Nat} {x p:Nat} {q g:Int} {r:Res} (hx:1≤x∧x≤7) (h:C9 E w own c f S M n) (htl:c.tl=K3 A0c) (ho:ofL (x:Int)=some ((p:Int),q,g)) (hp:p≤f.stack.length) (hrn:r≠.none)
  (a b z:Nat) (hp2:p=2) (hst:f.stack.reverse.take 2 = [a,b]) (hz:z < wW) (hl2:(f.stack.take (f.stack.length - p)).length < 1024) (hr2:r = .ok { f with stack:=f.stack.take (f.stack.length - p)++[z] } S)
  (hrk:∀ W,Calls Tryz.prog 264 #[.int .u8 (x:Int),.agg (A3 32 a).toArray,.agg (A3 32 b).toArray] W fun e w'=>e = .returned (.agg (A3 32 z).toArray)∧Below W.heap.size W w') :
  Calls Tryz.prog 179 #[.pointer (some ⟨E.fb,0,none⟩),.int .u8 (x:Int),c.jv] w (RDo E c.jv r):=by
 obtain ⟨y,hy,hyy⟩:=A7R x (by omega)
 rw [ho] at hyy
 have hr:=A5q h htl x y hy
 have hc:w.cell? ⟨E.fb,236+x*5+2,none⟩=some (.int .i64 (p:Int)):=by
  have:=World.row?_cell hr (i:=2) (by omega)
  rw [this,← hyy.2.1];unfold Inf.c;rfl
 obtain ⟨T,hT⟩:∃ T:World→Prop,T=fun W=>W.cell? ⟨E.fb,236+x*5+2,none⟩=some (.int .i64 (p:Int)):=⟨_,rfl⟩
 have HT:=hid hT
 have t0:T w.drew:=by rw [hT];exact hc
 have HP:=hid (B1u p hp (h.below (Below.refl _ _).drew))
 have HTL:=hid htl
 have HRK:=hid hrk
 have HST:=hid hst
 have HL2:=hid hl2
 have HR2:=hid hr2
 have HP2:=hid hp2
 have HRN:=hid hrn
 have d0:decide ((96:Int)≤(x:Int))=false:=decide_eq_false (by omega)
 have d1:decide ((x:Int) < 128)=true:=decide_eq_true (by omega)
 have d2:decide ((128:Int)≤(x:Int))=false:=decide_eq_false (by omega)
 have d3:decide ((144:Int)≤(x:Int))=false:=decide_eq_false (by omega)
 have d4:decide ((1:Int)≤(x:Int))=true:=decide_eq_true (by omega)
 have d5:decide ((x:Int)≤7)=true:=decide_eq_true (by omega)
 have d6:decide ((x:Int)=10)=false:=decide_eq_false (by omega)
 have b6:((x:Int) == 10)=false:=by simp;omega
 have d7:decide ((x:Int)=11)=false:=decide_eq_false (by omega)
 have b7:((x:Int) == 11)=false:=by simp;omega
 have d8:decide ((16:Int)≤(x:Int))=false:=decide_eq_false (by omega)
 have d9:decide ((x:Int)≤20)=true:=decide_eq_true (by omega)
 have d10:decide ((22:Int)≤(x:Int))=false:=decide_eq_false (by omega)
 have d11:decide ((x:Int)≤24)=true:=decide_eq_true (by omega)
 have d12:decide ((26:Int)≤(x:Int))=false:=decide_eq_false (by omega)
 have d13:decide ((x:Int)≤29)=true:=decide_eq_true (by omega)
 have d14:decide ((48:Int)≤(x:Int))=false:=decide_eq_false (by omega)
 have d15:decide ((x:Int)≤71)=true:=decide_eq_true (by omega)
 have d16:decide ((160:Int)≤(x:Int))=false:=decide_eq_false (by omega)
 have d17:decide ((240:Int)≤(x:Int))=false:=decide_eq_false (by omega)
 have HX:=hid hx
 have hxI:(0:Int)≤(x:Int)∧(x:Int) < 256:=by omega
 have HXI:=hid hxI
 have htn:(x:Int).toNat=x:=Int.toNat_natCast x
 have hxl:((x:Int) < 256)=True:=eq_true (by omega)
 have hxn:(x < 256)=True:=eq_true (by omega)
 clear h htl hr hc hT hy hyy ho hp hx hxI hrn hrk hst hl2 hr2 hp2
 go_enter Tryz.func179,Tryz.ntmps179
 go_wp2_with fail
 refine A6 T [10] (.pure 0 (.pure 1 (.pure 2 (.pure 3 (.pure 4 (.pure 5 (.pure 6 (.pure 7 (.pure 8 (.take 9 (.alt 10 (.pure 11 (.pure 12 (.pure 13 (.pure 14 (.pure 15 .fin))))) .stop))))))))))) (by kernel_rfl) (by kernel_rfl) ?_
 iterate 10
  first
  |refine A0 ?_ rfl (by rfl) (fun w' hs=>?_) (fun _ _ _ h=>h) ?_
   rotate_left
   ·clear hs
    go_simp
    try rfl
   simp only [Act.put,D6,D5,D4]
  |refine A9 ?_ t0 rfl (by rfl) (fun w' hs=>?_) (fun _ _ _ h=>h) ?_
   rotate_left
   ·rw [HT.out] at hs
    have s1:=hs
    go_simp
    try rfl
   simp only [Act.put,D6,D5,D4]
 refine L0 rfl (by simp) (fun K hK=>?_)
 go_simp
 refine HP.out.mono ?_
 rintro e w1 ⟨v,c1,rfl,h1,⟨ht1,hj1⟩,hv1,ho1⟩
 have H1:=hid h1
 have HT1:=hid (ht1.trans HTL.out)
 have HJ1:=hid hj1
 have HV:=hid hv1
 have HVO:=hid ho1
 clear h1 ht1 hj1 hv1 ho1
 refine hK.out _ _ ?_
 clear hK K
 iterate 5
  refine A0 ?_ rfl (by rfl) (fun w' hs=>?_) (fun _ _ _ h=>h) ?_
  rotate_left
  ·clear hs
   go_simp
   try rfl
  simp only [Act.put,D6,D5,D4]
 refine C3 ?_
 have hv:=HV.out
 rw [HP2.out,HST.out] at hv
 obtain ⟨g,vc,hvf,r0⟩:=X2 (b:=0) (l:=[a,b]) hv (i:=0) (by simp)
 obtain ⟨g1,vc1,hvf1,r1⟩:=X2 (b:=0) (l:=[a,b]) hv (i:=1) (by simp)
 rw [hvf] at hvf1
 cases hvf1
 subst hvf
 simp only [List.getElem_cons_zero,List.getElem_cons_succ,Nat.zero_mul,Nat.one_mul,List.length_cons,List.length_nil,Nat.zero_add] at r0 r1
 obtain ⟨T2,hT2⟩:∃ T2:World→Prop,T2=fun W=>C9 E W own c1 { f with stack:=f.stack.take (f.stack.length - p) } S M n∧W.row? g 0 32=some (A3 32 a)∧W.row? g 32 32=some (A3 32 b):=⟨_,rfl⟩
 have HT2:=hid hT2
 have HTB:Hid (∀ W W',T2 W→Below W.heap.size W W'→T2 W'):=by
  show ∀ W W',T2 W→Below W.heap.size W W'→T2 W'
  rw [hT2]
  intro W W' h hb
  exact ⟨h.1.below hb,((D2 hb).1 _ _ _ (World.row?_lt h.2.1)).trans h.2.1,((D2 hb).1 _ _ _ (World.row?_lt h.2.2)).trans h.2.2⟩
 have HTG:Hid (∀ W,T2 W→C9 E W own c1 { f with stack:=f.stack.take (f.stack.length - p) } S M n):=by show ∀ W,T2 W→_;rw [hT2];intro W h;exact h.1
 have q0:T2 w1.drew:=by rw [hT2];exact ⟨H1.out.below (Below.refl _ _).drew,r0,r1⟩
 have hla:=B0 32 a
 have hlb:=B0 32 b
 obtain rfl:=HR2.out
 clear t0 hv hT2 r0 r1 HV HVO
 go_wp2_with fail
 refine A1I T2 [11] (.pure 0 (.pure 1 (.pure 2 (.pure 3 (.pure 4 (.pure 5 (.take 6 (.pure 7 (.pure 8 (.take 9 (.alt 10 (.alt 11 .fin .stop) .stop))))))))))) (by kernel_rfl) (by kernel_rfl) ?_
 iterate 10
  first
  |refine A0 ?_ rfl (by rfl) (fun w' hs=>?_) (fun _ _ _ h=>h) ?_
   rotate_left
   ·clear hs
    go_simp
    try rfl
   simp only [Act.put,D6,D5,D4]
  |refine A9 ?_ q0 rfl (by rfl) (fun w' hs=>?_) (fun _ _ _ h=>h) ?_
   rotate_left
   ·rw [HT2.out] at hs
    obtain ⟨_,s1,s2⟩:=hs
    go_simp
    try rfl
   simp only [Act.put,D6,D5,D4]
 refine A8 rfl (fun K hK=>?_)
 go_simp
 refine (HRK.out _).mono ?_
 rintro e w2 ⟨rfl,hb2⟩
 have q1:T2 w2:=HTB.out _ _ q0 hb2
 clear hb2
 refine hK.out _ _ q1 ?_
 clear hK K
 refine L0 rfl (by simp) (fun K hK=>?_)
 go_simp
 refine (A7D z hz HL2.out (HTG.out _ q1)).mono ?_
 rintro e w3 ⟨rfl,c3,h3,ht3,hj3⟩
 have H3:=hid h3
 have HT3:=hid (ht3.trans HT1.out)
 have HJ3:=hid (hj3.trans HJ1.out)
 clear h3 ht3 hj3
 refine hK.out _ _ ?_
 clear hK K
 refine C3 ?_
 go_wp2
 go_ret
 exact ⟨rfl,own,c3,M,n,H3.out,HT3.out,HJ3.out⟩
theorem A5t (a b:Nat) (ha:a < wW) (hb:b < wW) (w:World):Calls Tryz.prog 264 #[.int .u8 3,.agg (A3 32 a).toArray,.agg (A3 32 b).toArray] w fun e w'=>e = .returned (.agg (A3 32 ((a+wW - b) % wW)).toArray)∧Below w.heap.size w w':=by
 have hla:=B0 32 a
 have hlb:=B0 32 b
 obtain ⟨w0,e0⟩:∃ w0,w0=((w.alloc (.cells (A3 32 a).toArray 25)).alloc (.cells (A3 32 b).toArray 25)).alloc (.cells (K0 32).toArray 25):=⟨_,rfl⟩
 have hb0:Below w.heap.size w w0:=by rw [e0];exact (((Below.refl _ _).alloc (Nat.le_refl _) _).alloc (by simp) _).alloc (by simp;omega) _
 have f0:w0.free? (w.heap.size+1+1) 0 32=true:=by rw [e0];exact World.free?_alloc_at _ _ (by simp) (by simp)
 have HS:=hid (fun W=>B1t a b ha hb W)
 have HE:=hid e0
 have HB:=hid hb0
 have HF:=hid f0
 have hok:=C7 32 ((a+wW - b) % wW)
 have hlk:=B0 32 ((a+wW - b) % wW)
 have ew:A3 32 (a+wW - b)=A3 32 ((a+wW - b) % wW):=(B44 _).symm
 rw [ew] at HS
 clear e0 hb0 f0 ew
 generalize (a+wW - b) % wW=y at *
 go_enter Tryz.func264,Tryz.ntmps264
 go_wp2_with fail
 refine (HS.out _).mono ?_
 rintro e w1 ⟨rfl,hb1⟩
 rw [← HE.out] at hb1
 have f1:w1.free? (w.heap.size+1+1) 0 32=true:=by rw [(D2 hb1).2 _ _ _ (C4 HF.out)];exact HF.out
 have HB1:Hid (Below w.heap.size w w1):=HB.out.trans (hb1.mono HB.out.size)
 clear hb1
 go_wp2
 exact F2 A1L rfl _ rfl rfl f1 hok ⟨rfl,HB1.out.setCells (by omega) _ _⟩
end Go.Proofs.YtfflppedbopdpaaGreat
namespace Go.Proofs.YtfflppedbopdpaaGreat
open Go.RowKit Go.Mun
theorem A8X {E:Q5} {w:World} {own:Go.Mun.Own} {c:RFV} {f:Fr} {S:St} {M:List (Nat × St)} {n:Nat} {x p:Nat} {q g:Int} {r:Res} (hx:21≤x∧x≤21) (h:C9 E w own c f S M n) (htl:c.tl=K3 A0c) (ho:ofL (x:Int)=some ((p:Int),q,g)) (hp:p≤f.stack.length) (hrn:r≠.none)
  (hcl:∀ W v c',C9 E W own c' { f with stack:=f.stack.take (f.stack.length - p) } S M n→c'.tl=K3 A0c→c'.jv=c.jv→W.ownsRow w.heap.size 25 32 v p (D3 (f.stack.reverse.take p)) →
   (∀ g,v.ownBlock=some g→own g=none∧c'.sv.ownBlock≠some g∧c'.mv.ownBlock≠some g)→Calls Tryz.prog 269 #[.pointer (some ⟨E.fb,0,none⟩),.int .u8 (x:Int),v,c.jv] W (RDo E c.jv r)) :
  Calls Tryz.prog 179 #[.pointer (some ⟨E.fb,0,none⟩),.int .u8 (x:Int),c.jv] w (RDo E c.jv r):=by
 obtain ⟨y,hy,hyy⟩:=A7R x (by omega)
 rw [ho] at hyy
 have hr:=A5q h htl x y hy
 have hc:w.cell? ⟨E.fb,236+x*5+2,none⟩=some (.int .i64 (p:Int)):=by
  have:=World.row?_cell hr (i:=2) (by omega)
  rw [this,← hyy.2.1];unfold Inf.c;rfl
 obtain ⟨T,hT⟩:∃ T:World→Prop,T=fun W=>W.cell? ⟨E.fb,236+x*5+2,none⟩=some (.int .i64 (p:Int)):=⟨_,rfl⟩
 have HT:=hid hT
 have t0:T w.drew:=by rw [hT];exact hc
 have HP:=hid (B1u p hp (h.below (Below.refl _ _).drew))
 have HTL:=hid htl
 have HCL:=hid hcl
 have HRN:=hid hrn
 have d0:decide ((96:Int)≤(x:Int))=false:=decide_eq_false (by omega)
 have d1:decide ((x:Int) < 128)=true:=decide_eq_true (by omega)
 have d2:decide ((128:Int)≤(x:Int))=false:=decide_eq_false (by omega)
 have d3:decide ((144:Int)≤(x:Int))=false:=decide_eq_false (by omega)
 have d4:decide ((1:Int)≤(x:Int))=true:=decide_eq_true (by omega)
 have d5:decide ((x:Int)≤7)=false:=decide_eq_false (by omega)
 have d6:decide ((x:Int)=10)=false:=decide_eq_false (by omega)
 have b6:((x:Int) == 10)=false:=by simp;omega
 have d7:decide ((x:Int)=11)=false:=decide_eq_false (by omega)
 have b7:((x:Int) == 11)=false:=by simp;omega
 have d8:decide ((16:Int)≤(x:Int))=true:=decide_eq_true (by omega)
 have d9:decide ((x:Int)≤20)=false:=decide_eq_false (by omega)
 have d10:decide ((22:Int)≤(x:Int))=false:=decide_eq_false (by omega)
 have d11:decide ((x:Int)≤24)=true:=decide_eq_true (by omega)
 have d12:decide ((26:Int)≤(x:Int))=false:=decide_eq_false (by omega)
 have d13:decide ((x:Int)≤29)=true:=decide_eq_true (by omega)
 have d14:decide ((48:Int)≤(x:Int))=false:=decide_eq_false (by omega)
 have d15:decide ((x:Int)≤71)=true:=decide_eq_true (by omega)
 have d16:decide ((160:Int)≤(x:Int))=false:=decide_eq_false (by omega)
 have d17:decide ((240:Int)≤(x:Int))=false:=decide_eq_false (by omega)
 have HX:=hid hx
 have hxI:(0:Int)≤(x:Int)∧(x:Int) < 256:=by omega
 have HXI:=hid hxI
 have htn:(x:Int).toNat=x:=Int.toNat_natCast x
 have hxl:((x:Int) < 256)=True:=eq_true (by omega)
 have hxn:(x < 256)=True:=eq_true (by omega)
 clear h htl hr hc hT hy hyy ho hp hcl hx hxI hrn
 go_enter Tryz.func179,Tryz.ntmps179
 go_wp2_with fail
 refine A6 T [10] (.pure 0 (.pure 1 (.pure 2 (.pure 3 (.pure 4 (.pure 5 (.pure 6 (.pure 7 (.pure 8 (.take 9 (.alt 10 (.pure 11 (.pure 12 (.pure 13 (.pure 14 (.pure 15 .fin))))) .stop))))))))))) (by kernel_rfl) (by kernel_rfl) ?_
 iterate 10
  first
  |refine A0 ?_ rfl (by rfl) (fun w' hs=>?_) (fun _ _ _ h=>h) ?_
   rotate_left
   ·clear hs
    go_simp
    try rfl
   simp only [Act.put,D6,D5,D4]
  |refine A9 ?_ t0 rfl (by rfl) (fun w' hs=>?_) (fun _ _ _ h=>h) ?_
   rotate_left
   ·rw [HT.out] at hs
    have s1:=hs
    go_simp
    try rfl
   simp only [Act.put,D6,D5,D4]
 refine L0 rfl (by simp) (fun K hK=>?_)
 go_simp
 refine HP.out.mono ?_
 rintro e w1 ⟨v,c1,rfl,h1,⟨ht1,hj1⟩,hv1,ho1⟩
 have H1:=hid h1
 have HT1:=hid (ht1.trans HTL.out)
 have HJ1:=hid hj1
 have HV:=hid hv1
 have HVO:=hid ho1
 clear h1 ht1 hj1 hv1 ho1
 refine hK.out _ _ ?_
 clear hK K
 iterate 5
  refine A0 ?_ rfl (by rfl) (fun w' hs=>?_) (fun _ _ _ h=>h) ?_
  rotate_left
  ·clear hs
   go_simp
   try rfl
  simp only [Act.put,D6,D5,D4]
 refine C3 ?_
 have HRF:=hid (HCL.out w1 v c1 H1.out HT1.out HJ1.out HV.out HVO.out)
 clear t0
 go_wp2_with fail
 refine HRF.out.mono ?_
 intro e w2 hd
 cases r with
 | ok f2 S2 =>
  obtain ⟨rfl,hd2⟩:=hd
  have HD:=hid hd2
  clear hd2
  go_wp2
  go_ret
  exact ⟨rfl,HD.out⟩
 | stop y f2 S2 =>
  obtain ⟨rfl,hd2⟩:=hd
  have HD:=hid hd2
  clear hd2
  go_wp2
  go_ret
  exact ⟨rfl,HD.out⟩
 | none=>exact absurd rfl HRN.out
theorem B30 (b:Bool) (w:World):Calls Tryz.prog 311 #[.bool b] w fun e w'=>e = .returned (.agg (A3 32 (if b then 1 else 0)).toArray)∧Below w.heap.size w w':=by
 have f0:(w.alloc (.cells (K0 32).toArray 25)).free? w.heap.size 0 32=true:=World.free?_alloc_at _ _ rfl (by simp)
 have hb0:Below w.heap.size w (w.alloc (.cells (K0 32).toArray 25)):=(Below.refl _ _).alloc (Nat.le_refl _) _
 cases b with
 | true =>
  have HO:=hid (A4b 1 (by omega) (by omega) (w.alloc (.cells (K0 32).toArray 25)))
  have e1:ofW 1=1:=by decide
  rw [e1] at HO
  have hok:=C7 32 1
  have hlk:=B0 32 1
  show Calls _ _ _ _ fun e w'=>e = .returned (.agg (A3 32 1).toArray)∧_
  have HF:=hid f0
  have HB:=hid hb0
  clear f0 hb0 e1
  generalize A3 32 1=C at *
  go_enter Tryz.func311,Tryz.ntmps311
  go_wp2_with fail
  refine HO.out.mono ?_
  rintro e w1 ⟨rfl,hb1⟩
  have f1:w1.free? w.heap.size 0 32=true:=by rw [(D2 hb1).2 _ _ _ (C4 HF.out)];exact HF.out
  have HB1:Hid (Below w.heap.size w w1):=HB.out.trans (hb1.mono HB.out.size)
  clear hb1
  go_wp2
  exact F2 A1L rfl _ rfl rfl f1 hok ⟨rfl,HB1.out.setCells (Nat.le_refl _) _ _⟩
 | false =>
  have hok:=C7 32 0
  have hlk:=B0 32 0
  show Calls _ _ _ _ fun e w'=>e = .returned (.agg (A3 32 0).toArray)∧_
  go_enter Tryz.func311,Tryz.ntmps311
  go_wp2
  exact F2 A1L rfl _ rfl rfl f0 hok ⟨rfl,hb0.setCells (Nat.le_refl _) _ _⟩
theorem A6l {E:Q5} {w:World} {own:Go.Mun.Own} {c:RFV} {f:Fr} {S:St} {M:List (Nat × St)} {n:Nat} {v jv:Value} {k:Nat} (h:C9 E w own c f S M n) (hk:k < wW) (hl:f.stack.length < 1024) (hv:w.ownsRow 0 25 32 v 1 (D3 [k])) :
  Calls Tryz.prog 269 #[.pointer (some ⟨E.fb,0,none⟩),.int .u8 21,v,jv] w fun e w'=>e = .returned (.int .i64 0)∧∃ c',C9 E w' own c' { f with stack:=f.stack++[if k=0 then 1 else 0] } S M n∧c'.tl=c.tl∧c'.jv=c.jv:=by
 obtain ⟨g0,vc,hvf,r0⟩:=X2 (b:=0) (l:=[k]) hv (i:=0) (by simp)
 subst hvf
 simp only [List.getElem_cons_zero,Nat.zero_mul,List.length_cons,List.length_nil,Nat.zero_add] at r0 ⊢
 obtain ⟨b,hb⟩:∃ b,b=decide (k=0):=⟨_,rfl⟩
 obtain ⟨y,hy0⟩:∃ y:Nat,y=(if k=0 then 1 else 0):=⟨_,rfl⟩
 have hy:y < wW:=by rw [hy0];split <;> (unfold wW;omega)
 have HY:Hid (A3 32 (if b then 1 else 0)=A3 32 y):=by show _=_;rw [hy0,hb];simp
 rw [← hy0]
 have HQ:=hid (fun w=>eqW (a:=k) (b:=0) hk (by unfold wW;omega) w)
 rw [← hb] at HQ
 obtain ⟨T,hT⟩:∃ T:World→Prop,T=fun W=>C9 E W own c f S M n∧W.row? g0 0 32=some (A3 32 k):=⟨_,rfl⟩
 have HT:=hid hT
 have HTB:Hid (∀ W W',T W→Below W.heap.size W W'→T W'):=by
  show ∀ W W',T W→Below W.heap.size W W'→T W'
  rw [hT]
  intro W W' h hb
  exact ⟨h.1.below hb,((D2 hb).1 _ _ _ (World.row?_lt h.2)).trans h.2⟩
 have HTG:Hid (∀ W,T W→C9 E W own c f S M n):=by show ∀ W,T W→_;rw [hT];intro W h;exact h.1
 have t0:T w.drew:=by rw [hT];exact ⟨h.below (Below.refl _ _).drew,r0⟩
 have hlk:=B0 32 k
 clear h hT r0 hv hb hy0 hk
 go_enter Tryz.func269,Tryz.ntmps269
 go_wp2_with fail
 refine A1I T [9] (.pure 0 (.pure 1 (.pure 2 (.pure 3 (.pure 4 (.take 5 (.pure 6 (.pure 7 (.alt 8 (.alt 9 .fin .stop) .stop))))))))) (by kernel_rfl) (by kernel_rfl) ?_
 iterate 7
  first
  |refine A0 ?_ rfl (by rfl) (fun w' hs=>?_) (fun _ _ _ h=>h) ?_
   rotate_left
   ·clear hs
    go_simp
    try rfl
   simp only [Act.put,D6,D5,D4]
  |refine A9 ?_ t0 rfl (by rfl) (fun w' hs=>?_) (fun _ _ _ h=>h) ?_
   rotate_left
   ·rw [HT.out] at hs
    obtain ⟨_,s1⟩:=hs
    go_simp
    try rfl
   simp only [Act.put,D6,D5,D4]
 refine A0 ?_ rfl (by rfl) (fun w' hs=>?_) (fun _ _ _ h=>h) ?_
 rotate_left
 ·clear hs
  have hq:=HQ.out w'
  go_simp
  try rfl
 simp only [Act.put,D6,D5,D4]
 refine A8 rfl (fun K hK=>?_)
 go_simp
 refine (B30 _ _).mono ?_
 rintro e w1 ⟨rfl,hb1⟩
 rw [HY.out]
 have t1:T w1:=HTB.out _ _ t0 hb1
 clear hb1
 refine hK.out _ _ t1 ?_
 clear hK K
 refine L0 rfl (by simp) (fun K hK=>?_)
 go_simp
 refine (A7D y hy hl (HTG.out _ t1)).mono ?_
 rintro e w2 ⟨rfl,c2,h2,ht2,hj2⟩
 have H2:=hid h2
 have HT2:=hid ht2
 have HJ2:=hid hj2
 clear h2 ht2 hj2
 refine hK.out _ _ ?_
 clear hK K
 refine C3 ?_
 go_wp2
 go_ret
 exact ⟨rfl,c2,H2.out,HT2.out,HJ2.out⟩
theorem A8Q {E:Q5} {w:World} {own:Go.Mun.Own} {c:RFV} {f:Fr} {S:St} {M:List (Nat × St)} {n:Nat} {v jv:Value} (h:C9 E w own c f S M n) :
  Calls Tryz.prog 269 #[.pointer (some ⟨E.fb,0,none⟩),.int .u8 91,v,jv] w fun e w'=>e = .returned (.int .i64 0)∧w=w':=by
 clear h
 go_enter Tryz.func269,Tryz.ntmps269
 go_wp2
 go_ret
 exact ⟨rfl,rfl⟩
end Go.Proofs.YtfflppedbopdpaaGreat
namespace Go.Proofs.YtfflppedbopdpaaGreat
open Go.RowKit Go.Mun
theorem B5Z (n x:Nat) (hx:x < 256):n*256 ||| x=n*256+x:=by
 have:=Nat.two_pow_add_eq_or_of_lt (i:=8) (b:=x) (by simpa using hx) n
 rw [Nat.mul_comm]
 simpa using this.symm

theorem A6q (n x:Nat) (hn:n < 36028797018963968) (hx:x < 256):bits .or .i64 ((n:Int)*256) (x:Int)=((n*256+x:Nat):Int):=by
 have:=A4C (n*256) x (by omega) (by omega)
 rw [B5Z n x hx] at this
 rw [← this]
 congr 1
def A9o (k:Nat):Option Nat:=if k < 9223372036854775808 then some k else none
theorem B4G (k e:Nat):k / 256 ^ (e+1)*256+k / 256 ^ e % 256=k / 256 ^ e:=by
 have:k / 256 ^ (e+1)=k / 256 ^ e / 256:=by rw [Nat.pow_succ,Nat.div_div_eq_div_mul]
 rw [this];omega
theorem B5M (k:Nat) (hk:k < 256 ^ 32) (w:World) :
  Calls Tryz.prog 257 #[.agg (A3 32 k).toArray] w fun e w'=>e = .returned (.tuple #[.int .i64 (((A9o k).getD 0:Nat):Int),.bool (A9o k).isSome])∧Below w.heap.size w w':=by
 obtain ⟨w0,e0⟩:∃ w0,w0=w.alloc (.cells (A3 32 k).toArray 25):=⟨_,rfl⟩
 have hb0:Below w.heap.size w w0:=by rw [e0];exact (Below.refl _ _).alloc (Nat.le_refl _) _
 have hr:w0.row? w.heap.size 0 32=some (A3 32 k):=by rw [e0];exact World.row?_alloc_at _ _ _ rfl (B0 32 k)
 have hc:∀ i,i < 32→w0.cell? ⟨w.heap.size,i,none⟩=some (.int .u8 ((k / 256 ^ (31 - i) % 256:Nat):Int)):=fun i hi=>by
  have:=World.row?_cell hr hi
  rw [Nat.zero_add,B67 k i hi] at this
  exact this
 have HC:=hid hc
 have HB:=hid hb0
 have HE:=hid e0
 have HN:Hid (∀ i,i < 24→k / 256 ^ (31 - i) % 256≠0→A9o k=none):=fun i hi h=>by
  unfold A9o
  rw [if_neg]
  intro hlt
  have h1:256 ^ 8≤256 ^ (31 - i):=Nat.pow_le_pow_right (by decide) (by omega)
  have h2:(256:Nat) ^ 8=18446744073709551616:=by decide
  have:k / 256 ^ (31 - i)=0:=Nat.div_eq_of_lt (by omega)
  rw [this] at h;exact h rfl
 have HS:Hid (∀ i,i < 24→k < 256 ^ (32 - i)→k / 256 ^ (31 - i) % 256=0→k < 256 ^ (32 - (i+1))):=fun i hi h h0=>by
  have e1:32 - i=(31 - i)+1:=by omega
  rw [e1,Nat.pow_succ] at h
  have h2:k / 256 ^ (31 - i) < 256:=Nat.div_lt_of_lt_mul (by omega)
  rw [Nat.mod_eq_of_lt h2] at h0
  have h3:0 < 256 ^ (31 - i):=Nat.pow_pos (by decide)
  have h4:k < 256 ^ (31 - i):=by
   rcases Nat.lt_or_ge k (256 ^ (31 - i)) with h5 | h5
   ·exact h5
   ·have:=Nat.div_pos h5 h3;omega
  have e2:32 - (i+1)=31 - i:=by omega
  rw [e2];exact h4
 have HK:Hid (k < 256 ^ (32 - 0)):=hk
 clear hr hc hb0 e0 hk
 go_enter Tryz.func257,Tryz.ntmps257
 go_wp2
 rw [← HE.out]
 go_loopw [4] (fun i wr => ∃ q:Nat,q≤24∧i = .int .i64 q∧wr=w0∧k < 256 ^ (32 - q)) (fun i _=>24 - (intOf i).toNat)
 case atStart=>exact ⟨0,by omega,rfl,rfl,HK.out⟩
 case round =>
  obtain ⟨q,hq,rfl,rfl,hkq⟩:=hrel
  have HKQ:=hid hkq
  clear hkq
  by_cases hlt:q < 24
  ·have ck:=HC.out q (by omega)
   have HN2:=hid (HN.out q hlt)
   have HS2:=hid (HS.out q hlt HKQ.out)
   generalize k / 256 ^ (31 - q) % 256=x at *
   by_cases hx:x=0
   ·have dx:((x:Int) != 0)=false:=by simp [hx]
    have HR:=hid (HS2.out hx)
    clear hx
    go_wp2
    go_roundw
    case rel=>exact ⟨q+1,by omega,by go_num,by first | trivial | rfl,HR.out⟩
    case measure=>simp [intOf];omega
   ·have dx:((x:Int) != 0)=true:=by simpa using hx
    have HR:=hid (HN2.out hx)
    clear hx
    go_wp2
    go_ret2
    rw [HR.out]
    exact ⟨rfl,HB.out⟩
  ·have hq24:q=24:=by omega
   subst hq24
   have ck:=HC.out 24 (by omega)
   have HF:Hid ((128≤k / 256 ^ (31 - 24) % 256→A9o k=none)∧(¬ 128≤k / 256 ^ (31 - 24) % 256→A9o k=some k∧k < 9223372036854775808)):=by
    have h1:=HKQ.out
    have h2:(256:Nat) ^ (32 - 24)=18446744073709551616:=by decide
    have h3:(256:Nat) ^ (31 - 24)=72057594037927936:=by decide
    rw [h2] at h1
    constructor
    ·intro h;rw [h3] at h;exact if_neg (by omega)
    ·intro h;rw [h3] at h;exact ⟨if_pos (by omega),by omega⟩
   generalize k / 256 ^ (31 - 24) % 256=y at *
   by_cases hy:128≤y
   ·have dy:decide ((128:Int)≤y)=true:=decide_eq_true (by omega)
    have HR:=hid (HF.out.1 hy)
    clear hy
    go_wp2
    go_ret2
    rw [HR.out]
    exact ⟨rfl,HB.out⟩
   ·have dy:decide ((128:Int)≤y)=false:=decide_eq_false (by omega)
    have HR:=hid (HF.out.2 hy)
    clear hy
    go_wp2
    go_loopw [5,6] (fun v i W2 => ∃ q:Nat,24≤q∧q≤32∧i = .int .i64 q∧v = .int .i64 ((k / 256 ^ (32 - q):Nat):Int)∧W2=wr) (fun _ i _=>32 - (intOf i).toNat)
    case atStart =>
     have h0 : k / 256 ^ (32 - 24) = 0 := Nat.div_eq_of_lt (by have := HR.out.2; have h2 : (256 : Nat) ^ (32 - 24) = 18446744073709551616 := by decide
                                                               omega)
     exact ⟨24,by omega,by omega,rfl,by rw [h0];rfl,rfl⟩
    case round =>
     obtain ⟨q,hq1,hq,rfl,rfl,rfl⟩:=hrel
     by_cases hlt:q < 32
     ·have ck:=HC.out q hlt
      have hst:=B4G k (31 - q)
      have e1:31 - q+1=32 - q:=by omega
      rw [e1] at hst
      have hB:k / 256 ^ (32 - q) < 36028797018963968:=by
       have h1:256 ^ 1≤256 ^ (32 - q):=Nat.pow_le_pow_right (by decide) (by omega)
       have h2:k / 256 ^ (32 - q)≤k / 256:=Nat.div_le_div_left (by simpa using h1) (by decide)
       have:=HR.out.2
       omega
      have hx:k / 256 ^ (31 - q) % 256 < 256:=Nat.mod_lt _ (by decide)
      have e2:32 - (q+1)=31 - q:=by omega
      generalize k / 256 ^ (32 - q)=B at *
      generalize k / 256 ^ (31 - q) % 256=x at *
      have hor:=A6q B x hB hx
      have hw:IntKind.i64.wrap ((B:Int)*256)=(B:Int)*256:=V3 _ (by omega) (by omega)
      have hxw:IntKind.i64.wrap (x:Int)=x:=V3 _ (by omega) (by omega)
      rw [hst] at hor
      have HOR:=hid e2
      clear hst hB hx e1 e2
      go_wp2
      go_roundw
      case rel=>exact ⟨q+1,by omega,by omega,by go_num,by rw [HOR.out];simp,by first | trivial | rfl⟩
      case measure=>simp [intOf];omega
     ·have hq32:q=32:=by omega
      subst hq32
      have hk1:k / 256 ^ (32 - 32)=k:=by simp
      rw [hk1]
      go_wp2
      go_ret2
      rw [HR.out.1]
      exact ⟨rfl,HB.out⟩
end Go.Proofs.YtfflppedbopdpaaGreat
namespace Go.Proofs.YtfflppedbopdpaaGreat
open Go.RowKit Go.Mun
theorem B36 {E:Q5} {w:World} {own:Go.Mun.Own} {c:RFV} {f:Fr} {S:St} {M:List (Nat × St)} {n:Nat} (k:Nat) (hk:k < wW) (h:C9 E w own c f S M n) (htl:c.tl=K3 A0c) (hjn:c.jv≠.nilFunc) :
  Calls Tryz.prog 329 #[.pointer (some ⟨E.fb,0,none⟩),.agg (A3 32 k).toArray,c.jv] w (RDo E c.jv (goJ f S k)):=by
 have hk32:k < 256 ^ 32:=by rw [A23];exact hk
 obtain ⟨w0,e0⟩:∃ w0,w0=w.alloc (.cells (A3 32 k).toArray 25):=⟨_,rfl⟩
 have hb0:Below w.heap.size w w0:=by rw [e0];exact (Below.refl _ _).alloc (Nat.le_refl _) _
 have r0:w0.row? w.heap.size 0 32=some (A3 32 k):=by rw [e0];exact World.row?_alloc_at _ _ _ rfl (B0 32 k)
 have HI:=hid (B5M k hk32 w0)
 have HE:=hid e0
 have H0:=hid (h.below hb0)
 have HTL:=hid htl
 have HJN:=hid hjn
 have hlk:=B0 32 k
 obtain ⟨ja,jc,hjv,_⟩:=h.jmp hjn
 obtain ⟨J,hJ⟩:∃ J,J=jumps f.code f.code.length 0:=⟨_,rfl⟩
 have HJJ:=hid hJ
 obtain ⟨jl,hjl⟩:∃ jl,jl=J.length:=⟨_,rfl⟩
 rw [← hJ,← hjl] at hjv
 have HJV:=hid hjv
 obtain ⟨r,hr⟩:∃ r,r=goJ f S k:=⟨_,rfl⟩
 rw [← hr]
 have HGY:Hid ((k:Int)∈J→r = .ok { f with next:=k } S):=fun hin=>by rw [hr];unfold goJ;rw [← hJ,if_pos hin]
 have HGN:Hid (¬ (k:Int)∈J→r = .stop 13 f S):=fun hin=>by rw [hr];unfold goJ;rw [← hJ,if_neg hin]
 obtain ⟨jv,hjve⟩:∃ jv,jv=c.jv:=⟨_,rfl⟩
 have HJE:=hid hjve
 rw [← hjve] at hjv ⊢
 subst hjv
 have HJL:=hid hjl
 clear h htl hjn hb0 e0 hJ hjl hr hk32 hjve
 go_enter Tryz.func329,Tryz.ntmps329
 go_wp2_with fail
 rw [← HE.out]
 refine HI.out.mono ?_
 rintro e w1 ⟨rfl,hb1⟩
 have h1:=H0.out.below hb1
 have hjn1:c.jv≠.nilFunc:=HJN.out
 obtain ⟨ja2,jc2,hjv2,hji,_⟩:=h1.jmp hjn1
 rw [← HJE.out,← HJJ.out,← HJL.out] at hjv2
 cases hjv2
 rw [← HJJ.out] at hji
 have f9:=h1.one (i:=229) (by omega)
 have hcd:=h1.code.len
 have hr2:=(A3l f.code f.code.length 0).2
 rw [← HJJ.out] at hr2
 have hjlb:jl≤1099511627776:=by rw [HJL.out,HJJ.out];exact Nat.le_trans (A4g _ _ _) hcd
 have HR:=hid hr2
 have HCD:=hid hcd
 have H1:=hid h1
 have HIN:Hid (∀ i (hi:i < J.length),∃ b off,ja=some ⟨b,off,none⟩∧w1.cell? ⟨b,off+i,none⟩=some (.int .i64 (J[i]'hi))):=by
  intro i hi
  obtain ⟨b,off,h1,_,h2⟩:=hji.at hi
  exact ⟨b,off,h1,by have:=h2 i hi;rw [List.getElem?_eq_getElem hi] at this;exact this⟩
 clear hb1 h1 hjn1 hji hcd hr2 HI H0 r0
 by_cases hk63:k < 9223372036854775808
 ·have ei:A9o k=some k:=if_pos hk63
  rw [ei]
  simp only [Option.getD_some,Option.isSome_some]
  clear ei
  go_wp2_with fail
  go_loopw [9] (fun i wr=>wr=w1∧∃ q:Nat,i = .int .i64 (q:Int)∧q≤jl∧∀ t (ht:t < J.length),t < q→J[t]'ht≠(k:Int)) (fun i _=>jl - (intOf i).toNat)
  case atStart=>exact ⟨rfl,0,rfl,Nat.zero_le _,fun t _ h=>by omega⟩
  case round =>
   obtain ⟨rfl,q,rfl,hq,hno⟩:=hrel
   have HNO:=hid hno
   clear hno
   by_cases hlt:q < jl
   ·have hm:q < J.length:=by have:=HJL.out;omega
    obtain ⟨b,off,rfl,hc⟩:=HIN.out q hm
    have hlI:(q:Int) < (jl:Int):=by omega
    by_cases he:J[q]=(k:Int)
    ·have hin:(k:Int)∈J:=he ▸ List.getElem_mem hm
     obtain rfl:=HGY.out hin
     have hkb:k≤2199023255552:=by have:=(HR.out _ hin).2;have:=HCD.out;omega
     rw [he] at hc
     have hd:((k:Int) == (k:Int))=true:=by simp
     clear he hin
     go_wp2
     go_ret
     exact ⟨rfl,own,c,M,n,H1.out.pc k hkb,HTL.out,HJE.out.symm⟩
    ·have hd:(J[q] == (k:Int))=false:=by simp [he]
     have hw1:IntKind.i64.wrap ((q:Int)+1)=((q+1:Nat):Int):=by rw [V3 _ (by omega) (by omega)];omega
     have HEQ:=hid he
     clear he
     go_wp2
     go_roundw
     case rel =>
      refine ⟨trivial,q+1,by simp,by omega,fun t ht hl=>?_⟩
      rcases Nat.lt_or_ge t q with h | h
      ·exact HNO.out t ht h
      ·have e:t=q:=by omega
       subst e;exact HEQ.out
     case measure=>simp [intOf];omega
   ·have hlI:¬ (q:Int) < (jl:Int):=by omega
    have hin:¬ (k:Int)∈J:=fun hin=>by
     obtain ⟨t,ht,e⟩:=List.mem_iff_getElem.1 hin
     exact HNO.out t ht (by have:=HJL.out;omega) e
    obtain rfl:=HGN.out hin
    clear hin
    go_wp2
    go_ret
    exact ⟨rfl,by decide,own,c,M,n,f,S,H1.out,fun h=>by cases h⟩
 ·have ei:A9o k=none:=if_neg hk63
  rw [ei]
  simp only [Option.getD_none,Option.isSome_none]
  have hin:¬ (k:Int)∈J:=fun h=>by have:=(HR.out _ h).2;have:=HCD.out;omega
  obtain rfl:=HGN.out hin
  clear ei hin
  go_wp2_with fail
  go_loopw [9] (fun i wr=>wr=w1∧i = .int .i64 0) (fun i _=>0)
  case atStart=>exact ⟨rfl,rfl⟩
  case round =>
   obtain ⟨rfl,rfl⟩:=hrel
   by_cases hlt:(0:Int) < (jl:Int)
   ·go_wp2
    go_ret
    exact ⟨rfl,by decide,own,c,M,n,f,S,H1.out,fun h=>by cases h⟩
   ·go_wp2
    go_ret
    exact ⟨rfl,by decide,own,c,M,n,f,S,H1.out,fun h=>by cases h⟩
end Go.Proofs.YtfflppedbopdpaaGreat
namespace Go.Proofs.YtfflppedbopdpaaGreat
open Go.RowKit Go.Mun
theorem RDo.stay {E:Q5} {jv:Value} {r:Res} {e:Ending} {w:World} (hr:r≠.none) (h:RDo E jv r e w):∃ x:Int,e = .returned (.int .i64 x)∧RDo E jv r (.returned (.int .i64 x)) w:=by
 cases r with
 | ok f S=>obtain ⟨rfl,h⟩:=h;exact ⟨0,rfl,rfl,h⟩
 | stop y f S=>obtain ⟨rfl,h⟩:=h;exact ⟨y,rfl,rfl,h⟩
 | none=>exact absurd rfl hr
section
variable {E:Q5} {w:World} {own:Go.Mun.Own} {c:RFV} {f:Fr} {S:St} {M:List (Nat × St)} {n:Nat} {v:Value}
theorem A8R (k:Nat) (hk:k < wW) (h:C9 E w own c f S M n) (htl:c.tl=K3 A0c) (hjn:c.jv≠.nilFunc) (hv:w.ownsRow 0 25 32 v 1 (D3 [k])) :
  Calls Tryz.prog 269 #[.pointer (some ⟨E.fb,0,none⟩),.int .u8 86,v,c.jv] w (RDo E c.jv (goJ f S k)):=by
 obtain ⟨g0,vc,hvf,r0⟩:=X2 (b:=0) (l:=[k]) hv (i:=0) (by simp)
 subst hvf
 simp only [List.getElem_cons_zero,Nat.zero_mul,List.length_cons,List.length_nil,Nat.zero_add] at r0 ⊢
 have HJ:=hid (B36 k hk h htl hjn)
 have HG:=hid (A3T (f:=f) (S:=S) k)
 have hlk:=B0 32 k
 obtain ⟨r,hr⟩:∃ r,r=goJ f S k:=⟨_,rfl⟩
 rw [← hr] at HJ HG ⊢
 clear h htl hjn hv hr hk
 go_enter Tryz.func269,Tryz.ntmps269
 go_wp2_with fail
 refine HJ.out.mono ?_
 intro e w2 hp
 obtain ⟨x,rfl,hp⟩:=hp.stay HG.out
 have HP:=hid hp
 clear hp
 go_wp2
 go_ret
 exact HP.out
theorem A6k (k b:Nat) (hk:k < wW) (hb:b < wW) (h:C9 E w own c f S M n) (htl:c.tl=K3 A0c) (hjn:c.jv≠.nilFunc) (hv:w.ownsRow 0 25 32 v 2 (D3 [k,b])) :
  Calls Tryz.prog 269 #[.pointer (some ⟨E.fb,0,none⟩),.int .u8 87,v,c.jv] w (RDo E c.jv (if b=0 then .ok f S else goJ f S k)):=by
 obtain ⟨g0,vc,hvf,r0⟩:=X2 (b:=0) (l:=[k,b]) hv (i:=0) (by simp)
 obtain ⟨g1,vc1,hvf1,r1⟩:=X2 (b:=0) (l:=[k,b]) hv (i:=1) (by simp)
 rw [hvf] at hvf1
 cases hvf1
 subst hvf
 simp only [List.getElem_cons_zero,List.getElem_cons_succ,Nat.zero_mul,Nat.one_mul,List.length_cons,List.length_nil,Nat.zero_add] at r0 r1 ⊢
 have HJ:=hid (B36 k hk h htl hjn)
 have HG:=hid (A3T (f:=f) (S:=S) k)
 have hlk:=B0 32 k
 have hlb:=B0 32 b
 have HQ:=eqW (a:=b) (b:=0) hb (by unfold wW;omega) w
 have H:=hid h
 have HTL:=hid htl
 clear h htl hjn hv hk hb
 by_cases hb0:b=0
 ·have hd:decide (b=0)=true:=decide_eq_true hb0
  rw [if_pos hb0]
  rw [hd] at HQ
  clear hd hb0 HJ HG
  go_enter Tryz.func269,Tryz.ntmps269
  go_wp2
  go_ret
  exact ⟨rfl,own,c,M,n,H.out,HTL.out,rfl⟩
 ·have hd:decide (b=0)=false:=decide_eq_false hb0
  rw [if_neg hb0]
  rw [hd] at HQ
  obtain ⟨r,hr⟩:∃ r,r=goJ f S k:=⟨_,rfl⟩
  rw [← hr] at HJ HG ⊢
  clear hd hb0 hr
  go_enter Tryz.func269,Tryz.ntmps269
  go_wp2_with fail
  refine HJ.out.mono ?_
  intro e w2 hp
  obtain ⟨x,rfl,hp⟩:=hp.stay HG.out
  have HP:=hid hp
  clear hp
  go_wp2
  go_ret
  exact HP.out
end
end Go.Proofs.YtfflppedbopdpaaGreat
namespace Go.Proofs.YtfflppedbopdpaaGreat
open Go.RowKit Go.Mun
attribute [local irreducible] wpStill
theorem B9j {E:Q5} {w:World} {own:Go.Mun.Own} {c:RFV} {f:Fr} {S:St} {M:List (Nat × St)} {n:Nat} (k:Nat) (h:C9 E w own c f S M n) (hk:1≤k∧k≤f.stack.length) (hl:f.stack.length < 1024) :
  Calls Tryz.prog 261 #[.pointer (some ⟨E.fb,230,none⟩),.int .i64 (k:Int)] w fun e w'=>e = .returned (.bool true)∧∃ c',C9 E w' own c' { f with stack:=f.stack++[P3 f (k - 1)] } S M n∧c'.tl=c.tl∧c'.jv=c.jv:=by
 obtain ⟨m,hm⟩:∃ m,m=f.stack.length:=⟨_,rfl⟩
 obtain ⟨i,hi⟩:∃ i,i=f.stack.length - k:=⟨_,rfl⟩
 have hil:i < f.stack.length:=by omega
 obtain ⟨x,hx⟩:∃ x,x=f.stack[i]'hil:=⟨_,rfl⟩
 have hxx:P3 f (k - 1)=x:=by rw [A7n (by omega),hx];congr 1;omega
 rw [hxx]
 have hxW:x < wW:=by rw [hx];exact h.sval _ (List.getElem_mem hil)
 obtain ⟨g,sc,hsv,hrow⟩:=X2 (b:=0) h.stk hil
 rw [← hx] at hrow
 have csv:=A5p h.row
 rw [hsv,← hm] at csv
 have csv1:=csv
 have HROW:=hid hrow
 have d1:decide ((k:Int) < 1)=false:=decide_eq_false (by omega)
 have d1n:(k < 1)=False:=eq_false (by omega)
 have d2:decide ((m:Int) < (k:Int))=false:=decide_eq_false (by omega)
 have d2n:(m < k)=False:=eq_false (by omega)
 have hw1:IntKind.i64.wrap ((m:Int) - (k:Int))=(i:Int):=by rw [V3 _ (by have:=h.slen;omega) (by have:=h.slen;omega)];omega
 have him:i < m:=by omega
 have HP:=hid (A7D x hxW hl (h.below (Below.refl _ _).drew))
 have hlx:=B0 32 x
 have HMK:=hid hk
 clear h hrow hsv hxx hx hi hil hl hm hxW hk csv
 go_enter Tryz.func261,Tryz.ntmps261
 go_wp2_with fail
 have q1:w.drew.cell? ⟨E.fb,230,none⟩=some (.slice (some ⟨g,0,none⟩) m sc):=csv1
 have q2:w.drew.row? g (i*32) 32=some (A3 32 x):=HROW.out
 go_still_tail 14,(by kernel_rfl)
 go_wp2_with fail
 refine HP.out.mono ?_
 rintro e w2 ⟨rfl,c2,h2⟩
 have HC:=hid h2
 clear h2
 go_wp2
 go_ret
 exact ⟨rfl,c2,HC.out⟩
theorem B5Q {E:Q5} {w:World} {own:Go.Mun.Own} {c:RFV} {f:Fr} {S:St} {M:List (Nat × St)} {n:Nat} (m:Nat) (hm:128≤m∧m≤143) (h:C9 E w own c f S M n) (htl:c.tl=K3 A0c) (hs:m - 127≤f.stack.length) (hl:f.stack.length < 1024) :
  Calls Tryz.prog 179 #[.pointer (some ⟨E.fb,0,none⟩),.int .u8 (m:Int),c.jv] w (RDo E c.jv (.ok { f with stack:=f.stack++[P3 f (m - 128)] } S)):=by
 have HD:=hid (B9j (m - 127) h ⟨by omega,hs⟩ hl)
 rw [show m - 127 - 1=m - 128 by omega] at HD
 have d1:decide ((96:Int)≤m)=true:=decide_eq_true (by omega)
 have d2:decide ((m:Int) < 128)=false:=decide_eq_false (by omega)
 have d3:decide ((128:Int)≤m)=true:=decide_eq_true (by omega)
 have d4:decide ((m:Int) < 144)=true:=decide_eq_true (by omega)
 obtain ⟨k,hk⟩:∃ k,k=m - 127:=⟨_,rfl⟩
 have hw1:IntKind.i64.wrap ((m:Int) - 127)=(k:Int):=by rw [V3 _ (by omega) (by omega)];omega
 have hw2:IntKind.i64.wrap (m:Int)=(m:Int):=V3 _ (by omega) (by omega)
 have HM:=hid hm
 rw [← hk] at HD
 have HK:=hid hk
 have HTL:=hid htl
 clear h htl hs hl hm hk
 go_enter Tryz.func179,Tryz.ntmps179
 go_wp2_with fail
 refine HD.out.mono ?_
 rintro e w2 ⟨rfl,c2,h2,ht2,hj2⟩
 have H2:=hid h2
 have HT2:Hid (c2.tl=K3 A0c):=ht2.trans HTL.out
 have HJ2:=hid hj2
 clear h2 ht2 hj2
 go_wp2
 go_ret
 exact ⟨rfl,own,c2,M,n,H2.out,HT2.out,HJ2.out⟩
end Go.Proofs.YtfflppedbopdpaaGreat
