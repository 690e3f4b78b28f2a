/- A part of the proof of EvmLogs: ZPlain. -/
import Derived.Test.YtfflppedbopdpaaGreatZMap
import Derived.DeepKeys4
import Derived.Test.YtfflppedbopdpaaGreatProg
set_option linter.unusedVariables false
set_option linter.unusedSimpArgs false
namespace Go.Mun

abbrev J1:=List Int
def wW:Nat:=2 ^ 256
def wA:Nat:=2 ^ 160
structure Acc where
 nonce:Nat
 bal:Nat
 code:J1
 slots:Nat→Nat
def Acc.none:Acc:=⟨0,0,[],fun _=>0⟩
abbrev St:=Nat→Acc
def Z9 (S:St) (a:Nat) (x:Acc):St:=fun b=>if b=a then x else S b
@[simp] theorem A1a (S:St) (a:Nat) (x:Acc):Z9 S a x a=x:=by simp [Z9]
theorem Z8 (S:St) {a b:Nat} (x:Acc) (h:b≠a):Z9 S a x b=S b:=by simp [Z9,h]
theorem A8j (S:St) (a:Nat):Z9 S a (S a)=S:=by
 funext b;unfold Z9;split
 ·rename_i h;rw [h]
 ·rfl
theorem B0V (S:St) (a:Nat) (x y:Acc):Z9 (Z9 S a x) a y=Z9 S a y:=by
 funext b;unfold Z9;split <;> rfl
def A7w (f:Nat→Nat) (k v:Nat):Nat→Nat:=fun j=>if j=k then v else f j
def St.setNonce (S:St) (a n:Nat):St:=Z9 S a { S a with nonce:=n }
def St.setBal (S:St) (a n:Nat):St:=Z9 S a { S a with bal:=n }
def St.setCode (S:St) (a:Nat) (b:J1):St:=Z9 S a { S a with code:=b }
def St.setSlot (S:St) (a k v:Nat):St:=Z9 S a { S a with slots:=A7w (S a).slots k v }
def Acc.empty (x:Acc):Prop:=x.nonce=0∧x.bal=0∧x.code = []∧∀ k,x.slots k=0
def St.move (S:St) (src dst v:Nat):Option St:=
 if (S src).bal < v then none
 else if src=dst then some S
 else if wW≤(S dst).bal+v then none
 else some ((S.setBal src ((S src).bal - v)).setBal dst ((S dst).bal+v))
end Go.Mun
namespace Go.Mun
open Go.RowKit Go.Maps

theorem A6j {P:Program} {k e n:Nat} (hu:P.underlying k=some (.array n e)) (he:P.underlying e=some (.int .u8)) (hce:P.cellsOf e=1) (hck:P.cellsOf k=n) (d:Nat) (L:List Int) (hL:L.length=n) (hb:∀ x∈L,0≤x∧x < 256) :
  ∃ ls,P.keyLits (d+2) k (K2 L)=some ls:=by
 have h:∀ i∈List.range n,P.keyLits (d+1) e (((K2 L).drop (i*1)).take 1)=some [.int .u8 (L.getD i 0)]:=by
  intro i hi
  have hi':i < L.length:=by rw [hL];exact List.mem_range.1 hi
  have e1:((K2 L).drop (i*1)).take 1 = [.int .u8 (L.getD i 0)]:=by
   apply List.ext_getElem?
   intro j
   rw [List.getElem?_take,Nat.mul_one,List.getElem?_drop]
   match j with
   | 0=>simp [K2,hi']
   | j+1=>simp
  have hx:=hb (L.getD i 0) (by simp [hi'])
  rw [e1]
  have hw:(Lit.int .u8 (L.getD i 0)).wf=true:=by
   simp only [Lit.wf,IntKind.min,IntKind.max,IntKind.signed,IntKind.bits]
   simp
   simp at hx
   omega
  generalize L.getD i 0=y at *
  simp only [Program.keyLits,he]
  simp [hw]
 refine ⟨((List.range n).map fun i => [Lit.int .u8 (L.getD i 0)]).flatten,?_⟩
 unfold Program.keyLits
 rw [hu,hck]
 have hl:(K2 L).length=n:=by simp [hL]
 have hm:(List.range n).mapM (fun i=>P.keyLits (d+1) e (((K2 L).drop (i*P.cellsOf e)).take (P.cellsOf e)))=some ((List.range n).map fun i => [Lit.int .u8 (L.getD i 0)]):=by
  rw [hce]
  have gen:∀ l:List Nat,(∀ i∈l,P.keyLits (d+1) e (((K2 L).drop (i*1)).take 1)=some [.int .u8 (L.getD i 0)])→l.mapM (fun i=>P.keyLits (d+1) e (((K2 L).drop (i*1)).take 1))=some (l.map fun i => [Lit.int .u8 (L.getD i 0)]):=by
   intro l
   induction l with
   | nil=>intro _;rfl
   | cons a l ih =>
    intro h
    rw [List.mapM_cons,h a (by simp),ih (fun i hi=>h i (by simp [hi]))];rfl
  exact gen _ h
 cases hq:K2 L with
 | nil=>rw [hq] at hl hm;simp only [hm];rw [if_pos hl];rfl
 | cons v l=>rw [hq] at hl hm;simp only [hm];rw [if_pos hl];rfl
theorem A86 {P:Program} {k e n:Nat} (hu:P.underlying k=some (.array n e)) (he:P.underlying e=some (.int .u8)) (hce:P.cellsOf e=1) (hck:P.cellsOf k=n) (hk:P.keyType k=true) (hsz:1≤P.types.size)
  (L:List Int) (hL:L.length=n) (hb:∀ x∈L,0≤x∧x < 256):∃ l,keyOf P k (.agg (K2 L).toArray)=some l:=by
 obtain ⟨d,hd⟩:∃ d,P.types.size+1=d+2:=⟨P.types.size - 1,by omega⟩
 obtain ⟨ls,hls⟩:=A6j hu he hce hck d L hL hb
 have hf:(Value.agg (K2 L).toArray).formed P k=true:=by simp [Value.formed,hu,hck,hL]
 refine ⟨.string (keyBytes ls),?_⟩
 unfold keyOf
 rw [hu]
 simp only [hk,hf,Bool.and_self,if_true]
 rw [hd]
 have:(Value.agg (K2 L).toArray).cells.toList=K2 L:=by simp [Value.cells]
 rw [this,hls];rfl

theorem A8Z {l m:List Int} (h:l.map (Value.int .u8)=m.map (Value.int .u8)):l=m:=by
 induction l generalizing m with
 | nil=>cases m <;> simp_all
 | cons a l ih =>
  cases m with
  | nil=>simp at h
  | cons b m=>simp only [List.map_cons,List.cons.injEq,Value.int.injEq,true_and] at h;rw [h.1,ih h.2]
theorem B6I (k n:Nat):∀ x∈be k n,0≤x∧x < 256:=by
 intro x hx
 simp only [be,List.mem_map] at hx
 obtain ⟨i,_,rfl⟩:=hx
 omega
def wdV (n:Nat):Value:=.agg (A3 32 n).toArray
def adV (n:Nat):Value:=.agg (A3 20 n).toArray
def ptV (p:Nat):Value:=.pointer (some ⟨p,0,none⟩)
theorem B40 {P:Program} {k e n:Nat} (K:Keyed P k) (hu:P.underlying k=some (.array n e)) (he:P.underlying e=some (.int .u8)) (hce:P.cellsOf e=1) (hck:P.cellsOf k=n) (hk:P.keyType k=true) (hsz:1≤P.types.size) (N:Nat) (hN:N=256 ^ n) :
  A0q P k (fun a => .agg (A3 n a).toArray) N:=by
 subst hN
 refine ⟨K,fun a _=>A86 hu he hce hck hk hsz (be n a) (by simp) (B6I n a),fun a b ha hb h=>?_⟩
 have h1:A3 n a=A3 n b:=by
  simp only [Value.agg.injEq] at h
  simpa using congrArg Array.toList h
 have h2:be n a=be n b:=by
  unfold A3 at h1
  exact A8Z h1
 exact B0J n a b ha hb h2
end Go.Mun
namespace Go.Proofs.YtfflppedbopdpaaGreat
open Go.RowKit Go.Mun Go.Maps
theorem Tryz.laidOut:laidOutB Tryz.prog=true:=by kernel_rfl
theorem B6T:(25:TypeId) < Tryz.prog.types.size:=of_decide_eq_true (by kernel_rfl)
theorem B9k:(23:TypeId) < Tryz.prog.types.size:=of_decide_eq_true (by kernel_rfl)
theorem B9l:1≤Tryz.prog.types.size:=Nat.lt_of_le_of_lt (Nat.le_of_ble_eq_true rfl) B6T
theorem B9t:WideMaps.KeyLaw Tryz.prog 25:=deep_law_laid Tryz.laidOut (m:=2) (by omega) B6T (by kernel_rfl) (by rw [Tryz.underlying25])
theorem B9u:WideMaps.KeyLaw Tryz.prog 23:=deep_law_laid Tryz.laidOut (m:=2) (by omega) B9k (by kernel_rfl) (by rw [Tryz.underlying23])
theorem A6i:A0q Tryz.prog 25 wdV wW:=B40 (Keyed.of_law B9t) Tryz.underlying25 Tryz.underlying5 (by kernel_rfl) (by kernel_rfl) (by kernel_rfl) B9l wW (by unfold wW;decide)
theorem A0Z:A0q Tryz.prog 23 adV wA:=B40 (Keyed.of_law B9u) Tryz.underlying23 Tryz.underlying5 (by kernel_rfl) (by kernel_rfl) (by kernel_rfl) B9l wA (by unfold wA;decide)
theorem B72:A0q Tryz.prog 5 (fun a => .int .u8 a) 256:=by
 refine ⟨int_keyed Tryz.underlying5,fun a ha=>⟨_,keyOf_int_mk Tryz.underlying5 ?_⟩,fun a b _ _ h=>by simp at h;omega⟩
 simp only [Lit.wf,IntKind.min,IntKind.max,IntKind.signed,IntKind.bits]
 simp
 omega
end Go.Proofs.YtfflppedbopdpaaGreat
