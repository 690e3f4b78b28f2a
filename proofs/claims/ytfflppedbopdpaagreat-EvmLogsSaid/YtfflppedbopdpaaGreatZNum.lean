/- A part of the proof of EvmLogs: ZNum. -/
import Derived.Test.YtfflppedbopdpaaGreatZRow
import Derived.ChangeKeysEq
import Derived.Laws.BytesString
import Derived.ArgAppend
import Derived.Deep.RegionLawGrows
import Derived.Lib.SlBytesConst
import Derived.StillTailTactics
import Derived.BigQuiet
import Derived.Laws.OwnMore
set_option linter.unusedVariables false
set_option linter.unusedSimpArgs false
namespace Go.Mun

def beZ (n N k:Nat):List Value:=((be n N).take k++List.replicate (n - k) 0).map (Value.int .u8)
theorem B42 (n N:Nat):beZ n N 0=J4 n:=by simp [beZ,J4]
theorem B43 (n N:Nat):beZ n N n=A3 n N:=by
 have:(be n N).take n=be n N:=List.take_of_length_le (by simp)
 simp [beZ,A3,this]
theorem B1J (n N k:Nat) (h:k≤n):(beZ n N k).length=n:=by simp [beZ];omega
theorem B6J (n N k:Nat) (h:k < n) (x:Int) (hx:x=(N / 256 ^ (n - 1 - k) % 256:Nat)):splice (beZ n N k) k [Value.int .u8 x]=beZ n N (k+1):=by
 apply List.ext_getElem?
 intro i
 rw [I9 _ _ _ (by rw [B1J n N k (by omega)];simp;omega)]
 have hb:∀ j m,m≤n→(beZ n N m)[j]? = if j < m then some (.int .u8 (N / 256 ^ (n - 1 - j) % 256:Nat)) else if j < n then some (.int .u8 0) else none:=by
  intro j m hm
  simp only [beZ,List.getElem?_map,List.getElem?_append,List.length_take,List.length_map,List.length_range,be,List.getElem?_take,List.getElem?_replicate,Nat.min_eq_left hm]
  by_cases hj:j < m
  ·rw [if_pos hj,if_pos hj,if_pos hj,List.getElem?_range (by omega)];rfl
  ·rw [if_neg hj,if_neg hj]
   by_cases h2:j < n
   ·rw [if_pos h2,if_pos (by omega)];rfl
   ·rw [if_neg h2,if_neg (by omega)];rfl
 rw [hb _ _ (by omega),hb _ _ (by omega)]
 simp only [List.length_singleton]
 by_cases h1:i < k
 ·rw [if_pos h1,if_pos h1,if_pos (by omega)]
 ·by_cases h2:i < k+1
  ·obtain rfl:i=k:=by omega
   rw [if_neg h1,if_pos h2,if_pos (by omega),hx];simp
  ·rw [if_neg h1,if_neg h2,if_neg h1,if_neg h2]

def K2 (L:List Int):List Value:=L.map (Value.int .u8)
@[go_sem,simp] theorem A7l (L:List Int):(K2 L).length=L.length:=by simp [K2]
theorem B69 (L:List Int) (n:Nat) (h:L.length=n):Q3 n (K2 L)=true:=by subst h;exact A3x .u8 L
theorem A4I (L:List Int) (i:Nat) (h:i < L.length) (x:Int):splice (K2 L) i [Value.int .u8 x]=K2 (L.set i x):=by
 apply List.ext_getElem?
 intro j
 rw [I9 _ _ _ (by simp;omega)]
 simp only [K2,List.getElem?_map,List.getElem?_set,List.length_singleton]
 by_cases h1:j < i
 ·rw [if_pos h1,if_neg (by omega)]
 ·rw [if_neg h1]
  by_cases h2:j < i+1
  ·obtain rfl:i=j:=by omega
   rw [if_pos h2,if_pos rfl,if_pos h];simp
  ·rw [if_neg h2,if_neg (by omega)]

def ofW (n:Int):Nat:=(n % 115792089237316195423570985008687907853269984665640564039457584007913129639936).toNat

theorem B4d (n:Int) (j:Nat) (hj:j < 32):((ofW n / 256 ^ j % 256:Nat):Int)=n / 256 ^ j % 256:=by
 have e0:(115792089237316195423570985008687907853269984665640564039457584007913129639936:Int)=256 ^ j*256 ^ (32 - j):=by
  rw [← Int.pow_add,show j+(32 - j)=32 by omega];decide
 have hr:((ofW n:Nat):Int)=n % (256 ^ j*256 ^ (32 - j)):=by
  rw [← e0];unfold ofW;omega
 have hn:n=n % (256 ^ j*256 ^ (32 - j))+256 ^ j*(256 ^ (32 - j)*(n / (256 ^ j*256 ^ (32 - j)))):=by
  have:=Int.emod_add_mul_ediv n (256 ^ j*256 ^ (32 - j))
  rw [Int.mul_assoc] at this;exact this.symm
 have e1:(256:Int) ^ (32 - j)=256*256 ^ (31 - j):=by
  rw [show 32 - j=31 - j+1 by omega,Int.pow_succ,Int.mul_comm]
 have hp:(256:Int) ^ j≠0:=by
  have:(0:Int) < 256 ^ j:=Int.pow_pos (by decide)
  omega
 rw [← hr] at hn
 generalize (ofW n)=m at *
 have:n / 256 ^ j % 256=((m:Int) / 256 ^ j) % 256:=by
  rw [hn,Int.add_mul_ediv_left _ _ hp,e1,Int.mul_assoc,Int.add_mul_emod_self_left]
 rw [this]
 simp

theorem A9w (m:Int) (j:Nat) (hj:j < 63):bits .and .i64 m (2 ^ j - 1:Nat)=m % (2 ^ j:Nat):=by
 have h63:2 ^ j≤2 ^ 62:=Nat.pow_le_pow_right (by decide) (by omega)
 have hpos:0 < 2 ^ j:=Nat.pow_pos (by decide)
 have h1:((BitVec.ofInt 64 m) &&& (BitVec.ofInt 64 ((2 ^ j - 1:Nat):Int))).toNat=(m % (2 ^ j:Nat)).toNat:=by
  have e2:((((2 ^ j - 1:Nat):Int)) % ((2 ^ 64:Nat):Int)).toNat=2 ^ j - 1:=by
   generalize 2 ^ j=p at *
   omega
  rw [BitVec.toNat_and,BitVec.toNat_ofInt,BitVec.toNat_ofInt,e2,Nat.and_two_pow_sub_one_eq_mod]
  have e3:((2 ^ 64:Nat):Int)=((2 ^ j:Nat):Int)*((2 ^ (64 - j):Nat):Int):=by
   rw [← Int.natCast_mul,← Nat.pow_add];congr 2;omega
  have h0:0≤m % ((2 ^ 64:Nat):Int):=Int.emod_nonneg _ (by decide)
  have h2:0≤m % ((2 ^ j:Nat):Int):=Int.emod_nonneg _ (by omega)
  have e4:(((m % ((2 ^ 64:Nat):Int)).toNat % 2 ^ j:Nat):Int)=m % ((2 ^ j:Nat):Int):=by
   rw [Int.natCast_emod,Int.toNat_of_nonneg h0,e3,Int.emod_emod_of_dvd _ ⟨_,rfl⟩]
  rw [← e4,Int.toNat_natCast]
 show IntKind.i64.wrap (((BitVec.ofInt 64 m) &&& (BitVec.ofInt 64 ((2 ^ j - 1:Nat):Int))).toNat:Int)=_
 rw [h1,IntKind.wrap_i64]
 have h2:0≤m % ((2 ^ j:Nat):Int):=Int.emod_nonneg _ (by omega)
 have h3:m % ((2 ^ j:Nat):Int) < (2 ^ j:Nat):=Int.emod_lt_of_pos _ (by omega)
 generalize 2 ^ j=p at *
 omega
theorem A3O (m:Int):bits .and .i64 m 255=m % 256:=A9w m 8 (by decide)

theorem B8w (m:Int) (j:Nat) (hj:j < 8):bits .and .u8 m (2 ^ j - 1:Nat)=m % (2 ^ j:Nat):=by
 have h63:2 ^ j≤2 ^ 7:=Nat.pow_le_pow_right (by decide) (by omega)
 have hpos:0 < 2 ^ j:=Nat.pow_pos (by decide)
 have h1:((BitVec.ofInt 8 m) &&& (BitVec.ofInt 8 ((2 ^ j - 1:Nat):Int))).toNat=(m % (2 ^ j:Nat)).toNat:=by
  have e2:((((2 ^ j - 1:Nat):Int)) % ((2 ^ 8:Nat):Int)).toNat=2 ^ j - 1:=by
   generalize 2 ^ j=p at *
   omega
  rw [BitVec.toNat_and,BitVec.toNat_ofInt,BitVec.toNat_ofInt,e2,Nat.and_two_pow_sub_one_eq_mod]
  have e3:((2 ^ 8:Nat):Int)=((2 ^ j:Nat):Int)*((2 ^ (8 - j):Nat):Int):=by
   rw [← Int.natCast_mul,← Nat.pow_add];congr 2;omega
  have h0:0≤m % ((2 ^ 8:Nat):Int):=Int.emod_nonneg _ (by decide)
  have e4:(((m % ((2 ^ 8:Nat):Int)).toNat % 2 ^ j:Nat):Int)=m % ((2 ^ j:Nat):Int):=by
   rw [Int.natCast_emod,Int.toNat_of_nonneg h0,e3,Int.emod_emod_of_dvd _ ⟨_,rfl⟩]
  rw [← e4,Int.toNat_natCast]
 show IntKind.u8.wrap (((BitVec.ofInt 8 m) &&& (BitVec.ofInt 8 ((2 ^ j - 1:Nat):Int))).toNat:Int)=_
 rw [h1,IntKind.wrap_u8]
 have h2:0≤m % ((2 ^ j:Nat):Int):=Int.emod_nonneg _ (by omega)
 have h3:m % ((2 ^ j:Nat):Int) < (2 ^ j:Nat):=Int.emod_lt_of_pos _ (by omega)
 generalize 2 ^ j=p at *
 omega
theorem B3g (m:Int):bits .and .u8 m 15=m % 16:=B8w m 4 (by decide)
end Go.Mun
namespace Go.Mun
open Go.RowKit

theorem A1F {P:Program} {e:TypeId} {k:IntKind} (he:P.underlying e=some (.int k)) (hs:P.cellsOf e=1) (d:Nat) (l m:List Int) (w:World) :
  ∀ (j i:Nat),i+j=l.length→i+j=m.length →
  (Op.eqItems (d+1) e (P.cellsOf e) (l.map (Value.int k)).toArray (m.map (Value.int k)).toArray (List.range' i j)).run P w = .ok (decide (l.drop i=m.drop i)) w
 | 0,i,h1,h2=>by
  rw [List.drop_of_length_le (by omega),List.drop_of_length_le (by omega)]
  simp [Op.eqItems]
 | j+1,i,h1,h2=>by
  have g1:i < l.length:=by omega
  have g2:i < m.length:=by omega
  have ih:=A1F he hs d l m w j (i+1) (by omega) (by omega)
  have hagg:(isAgg e).run P w = .ok false w:=by
   unfold isAgg
   rw [Sem.run_bind,run_underlying he w];rfl
  have p1:(part e (l.map (Value.int k)).toArray (i*P.cellsOf e)).run P w = .ok (.int k l[i]) w:=by
   rw [hs];simp [part,Sem.run_bind,hagg,g1]
  have p2:(part e (m.map (Value.int k)).toArray (i*P.cellsOf e)).run P w = .ok (.int k m[i]) w:=by
   rw [hs];simp [part,Sem.run_bind,hagg,g2]
  rw [List.range'_succ]
  simp only [Op.eqItems,Sem.run_bind,p1,p2,Result.andThen_ok,run_equalIn_int w d e k k l[i] m[i] he]
  have e:(l.drop i=m.drop i)↔(l[i]=m[i]∧l.drop (i+1)=m.drop (i+1)):=by
   rw [List.drop_eq_getElem_cons g1,List.drop_eq_getElem_cons g2]
   exact List.cons_eq_cons
  by_cases hx:l[i]=m[i]
  ·have h0:decide (l.drop i=m.drop i)=decide (l.drop (i+1)=m.drop (i+1)):=by rw [decide_eq_decide,e];exact ⟨fun h=>h.2,fun h=>⟨hx,h⟩⟩
   rw [h0,← ih];simp [hx]
  ·have h0:decide (l.drop i=m.drop i)=false:=decide_eq_false fun h=>hx (e.1 h).1
   rw [h0];simp [hx]

theorem A8D {P:Program} {t e n:Nat} {k:IntKind} (hu:P.underlying t=some (.array n e)) (he:P.underlying e=some (.int k)) (hi:(P.info? e).map (·.size)=some 1) (d:Nat) (l m:List Int) (w:World) (hl:l.length=n) (hm:m.length=n) :
  (Op.equalIn (d+2) t (.agg (l.map (Value.int k)).toArray) (.agg (m.map (Value.int k)).toArray)).run P w = .ok (decide (l=m)) w:=by
 cases hq:P.info? e with
 | none=>simp [hq] at hi
 | some i =>
  have hs:i.size=1:=by simpa [hq] using hi
  have hs':P.cellsOf e=1:=by simp [Program.cellsOf,hq,hs]
  rw [run_equalIn_array w (d+1) _ _ hu hq,List.range_eq_range',A1F he hs' d l m w n 0 (by omega) (by omega)]
  simp

theorem A2Q {P:Program} {t:TypeId} {x y:Value} {w:World} {r:Bool} (h:∀ d,(Op.equalIn (d+3) t x y).run P w = .ok r w):(Op.equalIn 10000 t x y).run P w = .ok r w:=h 9997
theorem A5o {P:Program} {t:TypeId} {xs ys:Array Value} {w:World} {r:Bool} (h:∀ d,(Op.equalIn (d+3) t (.agg xs) (.agg ys)).run P w = .ok r w):(binOp .neq t (.agg xs) (.agg ys)).run P w = .ok (.bool (!r)) w:=by
 rw [run_neq_struct,A2Q h];rfl
theorem B0A {P:Program} {t:TypeId} {xs ys:Array Value} {w:World} {r:Bool} (h:∀ d,(Op.equalIn (d+3) t (.agg xs) (.agg ys)).run P w = .ok r w):(binOp .eql t (.agg xs) (.agg ys)).run P w = .ok (.bool r) w:=by
 rw [run_eql_struct,A2Q h];rfl

def B44 (k a b:Nat):Bool:=decide (be k a=be k b)
theorem A4T (k a:Nat):be (k+1) a=((a / 256 ^ k % 256:Nat):Int) :: be k a:=by
 apply List.ext_getElem (by simp)
 intro i h1 h2
 cases i with
 | zero=>simp [be]
 | succ i=>simp only [be,List.getElem_cons_succ,List.getElem_map,List.getElem_range];congr 4;omega
theorem A74 (k a:Nat):be k (a % 256 ^ k)=be k a:=by
 apply List.ext_getElem (by simp)
 intro i h1 h2
 simp at h1
 simp only [be,List.getElem_map,List.getElem_range]
 congr 1
 obtain ⟨j,hj⟩:∃ j,j=k - 1 - i:=⟨_,rfl⟩
 rw [← hj]
 have e:256 ^ k=256 ^ j*256 ^ (k - j):=by rw [← Nat.pow_add];congr 1;omega
 rw [e,Nat.mod_mul_right_div_self,Nat.mod_mod_of_dvd]
 obtain ⟨t,ht⟩:∃ t,k - j=t+1:=⟨k - j - 1,by omega⟩
 exact ⟨256 ^ t,by rw [ht,Nat.pow_succ,Nat.mul_comm]⟩
theorem B0J:∀ (k a b:Nat),a < 256 ^ k→b < 256 ^ k→be k a=be k b→a=b
 | 0,a,b,ha,hb,_=>by simp at ha hb;omega
 | k+1,a,b,ha,hb,h=>by
  rw [A4T,A4T] at h
  injection h with h1 h2
  have hp:0 < 256 ^ k:=Nat.pow_pos (by decide)
  have ha':a / 256 ^ k < 256:=by rw [Nat.div_lt_iff_lt_mul hp];rw [Nat.pow_succ] at ha;omega
  have hb':b / 256 ^ k < 256:=by rw [Nat.div_lt_iff_lt_mul hp];rw [Nat.pow_succ] at hb;omega
  have e1:a / 256 ^ k=b / 256 ^ k:=by have:=Int.natCast_inj.1 h1;rwa [Nat.mod_eq_of_lt ha',Nat.mod_eq_of_lt hb'] at this
  have e2:=B0J k (a % 256 ^ k) (b % 256 ^ k) (Nat.mod_lt _ hp) (Nat.mod_lt _ hp) (by rw [A74,A74];exact h2)
  rw [← Nat.div_add_mod a (256 ^ k),← Nat.div_add_mod b (256 ^ k),e1,e2]
theorem B1K (k a b:Nat) (ha:a < 256 ^ k) (hb:b < 256 ^ k):B44 k a b=decide (a=b):=by
 unfold B44
 by_cases h:a=b
 ·simp [h]
 ·have:¬ be k a=be k b:=fun e=>h (B0J k a b ha hb e)
  simp [h,this]
theorem A11 {P:Program} {t e n:Nat} (hu:P.underlying t=some (.array n e)) (he:P.underlying e=some (.int .u8)) (hi:(P.info? e).map (·.size)=some 1) (d a b:Nat) (w:World) :
  (Op.equalIn (d+2) t (.agg (A3 n a).toArray) (.agg (A3 n b).toArray)).run P w = .ok (B44 n a b) w:=
 A8D hu he hi d (be n a) (be n b) w (A35 n a) (A35 n b)
end Go.Mun
namespace Go.Mun
open Go.RowKit

def A1u (l:List Int):ByteArray:=⟨(l.map fun n=>UInt8.ofNat n.toNat).toArray⟩
theorem B0q (l:List Int):∀ s:ByteArray,l.foldl (fun r n=>r.push (UInt8.ofNat n.toNat)) s=⟨s.data++(l.map fun n=>UInt8.ofNat n.toNat).toArray⟩:=by
 induction l with
 | nil=>intro s;simp
 | cons x l ih =>
  intro s
  rw [List.foldl_cons,ih]
  simp [ByteArray.push]

theorem A3U {P:Program} {src dst e:TypeId} (hs:P.underlying src=some (.slice e)) (he:P.underlying e=some (.int .u8)) (hd:P.underlying dst=some .string)
  {w:World} {a:Option Addr} {c:Nat} {l:List Int} (hI:G9 w .u8 a c l):(convert src dst (.slice a l.length c)).run P w = .ok (.string (A1u l)) w:=by
 rw [run_convert_bytes_string w src dst e a l.length c hs he hd]
 cases a with
 | none =>
  have h1:=hI.nil rfl
  have h2:=hI.len
  have:l = []:=List.eq_nil_of_length_eq_zero (by omega)
  subst this
  simp [Conv.bytesToString,A1u]
  rfl
 | some ad =>
  have hl:(loadCells ad l.length).run P w = .ok (l.map (Value.int .u8)).toArray w:=by
   have:=run_loadCells_list (P:=P) w ad (l.map (Value.int .u8)) (fun j v hv=>by
    have hj:j < l.length:=by
     rcases Nat.lt_or_ge j l.length with h | h
     ·exact h
     ·rw [List.getElem?_eq_none (by simpa using h)] at hv;cases hv
    obtain ⟨b,off,ha,_,hc⟩:=hI.at hj
    have ha':ad=⟨b,off,none⟩:=by simpa using ha
    rw [U9 ha',hc j hj]
    simp [hj] at hv
    simp [hj,hv])
   simpa using this
  rw [run_bytesToString w ad l.length c l hl,B0q]
  simp [A1u]


theorem D9 {w:World} {base base' e size:Nat} {v:Value} {n:Nat} {xs:List Value} (h:w.ownsRow base e size v n xs) (hb:base'≤base):w.ownsRow base' e size v n xs:=by
 refine ⟨h.1,?_⟩
 rcases h.2 with h | ⟨g,cap,cur,h1,h2,h3⟩
 ·exact .inl h
 ·exact .inr ⟨g,cap,cur,h1,Nat.le_trans hb h2,h3⟩

theorem D8 {P:Program} {src dst e:TypeId} (hs:P.underlying src=some (.slice e)) (he:P.underlying e=some (.int .u8)) (hd:P.underlying dst=some .string)
  {w:World} {a:Option Addr} {n c:Nat} {l:List Int} (hn:n=l.length) (hI:G9 w .u8 a c l):(convert src dst (.slice a n c)).run P w = .ok (.string (A1u l)) w:=by
 subst hn;exact A3U hs he hd hI

end Go.Mun
namespace Go.Mun
open Go.RowKit

theorem A5c {P:Program} {t e:TypeId} (E:P4 P t e (.int .u8 0) 1 1) (x:Int) (n:Nat) (hx:x=n) (hn:n≤16777216) (w:World) :
  (Instr.makeSlice t (.int .i64 x) (.int .i64 x)).run P w = .ok (.slice (some ⟨w.heap.size,0,none⟩) n n) (w.alloc (.cells (J4 n).toArray e)):=by
 subst hx
 obtain ⟨i,hi,hz,hsz,hb⟩:=E.info
 have:=run_make (P:=P) w t e i _ E.slice hi hz .i64 .i64 n n (by omega) (Int.le_refl _) (by rw [hb];omega) (by omega)
 simp only [Int.toNat_natCast,hsz,Nat.mul_one] at this
 rw [this]
 have e0:madeCells (Value.int .u8 0).cells n=(J4 n).toArray:=by
  apply Array.ext
  ·simp [madeCells]
  ·intro i h1 h2
   simp [madeCells,J4,Value.cells]
   have:i % 1=0:=Nat.mod_one i
   simp [this]
 rw [e0]

theorem A1I {P:Program} {fn:Func} {R:Ending→World→Prop} {a:Act} {w:World} {p q ty n b:Nat} (hT:V3 P ty n) (hres:fn.results = #[.cell p ty,.tmp q]) (L:List Value) (x:Value)
  (hp:a.tmps.getD p undef = .pointer (some ⟨b,0,none⟩)) (hq:a.tmps.getD q undef=x) (hd:a.defers = []) (hr:w.row? b 0 n=some L) (hR:R (.returned (.tuple #[.agg L.toArray,x])) w) :
  bodyPost P fn R .ret a w:=by
 refine ⟨hd,_,?_,hR⟩
 obtain ⟨d,hu,hd⟩:=hT.desc
 have hp':a.tmps[p]?.getD undef = .pointer (some ⟨b,0,none⟩):=by simpa using hp
 have hq':a.tmps[q]?.getD undef=x:=by simpa using hq
 simp [results,hres,hp',hq',asAddr,run_loadVar_mid w b 0 ty L d (World.row?_rangeAt hr) hu hd (by rw [World.row?_len hr];exact hT.size)]

theorem A58 (n:Nat):K2 (List.replicate n 0)=J4 n:=by simp [K2,J4]
end Go.Mun
