/- A part of the proof of EvmLogs: ZSta. -/
import Derived.Test.YtfflppedbopdpaaGreatZPlain
import Derived.Test.YtfflppedbopdpaaGreatZFrm
set_option linter.unusedVariables false
set_option linter.unusedSimpArgs false
namespace Go.Mun
open Go.RowKit

inductive Lab where
 | st | amap | undos | marks | acc | smap (p:Nat) | code
 deriving DecidableEq
abbrev Own:=Nat→Option Lab

def Byt (l:List Int):Prop:=∀ x∈l,0≤x∧x < 256
structure Q2 (w:World) (own:Own) (cv:Value) (l:J1):Prop where
 read:∃ a c,cv = .slice a l.length c∧G9 w .u8 a c l∧(l≠[]→∀ p,a=some p→own p.block=some .code)
 byte:Byt l
 len:l.length≤1099511627776
structure A0E (sl:List (Nat × Nat)) (f:Nat→Nat):Prop where
 get:∀ k,f k=(I3 k sl).getD 0
 val:∀ p∈sl,p.2≠0∧p.2 < wW
def X4 (n b:Nat) (cv qv:Value):List Value:=.int .i64 n :: (A3 32 b++[cv,qv])
theorem V2 (n b:Nat) (cv qv:Value):(X4 n b cv qv).length=35:=by simp [X4]
structure L5 (w:World) (own:Own) (p:Nat) (x:Acc):Prop where
 lab:own p=some .acc
 free:w.free? p 0 35=true
 cells:∃ cv q sl,w.row? p 0 35=some (X4 x.nonce x.bal cv (.map (some q)))∧Q2 w own cv x.code∧own q=some (.smap p)∧E1 wdV wW wdV w q sl∧A0E sl x.slots
 nonce:x.nonce≤9223372036854775807
 bal:x.bal < wW

structure UTy where
 (n b c s a u m:TypeId)
inductive Y8 where
 | nonce (a n:Nat)
 | bal (a n:Nat)
 | code (a:Nat) (cv:Value) (l:J1)
 | slot (a k v:Nat)
 | all (a:Nat) (x:Option (Nat × Acc))
def C0u:Option (Nat × Acc)→Value
 | none => .pointer none
 | some (p,_) => .pointer (some ⟨p,0,none⟩)
def Y8.addr:Y8→Nat
 | .nonce a _ | .bal a _ | .code a _ _ | .slot a _ _ | .all a _=>a
def A0s (T:UTy):Y8→Value
 | .nonce a n => .iface T.n (.agg (A3 20 a++[Value.int .i64 n]).toArray)
 | .bal a n => .iface T.b (.agg (A3 20 a++A3 32 n).toArray)
 | .code a cv _ => .iface T.c (.agg (A3 20 a++[cv]).toArray)
 | .slot a k v => .iface T.s (.agg (A3 20 a++(A3 32 k++A3 32 v)).toArray)
 | .all a x => .iface T.a (.agg (A3 20 a++[C0u x]).toArray)
def A1W (w:World) (own:Own):Y8→Prop
 | .nonce a n=>a < wA∧n≤9223372036854775807
 | .bal a n=>a < wA∧n < wW
 | .code a cv l=>a < wA∧Q2 w own cv l
 | .slot a k v=>a < wA∧k < wW∧v < wW
 | .all a none=>a < wA
 | .all a (some (p,x))=>a < wA∧L5 w own p x
def A20 (S:St):Y8→St
 | .nonce a n=>S.setNonce a n
 | .bal a n=>S.setBal a n
 | .code a _ l=>S.setCode a l
 | .slot a k v=>S.setSlot a k v
 | .all a none=>Z9 S a Acc.none
 | .all a (some (_,x))=>Z9 S a x
def A10 (U:List Y8) (S:St):St:=U.foldl A20 S
def A1h:(Nat→Prop)→List Y8→Prop
 | _,[]=>True
 | K,.all a none :: r=>K a∧A1h (fun b=>K b∧b≠a) r
 | K,u :: r=>K u.addr∧A1h K r
def M8:List Y8→List Nat
 | [] => []
 | .all _ (some (p,_)) :: r=>p :: M8 r
 | _ :: r=>M8 r
def Q5 (mk:List (Nat × Nat)):List Value:=mk.flatMap fun m => [.int .i64 m.1,.int .i64 m.2]

structure StaCore (T:UTy) (w:World) (own:Own) (sb mb:Nat) (uv mv:Value) (last:Nat) (E:List (Nat × Nat)) (U:List Y8) (mk:List (Nat × Nat)) (S:St):Prop where
 lab:own sb=some .st
 row:w.row? sb 0 4=some [.map (some mb),uv,mv,.int .i64 last]
 free:w.free? sb 0 4=true
 mlab:own mb=some .amap
 map:E1 adV wA ptV w mb E
 acc:∀ p∈E,L5 w own p.2 (S p.1)
 out:∀ a,I3 a E=none→S a=Acc.none
 urow:w.ownsRow 0 T.u 1 uv U.length (U.reverse.map (A0s T))
 ulab:∀ g,uv.ownBlock=some g→own g=some .undos
 und:∀ u∈U,A1W w own u
 mrow:w.ownsRow 0 T.m 2 mv mk.length (Q5 mk)
 mklab:∀ g,mv.ownBlock=some g→own g=some .marks
 mks:mk.Pairwise fun m m'=>m.1 < m'.1∧m.2≤m'.2
 mkle:∀ m∈mk,m.1≤last∧m.2≤U.length
 low:∀ b,own b≠none→b < w.heap.size
structure O6 (T:UTy) (w:World) (own:Own) (sb mb:Nat) (uv mv:Value) (last:Nat) (E:List (Nat × Nat)) (U:List Y8) (mk:List (Nat × Nat)) (S:St):Prop extends StaCore T w own sb mb uv mv last E U mk S where
 keys:A1h (fun a=>a∈E.map Prod.fst) U
 nodup:(E.map Prod.snd++M8 U).Nodup
def StateAt (T:UTy) (w:World) (own:Own) (sb:Nat) (S:St) (M:List (Nat × St)) (n:Nat):Prop:=
 ∃ mb uv mv last E U mk,O6 T w own sb mb uv mv last E U mk S∧M=mk.map (fun m=>(m.1,A10 (U.take (U.length - m.2)) S))∧last≤n∧U.length≤n∧mk.length≤n∧E.length≤n+1000000

section
variable {w w':World} {own:Own} {R:Nat→Prop}
theorem Q2.only {cv:Value} {l:J1} (h:Q2 w own cv l) (ho:A0 R w w') (hR:∀ b,R b→own b≠some .code):Q2 w' own cv l:=by
 obtain ⟨⟨a,c,h1,h2,h3⟩,hb,hbl⟩:=h
 refine ⟨⟨a,c,h1,?_,h3⟩,hb,hbl⟩
 refine ⟨fun hl=>?_,h2.nil,h2.len,h2.cap⟩
 obtain ⟨b,off,ha,hc⟩:=h2.cell hl
 obtain ⟨b2,o2,ha2,hlt,_⟩:=h2.at (i:=0) (List.length_pos_iff.2 hl)
 rw [ha] at ha2;cases ha2
 refine ⟨b,off,ha,fun i hi=>?_⟩
 rw [ho.cell? hlt (fun hr=>hR _ hr (h3 hl _ ha))];exact hc i hi
theorem L5.only {p:Nat} {x:Acc} (h:L5 w own p x) (ho:A0 R w w') (hp:¬ R p) (hR:∀ b,R b→own b≠some .code∧own b≠some (.smap p)):L5 w' own p x:=by
 obtain ⟨cv,q,sl,h1,h2,h3,h4,h5⟩:=h.cells
 have hlt:=World.row?_lt h1
 refine ⟨h.lab,by rw [ho.free? hlt hp];exact h.free,⟨cv,q,sl,by rw [ho.row? hlt hp];exact h1,h2.only ho fun b hb=>(hR b hb).1,h3,h4.only ho fun hr=>(hR _ hr).2 h3,h5⟩,h.nonce,h.bal⟩
theorem L5.only_out {p:Nat} {x:Acc} (h:L5 w own p x) (ho:A0 R w w') (hR:∀ b,R b→own b=none):L5 w' own p x:=
 h.only ho (fun hr=>by have h1:=hR p hr;have h2:=h.lab;rw [h1] at h2;cases h2) fun b hb=>by rw [hR b hb];simp
theorem A1W.only {u:Y8} (h:A1W w own u) (ho:A0 R w w') (hR:∀ b,R b→own b=none):A1W w' own u:=by
 match u,h with
 | .nonce _ _,h=>exact h
 | .bal _ _,h=>exact h
 | .code _ _ _,h=>exact ⟨h.1,h.2.only ho fun b hb=>by rw [hR b hb];simp⟩
 | .slot _ _ _,h=>exact h
 | .all _ none,h=>exact h
 | .all _ (some (_,_)),h=>exact ⟨h.1,h.2.only_out ho hR⟩
theorem StaCore.only {T:UTy} {sb mb:Nat} {uv mv:Value} {last:Nat} {E:List (Nat × Nat)} {U:List Y8} {mk:List (Nat × Nat)} {S:St} (h:StaCore T w own sb mb uv mv last E U mk S) (ho:A0 R w w') (hR:∀ b,R b→own b=none) :
  StaCore T w' own sb mb uv mv last E U mk S:=by
 have hn:∀ {b l},own b=some l→¬ R b:=fun hb hr=>by rw [hR _ hr] at hb;cases hb
 have hlt:=World.row?_lt h.row
 exact { h with
  row:=by rw [ho.row? hlt (hn h.lab)];exact h.row
  free:=by rw [ho.free? hlt (hn h.lab)];exact h.free
  map:=h.map.only ho (hn h.mlab)
  acc:=fun p hp=>(h.acc p hp).only_out ho hR
  urow:=A0.own h.urow ho fun g hg=>hn (h.ulab g hg)
  und:=fun u hu=>(h.und u hu).only ho hR
  mrow:=A0.own h.mrow ho fun g hg=>hn (h.mklab g hg)
  low:=fun b hb=>Nat.lt_of_lt_of_le (h.low b hb) ho.size }
theorem O6.only {T:UTy} {sb mb:Nat} {uv mv:Value} {last:Nat} {E:List (Nat × Nat)} {U:List Y8} {mk:List (Nat × Nat)} {S:St} (h:O6 T w own sb mb uv mv last E U mk S) (ho:A0 R w w') (hR:∀ b,R b→own b=none) :
  O6 T w' own sb mb uv mv last E U mk S:=⟨h.toStaCore.only ho hR,h.keys,h.nodup⟩
theorem StateAt.only {T:UTy} {sb:Nat} {S:St} {M:List (Nat × St)} {n:Nat} (h:StateAt T w own sb S M n) (ho:A0 R w w') (hR:∀ b,R b→own b=none):StateAt T w' own sb S M n:=by
 obtain ⟨mb,uv,mv,last,E,U,mk,h1,h2⟩:=h
 exact ⟨mb,uv,mv,last,E,U,mk,h1.only ho hR,h2⟩
theorem StateAt.below {T:UTy} {sb:Nat} {S:St} {M:List (Nat × St)} {n:Nat} (h:StateAt T w own sb S M n) (hb:Below w.heap.size w w'):StateAt T w' own sb S M n:=
 h.only (R:=fun _=>False) (A0.of_below_size hb) (fun _ h=>h.elim)
theorem StateAt.mono {T:UTy} {sb:Nat} {S:St} {M:List (Nat × St)} {n m:Nat} (h:StateAt T w own sb S M n) (hm:n≤m):StateAt T w own sb S M m:=by
 obtain ⟨mb,uv,mv,last,E,U,mk,h1,h2,h3,h4,h5⟩:=h
 exact ⟨mb,uv,mv,last,E,U,mk,h1,h2,by omega,by omega,by omega,by omega⟩

structure A53 (w:World) (p:Nat) (x:Acc):Prop where
 cells:∃ cv qv,w.row? p 0 35=some (X4 x.nonce x.bal cv qv)∧(∃ a c,cv = .slice a x.code.length c∧G9 w .u8 a c x.code) ∧
  ((qv = .map none∧x.slots=fun _=>0)∨∃ q sl,qv = .map (some q)∧E1 wdV wW wdV w q sl∧A0E sl x.slots)
 byte:Byt x.code
 clen:x.code.length≤1099511627776
 nonce:x.nonce≤9223372036854775807
 bal:x.bal < wW
theorem L5.r {p:Nat} {x:Acc} (h:L5 w own p x):A53 w p x:=by
 obtain ⟨cv,q,sl,h1,h2,h3,h4,h5⟩:=h.cells
 obtain ⟨a,c,e1,e2,_⟩:=h2.read
 exact ⟨⟨cv,_,h1,⟨a,c,e1,e2⟩,.inr ⟨q,sl,rfl,h4,h5⟩⟩,h2.byte,h2.len,h.nonce,h.bal⟩
end

theorem A53.only {w w':World} {R:Nat→Prop} {p:Nat} {x:Acc} (h:A53 w p x) (ho:A0 R w w') (hR:∀ b,b < w.heap.size→¬ R b):A53 w' p x:=by
 obtain ⟨cv,qv,h1,⟨a,c,h2,h3⟩,h4⟩:=h.cells
 have hlt:=World.row?_lt h1
 refine ⟨⟨cv,qv,by rw [ho.row? hlt (hR _ hlt)];exact h1,⟨a,c,h2,?_⟩,?_⟩,h.byte,h.clen,h.nonce,h.bal⟩
 ·refine ⟨fun hl=>?_,h3.nil,h3.len,h3.cap⟩
  obtain ⟨b,off,ha,hc⟩:=h3.cell hl
  obtain ⟨b2,o2,ha2,hlt2,_⟩:=h3.at (i:=0) (List.length_pos_iff.2 hl)
  rw [ha] at ha2;cases ha2
  exact ⟨b,off,ha,fun i hi=>by rw [ho.cell? hlt2 (hR _ hlt2)];exact hc i hi⟩
 ·rcases h4 with h4 | ⟨q,sl,h5,h6,h7⟩
  ·exact .inl h4
  ·exact .inr ⟨q,sl,h5,h6.only ho (hR _ h6.lt),h7⟩
theorem A53.below {w w':World} {p:Nat} {x:Acc} (h:A53 w p x) (hb:Below w.heap.size w w'):A53 w' p x:=h.only (R:=fun _=>False) (A0.of_below_size hb) (fun _ _ h=>h)
theorem X3 {w:World} {p n b:Nat} {cv qv:Value} (h:w.row? p 0 35=some (X4 n b cv qv)) :
  w.cell? ⟨p,0,none⟩=some (.int .i64 n)∧w.row? p 1 32=some (A3 32 b)∧w.cell? ⟨p,33,none⟩=some cv∧w.cell? ⟨p,34,none⟩=some qv:=by
 have hb:(A3 32 b).length=32:=by simp
 have c:=fun (i:Nat) (hi:i < 35)=>World.row?_cell h hi
 refine ⟨by have:=c 0 (by omega);simpa [X4] using this,?_,?_,?_⟩
 ·rw [World.row?_sub h (by omega) (by omega)]
  simp only [X4,List.drop_succ_cons,List.drop_zero,Nat.sub_zero]
  rw [List.take_append_of_le_length (by omega),List.take_of_length_le (by omega)]
 ·have:=c 33 (by omega)
  simp only [X4,Nat.zero_add] at this
  rw [this,List.getElem?_cons_succ,List.getElem?_append_right (by omega),hb];rfl
 ·have:=c 34 (by omega)
  simp only [X4,Nat.zero_add] at this
  rw [this,List.getElem?_cons_succ,List.getElem?_append_right (by omega),hb];rfl
def B0P:List Value:=X4 0 0 (.slice none 0 0) (.map none)
theorem B0E (w:World) (own:Own):Q2 w own (.slice none 0 0) []:=⟨⟨none,0,rfl,⟨fun h=>absurd rfl h,fun _=>rfl,Nat.zero_le _,Nat.zero_le _⟩,fun h=>absurd rfl h⟩,fun x hx=>(by cases hx),Nat.zero_le _⟩
theorem B8D (w:World) (t:TypeId):A53 (w.alloc (.cells B0P.toArray t)) w.heap.size Acc.none:=
 ⟨⟨_,_,World.row?_alloc_at B0P t _ rfl (V2 _ _ _ _),⟨none,0,rfl,⟨fun h=>absurd rfl h,fun _=>rfl,Nat.zero_le _,Nat.zero_le _⟩⟩,.inl ⟨rfl,rfl⟩⟩,fun x hx=>by simp [Acc.none] at hx,Nat.zero_le _,Nat.zero_le _,by decide⟩
theorem StaCore.cells {T:UTy} {w:World} {own:Own} {sb mb:Nat} {uv mv:Value} {last:Nat} {E:List (Nat × Nat)} {U:List Y8} {mk:List (Nat × Nat)} {S:St} (h:StaCore T w own sb mb uv mv last E U mk S) :
  w.cell? ⟨sb,0,none⟩=some (.map (some mb))∧w.cell? ⟨sb,1,none⟩=some uv∧w.cell? ⟨sb,2,none⟩=some mv∧w.cell? ⟨sb,3,none⟩=some (.int .i64 last):=by
 have c:=fun (i:Nat) (hi:i < 4)=>World.row?_cell h.row hi
 exact ⟨c 0 (by omega),c 1 (by omega),c 2 (by omega),c 3 (by omega)⟩

/-! ### what a change may do -/
def Own.le (own own':Own):Prop:=∀ b l,own b=some l→own' b=some l
theorem Q2.le {w:World} {own own':Own} {cv:Value} {l:J1} (h:Q2 w own cv l) (hl:own.le own'):Q2 w own' cv l:=by
 obtain ⟨⟨a,c,h1,h2,h3⟩,hb,hbl⟩:=h
 exact ⟨⟨a,c,h1,h2,fun hn p hp=>hl _ _ (h3 hn p hp)⟩,hb,hbl⟩
theorem L5.le {w:World} {own own':Own} {p:Nat} {x:Acc} (h:L5 w own p x) (hl:own.le own'):L5 w own' p x:=by
 obtain ⟨cv,q,sl,h1,h2,h3,h4,h5⟩:=h.cells
 exact ⟨hl _ _ h.lab,h.free,⟨cv,q,sl,h1,h2.le hl,hl _ _ h3,h4,h5⟩,h.nonce,h.bal⟩
theorem A1W.le {w:World} {own own':Own} {u:Y8} (h:A1W w own u) (hl:own.le own'):A1W w own' u:=by
 match u,h with
 | .nonce _ _,h=>exact h
 | .bal _ _,h=>exact h
 | .code _ _ _,h=>exact ⟨h.1,h.2.le hl⟩
 | .slot _ _ _,h=>exact h
 | .all _ none,h=>exact h
 | .all _ (some (_,_)),h=>exact ⟨h.1,h.2.le hl⟩
theorem StaCore.le {T:UTy} {w:World} {own own':Own} {sb mb:Nat} {uv mv:Value} {last:Nat} {E:List (Nat × Nat)} {U:List Y8} {mk:List (Nat × Nat)} {S:St} (h:StaCore T w own sb mb uv mv last E U mk S) (hl:own.le own')
  (hlow:∀ b,own' b≠none→b < w.heap.size):StaCore T w own' sb mb uv mv last E U mk S:=
 { h with
  lab:=hl _ _ h.lab
  mlab:=hl _ _ h.mlab
  acc:=fun p hp=>(h.acc p hp).le hl
  ulab:=fun g hg=>hl _ _ (h.ulab g hg)
  und:=fun u hu=>(h.und u hu).le hl
  mklab:=fun g hg=>hl _ _ (h.mklab g hg)
  low:=hlow }
structure T6 (w w':World) (own own':Own):Prop where
 ext:∀ b,b < w.heap.size→own' b=own b
 only:A0 (fun b=>own b≠none) w w'
theorem T6.refl (w:World) (own:Own):T6 w w own own:=⟨fun _ _=>rfl,A0.refl _ _⟩
theorem T6.below {w w':World} (own:Own) (h:Below w.heap.size w w'):T6 w w' own own:=⟨fun _ _=>rfl,A0.of_below_size h⟩
theorem T6.trans {w w1 w2:World} {own own1 own2:Own} (h:T6 w w1 own own1) (k:T6 w1 w2 own1 own2):T6 w w2 own own2:=
 ⟨fun b hb=>(k.ext b (Nat.lt_of_lt_of_le hb h.only.size)).trans (h.ext b hb),h.only.trans k.only fun i hi hb=>by rw [← h.ext i hb];exact hi⟩
theorem T6.le {w w':World} {own own':Own} (h:T6 w w' own own') (hlow:∀ b,own b≠none→b < w.heap.size):own.le own':=
 fun b l hb=>by rw [h.ext b (hlow b (by rw [hb];simp))];exact hb
theorem Q7 {w:World} {base e size:Nat} {v:Value} {n:Nat} {xs:List Value} (h:w.ownsRow base e size v n xs):∃ a c,v = .slice a n c:=by
 rcases h.2 with ⟨rfl,rfl⟩ | ⟨g,cap,cur,rfl,_⟩
 ·exact ⟨_,_,rfl⟩
 ·exact ⟨_,_,rfl⟩
theorem A8k (T:UTy) (u:Y8):(A0s T u).oneCell'=true:=by cases u <;> rfl
theorem A5i (u:Y8) (U:List Y8) (h:∀ a p x,u≠.all a (some (p,x))):M8 (u :: U)=M8 U:=by
 match u with
 | .nonce _ _=>rfl
 | .bal _ _=>rfl
 | .code _ _ _=>rfl
 | .slot _ _ _=>rfl
 | .all _ none=>rfl
 | .all a (some (p,x))=>exact absurd rfl (h a p x)
theorem A3h (u:Y8) (U:List Y8) (k:Nat) (hk:k≤U.length) (S:St):A10 ((u :: U).take ((u :: U).length - k)) S=A10 (U.take (U.length - k)) (A20 S u):=by
 rw [List.length_cons,show U.length+1 - k=(U.length - k)+1 by omega,List.take_succ_cons];rfl

theorem K7:∀ (U:List Y8) {K K':Nat→Prop},(∀ b,K b→K' b)→A1h K U→A1h K' U
 | [],_,_,_,_=>trivial
 | .all _ none :: r,_,_,hm,h=>⟨hm _ h.1,K7 r (fun b hb=>⟨hm b hb.1,hb.2⟩) h.2⟩
 | .all _ (some (_,_)) :: r,_,_,hm,h=>⟨hm _ h.1,K7 r hm h.2⟩
 | .nonce _ _ :: r,_,_,hm,h=>⟨hm _ h.1,K7 r hm h.2⟩
 | .bal _ _ :: r,_,_,hm,h=>⟨hm _ h.1,K7 r hm h.2⟩
 | .code _ _ _ :: r,_,_,hm,h=>⟨hm _ h.1,K7 r hm h.2⟩
 | .slot _ _ _ :: r,_,_,hm,h=>⟨hm _ h.1,K7 r hm h.2⟩
section
variable {T:UTy} {w:World} {own:Own} {sb mb:Nat} {uv mv:Value} {last:Nat} {E:List (Nat × Nat)} {U:List Y8} {mk:List (Nat × Nat)} {S:St}
theorem Q2.but {w':World} {R:Nat→Prop} {cv:Value} {l:J1} (h:Q2 w own cv l) (ho:A0 R w w') (hR:∀ b,R b→own b=none∨own b=some .st∨own b=some .undos∨own b=some .marks∨own b=some .amap):Q2 w' own cv l:=
 h.only ho fun b hb=>by rcases hR b hb with h | h | h | h | h <;> rw [h] <;> simp
theorem L5.but {w':World} {R:Nat→Prop} {p:Nat} {x:Acc} (h:L5 w own p x) (ho:A0 R w w') (hR:∀ b,R b→own b=none∨own b=some .st∨own b=some .undos∨own b=some .marks∨own b=some .amap):L5 w' own p x:=
 h.only ho (fun hr=>by have:=h.lab;rcases hR p hr with h | h | h | h | h <;> rw [h] at this <;> cases this) fun b hb=>by rcases hR b hb with h | h | h | h | h <;> rw [h] <;> simp
theorem A1W.but {w':World} {R:Nat→Prop} {u:Y8} (h:A1W w own u) (ho:A0 R w w') (hR:∀ b,R b→own b=none∨own b=some .st∨own b=some .undos∨own b=some .marks∨own b=some .amap):A1W w' own u:=by
 match u,h with
 | .nonce _ _,h=>exact h
 | .bal _ _,h=>exact h
 | .code _ _ _,h=>exact ⟨h.1,h.2.but ho hR⟩
 | .slot _ _ _,h=>exact h
 | .all _ none,h=>exact h
 | .all _ (some (_,_)),h=>exact ⟨h.1,h.2.but ho hR⟩
theorem A1c {w:World} {b i:Nat} {a0 a1 a2 a3:Value} (h:w.row? b 0 4=some [a0,a1,a2,a3]) (hi:i < 4) (v:Value):(w.setCell ⟨b,i,none⟩ v).row? b 0 4=some ([a0,a1,a2,a3].set i v):=by
 rw [G6 v h (Nat.zero_le _) (by omega),Nat.sub_zero,Z2 _ _ _ (by simpa using hi)]
theorem B3H {w1:World} {uv' V:Value} {t:TypeId} (h:StaCore T w own sb mb uv mv last E U mk S) (u:Y8) (hok:A1W w own u)
  (hr:w1.ownsRow 0 T.u 1 uv' (U.length+1) (U.reverse.map (A0s T)++[A0s T u])) (ho:A0 (fun g=>uv.ownBlock=some g) (w.alloc (.cells #[V] t)) w1) (hg:∀ g,uv'.ownBlock=some g→uv.ownBlock=some g∨w.heap.size < g) :
  ∃ own',StaCore T (w1.setCell ⟨sb,1,none⟩ uv') own' sb mb uv' mv last E (u :: U) mk S∧T6 w (w1.setCell ⟨sb,1,none⟩ uv') own own':=by
 have hlow:∀ b l,own b=some l→b < w.heap.size:=fun b l hb=>h.low b (by rw [hb];simp)
 have ho1:A0 (fun g=>uv.ownBlock=some g) w w1:=((A0.refl _ _).alloc _).trans ho (fun i hi _=>hi)
 have hR1:∀ b,uv.ownBlock=some b→own b=none∨own b=some .st∨own b=some .undos∨own b=some .marks∨own b=some .amap:=fun b hb => .inr (.inr (.inl (h.ulab b hb)))
 have hsb:¬ uv.ownBlock=some sb:=fun e=>by have:=h.ulab sb e;rw [h.lab] at this;cases this
 have ho2:A0 (fun g=>uv.ownBlock=some g∨g=sb) w (w1.setCell ⟨sb,1,none⟩ uv'):=(ho1.mono fun _ h => .inl h).setCell (fun _ => .inr rfl) _
 have hR2:∀ b,(uv.ownBlock=some b∨b=sb)→own b=none∨own b=some .st∨own b=some .undos∨own b=some .marks∨own b=some .amap:=fun b hb=>by
  rcases hb with hb | rfl
  ·exact hR1 b hb
  ·exact .inr (.inl h.lab)
 have hnm:∀ b,(uv.ownBlock=some b∨b=sb)→own b≠some .amap∧own b≠some .marks:=fun b hb=>by
  rcases hb with hb | rfl
  ·rw [h.ulab b hb];simp
  ·rw [h.lab];simp
 have hsz:w.heap.size < w1.heap.size:=by have:=ho.size;simp at this;omega
 let own':Own:=fun b=>if uv'.ownBlock=some b then some .undos else own b
 have hext:∀ b,b < w.heap.size→own' b=own b:=by
  intro b hb
  by_cases e:uv'.ownBlock=some b
  ·rcases hg b e with e2 | e2
   ·simp only [own',if_pos e,h.ulab b e2]
   ·omega
  ·simp only [own',if_neg e]
 have hle:own.le own':=fun b l hb=>by rw [hext b (hlow b l hb)];exact hb
 have hrow:w1.row? sb 0 4=some [.map (some mb),uv,mv,.int .i64 last]:=by rw [ho1.row? (hlow _ _ h.lab) hsb];exact h.row
 have hfree:w1.free? sb 0 4=true:=by rw [ho1.free? (hlow _ _ h.lab) hsb];exact h.free
 have hus:∀ g,uv'.ownBlock=some g→g≠sb:=fun g hgg e=>by
  rcases hg g hgg with e2 | e2
  ·exact hsb (e ▸ e2)
  ·have:=hlow _ _ h.lab;omega
 have hms:∀ g,mv.ownBlock=some g→¬ (uv.ownBlock=some g∨g=sb):=fun g hgg hb=>(hnm g hb).2 (h.mklab g hgg)
 refine ⟨own',?_,hext,ho2.mono fun b hb=>?_⟩
 ·exact {
   lab:=hle _ _ h.lab
   row:=by rw [A1c hrow (by omega)];rfl
   free:=by rw [D0];exact hfree
   mlab:=hle _ _ h.mlab
   map:=h.map.only ho2 fun hb=>(hnm mb hb).1 h.mlab
   acc:=fun p hp=>((h.acc p hp).but ho2 hR2).le hle
   out:=h.out
   urow:=by
    refine A0.own (w:=w1) (S:=(· = sb)) ?_ ((A0.refl (· = sb) w1).setCell (p:=⟨sb,1,none⟩) (fun _=>rfl) uv') hus
    rw [List.length_cons,List.reverse_cons,List.map_append];exact hr
   ulab:=fun g hgg=>by simp only [own',if_pos hgg]
   und:=fun x hx=>by
    rcases List.mem_cons.1 hx with rfl | hx
    ·exact (hok.but ho2 hR2).le hle
    ·exact ((h.und x hx).but ho2 hR2).le hle
   mrow:=A0.own h.mrow ho2 hms
   mklab:=fun g hgg=>hle _ _ (h.mklab g hgg)
   mks:=h.mks
   mkle:=fun m hm=>⟨(h.mkle m hm).1,Nat.le_succ_of_le (h.mkle m hm).2⟩
   low:=fun b hb=>by
    rw [World.size_setCell]
    by_cases e:uv'.ownBlock=some b
    ·rcases hr.2 with ⟨e1,_⟩ | ⟨g,cap,cur,e1,_,h2,_⟩
     ·rw [e1] at e;simp [Value.ownBlock] at e
     ·rw [e1] at e;simp [Value.ownBlock] at e;subst e;exact (Array.getElem?_eq_some_iff.1 h2).1
    ·simp only [own',if_neg e] at hb
     exact Nat.lt_trans (h.low b hb) hsz }
 ·rcases hb with hb | rfl
  ·rw [h.ulab b hb];simp
  ·rw [h.lab];simp
theorem B01 {w1:World} {t2:TypeId} (h:StaCore T w own sb mb uv mv last E U mk S) (a:Nat) (hE:I3 a E=none)
  (hm:E1 adV wA ptV w1 mb (N0 a (w.heap.size+1) E)) (ho:A0 (· = mb) ((w.alloc (.map #[] 0)).alloc (.cells (X4 0 0 (.slice none 0 0) (.map (some w.heap.size))).toArray t2)) w1) :
  ∃ own',StaCore T w1 own' sb mb uv mv last (N0 a (w.heap.size+1) E) U mk S∧T6 w w1 own own'∧L5 w1 own' (w.heap.size+1) Acc.none:=by
 have hlow:∀ b l,own b=some l→b < w.heap.size:=fun b l hb=>h.low b (by rw [hb];simp)
 have ho1:A0 (· = mb) w w1:=(((A0.refl _ _).alloc _).alloc _).trans ho (fun i hi _=>hi)
 have hR1:∀ b,b=mb→own b=none∨own b=some .st∨own b=some .undos∨own b=some .marks∨own b=some .amap:=fun b hb=>by rw [hb,h.mlab];simp
 have hsz:w.heap.size+2≤w1.heap.size:=by have:=ho.size;simp at this;omega
 let own':Own:=fun b=>if b=w.heap.size+1 then some .acc else if b=w.heap.size then some (.smap (w.heap.size+1)) else own b
 have hext:∀ b,b < w.heap.size→own' b=own b:=by
  intro b hb
  simp only [own']
  rw [if_neg (by omega),if_neg (by omega)]
 have hle:own.le own':=fun b l hb=>by rw [hext b (hlow b l hb)];exact hb
 have hsb:¬ sb=mb:=fun e=>by have:=h.lab;rw [e,h.mlab] at this;cases this
 have hmb:=hlow _ _ h.mlab
 have hacc:L5 w1 own' (w.heap.size+1) Acc.none:=by
  have hne:¬ w.heap.size+1=mb:=by omega
  have hne2:¬ w.heap.size=mb:=by omega
  refine ⟨by simp [own'],?_,⟨.slice none 0 0,w.heap.size,[],?_,⟨⟨none,0,rfl,⟨fun h=>absurd rfl h,fun _=>rfl,Nat.le_refl _,Nat.zero_le _⟩,fun _ p hp=>by cases hp⟩,fun x hx=>by simp [Acc.none] at hx,Nat.zero_le _⟩,by simp [own'],?_,⟨fun k=>rfl,fun p hp=>by cases hp⟩⟩,Nat.zero_le _,by show 0 < wW;decide⟩
  ·rw [ho.free? (by simp) hne];exact World.free?_alloc_at _ _ (by simp) (by rw [V2];omega)
  ·rw [ho.row? (by simp) hne];exact World.row?_alloc_at _ _ _ (by simp) (V2 _ _ _ _)
  ·exact ((E1.new w wdV wW wdV).below ((Below.refl _ _).alloc (Nat.le_refl _) _)).only ho hne2
 refine ⟨own',?_,⟨hext,ho1.mono fun b hb=>by rw [hb,h.mlab];simp⟩,hacc⟩
 have hus:∀ g,uv.ownBlock=some g→¬ g=mb:=fun g hgg e=>by have:=h.ulab g hgg;rw [e,h.mlab] at this;cases this
 have hms:∀ g,mv.ownBlock=some g→¬ g=mb:=fun g hgg e=>by have:=h.mklab g hgg;rw [e,h.mlab] at this;cases this
 exact {
  lab:=hle _ _ h.lab
  row:=by rw [ho1.row? (hlow _ _ h.lab) hsb];exact h.row
  free:=by rw [ho1.free? (hlow _ _ h.lab) hsb];exact h.free
  mlab:=hle _ _ h.mlab
  map:=hm
  acc:=fun p hp=>by
   rcases A1M hp with rfl | hp
   ·show L5 w1 own' (w.heap.size+1) (S a)
    rw [h.out a hE];exact hacc
   ·exact ((h.acc p hp).but ho1 hR1).le hle
  out:=fun b hb=>by
   rw [O8] at hb
   split at hb
   ·cases hb
   ·exact h.out b hb
  urow:=A0.own h.urow ho1 hus
  ulab:=fun g hgg=>hle _ _ (h.ulab g hgg)
  und:=fun x hx=>((h.und x hx).but ho1 hR1).le hle
  mrow:=A0.own h.mrow ho1 hms
  mklab:=fun g hgg=>hle _ _ (h.mklab g hgg)
  mks:=h.mks
  mkle:=h.mkle
  low:=fun b hb=>by
   simp only [own'] at hb
   split at hb
   ·omega
   ·split at hb
    ·omega
    ·have:=h.low b hb;omega }
end
end Go.Mun
namespace Go.Mun
open Go.RowKit

section
variable {T:UTy} {w:World} {own:Own} {sb mb:Nat} {uv mv:Value} {last:Nat} {E:List (Nat × Nat)} {U:List Y8} {mk:List (Nat × Nat)} {S:St}
def A0g (mk:List (Nat × Nat)) (u:Y8) (U:List Y8):List Y8:=if mk = [] then U else u :: U

theorem A0z:∀ {U:List Y8} {a p:Nat} {x:Acc},Y8.all a (some (p,x))∈U→p∈M8 U
 | .all _ (some (q,y)) :: r,a,p,x,h=>by
  rcases List.mem_cons.1 h with h | h
  ·cases h;simp [M8]
  ·simp only [M8,List.mem_cons];exact .inr (A0z h)
 | .all _ none :: r,a,p,x,h=>by
  rcases List.mem_cons.1 h with h | h
  ·cases h
  ·exact A0z (U:=r) h
 | .nonce _ _ :: r,a,p,x,h=>by
  rcases List.mem_cons.1 h with h | h
  ·cases h
  ·exact A0z (U:=r) h
 | .bal _ _ :: r,a,p,x,h=>by
  rcases List.mem_cons.1 h with h | h
  ·cases h
  ·exact A0z (U:=r) h
 | .code _ _ _ :: r,a,p,x,h=>by
  rcases List.mem_cons.1 h with h | h
  ·cases h
  ·exact A0z (U:=r) h
 | .slot _ _ _ :: r,a,p,x,h=>by
  rcases List.mem_cons.1 h with h | h
  ·cases h
  ·exact A0z (U:=r) h
theorem A0w:∀ {U:List Y8} {p:Nat},p∈M8 U→∃ a x,Y8.all a (some (p,x))∈U
 | .all a (some (q,y)) :: r,p,h=>by
  rcases List.mem_cons.1 (show p∈q :: M8 r from h) with rfl | h
  ·exact ⟨a,y,by simp⟩
  ·obtain ⟨b,x,hb⟩:=A0w h;exact ⟨b,x,List.mem_cons_of_mem _ hb⟩
 | .all _ none :: r,p,h=>by obtain ⟨b,x,hb⟩:=A0w (U:=r) h;exact ⟨b,x,List.mem_cons_of_mem _ hb⟩
 | .nonce _ _ :: r,p,h=>by obtain ⟨b,x,hb⟩:=A0w (U:=r) h;exact ⟨b,x,List.mem_cons_of_mem _ hb⟩
 | .bal _ _ :: r,p,h=>by obtain ⟨b,x,hb⟩:=A0w (U:=r) h;exact ⟨b,x,List.mem_cons_of_mem _ hb⟩
 | .code _ _ _ :: r,p,h=>by obtain ⟨b,x,hb⟩:=A0w (U:=r) h;exact ⟨b,x,List.mem_cons_of_mem _ hb⟩
 | .slot _ _ _ :: r,p,h=>by obtain ⟨b,x,hb⟩:=A0w (U:=r) h;exact ⟨b,x,List.mem_cons_of_mem _ hb⟩
theorem StaCore.ptr_lab (h:StaCore T w own sb mb uv mv last E U mk S):∀ p∈E.map Prod.snd++M8 U,own p=some .acc:=by
 intro p hp
 rcases List.mem_append.1 hp with hp | hp
 ·obtain ⟨q,hq,rfl⟩:=List.mem_map.1 hp
  exact (h.acc q hq).lab
 ·obtain ⟨a,x,hm⟩:=A0w hp
  exact (h.und _ hm).2.lab

theorem A7o {w2:World} {R:Nat→Prop} {a p:Nat} {x:Acc} (h:StaCore T w own sb mb uv mv last E U mk S) (hn:(E.map Prod.snd++M8 U).Nodup) (hk:(E.map Prod.fst).Nodup) (hp:I3 a E=some p)
  (ho:A0 R w w2) (hR:∀ b,R b→b=p∨own b=some (.smap p)∨own b=none) (hx:L5 w2 own p x):StaCore T w2 own sb mb uv mv last E U mk (Z9 S a x):=by
 have hmem:=L7 hp
 have hlp:=(h.acc _ hmem).lab
 have hno:∀ b l,own b=some l→l≠.acc→(∀ q,l≠.smap q)→¬ R b:=fun b l hb h1 h2 hr=>by
  rcases hR b hr with rfl | h3 | h3
  ·rw [hlp] at hb;cases hb;exact h1 rfl
  ·rw [h3] at hb;cases hb;exact h2 p rfl
  ·rw [h3] at hb;cases hb
 have keep:∀ q y,q≠p→L5 w own q y→L5 w2 own q y:=fun q y hq hy=>hy.only ho
  (fun hr=>by
   rcases hR q hr with e | e | e
   ·exact hq e
   ·have:=hy.lab;rw [e] at this;cases this
   ·have:=hy.lab;rw [e] at this;cases this)
  (fun b hr=>by
   rcases hR b hr with rfl | e | e
   ·rw [hlp];simp
   ·rw [e];simp;omega
   ·rw [e];simp)
 have hcode:∀ b,R b→own b≠some .code:=fun b hr=>by
  rcases hR b hr with rfl | e | e
  ·rw [hlp];simp
  ·rw [e];simp
  ·rw [e];simp
 have hlt:=World.row?_lt h.row
 have hnd:=List.nodup_append.1 hn
 exact { h with
  row:=by rw [ho.row? hlt (hno _ _ h.lab (by simp) (by simp))];exact h.row
  free:=by rw [ho.free? hlt (hno _ _ h.lab (by simp) (by simp))];exact h.free
  map:=h.map.only ho (hno _ _ h.mlab (by simp) (by simp))
  acc:=fun q hq=>by
   by_cases e:q.1=a
   ·have:I3 a E=some q.2:=by
     obtain ⟨j,hj⟩:=List.mem_iff_getElem?.1 hq
     exact A3J hk (by rw [hj,← e])
    rw [hp] at this
    cases this
    rw [e,A1a];exact hx
   ·rw [Z8 _ _ e]
    refine keep q.2 _ (fun e2=>e ?_) (h.acc q hq)
    have h1:=hnd.1
    obtain ⟨i,hi⟩:=List.mem_iff_getElem?.1 hq
    obtain ⟨j,hj⟩:=List.mem_iff_getElem?.1 hmem
    have hi':(E.map Prod.snd)[i]? = some p:=by rw [List.getElem?_map,hi,← e2];rfl
    have hj':(E.map Prod.snd)[j]? = some p:=by rw [List.getElem?_map,hj];rfl
    have hij:i=j:=by
     obtain ⟨hi2,hi3⟩:=List.getElem?_eq_some_iff.1 hi'
     obtain ⟨hj2,hj3⟩:=List.getElem?_eq_some_iff.1 hj'
     have hpw:=List.pairwise_iff_getElem.1 h1
     rcases Nat.lt_trichotomy i j with hlt | heq | hgt
     ·exact absurd (hi3.trans hj3.symm) (hpw i j hi2 hj2 hlt)
     ·exact heq
     ·exact absurd (hj3.trans hi3.symm) (hpw j i hj2 hi2 hgt)
    rw [hij,hj] at hi
    cases hi;rfl
  out:=fun b hb=>by
   rw [Z8 _ _ (fun e=>by rw [e,hp] at hb;cases hb)];exact h.out b hb
  urow:=A0.own h.urow ho fun g hg=>hno _ _ (h.ulab g hg) (by simp) (by simp)
  und:=fun u hu=>by
   match u,h.und u hu with
   | .nonce _ _,h=>exact h
   | .bal _ _,h=>exact h
   | .code _ _ _,h=>exact ⟨h.1,h.2.only ho hcode⟩
   | .slot _ _ _,h=>exact h
   | .all _ none,h=>exact h
   | .all b (some (q,y)),hh =>
    refine ⟨hh.1,keep q y (fun e=>?_) hh.2⟩
    subst e
    exact hnd.2.2 q (List.mem_map.2 ⟨_,hmem,rfl⟩) q (A0z hu) rfl
  mrow:=A0.own h.mrow ho fun g hg=>hno _ _ (h.mklab g hg) (by simp) (by simp)
  low:=fun b hb=>Nat.lt_of_lt_of_le (h.low b hb) ho.size }

theorem A2v {p a:Nat} {E':List (Nat × Nat)} (hn:(E.map Prod.snd++M8 U).Nodup) (hlt:∀ q∈E.map Prod.snd++M8 U,q < w.heap.size)
  (hE:E'=E∨(I3 a E=none∧E'=N0 a p E∧w.heap.size≤p)) (hnone:I3 a E=none→∀ q∈E,q.1≠a):(E'.map Prod.snd++M8 U).Nodup:=by
 rcases hE with rfl | ⟨h1,rfl,h3⟩
 ·exact hn
 ·rw [A1J (hnone h1),List.map_append]
  have hp:p ∉ E.map Prod.snd++M8 U:=fun hm=>by have:=hlt p hm;omega
  have hperm:(E.map Prod.snd++List.map Prod.snd [(a,p)]++M8 U).Perm (p :: (E.map Prod.snd++M8 U)):=by
   simp only [List.map_cons,List.map_nil,List.append_assoc]
   exact List.perm_middle
  exact (hperm.nodup_iff).2 (List.nodup_cons.2 ⟨hp,hn⟩)
theorem J7 {β:Type} {a:Nat}:∀ {L:List (Nat × β)},I3 a L=none→∀ q∈L,q.1≠a
 | (b,y) :: l,h,q,hq=>by
  simp only [I3] at h
  split at h
  ·cases h
  ·rename_i hne
   rcases List.mem_cons.1 hq with rfl | hq
   ·exact hne
   ·exact J7 h q hq
theorem A6E {w2:World} {own2:Own} {uv2:Value} {E':List (Nat × Nat)} {M:List (Nat × St)} {n p a:Nat} {x:Acc} {u:Y8} (h0:O6 T w own sb mb uv mv last E U mk S) (hM:M=mk.map fun m=>(m.1,A10 (U.take (U.length - m.2)) S))
  (hn:last≤n∧U.length≤n∧mk.length≤n∧E.length≤n+1000000) (hE:E'=E∨(I3 a E=none∧E'=N0 a p E∧w.heap.size≤p)) (hp:I3 a E'=some p) (hu:u.addr=a) (hnp:∀ b q y,u≠.all b (some (q,y))) (hk:u = .all a none→I3 a E=none)
  (hb:A20 (Z9 S a x) u=S) (h:StaCore T w2 own2 sb mb uv2 mv last E' (A0g mk u U) mk (Z9 S a x)):StateAt T w2 own2 sb (Z9 S a x) M (n+1):=by
 have hlt:∀ q∈E.map Prod.snd++M8 U,q < w.heap.size:=fun q hq=>h0.low q (by rw [h0.ptr_lab q hq];simp)
 have hnd:=A2v h0.nodup hlt hE J7
 have hkeys:∀ b,b∈E.map Prod.fst→b∈E'.map Prod.fst:=fun b hb=>by
  rcases hE with rfl | ⟨h1,rfl,_⟩
  ·exact hb
  ·rw [A1J (J7 h1),List.map_append];exact List.mem_append_left _ hb
 have ha:a∈E'.map Prod.fst:=List.mem_map.2 ⟨_,L7 hp,rfl⟩
 have hpU:M8 (A0g mk u U)=M8 U:=by
  unfold A0g;split
  ·rfl
  ·exact A5i u U hnp
 have hKO:A1h (fun b=>b∈E'.map Prod.fst) (A0g mk u U):=by
  unfold A0g;split
  ·exact K7 U hkeys h0.keys
  ·match u,hu,hnp,hk with
   | .nonce _ _,hu,_,_=>exact ⟨hu ▸ ha,K7 U hkeys h0.keys⟩
   | .bal _ _,hu,_,_=>exact ⟨hu ▸ ha,K7 U hkeys h0.keys⟩
   | .code _ _ _,hu,_,_=>exact ⟨hu ▸ ha,K7 U hkeys h0.keys⟩
   | .slot _ _ _,hu,_,_=>exact ⟨hu ▸ ha,K7 U hkeys h0.keys⟩
   | .all b (some (q,y)),_,hnp,_=>exact absurd rfl (hnp b q y)
   | .all b none,hu,_,hk =>
    obtain rfl:b=a:=hu
    refine ⟨ha,K7 U (fun c hc=>⟨hkeys c hc,fun e=>?_⟩) h0.keys⟩
    obtain ⟨q,hq,rfl⟩:=List.mem_map.1 hc
    exact J7 (hk rfl) q hq e
 refine ⟨mb,uv2,mv,last,E',A0g mk u U,mk,⟨h,hKO,by rw [hpU];exact hnd⟩,?_,by omega,?_,by omega,by
  rcases hE with rfl | ⟨h1,rfl,_⟩
  ·omega
  ·rw [A1J (J7 h1),List.length_append,List.length_singleton];omega⟩
 ·rw [hM]
  by_cases hmk:mk = []
  ·rw [hmk];rfl
  ·refine List.map_congr_left fun m hm=>?_
   unfold A0g
   rw [if_neg hmk,A3h u U _ (h0.mkle m hm).2,hb]
 ·unfold A0g;split
  ·omega
  ·simp only [List.length_cons];omega
theorem A7O (mk:List (Nat × Nat)) (m:Nat × Nat):Q5 (mk++[m])=Q5 mk++[.int .i64 m.1,.int .i64 m.2]:=by simp [Q5]
theorem A3T {w1:World} {own':Own} {mv':Value} {last':Nat} {mk':List (Nat × Nat)} (h:StaCore T w own sb mb uv mv last E U mk S)
  (hle:own.le own') (hlow:∀ b,own' b≠none→b < w1.heap.size) (ho:A0 (fun g=>mv.ownBlock=some g∨g=sb) w w1)
  (hrow:w1.row? sb 0 4=some [.map (some mb),uv,mv',.int .i64 last']) (hfree:w1.free? sb 0 4=true)
  (hr:w1.ownsRow 0 T.m 2 mv' mk'.length (Q5 mk')) (hl:∀ g,mv'.ownBlock=some g→own' g=some .marks)
  (hp:mk'.Pairwise fun m m'=>m.1 < m'.1∧m.2≤m'.2) (hm:∀ m∈mk',m.1≤last'∧m.2≤U.length):StaCore T w1 own' sb mb uv mv' last' E U mk' S:=by
 have hR:∀ b,(mv.ownBlock=some b∨b=sb)→own b=none∨own b=some .st∨own b=some .undos∨own b=some .marks∨own b=some .amap:=fun b hb=>by
  rcases hb with hb | rfl
  ·rw [h.mklab b hb];simp
  ·rw [h.lab];simp
 have hu:∀ g,uv.ownBlock=some g→¬ (mv.ownBlock=some g∨g=sb):=fun g hg hb=>by
  rcases hb with hb | rfl
  ·have:=h.ulab g hg;rw [h.mklab g hb] at this;cases this
  ·have:=h.ulab g hg;rw [h.lab] at this;cases this
 have hmb:¬ (mv.ownBlock=some mb∨mb=sb):=fun hb=>by
  rcases hb with hb | hb
  ·have:=h.mlab;rw [h.mklab mb hb] at this;cases this
  ·have:=h.mlab;rw [hb,h.lab] at this;cases this
 exact {
  lab:=hle _ _ h.lab
  row:=hrow
  free:=hfree
  mlab:=hle _ _ h.mlab
  map:=h.map.only ho hmb
  acc:=fun p hp=>((h.acc p hp).but ho hR).le hle
  out:=h.out
  urow:=A0.own h.urow ho hu
  ulab:=fun g hg=>hle _ _ (h.ulab g hg)
  und:=fun x hx=>((h.und x hx).but ho hR).le hle
  mrow:=hr
  mklab:=hl
  mks:=hp
  mkle:=hm
  low:=hlow }
def Own.mark (own:Own) (v:Value) (l:Lab):Own:=fun b=>if v.ownBlock=some b then some l else own b
theorem Own.mark_le {v v':Value} {l:Lab} (h:∀ g,v'.ownBlock=some g→v.ownBlock=some g∨w.heap.size≤g) (hl:∀ g,v.ownBlock=some g→own g=some l) (hlow:∀ b,own b≠none→b < w.heap.size) :
  (∀ b,b < w.heap.size→own.mark v' l b=own b)∧own.le (own.mark v' l):=by
 have h1:∀ b,b < w.heap.size→own.mark v' l b=own b:=by
  intro b hb
  unfold Own.mark
  split
  ·rename_i e
   rcases h b e with h2 | h2
   ·exact (hl b h2).symm
   ·omega
  ·rfl
 exact ⟨h1,fun b l' hb=>by rw [h1 b (hlow b (by rw [hb];simp))];exact hb⟩
theorem Own.mark_low {w1:World} {v':Value} {l:Lab} {e size n:Nat} {xs:List Value} {base:Nat} (hr:w1.ownsRow base e size v' n xs) (hlow:∀ b,own b≠none→b < w1.heap.size):∀ b,own.mark v' l b≠none→b < w1.heap.size:=by
 intro b hb
 unfold Own.mark at hb
 split at hb
 ·rename_i e
  rcases hr.2 with ⟨e1,_⟩ | ⟨g,cap,cur,e1,_,h2,_⟩
  ·rw [e1] at e;simp [Value.ownBlock] at e
  ·rw [e1] at e;simp [Value.ownBlock] at e;subst e;exact (Array.getElem?_eq_some_iff.1 h2).1
 ·exact hlow b hb
end
end Go.Mun
