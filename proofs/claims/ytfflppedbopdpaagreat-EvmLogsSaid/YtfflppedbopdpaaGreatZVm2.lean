/- A part of the proof of EvmLogs: ZVm2. -/
import Derived.Test.YtfflppedbopdpaaGreatZOps3
import Derived.Test.YtfflppedbopdpaaGreatZTy4
set_option linter.unusedVariables false
set_option linter.unusedSimpArgs false
namespace Go.Proofs.YtfflppedbopdpaaGreat
open Go.RowKit Go.Mun

section
variable {w:World} {fb b o rb:Nat} {c:FV} {f:Fr} {m:Msg} {dv:Value}
theorem A3b (h:w.row? fb 0 141=some (B8 (frS rb c f))):w.cell? ⟨fb,0,none⟩=some (.pointer (some ⟨rb,0,none⟩)):=C8 h (i:=0) rfl (by simp [frS,A8,A4])
theorem A2M (h:w.row? fb 0 141=some (B8 (frS rb c f))):w.cell? ⟨fb,130,none⟩=some (c.code):=C8 h (i:=2) rfl (by simp [frS,A8,A4])
theorem B4w (h:w.row? fb 0 141=some (B8 (frS rb c f))):w.cell? ⟨fb,132,none⟩=some (c.sv):=C8 h (i:=4) rfl (by simp [frS,A8,A4])
theorem B4x (h:w.row? fb 0 141=some (B8 (frS rb c f))):w.cell? ⟨fb,133,none⟩=some (c.mv):=C8 h (i:=5) rfl (by simp [frS,A8,A4])
theorem B1s (h:w.row? fb 0 141=some (B8 (frS rb c f))):w.cell? ⟨fb,134,none⟩=some (.int .i64 f.pc):=C8 h (i:=6) rfl (by simp [frS,A8,A4])
theorem A4Q (h:w.row? fb 0 141=some (B8 (frS rb c f))):w.cell? ⟨fb,135,none⟩=some (.int .i64 f.next):=C8 h (i:=7) rfl (by simp [frS,A8,A4])
theorem B0p (h:w.row? fb 0 141=some (B8 (frS rb c f))):w.cell? ⟨fb,136,none⟩=some (.int .i64 f.gas):=C8 h (i:=8) rfl (by simp [frS,A8,A4])
theorem B78 (h:w.row? fb 0 141=some (B8 (frS rb c f))):w.cell? ⟨fb,138,none⟩=some (c.out):=C8 h (i:=10) rfl (by simp [frS,A8,A4])
theorem B62 (h:w.row? fb 0 141=some (B8 (frS rb c f))):w.cell? ⟨fb,139,none⟩=some (c.lv):=C8 h (i:=11) rfl (by simp [frS,A8,A4])
theorem A5H (h:w.row? fb 0 141=some (B8 (frS rb c f))):w.cell? ⟨fb,140,none⟩=some (.bool f.ended):=C8 h (i:=12) rfl (by simp [frS,A8,A4])
theorem B79 (h:w.row? fb 0 141=some (B8 (frS rb c f))):w.row? fb 1 129=some (B8 (I0 f.m c.dv)):=I5 h (i:=1) rfl (by simp [frS,A8,A4]) (by simp)
theorem A3A (h:w.row? b o 129=some (B8 (I0 m dv))):w.cell? ⟨b,o+0,none⟩=some (.int .i64 m.kind):=C8 h (i:=0) rfl (by simp [I0,A8,A4])
theorem A4O (h:w.row? b o 129=some (B8 (I0 m dv))):w.row? b (o+1) 20=some (A3 20 m.frm):=I5 h (i:=1) rfl (by simp [I0,A8,A4]) (by simp)
theorem A2s (h:w.row? b o 129=some (B8 (I0 m dv))):w.row? b (o+21) 20=some (A3 20 m.to):=I5 h (i:=2) rfl (by simp [I0,A8,A4]) (by simp)
theorem A1L (h:w.row? b o 129=some (B8 (I0 m dv))):w.row? b (o+61) 32=some (A3 32 m.value):=I5 h (i:=4) rfl (by simp [I0,A8,A4]) (by simp)
theorem B4h (h:w.row? b o 129=some (B8 (I0 m dv))):w.cell? ⟨b,o+125,none⟩=some (dv):=C8 h (i:=6) rfl (by simp [I0,A8,A4])
theorem B56 (h:w.row? b o 129=some (B8 (I0 m dv))):w.cell? ⟨b,o+126,none⟩=some (.int .i64 m.gas):=C8 h (i:=7) rfl (by simp [I0,A8,A4])
theorem A5p (h:w.row? b o 129=some (B8 (I0 m dv))):w.cell? ⟨b,o+128,none⟩=some (.bool m.static):=C8 h (i:=9) rfl (by simp [I0,A8,A4])
theorem B7C (x:Nat) (h:w.row? fb 0 141=some (B8 (frS rb c f))):(w.setCell ⟨fb,134,none⟩ (.int .i64 x)).row? fb 0 141=some (B8 (frS rb (c) ({ f with pc:=x }))):=E8 h (i:=6) rfl _ (by simp [frS,A8,A4])
theorem B3P (x:Nat) (h:w.row? fb 0 141=some (B8 (frS rb c f))):(w.setCell ⟨fb,135,none⟩ (.int .i64 x)).row? fb 0 141=some (B8 (frS rb (c) ({ f with next:=x }))):=E8 h (i:=7) rfl _ (by simp [frS,A8,A4])
theorem B5z (x:Nat) (h:w.row? fb 0 141=some (B8 (frS rb c f))):(w.setCell ⟨fb,136,none⟩ (.int .i64 x)).row? fb 0 141=some (B8 (frS rb (c) ({ f with gas:=x }))):=E8 h (i:=8) rfl _ (by simp [frS,A8,A4])
theorem B17 (x:Bool) (h:w.row? fb 0 141=some (B8 (frS rb c f))):(w.setCell ⟨fb,140,none⟩ (.bool x)).row? fb 0 141=some (B8 (frS rb (c) ({ f with ended:=x }))):=E8 h (i:=12) rfl _ (by simp [frS,A8,A4])
theorem B7B (x:Value) (h:w.row? fb 0 141=some (B8 (frS rb c f))):(w.setCell ⟨fb,132,none⟩ (x)).row? fb 0 141=some (B8 (frS rb ({ c with sv:=x }) (f))):=E8 h (i:=4) rfl _ (by simp [frS,A8,A4])
theorem B7D (x:Value) (h:w.row? fb 0 141=some (B8 (frS rb c f))):(w.setCell ⟨fb,133,none⟩ (x)).row? fb 0 141=some (B8 (frS rb ({ c with mv:=x }) (f))):=E8 h (i:=5) rfl _ (by simp [frS,A8,A4])
theorem B7E (x:Value) (h:w.row? fb 0 141=some (B8 (frS rb c f))):(w.setCell ⟨fb,139,none⟩ (x)).row? fb 0 141=some (B8 (frS rb ({ c with lv:=x }) (f))):=E8 h (i:=11) rfl _ (by simp [frS,A8,A4])
end
section
variable {E:Env} {w:World} {own:Own} {c:FV} {f:Fr} {S:St} {n:Nat}
theorem E6.one (h:E6 E w own c f S n) {i:Nat} (hi:i < 141):w.free? E.fb i 1=true:=World.free?_sub h.free (by omega)
theorem C6 (w:World) (fb i:Nat) (v:Value):A0 (fun b=>b=fb) w (w.setCell ⟨fb,i,none⟩ v):=A0.setCell (S:=fun b=>b=fb) (A0.refl _ _) (p:=⟨fb,i,none⟩) (fun _=>rfl) _
theorem E6.pc (h:E6 E w own c f S n) (x:Nat) (hx:x≤2199023255552):E6 E (w.setCell ⟨E.fb,134,none⟩ (.int .i64 x)) own c { f with pc:=x } S n:=
 h.cells (C6 _ _ _ _) (B7C x h.row) (by rw [D1 _ (h.one (by omega))];exact h.free) rfl rfl rfl rfl rfl rfl rfl (Nat.le_refl _) ⟨h.nxt.1,hx⟩
theorem E6.next (h:E6 E w own c f S n) (x:Nat) (hx:x≤2199023255552):E6 E (w.setCell ⟨E.fb,135,none⟩ (.int .i64 x)) own c { f with next:=x } S n:=
 h.cells (C6 _ _ _ _) (B3P x h.row) (by rw [D1 _ (h.one (by omega))];exact h.free) rfl rfl rfl rfl rfl rfl rfl (Nat.le_refl _) ⟨hx,h.nxt.2⟩
theorem E6.gas (h:E6 E w own c f S n) (x:Nat) (hx:x≤f.gas):E6 E (w.setCell ⟨E.fb,136,none⟩ (.int .i64 x)) own c { f with gas:=x } S n:=
 h.cells (C6 _ _ _ _) (B5z x h.row) (by rw [D1 _ (h.one (by omega))];exact h.free) rfl rfl rfl rfl rfl rfl rfl (hx) h.nxt
theorem E6.ended (h:E6 E w own c f S n) (x:Bool):E6 E (w.setCell ⟨E.fb,140,none⟩ (.bool x)) own c { f with ended:=x } S n:=
 h.cells (C6 _ _ _ _) (B17 x h.row) (by rw [D1 _ (h.one (by omega))];exact h.free) rfl rfl rfl rfl rfl rfl rfl (Nat.le_refl _) h.nxt
end
end Go.Proofs.YtfflppedbopdpaaGreat
namespace Go.Proofs.YtfflppedbopdpaaGreat
open Go.RowKit Go.Mun
theorem M7 {w:World} {base e size:Nat} {v:Value} {n:Nat} {xs:List Value} (h:w.ownsRow 0 e size v n xs) (hb:∀ g,v.ownBlock=some g→base≤g):w.ownsRow base e size v n xs:=by
 refine ⟨h.1,?_⟩
 rcases h.2 with hn | ⟨g,cap,cur,rfl,_,h2⟩
 ·exact .inl hn
 ·exact .inr ⟨g,cap,cur,rfl,hb g rfl,h2⟩
theorem E4 {w:World} {base e size:Nat} {v:Value} {n:Nat} {xs:List Value} (h:w.ownsRow base e size v n xs):∀ g,v.ownBlock=some g→base≤g:=by
 intro g hg
 rcases h.2 with ⟨rfl,_⟩ | ⟨g',cap,cur,rfl,hb,_⟩
 ·simp [Value.ownBlock] at hg
 ·simp [Value.ownBlock] at hg;omega
section
variable {E:Env} {w:World} {own:Own} {c:FV} {f:Fr} {S:St} {n:Nat}
theorem E6.turn {w':World} {c':FV} {f':Fr} (h:E6 E w own c f S n) (ho:A0 (fun b=>b=E.fb∨c.sv.ownBlock=some b∨c.mv.ownBlock=some b∨c.lv.ownBlock=some b) w w')
  (hrow:w'.row? E.fb 0 141=some (B8 (frS E.rb c' f'))) (hfree:w'.free? E.fb 0 141=true) (hc:c'.code=c.code∧c'.jumps=c.jumps∧c'.dv=c.dv) (hm:f'.m=f.m) (hcd:f'.code=f.code)
  (hkb:∀ b,b < w.heap.size→(b=E.fb∨c'.sv.ownBlock=some b∨c'.mv.ownBlock=some b∨c'.lv.ownBlock=some b)→(b=E.fb∨c.sv.ownBlock=some b∨c.mv.ownBlock=some b∨c.lv.ownBlock=some b))
  (stk:w'.ownsRow E.w0.heap.size 25 32 c'.sv f'.stack.length (D3 f'.stack)) (sown:∀ g,c'.sv.ownBlock=some g→own g=none∧g≠E.fb) (sval:∀ x∈f'.stack,x < wW) (slen:f'.stack.length≤1024)
  (mem:w'.ownsRow E.w0.heap.size 5 1 c'.mv f'.mem.length (f'.mem.map (Value.int .u8))) (mown:∀ g,c'.mv.ownBlock=some g→own g=none∧g≠E.fb∧c'.sv.ownBlock≠some g) (mbyte:Byt f'.mem) (mlen:f'.mem.length≤1048576∧f'.mem.length % 32=0)
  (logs:∃ cs,w'.ownsRow E.w0.heap.size 58 22 c'.lv f'.logs.length cs∧U5 w' (mn E own c') cs f'.logs) (lown:∀ g,c'.lv.ownBlock=some g→own g=none∧g≠E.fb∧c'.sv.ownBlock≠some g∧c'.mv.ownBlock≠some g) (llen:f'.logs.length≤n)
  (ret:J3 w' (mn E own c') c'.ret f'.ret) (out:J3 w' (mn E own c') c'.out f'.out) (hg:f'.gas≤f.gas) (hx:f'.next≤2199023255552∧f'.pc≤2199023255552):E6 E w' own c' f' S n:=by
 have hR:∀ b,(b=E.fb∨c.sv.ownBlock=some b∨c.mv.ownBlock=some b∨c.lv.ownBlock=some b)→mu own E.fb E.kp c b:=fun _ h => .inr h
 have hmu:∀ b,b < w.heap.size→mu own E.fb E.kp c' b→mu own E.fb E.kp c b:=fun b hb hx=>hx.imp id (hkb b hb)
 have hnone:∀ b,(b=E.fb∨c.sv.ownBlock=some b∨c.mv.ownBlock=some b∨c.lv.ownBlock=some b)→own b=none:=by
  rintro b (rfl | hb | hb | hb)
  ·exact h.fown
  ·exact (h.sown b hb).1
  ·exact (h.mown b hb).1
  ·exact (h.lown b hb).1
 obtain ⟨cs,hl1,_⟩:=h.logs
 have hge:∀ b,(b=E.fb∨c.sv.ownBlock=some b∨c.mv.ownBlock=some b∨c.lv.ownBlock=some b)→E.w0.heap.size≤b:=by
  rintro b (rfl | hb | hb | hb)
  ·exact h.base
  ·exact E4 h.stk b hb
  ·exact E4 h.mem b hb
  ·exact E4 hl1 b hb
 obtain ⟨ja,jc,hj1,hj2,hj3⟩:=h.jmp
 obtain ⟨hc1,hc2,hc3⟩:=hc
 refine { row := hrow, free := hfree, base := h.base, fown := h.fown, chg := ⟨h.chg.ext, h.chg.only.trans ho (fun i hi he => by have := hge i hi; omega)⟩, run := h.run, mok := by rw [hm]; exact h.mok, stk := stk, sown := sown, sval := sval, slen := slen, mem := mem, mown := mown,
          mbyte:=mbyte,mlen:=mlen,logs:=logs,lown:=lown,llen:=llen,code:=?_,jmp:=?_,data:=?_,ret:=ret,out:=out,st:=h.st.only ho hnone,cnt:=by have:=h.cnt;omega,nxt:=hx,
          keep:=fun b hk=>⟨Nat.lt_of_lt_of_le (h.keep b hk).1 ho.size,by rw [ho.block _ (h.keep b hk).1 (fun e=>(h.keep b hk).2.2.2 e)];exact (h.keep b hk).2.1,(h.keep b hk).2.2.1,fun hx=>(h.keep b hk).2.2.2 (hkb _ (h.keep b hk).1 hx)⟩ }
 ·rw [hc1,hcd];exact h.code.only ho hR hmu
 ·rw [hc2,hcd]
  refine ⟨ja,jc,hj1,⟨fun hn=>?_,hj2.nil,hj2.len,hj2.cap⟩,fun hn p hp hx=>?_⟩
  ·obtain ⟨b,off,ha,hlt,hcl⟩:=hj2.at (i:=0) (List.length_pos_iff.2 hn)
   exact ⟨b,off,ha,fun i hi=>by rw [ho.cell? hlt (fun hr=>hj3 hn _ ha (hR _ hr))];exact hcl i hi⟩
  ·obtain ⟨b,off,ha,hlt,hcl⟩:=hj2.at (i:=0) (List.length_pos_iff.2 hn)
   rw [ha] at hp;cases hp
   exact hj3 hn _ ha (hmu _ hlt hx)
 ·rw [hc3,hm];exact h.data.only ho hR hmu
theorem E6.stack {w1:World} {sv':Value} {st':List Nat} (h:E6 E w own c f S n) (ho:A0 (fun g=>c.sv.ownBlock=some g) w w1) (hr:w1.ownsRow 0 25 32 sv' st'.length (D3 st'))
  (hl:∀ g,sv'.ownBlock=some g→c.sv.ownBlock=some g∨w.heap.size≤g) (hv:∀ x∈st',x < wW) (hn:st'.length≤1024) :
  E6 E (w1.setCell ⟨E.fb,132,none⟩ sv') own { c with sv:=sv' } { f with stack:=st' } S n:=by
 have hfl:=h.lt
 have hsf:¬ c.sv.ownBlock=some E.fb:=fun e=>(h.sown _ e).2 rfl
 have hrow1:w1.row? E.fb 0 141=some (B8 (frS E.rb c f)):=by rw [ho.row? hfl hsf];exact h.row
 have hfree1:w1.free? E.fb 0 141=true:=by rw [ho.free? hfl hsf];exact h.free
 have ho2:A0 (fun b=>b=E.fb∨c.sv.ownBlock=some b∨c.mv.ownBlock=some b∨c.lv.ownBlock=some b) w (w1.setCell ⟨E.fb,132,none⟩ sv'):=
  (ho.mono fun b hb => .inr (.inl hb)).trans (C6 w1 E.fb 132 sv') (fun i hi _ => .inl hi)
 have hR:∀ b,(b=E.fb∨c.sv.ownBlock=some b∨c.mv.ownBlock=some b∨c.lv.ownBlock=some b)→mu own E.fb E.kp c b:=fun _ h => .inr h
 obtain ⟨cs,hl1,hl2⟩:=h.logs
 have hkb:∀ b,b < w.heap.size→(b=E.fb∨sv'.ownBlock=some b∨c.mv.ownBlock=some b∨c.lv.ownBlock=some b)→(b=E.fb∨c.sv.ownBlock=some b∨c.mv.ownBlock=some b∨c.lv.ownBlock=some b):=by
  rintro b hb (h1 | h1 | h1)
  ·exact .inl h1
  ·rcases hl b h1 with h2 | h2
   ·exact .inr (.inl h2)
   ·omega
  ·exact .inr (.inr h1)
 have hmu:∀ b,b < w.heap.size→mu own E.fb E.kp { c with sv:=sv' } b→mu own E.fb E.kp c b:=fun b hb hx=>hx.imp id (hkb b hb)
 have hmem:∀ g,c.mv.ownBlock=some g→¬ (g=E.fb∨c.sv.ownBlock=some g):=fun g hg he=>by
  rcases he with he | he
  ·exact (h.mown g hg).2.1 he
  ·exact (h.mown g hg).2.2 he
 have hlog:∀ g,c.lv.ownBlock=some g→¬ (g=E.fb∨c.sv.ownBlock=some g):=fun g hg he=>by
  rcases he with he | he
  ·exact (h.lown g hg).2.1 he
  ·exact (h.lown g hg).2.2.1 he
 have ho3:A0 (fun b=>b=E.fb∨c.sv.ownBlock=some b) w (w1.setCell ⟨E.fb,132,none⟩ sv'):=
  (ho.mono fun b hb => .inr hb).trans (C6 w1 E.fb 132 sv') (fun i hi _ => .inl hi)
 have hsl:=B0 hr
 have hown:∀ g,sv'.ownBlock=some g→own g=none∧g≠E.fb:=fun g hg=>by
  rcases hl g hg with h1 | h1
  ·exact h.sown g h1
  ·exact ⟨D4 h.st.lows h1,by omega⟩
 have hbase:∀ g,sv'.ownBlock=some g→E.w0.heap.size≤g:=fun g hg=>by
  rcases hl g hg with h1 | h1
  ·exact E4 h.stk g h1
  ·have:=h.chg.only.size;omega
 refine h.turn ho2 (B7B sv' hrow1) (by rw [D1 _ (World.free?_sub hfree1 (by omega))];exact hfree1) ⟨rfl,rfl,rfl⟩ rfl rfl hkb ?_ hown hv hn ?_ ?_ h.mbyte h.mlen ⟨cs,?_,?_⟩ ?_ h.llen ?_ ?_ (Nat.le_refl _) h.nxt
 ·exact A0.own (M7 hr hbase) (C6 w1 E.fb 132 sv') (fun g hg=>(hown g hg).2)
 ·exact A0.own h.mem ho3 hmem
 ·refine fun g hg=>⟨(h.mown g hg).1,(h.mown g hg).2.1,fun e=>?_⟩
  rcases hl g e with h1 | h1
  ·exact (h.mown g hg).2.2 h1
  ·have:=B0 h.mem g hg;omega
 ·exact A0.own hl1 ho3 hlog
 ·exact hl2.only ho2 (fun b h => .inl (hR b h)) (fun b hb h=>h.imp (hmu b hb) id)
 ·refine fun g hg=>⟨(h.lown g hg).1,(h.lown g hg).2.1,fun e=>?_,(h.lown g hg).2.2.2⟩
  rcases hl g e with h1 | h1
  ·exact (h.lown g hg).2.2.1 h1
  ·have:=B0 hl1 g hg;omega
 ·exact h.ret.only ho2 (fun b h => .inl (hR b h)) (fun b hb h=>h.imp (hmu b hb) id)
 ·exact h.out.only ho2 (fun b h => .inl (hR b h)) (fun b hb h=>h.imp (hmu b hb) id)
end
end Go.Proofs.YtfflppedbopdpaaGreat
namespace Go.Proofs.YtfflppedbopdpaaGreat
open Go.RowKit Go.Mun
def A0D (op:Int) (v:List Nat):Bool:=if op=85∨op=240∨op=245∨op=255 then true else if op=241 then decide (v[2]?.getD 0≠0) else decide (160≤op∧op≤164)
theorem stkC_at (l:List Nat) (i:Nat) (hi:i < l.length):((D3 l).drop (i*32)).take 32=A3 32 (l[i]?.getD 0):=by
 rw [A02]
 have:l.drop i=l[i] :: l.drop (i+1):=List.drop_eq_getElem_cons hi
 rw [this,show D3 (l[i] :: l.drop (i+1))=A3 32 l[i]++D3 (l.drop (i+1)) by unfold D3;rw [List.flatMap_cons],List.take_left' (by simp)]
 simp [hi]
theorem _root_.Go.Mun.Wds.at {base:Nat} {w:World} {v:Value} {l:List Nat} (h:Wds base w v l) (hn:0 < l.length) :
  ∃ g c,v = .slice (some ⟨g,0,none⟩) l.length c∧base≤g∧g < w.heap.size∧l.length≤c∧c≤maxLen∧∀ i,i < l.length→w.row? g (i*32) 32=some (A3 32 (l[i]?.getD 0)):=by
 obtain ⟨ad,c,rfl,h1,h2,h3⟩:=h
 obtain ⟨g,rfl,hb,hg,hr⟩:=h3 (List.length_pos_iff.1 hn)
 refine ⟨g,c,rfl,hb,hg,h1,h2,fun i hi=>?_⟩
 rw [World.row?_sub hr (Nat.zero_le _) (by omega),Nat.sub_zero,stkC_at l i hi]
theorem A9j {base:Nat} {w:World} {v:Value} {l:List Nat} (m:Nat) (h:Wds base w v l) (hl:m=241→2 < l.length) (hv:∀ x∈l,x < wW) :
  Calls Tryz.prog 373 #[.int .u8 (m:Int),v] w fun e w'=>e = .returned (.bool (A0D (m:Int) l))∧w'=w:=by
 by_cases h1:m=85∨m=240∨m=245∨m=255
 ·have hc:A0D (m:Int) l=true:=by unfold A0D;rw [if_pos (by omega)]
  rw [hc]
  clear hc hl hv h
  rcases h1 with rfl | rfl | rfl | rfl
  all_goals
   go_enter Tryz.func373,Tryz.ntmps373
   go_wp2
   go_ret
   exact ⟨rfl,rfl⟩
 ·have n1:¬ (m:Int)=85:=by omega
  have n2:¬ (m:Int)=240:=by omega
  have n3:¬ (m:Int)=245:=by omega
  have n4:¬ (m:Int)=255:=by omega
  by_cases h2:m=241
  ·subst h2
   obtain ⟨g,c,rfl,_,_,_,_,hrow⟩:=h.at (by have:=hl rfl;omega)
   have hlen:=hl rfl
   have hr:=hrow 2 hlen
   have hlI:(2:Int) < l.length:=by omega
   have hx:l[2]?.getD 0 < wW:=hv _ (by rw [List.getElem?_eq_getElem hlen];exact List.getElem_mem _)
   have hc:A0D 241 l=decide (l[2]?.getD 0≠0):=by unfold A0D;rw [if_neg (by decide),if_pos rfl]
   rw [show ((241:Nat):Int)=241 from rfl,hc]
   generalize l[2]?.getD 0=x at *
   have he:∀ w,(binOp .neq 25 (.agg (A3 32 x).toArray) (.agg (A3 32 0).toArray)).run Tryz.prog w = .ok (.bool (!decide (x=0))) w:=fun w=>A5o (fun d=>A7a hx (by decide) w d)
   clear hc hrow h hv hl n1 n2 n3 n4 h1 hlen
   go_enter Tryz.func373,Tryz.ntmps373
   go_wp2
   go_ret
   exact ⟨by simp,rfl⟩
  ·have n5:¬ (m:Int)=241:=by omega
   have hc:A0D (m:Int) l=decide (160≤m∧m≤164):=by unfold A0D;rw [if_neg (by omega),if_neg n5];congr 1;simp;omega
   rw [hc]
   clear hc h hv hl h1 h2
   go_enter Tryz.func373,Tryz.ntmps373
   go_wp2
   all_goals go_ret
   ·exact ⟨A5h (by apply Bool.eq_iff_iff.2;simp;omega),rfl⟩
   ·exact ⟨A5h (by apply Bool.eq_iff_iff.2;simp;omega),rfl⟩
end Go.Proofs.YtfflppedbopdpaaGreat
