/-
  Contracts of hex.Word and hex.Addr.
-/
import Derived.Test.YtaoacfkifcglfaaDoorHexD
namespace Go.Mun
open Go.RowKit
theorem ex_build0 {P : Program} {ty : TypeId} {z : List Value} (h : ∀ w, (Instr.build ty #[]).run P w = .ok (.agg z.toArray) w) (ρ : Operand → Value) (dst : Option Tmp) (t : TypeId) (pos : String) (after : Array Edge) (gd : Option (Nat × Bool)) (w : World) :
    (execOp ρ ⟨dst, .build ty #[], t, pos, after, gd⟩).run P w = .ok (.value (.agg z.toArray)) w := by
  unfold execOp
  simp [h]
theorem wpList_append_intsN {P : Program} {ops : Array Oper} {rest : List Oper} {o : Oper} {a : Act} {Q : Exit → Act → World → Prop} {w : World}
    {t e : TypeId} {z : Value} {bytes : Nat} (E : ElemOf P t e z 1 bytes) (hgd : o.guard = none) (s x : Operand)
    (ho : o.op = .call { callee := .builtin .append, args := #[s, x], argTypes := #[t, t] })
    {base : Nat} {v : Value} {n m : Nat} {xs : List Value} (hown : w.ownsRow base e 1 v n xs) (hs : a.eval s = v) {k : IntKind} {ad : Option Addr} {c : Nat} {l : List Int}
    (hx : a.eval x = .slice ad m c) (hm : m = l.length) (hI : Ints w k ad c l)
    (h63 : n + m ≤ maxLen) (hbytes : (n + m) * bytes ≤ 140737488355328) (hbase : base ≤ w.heap.size)
    (h : ∀ v' w', w'.ownsRow base e 1 v' (n + m) (xs ++ l.map (Value.int k)) → w.grownBy w' v.ownBlock → wpList P ops Q rest (a.put o.dst v') w') :
    wpList P ops Q (o :: rest) a w := by
  subst hm
  exact wpList_append_ints E hgd s x ho hown hs hx hI h63 hbytes hbase h
theorem own_made (w : World) (e B : Nat) (n : Nat) (hB : B ≤ w.heap.size) (hn : n ≤ maxLen) :
    (w.alloc (.cells (zU8 n).toArray e)).ownsRow B e 1 (.slice (some ⟨w.heap.size, 0, none⟩) n n) n (zU8 n) := by
  have := World.ownsRow_lit (e := e) (size := 1) w (zU8 n).toArray n hB hn (by simp)
  simpa using this
theorem free?_lt {w : World} {b o n : Nat} (h : w.free? b o n = true) : b < w.heap.size := by
  obtain ⟨c, e, f, hb, _⟩ := World.free?_inv h
  exact (Array.getElem?_eq_some_iff.1 hb).1
theorem free?_grown {w w' : World} {r : Option Nat} (hg : w.grownBy w' r) {b o n : Nat} (h : w.free? b o n = true) (hr : r ≠ some b) : w'.free? b o n = true := by
  rw [World.free?_of_block (hg.block b (free?_lt h) (fun e => hr e.symm))]; exact h
end Go.Mun
namespace Go.Proofs.YtaoacfkifcglfaaDoor
open Go.RowKit Go.Mun
theorem bz25 (ρ : Operand → Value) (dst : Option Tmp) (t : TypeId) (pos : String) (after : Array Edge) (gd : Option (Nat × Bool)) (w : World) : (execOp ρ ⟨dst, .build 25 #[], t, pos, after, gd⟩).run Tryd.prog w = .ok (.value (.agg (zU8 32).toArray)) w := ex_build0 (fun _ => by kernel_rfl) ρ dst t pos after gd w
theorem bz41 (ρ : Operand → Value) (dst : Option Tmp) (t : TypeId) (pos : String) (after : Array Edge) (gd : Option (Nat × Bool)) (w : World) : (execOp ρ ⟨dst, .build 41 #[], t, pos, after, gd⟩).run Tryd.prog w = .ok (.value (.agg (zU8 20).toArray)) w := ex_build0 (fun _ => by kernel_rfl) ρ dst t pos after gd w
attribute [go_sem ↓] bz25 bz41
attribute [local irreducible] be beC zU8

def wordV (o : Option (List Int)) : Value := match o with | some L => .tuple #[.agg (u8L L).toArray, .int .i64 0] | none => .tuple #[.agg (zU8 32).toArray, .int .i64 2]
def addrV (o : Option (List Int)) : Value := match o with | some L => .tuple #[.agg (u8L L).toArray, .int .i64 0] | none => .tuple #[.agg (zU8 20).toArray, .int .i64 2]

theorem hv_zero (b : UInt8) (h : isHex b = true) : hv b = 0 ↔ b = 48 := by
  constructor
  · intro h0
    have := (hex_dig b h).2.2
    rw [h0] at this
    rw [← this]; rfl
  · rintro rfl; rfl
theorem fits_iff (r : List UInt8) (hr : r.all isHex = true) (h0 : 0 < r.length) (h64 : r.length ≤ 64) : wordFits r = true ↔ ¬ (hv (r.headD 48) = 0 ∧ 1 < r.length) := by
  have e0 : r.headD 48 = r[0] := by
    match r, h0 with
    | c :: r, _ => rfl
  rw [e0]
  have hx : isHex r[0] = true := List.all_eq_true.1 hr _ (List.getElem_mem h0)
  rw [hv_zero _ hx]
  unfold wordFits
  have e : r.head? = some r[0] := by
    match r, h0 with
    | c :: r, _ => rfl
  rw [e]
  simp
  constructor
  · rintro ⟨_, _, h⟩ h2
    rcases h with h | h
    · omega
    · exact absurd h2 h
  · intro h
    refine ⟨by omega, h64, ?_⟩
    by_cases h2 : r[0] = 48
    · exact .inl (h h2)
    · exact .inr h2
theorem joinL_pad_len (r : List UInt8) (hl : r.length ≤ 64) : (List.replicate (64 - r.length) (0 : Int) ++ r.map hv).length = 2 * 32 := by simp; omega
theorem pad_range (r : List UInt8) (h : r.all isHex = true) (i : Nat) (hi : i < (List.replicate (64 - r.length) (0 : Int) ++ r.map hv).length) :
    0 ≤ (List.replicate (64 - r.length) (0 : Int) ++ r.map hv)[i]?.getD 0 ∧ (List.replicate (64 - r.length) (0 : Int) ++ r.map hv)[i]?.getD 0 ≤ 15 := by
  rw [List.getElem?_eq_getElem hi]
  simp only [Option.getD_some]
  have := List.getElem_mem hi
  rcases List.mem_append.1 this with h1 | h1
  · have := List.eq_of_mem_replicate h1; omega
  · obtain ⟨b, hb, e⟩ := List.mem_map.1 h1
    have := hex_dig b (List.all_eq_true.1 h b hb)
    omega

set_option maxRecDepth 10000 in
set_option maxHeartbeats 400000 in
theorem hex_word (s : ByteArray) (hs : s.size ≤ 1099511627776) (w : World) :
    Calls Tryd.prog 16 #[.string s] w fun e w' => e = .returned (wordV (hexWord s.data.toList)) ∧ Below w.heap.size w w' := by
  have HS := Lib.hid hs
  clear hs
  cases hbody : hexBody s.data.toList with
  | none =>
    have HR := Lib.hid (show hexWord s.data.toList = none by unfold hexWord; rw [hbody]; rfl)
    have HB := Lib.hid hbody
    clear hbody
    go_enter Tryd.func16, Tryd.ntmps16
    go_wp2_with fail
    refine (halves s HS.out _).mono ?_
    rintro e w1 ⟨hr, hb⟩
    obtain ⟨v, rfl⟩ := hr.bad HB.out
    clear hr
    obtain ⟨hrow, hfree⟩ := brow hb
    have hf : w1.free? w.heap.size 0 32 = true := by rw [hfree _ _ _ (by simp)]; exact World.free?_alloc_at _ _ rfl (by simp)
    have H1 := Lib.hid (show Below w.heap.size w w1 from ((Below.refl _ _).alloc (Nat.le_refl _) _).trans (hb.mono (by simp)))
    clear hb hrow hfree
    go_wp2
    exact ret_row2 ty25 rfl _ _ rfl rfl rfl (row?_setCells_whole _ hf (zU8_ok 32)) ⟨by rw [HR.out]; rfl, H1.out.setCells (Nat.le_refl _) _ _⟩
  | some r =>
    obtain ⟨hsr, hall⟩ := hexBody_inv hbody
    have hlr := hexBody_len hbody
    have hsz : s.data.toList.length = s.size := rfl
    have h40 : r.length ≤ 1099511627776 := by have := HS.out; omega
    have HR0 := Lib.hid (show hexWord s.data.toList = if wordFits r = true then some (padW r) else none by unfold hexWord; rw [hbody]; rfl)
    have HB := Lib.hid hbody
    have HA := Lib.hid hall
    clear hbody hall hsr hlr hsz
    go_enter Tryd.func16, Tryd.ntmps16
    go_wp2_with fail
    refine (halves s HS.out _).mono ?_
    rintro e w1 ⟨hr, hb⟩
    obtain ⟨v, rfl, ho⟩ := hr.good r HB.out
    clear hr
    obtain ⟨hrow, hfree⟩ := brow hb
    have hf : w1.free? w.heap.size 0 32 = true := by rw [hfree _ _ _ (by simp)]; exact World.free?_alloc_at _ _ rfl (by simp)
    obtain ⟨a, c, rfl, hn, hI⟩ := Ints.of_own' ho
    clear ho hn hrow hfree
    have HI := Lib.hid hI
    have H1 := Lib.hid (show Below w.heap.size w w1 from ((Below.refl _ _).alloc (Nat.le_refl _) _).trans (hb.mono (by simp)))
    clear hb
    have hcell : ∀ (h0 : 0 < r.length), ∃ b off, a = some ⟨b, off, none⟩ ∧ w1.cell? ⟨b, off, none⟩ = some (.int .u8 (hv (r.headD 48))) := by
      intro h0
      have e0 : r.headD 48 = r[0] := by
        match r, h0 with
        | c :: r, _ => rfl
      rw [e0]
      obtain ⟨b, off, ha, _, hc⟩ := hI.at (i := 0) (by simpa using h0)
      refine ⟨b, off, ha, ?_⟩
      have := hc 0 (by simpa using h0)
      simp at this
      rw [this]; simp [h0]
    clear hI
    obtain ⟨n, hn⟩ : ∃ n, n = r.length := ⟨_, rfl⟩
    rw [← hn] at h40 ⊢
    have HN := Lib.hid hn
    by_cases h0 : n = 0
    · have HR := Lib.hid (show hexWord s.data.toList = none by rw [HR0.out]; unfold wordFits; rw [← hn, h0]; rfl)
      subst h0
      clear hn hcell
      go_wp2
      exact ret_row2 ty25 rfl _ _ rfl rfl rfl (row?_setCells_whole _ hf (zU8_ok 32)) ⟨by rw [HR.out]; rfl, H1.out.setCells (Nat.le_refl _) _ _⟩
    · have c0 : ((n : Int) == 0) = false := by simp; omega
      by_cases h64 : 64 < n
      · have HR := Lib.hid (show hexWord s.data.toList = none by rw [HR0.out]; unfold wordFits; rw [← hn]; simp; omega)
        clear hn hcell h0
        go_wp2
        exact ret_row2 ty25 rfl _ _ rfl rfl rfl (row?_setCells_whole _ hf (zU8_ok 32)) ⟨by rw [HR.out]; rfl, H1.out.setCells (Nat.le_refl _) _ _⟩
      · have hn64 : n ≤ 64 := by omega
        have hn0 : 0 < n := by omega
        have HF := Lib.hid (fits_iff r HA.out (by omega) (by omega))
        obtain ⟨b, off, rfl, hc⟩ := hcell (by omega)
        have hx : isHex (r.headD 48) = true := by
          have h0' : 0 < r.length := by omega
          have e0 : r.headD 48 = r[0] := by
            match r, h0' with
            | c :: r, _ => rfl
          rw [e0]; exact List.all_eq_true.1 HA.out _ (List.getElem_mem _)
        have hd := hex_dig _ hx
        have HX : ∃ x, Hid (x = hv (r.headD 48)) := ⟨_, Lib.hid rfl⟩
        obtain ⟨x, HX⟩ := HX
        rw [← HX.out] at hc hd
        have x0 := hd.1
        have x1 := hd.2.1
        clear hd hx hcell h64 h0
        by_cases hbad : x = 0 ∧ 1 < n
        · have HR := Lib.hid (show hexWord s.data.toList = none by rw [HR0.out, if_neg (fun h => (HF.out.1 h) (by rw [← HX.out, ← hn]; exact hbad))])
          obtain ⟨rfl, h1n⟩ := hbad
          clear hn HX
          go_wp2
          exact ret_row2 ty25 rfl _ _ rfl rfl rfl (row?_setCells_whole _ hf (zU8_ok 32)) ⟨by rw [HR.out]; rfl, H1.out.setCells (Nat.le_refl _) _ _⟩
        · have HR := Lib.hid (show hexWord s.data.toList = some (padW r) by rw [HR0.out, if_pos (HF.out.2 (by rw [← HX.out, ← hn]; exact hbad))])
          have HL := Lib.hid (joinL_pad_len r (by omega))
          have HG := Lib.hid (pad_range r HA.out)
          have HP := Lib.hid (show (zU8 (64 - n) ++ (r.map hv).map (Value.int .u8)) = (List.replicate (64 - r.length) (0 : Int) ++ r.map hv).map (Value.int .u8) by rw [← hn]; unfold zU8; rw [List.map_append, List.map_replicate])
          have hmk := fun w => run_makeU8 elem33 (64 - (n : Int)) (64 - n) (by omega) (by omega) w
          have HB2 := Lib.hid hbad
          have HN2 := Lib.hid (show n = (r.map hv).length by simp; omega)
          have c64 : decide (64 < (n : Int)) = false := by simp; omega
          clear hn HF hbad
          have HOwn := Lib.hid (own_made w1 5 w.heap.size (64 - n) H1.out.size (by unfold maxLen; omega))
          have HI2 := Lib.hid (HI.out.below ((Below.refl _ _).alloc (Nat.le_refl _) (.cells (zU8 (64 - n)).toArray 5)))
          have sz1 := H1.out.size
          by_cases hxz : x = 0
          · subst hxz
            have hn1 : n ≤ 1 := by have := HB2.out; omega
            have c1 : decide (1 < (n : Int)) = false := by simp; omega
            clear HX
            go_wp2_with (at_builtin; go_must (refine wpList_append_intsN (base := w.heap.size) (n := 64 - n) (xs := zU8 (64 - n)) elem33 rfl _ _ rfl HOwn.out rfl rfl HN2.out HI2.out ?c3 ?c4 ?c5 ?_))
            case c3 => unfold maxLen; omega
            case c4 => omega
            case c5 => simp; omega
            intro v' w2 ho hg
            have ho' : w2.ownsRow w.heap.size 5 1 v' 64 ((List.replicate (64 - r.length) (0 : Int) ++ r.map hv).map (Value.int .u8)) := by rw [← HP.out, List.map_map]; exact ho
            clear ho
            have ho := ho'
            clear ho'
            have hf2 : w2.free? w.heap.size 0 32 = true := free?_grown hg (by rw [World.free?_alloc_lt _ (free?_lt hf)]; exact hf) (by simp [Value.ownBlock]; have := free?_lt hf; omega)
            have H2 := Lib.hid (show Below w.heap.size w w2 from (H1.out.alloc sz1 _).grown hg (by simp; omega) (fun k hk => (HOwn.out.lt k hk).1))
            obtain ⟨a2, c2, rfl, hl2, hI3⟩ := Ints.of_own' ho
            have HI3 := Lib.hid hI3
            have HL2 := Lib.hid hl2
            clear ho hg hl2 hI3 hmk
            go_wp2_with fail
            refine (join a2 _ c2 32 _ HL2.out HL.out _ HI3.out HG.out (by rw [HL.out]; decide)).mono ?_
            rintro e w3 ⟨⟨v3, rfl, ho3⟩, hb3⟩
            rw [show joinL (List.replicate (64 - r.length) (0 : Int) ++ r.map hv) = padW r from rfl] at ho3
            obtain ⟨g, c3, rfl, hg1, hg2, hrow3⟩ := own_row ho3 (by decide)
            have hr3 : w3.row? g 0 32 = some (u8L (padW r)) := hrow3
            have hf3 : w3.free? w.heap.size 0 32 = true := by rw [(brow hb3).2 _ _ _ (free?_lt hf2)]; exact hf2
            have H3 := Lib.hid (show Below w.heap.size w w3 from H2.out.trans (hb3.mono H2.out.size))
            have hok : okL 32 (u8L (padW r)) = true := u8L_ok _ 32 (padW_range r HA.out (by have := HN.out; omega)).1
            have hat := fun wx => run_toArray (P := Tryd.prog) Tryd.underlying25 (some ⟨g, 0, none⟩) 32 c3 (Nat.le_refl _) wx
            clear ho3 hb3 hrow3 hg1 hf2
            go_wp2
            exact ret_row2 ty25 rfl _ _ rfl rfl rfl (row?_setCells_whole _ hf3 hok) ⟨by rw [HR.out]; rfl, H3.out.setCells (Nat.le_refl _) _ _⟩
          · have cx : (x == 0) = false := by simp; omega
            clear hxz
            go_wp2_with (at_builtin; go_must (refine wpList_append_intsN (base := w.heap.size) (n := 64 - n) (xs := zU8 (64 - n)) elem33 rfl _ _ rfl HOwn.out rfl rfl HN2.out HI2.out ?d3 ?d4 ?d5 ?_))
            case d3 => unfold maxLen; omega
            case d4 => omega
            case d5 => simp; omega
            intro v' w2 ho hg
            have ho' : w2.ownsRow w.heap.size 5 1 v' 64 ((List.replicate (64 - r.length) (0 : Int) ++ r.map hv).map (Value.int .u8)) := by rw [← HP.out, List.map_map]; exact ho
            clear ho
            have ho := ho'
            clear ho'
            have hf2 : w2.free? w.heap.size 0 32 = true := free?_grown hg (by rw [World.free?_alloc_lt _ (free?_lt hf)]; exact hf) (by simp [Value.ownBlock]; have := free?_lt hf; omega)
            have H2 := Lib.hid (show Below w.heap.size w w2 from (H1.out.alloc sz1 _).grown hg (by simp; omega) (fun k hk => (HOwn.out.lt k hk).1))
            obtain ⟨a2, c2, rfl, hl2, hI3⟩ := Ints.of_own' ho
            have HI3 := Lib.hid hI3
            have HL2 := Lib.hid hl2
            clear ho hg hl2 hI3 hmk
            go_wp2_with fail
            refine (join a2 _ c2 32 _ HL2.out HL.out _ HI3.out HG.out (by rw [HL.out]; decide)).mono ?_
            rintro e w3 ⟨⟨v3, rfl, ho3⟩, hb3⟩
            rw [show joinL (List.replicate (64 - r.length) (0 : Int) ++ r.map hv) = padW r from rfl] at ho3
            obtain ⟨g, c3, rfl, hg1, hg2, hrow3⟩ := own_row ho3 (by decide)
            have hr3 : w3.row? g 0 32 = some (u8L (padW r)) := hrow3
            have hf3 : w3.free? w.heap.size 0 32 = true := by rw [(brow hb3).2 _ _ _ (free?_lt hf2)]; exact hf2
            have H3 := Lib.hid (show Below w.heap.size w w3 from H2.out.trans (hb3.mono H2.out.size))
            have hok : okL 32 (u8L (padW r)) = true := u8L_ok _ 32 (padW_range r HA.out (by have := HN.out; omega)).1
            have hat := fun wx => run_toArray (P := Tryd.prog) Tryd.underlying25 (some ⟨g, 0, none⟩) 32 c3 (Nat.le_refl _) wx
            clear ho3 hb3 hrow3 hg1 hf2
            go_wp2
            exact ret_row2 ty25 rfl _ _ rfl rfl rfl (row?_setCells_whole _ hf3 hok) ⟨by rw [HR.out]; rfl, H3.out.setCells (Nat.le_refl _) _ _⟩
end Go.Proofs.YtaoacfkifcglfaaDoor
