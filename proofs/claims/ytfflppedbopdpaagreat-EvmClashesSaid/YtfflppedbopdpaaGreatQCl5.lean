/-
  What the two runs of the law EvmClashes come to.
  The law: an account is not made twice.
-/
import Derived.Test.YtfflppedbopdpaaGreatQCl3
import Derived.Test.YtfflppedbopdpaaGreatQRf1
set_option linter.unusedVariables false
set_option maxRecDepth 1000000
set_option maxHeartbeats 8000000
set_option linter.unusedSimpArgs false
namespace Go.Proofs.YtfflppedbopdpaaGreat
open Go.RowKit Go.Mun

def clL (A : Nat) (nn : Int) (cd : Bts) : List Ac := [⟨1, 0, 1000, []⟩, ⟨2, 1, 1000, []⟩, ⟨3, 0, 1000, []⟩, ⟨A, nn, 0, cd⟩]
def clM (s : Nat) : Msg := ⟨4, 2, 0, 0, 0, s, [], 1000, 0, false⟩
theorem clM_ok (s : Nat) (hs : s < wW) : MsgOk (clM s) :=
 ⟨by show 2 < wA; decide, by show 0 < wA; decide, by show 0 < wA; decide, by show 0 < wW; decide, hs, ⟨by show _ ≤ (1000 : Int); decide, by show (1000 : Int) ≤ _; decide⟩, ⟨by show _ ≤ (0 : Int); decide, by show (0 : Int) ≤ _; decide⟩⟩
def clS (A : Nat) (nn : Int) (cd : Bts) : St := (newS (clL A nn cd)).setNonce 2 2
theorem clS_2 {A : Nat} {nn : Int} {cd : Bts} (h2 : A ≠ 2) : newS (clL A nn cd) 2 = ⟨1, 1000, [], fun _ => 0⟩ := by
 show upd _ A _ 2 = _
 rw [upd_other _ _ (fun e => h2 e.symm)]
 rfl
theorem clS_A {A : Nat} {nn : Int} {cd : Bts} (h2 : A ≠ 2) : ((newS (clL A nn cd)).setNonce 2 2) A = ⟨(max 0 nn).toNat, 0, cd, fun _ => 0⟩ := by
 unfold St.setNonce
 rw [upd_other _ _ h2]
 show upd _ A _ A = _
 rw [upd_same]
 rfl
theorem clS_slots (A : Nat) (nn : Int) (cd : Bts) : ∀ a k, (clS A nn cd a).slots k = 0 := by
 intro a k
 unfold clS St.setNonce upd
 split
 ·exact newS_slotsD _ _ _
 ·exact newS_slotsD _ _ _
theorem clS_nonce (A : Nat) (nn : Int) (cd : Bts) : (clS A nn cd 2).nonce = 2 := by
 unfold clS St.setNonce
 rw [upd_same]
def Taken (nn : Int) (cd : Bts) : Prop := nn = 1 ∨ (nn = 0 ∧ cd ≠ [])
theorem runsP_clash {A s : Nat} {nn : Int} {cd : Bts} (hs : s < wW) (h2 : A ≠ 2) (hA : A = adr2Q 2 s []) (ht : Taken nn cd) : RunsP (clM s) (.slice none 0 0) ⟨0, 0, 0, 0, 0⟩ (newS (clL A nn cd)) 0 18 0 [] (clS A nn cd) := by
 intro w own sb hst hd
 have hm := clM_ok s hs
 have e2 := clS_2 (nn := nn) (cd := cd) h2
 have eA := clS_A (nn := nn) (cd := cd) h2
 refine (run_told4 (F := fun o => o = ⟨0, 18, [], [], 0⟩) (S' := clS A nn cd) (N := 10) hst hd (fun w1 rb tb tab htab st1 run1 hd1 =>
  message_make4 st1 run1 hm rfl (show (0 : Int) < 1000 by decide) (show (0 : Int) ≤ 64 by decide) hd1 (by show ¬ (newS (clL A nn cd) 2).bal < 0; omega) (by show (newS (clL A nn cd) 2).nonce < _; rw [e2]; decide) (fun w2 st2 run2 hd2 => ?_))).mono ?_
 ·rcases ht with rfl | ⟨rfl, hc⟩
  ·exact evm_create_clash1 (nc := 1) (N := 10) ⟨st2, run2, by decide⟩ hm rfl hd2 (by decide) (by decide) (by show 1 = (newS (clL A 1 cd) 2).nonce; rw [e2]) (by decide) hA (by show (((newS (clL A 1 cd)).setNonce 2 2) A).nonce ≠ 0; rw [eA]; exact (by decide : (1 : Nat) ≠ 0))
  ·exact evm_create_clash2 (nc := 1) (N := 10) ⟨st2, run2, by decide⟩ hm rfl hd2 (by decide) (by decide) (by show 1 = (newS (clL A 0 cd) 2).nonce; rw [e2]) (by decide) hA ⟨by show (((newS (clL A 0 cd)).setNonce 2 2) A).nonce = 0; rw [eA]; rfl, by show (((newS (clL A 0 cd)).setNonce 2 2) A).code ≠ []; rw [eA]; exact hc⟩
 ·rintro e w' ⟨o, rfl, ov, lv, own', n', rfl, st, g, oa, hn⟩
  have hout := oa.out
  obtain ⟨a, k, b, j, rfl, rfl⟩ := oa.forms
  exact ⟨a, k, b, j, own', n', rfl, hout, st, g, by omega⟩
theorem runsR_clash {A s : Nat} {nn : Int} {cd : Bts} (hs : s < wW) (h2 : A ≠ 2) (hA : A = adr2Q 2 s []) (ht : Taken nn cd) : RunsR (clM s) (.slice none 0 0) ⟨0, 0, 0, 0, 0⟩ (newS (clL A nn cd)) 0 18 0 [] (clS A nn cd) := by
 intro w own sb n hn hst hda
 have hm := clM_ok s hs
 have e2 := clS_2 (nn := nn) (cd := cd) h2
 have eA := clS_A (nn := nn) (cd := cd) h2
 refine (r_run_make4 (S' := clS A nn cd) (n' := n + 4) (oo := ⟨0, 18, [], [], 0⟩) hst hm rfl (show (0 : Int) ≤ 1000 by decide) (show (0 : Int) ≤ 64 by decide) (by show ¬ (newS (clL A nn cd) 2).bal < 0; omega) (by show (newS (clL A nn cd) 2).nonce < _; rw [e2]; decide) hda (by omega) (fun W stW hdW => ?_)).mono ?_
 ·rcases ht with rfl | ⟨rfl, hc⟩
  ·exact r_create_clash1 (nc := 1) 1000 stW hm rfl hdW (by omega) (by show (0 : Nat) ≤ 70000000000000; decide) (by show 1 = (newS (clL A 1 cd) 2).nonce; rw [e2]) (by decide) hA (by show (((newS (clL A 1 cd)).setNonce 2 2) A).nonce ≠ 0; rw [eA]; exact (by decide : (1 : Nat) ≠ 0))
  ·exact r_create_clash2 (nc := 1) 1000 stW hm rfl hdW (by omega) (by show (0 : Nat) ≤ 70000000000000; decide) (by show 1 = (newS (clL A 0 cd) 2).nonce; rw [e2]) (by decide) hA ⟨by show (((newS (clL A 0 cd)).setNonce 2 2) A).nonce = 0; rw [eA]; rfl, by show (((newS (clL A 0 cd)).setNonce 2 2) A).code ≠ []; rw [eA]; exact hc⟩
 ·rintro e w' ⟨rfl, own', n', st, g, hn'⟩
  exact ⟨none, 0, none, 0, own', [], n', rfl, ⟨fun h => absurd rfl h, fun _ => rfl, Nat.le_refl _, Nat.zero_le _⟩, st, g, by omega⟩
theorem build35c (a : Nat) (x : Int) : fillL 55 (plOf zs81) (cat zs81) [(0, .agg (beC 20 a).toArray), (1, .int .i64 x)] = some (cat (acS ⟨a, x, 0, []⟩ (.slice none 0 0) (.slice none 0 0))) := by
 rw [fillL_cats _ _ _ zs81_len]
 ·rfl
 ·rw [lensG]
  refine fits_cons ?_ (fits_cons rfl (fits_nil _))
  show some 20 = some (beC 20 a).length; rw [beC_len]
theorem acS1_ok (x : Ac) (p : Option Addr) (k c : Nat) : okL 55 (cat (acS x (.slice p k c) (.slice none 0 0))) = true := by
 refine okL_cat (acS_len _ _ _) fun s hs => ?_
 simp only [acS, List.mem_cons, List.not_mem_nil, or_false] at hs
 rcases hs with rfl | rfl | rfl | rfl | rfl
 ·rw [beC_len]; exact beC_ok _ _
 ·rfl
 ·rw [beC_len]; exact beC_ok _ _
 ·rfl
 ·rfl
theorem build35d (a : Nat) (p : Option Addr) (k c : Nat) : fillL 55 (plOf zs81) (cat zs81) [(0, .agg (beC 20 a).toArray), (3, .slice p k c)] = some (cat (acS ⟨a, 0, 0, []⟩ (.slice p k c) (.slice none 0 0))) := by
 rw [fillL_cats _ _ _ zs81_len]
 ·rfl
 ·rw [lensG]
  refine fits_cons ?_ (fits_cons rfl (fits_nil _))
  show some 20 = some (beC 20 a).length; rw [beC_len]
theorem build37c (s : Nat) : fillL 129 (plOf zs42) (cat zs42) [(0, .int .i64 4), (1, .agg (beC 20 2).toArray), (5, .agg (beC 32 s).toArray), (7, .int .i64 1000)] = some (cat (msgS (clM s) (.slice none 0 0))) := by
 rw [fillL_cats _ _ _ zs42_len]
 ·rfl
 ·rw [lens42]
  refine fits_cons rfl (fits_cons ?_ (fits_cons ?_ (fits_cons rfl (fits_nil _))))
  ·show some 20 = some (beC 20 2).length; rw [beC_len]
  ·show some 32 = some (beC 32 s).length; rw [beC_len]
theorem four_at {w : World} {b c : Nat} {A : Nat} {nn : Int} {cd : Bts} {cv : Value} (hA : A < wA) (hn : 0 ≤ nn ∧ nn ≤ 9223372036854775807) (hc : RoAt w (fun _ => False) cv cd) (h : w.ownsRow 0 35 55 (.slice (some ⟨b, 0, none⟩) 4 c) 4 (two3 ++ cat (acS ⟨A, nn, 0, cd⟩ cv (.slice none 0 0)))) :
  ∀ i (hi : i < (clL A nn cd).length), AcAt w b (0 + i * 55) (clL A nn cd)[i] := by
 obtain ⟨g, cc, e, _, _, _, hr, _⟩ := own_words h (by omega)
 cases e
 obtain ⟨X, hX⟩ : ∃ X, X = cat (acS ⟨1, 0, 1000, []⟩ (.slice none 0 0) (.slice none 0 0)) := ⟨_, rfl⟩
 obtain ⟨Y, hY⟩ : ∃ Y, Y = cat (acS ⟨2, 1, 1000, []⟩ (.slice none 0 0) (.slice none 0 0)) := ⟨_, rfl⟩
 obtain ⟨Z, hZ⟩ : ∃ Z, Z = cat (acS ⟨3, 0, 1000, []⟩ (.slice none 0 0) (.slice none 0 0)) := ⟨_, rfl⟩
 obtain ⟨V, hV⟩ : ∃ V, V = cat (acS ⟨A, nn, 0, cd⟩ cv (.slice none 0 0)) := ⟨_, rfl⟩
 have lX : X.length = 55 := by rw [hX]; exact acS_len _ _ _
 have lY : Y.length = 55 := by rw [hY]; exact acS_len _ _ _
 have lZ : Z.length = 55 := by rw [hZ]; exact acS_len _ _ _
 have lV : V.length = 55 := by rw [hV]; exact acS_len _ _ _
 have e3 : two3 ++ V = cat [X, Y, Z, V] := by
  unfold two3
  rw [← hX, ← hY, ← hZ]
  simp [cat]
 rw [← hV, e3] at hr
 intro i hi
 match i, hi with
 | 0, _ => exact ⟨⟨_, by rw [row_cat hr (i := 0) rfl (by simp [offOf_zero]) lX.symm, hX]; rfl, roAt_nil _ _⟩, by show 1 < wA; decide, by show 1000 < wW; decide, by show (0 : Int) ≤ _; decide⟩
 | 1, _ => exact ⟨⟨_, by rw [row_cat hr (i := 1) rfl (by simp [offOf_succ, offOf_zero, lX]) lY.symm, hY]; rfl, roAt_nil _ _⟩, by show 2 < wA; decide, by show 1000 < wW; decide, by show (1 : Int) ≤ _; decide⟩
 | 2, _ => exact ⟨⟨_, by rw [row_cat hr (i := 2) rfl (by simp [offOf_succ, offOf_zero, lX, lY]) lZ.symm, hZ]; rfl, roAt_nil _ _⟩, by show 3 < wA; decide, by show 1000 < wW; decide, by show (0 : Int) ≤ _; decide⟩
 | 3, _ => exact ⟨⟨_, by rw [row_cat hr (i := 3) rfl (by simp [offOf_succ, offOf_zero, lX, lY, lZ]) lV.symm, hV]; rfl, hc⟩, hA, by show 0 < wW; decide, hn.2⟩
 | i + 4, hi => exact absurd hi (by simp [clL])
theorem evmClashes_walk (s : Nat) (hs : s < wW) (a : Bool) (w : World) : Calls Tryz.prog 4 #[.agg (beC 32 s).toArray, .bool a] w fun e w' => e = .returned (.bool true) ∧ Below w.heap.size w w' := by
 have hls : (beC 32 s).length = 32 := by simp
 obtain ⟨A, hAd⟩ : ∃ A, A = adr2Q 2 s [] := ⟨_, rfl⟩
 have hAA : A < wA := by rw [hAd]; exact adr2Q_lt _ _ _
 have HADR : Hid (∀ w, Calls Tryz.prog 11 #[.agg (beC 20 2).toArray, .agg (beC 32 s).toArray, .slice none 0 0] w fun e w' => e = .returned (.agg (beC 20 A).toArray) ∧ Below w.heap.size w w') := by
  show ∀ w, _
  rw [hAd]
  exact fun w => address2_nat 2 s [] none 0 0 rfl w ⟨fun h => absurd rfl h, fun _ => rfl, Nat.le_refl _, Nat.zero_le _⟩ (fun x hx => by cases hx)
 have HN2 := Lib.hid (fun w => ref_name 2 (by decide) w)
 have hA := Lib.hid (law_alive w.drew)
 have HLA := Lib.hid (fun w => law_alive w)
 have HTH := Lib.hid (fun w => law_there A hAA w)
 have HAD := Lib.hid hAd
 have HAA := Lib.hid hAA
 have HSW := Lib.hid hs
 have hokA := beC_ok 20 A
 have hlA := beC_len 20 A
 have hz := zU8_len 20
 obtain ⟨sx, hsx⟩ : ∃ sx, sx = w.heap.size := ⟨_, rfl⟩
 obtain ⟨w0, e0⟩ : ∃ w0, w0 = w.alloc (.cells (beC 32 s).toArray 25) := ⟨_, rfl⟩
 have k0 : Kep w [(sx, 32, beC 32 s)] w0 := by
  rw [e0, hsx]
  exact Kep.add ((Kep.start w).next ((Below.refl _ _).alloc (Nat.le_refl _) _)) (World.row?_alloc_at _ _ _ rfl hls) (World.free?_alloc_at _ _ rfl (by simp))
 have HK0 := Lib.hid k0
 have HE0 := Lib.hid e0
 have HSX := Lib.hid hsx
 clear k0 e0 hsx hA hAd hAA hs
 go_enter Tryz.func4, Tryz.ntmps4
 go_wp2_with fail
 rw [← HE0.out]
 refine (HLA.out _).mono ?_
 rintro e w1 ⟨rfl, hb1⟩
 have HK1 := Lib.hid (HK0.out.next hb1)
 clear hb1
 obtain ⟨R2, hR2⟩ : ∃ R, R = [(sx, 32, beC 32 s)] := ⟨_, rfl⟩
 have HR2 := Lib.hid hR2
 obtain ⟨T, hT⟩ : ∃ T : World → Prop, T = Kep w R2 := ⟨_, rfl⟩
 have HT := Lib.hid hT
 have HTN : Hid (∀ W W', T W → Below W.heap.size W W' → T W') := by show ∀ W W', T W → Below W.heap.size W W' → T W'; rw [hT]; exact fun W W' h hb => h.next hb
 have t0 : T w1.drew := HTN.out w1 _ (by rw [hT, hR2]; exact HK1.out) (Below.refl _ _).drew
 have HM1 : Hid ((sx, 32, beC 32 s) ∈ R2) := by show _ ∈ R2; rw [hR2]; simp
 clear hT hR2
 go_wp2_with fail
 rw [← HSX.out]
 refine wp_region_tree T [] (.take 1 (.alt 0 (.alt 2 (.alt 3 (.alt 4 .fin .stop) .stop) (.alt 3 (.alt 2 (.alt 4 .fin .stop) .stop) .stop)) (.alt 3 (.alt 0 (.alt 2 (.alt 4 .fin .stop) .stop) .stop) .stop))) (by kernel_rfl) (by kernel_rfl) ?_
 generalize w1.drew = v1 at *
 refine (fun (HJpabc : ∀ (y3 : World) (rb : Nat), (T y3) → (Hid (y3.free? rb 0 20 = true)) → (Hid ((∀ x ∈ R2, x.1 < rb) ∧ w.heap.size ≤ rb)) → (?Jpabc : World → Nat → Prop) y3 rb) => ?mpabc) ?tpabc
 case mpabc =>
  refine (fun (HJpac : ∀ (y2 : World) (rb : Nat), (T y2) → (Hid (y2.free? rb 0 20 = true)) → (Hid ((∀ x ∈ R2, x.1 < rb) ∧ w.heap.size ≤ rb)) → (?Jpac : World → Nat → Prop) y2 rb) => ?mpac) ?tpac
  case mpac =>
   refine tree_take ?_ t0 rfl (by rfl) (fun w' hs => ?_) (fun _ _ _ h => h) ?_
   rotate_left
   ·rw [HT.out] at hs
    have g1 := hs.get HM1.out
    go_simp
    try rfl
   simp only [Act.put, tsa, tsb, tsc]
   refine tree_alt rfl (fun K hK => ?_) ?_
   ·go_simp
    refine (HN2.out _).mono ?_
    rintro e y1 ⟨rfl, hby⟩
    have t1 : T y1 := HTN.out _ _ t0 hby
    clear hby
    refine hK.out _ _ t1 ?_
    clear hK K
    refine tree_alt rfl (fun K hK => ?_) ?_
    ·go_simp
     refine (HADR.out _).mono ?_
     rintro e y2 ⟨rfl, hby⟩
     have t2 : T y2 := HTN.out _ _ t1 hby
     clear hby
     refine hK.out _ _ t2 ?_
     clear hK K
     refine tree_run rfl (fun K hK => ?_)
     go_simp
     obtain ⟨rb, er⟩ : ∃ rb, rb = y2.heap.size := ⟨_, rfl⟩
     obtain ⟨y3, ey⟩ : ∃ y, y = y2.alloc (.cells (zU8 20).toArray 23) := ⟨_, rfl⟩
     have HBA : Hid (Below y2.heap.size y2 y3) := by show Below _ _ _; rw [ey]; exact (Below.refl _ _).alloc (Nat.le_refl _) _
     have HZ3 : Hid (y3.free? rb 0 20 = true) := by show _ = _; rw [ey, er]; exact World.free?_alloc_at _ _ rfl (by first | (rw [zs81_len]; omega) | (rw [zs42_len]; omega) | (rw [zs46_len]; omega) | simp)
     have HRB : Hid ((∀ x ∈ R2, x.1 < rb) ∧ w.heap.size ≤ rb) := by have h1 := t2; rw [HT.out] at h1; rw [er]; exact ⟨h1.lt, h1.below.size⟩
     have t3 : T y3 := HTN.out _ _ t2 HBA.out
     rw [← ey, ← er]
     clear ey er
     refine hK.out _ _ t3 ?_
     clear hK K
     exact HJpabc y3 rb t3 HZ3 HRB
    refine tree_run rfl (fun K hK => ?_)
    go_simp
    obtain ⟨rb, er⟩ : ∃ rb, rb = y1.heap.size := ⟨_, rfl⟩
    obtain ⟨y2, ey⟩ : ∃ y, y = y1.alloc (.cells (zU8 20).toArray 23) := ⟨_, rfl⟩
    have HBA : Hid (Below y1.heap.size y1 y2) := by show Below _ _ _; rw [ey]; exact (Below.refl _ _).alloc (Nat.le_refl _) _
    have HZ2 : Hid (y2.free? rb 0 20 = true) := by show _ = _; rw [ey, er]; exact World.free?_alloc_at _ _ rfl (by first | (rw [zs81_len]; omega) | (rw [zs42_len]; omega) | (rw [zs46_len]; omega) | simp)
    have HRB : Hid ((∀ x ∈ R2, x.1 < rb) ∧ w.heap.size ≤ rb) := by have h1 := t1; rw [HT.out] at h1; rw [er]; exact ⟨h1.lt, h1.below.size⟩
    have t2 : T y2 := HTN.out _ _ t1 HBA.out
    rw [← ey, ← er]
    clear ey er
    refine hK.out _ _ t2 ?_
    clear hK K
    exact HJpac y2 rb t2 HZ2 HRB
   refine tree_run rfl (fun K hK => ?_)
   go_simp
   obtain ⟨rb, er⟩ : ∃ rb, rb = v1.heap.size := ⟨_, rfl⟩
   obtain ⟨y1, ey⟩ : ∃ y, y = v1.alloc (.cells (zU8 20).toArray 23) := ⟨_, rfl⟩
   have HBA : Hid (Below v1.heap.size v1 y1) := by show Below _ _ _; rw [ey]; exact (Below.refl _ _).alloc (Nat.le_refl _) _
   have HZ1 : Hid (y1.free? rb 0 20 = true) := by show _ = _; rw [ey, er]; exact World.free?_alloc_at _ _ rfl (by first | (rw [zs81_len]; omega) | (rw [zs42_len]; omega) | (rw [zs46_len]; omega) | simp)
   have HRB : Hid ((∀ x ∈ R2, x.1 < rb) ∧ w.heap.size ≤ rb) := by have h1 := t0; rw [HT.out] at h1; rw [er]; exact ⟨h1.lt, h1.below.size⟩
   have t1 : T y1 := HTN.out _ _ t0 HBA.out
   rw [← ey, ← er]
   clear ey er
   refine hK.out _ _ t1 ?_
   clear hK K
   refine tree_run rfl (fun K hK => ?_)
   go_simp
   refine (HN2.out _).mono ?_
   rintro e y2 ⟨rfl, hby⟩
   have t2 : T y2 := HTN.out _ _ t1 hby
   have HZ2 : Hid (y2.free? rb 0 20 = true) := ((brow hby).2 _ _ _ (free?_ltK HZ1.out)).trans HZ1.out
   clear hby
   refine hK.out _ _ t2 ?_
   clear hK K
   exact HJpac y2 rb t2 HZ2 HRB
  case tpac =>
   intro y2 rb t2 HZ2 HRB
   refine tree_run rfl (fun K hK => ?_)
   go_simp
   refine (HADR.out _).mono ?_
   rintro e y3 ⟨rfl, hby⟩
   have t3 : T y3 := HTN.out _ _ t2 hby
   have HZ3 : Hid (y3.free? rb 0 20 = true) := ((brow hby).2 _ _ _ (free?_ltK HZ2.out)).trans HZ2.out
   clear hby
   refine hK.out _ _ t3 ?_
   clear hK K
   exact HJpabc y3 rb t3 HZ3 HRB
 case tpabc =>
  intro y3 rb t3 HZ3 HRB
  refine tree_run rfl (fun K hK => ?_)
  have fz := HZ3.out
  go_simp
  obtain ⟨y4, ey⟩ : ∃ y, y = y3.setCells rb 0 (beC 20 A) := ⟨_, rfl⟩
  have hO : Only (fun b => b = rb) y3 y4 := by rw [ey]; exact Only.setCells (S := fun b => b = rb) (Only.refl _ _) (fun _ => rfl) _ _
  have t4 : T y4 := by rw [HT.out]; have h1 := t3; rw [HT.out] at h1; exact h1.only hO HRB.out.1 HRB.out.2
  have HK4 : Hid (Kep w [(rb, 20, beC 20 A), (sx, 32, beC 32 s)] y4) := by have h1 := t4; rw [HT.out, HR2.out] at h1; exact Kep.add h1 (by rw [ey]; exact row?_setCells_whole _ HZ3.out hokA) (by rw [ey, World.free?_setCells']; exact HZ3.out)
  rw [← ey]
  clear ey hO
  refine hK.out _ _ t4 ?_
  clear hK K
  refine tree_fin ?_
  obtain ⟨ab, hab⟩ : ∃ ab, ab = rb := ⟨_, rfl⟩
  have HM2 : Hid (y4.row? rb 0 20 = some (beC 20 A)) := HK4.out.get (by simp)
  clear t4 fz
  have c1 := HM2.out
  go_wp2_with fail
  refine (HTH.out _).mono ?_
  rintro e w6 ⟨rfl, hb6⟩
  have HK6 := Lib.hid (HK4.out.next hb6)
  clear hb6 c1
  by_cases htk : A = 1 ∨ A = 2 ∨ A = 3
  ·have hd : decide (A = 1 ∨ A = 2 ∨ A = 3) = true := decide_eq_true htk
   rw [hd]
   go_wp2
   go_ret
   exact ⟨rfl, HK6.out.below⟩
  have hd : decide (A = 1 ∨ A = 2 ∨ A = 3) = false := decide_eq_false htk
  have HNT := Lib.hid htk
  rw [hd]
  clear htk
  have c1 : w6.row? rb 0 20 = some (beC 20 A) := HK6.out.get (by simp)
  have hbX := build35c A 1
  obtain ⟨X, hX⟩ : ∃ X, X = cat (acS ⟨A, 1, 0, []⟩ (.slice none 0 0) (.slice none 0 0)) := ⟨_, rfl⟩
  rw [← hX] at hbX
  have lX : X.length = 55 := by rw [hX]; exact acS_len _ _ _
  have kX : okL 55 X = true := by rw [hX]; exact acS0_ok _
  have HX := Lib.hid hX
  obtain ⟨x1, x2, fx⟩ := box55 w6 X kX
  obtain ⟨xb, hxb⟩ : ∃ xb, xb = w6.heap.size := ⟨_, rfl⟩
  obtain ⟨w7, e7⟩ : ∃ w7, w7 = (w6.alloc (.cells (cat zs81).toArray 35)).setCells w6.heap.size 0 X := ⟨_, rfl⟩
  have HFX : Hid (w7.free? xb 0 55 = true) := by show _ = _; rw [e7, hxb, World.free?_setCells']; exact fx
  have HK7 : Hid (Kep w [(xb, 55, X), (rb, 20, beC 20 A), (sx, 32, beC 32 s)] w7) := by
   show Kep _ _ _
   refine Kep.add (HK6.out.next (by rw [e7]; exact x1)) ?_ HFX.out
   rw [e7, hxb]; exact x2
  have HE7 := Lib.hid e7
  have HXB := Lib.hid hxb
  cases a
  case' true =>
   have hs7 : w7.heap.size = w6.heap.size + 1 := by rw [e7]; simp
   have hbD := build35d A (some ⟨w6.heap.size + 1, 0, none⟩) 1 1
   obtain ⟨Y, hY⟩ : ∃ Y, Y = cat (acS ⟨A, 0, 0, [1]⟩ (.slice (some ⟨w6.heap.size + 1, 0, none⟩) 1 1) (.slice none 0 0)) := ⟨_, rfl⟩
   have hYY : cat (acS ⟨A, 0, 0, []⟩ (.slice (some ⟨w6.heap.size + 1, 0, none⟩) 1 1) (.slice none 0 0)) = Y := by rw [hY]; rfl
   rw [hYY] at hbD
   have lY : Y.length = 55 := by rw [hY]; exact acS_len _ _ _
   have kY : okL 55 Y = true := by rw [hY]; exact acS1_ok _ _ _ _
   obtain ⟨cb, hcb⟩ : ∃ cb, cb = w6.heap.size + 1 := ⟨_, rfl⟩
   have hcb7 : cb = w7.heap.size := by rw [hcb, hs7]
   obtain ⟨w8, e8⟩ : ∃ w8, w8 = w7.alloc (.cells #[.int .u8 1] 5) := ⟨_, rfl⟩
   have b8 : Below w7.heap.size w7 w8 := by rw [e8]; exact (Below.refl _ _).alloc (Nat.le_refl _) _
   have k8 := HK7.out.next b8
   have f8 : w8.free? xb 0 55 = true := k8.fr (b := xb) (n := 55) (L := X) (by simp)
   have c2 : w7.row? rb 0 20 = some (beC 20 A) := HK7.out.get (by simp)
   obtain ⟨w9, e9⟩ : ∃ w9, w9 = w8.setCells xb 0 Y := ⟨_, rfl⟩
   have o9 : Only (fun b => b = xb) w8 w9 := by rw [e9]; exact Only.setCells (S := fun b => b = xb) (Only.refl _ _) (fun _ => rfl) _ _
   have ltc : ∀ x ∈ [(rb, 20, beC 20 A), (sx, 32, beC 32 s)], x.1 < xb := by rw [hxb]; exact HK6.out.lt
   have k9 : Kep w [(xb, 55, Y), (rb, 20, beC 20 A), (sx, 32, beC 32 s)] w9 := by
    refine Kep.add ((k8.sub (fun x hx => List.mem_cons_of_mem _ hx)).only o9 ltc (by rw [hxb]; exact HK6.out.below.size)) ?_ ?_
    ·rw [e9]; exact row?_setCells_whole _ f8 kY
    ·rw [e9, World.free?_setCells']; exact f8
   have hcr : w9.row? cb 0 1 = some [.int .u8 1] := by
    rw [o9.row? (by rw [e8, hcb7]; simp) (by show ¬ cb = xb; rw [hcb, hxb]; omega), e8, hcb7]
    exact World.row?_alloc_at [.int .u8 1] 5 _ rfl rfl
   have hcf : w9.free? cb 0 1 = true := by
    rw [o9.free? (by rw [e8, hcb7]; simp) (by show ¬ cb = xb; rw [hcb, hxb]; omega), e8, hcb7]
    exact World.free?_alloc_at _ _ rfl (by simp)
   have HK9 : Hid (Kep w [(cb, 1, [.int .u8 1]), (xb, 55, Y), (sx, 32, beC 32 s)] w9) := (k9.add hcr hcf).sub (by intro x hx; simp only [List.mem_cons, List.not_mem_nil, or_false] at hx ⊢; rcases hx with h | h | h <;> simp [h])
   have HYY : Hid (Y = cat (acS ⟨A, 0, 0, [1]⟩ (.slice (some ⟨cb, 0, none⟩) 1 1) (.slice none 0 0))) := by show _ = _; rw [hcb]; exact hY
   have HE8 := Lib.hid e8
   have HE9 := Lib.hid e9
   have HCB := Lib.hid hcb
   rw [e7] at c2
   rw [e8, e7, hxb] at f8
   clear x1 x2 e7 hxb hX hY hYY hcb hcb7 hs7 e8 b8 k8 e9 o9 ltc k9 hcr hcf
   go_wp2_with fail
   rw [← HE7.out, ← HE8.out]
   rw [← HCB.out]
   rw [← HXB.out, ← HE9.out]
   obtain ⟨nn, hnn⟩ : ∃ nn : Int, nn = 0 := ⟨_, rfl⟩
   obtain ⟨cd, hcd⟩ : ∃ cd : Bts, cd = [1] := ⟨_, rfl⟩
   obtain ⟨cv, hcv⟩ : ∃ cv : Value, cv = .slice (some ⟨cb, 0, none⟩) 1 1 := ⟨_, rfl⟩
   have HYC : Hid (Y = cat (acS ⟨A, nn, 0, cd⟩ cv (.slice none 0 0))) := by show _ = _; rw [hnn, hcd, hcv]; exact HYY.out
   have HNN : Hid (0 ≤ nn ∧ nn ≤ 9223372036854775807) := by rw [hnn]; exact ⟨by decide, by decide⟩
   have HTK : Hid (Taken nn cd) := by rw [hnn, hcd]; exact .inr ⟨rfl, by simp⟩
   obtain ⟨R9, hR9⟩ : ∃ R : List (Nat × Nat × List Value), R = [(cb, 1, [.int .u8 1]), (xb, 55, Y), (sx, 32, beC 32 s)] := ⟨_, rfl⟩
   have HCV : Hid (∀ W, Kep w R9 W → RoAt W (fun _ => False) cv cd) := by
    show ∀ W, Kep w R9 W → _
    rw [hR9, hcv, hcd]
    intro W h
    have h1 := h.get (b := cb) (n := 1) (L := [.int .u8 1]) (by simp)
    exact ⟨⟨_, _, rfl, ⟨fun _ => ⟨cb, 0, rfl, fun i hi => by have h2 := World.row?_cell h1 (i := 0) (by simp); have hi0 : i = 0 := (by simpa using hi); rw [hi0]; simpa using h2⟩, fun h => by simp at h, by simp, by decide⟩, fun _ _ _ h => h⟩, by intro x hx; simp at hx; omega, by decide⟩
   have HKR : Hid (Kep w R9 w9) := by show Kep w R9 w9; rw [hR9]; exact HK9.out
   have HM9 : Hid ((sx, 32, beC 32 s) ∈ R9) := by show _ ∈ R9; rw [hR9]; simp
   have HMX : Hid ((xb, 55, Y) ∈ R9) := by show _ ∈ R9; rw [hR9]; simp
   clear hR9 HK9 HK7 HK6 HK4
   clear hnn hcd hcv HYY
  case' false =>
   have HK9 : Hid (Kep w [(xb, 55, X), (sx, 32, beC 32 s)] w7) := HK7.out.sub (by intro x hx; simp only [List.mem_cons, List.not_mem_nil, or_false] at hx ⊢; rcases hx with h | h <;> simp [h])
   clear x1 x2 e7 hxb hX
   go_wp2_with fail
   rw [← HE7.out]
   rw [← HXB.out]
   have lY := lX
   have kY := kX
   obtain ⟨nn, hnn⟩ : ∃ nn : Int, nn = 1 := ⟨_, rfl⟩
   obtain ⟨cd, hcd⟩ : ∃ cd : Bts, cd = [] := ⟨_, rfl⟩
   obtain ⟨cv, hcv⟩ : ∃ cv : Value, cv = .slice none 0 0 := ⟨_, rfl⟩
   have HYC : Hid (X = cat (acS ⟨A, nn, 0, cd⟩ cv (.slice none 0 0))) := by show _ = _; rw [hnn, hcd, hcv]; exact HX.out
   have HNN : Hid (0 ≤ nn ∧ nn ≤ 9223372036854775807) := by rw [hnn]; exact ⟨by decide, by decide⟩
   have HTK : Hid (Taken nn cd) := by rw [hnn, hcd]; exact .inl rfl
   clear lX kX HX
   generalize w7 = w9 at *
   generalize X = Y at *
   obtain ⟨R9, hR9⟩ : ∃ R : List (Nat × Nat × List Value), R = [(xb, 55, Y), (sx, 32, beC 32 s)] := ⟨_, rfl⟩
   have HCV : Hid (∀ W, Kep w R9 W → RoAt W (fun _ => False) cv cd) := by
    show ∀ W, Kep w R9 W → _
    rw [hcv, hcd]
    exact fun W _ => roAt_nil _ _
   have HKR : Hid (Kep w R9 w9) := by show Kep w R9 w9; rw [hR9]; exact HK9.out
   have HM9 : Hid ((sx, 32, beC 32 s) ∈ R9) := by show _ ∈ R9; rw [hR9]; simp
   have HMX : Hid ((xb, 55, Y) ∈ R9) := by show _ ∈ R9; rw [hR9]; simp
   clear hR9 HK9 HK7 HK6 HK4
   clear hnn hcd hcv
  all_goals
   obtain ⟨T9, hT⟩ : ∃ T : World → Prop, T = Kep w R9 := ⟨_, rfl⟩
   have HT9 := Lib.hid hT
   have HTN9 : Hid (∀ W W', T9 W → Below W.heap.size W W' → T9 W') := by show ∀ W W', T9 W → Below W.heap.size W W' → T9 W'; rw [hT]; exact fun W W' h hb => h.next hb
   have t0 : T9 w9.drew := HTN9.out w9 _ (by rw [hT]; exact HKR.out) (Below.refl _ _).drew
   have hb9 := build37c s
   obtain ⟨C, hC⟩ : ∃ C, C = cat (msgS (clM s) (.slice none 0 0)) := ⟨_, rfl⟩
   rw [← hC] at hb9
   have lC : C.length = 129 := by rw [hC]; exact msgS_len _ _
   have kC : okL 129 C = true := by rw [hC]; exact msgS_okD _ _ _ _
   have HC := Lib.hid hC
   clear hT hC
   refine wp_region_tree T9 [] (.take 1 (.alt 0 (.pure 2 (.alt 3 (.alt 4 .fin .stop) .stop)) (.alt 3 (.alt 0 (.pure 2 (.alt 4 .fin .stop)) .stop) .stop))) (by kernel_rfl) (by kernel_rfl) ?_
   generalize w9.drew = v9 at *
   refine (fun (HJqab : ∀ (y2 : World) (rb : Nat), (T9 y2) → (Hid (y2.free? rb 0 129 = true)) → (Hid ((∀ x ∈ R9, x.1 < rb) ∧ w.heap.size ≤ rb)) → (?_ : World → Nat → Prop) y2 rb) => ?_) ?_
   rotate_left
   ·refine tree_take ?_ t0 rfl (by rfl) (fun w' hs => ?_) (fun _ _ _ h => h) ?_
    rotate_left
    ·rw [HT9.out] at hs
     have g1 := hs.get HM9.out
     go_simp
     try rfl
    simp only [Act.put, tsa, tsb, tsc]
    refine tree_alt rfl (fun K hK => ?_) ?_
    ·go_simp
     refine (HN2.out _).mono ?_
     rintro e y1 ⟨rfl, hby⟩
     have t1 : T9 y1 := HTN9.out _ _ t0 hby
     clear hby
     refine hK.out _ _ t1 ?_
     clear hK K
     refine tree_pure ?_ rfl (by rfl) (fun w' hs => ?_) (fun _ _ _ h => h) ?_
     rotate_left
     ·clear hs
      go_simp
      try rfl
     simp only [Act.put, tsa, tsb, tsc]
     refine tree_run rfl (fun K hK => ?_)
     go_simp
     obtain ⟨rb, er⟩ : ∃ rb, rb = y1.heap.size := ⟨_, rfl⟩
     obtain ⟨y2, ey⟩ : ∃ y, y = y1.alloc (.cells (cat zs42).toArray 37) := ⟨_, rfl⟩
     have HBA : Hid (Below y1.heap.size y1 y2) := by show Below _ _ _; rw [ey]; exact (Below.refl _ _).alloc (Nat.le_refl _) _
     have HZ2 : Hid (y2.free? rb 0 129 = true) := by show _ = _; rw [ey, er]; exact World.free?_alloc_at _ _ rfl (by first | (rw [zs81_len]; omega) | (rw [zs42_len]; omega) | (rw [zs46_len]; omega) | simp)
     have HRB : Hid ((∀ x ∈ R9, x.1 < rb) ∧ w.heap.size ≤ rb) := by have h1 := t1; rw [HT9.out] at h1; rw [er]; exact ⟨h1.lt, h1.below.size⟩
     have t2 : T9 y2 := HTN9.out _ _ t1 HBA.out
     rw [← ey, ← er]
     clear ey er
     refine hK.out _ _ t2 ?_
     clear hK K
     exact HJqab y2 rb t2 HZ2 HRB
    refine tree_run rfl (fun K hK => ?_)
    go_simp
    obtain ⟨rb, er⟩ : ∃ rb, rb = v9.heap.size := ⟨_, rfl⟩
    obtain ⟨y1, ey⟩ : ∃ y, y = v9.alloc (.cells (cat zs42).toArray 37) := ⟨_, rfl⟩
    have HBA : Hid (Below v9.heap.size v9 y1) := by show Below _ _ _; rw [ey]; exact (Below.refl _ _).alloc (Nat.le_refl _) _
    have HZ1 : Hid (y1.free? rb 0 129 = true) := by show _ = _; rw [ey, er]; exact World.free?_alloc_at _ _ rfl (by first | (rw [zs81_len]; omega) | (rw [zs42_len]; omega) | (rw [zs46_len]; omega) | simp)
    have HRB : Hid ((∀ x ∈ R9, x.1 < rb) ∧ w.heap.size ≤ rb) := by have h1 := t0; rw [HT9.out] at h1; rw [er]; exact ⟨h1.lt, h1.below.size⟩
    have t1 : T9 y1 := HTN9.out _ _ t0 HBA.out
    rw [← ey, ← er]
    clear ey er
    refine hK.out _ _ t1 ?_
    clear hK K
    refine tree_run rfl (fun K hK => ?_)
    go_simp
    refine (HN2.out _).mono ?_
    rintro e y2 ⟨rfl, hby⟩
    have t2 : T9 y2 := HTN9.out _ _ t1 hby
    have HZ2 : Hid (y2.free? rb 0 129 = true) := ((brow hby).2 _ _ _ (free?_ltK HZ1.out)).trans HZ1.out
    clear hby
    refine hK.out _ _ t2 ?_
    clear hK K
    refine tree_pure ?_ rfl (by rfl) (fun w' hs => ?_) (fun _ _ _ h => h) ?_
    rotate_left
    ·clear hs
     go_simp
     try rfl
    simp only [Act.put, tsa, tsb, tsc]
    exact HJqab y2 rb t2 HZ2 HRB
   ·intro y2 rb t2 HZ2 HRB
    refine tree_run rfl (fun K hK => ?_)
    have fz := HZ2.out
    go_simp
    obtain ⟨y3, ey⟩ : ∃ y, y = y2.setCells rb 0 C := ⟨_, rfl⟩
    have hO : Only (fun b => b = rb) y2 y3 := by rw [ey]; exact Only.setCells (S := fun b => b = rb) (Only.refl _ _) (fun _ => rfl) _ _
    have t3 : T9 y3 := by rw [HT9.out]; have h1 := t2; rw [HT9.out] at h1; exact h1.only hO HRB.out.1 HRB.out.2
    have HK10 : Hid (Kep w ((rb, 129, C) :: R9) y3) := by have h1 := t3; rw [HT9.out] at h1; exact Kep.add h1 (by rw [ey]; exact row?_setCells_whole _ HZ2.out kC) (by rw [ey, World.free?_setCells']; exact HZ2.out)
    rw [← ey]
    clear ey hO
    refine hK.out _ _ t3 ?_
    clear hK K
    refine tree_fin ?_
    obtain ⟨mb, hmb⟩ : ∃ mb, mb = rb := ⟨_, rfl⟩
    rw [← hmb] at HK10
    rw [← hmb]
    have HMB := Lib.hid hmb
    obtain ⟨R, hR⟩ : ∃ R, R = (mb, 129, C) :: R9 := ⟨_, rfl⟩
    rw [← hR] at HK10
    obtain ⟨Tz, hTz⟩ : ∃ T : World → Prop, T = Kep w R := ⟨_, rfl⟩
    have HTz := Lib.hid hTz
    have HTNz : Hid (∀ W W', Tz W → Below W.heap.size W W' → Tz W') := by show ∀ W W', Tz W → Below W.heap.size W W' → Tz W'; rw [hTz]; exact fun W W' h hb => h.next hb
    have tz : Tz y3.drew := HTNz.out y3 _ (by rw [hTz]; exact HK10.out) (Below.refl _ _).drew
    have HMC : Hid ((mb, 129, C) ∈ R) := by show _ ∈ R; rw [hR]; simp
    have HMY : Hid ((xb, 55, Y) ∈ R) := by show _ ∈ R; rw [hR]; exact List.mem_cons_of_mem _ HMX.out
    have HCW : Hid (∀ W, Tz W → RoAt W (fun _ => False) cv cd) := by
     show ∀ W, Tz W → _
     rw [hTz, hR]
     exact fun W h => HCV.out W (h.sub (fun x hx => List.mem_cons_of_mem _ hx))
    have HRP : Hid (RunsP (clM s) (.slice none 0 0) ⟨0, 0, 0, 0, 0⟩ (newS (clL A nn cd)) 0 18 0 [] (clS A nn cd)) := runsP_clash HSW.out (fun e => HNT.out (.inr (.inl e))) HAD.out HTK.out
    have HRR : Hid (RunsR (clM s) (.slice none 0 0) ⟨0, 0, 0, 0, 0⟩ (newS (clL A nn cd)) 0 18 0 [] (clS A nn cd)) := runsR_clash HSW.out (fun e => HNT.out (.inr (.inl e))) HAD.out HTK.out
    have HAC : Hid (∀ W b c, Tz W → W.ownsRow 0 35 55 (.slice (some ⟨b, 0, none⟩) 4 c) 4 (two3 ++ Y) → ∀ i (hi : i < (clL A nn cd).length), AcAt W b (0 + i * 55) (clL A nn cd)[i]) := by
     show ∀ W b c, Tz W → W.ownsRow 0 35 55 (.slice (some ⟨b, 0, none⟩) 4 c) 4 (two3 ++ Y) → ∀ i (hi : i < (clL A nn cd).length), AcAt W b (0 + i * 55) (clL A nn cd)[i]
     intro W b c h h2
     rw [HYC.out] at h2
     exact four_at HAA.out HNN.out (HCW.out W h) h2
    have HBO : Hid (∀ W b c, Tz W → W.ownsRow 0 35 55 (.slice (some ⟨b, 0, none⟩) 4 c) 4 (two3 ++ Y) → Calls Tryz.prog 15 #[.slice (some ⟨b, 0, none⟩) 4 c, .agg C.toArray] W (BothEnd W 0 18 0 [] (clS A nn cd))) := by
     show ∀ W b c, Tz W → W.ownsRow 0 35 55 (.slice (some ⟨b, 0, none⟩) 4 c) 4 (two3 ++ Y) → Calls Tryz.prog 15 #[.slice (some ⟨b, 0, none⟩) 4 c, .agg C.toArray] W (BothEnd W 0 18 0 [] (clS A nn cd))
     intro W b c h h2
     rw [HC.out]
     exact law_both (c := c) (l := (clL A nn cd)) (m := clM s) (ad := 0) (by show 4 ≤ 100; decide) (HAC.out W b c h h2) (by intro x hx; simp [clL] at hx; rcases hx with rfl | rfl | rfl | rfl <;> first | decide | exact HNN.out.1) (roAt_nil _ _) (by decide) HRP.out HRR.out (clS_slots _ _ _)
    have HTW := Lib.hid (fun w => law_two3 w)
    clear hTz hR hmb t3 HK10 HRB HZ2 t2
    go_wp2_with fail
    refine wp_region_tree Tz [] (.take 1 (.take 4 (.alt 0 (.alt 2 (.alt 3 (.alt 5 (.pure 6 (.pure 7 (.pure 8 (.pure 9 (.alt 10 (.alt 11 (.pure 12 (.pure 13 .fin)) .stop) .stop))))) (.alt 10 (.alt 5 (.pure 6 (.pure 7 (.pure 8 (.pure 9 (.alt 11 (.pure 12 (.pure 13 .fin)) .stop))))) .stop) .stop)) (.alt 10 (.alt 3 (.alt 5 (.pure 6 (.pure 7 (.pure 8 (.pure 9 (.alt 11 (.pure 12 (.pure 13 .fin)) .stop))))) .stop) .stop) .stop)) (.alt 10 (.alt 2 (.alt 3 (.alt 5 (.pure 6 (.pure 7 (.pure 8 (.pure 9 (.alt 11 (.pure 12 (.pure 13 .fin)) .stop))))) .stop) .stop) .stop) .stop)) (.alt 2 (.alt 0 (.alt 3 (.alt 5 (.pure 6 (.pure 7 (.pure 8 (.pure 9 (.alt 10 (.alt 11 (.pure 12 (.pure 13 .fin)) .stop) .stop))))) (.alt 10 (.alt 5 (.pure 6 (.pure 7 (.pure 8 (.pure 9 (.alt 11 (.pure 12 (.pure 13 .fin)) .stop))))) .stop) .stop)) (.alt 10 (.alt 3 (.alt 5 (.pure 6 (.pure 7 (.pure 8 (.pure 9 (.alt 11 (.pure 12 (.pure 13 .fin)) .stop))))) .stop) .stop) .stop)) (.alt 10 (.alt 0 (.alt 3 (.alt 5 (.pure 6 (.pure 7 (.pure 8 (.pure 9 (.alt 11 (.pure 12 (.pure 13 .fin)) .stop))))) .stop) .stop) .stop) .stop)) (.alt 10 (.alt 0 (.alt 2 (.alt 3 (.alt 5 (.pure 6 (.pure 7 (.pure 8 (.pure 9 (.alt 11 (.pure 12 (.pure 13 .fin)) .stop))))) .stop) .stop) .stop) (.alt 2 (.alt 0 (.alt 3 (.alt 5 (.pure 6 (.pure 7 (.pure 8 (.pure 9 (.alt 11 (.pure 12 (.pure 13 .fin)) .stop))))) .stop) .stop) .stop) .stop)) .stop))))) (by kernel_rfl) (by kernel_rfl) ?_
    generalize y3.drew = vz at *
    refine (fun (HJsabcde : ∀ (z5 : World) (g : Nat) (r : Nat) (gb : Nat) (gc : Nat) (rb : Nat) (oa : Option Addr) (oc : Nat) (la : Option Addr) (lc : Nat) (sb : Nat) (O : List Value) (own : Go.Mun.Own) (n : Nat), (Tz z5) → (Hid (z5.free? rb 0 24 = true)) → (Hid ((∀ x ∈ R, x.1 < rb) ∧ w.heap.size ≤ rb)) → (Hid (StateAt TU z5 own sb (clS A nn cd) [] n)) → (Hid (own rb = none)) → (Hid (O = outV 0 18 0 oa ([] : Bts).length oc la lc)) → (?_ : World → Nat → Nat → Nat → Nat → Nat → Option Addr → Nat → Option Addr → Nat → Nat → List Value → Go.Mun.Own → Nat → Prop) z5 g r gb gc rb oa oc la lc sb O own n) => ?_) ?_
    rotate_left
    ·refine (fun (HJsabce : ∀ (z4 : World) (g : Nat) (r : Nat) (gb : Nat) (gc : Nat) (rb : Nat), (Tz z4) → (Hid (z4.ownsRow 0 35 55 (.slice (some ⟨gb, 0, none⟩) 4 gc) 4 (two3 ++ Y))) → (Hid (z4.free? rb 0 24 = true)) → (Hid ((∀ x ∈ R, x.1 < rb) ∧ w.heap.size ≤ rb)) → (?_ : World → Nat → Nat → Nat → Nat → Nat → Prop) z4 g r gb gc rb) => ?_) ?_
     rotate_left
     ·refine (fun (HJsabe : ∀ (z3 : World) (g : Nat) (r : Nat) (rb : Nat), (Tz z3) → (Hid (z3.ownsRow 0 35 55 (.slice (some ⟨g, 0, none⟩) 3 3) 3 two3)) → (Hid ((∀ x ∈ R, x.1 < g) ∧ w.heap.size ≤ g)) → (Hid (z3.row? r 0 55 = some Y)) → (Hid (z3.free? rb 0 24 = true)) → (Hid ((∀ x ∈ R, x.1 < rb) ∧ w.heap.size ≤ rb)) → (Hid (rb ≠ g)) → (?_ : World → Nat → Nat → Nat → Prop) z3 g r rb) => ?_) ?_
      rotate_left
      ·refine (fun (HJsab : ∀ (z2 : World) (g : Nat) (r : Nat), (Tz z2) → (Hid (z2.ownsRow 0 35 55 (.slice (some ⟨g, 0, none⟩) 3 3) 3 two3)) → (Hid ((∀ x ∈ R, x.1 < g) ∧ w.heap.size ≤ g)) → (Hid (z2.row? r 0 55 = some Y)) → (?_ : World → Nat → Nat → Prop) z2 g r) => ?_) ?_
       rotate_left
       ·refine (fun (HJsae : ∀ (z2 : World) (g : Nat) (rb : Nat), (Tz z2) → (Hid (z2.ownsRow 0 35 55 (.slice (some ⟨g, 0, none⟩) 3 3) 3 two3)) → (Hid ((∀ x ∈ R, x.1 < g) ∧ w.heap.size ≤ g)) → (Hid (z2.free? rb 0 24 = true)) → (Hid ((∀ x ∈ R, x.1 < rb) ∧ w.heap.size ≤ rb)) → (Hid (rb ≠ g)) → (?_ : World → Nat → Nat → Prop) z2 g rb) => ?_) ?_
        rotate_left
        ·refine (fun (HJsbe : ∀ (z2 : World) (r : Nat) (rb : Nat), (Tz z2) → (Hid (z2.row? r 0 55 = some Y)) → (Hid (z2.free? rb 0 24 = true)) → (Hid ((∀ x ∈ R, x.1 < rb) ∧ w.heap.size ≤ rb)) → (?_ : World → Nat → Nat → Prop) z2 r rb) => ?_) ?_
         rotate_left
         ·refine tree_take ?_ tz rfl (by rfl) (fun w' hs => ?_) (fun _ _ _ h => h) ?_
          rotate_left
          ·rw [HTz.out] at hs
           have g1 := hs.get HMY.out; have g2 := hs.get HMC.out
           go_simp
           try rfl
          simp only [Act.put, tsa, tsb, tsc]
          refine tree_take ?_ tz rfl (by rfl) (fun w' hs => ?_) (fun _ _ _ h => h) ?_
          rotate_left
          ·rw [HTz.out] at hs
           have g1 := hs.get HMY.out; have g2 := hs.get HMC.out
           go_simp
           try rfl
          simp only [Act.put, tsa, tsb, tsc]
          refine tree_alt rfl (fun K hK => ?_) ?_
          ·go_simp
           refine (HTW.out _).mono ?_
           rintro e z1 ⟨g, rfl, hby, hgs, hown⟩
           have HO1 := Lib.hid hown
           have HG : Hid ((∀ x ∈ R, x.1 < g) ∧ w.heap.size ≤ g) := by have h1 := tz; rw [HTz.out] at h1; exact ⟨fun x hx => Nat.lt_of_lt_of_le (h1.lt x hx) hgs, Nat.le_trans h1.below.size hgs⟩
           have t1 : Tz z1 := HTNz.out _ _ tz hby
           clear hby hown hgs
           refine hK.out _ _ t1 ?_
           clear hK K
           refine tree_alt rfl (fun K hK => ?_) ?_
           ·go_simp
            obtain ⟨r, er⟩ : ∃ r, r = z1.heap.size := ⟨_, rfl⟩
            obtain ⟨z2, ey⟩ : ∃ y, y = z1.alloc (.cells Y.toArray 35) := ⟨_, rfl⟩
            have hby : Below z1.heap.size z1 z2 := by rw [ey]; exact (Below.refl _ _).alloc (Nat.le_refl _) _
            have HS2 : Hid (z2.row? r 0 55 = some Y) := by show _ = _; rw [ey, er]; exact World.row?_alloc_at _ _ _ rfl lY
            have t2 : Tz z2 := HTNz.out _ _ t1 hby
            have HO2 : Hid (z2.ownsRow 0 35 55 (.slice (some ⟨g, 0, none⟩) 3 3) 3 two3) := own_next HO1.out hby
            rw [← ey, ← er]
            clear ey er hby
            refine hK.out _ _ t2 ?_
            clear hK K
            exact HJsab z2 g r t2 HO2 HG HS2
           refine tree_run rfl (fun K hK => ?_)
           go_simp
           obtain ⟨rb, er⟩ : ∃ rb, rb = z1.heap.size := ⟨_, rfl⟩
           obtain ⟨z2, ey⟩ : ∃ y, y = z1.alloc (.cells (cat zs46).toArray 41) := ⟨_, rfl⟩
           have hby : Below z1.heap.size z1 z2 := by rw [ey]; exact (Below.refl _ _).alloc (Nat.le_refl _) _
           have HZn : Hid (z2.free? rb 0 24 = true) := by show _ = _; rw [ey, er]; exact World.free?_alloc_at _ _ rfl (by rw [zs46_len]; omega)
           have HRB : Hid ((∀ x ∈ R, x.1 < rb) ∧ w.heap.size ≤ rb) := by have h1 := t1; rw [HTz.out] at h1; rw [er]; exact ⟨h1.lt, h1.below.size⟩
           have HNE : Hid (rb ≠ g) := by show rb ≠ g; obtain ⟨_, _, e1, _, _, _, h3, _⟩ := own_words HO1.out (by omega); cases e1; have h4 := World.row?_lt h3; omega
           have t2 : Tz z2 := HTNz.out _ _ t1 hby
           have HO2 : Hid (z2.ownsRow 0 35 55 (.slice (some ⟨g, 0, none⟩) 3 3) 3 two3) := own_next HO1.out hby
           have HZ2 := HZn
           rw [← ey, ← er]
           clear ey er hby HZn
           refine hK.out _ _ t2 ?_
           clear hK K
           exact HJsae z2 g rb t2 HO2 HG HZ2 HRB HNE
          refine tree_alt rfl (fun K hK => ?_) ?_
          ·go_simp
           obtain ⟨r, er⟩ : ∃ r, r = vz.heap.size := ⟨_, rfl⟩
           obtain ⟨z1, ey⟩ : ∃ y, y = vz.alloc (.cells Y.toArray 35) := ⟨_, rfl⟩
           have hby : Below vz.heap.size vz z1 := by rw [ey]; exact (Below.refl _ _).alloc (Nat.le_refl _) _
           have HS1 : Hid (z1.row? r 0 55 = some Y) := by show _ = _; rw [ey, er]; exact World.row?_alloc_at _ _ _ rfl lY
           have t1 : Tz z1 := HTNz.out _ _ tz hby
           rw [← ey, ← er]
           clear ey er hby
           refine hK.out _ _ t1 ?_
           clear hK K
           refine tree_alt rfl (fun K hK => ?_) ?_
           ·go_simp
            refine (HTW.out _).mono ?_
            rintro e z2 ⟨g, rfl, hby, hgs, hown⟩
            have HO2 := Lib.hid hown
            have HG : Hid ((∀ x ∈ R, x.1 < g) ∧ w.heap.size ≤ g) := by have h1 := t1; rw [HTz.out] at h1; exact ⟨fun x hx => Nat.lt_of_lt_of_le (h1.lt x hx) hgs, Nat.le_trans h1.below.size hgs⟩
            have t2 : Tz z2 := HTNz.out _ _ t1 hby
            have HS2 : Hid (z2.row? r 0 55 = some Y) := ((brow hby).1 _ _ _ (World.row?_lt HS1.out)).trans HS1.out
            clear hby hown hgs
            refine hK.out _ _ t2 ?_
            clear hK K
            exact HJsab z2 g r t2 HO2 HG HS2
           refine tree_run rfl (fun K hK => ?_)
           go_simp
           obtain ⟨rb, er⟩ : ∃ rb, rb = z1.heap.size := ⟨_, rfl⟩
           obtain ⟨z2, ey⟩ : ∃ y, y = z1.alloc (.cells (cat zs46).toArray 41) := ⟨_, rfl⟩
           have hby : Below z1.heap.size z1 z2 := by rw [ey]; exact (Below.refl _ _).alloc (Nat.le_refl _) _
           have HZn : Hid (z2.free? rb 0 24 = true) := by show _ = _; rw [ey, er]; exact World.free?_alloc_at _ _ rfl (by rw [zs46_len]; omega)
           have HRB : Hid ((∀ x ∈ R, x.1 < rb) ∧ w.heap.size ≤ rb) := by have h1 := t1; rw [HTz.out] at h1; rw [er]; exact ⟨h1.lt, h1.below.size⟩
           have t2 : Tz z2 := HTNz.out _ _ t1 hby
           have HS2 : Hid (z2.row? r 0 55 = some Y) := ((brow hby).1 _ _ _ (World.row?_lt HS1.out)).trans HS1.out
           have HZ2 := HZn
           rw [← ey, ← er]
           clear ey er hby HZn
           refine hK.out _ _ t2 ?_
           clear hK K
           exact HJsbe z2 r rb t2 HS2 HZ2 HRB
          refine tree_run rfl (fun K hK => ?_)
          go_simp
          obtain ⟨rb, er⟩ : ∃ rb, rb = vz.heap.size := ⟨_, rfl⟩
          obtain ⟨z1, ey⟩ : ∃ y, y = vz.alloc (.cells (cat zs46).toArray 41) := ⟨_, rfl⟩
          have hby : Below vz.heap.size vz z1 := by rw [ey]; exact (Below.refl _ _).alloc (Nat.le_refl _) _
          have HZn : Hid (z1.free? rb 0 24 = true) := by show _ = _; rw [ey, er]; exact World.free?_alloc_at _ _ rfl (by rw [zs46_len]; omega)
          have HRB : Hid ((∀ x ∈ R, x.1 < rb) ∧ w.heap.size ≤ rb) := by have h1 := tz; rw [HTz.out] at h1; rw [er]; exact ⟨h1.lt, h1.below.size⟩
          have t1 : Tz z1 := HTNz.out _ _ tz hby
          have HZ1 := HZn
          rw [← ey, ← er]
          clear ey er hby HZn
          refine hK.out _ _ t1 ?_
          clear hK K
          refine tree_alt rfl (fun K hK => ?_) ?_
          ·go_simp
           refine (HTW.out _).mono ?_
           rintro e z2 ⟨g, rfl, hby, hgs, hown⟩
           have HO2 := Lib.hid hown
           have HG : Hid ((∀ x ∈ R, x.1 < g) ∧ w.heap.size ≤ g) := by have h1 := t1; rw [HTz.out] at h1; exact ⟨fun x hx => Nat.lt_of_lt_of_le (h1.lt x hx) hgs, Nat.le_trans h1.below.size hgs⟩
           have t2 : Tz z2 := HTNz.out _ _ t1 hby
           have HZ2 : Hid (z2.free? rb 0 24 = true) := ((brow hby).2 _ _ _ (free?_ltK HZ1.out)).trans HZ1.out
           have HNE : Hid (rb ≠ g) := by show rb ≠ g; have := free?_ltK HZ1.out; omega
           clear hby hown hgs
           refine hK.out _ _ t2 ?_
           clear hK K
           exact HJsae z2 g rb t2 HO2 HG HZ2 HRB HNE
          refine tree_run rfl (fun K hK => ?_)
          go_simp
          obtain ⟨r, er⟩ : ∃ r, r = z1.heap.size := ⟨_, rfl⟩
          obtain ⟨z2, ey⟩ : ∃ y, y = z1.alloc (.cells Y.toArray 35) := ⟨_, rfl⟩
          have hby : Below z1.heap.size z1 z2 := by rw [ey]; exact (Below.refl _ _).alloc (Nat.le_refl _) _
          have HS2 : Hid (z2.row? r 0 55 = some Y) := by show _ = _; rw [ey, er]; exact World.row?_alloc_at _ _ _ rfl lY
          have t2 : Tz z2 := HTNz.out _ _ t1 hby
          have HZ2 : Hid (z2.free? rb 0 24 = true) := ((brow hby).2 _ _ _ (free?_ltK HZ1.out)).trans HZ1.out
          rw [← ey, ← er]
          clear ey er hby
          refine hK.out _ _ t2 ?_
          clear hK K
          exact HJsbe z2 r rb t2 HS2 HZ2 HRB
         ·intro z2 r rb t2 HS2 HZ2 HRB
          refine tree_run rfl (fun K hK => ?_)
          go_simp
          refine (HTW.out _).mono ?_
          rintro e z3 ⟨g, rfl, hby, hgs, hown⟩
          have HO3 := Lib.hid hown
          have HG : Hid ((∀ x ∈ R, x.1 < g) ∧ w.heap.size ≤ g) := by have h1 := t2; rw [HTz.out] at h1; exact ⟨fun x hx => Nat.lt_of_lt_of_le (h1.lt x hx) hgs, Nat.le_trans h1.below.size hgs⟩
          have t3 : Tz z3 := HTNz.out _ _ t2 hby
          have HS3 : Hid (z3.row? r 0 55 = some Y) := ((brow hby).1 _ _ _ (World.row?_lt HS2.out)).trans HS2.out
          have HZ3 : Hid (z3.free? rb 0 24 = true) := ((brow hby).2 _ _ _ (free?_ltK HZ2.out)).trans HZ2.out
          have HNE : Hid (rb ≠ g) := by show rb ≠ g; have := free?_ltK HZ2.out; omega
          clear hby hown hgs
          refine hK.out _ _ t3 ?_
          clear hK K
          exact HJsabe z3 g r rb t3 HO3 HG HS3 HZ3 HRB HNE
        ·intro z2 g rb t2 HO2 HG HZ2 HRB HNE
         refine tree_run rfl (fun K hK => ?_)
         go_simp
         obtain ⟨r, er⟩ : ∃ r, r = z2.heap.size := ⟨_, rfl⟩
         obtain ⟨z3, ey⟩ : ∃ y, y = z2.alloc (.cells Y.toArray 35) := ⟨_, rfl⟩
         have hby : Below z2.heap.size z2 z3 := by rw [ey]; exact (Below.refl _ _).alloc (Nat.le_refl _) _
         have HS3 : Hid (z3.row? r 0 55 = some Y) := by show _ = _; rw [ey, er]; exact World.row?_alloc_at _ _ _ rfl lY
         have t3 : Tz z3 := HTNz.out _ _ t2 hby
         have HO3 : Hid (z3.ownsRow 0 35 55 (.slice (some ⟨g, 0, none⟩) 3 3) 3 two3) := own_next HO2.out hby
         have HZ3 : Hid (z3.free? rb 0 24 = true) := ((brow hby).2 _ _ _ (free?_ltK HZ2.out)).trans HZ2.out
         rw [← ey, ← er]
         clear ey er hby
         refine hK.out _ _ t3 ?_
         clear hK K
         exact HJsabe z3 g r rb t3 HO3 HG HS3 HZ3 HRB HNE
       ·intro z2 g r t2 HO2 HG HS2
        refine tree_alt rfl (fun K hK => ?_) ?_
        ·refine step_app elemG rfl _ _ rfl HO2.out rfl (SrcAt.row (m := 1) (size := 55) HS2.out kY 1) rfl (by decide) (by decide) ?_
         intro v z3 hown hon hloc
         obtain ⟨gb, gc, ev⟩ : ∃ b c, v = .slice (some ⟨b, 0, none⟩) 4 c := by obtain ⟨g1, c1, e1, _⟩ := own_words hown (by omega); exact ⟨g1, c1, e1⟩
         subst ev
         have HW3 := Lib.hid hown
         have hO : Only (fun b => b = g) z2 z3 := hon.mono fun b hb => by have e : some g = some b := hb; cases e; rfl
         have t3 : Tz z3 := by rw [HTz.out]; have h1 := t2; rw [HTz.out] at h1; exact h1.only hO HG.out.1 HG.out.2
         clear hown hon hloc hO
         refine hK.out _ _ t3 ?_
         clear hK K
         refine tree_alt rfl (fun K hK => ?_) ?_
         ·go_simp
          refine (HBO.out _ _ _ t3 HW3.out).mono ?_
          rintro e z4 ⟨oa, oc, la, lc, sb, own, n, rfl, hby, hst, hge⟩
          have HST4 := Lib.hid hst
          obtain ⟨O, hO⟩ : ∃ O, O = outV 0 18 0 oa ([] : Bts).length oc la lc := ⟨_, rfl⟩
          rw [← hO]
          have HOO := Lib.hid hO
          have t4 : Tz z4 := HTNz.out _ _ t3 hby
          have HW4 : Hid (z4.ownsRow 0 35 55 (.slice (some ⟨gb, 0, none⟩) 4 gc) 4 (two3 ++ Y)) := own_next HW3.out hby
          clear hby hst hge hO
          refine hK.out _ _ t4 ?_
          clear hK K
          iterate 4
           refine tree_pure ?_ rfl (by rfl) (fun w' hs => ?_) (fun _ _ _ h => h) ?_
           rotate_left
           ·clear hs
            go_simp
            try rfl
           simp only [Act.put, tsa, tsb, tsc]
          refine tree_run rfl (fun K hK => ?_)
          go_simp
          obtain ⟨rb, er⟩ : ∃ rb, rb = z4.heap.size := ⟨_, rfl⟩
          obtain ⟨z5, ey⟩ : ∃ y, y = z4.alloc (.cells (cat zs46).toArray 41) := ⟨_, rfl⟩
          have hby : Below z4.heap.size z4 z5 := by rw [ey]; exact (Below.refl _ _).alloc (Nat.le_refl _) _
          have HZn : Hid (z5.free? rb 0 24 = true) := by show _ = _; rw [ey, er]; exact World.free?_alloc_at _ _ rfl (by rw [zs46_len]; omega)
          have HRB : Hid ((∀ x ∈ R, x.1 < rb) ∧ w.heap.size ≤ rb) := by have h1 := t4; rw [HTz.out] at h1; rw [er]; exact ⟨h1.lt, h1.below.size⟩
          have HOWN : Hid (own rb = none) := by show _ = _; rw [er]; exact free_own HST4.out.lows (Nat.le_refl _)
          have t5 : Tz z5 := HTNz.out _ _ t4 hby
          have HST5 := Lib.hid (HST4.out.below hby)
          have HZ5 := HZn
          rw [← ey, ← er]
          clear ey er hby HZn
          refine hK.out _ _ t5 ?_
          clear hK K
          exact HJsabcde z5 g r gb gc rb oa oc la lc sb O own n t5 HZ5 HRB HST5 HOWN HOO
         refine tree_run rfl (fun K hK => ?_)
         go_simp
         obtain ⟨rb, er⟩ : ∃ rb, rb = z3.heap.size := ⟨_, rfl⟩
         obtain ⟨z4, ey⟩ : ∃ y, y = z3.alloc (.cells (cat zs46).toArray 41) := ⟨_, rfl⟩
         have hby : Below z3.heap.size z3 z4 := by rw [ey]; exact (Below.refl _ _).alloc (Nat.le_refl _) _
         have HZn : Hid (z4.free? rb 0 24 = true) := by show _ = _; rw [ey, er]; exact World.free?_alloc_at _ _ rfl (by rw [zs46_len]; omega)
         have HRB : Hid ((∀ x ∈ R, x.1 < rb) ∧ w.heap.size ≤ rb) := by have h1 := t3; rw [HTz.out] at h1; rw [er]; exact ⟨h1.lt, h1.below.size⟩
         have t4 : Tz z4 := HTNz.out _ _ t3 hby
         have HW4 : Hid (z4.ownsRow 0 35 55 (.slice (some ⟨gb, 0, none⟩) 4 gc) 4 (two3 ++ Y)) := own_next HW3.out hby
         have HZ4 := HZn
         rw [← ey, ← er]
         clear ey er hby HZn
         refine hK.out _ _ t4 ?_
         clear hK K
         exact HJsabce z4 g r gb gc rb t4 HW4 HZ4 HRB
        refine tree_run rfl (fun K hK => ?_)
        go_simp
        obtain ⟨rb, er⟩ : ∃ rb, rb = z2.heap.size := ⟨_, rfl⟩
        obtain ⟨z3, ey⟩ : ∃ y, y = z2.alloc (.cells (cat zs46).toArray 41) := ⟨_, rfl⟩
        have hby : Below z2.heap.size z2 z3 := by rw [ey]; exact (Below.refl _ _).alloc (Nat.le_refl _) _
        have HZn : Hid (z3.free? rb 0 24 = true) := by show _ = _; rw [ey, er]; exact World.free?_alloc_at _ _ rfl (by rw [zs46_len]; omega)
        have HRB : Hid ((∀ x ∈ R, x.1 < rb) ∧ w.heap.size ≤ rb) := by have h1 := t2; rw [HTz.out] at h1; rw [er]; exact ⟨h1.lt, h1.below.size⟩
        have HNE : Hid (rb ≠ g) := by show rb ≠ g; obtain ⟨_, _, e1, _, _, _, h3, _⟩ := own_words HO2.out (by omega); cases e1; have h4 := World.row?_lt h3; omega
        have t3 : Tz z3 := HTNz.out _ _ t2 hby
        have HO3 : Hid (z3.ownsRow 0 35 55 (.slice (some ⟨g, 0, none⟩) 3 3) 3 two3) := own_next HO2.out hby
        have HS3 : Hid (z3.row? r 0 55 = some Y) := ((brow hby).1 _ _ _ (World.row?_lt HS2.out)).trans HS2.out
        have HZ3 := HZn
        rw [← ey, ← er]
        clear ey er hby HZn
        refine hK.out _ _ t3 ?_
        clear hK K
        exact HJsabe z3 g r rb t3 HO3 HG HS3 HZ3 HRB HNE
      ·intro z3 g r rb t3 HO3 HG HS3 HZ3 HRB HNE
       refine tree_run rfl (fun K hK => ?_)
       refine step_app elemG rfl _ _ rfl HO3.out rfl (SrcAt.row (m := 1) (size := 55) HS3.out kY 1) rfl (by decide) (by decide) ?_
       intro v z4 hown hon hloc
       obtain ⟨gb, gc, ev⟩ : ∃ b c, v = .slice (some ⟨b, 0, none⟩) 4 c := by obtain ⟨g1, c1, e1, _⟩ := own_words hown (by omega); exact ⟨g1, c1, e1⟩
       subst ev
       have HW4 := Lib.hid hown
       have hO : Only (fun b => b = g) z3 z4 := hon.mono fun b hb => by have e : some g = some b := hb; cases e; rfl
       have t4 : Tz z4 := by rw [HTz.out]; have h1 := t3; rw [HTz.out] at h1; exact h1.only hO HG.out.1 HG.out.2
       have HZ4 : Hid (z4.free? rb 0 24 = true) := (hO.free? (free?_ltK HZ3.out) HNE.out).trans HZ3.out
       clear hown hon hloc hO
       refine hK.out _ _ t4 ?_
       clear hK K
       exact HJsabce z4 g r gb gc rb t4 HW4 HZ4 HRB
     ·intro z4 g r gb gc rb t4 HW4 HZ4 HRB
      refine tree_run rfl (fun K hK => ?_)
      go_simp
      refine (HBO.out _ _ _ t4 HW4.out).mono ?_
      rintro e z5 ⟨oa, oc, la, lc, sb, own, n, rfl, hby, hst, hge⟩
      have HST5 := Lib.hid hst
      obtain ⟨O, hO⟩ : ∃ O, O = outV 0 18 0 oa ([] : Bts).length oc la lc := ⟨_, rfl⟩
      rw [← hO]
      have HOO := Lib.hid hO
      have t5 : Tz z5 := HTNz.out _ _ t4 hby
      have HW5 : Hid (z5.ownsRow 0 35 55 (.slice (some ⟨gb, 0, none⟩) 4 gc) 4 (two3 ++ Y)) := own_next HW4.out hby
      have HZ5 : Hid (z5.free? rb 0 24 = true) := ((brow hby).2 _ _ _ (free?_ltK HZ4.out)).trans HZ4.out
      have HOWN : Hid (own rb = none) := Classical.not_not.1 (fun hx => by have h1 := free?_ltK HZ4.out; have := hge rb hx; omega)
      clear hby hst hge hO
      refine hK.out _ _ t5 ?_
      clear hK K
      iterate 4
       refine tree_pure ?_ rfl (by rfl) (fun w' hs => ?_) (fun _ _ _ h => h) ?_
       rotate_left
       ·clear hs
        go_simp
        try rfl
       simp only [Act.put, tsa, tsb, tsc]
      exact HJsabcde z5 g r gb gc rb oa oc la lc sb O own n t5 HZ5 HRB HST5 HOWN HOO
    ·intro z5 g r gb gc rb oa oc la lc sb O own n t5 HZ5 HRB HST5 HOWN HOO
     refine tree_run rfl (fun K hK => ?_)
     have lO : O.length = 24 := by rw [HOO.out]; exact outV_len _ _ _ _ _ _ _ _
     have kO : okL 24 O = true := by rw [HOO.out]; exact outV_ok _ _ _ _ _ _ _ _
     have fz := HZ5.out
     go_simp
     obtain ⟨z6, ey⟩ : ∃ y, y = z5.setCells rb 0 O := ⟨_, rfl⟩
     have hO : Only (fun b => b = rb) z5 z6 := by rw [ey]; exact Only.setCells (S := fun b => b = rb) (Only.refl _ _) (fun _ => rfl) _ _
     have t6 : Tz z6 := by rw [HTz.out]; have h1 := t5; rw [HTz.out] at h1; exact h1.only hO HRB.out.1 HRB.out.2
     have HRW : Hid (z6.row? rb 0 24 = some (outV 0 18 0 oa ([] : Bts).length oc la lc)) := by show _ = _; rw [ey, ← HOO.out]; exact row?_setCells_whole O HZ5.out kO
     have HSTZ : Hid (StateAt TU z6 own sb (clS A nn cd) [] n) := HST5.out.only hO (fun b hx => by rw [hx]; exact HOWN.out)
     rw [← ey]
     clear ey hO
     refine hK.out _ _ t6 ?_
     clear hK K
     iterate 2
      refine tree_pure ?_ rfl (by rfl) (fun w' hs => ?_) (fun _ _ _ h => h) ?_
      rotate_left
      ·clear hs
       go_simp
       try rfl
      simp only [Act.put, tsa, tsb, tsc]
     refine tree_fin ?_
     have c0 := out_gas HRW.out
     have c1 := out_err HRW.out
     have c2 := out_addr HRW.out
     rw [Nat.zero_add] at c1 c2
     have HTE : Hid (Kep w R z6) := by have h1 := t6; rw [HTz.out] at h1; exact h1
     clear t6 fz
     go_wp2_with fail
     refine (law_num 18 _).mono ?_
     rintro e wz ⟨rfl, rfl⟩
     have c3 := HTE.out.get HMC.out
     rw [HC.out] at c3
     have c4 := msg_frm c3
     rw [Nat.zero_add] at c4
     go_wp2_with fail
     refine (st_nonce HSTZ.out 2 (by decide)).mono ?_
     rintro e z7 ⟨rfl, hbz⟩
     rw [clS_nonce]
     have HK7z := Lib.hid (HTE.out.next hbz)
     have HRW7 : Hid (z7.row? rb 0 24 = some (outV 0 18 0 oa ([] : Bts).length oc la lc)) := ((brow hbz).1 _ _ _ (World.row?_lt HRW.out)).trans HRW.out
     have d2 := out_addr HRW7.out
     rw [Nat.zero_add] at d2
     have hq : ∀ w, (binOp .eql 23 (.agg (beC 20 0).toArray) (.agg (beC 20 0).toArray)).run Tryz.prog w = .ok (.bool true) w := fun w => by have := eql_of (fun d => eqD23 (a := 0) (b := 0) (by decide) (by decide) w d); simpa using this
     clear hbz c0 c1 c2 c3 c4
     go_wp2
     go_ret
     exact ⟨rfl, HK7z.out.below⟩
theorem evmClashes_law (L : List Int) (hL : L.length = 32) (hx : ∀ x ∈ L, 0 ≤ x ∧ x ≤ 255) (a : Bool) (w : World) : Calls Tryz.prog 4 #[.agg (u8L L).toArray, .bool a] w fun e w' => e = .returned (.bool true) ∧ Below w.heap.size w w' := by
 have hB : Byt L := fun x h => ⟨(hx x h).1, by have := (hx x h).2; omega⟩
 rw [u8L_beN L 32 hB hL]
 have hs := beN_lt L hB
 rw [hL] at hs
 have hs2 : beN L < wW := by rw [← wW_eq]; exact hs
 exact evmClashes_walk _ hs2 a w
end Go.Proofs.YtfflppedbopdpaaGreat
