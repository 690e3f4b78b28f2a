/-
  The accounts to play with, of the program and of the reference: contracts.
-/
import Derived.Test.YtaoacfkifcglfaaWord
namespace Go.Proofs.Ytaoacfkifcglfaa
open Go.RowKit Go.Mun

attribute [local irreducible] be beC zU8 ofW

def acctC (a : Nat) (nonce : Int) (bal : Nat) (code slots : Value) : List Value := beC 20 a ++ ([Value.int .i64 nonce] ++ (beC 32 bal ++ [code, slots]))
def codeV : List Int := [96, 0, 53, 96, 32, 53, 85]
def K18 : Nat := ofW 1000000000000000000

/-- Account i as it lies in memory. -/
def GA (w : World) (i : Nat) (cs : List Value) : Prop :=
  ∃ cv, cs = acctC (i + 1) 0 K18 cv (.slice none 0 0) ∧
    (((i + 1) % 3 = 0 ∧ ∃ g, cv = .slice (some ⟨g, 0, none⟩) 7 7 ∧ w.heap[g]? = some (.cells (codeV.map (Value.int .u8)).toArray 5 (0, 0))) ∨ (¬ (i + 1) % 3 = 0 ∧ cv = .slice none 0 0))

structure AccRel (B k : Nat) (w wr : World) (v : Value) : Prop where
  below : Below B w wr
  css : ∃ css : List (List Value), css.length = k ∧ wr.ownsRow B 54 55 v k css.flatten ∧ ∀ i cs, css[i]? = some cs → GA wr i cs

theorem acctC_ok (a : Nat) (n : Int) (b : Nat) (c s : Value) (hc : c.oneCell' = true) (hs : s.oneCell' = true) : okL 55 (acctC a n b c s) = true :=
  okL_append (beC_ok 20 a) (okL_append (n := 1) (m := 34) rfl (okL_append (n := 32) (m := 2) (beC_ok 32 b) (okL_mk rfl (by intro v hv; simp at hv; rcases hv with rfl | rfl <;> assumption))))

theorem lay_mid (X Y Z C : List Value) (n : Nat) (hn : X.length = n) (hY : Y.length = C.length) : lay (X ++ (Y ++ Z)) n C = X ++ (C ++ Z) := by
  rw [lay_eq _ _ _ (by simp; omega)]
  unfold splice
  rw [List.take_left' hn, ← hY, ← List.append_assoc X Y Z, List.drop_left' (by simp [hn])]
theorem acct_lay (A B : List Value) (hA : A.length = 20) (hB : B.length = 32) : lay (lay acctZ 0 A) 21 B = A ++ ([Value.int .i64 0] ++ (B ++ [.slice none 0 0, .slice none 0 0])) := by
  have h1 : lay acctZ 0 A = A ++ ([Value.int .i64 0] ++ (zU8 32 ++ [Value.slice none 0 0, .slice none 0 0])) :=
    lay_mid [] (zU8 20) _ A 0 rfl (by simp [hA])
  have h2 := lay_mid (A ++ [Value.int .i64 0]) (zU8 32) [Value.slice none 0 0, .slice none 0 0] B 21 (by simp [hA]) (by simp [hB])
  rw [h1, ← List.append_assoc, h2, List.append_assoc]
theorem acct_code (A B : List Value) (hA : A.length = 20) (hB : B.length = 32) (c0 c s : Value) : lay (A ++ ([Value.int .i64 0] ++ (B ++ [c0, s]))) 53 [c] = A ++ ([Value.int .i64 0] ++ (B ++ [c, s])) := by
  have h2 := lay_mid (A ++ ([Value.int .i64 0] ++ B)) [c0] [s] [c] 53 (by simp [hA, hB]) rfl
  simpa using h2

theorem acct_nocode (a b : Nat) : lay (lay acctZ 0 (beC 20 a)) 21 (beC 32 b) = acctC a 0 b (.slice none 0 0) (.slice none 0 0) := acct_lay _ _ (beC_len _ _) (beC_len _ _)
theorem acct_full (a b : Nat) (c : Value) : lay (lay (lay acctZ 0 (beC 20 a)) 21 (beC 32 b)) 53 [c] = acctC a 0 b c (.slice none 0 0) := by
  rw [acct_nocode]; exact acct_code _ _ (beC_len _ _) (beC_len _ _) _ _ _

theorem GA.below {w w' : World} {i : Nat} {cs : List Value} (h : GA w i cs) (hb : Below w.heap.size w w') : GA w' i cs := by
  obtain ⟨cv, h1, h2⟩ := h
  refine ⟨cv, h1, ?_⟩
  rcases h2 with ⟨h3, g, h4, h5⟩ | h2
  · exact .inl ⟨h3, g, h4, by rw [hb.block g (Array.getElem?_eq_some_iff.1 h5).1]; exact h5⟩
  · exact .inr h2

theorem GA.grown {w w' : World} {i : Nat} {cs : List Value} {B n : Nat} {v : Value} {xs : List Value} (h : GA w i cs) (ho : w.ownsRow B 54 55 v n xs) (hg : w.grownBy w' v.ownBlock) : GA w' i cs := by
  obtain ⟨cv, h1, h2⟩ := h
  refine ⟨cv, h1, ?_⟩
  rcases h2 with ⟨h3, g, h4, h5⟩ | h2
  · refine .inl ⟨h3, g, h4, ?_⟩
    rw [hg.block g (Array.getElem?_eq_some_iff.1 h5).1 ?_]
    · exact h5
    · intro e
      obtain ⟨cur, hc⟩ := ownsRow_type ho e.symm
      rw [h5] at hc
      simp at hc
  · exact .inr h2

/-- One account more. -/
theorem AccRel.step {B k : Nat} {w wr W w' : World} {v v' : Value} {css : List (List Value)} {cs : List Value} (h1 : Below B w wr) (h2 : css.length = k) (h3 : W.ownsRow B 54 55 v k css.flatten) (h4 : ∀ i cs, css[i]? = some cs → GA wr i cs)
    (hb : Below wr.heap.size wr W) (hB : B ≤ wr.heap.size) (ho : w'.ownsRow B 54 55 v' (k + 1) (css.flatten ++ cs)) (hg : W.grownBy w' v.ownBlock) (hc : GA W k cs) : AccRel B (k + 1) w w' v' := by
  refine ⟨(h1.trans (hb.mono hB)).grown hg (Nat.le_trans hB hb.size) (fun j hj => (h3.lt j hj).1), css ++ [cs], by simp [h2], by simpa using ho, fun i cs' hi => ?_⟩
  rw [List.getElem?_append] at hi
  split at hi
  · exact ((h4 i cs' hi).below hb).grown h3 hg
  · rename_i hlt
    have : i = k := by
      rcases Nat.lt_or_ge (i - css.length) 1 with h | h
      · omega
      · rw [List.getElem?_eq_none (by simpa using h)] at hi; cases hi
    subst this
    have : cs' = cs := by rw [h2] at hi; simpa using hi.symm
    subst this
    exact hc.grown h3 hg

theorem gen_cut (n m : Int) (w : World) : Calls Try.prog 21 #[.int .i64 n, .int .i64 m] w fun e w' => e = .returned (.int .i64 (min (max 0 n) m)) ∧ w = w' := by
  go_enter Try.func21, Try.ntmps21
  go_wp2
  all_goals (go_ret; exact ⟨ret_int (by first | omega | (split at * <;> omega)), rfl⟩)

set_option maxRecDepth 100000 in
set_option maxHeartbeats 800000 in
theorem gen_accounts (n : Int) (m : Nat) (w : World) (hm : min (max 0 n) 100 = (m : Int)) :
    Calls Try.prog 16 #[.int .i64 n] w fun e w' => ∃ v, e = .returned v ∧ AccRel w.heap.size m w w' v := by
  have hm100 : m ≤ 100 := by omega
  go_enter Try.func16, Try.ntmps16
  go_wp2_with fail
  refine (gen_cut n 100 _).mono ?_
  rintro e w' ⟨rfl, rfl⟩
  rw [hm]
  clear hm
  go_wp2_with fail
  go_loopw [3, 8] (fun v i wr => ∃ k : Nat, k ≤ m ∧ i = .int .i64 k ∧ AccRel w.heap.size k w wr v) (fun _ i _ => m - (intOf i).toNat)
  case atStart => exact ⟨0, by omega, rfl, Below.refl _ _, [], rfl, World.ownsRow_nil _ _ _ _, by simp⟩
  case round =>
    obtain ⟨k, hk, rfl, hr⟩ := hrel
    by_cases hlt : k < m
    · obtain ⟨hbr, css, hcl, hown, hga⟩ := hr
      have sr := hbr.size
      have HO := Lib.hid hown
      have HG := Lib.hid hga
      have HC := Lib.hid hcl
      clear hown hga hcl
      by_cases h3 : (k + 1) % 3 = 0
      · have h3' : (((k : Int) + 1) % 3 == 0) = true := by simp; omega
        go_wp2_with fail
        refine (gen_addr _ _).mono ?_
        rintro e w1 ⟨rfl, hb1⟩
        go_wp2_with fail
        refine (word_of _ (by decide) (by decide) _).mono ?_
        rintro e w2 ⟨rfl, hb2⟩
        rw [show ofW 1000000000000000000 = K18 from rfl]
        have s1 := hb1.size
        have s2 := hb2.size
        have ek : (((k : Int) + 1) % 256).toNat = k + 1 := by omega
        have hb12 := hb1.trans (hb2.mono s1)
        go_wp2_with (at_builtin; go_must (refine wpList_append_at (base := w.heap.size) (n := k) (xs := css.flatten) elem35 rfl _ _ rfl rfl rfl ?own ?c0 ?c1 ?c3 ?c4 ?c5 ?_))
        case own =>
          refine ownsRow_below HO.out ?_
          exact (((hb12.alloc (by omega) _).setCells (by omega) _ _).setCell (by simp; omega) _).alloc (by simp; omega) _
        case c0 => simp
        case c1 => rw [Nat.one_mul, acct_full]; exact acctC_ok _ _ _ _ _ rfl rfl
        case c3 => unfold maxLen; omega
        case c4 => omega
        case c5 => simp; omega
        intro v' w' ho hg _
        have hbw : Below wr.heap.size wr ((((w2.alloc (Obj.cells acctZ.toArray 54)).setCells w2.heap.size 0 (lay (lay acctZ 0 (beC 20 (k + 1))) 21 (beC 32 K18))).setCell
            { block := w2.heap.size, off := 53 } (Value.slice (some { block := w2.heap.size + 1, off := 0 }) 7 7)).alloc (Obj.cells (codeV.map (Value.int .u8)).toArray 5)) :=
          (((hb12.alloc (by omega) _).setCells (by omega) _ _).setCell (by simp; omega) _).alloc (by simp; omega) _
        rw [acct_full] at ho
        have HS := AccRel.step hbr HC.out (ownsRow_below HO.out hbw) HG.out hbw sr ho hg ⟨_, rfl, .inl ⟨h3, _, rfl, by
          have := heap_alloc_new (((w2.alloc (Obj.cells acctZ.toArray 54)).setCells w2.heap.size 0 (lay (lay acctZ 0 (beC 20 (k + 1))) 21 (beC 32 K18))).setCell
            { block := w2.heap.size, off := 53 } (Value.slice (some { block := w2.heap.size + 1, off := 0 }) 7 7)) (Obj.cells (codeV.map (Value.int .u8)).toArray 5)
          simpa using this⟩⟩
        have HS' := Lib.hid HS
        clear HS ho hg hbw hb12 s1 s2 hb1 hb2
        go_wp2
        go_roundw
        case rel => exact ⟨k + 1, by omega, by go_num, HS'.out⟩
        case measure => simp [intOf]; omega
      · have h3' : (((k : Int) + 1) % 3 == 0) = false := by simp; omega
        go_wp2_with fail
        refine (gen_addr _ _).mono ?_
        rintro e w1 ⟨rfl, hb1⟩
        go_wp2_with fail
        refine (word_of _ (by decide) (by decide) _).mono ?_
        rintro e w2 ⟨rfl, hb2⟩
        rw [show ofW 1000000000000000000 = K18 from rfl]
        have s1 := hb1.size
        have s2 := hb2.size
        have ek : (((k : Int) + 1) % 256).toNat = k + 1 := by omega
        have hb12 := hb1.trans (hb2.mono s1)
        go_wp2_with (at_builtin; go_must (refine wpList_append_at (base := w.heap.size) (n := k) (xs := css.flatten) elem35 rfl _ _ rfl rfl rfl ?own ?c0 ?c1 ?c3 ?c4 ?c5 ?_))
        case own => exact ownsRow_below HO.out ((hb12.alloc (by omega) _).setCells (by omega) _ _)
        case c0 => simp
        case c1 => rw [Nat.one_mul, acct_nocode]; exact acctC_ok _ _ _ _ _ rfl rfl
        case c3 => unfold maxLen; omega
        case c4 => omega
        case c5 => simp; omega
        intro v' w' ho hg _
        have hbw : Below wr.heap.size wr ((w2.alloc (Obj.cells acctZ.toArray 54)).setCells w2.heap.size 0 (lay (lay acctZ 0 (beC 20 (k + 1))) 21 (beC 32 K18))) :=
          (hb12.alloc (by omega) _).setCells (by omega) _ _
        rw [acct_nocode] at ho
        have HS := AccRel.step hbr HC.out (ownsRow_below HO.out hbw) HG.out hbw sr ho hg ⟨_, rfl, .inr ⟨h3, rfl⟩⟩
        have HS' := Lib.hid HS
        clear HS ho hg hbw hb12 s1 s2 hb1 hb2
        go_wp2
        go_roundw
        case rel => exact ⟨k + 1, by omega, by go_num, HS'.out⟩
        case measure => simp [intOf]; omega
    · obtain rfl : k = m := by omega
      go_wp2
      go_ret
      exact ⟨_, rfl, hr⟩

theorem ref_name (n : Int) (w : World) :
    Calls Try.prog 25 #[.int .i64 n] w fun e w' => e = .returned (.agg (beC 20 (n % 256).toNat).toArray) ∧ Below w.heap.size w w' := by
  obtain ⟨m, hm⟩ : ∃ m : Nat, n % 256 = (m : Int) := ⟨(n % 256).toNat, by omega⟩
  have hm2 : bits .and .i64 n 255 % 256 = (m : Int) := by rw [and_255]; omega
  have H := Lib.hid (be_small 20 m (by decide) (by omega))
  go_enter Try.func25, Try.ntmps25
  go_wp2
  refine ret_row ty47 rfl _ rfl rfl (by simp [go_sem]) (by simp [go_sem]) ⟨?_, ?_⟩
  · rw [H.out, hm]; rfl
  · exact (((Below.refl _ _).alloc (Nat.le_refl _) _).alloc (by simp) _).setCells (Nat.le_refl _) _ _

set_option maxRecDepth 100000 in
set_option maxHeartbeats 800000 in
theorem ref_accounts_n (n0 : Int) (m : Nat) (w : World) (hm : min (max 0 n0) 100 = (m : Int)) :
    Calls Try.prog 18 #[.int .i64 n0] w fun e w' => ∃ v, e = .returned v ∧ AccRel w.heap.size m w w' v := by
  obtain ⟨n, hn⟩ : ∃ n : Int, n = min n0 100 := ⟨_, rfl⟩
  have hn1 : n ≤ 100 := by omega
  have hm1 : (0 ≤ n ∧ n = (m : Int)) ∨ (n < 0 ∧ m = 0) := by omega
  have hm100 : m ≤ 100 := by omega
  by_cases h100 : 100 < n0
  · have hn2 : n = 100 := by omega
    have hmm1 : m ≤ 100 := by omega
    have hmm2 : 100 ≤ m := by omega
    clear hm hn hn1 hm1 hn2
    go_enter Try.func18, Try.ntmps18
    go_wp2_with fail
    go_loopw [3, 4] (fun v i wr => ∃ k : Nat, k ≤ m ∧ i = .int .i64 ((k : Int) + 1) ∧ AccRel w.heap.size k w wr v) (fun _ i _ => m + 1 - (intOf i).toNat)
    case atStart => exact ⟨0, by omega, rfl, Below.refl _ _, [], rfl, World.ownsRow_nil _ _ _ _, by simp⟩
    case round =>
      obtain ⟨k, hk, rfl, hr⟩ := hrel
      by_cases hlt : k < m
      · have hle : (k : Int) + 1 ≤ 100 := by omega
        obtain ⟨hbr, css, hcl, hown, hga⟩ := hr
        have sr := hbr.size
        have HO := Lib.hid hown
        have HG := Lib.hid hga
        have HC := Lib.hid hcl
        clear hown hga hcl
        by_cases h3 : (k + 1) % 3 = 0
        · have h3' : (((k : Int) + 1) % 3 == 0) = true := by simp; omega
          go_wp2_with fail
          refine (ref_name _ _).mono ?_
          rintro e w1 ⟨rfl, hb1⟩
          go_wp2_with fail
          refine (ref_of _ (by decide) (by decide) _).mono ?_
          rintro e w2 ⟨rfl, hb2⟩
          rw [show ofW 1000000000000000000 = K18 from rfl]
          have s1 := hb1.size
          have s2 := hb2.size
          have ek : (((k : Int) + 1) % 256).toNat = k + 1 := by omega
          have hb12 := hb1.trans (hb2.mono s1)
          go_wp2_with (at_builtin; go_must (refine wpList_append_at (base := w.heap.size) (n := k) (xs := css.flatten) elem35 rfl _ _ rfl rfl rfl ?own ?c0 ?c1 ?c3 ?c4 ?c5 ?_))
          case own =>
            refine ownsRow_below HO.out ?_
            exact (((hb12.alloc (by omega) _).setCells (by omega) _ _).setCell (by simp; omega) _).alloc (by simp; omega) _
          case c0 => simp
          case c1 => rw [Nat.one_mul, acct_full]; exact acctC_ok _ _ _ _ _ rfl rfl
          case c3 => unfold maxLen; omega
          case c4 => omega
          case c5 => simp; omega
          intro v' w' ho hg _
          have hbw : Below wr.heap.size wr ((((w2.alloc (Obj.cells acctZ.toArray 54)).setCells w2.heap.size 0 (lay (lay acctZ 0 (beC 20 (k + 1))) 21 (beC 32 K18))).setCell
              { block := w2.heap.size, off := 53 } (Value.slice (some { block := w2.heap.size + 1, off := 0 }) 7 7)).alloc (Obj.cells (codeV.map (Value.int .u8)).toArray 5)) :=
            (((hb12.alloc (by omega) _).setCells (by omega) _ _).setCell (by simp; omega) _).alloc (by simp; omega) _
          rw [acct_full] at ho
          have HS := AccRel.step hbr HC.out (ownsRow_below HO.out hbw) HG.out hbw sr ho hg ⟨_, rfl, .inl ⟨h3, _, rfl, by
            have := heap_alloc_new (((w2.alloc (Obj.cells acctZ.toArray 54)).setCells w2.heap.size 0 (lay (lay acctZ 0 (beC 20 (k + 1))) 21 (beC 32 K18))).setCell
              { block := w2.heap.size, off := 53 } (Value.slice (some { block := w2.heap.size + 1, off := 0 }) 7 7)) (Obj.cells (codeV.map (Value.int .u8)).toArray 5)
            simpa using this⟩⟩
          have HS' := Lib.hid HS
          clear HS ho hg hbw hb12 s1 s2 hb1 hb2
          go_wp2
          go_roundw
          case rel => exact ⟨k + 1, by omega, by go_num, HS'.out⟩
          case measure => simp [intOf]; omega
        · have h3' : (((k : Int) + 1) % 3 == 0) = false := by simp; omega
          go_wp2_with fail
          refine (ref_name _ _).mono ?_
          rintro e w1 ⟨rfl, hb1⟩
          go_wp2_with fail
          refine (ref_of _ (by decide) (by decide) _).mono ?_
          rintro e w2 ⟨rfl, hb2⟩
          rw [show ofW 1000000000000000000 = K18 from rfl]
          have s1 := hb1.size
          have s2 := hb2.size
          have ek : (((k : Int) + 1) % 256).toNat = k + 1 := by omega
          have hb12 := hb1.trans (hb2.mono s1)
          go_wp2_with (at_builtin; go_must (refine wpList_append_at (base := w.heap.size) (n := k) (xs := css.flatten) elem35 rfl _ _ rfl rfl rfl ?own ?c0 ?c1 ?c3 ?c4 ?c5 ?_))
          case own => exact ownsRow_below HO.out ((hb12.alloc (by omega) _).setCells (by omega) _ _)
          case c0 => simp
          case c1 => rw [Nat.one_mul, acct_nocode]; exact acctC_ok _ _ _ _ _ rfl rfl
          case c3 => unfold maxLen; omega
          case c4 => omega
          case c5 => simp; omega
          intro v' w' ho hg _
          have hbw : Below wr.heap.size wr ((w2.alloc (Obj.cells acctZ.toArray 54)).setCells w2.heap.size 0 (lay (lay acctZ 0 (beC 20 (k + 1))) 21 (beC 32 K18))) :=
            (hb12.alloc (by omega) _).setCells (by omega) _ _
          rw [acct_nocode] at ho
          have HS := AccRel.step hbr HC.out (ownsRow_below HO.out hbw) HG.out hbw sr ho hg ⟨_, rfl, .inr ⟨h3, rfl⟩⟩
          have HS' := Lib.hid HS
          clear HS ho hg hbw hb12 s1 s2 hb1 hb2
          go_wp2
          go_roundw
          case rel => exact ⟨k + 1, by omega, by go_num, HS'.out⟩
          case measure => simp [intOf]; omega
      · have hle : ¬ (k : Int) + 1 ≤ 100 := by omega
        obtain rfl : k = m := by omega
        go_wp2
        go_ret
        exact ⟨_, rfl, hr⟩
  · obtain rfl : n = n0 := by omega
    clear hm hn
    go_enter Try.func18, Try.ntmps18
    go_wp2_with fail
    go_loopw [3, 4] (fun v i wr => ∃ k : Nat, k ≤ m ∧ i = .int .i64 ((k : Int) + 1) ∧ AccRel w.heap.size k w wr v) (fun _ i _ => m + 1 - (intOf i).toNat)
    case atStart => exact ⟨0, by omega, rfl, Below.refl _ _, [], rfl, World.ownsRow_nil _ _ _ _, by simp⟩
    case round =>
      obtain ⟨k, hk, rfl, hr⟩ := hrel
      by_cases hlt : k < m
      · have hle : (k : Int) + 1 ≤ n := by omega
        obtain ⟨hbr, css, hcl, hown, hga⟩ := hr
        have sr := hbr.size
        have HO := Lib.hid hown
        have HG := Lib.hid hga
        have HC := Lib.hid hcl
        clear hown hga hcl
        by_cases h3 : (k + 1) % 3 = 0
        · have h3' : (((k : Int) + 1) % 3 == 0) = true := by simp; omega
          go_wp2_with fail
          refine (ref_name _ _).mono ?_
          rintro e w1 ⟨rfl, hb1⟩
          go_wp2_with fail
          refine (ref_of _ (by decide) (by decide) _).mono ?_
          rintro e w2 ⟨rfl, hb2⟩
          rw [show ofW 1000000000000000000 = K18 from rfl]
          have s1 := hb1.size
          have s2 := hb2.size
          have ek : (((k : Int) + 1) % 256).toNat = k + 1 := by omega
          have hb12 := hb1.trans (hb2.mono s1)
          go_wp2_with (at_builtin; go_must (refine wpList_append_at (base := w.heap.size) (n := k) (xs := css.flatten) elem35 rfl _ _ rfl rfl rfl ?own ?c0 ?c1 ?c3 ?c4 ?c5 ?_))
          case own =>
            refine ownsRow_below HO.out ?_
            exact (((hb12.alloc (by omega) _).setCells (by omega) _ _).setCell (by simp; omega) _).alloc (by simp; omega) _
          case c0 => simp
          case c1 => rw [Nat.one_mul, acct_full]; exact acctC_ok _ _ _ _ _ rfl rfl
          case c3 => unfold maxLen; omega
          case c4 => omega
          case c5 => simp; omega
          intro v' w' ho hg _
          have hbw : Below wr.heap.size wr ((((w2.alloc (Obj.cells acctZ.toArray 54)).setCells w2.heap.size 0 (lay (lay acctZ 0 (beC 20 (k + 1))) 21 (beC 32 K18))).setCell
              { block := w2.heap.size, off := 53 } (Value.slice (some { block := w2.heap.size + 1, off := 0 }) 7 7)).alloc (Obj.cells (codeV.map (Value.int .u8)).toArray 5)) :=
            (((hb12.alloc (by omega) _).setCells (by omega) _ _).setCell (by simp; omega) _).alloc (by simp; omega) _
          rw [acct_full] at ho
          have HS := AccRel.step hbr HC.out (ownsRow_below HO.out hbw) HG.out hbw sr ho hg ⟨_, rfl, .inl ⟨h3, _, rfl, by
            have := heap_alloc_new (((w2.alloc (Obj.cells acctZ.toArray 54)).setCells w2.heap.size 0 (lay (lay acctZ 0 (beC 20 (k + 1))) 21 (beC 32 K18))).setCell
              { block := w2.heap.size, off := 53 } (Value.slice (some { block := w2.heap.size + 1, off := 0 }) 7 7)) (Obj.cells (codeV.map (Value.int .u8)).toArray 5)
            simpa using this⟩⟩
          have HS' := Lib.hid HS
          clear HS ho hg hbw hb12 s1 s2 hb1 hb2
          go_wp2
          go_roundw
          case rel => exact ⟨k + 1, by omega, by go_num, HS'.out⟩
          case measure => simp [intOf]; omega
        · have h3' : (((k : Int) + 1) % 3 == 0) = false := by simp; omega
          go_wp2_with fail
          refine (ref_name _ _).mono ?_
          rintro e w1 ⟨rfl, hb1⟩
          go_wp2_with fail
          refine (ref_of _ (by decide) (by decide) _).mono ?_
          rintro e w2 ⟨rfl, hb2⟩
          rw [show ofW 1000000000000000000 = K18 from rfl]
          have s1 := hb1.size
          have s2 := hb2.size
          have ek : (((k : Int) + 1) % 256).toNat = k + 1 := by omega
          have hb12 := hb1.trans (hb2.mono s1)
          go_wp2_with (at_builtin; go_must (refine wpList_append_at (base := w.heap.size) (n := k) (xs := css.flatten) elem35 rfl _ _ rfl rfl rfl ?own ?c0 ?c1 ?c3 ?c4 ?c5 ?_))
          case own => exact ownsRow_below HO.out ((hb12.alloc (by omega) _).setCells (by omega) _ _)
          case c0 => simp
          case c1 => rw [Nat.one_mul, acct_nocode]; exact acctC_ok _ _ _ _ _ rfl rfl
          case c3 => unfold maxLen; omega
          case c4 => omega
          case c5 => simp; omega
          intro v' w' ho hg _
          have hbw : Below wr.heap.size wr ((w2.alloc (Obj.cells acctZ.toArray 54)).setCells w2.heap.size 0 (lay (lay acctZ 0 (beC 20 (k + 1))) 21 (beC 32 K18))) :=
            (hb12.alloc (by omega) _).setCells (by omega) _ _
          rw [acct_nocode] at ho
          have HS := AccRel.step hbr HC.out (ownsRow_below HO.out hbw) HG.out hbw sr ho hg ⟨_, rfl, .inr ⟨h3, rfl⟩⟩
          have HS' := Lib.hid HS
          clear HS ho hg hbw hb12 s1 s2 hb1 hb2
          go_wp2
          go_roundw
          case rel => exact ⟨k + 1, by omega, by go_num, HS'.out⟩
          case measure => simp [intOf]; omega
      · have hle : ¬ (k : Int) + 1 ≤ n := by omega
        obtain rfl : k = m := by omega
        go_wp2
        go_ret
        exact ⟨_, rfl, hr⟩
end Go.Proofs.Ytaoacfkifcglfaa
