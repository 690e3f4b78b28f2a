/-
  Plain facts on texts of bytes: what they are read as, and that a text is read as what it tells.
-/
import Derived.Test.YtaoacfkifcglfaaDoorJoin
namespace Go.Proofs.YtaoacfkifcglfaaDoor
open Go.RowKit Go.Mun

def u8s (l : List Int) : List UInt8 := l.map fun n => UInt8.ofNat n.toNat
def hexBody (s : List UInt8) : Option (List UInt8) := if s.take 2 = [48, 120] ∧ (s.drop 2).all isHex = true then some (s.drop 2) else none
def wordFits (r : List UInt8) : Bool := decide (1 ≤ r.length) && (decide (r.length ≤ 64) && (decide (r.length ≤ 1) || decide (r.head? ≠ some 48)))
def padW (r : List UInt8) : List Int := joinL (List.replicate (64 - r.length) 0 ++ r.map hv)
def hexWord (s : List UInt8) : Option (List Int) := (hexBody s).bind fun r => if wordFits r = true then some (padW r) else none
def hexRead (s : List UInt8) : Option (List Int) := (hexBody s).bind fun r => if r.length % 2 = 0 then some (joinL (r.map hv)) else none
def hexAddr (s : List UInt8) : Option (List Int) := (hexRead s).bind fun b => if b.length = 20 then some b else none

theorem strOf_u8s (l : List Int) : (strOf l).data.toList = u8s l := strOf_data l
theorem u8s_append (l m : List Int) : u8s (l ++ m) = u8s l ++ u8s m := by simp [u8s]
theorem u8s_len (l : List Int) : (u8s l).length = l.length := by simp [u8s]

theorem dig_u8 (d : Int) (h0 : 0 ≤ d) (h1 : d ≤ 15) : isHex (UInt8.ofNat (dig d).toNat) = true ∧ hv (UInt8.ofNat (dig d).toNat) = d := by
  obtain ⟨n, rfl⟩ := Int.eq_ofNat_of_zero_le h0
  have : ∀ n : Fin 16, isHex (UInt8.ofNat (dig (n.1 : Int)).toNat) = true ∧ hv (UInt8.ofNat (dig (n.1 : Int)).toNat) = (n.1 : Int) := by decide
  exact this ⟨n, by omega⟩
set_option maxRecDepth 100000 in
theorem hex_dig (b : UInt8) (h : isHex b = true) : 0 ≤ hv b ∧ hv b ≤ 15 ∧ UInt8.ofNat (dig (hv b)).toNat = b := by
  have : ∀ n : Fin 256, isHex (UInt8.ofNat n.1) = true → 0 ≤ hv (UInt8.ofNat n.1) ∧ hv (UInt8.ofNat n.1) ≤ 15 ∧ UInt8.ofNat (dig (hv (UInt8.ofNat n.1))).toNat = UInt8.ofNat n.1 := by decide
  have e : UInt8.ofNat b.toNat = b := by simp
  have := this ⟨b.toNat, b.toNat_lt⟩
  simp only [e] at this
  exact this h

/-- The nibbles of bytes. -/
def nibs (L : List Int) : List Int := L.flatMap fun x => [x / 16, x % 16]
theorem digT_nibs (L : List Int) : digT L = (nibs L).map dig := by
  induction L with
  | nil => rfl
  | cons x L ih => simp only [digT, nibs, List.flatMap_cons, List.map_append] at *; rw [ih]; rfl
theorem nibs_range (L : List Int) (h : ∀ x ∈ L, 0 ≤ x ∧ x ≤ 255) : ∀ y ∈ nibs L, 0 ≤ y ∧ y ≤ 15 := by
  intro y hy
  unfold nibs at hy
  rw [List.mem_flatMap] at hy
  obtain ⟨x, hx, hy⟩ := hy
  have := h x hx
  simp at hy
  omega
theorem join_nibs (L : List Int) : joinL (nibs L) = L := by
  induction L with
  | nil => rfl
  | cons x L ih =>
    show joinL (x / 16 :: x % 16 :: nibs L) = x :: L
    rw [joinL, ih]; congr 1; omega
theorem nibs_len (L : List Int) : (nibs L).length = 2 * L.length := by
  induction L with
  | nil => rfl
  | cons x L ih => simp [nibs] at ih ⊢; omega
theorem u8s_digT_hex (L : List Int) (h : ∀ x ∈ L, 0 ≤ x ∧ x ≤ 255) : (u8s (digT L)).all isHex = true := by
  rw [digT_nibs, List.all_eq_true]
  intro b hb
  simp only [u8s, List.map_map, List.mem_map, Function.comp] at hb
  obtain ⟨y, hy, rfl⟩ := hb
  have := nibs_range L h y hy
  exact (dig_u8 y this.1 this.2).1
theorem u8s_digT_hv (L : List Int) (h : ∀ x ∈ L, 0 ≤ x ∧ x ≤ 255) : (u8s (digT L)).map hv = nibs L := by
  rw [digT_nibs]
  simp only [u8s, List.map_map]
  conv => rhs; rw [← List.map_id (nibs L)]
  apply List.map_congr_left
  intro y hy
  have := nibs_range L h y hy
  exact (dig_u8 y this.1 this.2).2
theorem digT_join (m : Nat) : ∀ (h : List Int), h.length = 2 * m → (∀ x ∈ h, 0 ≤ x ∧ x ≤ 15) → digT (joinL h) = h.map dig := by
  induction m with
  | zero => intro h hl _; have := List.eq_nil_of_length_eq_zero (by omega : h.length = 0); subst this; rfl
  | succ m ih =>
    intro h hl hr
    match h, hl with
    | x :: y :: r, hl =>
      have hx := hr x (by simp)
      have hy := hr y (by simp)
      simp only [joinL]
      have e : digT ((16 * x + y) :: joinL r) = [dig ((16 * x + y) / 16), dig ((16 * x + y) % 16)] ++ digT (joinL r) := by simp [digT]
      rw [e, ih r (by simp at hl; omega) (fun z hz => hr z (by simp [hz]))]
      rw [show (16 * x + y) / 16 = x by omega, show (16 * x + y) % 16 = y by omega]
      rfl
theorem u8s_dig_hv (r : List UInt8) (h : r.all isHex = true) : u8s ((r.map hv).map dig) = r := by
  simp only [u8s, List.map_map]
  conv => rhs; rw [← List.map_id r]
  apply List.map_congr_left
  intro b hb
  exact (hex_dig b (List.all_eq_true.1 h b hb)).2.2

theorem hexRead_text (L : List Int) (h : ∀ x ∈ L, 0 ≤ x ∧ x ≤ 255) : hexRead (u8s (textL L)) = some L := by
  have e : u8s (textL L) = [48, 120] ++ u8s (digT L) := by unfold textL; rw [u8s_append]; rfl
  unfold hexRead hexBody
  rw [e]
  have t : ([48, 120] ++ u8s (digT L)).take 2 = [48, 120] := rfl
  have d : ([48, 120] ++ u8s (digT L)).drop 2 = u8s (digT L) := rfl
  rw [t, d, if_pos ⟨rfl, u8s_digT_hex L h⟩]
  simp only [Option.bind_some]
  rw [if_pos (by rw [u8s_len, digT_len]; omega), u8s_digT_hv L h, join_nibs]
theorem hexAddr_text (L : List Int) (h : ∀ x ∈ L, 0 ≤ x ∧ x ≤ 255) (hl : L.length = 20) : hexAddr (u8s (textL L)) = some L := by
  unfold hexAddr
  rw [hexRead_text L h]
  simp [hl]

def coreB (r : List UInt8) : List UInt8 := r.dropWhile (· == 48)
theorem coreB_split (r : List UInt8) : r = List.replicate (r.length - (coreB r).length) 48 ++ coreB r ∧ (coreB r).length ≤ r.length ∧ (coreB r).head? ≠ some 48 := by
  induction r with
  | nil => exact ⟨rfl, Nat.le_refl _, by simp [coreB]⟩
  | cons x r ih =>
    unfold coreB at *
    rw [List.dropWhile_cons]
    by_cases hx : x = 48
    · subst hx
      simp only [beq_self_eq_true, if_true]
      obtain ⟨h1, h2, h3⟩ := ih
      refine ⟨?_, by simp; omega, h3⟩
      have e : (48 :: r).length - (List.dropWhile (· == 48) r).length = (r.length - (List.dropWhile (· == 48) r).length) + 1 := by simp; omega
      rw [e, List.replicate_succ, List.cons_append, ← h1]
    · have : (x == 48) = false := by simp [hx]
      rw [this]
      simp [hx]
theorem u8s_core (L : List Int) (h : ∀ x ∈ L, 0 ≤ x ∧ x ≤ 255) : u8s (coreL L) = coreB (u8s (digT L)) := by
  have := trim_str (digT L) (digT_range L h)
  rw [strOf_data] at this
  exact this.symm
theorem u8s_short (L : List Int) (h : ∀ x ∈ L, 0 ≤ x ∧ x ≤ 255) : u8s (shortL L) = [48, 120] ++ if coreB (u8s (digT L)) = [] then [48] else coreB (u8s (digT L)) := by
  unfold shortL
  rw [u8s_append, ← u8s_core L h]
  have : (u8s (coreL L) = []) ↔ coreL L = [] := by simp [u8s]
  by_cases hc : coreL L = []
  · rw [if_pos hc, if_pos (this.2 hc)]; rfl
  · rw [if_neg hc, if_neg (fun e => hc (this.1 e))]; rfl
theorem hexBody_cons (r : List UInt8) : hexBody ([48, 120] ++ r) = if r.all isHex = true then some r else none := by
  unfold hexBody
  have t : ([48, 120] ++ r).take 2 = [48, 120] := rfl
  have d : ([48, 120] ++ r).drop 2 = r := rfl
  rw [t, d]; simp
theorem hexBody_inv {s r : List UInt8} (h : hexBody s = some r) : s = [48, 120] ++ r ∧ r.all isHex = true := by
  unfold hexBody at h
  split at h
  · rename_i hc
    have : s.drop 2 = r := by simpa using h
    refine ⟨?_, by rw [← this]; exact hc.2⟩
    rw [← this, ← hc.1, List.take_append_drop]
  · cases h
theorem hv48 : hv 48 = 0 := by decide
theorem pad_core (L : List Int) (hl : L.length = 32) (h : ∀ x ∈ L, 0 ≤ x ∧ x ≤ 255) : padW (if coreB (u8s (digT L)) = [] then [48] else coreB (u8s (digT L))) = L := by
  have hlen : (u8s (digT L)).length = 64 := by rw [u8s_len, digT_len]; omega
  obtain ⟨h1, h2, h3⟩ := coreB_split (u8s (digT L))
  have e0 : joinL ((u8s (digT L)).map hv) = L := by rw [u8s_digT_hv L h, join_nibs]
  unfold padW
  by_cases hc : coreB (u8s (digT L)) = []
  · rw [if_pos hc]
    rw [hc] at h1
    rw [h1, hlen] at e0
    simp only [List.length_nil, Nat.sub_zero, List.append_nil, List.map_replicate, hv48] at e0
    simp only [List.length_singleton, List.map_cons, List.map_nil, hv48]
    exact e0
  · rw [if_neg hc]
    rw [hlen] at h1
    generalize coreB (u8s (digT L)) = c at *
    rw [h1, List.map_append, List.map_replicate, hv48] at e0
    exact e0
theorem short_fits (r : List UInt8) (hl : r.length ≤ 64) : wordFits (if coreB r = [] then [48] else coreB r) = true := by
  obtain ⟨h1, h2, h3⟩ := coreB_split r
  by_cases hc : coreB r = []
  · rw [if_pos hc]; rfl
  · rw [if_neg hc]
    have : 1 ≤ (coreB r).length := by
      cases h : coreB r with
      | nil => exact absurd h hc
      | cons _ _ => simp
    unfold wordFits
    simp only [Bool.and_eq_true, Bool.or_eq_true, decide_eq_true_eq]
    exact ⟨this, by omega, .inr h3⟩
theorem hexWord_short (L : List Int) (hl : L.length = 32) (h : ∀ x ∈ L, 0 ≤ x ∧ x ≤ 255) : hexWord (u8s (shortL L)) = some L := by
  rw [u8s_short L h]
  unfold hexWord
  have hh := u8s_digT_hex L h
  have hlen : (u8s (digT L)).length = 64 := by rw [u8s_len, digT_len]; omega
  have hall : (if coreB (u8s (digT L)) = [] then [48] else coreB (u8s (digT L))).all isHex = true := by
    split
    · decide
    · rw [List.all_eq_true] at hh ⊢
      intro b hb
      exact hh b ((List.dropWhile_sublist _).subset hb)
  rw [hexBody_cons, if_pos hall]
  simp only [Option.bind_some]
  rw [if_pos (short_fits _ (by omega)), pad_core L hl h]

theorem joinL_range : ∀ (m : Nat) (h : List Int), h.length = 2 * m → (∀ x ∈ h, 0 ≤ x ∧ x ≤ 15) → ∀ x ∈ joinL h, 0 ≤ x ∧ x ≤ 255
  | 0, h, hl, _ => by
    have : h = [] := List.eq_nil_of_length_eq_zero (by omega)
    subst this; simp [joinL]
  | m + 1, x :: y :: r, hl, hr => by
    have hx := hr x (by simp)
    have hy := hr y (by simp)
    intro z hz
    simp only [joinL, List.mem_cons] at hz
    rcases hz with rfl | hz
    · omega
    · exact joinL_range m r (by simp at hl; omega) (fun w hw => hr w (by simp [hw])) z hz
  | m + 1, [], hl, _ => by simp at hl
  | m + 1, [_], hl, _ => by simp at hl; omega
/-- What the reference reads as a word. -/
def refWord (s : List UInt8) : Option (List Int) :=
  if 3 ≤ s.length ∧ s.length ≤ 66 ∧ s.take 2 = [48, 120] then
    (hexRead ([48, 120] ++ (List.replicate (66 - s.length) 48 ++ s.drop 2))).bind fun b => if u8s (shortL b) = s then some b else none
  else none
theorem padW_range (r : List UInt8) (hr : r.all isHex = true) (hl : r.length ≤ 64) : (padW r).length = 32 ∧ ∀ x ∈ padW r, 0 ≤ x ∧ x ≤ 255 := by
  have hlen : (List.replicate (64 - r.length) (0 : Int) ++ r.map hv).length = 2 * 32 := by simp; omega
  have hran : ∀ x ∈ List.replicate (64 - r.length) (0 : Int) ++ r.map hv, 0 ≤ x ∧ x ≤ 15 := by
    intro x hx
    rcases List.mem_append.1 hx with h | h
    · have := List.eq_of_mem_replicate h; omega
    · obtain ⟨b, hb, rfl⟩ := List.mem_map.1 h
      have := hex_dig b (List.all_eq_true.1 hr b hb)
      omega
  exact ⟨joinL_len 32 _ hlen, joinL_range 32 _ hlen hran⟩
theorem digT_padW (r : List UInt8) (hr : r.all isHex = true) (hl : r.length ≤ 64) : u8s (digT (padW r)) = List.replicate (64 - r.length) 48 ++ r := by
  have hlen : (List.replicate (64 - r.length) (0 : Int) ++ r.map hv).length = 2 * 32 := by simp; omega
  have hran : ∀ x ∈ List.replicate (64 - r.length) (0 : Int) ++ r.map hv, 0 ≤ x ∧ x ≤ 15 := by
    intro x hx
    rcases List.mem_append.1 hx with h | h
    · have := List.eq_of_mem_replicate h; omega
    · obtain ⟨b, hb, rfl⟩ := List.mem_map.1 h
      have := hex_dig b (List.all_eq_true.1 hr b hb)
      omega
  unfold padW
  rw [digT_join 32 _ hlen hran, List.map_append, u8s_append, u8s_dig_hv r hr, List.map_replicate]
  congr 1
  simp only [u8s, List.map_replicate]
  rfl
theorem coreB_pad (k : Nat) (r : List UInt8) : coreB (List.replicate k 48 ++ r) = coreB r := by
  induction k with
  | zero => rfl
  | succ k ih => rw [List.replicate_succ, List.cons_append]; unfold coreB at *; rw [List.dropWhile_cons]; simp [ih]
theorem core_fits (r : List UInt8) (h1 : 1 ≤ r.length) (h2 : r.length ≤ 64) : ((if coreB r = [] then [48] else coreB r) = r) ↔ wordFits r = true := by
  constructor
  · intro h
    rw [← h]; exact short_fits r h2
  · intro h
    unfold wordFits at h
    simp only [Bool.and_eq_true, Bool.or_eq_true, decide_eq_true_eq] at h
    obtain ⟨_, _, h⟩ := h
    match r, h1 with
    | [c], _ =>
      by_cases hc : c = 48
      · subst hc; rfl
      · have : coreB [c] = [c] := by simp [coreB, hc]
        rw [this]; simp
    | c :: d :: r, _ =>
      have hc : c ≠ 48 := by
        rcases h with h | h
        · simp at h
        · simpa using h
      have : coreB (c :: d :: r) = c :: d :: r := by simp [coreB, hc]
      rw [this]; simp
theorem refWord_eq (s : List UInt8) : refWord s = hexWord s := by
  unfold refWord
  by_cases hc : 3 ≤ s.length ∧ s.length ≤ 66 ∧ s.take 2 = [48, 120]
  · rw [if_pos hc]
    obtain ⟨h1, h2, h3⟩ := hc
    obtain ⟨r, rfl⟩ : ∃ r, s = [48, 120] ++ r := ⟨s.drop 2, by rw [← h3, List.take_append_drop]⟩
    have hl : r.length ≤ 64 := by simp at h2; omega
    have hl1 : 1 ≤ r.length := by simp at h1; omega
    have e1 : 66 - ([48, 120] ++ r).length = 64 - r.length := by simp
    have e2 : ([48, 120] ++ r).drop 2 = r := rfl
    rw [e1, e2]
    unfold hexRead hexWord
    rw [hexBody_cons, hexBody_cons]
    have e3 : (List.replicate (64 - r.length) 48 ++ r).all isHex = r.all isHex := by
      rw [List.all_append]
      have : (List.replicate (64 - r.length) (48 : UInt8)).all isHex = true := by
        rw [List.all_eq_true]; intro b hb; rw [List.eq_of_mem_replicate hb]; decide
      rw [this]; rfl
    rw [e3]
    by_cases hr : r.all isHex = true
    · rw [if_pos hr, if_pos hr]
      simp only [Option.bind_some]
      have e4 : (List.replicate (64 - r.length) (48 : UInt8) ++ r).length % 2 = 0 := by simp; omega
      rw [if_pos e4]
      have e5 : joinL ((List.replicate (64 - r.length) 48 ++ r).map hv) = padW r := by
        unfold padW; rw [List.map_append, List.map_replicate, hv48]
      rw [e5]
      simp only [Option.bind_some]
      obtain ⟨p1, p2⟩ := padW_range r hr hl
      have e6 : u8s (shortL (padW r)) = [48, 120] ++ (if coreB r = [] then [48] else coreB r) := by
        rw [u8s_short _ p2, digT_padW r hr hl, coreB_pad]
      have e7 : (u8s (shortL (padW r)) = [48, 120] ++ r) ↔ wordFits r = true := by
        rw [e6, List.append_cancel_left_eq]
        exact core_fits r hl1 hl
      by_cases hf : wordFits r = true
      · rw [if_pos (e7.2 hf), if_pos hf]
      · rw [if_neg (fun h => hf (e7.1 h)), if_neg hf]
    · rw [if_neg hr, if_neg hr]; rfl
  · rw [if_neg hc]
    unfold hexWord
    cases hb : hexBody s with
    | none => rfl
    | some r =>
      obtain ⟨rfl, hr⟩ := hexBody_inv hb
      simp only [Option.bind_some]
      have : ¬ wordFits r = true := by
        intro hf
        unfold wordFits at hf
        simp only [Bool.and_eq_true, Bool.or_eq_true, decide_eq_true_eq] at hf
        exact hc ⟨by simp; omega, by simp; omega, rfl⟩
      rw [if_neg this]

/-- How many digits a number has. -/
def nhex : Nat → Nat → Nat
  | 0, _ => 0
  | f + 1, n => if n ≤ 15 then 1 else nhex f (n / 16) + 1

/-- The digits of a number, the greatest first. -/
def hexD (k N : Nat) : List Int := (List.range k).map fun i => ((N / 16 ^ (k - 1 - i) % 16 : Nat) : Int)
theorem hexD_succ (k a : Nat) : hexD (k + 1) a = ((a / 16 ^ k % 16 : Nat) : Int) :: hexD k a := by
  apply List.ext_getElem (by simp [hexD])
  intro i h1 h2
  cases i with
  | zero => simp [hexD]
  | succ i => simp only [hexD, List.getElem_cons_succ, List.getElem_map, List.getElem_range]; congr 4; omega
theorem nibs_be (k N : Nat) : nibs (be k N) = hexD (2 * k) N := by
  induction k with
  | zero => rfl
  | succ k ih =>
    rw [be_succ]
    have e : nibs (((N / 256 ^ k % 256 : Nat) : Int) :: be k N) = [((N / 256 ^ k % 256 : Nat) : Int) / 16, ((N / 256 ^ k % 256 : Nat) : Int) % 16] ++ nibs (be k N) := by simp [nibs]
    rw [e, ih, show 2 * (k + 1) = 2 * k + 1 + 1 by omega, hexD_succ, hexD_succ]
    have p1 : 16 ^ (2 * k) = 256 ^ k := by rw [Nat.pow_mul]
    have p2 : 16 ^ (2 * k + 1) = 256 ^ k * 16 := by rw [Nat.pow_succ, p1]
    rw [p1, p2, ← Nat.div_div_eq_div_mul]
    generalize N / 256 ^ k = x
    have q1 : ((x % 256 : Nat) : Int) / 16 = ((x / 16 % 16 : Nat) : Int) := by omega
    have q2 : ((x % 256 : Nat) : Int) % 16 = ((x % 16 : Nat) : Int) := by omega
    rw [q1, q2]
    rfl
theorem drop_len (k : Nat) : ∀ N, N < 16 ^ k → ∀ f, k ≤ f → ((hexD k N).dropWhile (· == 0)).length = if N = 0 then 0 else nhex f N := by
  induction k with
  | zero =>
    intro N hN f _
    have : N = 0 := by simpa using hN
    subst this; rfl
  | succ k ih =>
    intro N hN f hf
    rw [hexD_succ, List.dropWhile_cons]
    by_cases hlt : N < 16 ^ k
    · rw [Nat.div_eq_of_lt hlt]
      simp only [Nat.zero_mod]
      have : (((0 : Nat) : Int) == 0) = true := rfl
      rw [this, if_pos rfl]
      exact ih N hlt f (by omega)
    · have hp : 0 < 16 ^ k := Nat.pow_pos (by decide)
      have h1 : 1 ≤ N / 16 ^ k := (Nat.le_div_iff_mul_le hp).2 (by omega)
      have h2 : N / 16 ^ k < 16 := by rw [Nat.div_lt_iff_lt_mul hp]; rw [Nat.pow_succ] at hN; omega
      rw [Nat.mod_eq_of_lt h2]
      have hne : (((N / 16 ^ k : Nat) : Int) == 0) = false := by rw [beq_eq_false_iff_ne]; omega
      rw [hne]
      simp only [Bool.false_eq_true, if_false]
      rw [if_neg (by omega)]
      have hlen : (hexD k N).length = k := by simp [hexD]
      rw [List.length_cons, hlen]
      have key : ∀ k N f, 16 ^ k ≤ N → N < 16 ^ (k + 1) → k < f → nhex f N = k + 1 := by
        intro k
        induction k with
        | zero => intro N f a b c; obtain ⟨g, rfl⟩ : ∃ g, f = g + 1 := ⟨f - 1, by omega⟩; simp [nhex]; simp at b; omega
        | succ k ih =>
          intro N f a b c
          obtain ⟨g, rfl⟩ : ∃ g, f = g + 1 := ⟨f - 1, by omega⟩
          have hp : 0 < 16 ^ k := Nat.pow_pos (by decide)
          simp only [nhex]
          rw [if_neg (by rw [Nat.pow_succ] at a; omega), ih (N / 16) g (by rw [Nat.pow_succ] at a; omega) (by rw [Nat.pow_succ] at b; omega) (by omega)]
      exact (key k N f (by omega) hN (by omega)).symm
theorem coreL_nibs (L : List Int) (h : ∀ x ∈ L, 0 ≤ x ∧ x ≤ 255) : (coreL L).length = ((nibs L).dropWhile (· == 0)).length := by
  unfold coreL
  rw [digT_nibs]
  have hr := nibs_range L h
  generalize nibs L = l at *
  induction l with
  | nil => rfl
  | cons y l ih =>
    have hy := hr y (by simp)
    rw [List.map_cons, List.dropWhile_cons, List.dropWhile_cons]
    have e : (dig y == 48) = (y == 0) := by
      rw [Bool.eq_iff_iff]; simp only [beq_iff_eq]; unfold dig; split <;> omega
    rw [e]
    split
    · exact ih (fun z hz => hr z (by simp [hz]))
    · simp
theorem be_range (k N : Nat) : ∀ x ∈ be k N, 0 ≤ x ∧ x ≤ 255 := by
  intro x hx
  simp only [be, List.mem_map] at hx
  obtain ⟨i, _, rfl⟩ := hx
  omega
theorem nhex_pos (f n : Nat) : 1 ≤ nhex (f + 1) n := by unfold nhex; split <;> omega
theorem short_len (n : Nat) (hn : n < 9223372036854775808) : (shortL (be 32 n)).length = 2 + nhex 64 n := by
  have h64 : n < 16 ^ 64 := Nat.lt_of_lt_of_le hn (by decide)
  have e : (coreL (be 32 n)).length = if n = 0 then 0 else nhex 64 n := by
    rw [coreL_nibs _ (be_range 32 n), nibs_be]
    exact drop_len 64 n h64 64 (Nat.le_refl _)
  unfold shortL
  by_cases h0 : n = 0
  · subst h0
    rw [if_pos rfl] at e
    rw [if_pos (List.eq_nil_of_length_eq_zero e)]
    rfl
  · rw [if_neg h0] at e
    have : coreL (be 32 n) ≠ [] := by
      intro hc
      rw [hc] at e
      exact absurd (show nhex (63 + 1) n = 0 from e.symm) (by have := nhex_pos 63 n; omega)
    rw [if_neg this, List.length_append, e]
    rfl
end Go.Proofs.YtaoacfkifcglfaaDoor
