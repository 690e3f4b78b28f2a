/-
  Contracts of hex.halves, hex.Read, hex.Word, hex.Addr.
-/
import Derived.Test.YtaoacfkifcglfaaDoorHexP
import Derived.Test.YtaoacfkifcglfaaDoorArr
namespace Go.Proofs.YtaoacfkifcglfaaDoor
open Go.RowKit Go.Mun
attribute [local irreducible] be beC zU8

/-- What halves tells of a text. -/
structure HalvesR (s : List UInt8) (base : Nat) (e : Ending) (w' : World) : Prop where
  good : ∀ r, hexBody s = some r → ∃ v, e = .returned (.tuple #[v, .bool true]) ∧ w'.ownsRow base 5 1 v r.length ((r.map hv).map (Value.int .u8))
  bad : hexBody s = none → ∃ v, e = .returned (.tuple #[v, .bool false])

theorem prefix_take (s : List UInt8) : Lib.hasPrefix s [48, 120] = decide (s.take 2 = [48, 120]) := by
  unfold Lib.hasPrefix
  rw [Bool.eq_iff_iff, List.isPrefixOf_iff_prefix, List.prefix_iff_eq_take]
  simp [eq_comm]

theorem halves (s : ByteArray) (hs : s.size ≤ 1099511627776) (w : World) :
    Calls Tryd.prog 41 #[.string s] w fun e w' => HalvesR s.data.toList w.heap.size e w' ∧ Below w.heap.size w w' := by
  have hl : s.data.toList.length = s.size := rfl
  refine (halves_of s ⟨(Lib.trimPrefix s.data.toList [48, 120]).toArray⟩ (Lib.hasPrefix s.data.toList [48, 120]) (fun wx => Tryd.strings_CutPrefix s ⟨#[48, 120]⟩ wx) ?_ w).mono ?_
  · have : (Lib.trimPrefix s.data.toList [48, 120]).length ≤ s.data.toList.length := by
      unfold Lib.trimPrefix; split <;> simp
    show (Lib.trimPrefix s.data.toList [48, 120]).toArray.size ≤ _
    rw [List.size_toArray]; omega
  · rintro e w' ⟨h, hb⟩
    refine ⟨⟨fun r hr => ?_, fun hr => ?_⟩, hb⟩
    · obtain ⟨h1, h2⟩ := hexBody_inv hr
      have hp : Lib.hasPrefix s.data.toList [48, 120] = true := by rw [prefix_take, h1]; rfl
      have ht : Lib.trimPrefix s.data.toList [48, 120] = r := by unfold Lib.trimPrefix; rw [if_pos hp, h1]; rfl
      rw [ht, hp] at h
      exact h.good h2
    · unfold hexBody at hr
      by_cases hp : s.data.toList.take 2 = [48, 120]
      · have hp' : Lib.hasPrefix s.data.toList [48, 120] = true := by rw [prefix_take]; simpa using hp
        have ht : Lib.trimPrefix s.data.toList [48, 120] = s.data.toList.drop 2 := by unfold Lib.trimPrefix; rw [if_pos hp']; rfl
        rw [ht, hp'] at h
        have : (s.data.toList.drop 2).all isHex = false := by
          cases hx : (s.data.toList.drop 2).all isHex with
          | false => rfl
          | true => rw [if_pos ⟨hp, hx⟩] at hr; cases hr
        exact ⟨_, h.bad this⟩
      · have hp' : Lib.hasPrefix s.data.toList [48, 120] = false := by rw [prefix_take]; simpa using hp
        rw [hp'] at h
        cases hx : (Lib.trimPrefix s.data.toList [48, 120]).all isHex with
        | true => obtain ⟨v, hv, _⟩ := h.good hx; exact ⟨v, hv⟩
        | false => exact ⟨_, h.bad hx⟩

structure ReadR (o : Option (List Int)) (base : Nat) (e : Ending) (w' : World) : Prop where
  good : ∀ b, o = some b → ∃ v, e = .returned (.tuple #[v, .int .i64 0]) ∧ w'.ownsRow base 5 1 v b.length (b.map (Value.int .u8))
  bad : o = none → e = .returned (.tuple #[.slice none 0 0, .int .i64 2])

theorem hexBody_len {s r : List UInt8} (h : hexBody s = some r) : r.length ≤ s.length := by
  obtain ⟨rfl, _⟩ := hexBody_inv h; simp; omega
theorem hv_range (r : List UInt8) (h : r.all isHex = true) (i : Nat) (hi : i < (r.map hv).length) : 0 ≤ (r.map hv)[i]?.getD 0 ∧ (r.map hv)[i]?.getD 0 ≤ 15 := by
  rw [List.getElem?_eq_getElem hi]
  simp only [List.getElem_map, Option.getD_some]
  have := hex_dig _ (List.all_eq_true.1 h _ (List.getElem_mem (by simpa using hi : i < r.length)))
  omega

set_option maxRecDepth 10000 in
set_option maxHeartbeats 400000 in
theorem hex_read (s : ByteArray) (hs : s.size ≤ 1099511627776) (w : World) :
    Calls Tryd.prog 18 #[.string s] w fun e w' => ReadR (hexRead s.data.toList) w.heap.size e w' ∧ Below w.heap.size w w' := by
  have HS := Lib.hid hs
  clear hs
  cases hbody : hexBody s.data.toList with
  | none =>
    have HR := Lib.hid (show hexRead s.data.toList = none by unfold hexRead; rw [hbody]; rfl)
    have HB := Lib.hid hbody
    clear hbody
    go_enter Tryd.func18, Tryd.ntmps18
    go_wp2_with fail
    refine (halves s HS.out _).mono ?_
    rintro e w1 ⟨hr, hb⟩
    obtain ⟨v, rfl⟩ := hr.bad HB.out
    clear hr
    have H1 := Lib.hid hb
    clear hb
    go_wp2
    go_ret2
    exact ⟨⟨fun b h => (by rw [HR.out] at h; cases h), fun _ => rfl⟩, H1.out⟩
  | some r =>
    obtain ⟨hsr, hall⟩ := hexBody_inv hbody
    have hlr := hexBody_len hbody
    have hsz : s.data.toList.length = s.size := rfl
    have h40 : r.length ≤ 1099511627776 := by have := HS.out; omega
    have HR0 := Lib.hid (show hexRead s.data.toList = if r.length % 2 = 0 then some (joinL (r.map hv)) else none by unfold hexRead; rw [hbody]; rfl)
    have HB := Lib.hid hbody
    have HA := Lib.hid hall
    clear hbody hall hsr hlr hsz
    go_enter Tryd.func18, Tryd.ntmps18
    go_wp2_with fail
    refine (halves s HS.out _).mono ?_
    rintro e w1 ⟨hr, hb⟩
    obtain ⟨v, rfl, ho⟩ := hr.good r HB.out
    clear hr
    obtain ⟨a, c, rfl, hn, hI⟩ := Ints.of_own' ho
    clear ho hn
    have HI := Lib.hid hI
    have H1 := Lib.hid hb
    clear hI hb
    obtain ⟨n, hn⟩ : ∃ n, n = r.length := ⟨_, rfl⟩
    rw [← hn] at h40 ⊢
    by_cases hev : n % 2 = 0
    · obtain ⟨m, hm⟩ : ∃ m, n = 2 * m := ⟨n / 2, by omega⟩
      have HR := Lib.hid (show hexRead s.data.toList = some (joinL (r.map hv)) by rw [HR0.out, ← hn, if_pos hev])
      have HM := Lib.hid (show (r.map hv).length = 2 * m by simp; omega)
      have HN := Lib.hid (show n = (r.map hv).length by simp; omega)
      have hmod : ((n : Int) % 2 != 0) = false := by simp; omega
      have hmod2 : ((n : Int) % 2 == 0) = true := by simp; omega
      have HJ := Lib.hid (joinL_len m (r.map hv) HM.out)
      clear hn hev hm
      go_wp2_with fail
      refine (join a n c m (r.map hv) HN.out HM.out _ HI.out (hv_range r HA.out) (by have := HN.out; omega)).mono ?_
      rintro e w2 ⟨⟨v, rfl, ho⟩, hb2⟩
      have HO := Lib.hid ho
      have H2 := Lib.hid hb2
      clear ho hb2
      go_wp2
      go_ret2
      refine ⟨⟨fun b h => ⟨v, rfl, ?_⟩, fun h => by rw [HR.out] at h; cases h⟩, H1.out.trans (H2.out.mono H1.out.size)⟩
      rw [HR.out] at h
      cases h
      rw [HJ.out]
      exact ownsRow_mono HO.out H1.out.size
    · have HR := Lib.hid (show hexRead s.data.toList = none by rw [HR0.out, ← hn, if_neg hev])
      have hmod : ((n : Int) % 2 != 0) = true := by simp; omega
      have hmod2 : ((n : Int) % 2 == 0) = false := by simp; omega
      clear hn hev
      go_wp2
      go_ret2
      exact ⟨⟨fun b h => (by rw [HR.out] at h; cases h), fun _ => rfl⟩, H1.out⟩
end Go.Proofs.YtaoacfkifcglfaaDoor
