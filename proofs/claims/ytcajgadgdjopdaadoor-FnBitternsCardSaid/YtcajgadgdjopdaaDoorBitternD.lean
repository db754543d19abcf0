/- Casks of bittern: the bitterest cask and the mean bitterness. -/
import Derived.Test.YtcajgadgdjopdaaDoorBitternB
import Derived.Test.YtcajgadgdjopdaaDoorGcd
namespace Go.Proofs.YtcajgadgdjopdaaDoor
open Go.RowKit
/-- Kilograms and grams of casks: plain sums, bounded. -/
theorem kg_step {l : List Bittern} (h : areBitterns l = true) : ∀ k, k ≤ l.length → (0 ≤ kilosTo l k ∧ kilosTo l k ≤ 10000 * k ∧ 0 ≤ gramsTo l k ∧ gramsTo l k ≤ 10000000 * k) ∧ (k < l.length → kilosTo l (k + 1) = kilosTo l k + l[k]!.kilos ∧ gramsTo l (k + 1) = gramsTo l k + l[k]!.kilos * l[k]!.bitter ∧ 0 ≤ l[k]!.kilos * l[k]!.bitter ∧ l[k]!.kilos * l[k]!.bitter ≤ 10000000) := by
  have hlen := areBitterns_len h
  have key : ∀ k, k ≤ l.length → (0 ≤ kilosTo l k ∧ kilosTo l k ≤ 10000 * k ∧ 0 ≤ gramsTo l k ∧ gramsTo l k ≤ 10000000 * k) → (k < l.length → kilosTo l (k + 1) = kilosTo l k + l[k]!.kilos ∧ gramsTo l (k + 1) = gramsTo l k + l[k]!.kilos * l[k]!.bitter ∧ 0 ≤ l[k]!.kilos * l[k]!.bitter ∧ l[k]!.kilos * l[k]!.bitter ≤ 10000000) := fun k hk hr hlt => by
    have hx : l[k]? = some l[k]! := by rw [getElem!_pos l k hlt]; exact List.getElem?_eq_getElem _
    obtain ⟨_, ⟨h1, h2⟩, ⟨h3, h4⟩⟩ := bitternOK_at (areBitterns_ok h hx)
    have m1 : 0 ≤ l[k]!.kilos * l[k]!.bitter := Int.mul_nonneg h1 h3
    have m2 : l[k]!.kilos * l[k]!.bitter ≤ 10000 * 1000 := Int.mul_le_mul h2 h4 h3 (by omega)
    obtain ⟨p, hp⟩ : ∃ p, l[k]!.kilos * l[k]!.bitter = p := ⟨_, rfl⟩
    rw [kilosTo_succ, gramsTo_succ]
    rw [hp] at m1 m2 ⊢
    have w1 : wrap64 (kilosTo l k + l[k]!.kilos) = kilosTo l k + l[k]!.kilos := by unfold wrap64; omega
    have w2 : wrap64 p = p := by unfold wrap64; omega
    have w3 : wrap64 (gramsTo l k + p) = gramsTo l k + p := by unfold wrap64; omega
    rw [w1, w2, w3]
    exact ⟨rfl, rfl, m1, by omega⟩
  have rng : ∀ k, k ≤ l.length → (0 ≤ kilosTo l k ∧ kilosTo l k ≤ 10000 * k ∧ 0 ≤ gramsTo l k ∧ gramsTo l k ≤ 10000000 * k) := fun k => by
    induction k with
    | zero => intro _; simp [kilosTo, gramsTo, loopTo]
    | succ k ih =>
      intro hk
      have hr := ih (by omega)
      obtain ⟨e1, e2, m1, m2⟩ := key k (by omega) hr (by omega)
      have hx : l[k]? = some l[k]! := by rw [getElem!_pos l k (by omega)]; exact List.getElem?_eq_getElem _
      obtain ⟨_, ⟨h1, h2⟩, _⟩ := bitternOK_at (areBitterns_ok h hx)
      rw [e1, e2]
      push_cast
      omega
  exact fun k hk => ⟨rng k hk, key k hk (rng k hk)⟩
theorem kg_rng {l : List Bittern} (h : areBitterns l = true) : ∃ K G : Nat, kilosTo l l.length = K ∧ gramsTo l l.length = G ∧ K ≤ 80000 ∧ G ≤ 80000000 := by
  have hlen := areBitterns_len h
  obtain ⟨h1, h2, h3, h4⟩ := (kg_step h l.length (Nat.le_refl _)).1
  exact ⟨(kilosTo l l.length).toNat, (gramsTo l l.length).toNat, by omega, by omega, by omega, by omega⟩
def meanOK (l : List Bittern) : Bool := areBitterns l && !(decide (kilosTo l l.length = 0))
def meanN (l : List Bittern) : Int := if meanOK l then (((gramsTo l l.length).toNat / Nat.gcd (gramsTo l l.length).toNat (kilosTo l l.length).toNat : Nat) : Int) else 0
def meanD (l : List Bittern) : Int := if meanOK l then (((kilosTo l l.length).toNat / Nat.gcd (gramsTo l l.length).toNat (kilosTo l l.length).toNat : Nat) : Int) else 0
set_option maxHeartbeats 4000000 in
theorem impl_MeanBitter_any (l : List Bittern) (n : Nat) (hn : l.length = n) (A : Option Addr) (cap : Nat) (w : World) (hl : n ≤ 1048576) (hc : Sl encBittern w w.heap.size A l) :
    Calls Tryd.prog 11 #[.slice A n cap] w fun e w' => e = .returned (.tuple #[.int .i64 (meanN l), .int .i64 (meanD l), .bool (meanOK l)]) ∧ Below w.heap.size w w' := by
  have HC := Lib.hid hc; clear hc
  by_cases hok : meanOK l = true
  · have h1 : areBitterns l = true := by simp [meanOK] at hok; exact hok.1
    have h2 : kilosTo l l.length ≠ 0 := by simp [meanOK] at hok; exact hok.2
    obtain ⟨K, G, hK, hG, hk8, hg8⟩ := kg_rng h1
    have e1 : meanN l = ((G / Nat.gcd G K : Nat) : Int) := by unfold meanN; rw [if_pos hok, hK, hG]; rfl
    have e2 : meanD l = ((K / Nat.gcd G K : Nat) : Int) := by unfold meanD; rw [if_pos hok, hK, hG]; rfl
    rw [e1, e2, hok]
    have hK1 : 1 ≤ K := by rw [hK] at h2; omega
    rw [hn] at hK hG
    have HK := Lib.hid hK
    have HG := Lib.hid hG
    have HT := Lib.hid h1
    have HN := Lib.hid hn
    have k1 : ((K : Int) == 0) = false := beq_eq_false_iff_ne.2 (by omega)
    have k2 : ¬ (K : Int) = 0 := by omega
    obtain ⟨P, hP⟩ : ∃ P, ((G / Nat.gcd G K : Nat) : Int) = P := ⟨_, rfl⟩
    obtain ⟨Q, hQ⟩ : ∃ P, ((K / Nat.gcd G K : Nat) : Int) = P := ⟨_, rfl⟩
    have HR := Lib.hid (fun (W : World) => (reduced_any G K W (by omega) (by omega) hK1))
    rw [hP, hQ] at HR ⊢
    clear hok h1 h2 hK hG e1 e2 hn hP hQ
    go_enter Tryd.func11, Tryd.ntmps11
    go_wp2_with (first
      | (go_at_call 25; refine (amounts_any l n HN.out _ _ _ hl HC.out).mono ?_; rintro e w1 ⟨rfl, hb⟩; rw [HK.out, HG.out]; obtain ⟨p, rfl⟩ := below_gw hb; clear hb)
      | (go_at_call 23; refine (impl_AreBitterns_any l n HN.out _ _ _ hl (HC.out.past (by repeat (first | assumption | exact Below.refl _ _ | apply bl_gw | apply bl_alloc | apply bl_drewN | apply bl_drew)))).mono ?_; rintro e w1 ⟨rfl, hb⟩; rw [HT.out]; obtain ⟨p2, rfl⟩ := below_gw hb; clear hb)
      | (go_at_call 30; refine (HR.out _).mono ?_; rintro e w1 ⟨rfl, hb⟩; obtain ⟨p3, rfl⟩ := below_gw hb; clear hb))
    go_ret3
    exact ⟨rfl, (by repeat (first | assumption | exact Below.refl _ _ | apply bl_gw | apply bl_alloc | apply bl_drewN | apply bl_drew))⟩
  · have e1 : meanN l = 0 := by unfold meanN; rw [if_neg hok]
    have e2 : meanD l = 0 := by unfold meanD; rw [if_neg hok]
    have e3 : meanOK l = false := by simpa using hok
    have e4 : areBitterns l = true → kilosTo l n = 0 := fun h => by
      have := e3
      simp only [meanOK, h, Bool.true_and, Bool.not_eq_false', decide_eq_true_eq] at this
      rw [← hn]; exact this
    rw [e1, e2, e3]
    have H4 := Lib.hid e4
    have HN := Lib.hid hn
    clear hok e1 e2 e3 e4 hn
    obtain ⟨s, hs⟩ : ∃ s, kilosTo l n = s := ⟨_, rfl⟩
    obtain ⟨t, ht⟩ : ∃ s, gramsTo l n = s := ⟨_, rfl⟩
    have HS := Lib.hid hs
    have HG := Lib.hid ht
    clear hs ht
    cases t1 : areBitterns l
    · have HT := Lib.hid t1
      clear t1
      go_enter Tryd.func11, Tryd.ntmps11
      go_wp2_with (first
        | (go_at_call 25; refine (amounts_any l n HN.out _ _ _ hl HC.out).mono ?_; rintro e w1 ⟨rfl, hb⟩; rw [HS.out, HG.out]; obtain ⟨p, rfl⟩ := below_gw hb; clear hb)
        | (go_at_call 23; refine (impl_AreBitterns_any l n HN.out _ _ _ hl (HC.out.past (by repeat (first | assumption | exact Below.refl _ _ | apply bl_gw | apply bl_alloc | apply bl_drewN | apply bl_drew)))).mono ?_; rintro e w1 ⟨rfl, hb⟩; rw [HT.out]; obtain ⟨p2, rfl⟩ := below_gw hb; clear hb))
      go_ret3
      exact ⟨rfl, (by repeat (first | assumption | exact Below.refl _ _ | apply bl_gw | apply bl_alloc | apply bl_drewN | apply bl_drew))⟩
    · have HT := Lib.hid t1
      have hs0 := H4.out t1
      rw [HS.out] at hs0
      subst hs0
      clear t1
      go_enter Tryd.func11, Tryd.ntmps11
      go_wp2_with (first
        | (go_at_call 25; refine (amounts_any l n HN.out _ _ _ hl HC.out).mono ?_; rintro e w1 ⟨rfl, hb⟩; rw [HS.out, HG.out]; obtain ⟨p, rfl⟩ := below_gw hb; clear hb)
        | (go_at_call 23; refine (impl_AreBitterns_any l n HN.out _ _ _ hl (HC.out.past (by repeat (first | assumption | exact Below.refl _ _ | apply bl_gw | apply bl_alloc | apply bl_drewN | apply bl_drew)))).mono ?_; rintro e w1 ⟨rfl, hb⟩; rw [HT.out]; obtain ⟨p2, rfl⟩ := below_gw hb; clear hb))
      go_ret3
      exact ⟨rfl, (by repeat (first | assumption | exact Below.refl _ _ | apply bl_gw | apply bl_alloc | apply bl_drewN | apply bl_drew))⟩
set_option maxHeartbeats 4000000 in
theorem spec_MeanBitter_any (l : List Bittern) (n : Nat) (hn : l.length = n) (A : Option Addr) (cap : Nat) (w : World) (hl : n ≤ 1048576) (hc : Sl encBittern w w.heap.size A l) :
    Calls Tryd.prog 12 #[.slice A n cap] w fun e w' => e = .returned (.tuple #[.int .i64 (meanN l), .int .i64 (meanD l), .bool (meanOK l)]) ∧ Below w.heap.size w w' := by
  have HC := Lib.hid hc; clear hc
  by_cases hok : meanOK l = true
  · have h1 : areBitterns l = true := by simp [meanOK] at hok; exact hok.1
    have h2 : kilosTo l l.length ≠ 0 := by simp [meanOK] at hok; exact hok.2
    obtain ⟨K, G, hK, hG, hk8, hg8⟩ := kg_rng h1
    have e1 : meanN l = ((G / Nat.gcd G K : Nat) : Int) := by unfold meanN; rw [if_pos hok, hK, hG]; rfl
    have e2 : meanD l = ((K / Nat.gcd G K : Nat) : Int) := by unfold meanD; rw [if_pos hok, hK, hG]; rfl
    rw [e1, e2, hok]
    have hK1 : 1 ≤ K := by rw [hK] at h2; omega
    rw [hn] at hK hG
    have HK := Lib.hid hK
    have HG := Lib.hid hG
    have HT := Lib.hid h1
    have HN := Lib.hid hn
    have k1 : ((K : Int) == 0) = false := beq_eq_false_iff_ne.2 (by omega)
    have k2 : ¬ (K : Int) = 0 := by omega
    obtain ⟨P, hP⟩ : ∃ P, ((G / Nat.gcd G K : Nat) : Int) = P := ⟨_, rfl⟩
    obtain ⟨Q, hQ⟩ : ∃ P, ((K / Nat.gcd G K : Nat) : Int) = P := ⟨_, rfl⟩
    have HR := Lib.hid (fun (W : World) => (l2Reduce_any G K W (by omega) (by omega) hK1))
    rw [hP, hQ] at HR ⊢
    clear hok h1 h2 hK hG e1 e2 hn hP hQ
    go_enter Tryd.func12, Tryd.ntmps12
    go_wp2_with (first
      | (go_at_call 28; refine (l15Sums_any l n HN.out _ _ _ hl HC.out).mono ?_; rintro e w1 ⟨rfl, hb⟩; rw [HK.out, HG.out]; obtain ⟨p, rfl⟩ := below_gw hb; clear hb)
      | (go_at_call 27; refine (l15Good_any l n HN.out _ _ _ hl (HC.out.past (by repeat (first | assumption | exact Below.refl _ _ | apply bl_gw | apply bl_alloc | apply bl_drewN | apply bl_drew)))).mono ?_; rintro e w1 ⟨rfl, hb⟩; rw [HT.out]; obtain ⟨p2, rfl⟩ := below_gw hb; clear hb)
      | (go_at_call 31; refine (HR.out _).mono ?_; rintro e w1 ⟨rfl, hb⟩; obtain ⟨p3, rfl⟩ := below_gw hb; clear hb))
    go_ret3
    exact ⟨rfl, (by repeat (first | assumption | exact Below.refl _ _ | apply bl_gw | apply bl_alloc | apply bl_drewN | apply bl_drew))⟩
  · have e1 : meanN l = 0 := by unfold meanN; rw [if_neg hok]
    have e2 : meanD l = 0 := by unfold meanD; rw [if_neg hok]
    have e3 : meanOK l = false := by simpa using hok
    have e4 : areBitterns l = true → kilosTo l n = 0 := fun h => by
      have := e3
      simp only [meanOK, h, Bool.true_and, Bool.not_eq_false', decide_eq_true_eq] at this
      rw [← hn]; exact this
    rw [e1, e2, e3]
    have H4 := Lib.hid e4
    have HN := Lib.hid hn
    clear hok e1 e2 e3 e4 hn
    obtain ⟨s, hs⟩ : ∃ s, kilosTo l n = s := ⟨_, rfl⟩
    obtain ⟨t, ht⟩ : ∃ s, gramsTo l n = s := ⟨_, rfl⟩
    have HS := Lib.hid hs
    have HG := Lib.hid ht
    clear hs ht
    cases t1 : areBitterns l
    · have HT := Lib.hid t1
      clear t1
      go_enter Tryd.func12, Tryd.ntmps12
      go_wp2_with (first
        | (go_at_call 28; refine (l15Sums_any l n HN.out _ _ _ hl HC.out).mono ?_; rintro e w1 ⟨rfl, hb⟩; rw [HS.out, HG.out]; obtain ⟨p, rfl⟩ := below_gw hb; clear hb)
        | (go_at_call 27; refine (l15Good_any l n HN.out _ _ _ hl (HC.out.past (by repeat (first | assumption | exact Below.refl _ _ | apply bl_gw | apply bl_alloc | apply bl_drewN | apply bl_drew)))).mono ?_; rintro e w1 ⟨rfl, hb⟩; rw [HT.out]; obtain ⟨p2, rfl⟩ := below_gw hb; clear hb))
      go_ret3
      exact ⟨rfl, (by repeat (first | assumption | exact Below.refl _ _ | apply bl_gw | apply bl_alloc | apply bl_drewN | apply bl_drew))⟩
    · have HT := Lib.hid t1
      have hs0 := H4.out t1
      rw [HS.out] at hs0
      subst hs0
      clear t1
      go_enter Tryd.func12, Tryd.ntmps12
      go_wp2_with (first
        | (go_at_call 28; refine (l15Sums_any l n HN.out _ _ _ hl HC.out).mono ?_; rintro e w1 ⟨rfl, hb⟩; rw [HS.out, HG.out]; obtain ⟨p, rfl⟩ := below_gw hb; clear hb)
        | (go_at_call 27; refine (l15Good_any l n HN.out _ _ _ hl (HC.out.past (by repeat (first | assumption | exact Below.refl _ _ | apply bl_gw | apply bl_alloc | apply bl_drewN | apply bl_drew)))).mono ?_; rintro e w1 ⟨rfl, hb⟩; rw [HT.out]; obtain ⟨p2, rfl⟩ := below_gw hb; clear hb))
      go_ret3
      exact ⟨rfl, (by repeat (first | assumption | exact Below.refl _ _ | apply bl_gw | apply bl_alloc | apply bl_drewN | apply bl_drew))⟩
end Go.Proofs.YtcajgadgdjopdaaDoor
