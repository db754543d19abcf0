/- For the laws FnShips and FnQuay: plain facts on ships, their places, their days and what is loaded. -/
import Derived.Test.YtggdcjajiaeklaaDoorShipW
import Derived.Test.YtggdcjajiaeklaaDoorShipX
namespace Go.Proofs.YtggdcjajiaeklaaDoor
open Go.RowKit
theorem some_at {α : Type} [Inhabited α] {l : List α} {i : Nat} (h : i < l.length) : l[i]? = some l[i]! := by
  rw [getElem!_pos l i h]; exact List.getElem?_eq_getElem h
/-- A ship's place is that of its own id. -/
theorem place_at {l : List Ship} (h : areShips l = true) {i : Nat} (hi : i < l.length) : shipPlace l l[i]!.id = i := by
  simp only [areShips, Bool.and_eq_true, Option.isNone_iff_eq_none] at h
  have hb := firstTo_none h.2 i hi
  unfold badShip at hb
  simp only [Bool.not_eq_false', Bool.and_eq_true, decide_eq_true_eq] at hb
  have hp := hb.2.2
  have hnone : firstTo (isAt (l.take i) l[i]!.id) (l.take i).length = none := by
    cases hf : firstTo (isAt (l.take i) l[i]!.id) (l.take i).length with
    | none => rfl
    | some k =>
      unfold shipPlace at hp
      rw [hf] at hp
      simp only [placeOf] at hp
      omega
  have hlt : (l.take i).length = i := by rw [List.length_take]; omega
  rw [hlt] at hnone
  have h0 : firstTo (isAt l l[i]!.id) i = none := firstTo_of_none fun j hj => by
    have := firstTo_none hnone j hj
    unfold isAt at this ⊢
    rwa [List.getElem!_eq_getElem?_getD (l := l.take i), List.getElem?_take_of_lt hj, ← List.getElem!_eq_getElem?_getD] at this
  have h1 := firstTo_hit h0 (show isAt l l[i]!.id i = true by simp [isAt]) l.length hi
  unfold shipPlace
  rw [h1]
  rfl
theorem ids_ne {l : List Ship} (h : areShips l = true) {i j : Nat} (hi : i < l.length) (hj : j < l.length) (e : l[i]!.id = l[j]!.id) : i = j := by
  have h1 := place_at h hi
  have h2 := place_at h hj
  rw [e, h2] at h1
  omega
theorem rota_full {l : List Ship} (h : areShips l = true) (wt : List Int) (d : Nat) {i : Nat} (hi : i < l.length) : Fuller l[i]! (rotaS l wt d)[i]! := by
  have hf := rotaS_fuls (okShips_fits (fun i x hx => areShips_ok h hx)) wt d
  exact hf.2 i _ _ (some_at hi) (some_at (by rw [rotaS_length]; exact hi))
theorem best_may {S : List Ship} {wt : List Int} {d : Nat} : ∀ (k b : Nat), bestTo S wt d k = (b : Int) → mayP S[b]! wt d = true ∧ S[b]!.loaded < S[b]!.holds
  | 0, b, h => by
    have e : bestTo S wt d 0 = -1 := rfl
    omega
  | k + 1, b, h => by
    rw [bestTo_succ] at h
    split at h
    · rename_i ht
      obtain rfl : k = b := by omega
      unfold takes at ht
      simp only [Bool.and_eq_true, decide_eq_true_eq] at ht
      exact ⟨ht.1, ht.2.1⟩
    · exact best_may k b h
theorem mem_daysTo {s : Ship} {l : List Int} {d : Nat} (hm : mayP s l d = true) : ∀ k, d < k → (d : Int) ∈ daysTo s l k
  | 0, h => by omega
  | k + 1, h => by
    by_cases hk : d = k
    · subst hk
      rw [daysTo_yes hm]
      simp
    · have ih := mem_daysTo hm k (by omega)
      cases hq : mayP s l k with
      | true => rw [daysTo_yes hq]; exact List.mem_append_left _ ih
      | false => rw [daysTo_no hq]; exact ih
theorem mayP_full {x y : Ship} (h : Fuller x y) (wt : List Int) (d : Nat) : mayP y wt d = mayP x wt d := by
  obtain ⟨_, b, c, e, _⟩ := h
  unfold mayP
  rw [b, c, e]
theorem ridTo_get (l : List Ship) (D : List Int) : ∀ (k i : Nat), i < k → (ridTo l D k)[i]? = some (ridAt l D[i]!)
  | 0, i, h => by omega
  | k + 1, i, h => by
    rw [ridTo_succ]
    rcases Nat.lt_or_ge i k with h1 | h1
    · rw [List.getElem?_append_left (by rw [ridTo_length]; exact h1)]; exact ridTo_get l D k i h1
    · obtain rfl : i = k := by omega
      rw [List.getElem?_append_right (by rw [ridTo_length]; exact Nat.le_refl _), ridTo_length]
      simp
theorem rotaD_at (l : List Ship) (wt : List Int) {m d : Nat} (h : d < m) : (rotaD l wt m)[d]! = rotaB l wt d := List.getElem!_of_getElem? (rotaD_get l wt m d h)
theorem rotaOK_and {l : List Ship} {wt : List Int} (h : rotaOK l wt = true) : areShips l = true ∧ areWaters wt = true := by
  simpa [rotaOK] using h
theorem quay_ok {l : List Ship} {wt : List Int} (h : rotaOK l wt = true) {i : Nat} (hi : i < l.length) : quayOK l wt l[i]!.id = true ∧ daysP l wt l[i]!.id = daysTo l[i]! wt wt.length := by
  obtain ⟨h1, h2⟩ := rotaOK_and h
  have hq : quayOK l wt l[i]!.id = true := by
    unfold quayOK
    rw [h1, h2, place_at h1 hi]
    simp
  exact ⟨hq, daysP_at hq (place_at h1 hi) (some_at hi)⟩
/-- A day of the rota: free, or a ship's that may lie there. -/
theorem quay_day {l : List Ship} {wt : List Int} (h : rotaOK l wt = true) {d : Nat} (hd : d < wt.length) :
    (quayP l wt)[d]? = some (ridAt l (rotaB l wt d)) ∧ ((rotaB l wt d < 0 ∧ ridAt l (rotaB l wt d) = 0) ∨ (0 ≤ rotaB l wt d ∧ 1 ≤ ridAt l (rotaB l wt d) ∧ ridAt l (rotaB l wt d) ≤ 99 ∧ quayOK l wt (ridAt l (rotaB l wt d)) = true ∧ (d : Int) ∈ daysP l wt (ridAt l (rotaB l wt d)))) := by
  obtain ⟨h1, h2⟩ := rotaOK_and h
  have hr := rotaB_rng l wt d
  refine ⟨?_, ?_⟩
  · unfold quayP
    rw [if_pos h, ridTo_get _ _ _ _ hd, rotaD_at l wt hd]
  · rcases (show rotaB l wt d < 0 ∨ 0 ≤ rotaB l wt d by omega) with hb | hb
    · left
      exact ⟨hb, by unfold ridAt; rw [if_pos hb]⟩
    · right
      obtain ⟨b, hbb⟩ : ∃ b : Nat, rotaB l wt d = b := ⟨(rotaB l wt d).toNat, by omega⟩
      rw [hbb] at hr hb ⊢
      have hbl : b < l.length := by omega
      have e : ridAt l (b : Int) = l[b]!.id := by
        unfold ridAt
        rw [if_neg (by omega), Int.toNat_natCast]
      rw [e]
      have hid := (shipOK_at (areShips_ok h1 (some_at hbl))).1
      obtain ⟨q1, q2⟩ := quay_ok h hbl
      refine ⟨hb, hid.1, hid.2, q1, ?_⟩
      rw [q2]
      refine mem_daysTo ?_ _ hd
      rw [← mayP_full (rota_full h1 wt d hbl) wt d]
      exact (best_may _ _ hbb).1
theorem mem_late {S : List Ship} {x : Int} : ∀ k, x ∈ lateTo S k ↔ ∃ i, i < k ∧ S[i]!.loaded < S[i]!.holds ∧ S[i]!.id = x
  | 0 => by simp [lateTo, loopTo]
  | k + 1 => by
    have ih := mem_late (S := S) (x := x) k
    rw [lateTo_succ]
    split
    · rename_i hk
      rw [List.mem_append, ih]
      constructor
      · rintro (⟨i, h1, h2⟩ | h)
        · exact ⟨i, by omega, h2⟩
        · rw [List.mem_singleton] at h
          exact ⟨k, by omega, hk, h.symm⟩
      · rintro ⟨i, h1, h2, h3⟩
        rcases Nat.lt_or_ge i k with h | h
        · exact Or.inl ⟨i, h, h2, h3⟩
        · obtain rfl : i = k := by omega
          exact Or.inr (by rw [List.mem_singleton]; exact h3.symm)
    · rename_i hk
      rw [ih]
      constructor
      · rintro ⟨i, h1, h2⟩; exact ⟨i, by omega, h2⟩
      · rintro ⟨i, h1, h2, h3⟩
        rcases Nat.lt_or_ge i k with h | h
        · exact ⟨i, h, h2, h3⟩
        · obtain rfl : i = k := by omega
          exact absurd h2 hk
/-- A ship is late if it is not full in the end. -/
theorem late_iff {l : List Ship} {wt : List Int} (h : rotaOK l wt = true) {i : Nat} (hi : i < l.length) : decide (l[i]!.id ∈ lateP l wt) = decide ((rotaS l wt wt.length)[i]!.loaded < l[i]!.holds) := by
  obtain ⟨h1, h2⟩ := rotaOK_and h
  rw [decide_eq_decide]
  unfold lateP
  rw [if_pos h, mem_late]
  have hf := rota_full h1 wt wt.length hi
  constructor
  · rintro ⟨j, hj, h3, h4⟩
    have hg := rota_full h1 wt wt.length hj
    rw [hg.1] at h4
    obtain rfl := ids_ne h1 hj hi h4
    rw [← hf.2.2.2.2.1]
    exact h3
  · intro h3
    exact ⟨i, hi, by rw [hf.2.2.2.2.1]; exact h3, hf.1⟩
theorem load_all {l : List Ship} {wt : List Int} (h : rotaOK l wt = true) {i : Nat} (hi : i < l.length) : loadOK l wt l[i]!.id 4000 = true ∧ loadP l wt l[i]!.id 4000 = (rotaS l wt wt.length)[i]!.loaded := by
  obtain ⟨h1, h2⟩ := rotaOK_and h
  have hq : loadOK l wt l[i]!.id 4000 = true := by
    unfold loadOK
    rw [h, place_at h1 hi]
    simp [inB]
  refine ⟨hq, ?_⟩
  have hm := (rotaOK_len h).2
  unfold loadP
  rw [if_pos hq, place_at h1 hi, Int.toNat_natCast, show min ((4000 : Int) + 1).toNat wt.length = wt.length by omega]
theorem load_rng {l : List Ship} {wt : List Int} (h : rotaOK l wt = true) (d : Nat) {i : Nat} (hi : i < l.length) : 0 ≤ l[i]!.loaded ∧ l[i]!.loaded ≤ (rotaS l wt d)[i]!.loaded ∧ (rotaS l wt d)[i]!.loaded ≤ l[i]!.holds ∧ l[i]!.holds ≤ 3000 := by
  obtain ⟨h1, h2⟩ := rotaOK_and h
  have hf := rota_full h1 wt d hi
  have hs := shipOK_at (areShips_ok h1 (some_at hi))
  obtain ⟨_, _, _, _, e, f, g⟩ := hf
  omega
/-- What is left of the tons when the first k ships are taken off. -/
theorem tons_left {l : List Ship} {wt : List Int} (h : rotaOK l wt = true) : tonsP l wt = sumTo l (rotaS l wt wt.length) l.length := by
  unfold tonsP
  rw [if_pos h, rotaT_sum]
theorem sum_rng {l : List Ship} {wt : List Int} (h : rotaOK l wt = true) (k : Nat) (hk : k ≤ l.length) : 0 ≤ sumTo l (rotaS l wt wt.length) k ∧ sumTo l (rotaS l wt wt.length) k ≤ 3000 * k := by
  obtain ⟨h1, h2⟩ := rotaOK_and h
  exact sumTo_rng (rotaS_fuls (okShips_fits (fun i x hx => areShips_ok h1 hx)) wt wt.length) (fun i x hx => areShips_ok h1 hx) k hk
theorem quay_len {l : List Ship} {wt : List Int} (h : rotaOK l wt = true) : (quayP l wt).length = wt.length := by
  unfold quayP
  rw [if_pos h, ridTo_length]
end Go.Proofs.YtggdcjajiaeklaaDoor
