/- For the law FnQuay: plain facts on the needed water, on loads from day to day, and on a ship that is sent. -/
import Derived.Test.YtggdcjajiaeklaaDoorLawShipA
import Derived.Test.YtggdcjajiaeklaaDoorShipN
import Derived.Test.YtggdcjajiaeklaaDoorShipYS
namespace Go.Proofs.YtggdcjajiaeklaaDoor
open Go.RowKit
theorem needOK_and {l : List Ship} (h : needOK l = true) : areShips l = true ∧ lastTo l l.length ≤ 400 := by
  simpa [needOK] using h
theorem ships_ok {l : List Ship} (h : areShips l = true) : ∀ (i : Nat) (x : Ship), l[i]? = some x → shipOK x = true := fun _ _ hx => areShips_ok h hx
theorem need_len {l : List Ship} (h : needOK l = true) : (needP l).length = (lastTo l l.length).toNat := by
  unfold needP
  rw [if_pos h, needTo_length]
theorem need_at {l : List Ship} (h : needOK l = true) {d : Nat} (hd : d < (lastTo l l.length).toNat) : (needP l)[d]! = mostTo l d l.length := by
  unfold needP
  rw [if_pos h]
  unfold needTo
  rw [List.getElem!_eq_getElem?_getD, List.getElem?_map, List.getElem?_range hd]
  rfl
theorem need_water {l : List Ship} (h : needOK l = true) : rotaOK l (needP l) = true := by
  obtain ⟨h1, h2⟩ := needOK_and h
  have hl := lastTo_rng (ships_ok h1) l.length (Nat.le_refl _)
  unfold rotaOK
  rw [h1, Bool.true_and]
  unfold areWaters
  rw [need_len h, Bool.and_eq_true, decide_eq_true_eq, Option.isNone_iff_eq_none]
  refine ⟨by omega, firstTo_of_none fun i hi => ?_⟩
  unfold badWater
  rw [need_at h hi]
  have := mostTo_rng (ships_ok h1) i l.length (Nat.le_refl _)
  rw [inB_mk (by omega) (by omega)]
  rfl
theorem most_ge {l : List Ship} {d i : Nat} (hn : needs l[i]! d = true) : ∀ k, i < k → l[i]!.draft ≤ mostTo l d k
  | 0, h => by omega
  | k + 1, h => by
    rw [mostTo_succ]
    by_cases e : i = k
    · subst e
      rw [if_pos hn]
      omega
    · have := most_ge hn k (by omega)
      split <;> omega
theorem days_len {s : Ship} {wt : List Int} {c e L : Nat} (hc : s.come = c) (he : s.leave = e) (hw : ∀ d, c ≤ d → d < e → d < L → s.draft ≤ wt[d]!) : ∀ k, k ≤ L → (daysTo s wt k).length = min k e - c
  | 0, _ => by simp [daysTo, loopTo]
  | k + 1, hk => by
    have ih := days_len hc he hw k (by omega)
    by_cases h : c ≤ k ∧ k < e
    · have hm : mayP s wt k = true := by
        unfold mayP
        rw [hc, he, inB_mk (by omega) (by omega), decide_eq_true (hw k h.1 h.2 (by omega))]
        rfl
      rw [daysTo_yes hm, List.length_append, ih, List.length_singleton]
      omega
    · have hm : mayP s wt k = false := by
        unfold mayP
        rw [hc, he, inB_no (by omega)]
        rfl
      rw [daysTo_no hm, ih]
      omega
/-- With the needed water a ship that is not full may lie on each of its days. -/
theorem need_days {l : List Ship} (h : needOK l = true) {i : Nat} (hi : i < l.length) : quayOK l (needP l) l[i]!.id = true ∧ (l[i]!.loaded < l[i]!.holds → ((daysP l (needP l) l[i]!.id).length : Int) = l[i]!.leave - l[i]!.come) := by
  obtain ⟨h1, h2⟩ := needOK_and h
  obtain ⟨q1, q2⟩ := quay_ok (need_water h) hi
  refine ⟨q1, fun hf => ?_⟩
  have hs := shipOK_at (areShips_ok h1 (some_at hi))
  have hl := lastTo_rng (ships_ok h1) l.length (Nat.le_refl _)
  have hle := hl.2.2 i hi
  rw [q2, need_len h, days_len (c := l[i]!.come.toNat) (e := l[i]!.leave.toNat) (L := (lastTo l l.length).toNat) (by omega) (by omega) (fun d hd1 hd2 hd3 => by
    rw [need_at h hd3]
    refine most_ge ?_ _ hi
    unfold needs
    rw [inB_mk (by omega) (by omega), decide_eq_true hf]
    rfl) _ (Nat.le_refl _)]
  omega
theorem loadS_step {S : List Ship} {p : Nat} (b : Int) (hp : p < S.length) (hf : S[p]!.loaded ≤ S[p]!.holds) : S[p]!.loaded ≤ (loadS S b)[p]!.loaded ∧ (loadS S b)[p]!.loaded ≤ S[p]!.loaded + 300 := by
  unfold loadS
  split
  · rw [List.getElem!_eq_getElem?_getD (l := S.set _ _), List.getElem?_set]
    by_cases e : b.toNat = p
    · subst e
      rw [if_pos rfl, if_pos hp]
      simp only [Option.getD_some, topUp]
      omega
    · rw [if_neg e, ← List.getElem!_eq_getElem?_getD]
      omega
  · omega
theorem load_next {l : List Ship} {wt : List Int} {id d : Int} (h1 : loadOK l wt id d = true) (h2 : loadOK l wt id (d + 1) = true) : loadP l wt id d ≤ loadP l wt id (d + 1) ∧ loadP l wt id (d + 1) ≤ loadP l wt id d + 300 := by
  have h1' := h1
  unfold loadOK at h1'
  simp only [Bool.and_eq_true, decide_eq_true_eq, inB] at h1'
  obtain ⟨⟨hr, hp0⟩, hd0, hd1⟩ := h1'
  obtain ⟨p, hp, hlt⟩ := shipPlace_lt (l := l) (id := id) rfl hp0
  unfold loadP
  rw [if_pos h1, if_pos h2, hp, Int.toNat_natCast]
  rcases Nat.lt_or_ge (d + 1).toNat wt.length with h | h
  · rw [show min (d + 1).toNat wt.length = (d + 1).toNat by omega, show min (d + 1 + 1).toNat wt.length = (d + 1).toNat + 1 by omega, rotaS_succ]
    refine loadS_step _ (by rw [rotaS_length]; exact hlt) ?_
    have := rota_full (rotaOK_and hr).1 wt (d + 1).toNat hlt
    exact this.2.2.2.2.2.2
  · rw [show min (d + 1).toNat wt.length = wt.length by omega, show min (d + 1 + 1).toNat wt.length = wt.length by omega]
    omega
theorem load_small {l : List Ship} {wt : List Int} {id d : Int} : 0 ≤ loadP l wt id d ∧ loadP l wt id d ≤ 3000 := by
  unfold loadP
  split
  · rename_i h
    unfold loadOK at h
    simp only [Bool.and_eq_true, decide_eq_true_eq, inB] at h
    obtain ⟨⟨hr, hp0⟩, _⟩ := h
    obtain ⟨p, hp, hlt⟩ := shipPlace_lt (l := l) (id := id) rfl hp0
    rw [hp, Int.toNat_natCast]
    have := load_rng hr (min (d + 1).toNat wt.length) hlt
    omega
  · omega
theorem send_len {l : List Ship} {id : Int} (h : sendOK l id = true) : ((sendP l id).length : Int) = (l.length : Int) - 1 := by
  have h' := h
  unfold sendOK at h'
  simp only [Bool.and_eq_true, decide_eq_true_eq] at h'
  obtain ⟨p, hp, hlt⟩ := shipPlace_lt (l := l) (id := id) rfl h'.2.1
  unfold sendP
  rw [if_pos h, hp, Int.toNat_natCast, List.length_append, List.length_take, List.length_drop]
  omega
end Go.Proofs.YtggdcjajiaeklaaDoor
