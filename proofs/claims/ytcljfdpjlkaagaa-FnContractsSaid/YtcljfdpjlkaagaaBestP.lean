/- The best choice of contracts: all choices in turn come to the same as choosing one by one. Plain laws. -/
import Derived.Test.YtcljfdpjlkaagaaBest
namespace Go.Proofs.Ytcljfdpjlkaagaa
/-- What a choice earns, where it can be kept. -/
def valB (l : List Contract) : List Int → List Int → Nat → Option Int
  | [], _, _ => some 0
  | q :: r, s, b => if b % 2 = 0 then (valB l r s (b / 2)).map fun v => v - l[q.toNat]!.tons * l[q.toNat]!.fine
    else if (serveP s l[q.toNat]!).2 = l[q.toNat]!.tons then (valB l r (serveP s l[q.toNat]!).1 (b / 2)).map fun v => v + l[q.toNat]!.tons * l[q.toNat]!.price else none
def pickStep (x : Contract) (o : Nat) (t : List Int × Int × Bool) : List Int × Int × Bool :=
  if t.2.2 then if o = 0 then (t.1, t.2.1 - x.tons * x.fine, true) else ((serveP t.1 x).1, t.2.1 + (serveP t.1 x).2 * x.price, decide ((serveP t.1 x).2 = x.tons)) else t
def pickTo (l : List Contract) (O s : List Int) (b : Nat) : Nat → List Int × Int × Bool
  | 0 => (s, 0, true)
  | i + 1 => pickStep l[O[i]!.toNat]! (b / 2 ^ i % 2) (pickTo l O s b i)
theorem pickTo_val (l : List Contract) (O s : List Int) (b : Nat) : ∀ i, i ≤ O.length → valB l O s b = if (pickTo l O s b i).2.2 then (valB l (O.drop i) (pickTo l O s b i).1 (b / 2 ^ i)).map (· + (pickTo l O s b i).2.1) else none
  | 0, _ => by simp [pickTo]
  | i + 1, hi => by
    rw [pickTo_val l O s b i (by omega)]
    have hx : O[i]? = some (O[i]'(by omega)) := List.getElem?_eq_getElem _
    have e : pickTo l O s b (i + 1) = pickStep l[O[i]!.toNat]! (b / 2 ^ i % 2) (pickTo l O s b i) := rfl
    rw [e, List.drop_eq_getElem_cons (show i < O.length by omega)]
    rw [List.getElem!_of_getElem? hx]
    generalize pickTo l O s b i = t at *
    generalize O[i]'(by omega) = q at *
    generalize O.drop (i + 1) = r at *
    rw [Nat.pow_succ, ← Nat.div_div_eq_div_mul]
    generalize b / 2 ^ i = c at *
    clear e hx
    obtain ⟨S, sum, fits⟩ := t
    unfold pickStep
    cases fits
    · simp
    · simp only [if_true]
      by_cases hc : c % 2 = 0
      · rw [if_pos hc, valB, if_pos hc]
        simp only [if_true, Option.map_map]
        congr 1
        funext v
        simp only [Function.comp_apply]
        omega
      · rw [if_neg hc, valB, if_neg hc]
        by_cases hf : (serveP S l[q.toNat]!).2 = l[q.toNat]!.tons
        · rw [if_pos hf]
          simp only [hf, decide_true, if_true, Option.map_map]
          congr 1
          funext v
          simp only [Function.comp_apply]
          omega
        · rw [if_neg hf, if_neg (fun h => hf (of_decide_eq_true h))]
          rfl
theorem pick_end (l : List Contract) (O s : List Int) (b : Nat) : valB l O s b = if (pickTo l O s b O.length).2.2 then some (pickTo l O s b O.length).2.1 else none := by
  rw [pickTo_val l O s b O.length (Nat.le_refl _), List.drop_length]
  simp [valB]
theorem pick_stay (l : List Contract) (O s : List Int) (b : Nat) {i : Nat} (h : (pickTo l O s b i).2.2 = false) : ∀ j, (pickTo l O s b (i + j)).2.2 = false
  | 0 => h
  | j + 1 => by
    have ih := pick_stay l O s b h j
    have e : pickTo l O s b (i + (j + 1)) = pickStep l[O[i + j]!.toNat]! (b / 2 ^ (i + j) % 2) (pickTo l O s b (i + j)) := rfl
    rw [e, pickStep, if_neg (by rw [ih]; simp)]
    exact ih
theorem pickTo_in {l : List Contract} {O s : List Int} {b : Nat} (hok : ∀ (i : Nat) (x : Contract), l[i]? = some x → contractOK x = true) (hO : OrdIn l.length O) (hs : StockIn s) :
    ∀ i, i ≤ O.length → StockIn (pickTo l O s b i).1 ∧ -5000000 * (i : Int) ≤ (pickTo l O s b i).2.1 ∧ (pickTo l O s b i).2.1 ≤ 2500000 * i
  | 0, _ => ⟨hs, by simp [pickTo], by simp [pickTo]⟩
  | i + 1, hi => by
    have ih := pickTo_in (b := b) hok hO hs i (by omega)
    have hx : O[i]? = some (O[i]'(by omega)) := List.getElem?_eq_getElem _
    obtain ⟨h0, h1⟩ := hO _ (List.mem_of_getElem? hx)
    have hy : l[(O[i]'(by omega)).toNat]? = some (l[(O[i]'(by omega)).toNat]'(by omega)) := List.getElem?_eq_getElem _
    have hk := hok _ _ hy
    have e : pickTo l O s b (i + 1) = pickStep l[O[i]!.toNat]! (b / 2 ^ i % 2) (pickTo l O s b i) := rfl
    rw [e, List.getElem!_of_getElem? hx, List.getElem!_of_getElem? hy]
    generalize l[(O[i]'(by omega)).toNat]'(by omega) = x at *
    generalize pickTo l O s b i = t at *
    obtain ⟨S, sum, fits⟩ := t
    obtain ⟨i1, i2, i3⟩ := ih
    obtain ⟨m1, m2⟩ := best_mul hk
    obtain ⟨v1, v2, v3⟩ := serveP_in i1 hk
    obtain ⟨_, _, t12, p12, _, _, f12⟩ := contractOK_at hk
    have m3 := mul_rng (A := 5000) (B := 500) v2 (by omega) (by omega) p12.2
    simp only at i1 i2 i3 m3
    unfold pickStep
    cases fits
    · simp only; exact ⟨i1, by push_cast; omega, by push_cast; omega⟩
    · simp only [if_true]
      split
      · exact ⟨i1, by push_cast; omega, by push_cast; omega⟩
      · exact ⟨v1, by push_cast; omega, by push_cast; omega⟩
theorem val_le (l : List Contract) : ∀ (O s : List Int) (b : Nat) (v : Int), valB l O s b = some v → v ≤ bestP l O s
  | [], s, b, v, h => by simp [valB] at h; simp [bestP, ← h]
  | q :: r, s, b, v, h => by
    rw [valB] at h
    rw [bestP]
    split at h
    · obtain ⟨u, hu, rfl⟩ := Option.map_eq_some_iff.1 h
      have := val_le l r s _ _ hu
      split <;> omega
    · split at h
      · rename_i hf
        obtain ⟨u, hu, rfl⟩ := Option.map_eq_some_iff.1 h
        have := val_le l r _ _ _ hu
        rw [if_pos hf]
        omega
      · cases h
theorem val_ex (l : List Contract) : ∀ (O s : List Int), ∃ b, b < 2 ^ O.length ∧ valB l O s b = some (bestP l O s)
  | [], s => ⟨0, by simp, rfl⟩
  | q :: r, s => by
    obtain ⟨b1, h1, e1⟩ := val_ex l r s
    obtain ⟨b2, h2, e2⟩ := val_ex l r (serveP s l[q.toNat]!).1
    have z1 : valB l (q :: r) s (2 * b1) = some (bestP l r s - l[q.toNat]!.tons * l[q.toNat]!.fine) := by
      rw [valB, if_pos (by omega), show 2 * b1 / 2 = b1 by omega, e1]; rfl
    rw [List.length_cons, Nat.pow_succ]
    by_cases hf : (serveP s l[q.toNat]!).2 = l[q.toNat]!.tons
    · have z2 : valB l (q :: r) s (2 * b2 + 1) = some (bestP l r (serveP s l[q.toNat]!).1 + l[q.toNat]!.tons * l[q.toNat]!.price) := by
        rw [valB, if_neg (by omega), if_pos hf, show (2 * b2 + 1) / 2 = b2 by omega, e2]; rfl
      rw [bestP, if_pos hf]
      rcases Int.le_total (bestP l r s - l[q.toNat]!.tons * l[q.toNat]!.fine) (bestP l r (serveP s l[q.toNat]!).1 + l[q.toNat]!.tons * l[q.toNat]!.price) with h | h
      · exact ⟨2 * b2 + 1, by omega, by rw [z2, Int.max_eq_right h]⟩
      · exact ⟨2 * b1, by omega, by rw [z1, Int.max_eq_left h]⟩
    · rw [bestP, if_neg hf]
      exact ⟨2 * b1, by omega, z1⟩
def bstTo (l : List Contract) (O s : List Int) : Nat → Int × Bool
  | 0 => (0, true)
  | b + 1 => match valB l O s b with
    | some v => if (bstTo l O s b).2 = true ∨ (bstTo l O s b).1 < v then (v, false) else bstTo l O s b
    | none => bstTo l O s b
theorem bstTo_inv (l : List Contract) (O s : List Int) : ∀ k, ((bstTo l O s k).2 = true ∧ (bstTo l O s k).1 = 0 ∧ ∀ b, b < k → valB l O s b = none) ∨
    ((bstTo l O s k).2 = false ∧ (∃ b, b < k ∧ valB l O s b = some (bstTo l O s k).1) ∧ ∀ b v, b < k → valB l O s b = some v → v ≤ (bstTo l O s k).1)
  | 0 => .inl ⟨rfl, rfl, fun b h => by omega⟩
  | k + 1 => by
    have ih := bstTo_inv l O s k
    have e : bstTo l O s (k + 1) = match valB l O s k with
      | some v => if (bstTo l O s k).2 = true ∨ (bstTo l O s k).1 < v then (v, false) else bstTo l O s k
      | none => bstTo l O s k := rfl
    rw [e]
    cases hv : valB l O s k with
    | none =>
      simp only
      rcases ih with ⟨h1, h0, h2⟩ | ⟨h1, ⟨b, hb, h2⟩, h3⟩
      · left
        refine ⟨h1, h0, fun b hb => ?_⟩
        by_cases q : b = k
        · rw [q]; exact hv
        · exact h2 b (by omega)
      · right
        refine ⟨h1, ⟨b, by omega, h2⟩, fun b v hb h => ?_⟩
        by_cases q : b = k
        · rw [q, hv] at h; cases h
        · exact h3 b v (by omega) h
    | some v =>
      simp only
      split
      · rename_i hq
        right
        refine ⟨rfl, ⟨k, by omega, hv⟩, fun b u hb h => ?_⟩
        simp only
        by_cases q : b = k
        · rw [q, hv] at h; injection h with h; omega
        · rcases ih with ⟨h1, h0, h2⟩ | ⟨h1, ⟨b', hb', h2⟩, h3⟩
          · have := h2 b (by omega); rw [h] at this; cases this
          · have := h3 b u (by omega) h
            rcases hq with hq | hq
            · rw [h1] at hq; cases hq
            · omega
      · rename_i hq
        rcases ih with ⟨h1, h0, h2⟩ | ⟨h1, ⟨b', hb', h2⟩, h3⟩
        · exact absurd (Or.inl h1) hq
        · right
          refine ⟨h1, ⟨b', by omega, h2⟩, fun b u hb h => ?_⟩
          by_cases q : b = k
          · rw [q, hv] at h
            injection h with h
            have : ¬ (bstTo l O s k).1 < v := fun hh => hq (.inr hh)
            omega
          · exact h3 b u (by omega) h
theorem bst_end (l : List Contract) (O s : List Int) : (bstTo l O s (2 ^ O.length)).1 = bestP l O s := by
  obtain ⟨b, hb, e⟩ := val_ex l O s
  rcases bstTo_inv l O s (2 ^ O.length) with ⟨_, _, h⟩ | ⟨_, ⟨c, hc, h2⟩, h3⟩
  · rw [h b hb] at e; cases e
  · have h4 := h3 b _ hb e
    have h5 := val_le l O s c _ h2
    omega
theorem bst_rng {l : List Contract} {O s : List Int} (hok : ∀ (i : Nat) (x : Contract), l[i]? = some x → contractOK x = true) (hO : OrdIn l.length O) (hs : StockIn s) : ∀ k, -5000000 * (O.length : Int) ≤ (bstTo l O s k).1 ∧ (bstTo l O s k).1 ≤ 2500000 * O.length := fun k => by
  rcases bstTo_inv l O s k with ⟨_, h, _⟩ | ⟨_, ⟨c, hc, h2⟩, _⟩
  · rw [h]; omega
  · rw [pick_end] at h2
    split at h2
    · injection h2 with h2
      rw [← h2]
      exact (pickTo_in (b := c) hok hO hs O.length (Nat.le_refl _)).2
    · cases h2
end Go.Proofs.Ytcljfdpjlkaagaa
