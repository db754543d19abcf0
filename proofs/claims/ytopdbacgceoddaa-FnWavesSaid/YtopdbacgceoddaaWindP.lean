/- Plain laws on wind: what the two laws on waves and calm ask beside the answers themselves. -/
import Derived.Test.YtopdbacgceoddaaWindK
import Derived.Test.YtopdbacgceoddaaWindG
import Derived.Test.YtopdbacgceoddaaWindH
namespace Go.Proofs.Ytopdbacgceoddaa
/-! ### Calm spans -/
def Clear (l : List Blow) (s f t : Int) (n : Nat) (a b : Int) : Prop := a ≤ b → f ≤ a ∧ b ≤ t ∧ ∀ j, j < n → sSkip s f t l[j]! = false → l[j]!.hour < a ∨ b < l[j]!.hour
structure CalmInv (l : List Blow) (s f t : Int) (k : Nat) (st : St3) : Prop where
  fc : f ≤ st.2.2
  ct : st.2.2 ≤ t + 1
  bc : st.2.1 < st.2.2
  later : ∀ j, k ≤ j → j < l.length → sSkip s f t l[j]! = false → st.2.2 ≤ l[j]!.hour
  sooner : ∀ j, j < k → sSkip s f t l[j]! = false → l[j]!.hour < st.2.2
  clear : Clear l s f t l.length st.1 st.2.1
theorem sSkip_false {s f t : Int} {x : Blow} (h : sSkip s f t x = false) : s < x.speed ∧ f ≤ x.hour ∧ x.hour ≤ t := by
  simp only [sSkip, Bool.or_eq_false_iff, decide_eq_false_iff_not, Bool.not_eq_false'] at h
  have := inB_true h.2
  omega
theorem blows_lt {l : List Blow} (h : areBlows l = true) {i : Nat} : ∀ {j : Nat}, i < j → j < l.length → l[i]!.hour < l[j]!.hour
  | 0, hi, _ => by omega
  | j + 1, hi, hj => by
    have h1 := blows_inc h hj (by omega)
    rw [Nat.add_sub_cancel] at h1
    by_cases e : i = j
    · subst e; exact h1
    · have := blows_lt h (i := i) (j := j) (by omega) (by omega)
      omega
theorem calm_inv {l : List Blow} {s f t : Int} (ha : areBlows l = true) (hf : 0 ≤ f) (hft : f ≤ t) : ∀ k, k ≤ l.length → CalmInv l s f t k (sTo l s f t k)
  | 0, _ => by
    refine ⟨Int.le_refl _, ?_, ?_, fun j _ _ hs => (sSkip_false hs).2.1, fun j h => by omega, fun h => ?_⟩
    · show f ≤ t + 1; omega
    · show -1 < f; omega
    · have h' : (0 : Int) ≤ -1 := h
      omega
  | k + 1, hk => by
    have ih := calm_inv (s := s) ha hf hft k (by omega)
    have es : sTo l s f t (k + 1) = if sSkip s f t l[k]! then sTo l s f t k else upd l[k]!.hour (sTo l s f t k) := rfl
    rw [es]
    generalize sTo l s f t k = st at *
    obtain ⟨a, b, c⟩ := st
    obtain ⟨h1, h2, h3, h4, h5, h6⟩ := ih
    simp only at h1 h2 h3 h4 h5 h6
    split
    · rename_i hq
      refine ⟨h1, h2, h3, fun j hj => h4 j (by omega), fun j hj hs => ?_, h6⟩
      by_cases e : j = k
      · subst e; rw [hq] at hs; cases hs
      · exact h5 j (by omega) hs
    · rename_i hq
      have hq' : sSkip s f t l[k]! = false := by simpa using hq
      obtain ⟨q1, q2, q3⟩ := sSkip_false hq'
      have q4 := h4 k (Nat.le_refl _) (by omega) hq'
      have later : ∀ j, k + 1 ≤ j → j < l.length → sSkip s f t l[j]! = false → l[k]!.hour + 1 ≤ l[j]!.hour := fun j hj hj2 _ => by
        have := blows_lt ha (i := k) (j := j) (by omega) hj2
        omega
      have sooner : ∀ j, j < k + 1 → sSkip s f t l[j]! = false → l[j]!.hour < l[k]!.hour + 1 := fun j hj hs => by
        by_cases e : j = k
        · subst e; omega
        · have := blows_lt ha (i := j) (j := k) (by omega) (by omega)
          omega
      unfold upd
      split
      · refine ⟨?_, ?_, ?_, later, sooner, fun _ => ⟨h1, ?_, fun j hj hs => ?_⟩⟩
        · show f ≤ l[k]!.hour + 1; omega
        · show l[k]!.hour + 1 ≤ t + 1; omega
        · show l[k]!.hour - 1 < l[k]!.hour + 1; omega
        · show l[k]!.hour - 1 ≤ t; omega
        · show l[j]!.hour < c ∨ l[k]!.hour - 1 < l[j]!.hour
          rcases Nat.lt_or_ge j k with hlt | hge
          · exact .inl (h5 j hlt hs)
          · right
            by_cases e : j = k
            · subst e; omega
            · have := blows_lt ha (i := k) (j := j) (by omega) hj
              omega
      · refine ⟨?_, ?_, ?_, later, sooner, h6⟩
        · show f ≤ l[k]!.hour + 1; omega
        · show l[k]!.hour + 1 ≤ t + 1; omega
        · show b < l[k]!.hour + 1; omega
theorem calm_good {l : List Blow} {s f t a b : Int} (h : calmP l s f t = (a, b, true)) : f ≤ a ∧ b ≤ t ∧ a ≤ b ∧ areBlows l = true ∧ ∀ (j : Nat) (x : Blow), l[j]? = some x → a ≤ x.hour → x.hour ≤ b → x.speed ≤ s := by
  unfold calmP at h
  split at h
  · rename_i hc
    simp only [Bool.and_eq_true, decide_eq_true_eq] at hc
    obtain ⟨⟨ha, hs⟩, hft, ht⟩ := hc
    have hft' := inB_true hft
    have hI := calm_inv (s := s) ha hft'.1 hft'.2 l.length (Nat.le_refl _)
    generalize sTo l s f t l.length = st at *
    obtain ⟨p, q, c⟩ := st
    obtain ⟨h1, h2, h3, h4, h5, h6⟩ := hI
    simp only at h1 h2 h3 h4 h5 h6
    have hC : Clear l s f t l.length (upd (t + 1) (p, q, c)).1 (upd (t + 1) (p, q, c)).2.1 := by
      unfold upd
      split
      · exact fun _ => ⟨h1, by show t + 1 - 1 ≤ t; omega, fun j hj hs => .inl (h5 j hj hs)⟩
      · exact h6
    generalize upd (t + 1) (p, q, c) = u at *
    unfold fin3 at h
    split at h
    · cases h
    · rename_i hn
      injection h with e1 h
      injection h with e2 _
      rw [e1, e2] at hC hn
      have hab : a ≤ b := by omega
      obtain ⟨c1, c2, c3⟩ := hC hab
      refine ⟨c1, c2, hab, ha, fun j x hx hxa hxb => ?_⟩
      have hj := (List.getElem?_eq_some_iff.1 hx).1
      rcases Int.lt_or_le s x.speed with hlt | hle
      · have := c3 j hj (by
          rw [List.getElem!_of_getElem? hx]
          simp only [sSkip, Bool.or_eq_false_iff, decide_eq_false_iff_not, Bool.not_eq_false']
          exact ⟨by omega, inB_mk (by omega) (by omega)⟩)
        rw [List.getElem!_of_getElem? hx] at this
        omega
      · exact hle
  · cases h
/-! ### The main direction, the mean -/
theorem bestTo_top {s : Nat → Int} : ∀ k d, d < k → s d ≤ s (bestTo s k)
  | 0, _, h => by omega
  | k + 1, d, h => by
    have e : bestTo s (k + 1) = if s (bestTo s k) < s k then k else bestTo s k := rfl
    rw [e]
    have ih := fun d hd => bestTo_top (s := s) k d hd
    split
    · by_cases q : d = k
      · subst q; exact Int.le_refl _
      · have := ih d (by omega); omega
    · by_cases q : d = k
      · subst q; omega
      · exact ih d (by omega)
theorem main_good {l : List Blow} {b : Int} (h : mainP l = (b, true)) : areBlows l = true ∧ 0 ≤ b ∧ b ≤ 3 ∧ ∀ d : Nat, d < 4 → sumD l d l.length ≤ sumD l b l.length := by
  unfold mainP at h
  split at h
  · rename_i ha
    injection h with h _
    have hl := bestTo_lt (fun d => sumD l d l.length) 4 (Nat.le_refl _)
    refine ⟨ha, by omega, by omega, fun d hd => ?_⟩
    rw [← h]
    exact bestTo_top (s := fun d => sumD l d l.length) 4 d hd
  · cases h
theorem sumD_rng {l : List Blow} (h : areBlows l = true) (d : Int) : ∀ k : Nat, k ≤ l.length → 0 ≤ sumD l d k ∧ sumD l d k ≤ 60 * k
  | 0, _ => by simp [sumD, loopTo]
  | k + 1, hk => by
    have ih := sumD_rng h d k (by omega)
    have hx : l[k]? = some (l[k]'(by omega)) := List.getElem?_eq_getElem _
    obtain ⟨_, hs, _⟩ := areBlows_at h hx
    rw [sumD_step hx]
    split <;> omega
theorem meanTo_rng {l : List Blow} (h : areBlows l = true) (d : Int) : ∀ k : Nat, k ≤ l.length → (meanTo l d k).1 ≤ 60 * (meanTo l d k).2
  | 0, _ => by simp [meanTo, loopTo]
  | k + 1, hk => by
    have ih := meanTo_rng h d k (by omega)
    have hx : l[k]? = some (l[k]'(by omega)) := List.getElem?_eq_getElem _
    obtain ⟨_, hs, _⟩ := areBlows_at h hx
    have e : meanTo l d (k + 1) = if l[k]!.frm == d then ((meanTo l d k).1 + l[k]!.speed.toNat, (meanTo l d k).2 + 1) else meanTo l d k := rfl
    rw [e, List.getElem!_of_getElem? hx]
    split
    · simp only; omega
    · exact ih
theorem mean_good {l : List Blow} {d p q : Int} (h : meanP l d = (p, q, true)) : p ≤ 60 * q ∧ 0 ≤ q ∧ q ≤ 20 ∧ 0 ≤ p := by
  unfold meanP at h
  split at h
  · rename_i hc
    simp only [Bool.and_eq_true] at hc
    have hm := meanTo_rng hc.1 d l.length (Nat.le_refl _)
    have hcnt : (meanTo l d l.length).2 ≤ 20 := by
      have h20 := areBlows_len hc.1
      have : ∀ k, (meanTo l d k).2 ≤ k := fun k => by
        induction k with
        | zero => simp [meanTo, loopTo]
        | succ k ih =>
          have e : meanTo l d (k + 1) = if l[k]!.frm == d then ((meanTo l d k).1 + l[k]!.speed.toNat, (meanTo l d k).2 + 1) else meanTo l d k := rfl
          rw [e]
          split
          · simp only; omega
          · omega
      have := this l.length
      omega
    generalize meanTo l d l.length = u at *
    obtain ⟨a, b⟩ := u
    simp only at h hm hcnt
    split at h
    · cases h
    · rename_i hb
      injection h with e1 h
      injection h with e2 _
      have hg : 0 < Nat.gcd a b := Nat.gcd_pos_of_pos_right _ (by omega)
      have d1 := Nat.div_mul_cancel (Nat.gcd_dvd_left a b)
      have d2 := Nat.div_mul_cancel (Nat.gcd_dvd_right a b)
      have d3 := Nat.div_le_self b (Nat.gcd a b)
      generalize Nat.gcd a b = g at *
      have : a / g ≤ 60 * (b / g) := by
        refine Nat.le_of_mul_le_mul_right (c := g) ?_ hg
        rw [Nat.mul_assoc, d1, d2]
        exact hm
      generalize a / g = u at *
      generalize b / g = v at *
      clear d1 d2
      omega
  · cases h
/-! ### Waves -/
theorem bankTo_top {l : List Blow} {x n : Int} : ∀ k i, i < k → waveP x n l[i]!.speed l[i]!.frm ≤ bankTo l x n k
  | 0, _, h => by omega
  | k + 1, i, h => by
    have e : bankTo l x n (k + 1) = max (bankTo l x n k) (waveP x n l[k]!.speed l[k]!.frm) := rfl
    rw [e]
    by_cases q : i = k
    · subst q; omega
    · have := bankTo_top (l := l) (x := x) (n := n) k i (by omega); omega
theorem bankTo_hit {l : List Blow} {x n : Int} : ∀ k, bankTo l x n k = 0 ∨ ∃ i, i < k ∧ bankTo l x n k = waveP x n l[i]!.speed l[i]!.frm
  | 0 => .inl rfl
  | k + 1 => by
    have e : bankTo l x n (k + 1) = max (bankTo l x n k) (waveP x n l[k]!.speed l[k]!.frm) := rfl
    rw [e]
    rcases Int.le_total (bankTo l x n k) (waveP x n l[k]!.speed l[k]!.frm) with h | h
    · right; exact ⟨k, by omega, by omega⟩
    · rcases bankTo_hit (l := l) (x := x) (n := n) k with h1 | ⟨i, hi, h1⟩
      · left; omega
      · right; exact ⟨i, by omega, by omega⟩
theorem bankTo_pos (l : List Blow) (x n : Int) : ∀ k, 0 ≤ bankTo l x n k
  | 0 => Int.le_refl _
  | k + 1 => by
    have e : bankTo l x n (k + 1) = max (bankTo l x n k) (waveP x n l[k]!.speed l[k]!.frm) := rfl
    have := bankTo_pos l x n k
    rw [e]; omega
theorem bankTo_le {l : List Blow} {x n b : Int} (h : areBlows l = true) (hk : lakeIn x n b) : ∀ k, k ≤ l.length → bankTo l x n k ≤ 150
  | 0, _ => by simp [bankTo, loopTo]
  | k + 1, hl => by
    have e : bankTo l x n (k + 1) = max (bankTo l x n k) (waveP x n l[k]!.speed l[k]!.frm) := rfl
    have ih := bankTo_le h hk k (by omega)
    have hx : l[k]? = some (l[k]'(by omega)) := List.getElem?_eq_getElem _
    obtain ⟨_, hs, _⟩ := areBlows_at h hx
    have := waveP_in (f := (l[k]'(by omega)).frm) hk hs.1 hs.2
    rw [e, List.getElem!_of_getElem? hx]
    omega
theorem spill_zero {x n b s f : Int} (h : waveP x n s f ≤ b) : spillP x n b s f = 0 := by
  unfold spillP; rw [show max (waveP x n s f - b) 0 = 0 by omega]; simp
theorem sum_zero {l : List Blow} {x n b : Int} (h : ∀ i, i < l.length → waveP x n l[i]!.speed l[i]!.frm ≤ b) : ∀ k, k ≤ l.length → sumSpill l x n b k = 0
  | 0, _ => rfl
  | k + 1, hk => by
    have e : sumSpill l x n b (k + 1) = sumSpill l x n b k + spillP x n b l[k]!.speed l[k]!.frm := rfl
    rw [e, sum_zero h k (by omega), spill_zero (h k (by omega))]; rfl
theorem sum_ge {l : List Blow} {x n b : Int} (ha : areBlows l = true) (hk : lakeIn x n b) : ∀ k, k ≤ l.length → 0 ≤ sumSpill l x n b k ∧ ∀ i, i < k → spillP x n b l[i]!.speed l[i]!.frm ≤ sumSpill l x n b k
  | 0, _ => ⟨Int.le_refl _, fun i h => by omega⟩
  | k + 1, hl => by
    have e : sumSpill l x n b (k + 1) = sumSpill l x n b k + spillP x n b l[k]!.speed l[k]!.frm := rfl
    have ih := sum_ge ha hk k (by omega)
    have hx : l[k]? = some (l[k]'(by omega)) := List.getElem?_eq_getElem _
    obtain ⟨_, hs, _⟩ := areBlows_at ha hx
    have := spillP_in (f := (l[k]'(by omega)).frm) hk hs.1 hs.2
    rw [e]
    rw [← List.getElem!_of_getElem? hx] at this
    refine ⟨by omega, fun i hi => ?_⟩
    by_cases q : i = k
    · subst q; omega
    · have := ih.2 i (by omega); omega
theorem bank_good {l : List Blow} {x n b k : Int} (h : bankP l x n b = (k, true)) : (0 ≤ k ∧ k ≤ 150) ∧ allP l x n k = (0, true) ∧ (0 < k → ∃ z, allP l x n (k - 1) = (z, true) ∧ 1 ≤ z) := by
  unfold bankP at h
  split at h
  · rename_i hc
    simp only [Bool.and_eq_true] at hc
    obtain ⟨ha, hk⟩ := hc
    injection h with h _
    have hin := lakeOK_in hk
    have h0 := bankTo_pos l x n l.length
    have h1 := bankTo_le ha hin l.length (Nat.le_refl _)
    rw [h] at h0 h1
    have ok : ∀ z, 0 ≤ z → z ≤ 200 → lakeOK x n z = true := fun z z0 z1 => by
      simp only [lakeOK, Bool.and_eq_true] at hk ⊢
      exact ⟨hk.1, hk.2.1, inB_mk z0 z1⟩
    refine ⟨⟨h0, h1⟩, ?_, fun hp => ?_⟩
    · rw [allP, if_pos (by rw [ha, ok k h0 (by omega)]; rfl), sum_zero (fun i hi => h ▸ bankTo_top l.length i hi) _ (Nat.le_refl _)]
    · refine ⟨sumSpill l x n (k - 1) l.length, by rw [allP, if_pos (by rw [ha, ok (k - 1) (by omega) (by omega)]; rfl)], ?_⟩
      rcases bankTo_hit (l := l) (x := x) (n := n) l.length with e | ⟨i, hi, e⟩
      · omega
      · have hin' := lakeOK_in (ok (k - 1) (by omega) (by omega))
        have := (sum_ge ha hin' l.length (Nat.le_refl _)).2 i hi
        have h2 : 1 ≤ spillP x n (k - 1) l[i]!.speed l[i]!.frm := by
          unfold spillP
          rw [show max (waveP x n l[i]!.speed l[i]!.frm - (k - 1)) 0 = 1 by omega, Int.one_mul]
          have hx : l[i]? = some (l[i]'hi) := List.getElem?_eq_getElem _
          exact (reachP_in (e := n) (n := x) (b := k - 1) (f := l[i]!.frm) ⟨hin'.2.1, hin'.1, hin'.2.2⟩).1
        omega
  · cases h
theorem worstTo_hit {l : List Blow} {x n b : Int} : ∀ k, (worstTo l x n b k).2 = 0 ∨ ∃ i, i < k ∧ (worstTo l x n b k).1 = l[i]!.hour ∧ (worstTo l x n b k).2 = spillP x n b l[i]!.speed l[i]!.frm
  | 0 => .inl rfl
  | k + 1 => by
    have e : worstTo l x n b (k + 1) = if (worstTo l x n b k).2 < spillP x n b l[k]!.speed l[k]!.frm then (l[k]!.hour, spillP x n b l[k]!.speed l[k]!.frm) else worstTo l x n b k := rfl
    rw [e]
    split
    · right; exact ⟨k, by omega, rfl, rfl⟩
    · rcases worstTo_hit (l := l) (x := x) (n := n) (b := b) k with h | ⟨i, hi, h⟩
      · exact .inl h
      · exact .inr ⟨i, by omega, h⟩
theorem worst_good {l : List Blow} {x n b h m : Int} (hw : worstP l x n b = (h, m, true)) : spilledInP l x n b h = (m, true) ∧ ∃ z, allP l x n b = (z, true) ∧ m ≤ z := by
  unfold worstP at hw
  split at hw
  · rename_i hc
    injection hw with e1 hw
    injection hw with e2 e3
    simp only [decide_eq_true_eq] at e3
    have hc' := hc
    simp only [Bool.and_eq_true] at hc'
    obtain ⟨ha, hk⟩ := hc'
    have hin := lakeOK_in hk
    rcases worstTo_hit (l := l) (x := x) (n := n) (b := b) l.length with e | ⟨i, hi, h1, h2⟩
    · omega
    · have hx : l[i]? = some (l[i]'hi) := List.getElem?_eq_getElem _
      obtain ⟨hh, _, _⟩ := areBlows_at ha hx
      rw [← List.getElem!_of_getElem? hx] at hh
      have hf : firstTo (fun j => l[j]!.hour == h) l.length = some i := firstTo_hit (firstTo_of_none fun j hj => by
        have := blows_lt ha hj hi
        simp only [beq_eq_false_iff_ne]; omega) (by simp only [beq_iff_eq]; omega) _ hi
      refine ⟨?_, _, by rw [allP, if_pos hc], ?_⟩
      · rw [spilledInP, if_pos (by rw [hc, inB_mk (by omega) (by omega)]; rfl), inHour, hf]
        simp only
        rw [← h2, e2]
      · have := (sum_ge ha hin l.length (Nat.le_refl _)).2 i hi
        omega
  · cases hw
theorem wave_turn {x n b s f v : Int} (h : waveOfP x n b s f = (v, true)) : lakeOK x n b = true ∧ waveOfP n x b s ((f + 1) % 4) = (v, true) ∧ 0 ≤ f ∧ f ≤ 3 := by
  unfold waveOfP at h
  split at h
  · rename_i hc
    simp only [Bool.and_eq_true] at hc
    obtain ⟨⟨hk, hs⟩, hf⟩ := hc
    injection h with h _
    have hf' := inB_true hf
    have hk' : lakeOK n x b = true := by
      simp only [lakeOK, Bool.and_eq_true] at hk ⊢
      exact ⟨hk.2.1, hk.1, hk.2.2⟩
    refine ⟨hk, ?_, hf'.1, hf'.2⟩
    rw [waveOfP, if_pos (by rw [hk', hs, inB_mk (by omega) (by omega)]; rfl), ← h]
    congr 1
    unfold waveP
    congr 3
    unfold reachP
    rcases (show f = 0 ∨ f = 1 ∨ f = 2 ∨ f = 3 by omega) with rfl | rfl | rfl | rfl <;> rfl
  · cases h
end Go.Proofs.Ytopdbacgceoddaa
