/- Plain laws of calm spans: the program's sentinel at the end does what the reference does behind its loop. -/
import Derived.Test.YtopdbacgceoddaaWindE
namespace Go.Proofs.Ytopdbacgceoddaa
abbrev St3 := Int × Int × Int
def upd (h : Int) (st : St3) : St3 := if st.2.1 - st.1 + 1 < h - st.2.2 then (st.2.2, h - 1, h + 1) else (st.1, st.2.1, h + 1)
def sSkip (s f t : Int) (x : Blow) : Bool := decide (x.speed ≤ s) || !inB x.hour f t
def iSkip (s f t : Int) (x : Blow) : Bool := (decide (x.speed ≤ s) && decide (x.hour ≤ t)) || !inB x.hour f (t + 1)
def sTo (l : List Blow) (s f t : Int) (k : Nat) : St3 := loopTo (fun i st => if sSkip s f t l[i]! then st else upd l[i]!.hour st) (0, -1, f) k
def iTo (l : List Blow) (s f t : Int) (k : Nat) : St3 := loopTo (fun i st => if iSkip s f t l[i]! then st else upd l[i]!.hour st) (0, -1, f) k
def fin3 (st : St3) : Int × Int × Bool := if st.2.1 < st.1 then (0, 0, false) else (st.1, st.2.1, true)
def calmP (l : List Blow) (s f t : Int) : Int × Int × Bool :=
  if (areBlows l && decide (0 ≤ s)) && (inB f 0 t && decide (t ≤ 9999)) then fin3 (upd (t + 1) (sTo l s f t l.length)) else (0, 0, false)
theorem upd_len {h : Int} {st : St3} (h0 : 0 ≤ st.2.1 - st.1 + 1) : 0 ≤ (upd h st).2.1 - (upd h st).1 + 1 := by
  unfold upd; split
  · simp only; omega
  · exact h0
theorem sTo_len (l : List Blow) (s f t : Int) (n : Nat) : 0 ≤ (sTo l s f t n).2.1 - (sTo l s f t n).1 + 1 := by
  refine loopTo_inv (fun _ (st : St3) => 0 ≤ st.2.1 - st.1 + 1) (by simp) (fun i st _ h => ?_)
  show 0 ≤ (if _ then _ else _ : St3).2.1 - (if _ then _ else _ : St3).1 + 1
  split
  · exact h
  · exact upd_len h
theorem upd_stay {h : Int} {st : St3} (h0 : 0 ≤ st.2.1 - st.1 + 1) (h2 : st.2.2 = h + 1) : upd h st = st := by
  unfold upd
  rw [if_neg (by omega), ← h2]
theorem upd_twice {h : Int} {st : St3} (h0 : 0 ≤ st.2.1 - st.1 + 1) : upd h (upd h st) = upd h st :=
  upd_stay (upd_len h0) (by unfold upd; split <;> rfl)
theorem iTo_succ (l : List Blow) (s f t : Int) (k : Nat) : iTo l s f t (k + 1) = if iSkip s f t l[k]! then iTo l s f t k else upd l[k]!.hour (iTo l s f t k) := rfl
theorem blows_inc {l : List Blow} (h : areBlows l = true) {k : Nat} (hk : k < l.length) (h0 : 0 < k) : l[k - 1]!.hour < l[k]!.hour := by
  have := areBlows_ok h hk
  simp only [badBlow, Bool.not_eq_false', Bool.and_eq_true, Bool.or_eq_true, decide_eq_true_eq] at this
  rcases this.2.2.2 with h | h
  · omega
  · exact h
theorem calm_same {l : List Blow} {s f t : Int} (ha : areBlows l = true) (hft : f ≤ t) : ∀ k, k ≤ l.length →
    (iTo l s f t k = sTo l s f t k) ∨ (iTo l s f t k = upd (t + 1) (sTo l s f t k) ∧ 0 < k ∧ t + 1 ≤ l[k - 1]!.hour)
  | 0, _ => .inl rfl
  | k + 1, hk => by
    have ei : iTo l s f t (k + 1) = if iSkip s f t l[k]! then iTo l s f t k else upd l[k]!.hour (iTo l s f t k) := rfl
    have es : sTo l s f t (k + 1) = if sSkip s f t l[k]! then sTo l s f t k else upd l[k]!.hour (sTo l s f t k) := rfl
    rw [ei, es]
    have ih := calm_same (s := s) ha hft k (by omega)
    generalize hx : l[k]! = x at *
    rcases Int.lt_trichotomy x.hour (t + 1) with h | h | h
    · have e : iSkip s f t x = sSkip s f t x := by
        have h1 : decide (x.hour ≤ t) = true := by simp; omega
        have h2 : inB x.hour f (t + 1) = inB x.hour f t := by
          rw [Bool.eq_iff_iff]; simp only [inB, Bool.and_eq_true, decide_eq_true_eq]; omega
        simp [iSkip, sSkip, h1, h2]
      rcases ih with ih | ⟨_, h0, h1⟩
      · left; rw [e, ih]
      · have := blows_inc ha (show k < l.length by omega) h0
        rw [hx] at this; omega
    · have e1 : iSkip s f t x = false := by
        have h1 : decide (x.hour ≤ t) = false := by simp; omega
        have h2 : inB x.hour f (t + 1) = true := inB_mk (by omega) (by omega)
        simp [iSkip, h1, h2]
      have e2 : sSkip s f t x = true := by simp [sSkip, inB_no (show x.hour < f ∨ t < x.hour by omega)]
      rcases ih with ih | ⟨_, h0, h1⟩
      · right
        refine ⟨by rw [e1, e2, ih, h]; rfl, by omega, ?_⟩
        simp only [Nat.add_sub_cancel, hx]; omega
      · have := blows_inc ha (show k < l.length by omega) h0
        rw [hx] at this; omega
    · have e1 : iSkip s f t x = true := by simp [iSkip, inB_no (show x.hour < f ∨ t + 1 < x.hour by omega)]
      have e2 : sSkip s f t x = true := by simp [sSkip, inB_no (show x.hour < f ∨ t < x.hour by omega)]
      rw [e1, e2]
      rcases ih with ih | ⟨ih, h0, h1⟩
      · left; exact ih
      · right
        refine ⟨ih, by omega, ?_⟩
        simp only [Nat.add_sub_cancel, hx]; omega
theorem calm_none {l : List Blow} {s f t : Int} (hft : t < f) (k : Nat) : (iTo l s f t k).1 = 0 ∧ (iTo l s f t k).2.1 = -1 ∧ f ≤ (iTo l s f t k).2.2 := by
  refine loopTo_inv (fun _ (st : St3) => st.1 = 0 ∧ st.2.1 = -1 ∧ f ≤ st.2.2) ⟨rfl, rfl, Int.le_refl _⟩ (fun i st _ h => ?_)
  obtain ⟨h1, h2, h3⟩ := h
  show (if _ then _ else _ : St3).1 = 0 ∧ (if _ then _ else _ : St3).2.1 = -1 ∧ f ≤ (if _ then _ else _ : St3).2.2
  split
  · exact ⟨h1, h2, h3⟩
  · rename_i hs
    simp only [iSkip, Bool.or_eq_true, Bool.not_eq_true', not_or, Bool.not_eq_false] at hs
    have := inB_true hs.2
    unfold upd
    rw [if_neg (by omega)]
    exact ⟨h1, h2, by simp only; omega⟩
/-- What the program's loop with its sentinel comes to. -/
theorem calm_end {l : List Blow} {s f t u : Int} (ha : areBlows l = true) (hs : 0 ≤ s) (hf : inB f 0 9999 = true) (ht : inB t 0 9999 = true) :
    fin3 (iTo (l ++ [⟨t + 1, u, 0⟩]) s f t (l.length + 1)) = calmP l s f t := by
  have h1 := inB_true hf
  have h2 := inB_true ht
  have ek : ∀ k, k ≤ l.length → iTo (l ++ [⟨t + 1, u, 0⟩]) s f t k = iTo l s f t k := fun k hk => loopTo_congr fun i st hi => by
    have : (l ++ [(⟨t + 1, u, 0⟩ : Blow)])[i]! = l[i]! := by
      rw [getElem!_pos _ i (by simp; omega), getElem!_pos l i (by omega), List.getElem_append_left]
    rw [this]
  have el : (l ++ [(⟨t + 1, u, 0⟩ : Blow)])[l.length]! = ⟨t + 1, u, 0⟩ := by
    rw [getElem!_pos _ _ (by simp)]; simp
  have ei : iTo (l ++ [⟨t + 1, u, 0⟩]) s f t (l.length + 1) = if iSkip s f t ⟨t + 1, u, 0⟩ then iTo l s f t l.length else upd (t + 1) (iTo l s f t l.length) := by
    rw [iTo_succ, el, ek _ (Nat.le_refl _)]
  rw [ei]
  by_cases hft : f ≤ t
  · have e1 : iSkip s f t ⟨t + 1, u, 0⟩ = false := by
      have q1 : decide (t + 1 ≤ t) = false := by simp; omega
      have q2 : inB (t + 1) f (t + 1) = true := inB_mk (by omega) (by omega)
      simp [iSkip, q2]; omega
    have ec : calmP l s f t = fin3 (upd (t + 1) (sTo l s f t l.length)) := by
      unfold calmP
      rw [if_pos (by simp [ha, hs, inB_mk h1.1 hft]; omega)]
    rw [e1, ec]
    rcases calm_same (s := s) ha hft l.length (Nat.le_refl _) with h | ⟨h, _, _⟩
    · rw [h]; rfl
    · rw [h]
      show fin3 (upd (t + 1) (upd (t + 1) _)) = _
      rw [upd_twice (sTo_len l s f t l.length)]
  · have ec : calmP l s f t = (0, 0, false) := by
      unfold calmP
      rw [if_neg (by simp [inB_no (show f < 0 ∨ t < f by omega)])]
    rw [ec]
    obtain ⟨a, b, c⟩ := calm_none (l := l) (s := s) (show t < f by omega) l.length
    split
    · unfold fin3; rw [if_pos (by omega)]
    · unfold upd
      rw [if_neg (by omega)]
      unfold fin3; rw [if_pos (by simp only; omega)]
end Go.Proofs.Ytopdbacgceoddaa
