/- Levels with a sum: plain laws. The program counts gauge after gauge, the reference counts all numbers. -/
import Derived.Test.YtbedepmcecdhfaaGaugeB
namespace Go.Proofs.Ytbedepmcecdhfaa
open Go.RowKit
def levB : List Gauge → List Int → Bool
  | [], [] => true
  | a :: r, v :: d => inB v a.least a.most && levB r d
  | [], _ :: _ => false
  | _ :: _, [] => false
theorem areLevels_iff (g : List Gauge) (l : List Int) : areLevels g l = true ↔ l.length = g.length ∧ ∀ i, i < g.length → inB l[i]! g[i]!.least g[i]!.most = true := by
  simp only [areLevels, Bool.and_eq_true, decide_eq_true_eq, Option.isNone_iff_eq_none]
  constructor
  · rintro ⟨h1, h2⟩
    refine ⟨h1, fun i hi => ?_⟩
    have := firstTo_none h2 i hi
    simpa [badLevel] using this
  · rintro ⟨h1, h2⟩
    exact ⟨h1, firstTo_of_none fun i hi => by unfold badLevel; rw [h2 i hi]; rfl⟩
theorem levB_iff : ∀ (g : List Gauge) (l : List Int), levB g l = true ↔ l.length = g.length ∧ ∀ i, i < g.length → inB l[i]! g[i]!.least g[i]!.most = true
  | [], [] => by simp [levB]
  | [], _ :: _ => by simp [levB]
  | _ :: _, [] => by simp [levB]
  | a :: r, v :: d => by
    simp only [levB, Bool.and_eq_true, levB_iff r d, List.length_cons, Nat.add_right_cancel_iff]
    constructor
    · rintro ⟨h1, h2, h3⟩
      refine ⟨h2, fun i hi => ?_⟩
      rcases i with _ | i
      · simpa using h1
      · have := h3 i (by omega)
        simpa using this
    · rintro ⟨h1, h2⟩
      refine ⟨?_, h1, fun i hi => ?_⟩
      · have := h2 0 (by omega)
        simpa using this
      · have := h2 (i + 1) (by omega)
        simpa using this
theorem areLevels_eq (g : List Gauge) (l : List Int) : areLevels g l = levB g l := by
  rw [Bool.eq_iff_iff, areLevels_iff, levB_iff]
def digs : Nat → Nat → List Int
  | 0, _ => []
  | c + 1, n => digs c (n / 7) ++ [((n % 7 : Nat) : Int)]
theorem digs_length : ∀ c n, (digs c n).length = c
  | 0, _ => rfl
  | c + 1, n => by rw [digs, List.length_append, digs_length c]; rfl
theorem digs_top : ∀ (c v m : Nat), m < 7 ^ c → v < 7 → digs (c + 1) (v * 7 ^ c + m) = (v : Int) :: digs c m
  | 0, v, m, hm, hv => by
    have : m = 0 := by simpa using hm
    subst this
    simp [digs, Nat.mod_eq_of_lt hv]
  | c + 1, v, m, hm, hv => by
    have e : v * 7 ^ (c + 1) = (v * 7 ^ c) * 7 := by rw [Nat.pow_succ, Nat.mul_assoc]
    rw [digs, e]
    have h1 : (v * 7 ^ c * 7 + m) / 7 = v * 7 ^ c + m / 7 := by omega
    have h2 : (v * 7 ^ c * 7 + m) % 7 = m % 7 := by omega
    rw [h1, h2, digs_top c v (m / 7) (by rw [Nat.pow_succ] at hm; omega) hv]
    rfl
def cntTo (f : Nat → Bool) : Nat → Nat
  | 0 => 0
  | n + 1 => cntTo f n + (if f n then 1 else 0)
def sumN (h : Nat → Nat) : Nat → Nat
  | 0 => 0
  | n + 1 => sumN h n + h n
theorem cntTo_add (f : Nat → Bool) (a : Nat) : ∀ b, cntTo f (a + b) = cntTo f a + cntTo (fun j => f (a + j)) b
  | 0 => rfl
  | b + 1 => by
    show cntTo f (a + b) + (if f (a + b) = true then 1 else 0) = cntTo f a + (cntTo (fun j => f (a + j)) b + (if f (a + b) = true then 1 else 0))
    rw [cntTo_add f a b]
    omega
theorem cntTo_mul (f : Nat → Bool) (M : Nat) : ∀ k, cntTo f (k * M) = sumN (fun v => cntTo (fun m => f (v * M + m)) M) k
  | 0 => by simp [cntTo, sumN]
  | k + 1 => by rw [Nat.add_mul, Nat.one_mul, cntTo_add, cntTo_mul f M k]; rfl
theorem cntTo_congr {f g : Nat → Bool} : ∀ {n : Nat}, (∀ i, i < n → f i = g i) → cntTo f n = cntTo g n
  | 0, _ => rfl
  | n + 1, h => by rw [cntTo, cntTo, cntTo_congr (fun i hi => h i (by omega)), h n (by omega)]
theorem cntTo_none {f : Nat → Bool} : ∀ {n : Nat}, (∀ i, i < n → f i = false) → cntTo f n = 0
  | 0, _ => rfl
  | n + 1, h => by rw [cntTo, cntTo_none (fun i hi => h i (by omega)), h n (by omega)]; rfl
theorem cntTo_le (f : Nat → Bool) : ∀ n, cntTo f n ≤ n
  | 0 => Nat.le_refl _
  | n + 1 => by have := cntTo_le f n; rw [cntTo]; split <;> omega
theorem sumN_congr {f g : Nat → Nat} : ∀ {n : Nat}, (∀ i, i < n → f i = g i) → sumN f n = sumN g n
  | 0, _ => rfl
  | n + 1, h => by rw [sumN, sumN, sumN_congr (fun i hi => h i (by omega)), h n (by omega)]
theorem sumN_flat {h : Nat → Nat} {a : Nat} : ∀ b, (∀ j, a ≤ j → j < a + b → h j = 0) → sumN h (a + b) = sumN h a
  | 0, _ => rfl
  | b + 1, hz => by
    show sumN h (a + b) + h (a + b) = _
    rw [sumN_flat b (fun j h1 h2 => hz j h1 (by omega)), hz (a + b) (by omega) (by omega)]; rfl
theorem sumN_le {h : Nat → Nat} {X : Nat} : ∀ n, (∀ i, i < n → h i ≤ X) → sumN h n ≤ n * X
  | 0, _ => by simp [sumN]
  | n + 1, hx => by
    have := sumN_le n (fun i hi => hx i (by omega))
    have := hx n (by omega)
    rw [sumN, Nat.add_mul]; omega
def sumI : List Int → Int
  | [] => 0
  | x :: r => x + sumI r
def implC : List Gauge → Int → Nat
  | [], s => if s = 0 then 1 else 0
  | a :: r, s => sumN (fun v => if inB v a.least a.most then implC r (s - v) else 0) 7
theorem implC_le : ∀ (g : List Gauge) (s : Int), implC g s ≤ 7 ^ g.length
  | [], s => by unfold implC; split <;> simp
  | a :: r, s => by
    rw [implC, List.length_cons, Nat.pow_succ, Nat.mul_comm]
    refine sumN_le 7 fun i _ => ?_
    split
    · exact implC_le r _
    · exact Nat.zero_le _
def goodN (g : List Gauge) (s : Int) (n : Nat) : Bool := levB g (digs g.length n) && decide (sumI (digs g.length n) = s)
theorem count_eq : ∀ (g : List Gauge) (s : Int), cntTo (goodN g s) (7 ^ g.length) = implC g s
  | [], s => by
    show cntTo _ 1 = _
    unfold implC goodN
    simp only [cntTo, levB, digs, sumI, List.length_nil, Bool.true_and]
    by_cases h : s = 0
    · subst h; rfl
    · rw [if_neg h, if_neg (by simp; omega)]
  | a :: r, s => by
    rw [List.length_cons, Nat.pow_succ, Nat.mul_comm, cntTo_mul, implC]
    refine sumN_congr fun v hv => ?_
    have e : ∀ m, m < 7 ^ r.length → goodN (a :: r) s (v * 7 ^ r.length + m) = (inB v a.least a.most && goodN r (s - v) m) := fun m hm => by
      unfold goodN
      rw [List.length_cons, digs_top _ v m hm hv]
      have h1 : (sumI ((v : Int) :: digs r.length m) = s) ↔ (sumI (digs r.length m) = s - v) := by
        show ((v : Int) + sumI (digs r.length m) = s) ↔ _
        omega
      rw [decide_eq_decide.mpr h1, levB, Bool.and_assoc]
    rw [cntTo_congr e]
    split
    · rename_i h
      rw [← count_eq r (s - v)]
      exact cntTo_congr fun m _ => by rw [h]; rfl
    · rename_i h
      exact cntTo_none fun m _ => by simp [h]
end Go.Proofs.Ytbedepmcecdhfaa
