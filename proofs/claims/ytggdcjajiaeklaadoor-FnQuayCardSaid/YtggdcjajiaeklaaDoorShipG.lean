/- Ships after the rota of a water: what both programs reckon, with no program in sight. -/
import Derived.Test.YtggdcjajiaeklaaDoorShipF
namespace Go.Proofs.YtggdcjajiaeklaaDoor
open Go.RowKit
/-- The ship k is taken for the best when b is the best so far. -/
def takes (S : List Ship) (wt : List Int) (d : Nat) (k : Nat) (b : Int) : Bool :=
  mayP S[k]! wt d && (decide (S[k]!.loaded < S[k]!.holds) && (decide (b < 0) || decide (S[k]!.leave < S[b.toNat]!.leave)))
def bestTo (S : List Ship) (wt : List Int) (d : Nat) (k : Nat) : Int := loopTo (fun i b => if takes S wt d i b then (i : Int) else b) (-1) k
theorem bestTo_succ (S : List Ship) (wt : List Int) (d k : Nat) : bestTo S wt d (k + 1) = if takes S wt d k (bestTo S wt d k) then (k : Int) else bestTo S wt d k := rfl
theorem bestTo_rng (S : List Ship) (wt : List Int) (d : Nat) : ∀ k, -1 ≤ bestTo S wt d k ∧ bestTo S wt d k < k
  | 0 => by simp [bestTo, loopTo]
  | k + 1 => by
    have := bestTo_rng S wt d k
    rw [bestTo_succ]
    split <;> omega
def topUp (x : Ship) : Ship := { x with loaded := x.loaded + min 300 (x.holds - x.loaded) }
def loadS (S : List Ship) (b : Int) : List Ship := if 0 ≤ b then S.set b.toNat (topUp S[b.toNat]!) else S
def givenS (S : List Ship) (b : Int) : Int := if 0 ≤ b then min 300 (S[b.toNat]!.holds - S[b.toNat]!.loaded) else 0
def rotaS (l : List Ship) (wt : List Int) : Nat → List Ship
  | 0 => l
  | d + 1 => loadS (rotaS l wt d) (bestTo (rotaS l wt d) wt d l.length)
def rotaB (l : List Ship) (wt : List Int) (d : Nat) : Int := bestTo (rotaS l wt d) wt d l.length
def rotaD (l : List Ship) (wt : List Int) : Nat → List Int
  | 0 => []
  | d + 1 => rotaD l wt d ++ [rotaB l wt d]
def rotaT (l : List Ship) (wt : List Int) : Nat → Int
  | 0 => 0
  | d + 1 => rotaT l wt d + givenS (rotaS l wt d) (rotaB l wt d)
theorem rotaS_succ (l : List Ship) (wt : List Int) (d : Nat) : rotaS l wt (d + 1) = loadS (rotaS l wt d) (rotaB l wt d) := rfl
theorem loadS_length (S : List Ship) (b : Int) : (loadS S b).length = S.length := by unfold loadS; split <;> simp
theorem rotaS_length (l : List Ship) (wt : List Int) : ∀ d, (rotaS l wt d).length = l.length
  | 0 => rfl
  | d + 1 => by rw [rotaS_succ, loadS_length, rotaS_length l wt d]
theorem rotaD_length (l : List Ship) (wt : List Int) : ∀ d, (rotaD l wt d).length = d
  | 0 => rfl
  | d + 1 => by simp [rotaD, rotaD_length l wt d]
theorem rotaB_rng (l : List Ship) (wt : List Int) (d : Nat) : -1 ≤ rotaB l wt d ∧ rotaB l wt d < l.length := bestTo_rng _ _ _ _
/-- The ship y is the ship x with more in it. -/
def Fuller (x y : Ship) : Prop := y.id = x.id ∧ y.come = x.come ∧ y.leave = x.leave ∧ y.draft = x.draft ∧ y.holds = x.holds ∧ x.loaded ≤ y.loaded ∧ y.loaded ≤ y.holds
theorem Fuller.refl {x : Ship} (h : x.loaded ≤ x.holds) : Fuller x x := ⟨rfl, rfl, rfl, rfl, rfl, Int.le_refl _, h⟩
theorem Fuller.topUp {x y : Ship} (h : Fuller x y) : Fuller x (topUp y) := by
  obtain ⟨a, b, c, d, e, f, g⟩ := h
  refine ⟨a, b, c, d, e, ?_, ?_⟩ <;> simp only [Go.Proofs.YtggdcjajiaeklaaDoor.topUp] <;> omega
def Fuls (l S : List Ship) : Prop := S.length = l.length ∧ ∀ (i : Nat) (x y : Ship), l[i]? = some x → S[i]? = some y → Fuller x y
theorem Fuls.load {l S : List Ship} (h : Fuls l S) (b : Int) : Fuls l (loadS S b) := by
  refine ⟨(loadS_length S b).trans h.1, fun i x y hx hy => ?_⟩
  unfold loadS at hy
  split at hy
  · rw [List.getElem?_set] at hy
    split at hy
    · rename_i h0 hi
      split at hy
      · rename_i hlt
        injection hy with hy
        subst hy
        have hs : S[i]? = some S[i]! := by simp [← hi, hlt]
        rw [hi]
        exact (h.2 i x _ hx hs).topUp
      · cases hy
    · exact h.2 i x y hx hy
  · exact h.2 i x y hx hy
theorem rotaS_fuls {l : List Ship} (hl : ∀ (i : Nat) (x : Ship), l[i]? = some x → x.loaded ≤ x.holds) (wt : List Int) : ∀ d, Fuls l (rotaS l wt d)
  | 0 => ⟨rfl, fun i x y hx hy => by rw [show rotaS l wt 0 = l from rfl, hx] at hy; injection hy with hy; subst hy; exact .refl (hl i x hx)⟩
  | d + 1 => (rotaS_fuls hl wt d).load _
theorem Fuls.ok {l S : List Ship} (h : Fuls l S) {i : Nat} {y : Ship} (hy : S[i]? = some y) : ∃ x, l[i]? = some x ∧ Fuller x y := by
  have hi : i < l.length := by rw [← h.1]; exact (List.getElem?_eq_some_iff.1 hy).1
  exact ⟨l[i], List.getElem?_eq_getElem hi, h.2 i _ y (List.getElem?_eq_getElem hi) hy⟩
/-! The sum of what was loaded is the difference of the loads. -/
def sumTo (l S : List Ship) (k : Nat) : Int := loopTo (fun i t => t + S[i]!.loaded - l[i]!.loaded) 0 k
theorem sumTo_succ (l S : List Ship) (k : Nat) : sumTo l S (k + 1) = sumTo l S k + S[k]!.loaded - l[k]!.loaded := rfl
theorem sumTo_self (l : List Ship) : ∀ k, sumTo l l k = 0
  | 0 => rfl
  | k + 1 => by rw [sumTo_succ, sumTo_self l k]; omega
theorem sumTo_load (l S : List Ship) (b : Int) : ∀ k, b < S.length → sumTo l (loadS S b) k = sumTo l S k + if b < k then givenS S b else 0
  | 0, _ => by
    simp only [sumTo, loopTo]
    split
    · rename_i h
      unfold givenS
      rw [if_neg (by omega)]; rfl
    · rfl
  | k + 1, hb => by
    rw [sumTo_succ, sumTo_succ, sumTo_load l S b k hb]
    by_cases h0 : 0 ≤ b
    · by_cases hk : b = k
      · subst hk
        have hlt : k < S.length := by omega
        have e : (loadS S k)[k]! = topUp S[k]! := by
          unfold loadS; rw [if_pos h0]
          simp [hlt]
        have g : givenS S (k : Int) = min 300 (S[k]!.holds - S[k]!.loaded) := by
          unfold givenS; rw [if_pos h0, Int.toNat_natCast]
        rw [e, g, if_neg (by omega), if_pos (by omega)]
        simp only [topUp]
        omega
      · have e : (loadS S b)[k]! = S[k]! := by
          unfold loadS; rw [if_pos h0]
          simp [List.getElem!_eq_getElem?_getD, List.getElem?_set_ne (show b.toNat ≠ k by omega)]
        rw [e]
        by_cases h : b < k
        · rw [if_pos h, if_pos (by omega)]; omega
        · rw [if_neg h, if_neg (by omega)]; omega
    · have e : loadS S b = S := by unfold loadS; rw [if_neg h0]
      have g : givenS S b = 0 := by unfold givenS; rw [if_neg h0]
      rw [e, g]; simp
theorem rotaT_sum (l : List Ship) (wt : List Int) : ∀ d, sumTo l (rotaS l wt d) l.length = rotaT l wt d
  | 0 => sumTo_self l _
  | d + 1 => by
    have hb := (rotaB_rng l wt d).2
    rw [rotaS_succ, sumTo_load l _ _ _ (by rw [rotaS_length]; exact hb), if_pos hb, rotaT_sum l wt d]
    rfl
theorem rotaT_rng {l : List Ship} (wt : List Int) (hl : ∀ (i : Nat) (x : Ship), l[i]? = some x → x.loaded ≤ x.holds) : ∀ d : Nat, 0 ≤ rotaT l wt d ∧ rotaT l wt d ≤ 300 * d
  | 0 => by simp [rotaT]
  | d + 1 => by
    have ih := rotaT_rng wt hl d
    have : 0 ≤ givenS (rotaS l wt d) (rotaB l wt d) ∧ givenS (rotaS l wt d) (rotaB l wt d) ≤ 300 := by
      unfold givenS
      split
      · rename_i h0
        have hb := (rotaB_rng l wt d).2
        have hS := rotaS_fuls hl wt d
        have hlt : (rotaB l wt d).toNat < (rotaS l wt d).length := by rw [rotaS_length]; omega
        obtain ⟨x, _, hf⟩ := hS.ok (i := (rotaB l wt d).toNat) (y := (rotaS l wt d)[(rotaB l wt d).toNat]!) (by simp [hlt])
        obtain ⟨_, _, _, _, _, _, h7⟩ := hf
        omega
      · omega
    rw [rotaT]
    push_cast
    omega
/-! A water that is longer says nothing else of the days before. -/
theorem takes_take (S : List Ship) (wt : List Int) (m d : Nat) (hd : d < m) (k : Nat) (b : Int) : takes S (wt.take m) d k b = takes S wt d k b := by
  have e : (wt.take m)[d]! = wt[d]! := by
    rw [List.getElem!_eq_getElem?_getD, List.getElem!_eq_getElem?_getD, List.getElem?_take, if_pos hd]
  unfold takes mayP
  rw [e]
theorem bestTo_take (S : List Ship) (wt : List Int) (m d : Nat) (hd : d < m) : ∀ k, bestTo S (wt.take m) d k = bestTo S wt d k
  | 0 => rfl
  | k + 1 => by rw [bestTo_succ, bestTo_succ, bestTo_take S wt m d hd k, takes_take S wt m d hd]
theorem rotaS_take (l : List Ship) (wt : List Int) (m : Nat) : ∀ d, d ≤ m → rotaS l (wt.take m) d = rotaS l wt d
  | 0, _ => rfl
  | d + 1, h => by
    show loadS (rotaS l (wt.take m) d) (bestTo (rotaS l (wt.take m) d) (wt.take m) d l.length) = _
    rw [rotaS_take l wt m d (by omega), bestTo_take _ _ _ _ (by omega)]
    rfl
end Go.Proofs.YtggdcjajiaeklaaDoor
