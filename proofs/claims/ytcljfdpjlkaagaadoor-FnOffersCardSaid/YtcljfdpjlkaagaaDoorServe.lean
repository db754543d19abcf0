/- Contracts: serving one. -/
import Derived.Test.YtcljfdpjlkaagaaDoorContractC
import Derived.Test.YtcljfdpjlkaagaaDoorSet
import Derived.Lib.SliceRun
import Derived.Deep.RegionHeld3
namespace Go.Proofs.YtcljfdpjlkaagaaDoor
open Go.RowKit
theorem Own.setInt {w : World} {base n c g i : Nat} {e : TypeId} {l : List Int} (h : Own encInt w base e (.slice (some ⟨g, 0, none⟩) n c) l) (hi : i < n) (z : Int) :
    Own encInt (w.setCell ⟨g, i, none⟩ (.int .i64 z)) base e (.slice (some ⟨g, 0, none⟩) n c) (l.set i z) := by
  have hlen := h.len
  exact h.setField hi (x := l[i]'(by omega)) (j := 0) (y := z) (z := z) (List.getElem?_eq_getElem _) (by decide) rfl (by simp [encInt])
theorem Own.int {w : World} {base g n c i : Nat} {e : TypeId} {l : List Int} {x : Int} (h : Own encInt w base e (.slice (some ⟨g, 0, none⟩) n c) l) (hx : l[i]? = some x) :
    g < w.heap.size ∧ w.cell? ⟨g, i, none⟩ = some (.int .i64 x) := by
  obtain ⟨b, off, e', hb, hc⟩ := h.rd.int_ (by have := (List.getElem?_eq_some_iff.1 hx).1; omega)
  injection e' with e'
  injection e' with e1 e2
  subst e1 e2
  have := hc i x hx
  simp only [Nat.zero_add] at this
  exact ⟨hb, this⟩
/-! What serving comes to, grade after grade. -/
def serveTo (t : Int) (g : Nat) (s : List Int) : Nat → List Int × Int
  | 0 => (s, 0)
  | j + 1 => ((serveTo t g s j).1.set (g - 1 - j) ((serveTo t g s j).1[g - 1 - j]! - min (t - (serveTo t g s j).2) (serveTo t g s j).1[g - 1 - j]!), (serveTo t g s j).2 + min (t - (serveTo t g s j).2) (serveTo t g s j).1[g - 1 - j]!)
def serveP (s : List Int) (x : Contract) : List Int × Int := serveTo x.tons x.grade.toNat s x.grade.toNat
def StockIn (s : List Int) : Prop := s.length = 4 ∧ ∀ (i : Nat) (x : Int), s[i]? = some x → 0 ≤ x ∧ x ≤ 50000
theorem StockIn.at_ {s : List Int} (h : StockIn s) {i : Nat} (hi : i < 4) : s[i]? = some s[i]! ∧ 0 ≤ s[i]! ∧ s[i]! ≤ 50000 := by
  have e : s[i]? = some s[i]! := by
    rw [List.getElem?_eq_getElem (by rw [h.1]; exact hi), getElem!_pos s i (by rw [h.1]; exact hi)]
  exact ⟨e, h.2 i _ e⟩
theorem StockIn.set {s : List Int} (h : StockIn s) {i : Nat} {z : Int} (h0 : 0 ≤ z) (h1 : z ≤ 50000) : StockIn (s.set i z) := by
  refine ⟨by simpa using h.1, fun j x hx => ?_⟩
  rw [List.getElem?_set] at hx
  split at hx
  · split at hx
    · injection hx with hx; subst hx; exact ⟨h0, h1⟩
    · cases hx
  · exact h.2 j x hx
theorem serveTo_in {t : Int} {g : Nat} {s : List Int} (ht : 0 ≤ t) (hg : g ≤ 4) (hs : StockIn s) : ∀ j, j ≤ g → StockIn (serveTo t g s j).1 ∧ 0 ≤ (serveTo t g s j).2 ∧ (serveTo t g s j).2 ≤ t
  | 0, _ => ⟨hs, Int.le_refl _, ht⟩
  | j + 1, hj => by
    obtain ⟨h1, h2, h3⟩ := serveTo_in ht hg hs j (by omega)
    obtain ⟨_, h5, h6⟩ := h1.at_ (i := g - 1 - j) (by omega)
    refine ⟨h1.set (by omega) (by omega), ?_, ?_⟩
    · simp only [serveTo]; omega
    · simp only [serveTo]; omega
theorem serveTo_step {t : Int} {g q : Nat} {s S : List Int} {d x : Int} (hq : q + 1 ≤ g) (h : serveTo t g s (g - (q + 1)) = (S, d)) (hx : S[q]? = some x) :
    serveTo t g s (g - q) = (S.set q (x - min (t - d) x), d + min (t - d) x) := by
  have e : g - q = (g - (q + 1)) + 1 := by omega
  have e2 : g - 1 - (g - (q + 1)) = q := by omega
  rw [e, serveTo, h, e2, List.getElem!_of_getElem? hx]
end Go.Proofs.YtcljfdpjlkaagaaDoor
