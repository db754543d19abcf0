/- A slice argument of ints, as a list. -/
import Derived.Test.YtbedepmcecdhfaaFrame
import Derived.Test.YtbedepmcecdhfaaInts
namespace Go.Proofs.Ytbedepmcecdhfaa
open Go.ChangeShapes Go.WideShapes Go.ChangeAt Go.RowKit Go.Deep
theorem open_is {H : Type} {enc : TypeId × Value → H} {P : Program} {W : World} {t e : TypeId} {v : Value} {d : DataW H} {p : List MemPlace} {r : Reach} {b0 : Nat}
    (ht : P.underlying t = some (.slice e)) (he : P.underlying e = some (.int .i64)) (hC : P.cellsOf e = 1)
    (hv : Value.okWide P W r b0 t v) (h : DataW.Trod enc P W 0 (fun _ => true) true t v d p) :
    ∃ (A : Option Addr) (n c : Nat) (l : List Int), v = .slice A n c ∧ l.length = n ∧ n ≤ maxLen ∧ Sl encInt W W.heap.size A l ∧ ∀ x ∈ l, I64 x := by
  obtain ⟨a0, len, cap, rfl⟩ := okWide_slice ht hv
  obtain ⟨fuel, hf⟩ := h
  rcases open_slice ht hf with ⟨hcs, hx⟩ | ⟨a, len', cap', m, n, D, Pl, hcs, hb, hl, hm, hmm, hx, hi⟩
  · have hv : a0 = none ∧ len = 0 ∧ cap = 0 := by simpa [Value.cells] using hcs
    obtain ⟨rfl, rfl, rfl⟩ := hv
    exact ⟨none, 0, 0, [], rfl, rfl, by unfold maxLen; omega, fun h => absurd h (by simp), fun x hx => by cases hx⟩
  · have hv : a0 = some a ∧ len = len' ∧ cap = cap' := by simpa [Value.cells] using hcs
    obtain ⟨rfl, rfl, rfl⟩ := hv
    simp only [if_true] at hmm
    rw [hmm] at hi
    clear hx hmm m
    have key : ∀ i, i < cap → ∃ z : Int, I64 z ∧ W.cell? (a.add i) = some (.int .i64 z) := by
      intro i him
      obtain ⟨cs', hc, ht'⟩ := hi i him
      rw [hC] at hc
      obtain ⟨_, hcl, hat⟩ := World.cells?_some hc
      match cs', hcl with
      | [u], _ =>
        obtain ⟨z, h1, _, h3⟩ := DataW.trod_int he ht'
        refine ⟨z, h3, ?_⟩
        have := hat 0 (by omega)
        rw [Go.Deep.add_add, Nat.mul_one, Nat.add_zero] at this
        rw [this]
        simpa using h1
    have hch : ∃ G : Nat → Int, ∀ i, i < cap → I64 (G i) ∧ W.cell? (a.add i) = some (.int .i64 (G i)) := by
      classical
      exact ⟨fun i => if h : i < cap then Classical.choose (key i h) else 0, fun i h => by simpa [h] using Classical.choose_spec (key i h)⟩
    obtain ⟨G, hG⟩ := hch
    refine ⟨some a, len, cap, (List.range len).map G, rfl, by simp, by omega, fun hn => ?_, fun x hx => ?_⟩
    · have hlen : 0 < len := by simpa using hn
      obtain ⟨_, hc0⟩ := hG 0 (by omega)
      obtain ⟨ab, ao, asp⟩ := a
      have h0 : W.cell? ⟨ab, ao, asp⟩ = some (.int .i64 (G 0)) := by simpa [Addr.add] using hc0
      obtain ⟨hlt, rfl⟩ := cell_some_lt h0
      refine ⟨ab, ao, rfl, hlt, fun i x hx j z hz => ?_⟩
      rw [List.getElem?_map] at hx
      have hi' : i < len := by
        rcases Nat.lt_or_ge i len with h | h
        · exact h
        · rw [List.getElem?_eq_none (by simpa using h)] at hx; cases hx
      rw [List.getElem?_eq_getElem (by simpa using hi')] at hx
      simp at hx
      subst hx
      have hj : j = 0 := by
        have := (List.getElem?_eq_some_iff.1 hz).1
        simp [encInt] at this
        exact this
      subst hj
      simp [encInt] at hz
      subst hz
      obtain ⟨_, q3⟩ := hG i (by omega)
      rw [add_plain rfl] at q3
      rw [← q3]
      simp [encInt]
    · simp only [List.mem_map, List.mem_range] at hx
      obtain ⟨i, hi', rfl⟩ := hx
      exact (hG i (by omega)).1
end Go.Proofs.Ytbedepmcecdhfaa
