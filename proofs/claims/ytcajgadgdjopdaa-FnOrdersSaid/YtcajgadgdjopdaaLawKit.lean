/- For the laws over a code of bytes: the argument opened, the test of its length. -/
import Derived.Test.YtcajgadgdjopdaaDraw
import Derived.Test.YtcajgadgdjopdaaFrame
import Derived.Deep.Cut
namespace Go.Proofs.Ytcajgadgdjopdaa
open Go.ChangeShapes Go.WideShapes Go.ChangeAt Go.RowKit Go.Deep
theorem open_bytes {H : Type} {enc : TypeId × Value → H} {P : Program} {W : World} {t e : TypeId} {v : Value} {d : DataW H} {p : List MemPlace} {r : Reach} {b0 : Nat}
    (ht : P.underlying t = some (.slice e)) (he : P.underlying e = some (.int .u8)) (hC : P.cellsOf e = 1)
    (hv : Value.okWide P W r b0 t v) (h : DataW.Trod enc P W 0 (fun _ => true) true t v d p) :
    ∃ (A : Option Addr) (n c : Nat), v = .slice A n c ∧ Bytes W A n := by
  obtain ⟨a0, len, cap, rfl⟩ := okWide_slice ht hv
  obtain ⟨fuel, hf⟩ := h
  rcases open_slice ht hf with ⟨hcs, hx⟩ | ⟨a, len', cap', m, n, D, Pl, hcs, hb, hl, hm, hmm, hx, hi⟩
  · have hv : a0 = none ∧ len = 0 ∧ cap = 0 := by simpa [Value.cells] using hcs
    obtain ⟨rfl, rfl, rfl⟩ := hv
    exact ⟨none, 0, 0, rfl, by unfold maxLen; omega, fun h => absurd h (by simp)⟩
  · have hv : a0 = some a ∧ len = len' ∧ cap = cap' := by simpa [Value.cells] using hcs
    obtain ⟨rfl, rfl, rfl⟩ := hv
    simp only [if_true] at hmm
    rw [hmm] at hi
    clear hx hmm m
    have key : ∀ i, i < cap → ∃ z : Nat, z ≤ 255 ∧ W.cell? (a.add i) = some (.int .u8 z) := by
      intro i him
      obtain ⟨cs', hc, ht'⟩ := hi i him
      rw [hC] at hc
      obtain ⟨_, hcl, hat⟩ := World.cells?_some hc
      match cs', hcl with
      | [u], _ =>
        obtain ⟨z, h1, _, h3⟩ := DataW.trod_int he ht'
        have hz : 0 ≤ z ∧ z ≤ 255 := by
          have e1 : IntKind.u8.min = 0 := by decide
          have e2 : IntKind.u8.max = 255 := by decide
          simp only [Lit.wf, Bool.and_eq_true, decide_eq_true_eq, e1, e2] at h3
          omega
        refine ⟨z.toNat, by omega, ?_⟩
        have := hat 0 (by omega)
        rw [Go.Deep.add_add, Nat.mul_one, Nat.add_zero] at this
        rw [this, show ((z.toNat : Nat) : Int) = z by omega]
        simpa using h1
    refine ⟨some a, len, cap, rfl, by omega, fun hlen => ?_⟩
    obtain ⟨z0, _, hc0⟩ := key 0 (by omega)
    obtain ⟨ab, ao, asp⟩ := a
    have h0 : W.cell? ⟨ab, ao, asp⟩ = some (.int .u8 z0) := by simpa [Addr.add] using hc0
    obtain ⟨hlt, rfl⟩ := cell_some_lt h0
    refine ⟨ab, ao, rfl, hlt, fun j hj => ?_⟩
    obtain ⟨z, hz, hc⟩ := key j (by omega)
    rw [add_plain rfl] at hc
    exact ⟨z, hz, hc⟩
end Go.Proofs.Ytcajgadgdjopdaa
