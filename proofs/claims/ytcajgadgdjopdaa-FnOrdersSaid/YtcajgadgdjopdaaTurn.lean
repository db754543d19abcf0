/- One block alone is turned: what a marking leaves. -/
import Derived.Test.YtcajgadgdjopdaaBase
namespace Go.Proofs.Ytcajgadgdjopdaa
open Go.RowKit
structure Turn (A : Option Addr) (w w' : World) : Prop where
  os : w'.os = w.os
  tape : w'.tape = w.tape
  output : w'.output = w.output
  size : w'.heap.size = w.heap.size
  block : ∀ k, (∀ a, A = some a → k ≠ a.block) → w'.heap[k]? = w.heap[k]?
def Lo (B : Nat) (A : Option Addr) : Prop := ∀ a, A = some a → B ≤ a.block
def Hi (B : Nat) (A : Option Addr) : Prop := ∀ a, A = some a → a.block < B
section
variable {A A' : Option Addr} {w w' w'' : World} {B B' : Nat}
theorem Turn.refl : Turn A w w := ⟨rfl, rfl, rfl, rfl, fun _ _ => rfl⟩
theorem Turn.setCell {g i : Nat} (h : Turn (some ⟨g, 0, none⟩) w w') (u : Value) : Turn (some ⟨g, 0, none⟩) w (w'.setCell ⟨g, i, none⟩ u) :=
  ⟨h.os, h.tape, h.output, by simpa [World.setCell] using h.size, fun k hk => (Below.heap_setCell w' ⟨g, i, none⟩ u k (hk ⟨g, 0, none⟩ rfl)).trans (h.block k hk)⟩
theorem Turn.put {g : Nat} : ∀ (vs : List Value) {w' : World} (off : Nat), Turn (some ⟨g, 0, none⟩) w w' → Turn (some ⟨g, 0, none⟩) w (putC w' g off vs)
  | [], _, _, h => h
  | v :: r, _, off, h => Turn.put r (off + 1) (h.setCell v)
theorem Turn.below (h : Turn A w w') (hA : Lo B A) : Below B w w' := ⟨h.os, h.tape, h.output, by rw [h.size]; exact Nat.le_refl _, fun k hk => h.block k fun a ha e => by have := hA a ha; omega⟩
theorem Lo.mono (h : Lo B A) (hB : B' ≤ B) : Lo B' A := fun a ha => Nat.le_trans hB (h a ha)
theorem Hi.mono (h : Hi B A) (hB : B ≤ B') : Hi B' A := fun a ha => Nat.lt_of_lt_of_le (h a ha) hB
variable {α : Type} {E : Enc α} {base n c : Nat} {e : TypeId} {l : List α}
theorem Own.lo (h : Own E w base e (.slice A n c) l) : Lo base A := by
  rintro a rfl
  obtain ⟨hl, h⟩ := h
  rcases h with ⟨h, _⟩ | ⟨g', cap, cur, hv, hg, r⟩
  · cases h
  · injection hv with h1 h2 h3
    injection h1 with h1
    subst h1
    exact hg
theorem Own.hi (h : Own E w base e (.slice A n c) l) : Hi w.heap.size A := by
  rintro a rfl
  obtain ⟨hl, h⟩ := h
  rcases h with ⟨h, _⟩ | ⟨g', cap, cur, hv, hg, hh, r⟩
  · cases h
  · injection hv with h1 h2 h3
    injection h1 with h1
    subst h1
    rcases Nat.lt_or_ge g' w.heap.size with hlt | hge
    · exact hlt
    · rw [Array.getElem?_eq_none hge] at hh; cases hh
theorem Own.len (h : Own E w base e (.slice A n c) l) : l.length = n := by
  obtain ⟨A', c', he, _, _, _⟩ := h.slice
  cases he
  rfl
theorem Own.cap (h : Own E w base e (.slice A n c) l) : n ≤ c := by
  obtain ⟨A', c', he, hc, _⟩ := h.slice
  cases he
  exact hc
theorem Own.capMax (h : Own E w base e (.slice A n c) l) : c ≤ maxLen := by
  obtain ⟨A', c', he, _, hc, _⟩ := h.slice
  cases he
  exact hc
theorem Own.rd (h : Own E w base e (.slice A n c) l) : Sl E w w.heap.size A l := by
  obtain ⟨A', c', he, _, _, hs⟩ := h.slice
  cases he
  exact hs
theorem Own.turn (h : Own E w base e (.slice A' n c) l) (t : Turn A w w') (hA : Hi base A) : Own E w' base e (.slice A' n c) l := by
  obtain ⟨hl, h⟩ := h
  refine ⟨hl, ?_⟩
  rcases h with h | ⟨g', cap, cur, hv, hg, hh, r⟩
  · exact .inl h
  · exact .inr ⟨g', cap, cur, hv, hg, (t.block g' fun a ha e => by have := hA a ha; omega).trans hh, r⟩
theorem Sl.turn (h : Sl E w B A' l) (t : Turn A w w') (hA : Lo B A) : Sl E w' B A' l := fun hn => by
  obtain ⟨b, off, e, hb, hc⟩ := h hn
  exact ⟨b, off, e, hb, fun i x hx j z hz => (World.cell?_of_block (w := w) (t.block b fun a ha e => by have := hA a ha; omega)).trans (hc i x hx j z hz)⟩
/-- The block of a row of one's own, and the row out of its block. -/
theorem Own.open_ (h : Own E w base e (.slice A n c) l) : (A = none ∧ n = 0) ∨ ∃ g cs, A = some ⟨g, 0, none⟩ ∧ base ≤ g ∧ Blk w g e cs ∧ cs.size = c * E.k ∧ n ≤ c ∧ c ≤ maxLen := by
  obtain ⟨hl, h⟩ := h
  rcases h with ⟨h, h2⟩ | ⟨g', cap, cur, hv, hg, hh, hc, hm, hs, ht⟩
  · injection h with h1 h2 h3
    exact .inl ⟨h1, by omega⟩
  · injection hv with h1 h2 h3
    subst h1 h2 h3
    exact .inr ⟨g', cur, rfl, hg, hh, hs, hc, hm⟩
theorem Own.of_marks {g : Nat} {cs : Array Value} (hg : base ≤ g) (h : Blk w g e cs) (hl : l.length = n) (hn : n ≤ c) (hs : cs.size = c * E.k)
    (hc : ∀ j, j < n * E.k → cs[j]? = (flat E l)[j]?) (hm : c ≤ maxLen) : Own E w base e (.slice (some ⟨g, 0, none⟩) n c) l := by
  subst hl
  refine ⟨flat_length l, .inr ⟨g, c, cs, rfl, hg, h, hn, hm, hs, ?_⟩⟩
  apply List.ext_getElem?
  intro j
  rw [List.getElem?_take]
  split
  · rename_i hj; rw [← hc j hj]; simp
  · rename_i hj; rw [List.getElem?_eq_none (by rw [flat_length]; omega)]
/-- One element more is laid, in a row that may have room. -/
theorem fill_step' {cs : Array Value} {l : List α} {N k : Nat} {x : α} (hs : cs.size = N * E.k) (hk : k < N) (hx : l[k]? = some x)
    (h : ∀ j, j < k * E.k → cs[j]? = (flat E l)[j]?) : ∀ j, j < (k + 1) * E.k → (setAll cs (k * E.k) ((E.f x).map (Value.int .i64)))[j]? = (flat E l)[j]? := fill_step hs hk hx h
end
end Go.Proofs.Ytcajgadgdjopdaa
