/- Base words for all walks of this seat: rows of structs whose fields are ints, loops as functions of the count, small splits. -/
import Derived.WalkKit
import Derived.WalkSpells
import Derived.WalkLawsBesides
import Derived.Deep.QuietTactic
import Derived.BigQuiet
import Derived.Lib.Hide
namespace Go.Proofs.Ytcajgadgdjopdaa
open Go.RowKit

/-- The walk's own word for a range test. -/
def inB (x a b : Int) : Bool := decide (a ≤ x) && decide (x ≤ b)
theorem inB_true {x a b : Int} (h : inB x a b = true) : a ≤ x ∧ x ≤ b := by simpa [inB] using h
theorem inB_mk {x a b : Int} (h1 : a ≤ x) (h2 : x ≤ b) : inB x a b = true := by simp [inB, h1, h2]
theorem inB_false {x a b : Int} (h : inB x a b = false) : x < a ∨ b < x := by
  simp only [inB, Bool.and_eq_false_iff, decide_eq_false_iff_not] at h; omega
theorem inB_no {x a b : Int} (h : x < a ∨ b < x) : inB x a b = false := by
  simp only [inB, Bool.and_eq_false_iff, decide_eq_false_iff_not]; omega

/-- The least index below n that p holds at. -/
def firstTo (p : Nat → Bool) : Nat → Option Nat
  | 0 => none
  | n + 1 => match firstTo p n with
    | some i => some i
    | none => if p n then some n else none
theorem firstTo_hit {p : Nat → Bool} {k : Nat} (h0 : firstTo p k = none) (h1 : p k = true) : ∀ n, k < n → firstTo p n = some k
  | 0, h => by omega
  | n + 1, h => by
    unfold firstTo
    by_cases e : k = n
    · subst e; rw [h0]; simp [h1]
    · rw [firstTo_hit h0 h1 n (by omega)]
theorem firstTo_miss {p : Nat → Bool} {k : Nat} (h0 : firstTo p k = none) (h1 : p k = false) : firstTo p (k + 1) = none := by
  unfold firstTo; rw [h0]; simp [h1]
theorem firstTo_none {p : Nat → Bool} : ∀ {n : Nat}, firstTo p n = none → ∀ i, i < n → p i = false
  | 0, _, i, h => by omega
  | n + 1, h0, i, h => by
    unfold firstTo at h0
    cases e : firstTo p n with
    | some j => rw [e] at h0; simp at h0
    | none =>
      rw [e] at h0
      by_cases hi : i = n
      · subst hi; cases hp : p i with
        | false => rfl
        | true => simp [hp] at h0
      · exact firstTo_none e i (by omega)
theorem firstTo_of_none {p : Nat → Bool} : ∀ {n : Nat}, (∀ i, i < n → p i = false) → firstTo p n = none
  | 0, _ => rfl
  | n + 1, h => firstTo_miss (firstTo_of_none fun i hi => h i (by omega)) (h n (by omega))
theorem firstTo_some {p : Nat → Bool} : ∀ {n k : Nat}, firstTo p n = some k → k < n ∧ p k = true ∧ ∀ i, i < k → p i = false
  | 0, _, h => by simp [firstTo] at h
  | n + 1, k, h => by
    unfold firstTo at h
    cases e : firstTo p n with
    | some j =>
      rw [e] at h; simp at h; subst h
      have := firstTo_some e
      exact ⟨by omega, this.2⟩
    | none =>
      rw [e] at h
      cases hp : p n with
      | false => simp [hp] at h
      | true =>
        simp [hp] at h; subst h
        exact ⟨by omega, hp, firstTo_none e⟩
theorem firstTo_congr {p q : Nat → Bool} : ∀ {n : Nat}, (∀ i, i < n → p i = q i) → firstTo p n = firstTo q n
  | 0, _ => rfl
  | n + 1, h => by
    unfold firstTo; rw [firstTo_congr (fun i hi => h i (by omega)), h n (by omega)]

/-- The state behind n rounds. -/
def loopTo {S : Type} (f : Nat → S → S) (s : S) : Nat → S
  | 0 => s
  | n + 1 => f n (loopTo f s n)
theorem loopTo_congr {S : Type} {f g : Nat → S → S} {s : S} : ∀ {n : Nat}, (∀ i t, i < n → f i t = g i t) → loopTo f s n = loopTo g s n
  | 0, _ => rfl
  | n + 1, h => by
    show f n (loopTo f s n) = g n (loopTo g s n)
    rw [loopTo_congr (fun i t hi => h i t (by omega)), h n _ (by omega)]
theorem loopTo_inv {S : Type} {f : Nat → S → S} {s : S} (I : Nat → S → Prop) (h0 : I 0 s) : ∀ {n : Nat}, (∀ i t, i < n → I i t → I (i + 1) (f i t)) → I n (loopTo f s n)
  | 0, _ => h0
  | n + 1, h => h n _ (by omega) (loopTo_inv I h0 fun i t hi => h i t (by omega))

/-! ### Rows of elements of E.k ints -/
structure Enc (α : Type) where
  k : Nat
  f : α → List Int
  len : ∀ x, (f x).length = k

def encInt : Enc Int := ⟨1, fun x => [x], fun _ => rfl⟩

/-- The slice address A reads as the list l, in blocks below B. -/
def Sl {α : Type} (E : Enc α) (w : World) (B : Nat) (A : Option Addr) (l : List α) : Prop :=
  0 < l.length → ∃ b off, A = some ⟨b, off, none⟩ ∧ b < B ∧ ∀ i x, l[i]? = some x → ∀ j z, (E.f x)[j]? = some z → w.cell? ⟨b, off + i * E.k + j, none⟩ = some (.int .i64 z)

section
variable {α : Type} {E : Enc α} {w w' : World} {B B' : Nat} {A : Option Addr} {l : List α}
theorem Sl.keep (h : Sl E w B A l) (hk : ∀ p : Addr, p.block < B → w'.cell? p = w.cell? p) : Sl E w' B A l := fun hn => by
  obtain ⟨b, off, e, hb, hc⟩ := h hn
  exact ⟨b, off, e, hb, fun i x hx j z hz => (hk ⟨b, _, none⟩ hb).trans (hc i x hx j z hz)⟩
theorem Sl.below (h : Sl E w B A l) (hb : Below B w w') : Sl E w' B A l := h.keep fun _ hp => hb.cell hp
theorem Sl.more (h : Sl E w B A l) (hB : B ≤ B') : Sl E w B' A l := fun hn => by
  obtain ⟨b, off, e, hb, hc⟩ := h hn
  exact ⟨b, off, e, by omega, hc⟩
/-- Behind a call made at heap size B. -/
theorem Sl.past (h : Sl E w w.heap.size A l) (hb : Below w.heap.size w w') : Sl E w' w'.heap.size A l := (h.below hb).more hb.size
theorem Sl.take (h : Sl E w B A l) (n : Nat) : Sl E w B A (l.take n) := fun hn => by
  have h0 : 0 < l.length := by simp at hn; omega
  obtain ⟨b, off, e, hb, hc⟩ := h h0
  refine ⟨b, off, e, hb, fun i x hx => hc i x ?_⟩
  rw [List.getElem?_take] at hx
  split at hx
  · exact hx
  · cases hx
end

/-- The cells of a list, one behind the other. -/
def flat {α : Type} (E : Enc α) (l : List α) : List Value := l.flatMap fun x => (E.f x).map (Value.int .i64)
section
variable {α : Type} {E : Enc α}
theorem flat_length (l : List α) : (flat E l).length = l.length * E.k := by
  induction l with
  | nil => simp [flat]
  | cons x r ih =>
    have e : flat E (x :: r) = (E.f x).map (Value.int .i64) ++ flat E r := by simp [flat]
    rw [e, List.length_append, ih, List.length_map, E.len, List.length_cons, Nat.add_mul]; omega
theorem flat_append (l m : List α) : flat E (l ++ m) = flat E l ++ flat E m := by simp [flat]
theorem flat_one (x : α) : flat E [x] = (E.f x).map (Value.int .i64) := by simp [flat]
theorem flat_get : ∀ (l : List α) (i : Nat) (x : α), l[i]? = some x → ∀ (j : Nat) (z : Int), (E.f x)[j]? = some z → (flat E l)[i * E.k + j]? = some (.int .i64 z)
  | [], i, x, h => by simp at h
  | y :: r, 0, x, h => by
    intro j z hz
    simp at h; subst h
    have e : flat E (y :: r) = (E.f y).map (Value.int .i64) ++ flat E r := by simp [flat]
    have hj : j < (E.f y).length := (List.getElem?_eq_some_iff.1 hz).1
    rw [e, Nat.zero_mul, Nat.zero_add, List.getElem?_append_left (by simpa using hj), List.getElem?_map, hz]; rfl
  | y :: r, i + 1, x, h => by
    intro j z hz
    have e : flat E (y :: r) = (E.f y).map (Value.int .i64) ++ flat E r := by simp [flat]
    have hl : ((E.f y).map (Value.int .i64)).length = E.k := by rw [List.length_map, E.len]
    rw [e, List.getElem?_append_right (by rw [hl, Nat.add_mul]; omega), hl]
    have := flat_get r i x (by simpa using h) j z hz
    rw [← this]; congr 1; rw [Nat.add_mul]; omega
theorem flat_oneCell (l : List α) : ∀ u ∈ flat E l, u.oneCell' = true := by
  intro u hu
  simp only [flat, List.mem_flatMap, List.mem_map] at hu
  obtain ⟨_, _, _, _, rfl⟩ := hu
  rfl
end

/-- The slice value v is the call's own row (blocks from base on) of the elements l. -/
def Own {α : Type} (E : Enc α) (w : World) (base : Nat) (e : TypeId) (v : Value) (l : List α) : Prop := w.ownsRow base e E.k v l.length (flat E l)

section
variable {α : Type} {E : Enc α} {w w' : World} {base : Nat} {e : TypeId} {v : Value} {l : List α}
theorem Own.slice (h : Own E w base e v l) : ∃ A cap, v = .slice A l.length cap ∧ l.length ≤ cap ∧ cap ≤ maxLen ∧ Sl E w w.heap.size A l := by
  obtain ⟨hl, h⟩ := h
  rcases h with ⟨rfl, hn⟩ | ⟨g, cap, cur, rfl, hg, hh, hc, hm, hs, ht⟩
  · refine ⟨none, 0, by rw [hn], by omega, by unfold maxLen; omega, fun h => by omega⟩
  · refine ⟨some ⟨g, 0, none⟩, cap, rfl, hc, hm, fun hn => ⟨g, 0, rfl, ?_, ?_⟩⟩
    · rcases Nat.lt_or_ge g w.heap.size with hlt | hge
      · exact hlt
      · rw [Array.getElem?_eq_none hge] at hh; cases hh
    · intro i x hx j z hz
      have hf := flat_get l i x hx j z hz
      have hlt : i * E.k + j < (flat E l).length := (List.getElem?_eq_some_iff.1 hf).1
      rw [← ht, List.getElem?_take] at hf
      split at hf
      · have : w.cell? ⟨g, 0 + i * E.k + j, none⟩ = cur[0 + i * E.k + j]? := by simp [World.cell?, hh]
        rw [this, Nat.zero_add]
        simpa using hf
      · cases hf
theorem Own.own (h : Own E w base e v l) : w.ownsRow base e E.k v l.length (flat E l) := h
theorem Own.past {B : Nat} (h : Own E w base e v l) (hb : Below B w w') (hB : w.heap.size ≤ B) : Own E w' base e v l := by
  obtain ⟨hl, h⟩ := h
  refine ⟨hl, ?_⟩
  rcases h with h | ⟨g, cap, cur, rfl, hg, hh, r⟩
  · exact .inl h
  · refine .inr ⟨g, cap, cur, rfl, hg, ?_, r⟩
    have hlt : g < w.heap.size := by
      rcases Nat.lt_or_ge g w.heap.size with hlt | hge
      · exact hlt
      · rw [Array.getElem?_eq_none hge] at hh; cases hh
    rw [hb.block g (by omega)]; exact hh
theorem Own.lower (h : Own E w base e v l) {b : Nat} (hb : b ≤ base) : Own E w b e v l := by
  obtain ⟨hl, h⟩ := h
  refine ⟨hl, ?_⟩
  rcases h with h | ⟨g, cap, cur, rfl, hg, r⟩
  · exact .inl h
  · exact .inr ⟨g, cap, cur, rfl, by omega, r⟩
theorem Own.none_ : Own E w base e (.slice none 0 0) ([] : List α) := ⟨by simp [flat], .inl ⟨rfl, rfl⟩⟩
end

/-! ### Splits for a chain of tests: the first that is false, or all true -/
theorem sp1 (a : Bool) : a = false ∨ a = true := by cases a <;> simp
theorem sp2 (a b : Bool) : a = false ∨ (a = true ∧ b = false) ∨ (a = true ∧ b = true) := by cases a <;> cases b <;> simp
theorem sp3 (a b c : Bool) : a = false ∨ (a = true ∧ b = false) ∨ (a = true ∧ b = true ∧ c = false) ∨ (a = true ∧ b = true ∧ c = true) := by cases a <;> cases b <;> cases c <;> simp
theorem sp4 (a b c d : Bool) : a = false ∨ (a = true ∧ b = false) ∨ (a = true ∧ b = true ∧ c = false) ∨ (a = true ∧ b = true ∧ c = true ∧ d = false) ∨ (a = true ∧ b = true ∧ c = true ∧ d = true) := by
  cases a <;> cases b <;> cases c <;> cases d <;> simp
theorem sp5 (a b c d e : Bool) : a = false ∨ (a = true ∧ b = false) ∨ (a = true ∧ b = true ∧ c = false) ∨ (a = true ∧ b = true ∧ c = true ∧ d = false) ∨ (a = true ∧ b = true ∧ c = true ∧ d = true ∧ e = false) ∨ (a = true ∧ b = true ∧ c = true ∧ d = true ∧ e = true) := by
  cases a <;> cases b <;> cases c <;> cases d <;> cases e <;> simp
theorem sp6 (a b c d e f : Bool) : a = false ∨ (a = true ∧ b = false) ∨ (a = true ∧ b = true ∧ c = false) ∨ (a = true ∧ b = true ∧ c = true ∧ d = false) ∨ (a = true ∧ b = true ∧ c = true ∧ d = true ∧ e = false) ∨
    (a = true ∧ b = true ∧ c = true ∧ d = true ∧ e = true ∧ f = false) ∨ (a = true ∧ b = true ∧ c = true ∧ d = true ∧ e = true ∧ f = true) := by
  cases a <;> cases b <;> cases c <;> cases d <;> cases e <;> cases f <;> simp

theorem ret_bool {a b : Bool} (h : a = b) : Ending.returned (.bool a) = .returned (.bool b) := by rw [h]
theorem ret_int {a b : Int} (h : a = b) : Ending.returned (.int .i64 a) = .returned (.int .i64 b) := by rw [h]
/-- All old cells and marks read as before. -/
theorem bcell {W w1 : World} (hb : Below W.heap.size W w1) : (∀ b o, b < W.heap.size → w1.cell? ⟨b, o, none⟩ = W.cell? ⟨b, o, none⟩) ∧ (∀ b o, b < W.heap.size → w1.frozen? ⟨b, o, none⟩ = W.frozen? ⟨b, o, none⟩) :=
  ⟨fun b o h => hb.cell (p := ⟨b, o, none⟩) h, fun b o h => hb.frozen (p := ⟨b, o, none⟩) h⟩
theorem below_drewN {B : Nat} {a w : World} (h : Below B a w) (n : Nat) : Below B a (w.drewN n) := ⟨h.os, h.tape, h.output, h.size, h.block⟩

/-! ### A world that has grown: new blocks behind the old ones, some draws -/
structure GP where
  d : Nat
  os : Array Obj
deriving Inhabited
def gw (w : World) (p : GP) : World := { w with heap := w.heap ++ p.os, drawn := p.d }
section
variable (w : World) (p q : GP)
@[simp, go_sem] theorem gw_size : (gw w p).heap.size = w.heap.size + p.os.size := by simp [gw]
@[simp, go_sem] theorem gw_tape : (gw w p).tape = w.tape := rfl
theorem gw_heap {k : Nat} (h : k < w.heap.size) : (gw w p).heap[k]? = w.heap[k]? := by simp [gw, Array.getElem?_append, h]
@[go_sem] theorem gw_cell (n i : Nat) (h : n < w.heap.size) : (gw w p).cell? ⟨n, i, none⟩ = w.cell? ⟨n, i, none⟩ := World.cell?_of_block (a := ⟨n, i, none⟩) (gw_heap w p h)
@[go_sem] theorem gw_frozen (n i : Nat) (h : n < w.heap.size) : (gw w p).frozen? ⟨n, i, none⟩ = w.frozen? ⟨n, i, none⟩ := World.frozen?_of_block (a := ⟨n, i, none⟩) (gw_heap w p h)
@[go_sem] theorem gw_setCell (n i : Nat) (v : Value) (h : n < w.heap.size) : (gw w p).setCell ⟨n, i, none⟩ v = gw (w.setCell ⟨n, i, none⟩ v) p := by
  unfold gw World.setCell
  simp only [World.mk.injEq, and_true]
  apply Array.ext_getElem?
  intro k
  simp only [Array.getElem?_modify, Array.getElem?_append, Array.size_modify]
  by_cases hk : k < w.heap.size
  · simp [hk]
  · have : n ≠ k := by omega
    simp [hk, this]
@[go_sem] theorem gw_drew : (gw w p).drew = gw w ⟨p.d + 1, p.os⟩ := rfl
@[go_sem] theorem gw_drewN (n : Nat) : (gw w p).drewN n = gw w ⟨p.d + n, p.os⟩ := rfl
@[go_sem] theorem gw_gw : gw (gw w p) q = gw w ⟨q.d, p.os ++ q.os⟩ := by simp [gw, Array.append_assoc]
@[go_sem] theorem gw_of_drew : gw w.drew p = gw w p := rfl
@[go_sem] theorem gw_of_drewN (n : Nat) : gw (w.drewN n) p = gw w p := rfl
theorem gw_below {B : Nat} (hB : B ≤ w.heap.size) : Below B w (gw w p) := ⟨rfl, rfl, rfl, by simp, fun k hk => gw_heap w p (by omega)⟩
end
/-! The same where the walk must reckon which block it is (linear arithmetic decides the 'if'). -/
def gwOut (w : World) (p : GP) (n i : Nat) : Option Value := (gw w p).cell? ⟨n, i, none⟩
def gwFz (w : World) (p : GP) (n i : Nat) : Bool := (gw w p).frozen? ⟨n, i, none⟩
def gwSet (w : World) (p : GP) (n i : Nat) (v : Value) : World := (gw w p).setCell ⟨n, i, none⟩ v
section
variable (w : World) (p : GP)
@[go_sem low] theorem gw_cell_if (n i : Nat) : (gw w p).cell? ⟨n, i, none⟩ = if n < w.heap.size then w.cell? ⟨n, i, none⟩ else gwOut w p n i := by
  split
  · rename_i h; exact gw_cell w p n i h
  · rfl
@[go_sem low] theorem gw_frozen_if (n i : Nat) : (gw w p).frozen? ⟨n, i, none⟩ = if n < w.heap.size then w.frozen? ⟨n, i, none⟩ else gwFz w p n i := by
  split
  · rename_i h; exact gw_frozen w p n i h
  · rfl
@[go_sem low] theorem gw_setCell_if (n i : Nat) (v : Value) : (gw w p).setCell ⟨n, i, none⟩ v = if n < w.heap.size then gw (w.setCell ⟨n, i, none⟩ v) p else gwSet w p n i v := by
  split
  · rename_i h; exact gw_setCell w p n i v h
  · rfl
@[go_sem low] theorem alloc_cell_if (c : Array Value) (t : TypeId) (n i : Nat) : (w.alloc (.cells c t)).cell? ⟨n, i, none⟩ = if n < w.heap.size then w.cell? ⟨n, i, none⟩ else if n = w.heap.size then c[i]? else none := by
  split
  · rename_i h; exact World.cell?_alloc_lt w _ (a := ⟨n, i, none⟩) h
  · split
    · rename_i h; subst h; simp
    · rename_i h1 h2
      rw [World.cell?_alloc_old w _ (a := ⟨n, i, none⟩) h2]
      unfold World.cell?
      rw [Array.getElem?_eq_none (by simp only; omega)]
@[go_sem low] theorem alloc_frozen_if (c : Array Value) (t : TypeId) (n i : Nat) : (w.alloc (.cells c t)).frozen? ⟨n, i, none⟩ = if n = w.heap.size then false else w.frozen? ⟨n, i, none⟩ := by
  split
  · rename_i h; subst h; simp
  · rename_i h; exact World.frozen?_alloc_old w _ (a := ⟨n, i, none⟩) h
@[go_sem low] theorem alloc_setCell_if (c : Array Value) (t : TypeId) (n i : Nat) (v : Value) : (w.alloc (.cells c t)).setCell ⟨n, i, none⟩ v = if n < w.heap.size then (w.setCell ⟨n, i, none⟩ v).alloc (.cells c t) else if n = w.heap.size then w.alloc (.cells (c.setIfInBounds i v) t) else (w.alloc (.cells c t)).setCell ⟨n, i, some 0⟩ v := by
  split
  · rename_i h; exact World.setCell_alloc_past _ n i v h
  · split
    · rename_i h; subst h; exact World.setCell_alloc_new c t i v
    · rename_i h1 h2
      have h : ∀ q : Addr, q.block = n → (w.alloc (.cells c t)).setCell q v = w.alloc (.cells c t) := by
        intro q hq
        unfold World.setCell
        have : (w.alloc (.cells c t)).heap.size ≤ n := by simp; omega
        have hm : ∀ (a : Array Obj) (f : Obj → Obj) (k : Nat), a.size ≤ k → a.modify k f = a := by
          intro a f k hk
          apply Array.ext_getElem?
          intro j
          rw [Array.getElem?_modify]
          split
          · rename_i e; subst e; rw [Array.getElem?_eq_none hk]; rfl
          · rfl
        rw [hq, hm _ _ _ this]
      rw [h ⟨n, i, none⟩ rfl, h ⟨n, i, some 0⟩ rfl]
end
theorem below_gw {w w' : World} (h : Below w.heap.size w w') : ∃ p, w' = gw w p := by
  refine ⟨⟨w'.drawn, w'.heap.extract w.heap.size w'.heap.size⟩, ?_⟩
  obtain ⟨heap, tape, drawn, os, output⟩ := w'
  obtain ⟨h1, h2, h3, h4, h5⟩ := h
  simp only at h1 h2 h3 h4 h5
  subst h1 h2 h3
  unfold gw
  simp only [World.mk.injEq, and_true]
  apply Array.ext_getElem?
  intro k
  rw [Array.getElem?_append]
  split
  · rename_i hk; exact h5 k hk
  · rename_i hk
    rw [Array.getElem?_extract]
    split
    · congr 1; omega
    · rename_i h6
      exact Array.getElem?_eq_none (by omega)
/-- A callee met in a world of the class 'grown out of W'. -/
theorem quiet_gw {P : Program} {f : FuncId} {args : Array Value} {W : World} {p : GP} {v : Value}
    (h : Calls P f args (gw W p) fun e w' => e = .returned v ∧ Below (gw W p).heap.size (gw W p) w') : Calls P f args (gw W p) fun e w'' => e = .returned v ∧ ∃ q, w'' = gw W q :=
  h.mono fun _ _ ⟨he, hb⟩ => by
    obtain ⟨q, rfl⟩ := below_gw hb
    exact ⟨he, _, gw_gw W p q⟩
theorem quiet_gw_same {P : Program} {f : FuncId} {args : Array Value} {W : World} {p : GP} {v : Value}
    (h : Calls P f args (gw W p) fun e w' => e = .returned v ∧ gw W p = w') : Calls P f args (gw W p) fun e w'' => e = .returned v ∧ ∃ q, w'' = gw W q :=
  h.mono fun _ _ ⟨he, hb⟩ => ⟨he, p, hb.symm⟩
theorem quiet_gw2 {P : Program} {f : FuncId} {args : Array Value} {W : World} {d : Nat} {a b : Array Obj} {v : Value}
    (h : Calls P f args (gw W ⟨d, a ++ b⟩) fun e w' => e = .returned v ∧ Below (gw W ⟨d, a ++ b⟩).heap.size (gw W ⟨d, a ++ b⟩) w') : Calls P f args (gw W ⟨d, a ++ b⟩) fun e w'' => e = .returned v ∧ ∃ q : GP, w'' = gw W ⟨q.d, a ++ q.os⟩ :=
  h.mono fun _ _ ⟨he, hb⟩ => by
    obtain ⟨q, rfl⟩ := below_gw hb
    exact ⟨he, ⟨q.d, b ++ q.os⟩, by rw [gw_gw]; simp [Array.append_assoc]⟩
theorem quiet_gw2_same {P : Program} {f : FuncId} {args : Array Value} {W : World} {d : Nat} {a b : Array Obj} {v : Value}
    (h : Calls P f args (gw W ⟨d, a ++ b⟩) fun e w' => e = .returned v ∧ gw W ⟨d, a ++ b⟩ = w') : Calls P f args (gw W ⟨d, a ++ b⟩) fun e w'' => e = .returned v ∧ ∃ q : GP, w'' = gw W ⟨q.d, a ++ q.os⟩ :=
  h.mono fun _ _ ⟨he, hb⟩ => ⟨he, ⟨d, b⟩, hb.symm⟩
theorem wp_region_gw {P : Program} {id : Nat} {Q : Exit → Act → World → Prop} {a : Act} {w : World} {l : List Oper} (hm : P.follows .mixedOrders = true) (hB : Region.lexB .any l.toArray = true)
    (h : wpQuiet P l.toArray (fun w' => ∃ p : GP, w' = gw w p) (fun a' => ∀ w', (∃ p : GP, w' = gw w p) → Q .normal a' w') l a) : (Code.region id l.toArray true).wp P Q a w :=
  wp_region_quiet (C := fun w' => ∃ p : GP, w' = gw w p) hm hB ⟨⟨w.drawn + 1, #[]⟩, by simp [gw]⟩ (by simpa using h)

/-! ### A block that is known whole -/
def Blk (w : World) (g : Nat) (t : TypeId) (cs : Array Value) : Prop := w.heap[g]? = some (.cells cs t (0, 0))
section
variable {w w' : World} {g : Nat} {t : TypeId} {cs : Array Value}
theorem Blk.lt (h : Blk w g t cs) : g < w.heap.size := by
  rcases Nat.lt_or_ge g w.heap.size with hlt | hge
  · exact hlt
  · unfold Blk at h; rw [Array.getElem?_eq_none hge] at h; cases h
theorem Blk.cell (h : Blk w g t cs) (i : Nat) : w.cell? ⟨g, i, none⟩ = cs[i]? := cell_of_row w g i cs t (0, 0) h
theorem Blk.frozen (h : Blk w g t cs) (i : Nat) : w.frozen? ⟨g, i, none⟩ = false := by
  unfold Blk at h
  simp [World.frozen?, h]
theorem Blk.cell_some (h : Blk w g t cs) {i : Nat} (hi : i < cs.size) : ∃ v, w.cell? ⟨g, i, none⟩ = some v := ⟨cs[i], by rw [h.cell i, Array.getElem?_eq_getElem hi]⟩
theorem Blk.alloc (h : Blk w g t cs) (o : Obj) : Blk (w.alloc o) g t cs := (Below.heap_alloc w o g h.lt).trans h
theorem Blk.set_ (h : Blk w g t cs) (i : Nat) (u : Value) : Blk (w.setCell ⟨g, i, none⟩ u) g t (cs.setIfInBounds i u) := by
  unfold Blk at h ⊢
  simp [World.setCell, Array.getElem?_modify, h]
theorem Blk.far (h : Blk w g t cs) {p : Addr} (hp : g ≠ p.block) (u : Value) : Blk (w.setCell p u) g t cs := (Below.heap_setCell w p u g hp).trans h
theorem Blk.drewN (h : Blk w g t cs) (n : Nat) : Blk (w.drewN n) g t cs := h
theorem Blk.gw (h : Blk w g t cs) (p : GP) : Blk (gw w p) g t cs := (gw_heap w p h.lt).trans h
theorem Blk.past (h : Blk w g t cs) (hb : Below w.heap.size w w') : Blk w' g t cs := (hb.block g h.lt).trans h
end
/-- Values laid one behind the other. -/
def putC (w : World) (g off : Nat) : List Value → World
  | [] => w
  | v :: r => putC (w.setCell ⟨g, off, none⟩ v) g (off + 1) r
def setAll (cs : Array Value) (off : Nat) : List Value → Array Value
  | [] => cs
  | v :: r => setAll (cs.setIfInBounds off v) (off + 1) r
theorem Blk.put {g : Nat} {t : TypeId} : ∀ (vs : List Value) {w : World} {cs : Array Value} (off : Nat), Blk w g t cs → Blk (putC w g off vs) g t (setAll cs off vs)
  | [], _, _, _, h => h
  | v :: r, _, _, off, h => Blk.put r (off + 1) (h.set_ off v)
theorem putC_below {B g : Nat} {w0 : World} (hg : B ≤ g) : ∀ (vs : List Value) {w : World} (off : Nat), Below B w0 w → Below B w0 (putC w g off vs)
  | [], _, _, h => h
  | v :: r, _, off, h => putC_below hg r (off + 1) (h.setCell (p := ⟨g, off, none⟩) hg v)
theorem putC_size (g : Nat) : ∀ (vs : List Value) (w : World) (off : Nat), (putC w g off vs).heap.size = w.heap.size
  | [], _, _ => rfl
  | v :: r, w, off => by rw [putC, putC_size g r]; simp
theorem setAll_size : ∀ (vs : List Value) (cs : Array Value) (off : Nat), (setAll cs off vs).size = cs.size
  | [], _, _ => rfl
  | v :: r, cs, off => by rw [setAll, setAll_size r]; simp
theorem setAll_get : ∀ (vs : List Value) (cs : Array Value) (off j : Nat), off + vs.length ≤ cs.size → (setAll cs off vs)[j]? = if off ≤ j ∧ j < off + vs.length then vs[j - off]? else cs[j]?
  | [], cs, off, j, _ => by simp [setAll]; intro _ _; omega
  | v :: r, cs, off, j, h => by
    simp only [List.length_cons] at h
    rw [setAll, setAll_get r _ (off + 1) j (by simp; omega)]
    simp only [List.length_cons, Array.getElem?_setIfInBounds]
    by_cases h1 : off = j
    · subst h1
      rw [if_neg (by omega)]
      simp [show off < cs.size by omega]
    · by_cases h2 : off + 1 ≤ j ∧ j < off + 1 + r.length
      · rw [if_pos h2, if_pos (by omega)]
        have : j - off = (j - (off + 1)) + 1 := by omega
        rw [this, List.getElem?_cons_succ]
      · rw [if_neg h2, if_neg h1, if_neg (by omega)]
section
variable {α : Type} {E : Enc α}
/-- One element more is laid. -/
theorem fill_step {cs : Array Value} {l : List α} {n k : Nat} {x : α} (hs : cs.size = n * E.k) (hk : k < n) (hx : l[k]? = some x)
    (h : ∀ j, j < k * E.k → cs[j]? = (flat E l)[j]?) : ∀ j, j < (k + 1) * E.k → (setAll cs (k * E.k) ((E.f x).map (Value.int .i64)))[j]? = (flat E l)[j]? := by
  intro j hj
  have hlen : ((E.f x).map (Value.int .i64)).length = E.k := by rw [List.length_map, E.len]
  have hle : (k + 1) * E.k ≤ n * E.k := Nat.mul_le_mul_right _ hk
  rw [Nat.add_mul, Nat.one_mul] at hj hle
  rw [setAll_get _ _ _ _ (by rw [hlen, hs]; omega), hlen]
  split
  · rename_i h2
    have hj2 : j - k * E.k < (E.f x).length := by rw [E.len]; omega
    have := flat_get l k x hx (j - k * E.k) _ (List.getElem?_eq_getElem hj2)
    rw [show k * E.k + (j - k * E.k) = j from by omega] at this
    rw [this, List.getElem?_map, List.getElem?_eq_getElem hj2]; rfl
  · exact h j (by omega)
theorem own_blk {w : World} {base : Nat} {e : TypeId} {size g n : Nat} {xs : List Value} (h : w.ownsRow base e size (.slice (some ⟨g, 0, none⟩) n n) n xs) :
    base ≤ g ∧ ∃ cs, Blk w g e cs ∧ cs.size = n * size ∧ cs.toList.take (n * size) = xs := by
  obtain ⟨hl, h⟩ := h
  rcases h with ⟨h, _⟩ | ⟨g', cap, cur, hv, hg, hh, hc, hm, hs, ht⟩
  · cases h
  · injection hv with h1 h2 h3
    injection h1 with h1
    injection h1 with h1
    subst h1 h3
    exact ⟨hg, cur, hh, hs, ht⟩
theorem Own.of_blk {w : World} {base : Nat} {e : TypeId} {g n : Nat} {cs : Array Value} {l : List α} (hg : base ≤ g) (h : Blk w g e cs) (hl : l.length = n) (hs : cs.size = n * E.k)
    (hc : ∀ j, j < n * E.k → cs[j]? = (flat E l)[j]?) (hm : n ≤ maxLen) : Own E w base e (.slice (some ⟨g, 0, none⟩) n n) l := by
  subst hl
  refine ⟨flat_length l, .inr ⟨g, _, cs, rfl, hg, h, Nat.le_refl _, hm, hs, ?_⟩⟩
  apply List.ext_getElem?
  intro j
  rw [List.getElem?_take]
  split
  · rename_i hj; rw [← hc j hj]; simp
  · rename_i hj; rw [List.getElem?_eq_none (by rw [flat_length]; omega)]
end
section
variable {w0 w : World}
theorem bl_gw (h : Below w0.heap.size w0 w) (p : GP) : Below w0.heap.size w0 (gw w p) := h.trans (gw_below _ p h.size)
theorem bl_alloc (h : Below w0.heap.size w0 w) (o : Obj) : Below w0.heap.size w0 (w.alloc o) := h.alloc h.size o
theorem bl_drew (h : Below w0.heap.size w0 w) : Below w0.heap.size w0 w.drew := h.drew
theorem bl_drewN (h : Below w0.heap.size w0 w) (n : Nat) : Below w0.heap.size w0 (w.drewN n) := below_drewN h n
end
/-- One call more behind a world of which 'Below' is known. -/
theorem below_step {w0 w w' : World} (h : Below w0.heap.size w0 w) (hb : Below w.heap.size w w') : Below w0.heap.size w0 w' := h.trans (hb.mono h.size)
/-- The world under a name of its own. -/
theorem wp_name {P : Program} {c : Code} {Q : Exit → Act → World → Prop} {a : Act} {W : World} (h : ∀ W0, W0 = W → Code.wp P c Q a W0) : Code.wp P c Q a W := h W rfl
end Go.Proofs.Ytcajgadgdjopdaa
