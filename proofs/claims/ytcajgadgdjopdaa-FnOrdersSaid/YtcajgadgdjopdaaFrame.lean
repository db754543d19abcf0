/- The frame of a law's proof: arguments opened, and the row's post out of 'returned true, nothing old has turned'. -/
import Derived.Test.YtcajgadgdjopdaaRows
import Derived.Test.YtcajgadgdjopdaaBase
import Derived.ProofKit
import Derived.Lib.SmallJoins
import Derived.Deep.Slices
import Derived.Deep.Fields
namespace Go.Proofs.Ytcajgadgdjopdaa
open Go.ChangeShapes Go.WideShapes Go.ChangeAt Go.RowKit Go.Deep

theorem own_ : ownKnob Try.prog.godebug = none := by kernel_rfl
theorem laid_ : laidOutB Try.prog = true := by kernel_rfl
def I64 (z : Int) : Prop := (Lit.int .i64 z).wf = true

section
variable {H : Type} {enc : TypeId × Value → H} {P : Program}
def Readable (P : Program) : List TypeId → Prop
  | [] => True
  | t :: ts => (P.readableRec t = true ∧ t < P.types.size) ∧ Readable P ts
theorem trodAll_below (hl : laidOutB P = true) {W W' : World} (hb : Below W.heap.size W W') : ∀ {ts : List TypeId} {vs : List Value} {ds : List (DataW H)} {ps : List MemPlace}, Readable P ts → (∀ x ∈ ps, x.block < W.heap.size) →
    DataW.TrodAll enc P W 0 (fun _ => true) true ts vs ds ps → DataW.TrodAll enc P W' 0 (fun b => decide (b < W.heap.size)) true ts vs ds ps
  | [], vs, ds, ps, _, _, h => by
    obtain ⟨rfl, rfl, rfl⟩ := trodAll_nil h
    rfl
  | t :: ts, vs, ds, ps, hr, hlt, h => by
    obtain ⟨v, vs', d, ds', p, q, rfl, rfl, rfl, h0, r0⟩ := trodAll_cons h
    obtain ⟨⟨h1, h2⟩, h3⟩ := hr
    exact ⟨p, q, Below.trod hl h1 h2 h0 hb (fun x hx => hlt x (List.mem_append_left _ hx)), trodAll_below hl hb h3 (fun x hx => hlt x (List.mem_append_right _ hx)) r0, rfl⟩
theorem trodAll_length {W : World} {b : Nat} {sp : Nat → Bool} {hd : Bool} : ∀ {ts : List TypeId} {vs : List Value} {ds : List (DataW H)} {ps : List MemPlace}, DataW.TrodAll enc P W b sp hd ts vs ds ps → ds.length = ts.length
  | [], vs, ds, ps, h => by obtain ⟨rfl, rfl, rfl⟩ := trodAll_nil h; rfl
  | t :: ts, vs, ds, ps, h => by
    obtain ⟨v, vs', d, ds', p, q, rfl, rfl, rfl, h0, r0⟩ := trodAll_cons h
    simp [trodAll_length r0]
theorem law_contract {f : FuncId} {fn : Func} {s : ChangeSpec} {tb : TypeId} (hl : laidOutB P = true) (hvars : s.vars = []) (hrt : fn.resultTypes = #[tb]) (htb : P.underlying tb = some .bool)
    (hs : ∀ (ds : List (DataW H)), ds.length = fn.params.size → s.fn H ds = { results := [.lit (.bool true)], args := ds }) (hp : Readable P fn.params.toList)
    {W : World} {args : Array Value} {ds gs : List (DataW H)} {before : List MemPlace} (hW : DataW.Whole enc P fn.params.toList s.vars false W args.toList ds gs before)
    (walk : Calls P f args W fun e W' => e = .returned (.bool true) ∧ Below W.heap.size W W') :
    Calls P f args W fun e W' => ∃ v, e = .returned v ∧ s.post enc P fn false true false false W args v W' := by
  refine walk.mono fun e W' ⟨he, hb⟩ => ⟨_, he, ?_⟩
  have hlt := fun x hx => hW.lt x hx
  have hW' := hW
  obtain ⟨p, q, hA, hV, rfl, hfz, hnd⟩ := hW
  rw [hvars] at hV
  obtain ⟨rfl, rfl⟩ := trodVars_none hV
  have hfn := hs ds (by simpa using trodAll_length hA)
  refine ⟨ds, [], p ++ [], [], p, [], hW', ?_, ?_, ?_, hb.frame _, fun h => by cases h⟩
  · rw [List.append_nil, hfn, hrt]
    exact trodAll_mk1 (shut_bool htb _)
  · rw [List.append_nil, hfn]
    exact trodAll_below hl hb hp (fun x hx => by simpa using hlt x (by simpa using hx)) hA
  · rw [List.append_nil, hfn, hvars]
    rfl
end

/-! ### Arguments -/
section
variable {H : Type} {enc : TypeId × Value → H} {P : Program} {w : World} {base : Nat} {spare : Nat → Bool} {held : Bool}
theorem block_of_add (a : Addr) (n : Nat) : (a.add n).block = a.block := by unfold Addr.add; split <;> rfl
theorem cell_some_lt {W : World} {b o : Nat} {s : Option Nat} {v : Value} (h : W.cell? ⟨b, o, s⟩ = some v) : b < W.heap.size ∧ s = none := by
  unfold World.cell? at h
  split at h
  · rename_i hb
    refine ⟨?_, ?_⟩
    · rcases Nat.lt_or_ge b W.heap.size with hlt | hge
      · exact hlt
      · rw [Array.getElem?_eq_none hge] at hb; cases hb
    · cases s with
      | none => rfl
      | some _ => simp at h
  · cases h
theorem add_plain {a : Addr} (hs : a.spot = none) (n : Nat) : a.add n = ⟨a.block, a.off + n, none⟩ := by
  obtain ⟨b, o, s⟩ := a
  simp only at hs
  subst hs
  unfold Addr.add
  split
  · subst_vars; rfl
  · rfl
/-- A slice of structs (any number of one-cell fields). -/
theorem open_slice_fields {t e : TypeId} {fs : Array Field} {fuel : Nat} {cs : List Value} {x : DataW H × List MemPlace} (ht : P.underlying t = some (.slice e)) (he : P.underlying e = some (.struct fs))
    (hone : oneCellFields P fs = true) (hC : P.cellsOf e = fs.size) (h : DataW.trod enc P w base spare held fuel t cs = some x) :
    (cs = [.slice none 0 0] ∧ x = (.nil, [])) ∨
    ∃ (a : Addr) (len cap m : Nat), cs = [.slice (some a) len cap] ∧ len ≤ cap ∧ cap ≤ maxLen ∧ m = (if spare a.block then cap else len) ∧
      ∀ i, i < m → ∀ (j : Nat) (f : Field), fs[j]? = some f → ∃ (v : Value) (y : DataW H × List MemPlace) (n : Nat), w.cell? (a.add (i * fs.size + j)) = some v ∧ DataW.trod enc P w base spare held n f.type [v] = some y := by
  rcases open_slice ht h with h0 | ⟨a, len, cap, m, n, D, Pl, hcs, hb, hl, hm, hmm, hx, hi⟩
  · exact .inl h0
  · refine .inr ⟨a, len, cap, m, hcs, hl, hm, hmm, fun i him => ?_⟩
    obtain ⟨cs', hc, ht'⟩ := hi i him
    rw [hC] at hc
    obtain ⟨ys, n', hn', hy, hlen, hyl, hf⟩ := DataW.trod_struct he ht'
    obtain ⟨_, hcl, hat⟩ := World.cells?_some hc
    intro j f hj
    obtain ⟨ho, hk⟩ := hone_of hone j f hj
    have hjl : j < fs.size := (Array.getElem?_eq_some_iff.1 hj).1
    have hcell := hat j hjl
    have hv : cs'[j]? = some (cs'[j]'(by omega)) := List.getElem?_eq_getElem (by omega)
    have h1 := hf j f hj
    rw [ho, hk] at h1
    have hone' : (cs'.drop j).take 1 = [cs'[j]'(by omega)] := by
      rw [List.drop_eq_getElem_cons (by omega)]
      rfl
    rw [hone'] at h1
    have hys : ys[j]? = some (ys[j]'(by omega)) := List.getElem?_eq_getElem (by omega)
    refine ⟨_, _, n', ?_, h1.trans hys⟩
    rw [← Go.Deep.add_add, hcell, hv]

/-- A slice argument whose elements are structs of ints, as a list. -/
theorem open_sl {α : Type} (E : Enc α) (mk : List Int → α) (hmk : ∀ zs : List Int, zs.length = E.k → E.f (mk zs) = zs) {W : World} {t e : TypeId} {fs : Array Field} {v : Value} {d : DataW H} {p : List MemPlace} {r : Reach} {b0 : Nat}
    (ht : P.underlying t = some (.slice e)) (he : P.underlying e = some (.struct fs)) (hone : oneCellFields P fs = true) (hC : P.cellsOf e = fs.size) (hk : fs.size = E.k) (hk0 : 0 < E.k)
    (hint : ∀ (j : Nat) (f : Field), fs[j]? = some f → P.underlying f.type = some (.int .i64))
    (hv : Value.okWide P W r b0 t v) (h : DataW.Trod enc P W 0 (fun _ => true) true t v d p) :
    ∃ (A : Option Addr) (n c : Nat) (l : List α), v = .slice A n c ∧ l.length = n ∧ n ≤ maxLen ∧ Sl E W W.heap.size A l ∧ ∀ x ∈ l, ∀ z ∈ E.f x, I64 z := by
  obtain ⟨a0, len, cap, rfl⟩ := okWide_slice ht hv
  obtain ⟨fuel, hf⟩ := h
  rcases open_slice_fields ht he hone hC hf with ⟨hcs, hx⟩ | ⟨a, len', cap', m, hcs, hl, hm, hmm, hi⟩
  · have hv : a0 = none ∧ len = 0 ∧ cap = 0 := by simpa [Value.cells] using hcs
    obtain ⟨rfl, rfl, rfl⟩ := hv
    exact ⟨none, 0, 0, [], rfl, rfl, by unfold maxLen; omega, fun h => absurd h (by simp), fun x hx => by cases hx⟩
  · have hv : a0 = some a ∧ len = len' ∧ cap = cap' := by simpa [Value.cells] using hcs
    obtain ⟨rfl, rfl, rfl⟩ := hv
    simp only [if_true] at hmm
    rw [hmm] at hi
    clear hmm m
    have key : ∀ i, i < cap → ∃ zs : List Int, zs.length = E.k ∧ (∀ z ∈ zs, I64 z) ∧ ∀ j z, zs[j]? = some z → W.cell? (a.add (i * E.k + j)) = some (.int .i64 z) := by
      intro i him
      have h1 : ∀ j, j < fs.size → ∃ z : Int, I64 z ∧ W.cell? (a.add (i * E.k + j)) = some (.int .i64 z) := by
        intro j hj
        obtain ⟨v, y, n, hc, hy⟩ := hi i him j fs[j] (Array.getElem?_eq_getElem hj)
        obtain ⟨z, h1, _, h3⟩ := DataW.trod_int (hint j _ (Array.getElem?_eq_getElem hj)) hy
        refine ⟨z, h3, ?_⟩
        rw [← hk, hc]
        simpa using h1
      have hch : ∃ g : Nat → Int, ∀ j, j < fs.size → I64 (g j) ∧ W.cell? (a.add (i * E.k + j)) = some (.int .i64 (g j)) := by
        classical
        exact ⟨fun j => if hj : j < fs.size then Classical.choose (h1 j hj) else 0, fun j hj => by simpa [hj] using Classical.choose_spec (h1 j hj)⟩
      obtain ⟨g, hg⟩ := hch
      refine ⟨(List.range E.k).map g, by simp, fun z hz => ?_, fun j z hz => ?_⟩
      · simp only [List.mem_map, List.mem_range] at hz
        obtain ⟨j, hj, rfl⟩ := hz
        exact (hg j (by omega)).1
      · rw [List.getElem?_map] at hz
        have hj : j < E.k := by
          rcases Nat.lt_or_ge j E.k with h | h
          · exact h
          · rw [List.getElem?_eq_none (by simpa using h)] at hz; cases hz
        rw [List.getElem?_eq_getElem (by simpa using hj)] at hz
        simp at hz
        subst hz
        exact (hg j (by omega)).2
    have hch : ∃ G : Nat → List Int, ∀ i, i < cap → (G i).length = E.k ∧ (∀ z ∈ G i, I64 z) ∧ ∀ j z, (G i)[j]? = some z → W.cell? (a.add (i * E.k + j)) = some (.int .i64 z) := by
      classical
      exact ⟨fun i => if h : i < cap then Classical.choose (key i h) else [], fun i h => by simpa [h] using Classical.choose_spec (key i h)⟩
    obtain ⟨G, hG⟩ := hch
    refine ⟨some a, len, cap, (List.range len).map fun i => mk (G i), rfl, by simp, by omega, fun hn => ?_, fun x hx z hz => ?_⟩
    · have hlen : 0 < len := by simpa using hn
      obtain ⟨g1, g2, g3⟩ := hG 0 (by omega)
      have hc0 := g3 0 (G 0)[0] (List.getElem?_eq_getElem (by omega))
      rw [Nat.zero_mul] at hc0
      obtain ⟨ab, ao, asp⟩ := a
      have h0 : W.cell? ⟨ab, ao, asp⟩ = some (.int .i64 (G 0)[0]) := by simpa [Addr.add] using hc0
      obtain ⟨hlt, rfl⟩ := cell_some_lt h0
      refine ⟨ab, ao, rfl, hlt, fun i x hx j z hz => ?_⟩
      rw [List.getElem?_map] at hx
      have hi' : i < len := by
        rcases Nat.lt_or_ge i len with h | h
        · exact h
        · rw [List.getElem?_eq_none (by simpa using h)] at hx; cases hx
      rw [List.getElem?_eq_getElem (by simpa using hi')] at hx
      simp at hx
      subst hx
      obtain ⟨q1, q2, q3⟩ := hG i (by omega)
      rw [hmk _ q1] at hz
      have := q3 j z hz
      rw [add_plain rfl] at this
      rw [← this]
      simp [Nat.add_assoc]
    · simp only [List.mem_map, List.mem_range] at hx
      obtain ⟨i, hi', rfl⟩ := hx
      obtain ⟨q1, q2, _⟩ := hG i (by omega)
      rw [hmk _ q1] at hz
      exact q2 z hz

/-- A struct of ints by value. -/
theorem open_ag {W : World} {t : TypeId} {fs : Array Field} {v : Value} {d : DataW H} {p : List MemPlace} {r : Reach} {b0 : Nat}
    (ht : P.underlying t = some (.struct fs)) (hone : oneCellFields P fs = true) (hC : P.cellsOf t = fs.size) (hint : ∀ (j : Nat) (f : Field), fs[j]? = some f → P.underlying f.type = some (.int .i64))
    (hv : Value.okWide P W r b0 t v) (h : DataW.Trod enc P W 0 (fun _ => true) true t v d p) :
    ∃ zs : List Int, zs.length = fs.size ∧ v = .agg (zs.map (Value.int .i64)).toArray ∧ ∀ z ∈ zs, I64 z := by
  obtain ⟨cs, rfl, hsz⟩ := okWide_struct ht hv
  obtain ⟨cs⟩ := cs
  obtain ⟨fuel, hf⟩ := h
  obtain ⟨xs, n, _, hx, hcl, hlen, hg⟩ := DataW.trod_struct ht hf
  simp only [Value.cells] at hcl hg
  have h1 : ∀ j, j < fs.size → ∃ z : Int, I64 z ∧ cs[j]? = some (.int .i64 z) := by
    intro j hj
    obtain ⟨o, k⟩ := hone_of hone j fs[j] (Array.getElem?_eq_getElem hj)
    have h2 := hg j fs[j] (Array.getElem?_eq_getElem hj)
    have hjc : j < cs.length := by rw [hcl, hC]; exact hj
    rw [o, k] at h2
    have hone' : (cs.drop j).take 1 = [cs[j]'hjc] := by
      rw [List.drop_eq_getElem_cons hjc]
      rfl
    rw [hone', List.getElem?_eq_getElem (show j < xs.length by omega)] at h2
    obtain ⟨z, h3, _, h5⟩ := DataW.trod_int (hint j _ (Array.getElem?_eq_getElem hj)) h2
    refine ⟨z, h5, ?_⟩
    rw [List.getElem?_eq_getElem hjc]
    simpa using h3
  have hch : ∃ g : Nat → Int, ∀ j, j < fs.size → I64 (g j) ∧ cs[j]? = some (.int .i64 (g j)) := by
    classical
    exact ⟨fun j => if hj : j < fs.size then Classical.choose (h1 j hj) else 0, fun j hj => by simpa [hj] using Classical.choose_spec (h1 j hj)⟩
  obtain ⟨g, hg⟩ := hch
  refine ⟨(List.range fs.size).map g, by simp, ?_, fun z hz => ?_⟩
  · congr 2
    apply List.ext_getElem?
    intro j
    rcases Nat.lt_or_ge j fs.size with hj | hj
    · rw [(hg j hj).2, List.getElem?_map, List.getElem?_map, List.getElem?_eq_getElem (by simpa using hj)]
      simp
    · rw [List.getElem?_eq_none (by rw [hcl, hC]; exact hj), List.getElem?_eq_none (by simpa using hj)]
  · simp only [List.mem_map, List.mem_range] at hz
    obtain ⟨j, hj, rfl⟩ := hz
    exact (hg j hj).1
end
theorem list3 {l : List Int} (h : l.length = 3) : ∃ a b c, l = [a, b, c] := by
  match l, h with
  | [a, b, c], _ => exact ⟨a, b, c, rfl⟩
theorem list6 {l : List Int} (h : l.length = 6) : ∃ a b c d e f, l = [a, b, c, d, e, f] := by
  match l, h with
  | [a, b, c, d, e, f], _ => exact ⟨a, b, c, d, e, f, rfl⟩
theorem list7 {l : List Int} (h : l.length = 7) : ∃ a b c d e f g, l = [a, b, c, d, e, f, g] := by
  match l, h with
  | [a, b, c, d, e, f, g], _ => exact ⟨a, b, c, d, e, f, g, rfl⟩
end Go.Proofs.Ytcajgadgdjopdaa
