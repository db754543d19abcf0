/- Levels as keys of a map: what a map of distances answers, is given, keeps. -/
import Derived.Test.YtbedepmcecdhfaaFrom
import Derived.Test.YtbedepmcecdhfaaMoveB
import Derived.Maps.OwnSet
import Derived.Laws.CopyOwn
import Derived.ProofKit
namespace Go.Proofs.Ytbedepmcecdhfaa
open Go.RowKit
open Go.Maps (Keyed)
theorem laidOut_ : laidOutB Try.prog = true := by kernel_rfl
theorem keyLaw : Keyed Try.prog 82 :=
  Keyed.of_law (deep_law_laid laidOut_ (m := 3) (by decide) (of_decide_eq_true (by kernel_rfl)) (by kernel_rfl) (by kernel_rfl))
/-- Levels as an array of five. -/
def keyV (l : List Int) : Value := .agg #[.int .i64 l[0]!, .int .i64 l[1]!, .int .i64 l[2]!, .int .i64 l[3]!, .int .i64 l[4]!]
def NearIn (l : List Int) : Prop := ∀ (i : Nat) (x : Int), l[i]? = some x → -1 ≤ x ∧ x ≤ 7
theorem SmallIn.near {l : List Int} (h : SmallIn l) : NearIn l := fun i x hx => by have := h i x hx; omega
theorem NearIn.get {l : List Int} (h : NearIn l) (i : Nat) : -1 ≤ l[i]! ∧ l[i]! ≤ 7 := by
  rcases Nat.lt_or_ge i l.length with hi | hi
  · have hx : l[i]? = some (l[i]'hi) := List.getElem?_eq_getElem _
    rw [List.getElem!_of_getElem? hx]; exact h i _ hx
  · rw [getElem!_neg l i (by omega)]; decide
theorem near_mv {l : List Int} {a b : Nat} (h : SmallIn l) (ha : a < l.length) (hb : b < l.length) (hne : a ≠ b) : NearIn (mv l a b) := fun i x hx => by
  have hi := (List.getElem?_eq_some_iff.1 hx).1
  have e := List.getElem!_of_getElem? hx
  rw [mv_get ha hb hne] at e
  have small : ∀ {j}, j < l.length → 0 ≤ l[j]! ∧ l[j]! ≤ 6 := fun {j} hj => by
    rw [getElem!_pos l j hj]; exact h j _ (List.getElem?_eq_getElem hj)
  rw [mv_length] at hi
  have h1 := small ha
  have h2 := small hb
  have h3 := small hi
  split at e
  · omega
  · split at e <;> omega
theorem keyV_inj {a b : List Int} (e : keyV a = keyV b) : a[0]! = b[0]! ∧ a[1]! = b[1]! ∧ a[2]! = b[2]! ∧ a[3]! = b[3]! ∧ a[4]! = b[4]! := by
  unfold keyV at e
  generalize a[0]! = a0 at *; generalize a[1]! = a1 at *; generalize a[2]! = a2 at *; generalize a[3]! = a3 at *; generalize a[4]! = a4 at *
  generalize b[0]! = b0 at *; generalize b[1]! = b1 at *; generalize b[2]! = b2 at *; generalize b[3]! = b3 at *; generalize b[4]! = b4 at *
  have e := congrArg Array.toList (Value.agg.inj e)
  simpa using e
theorem lit_inj {H : Type} {a b : Int} (e : (DataW.lit (.int .i64 a) : DataW H) = .lit (.int .i64 b)) : a = b := (Lit.int.inj (DataW.lit.inj e)).2
theorem wf_near {z : Int} (h : -1 ≤ z ∧ z ≤ 7) : (Lit.int .i64 z).wf = true := WalkArith.wf_i64 (by omega)
theorem key_some {a b c d e : Int} (ha : (Lit.int .i64 a).wf = true) (hb : (Lit.int .i64 b).wf = true) (hc : (Lit.int .i64 c).wf = true) (hd : (Lit.int .i64 d).wf = true) (he : (Lit.int .i64 e).wf = true) :
    ∃ k, keyOf Try.prog 82 (.agg #[.int .i64 a, .int .i64 b, .int .i64 c, .int .i64 d, .int .i64 e]) = some k := by
  have ht : Try.prog.keyType 82 = true := by kernel_rfl
  have hs : ∃ m, Try.prog.types.size = m + 1 := ⟨Try.prog.types.size - 1, of_decide_eq_true (by kernel_rfl)⟩
  have c1 : Try.prog.cellsOf 82 = 5 := by kernel_rfl
  have c2 : Try.prog.cellsOf 3 = 1 := by kernel_rfl
  obtain ⟨m, hm⟩ := hs
  have hf : (Value.agg #[.int .i64 a, .int .i64 b, .int .i64 c, .int .i64 d, .int .i64 e]).formed Try.prog 82 = true := by
    simp [Value.formed, Try.underlying82, c1]
  unfold keyOf
  rw [Try.underlying82]
  simp [ht, hf, hm, Program.keyLits, Try.underlying82, Try.underlying3, c1, c2, Value.cells, List.range, List.range.loop, ha, hb, hc, hd, he]
/-- What levels read as, as keys: some function. -/
def KeyFn (kf : List Int → Lit) : Prop := ∀ l, NearIn l → keyOf Try.prog 82 (keyV l) = some (kf l)
theorem keyFn_some : ∃ kf, KeyFn kf := by
  classical
  have h : ∀ l : List Int, ∃ k, NearIn l → keyOf Try.prog 82 (keyV l) = some k := fun l => by
    by_cases h : NearIn l
    · obtain ⟨k, hk⟩ := key_some (wf_near (h.get 0)) (wf_near (h.get 1)) (wf_near (h.get 2)) (wf_near (h.get 3)) (wf_near (h.get 4))
      exact ⟨k, fun _ => hk⟩
    · exact ⟨.bool true, fun h' => absurd h' h⟩
  exact ⟨fun l => Classical.choose (h l), fun l hl => Classical.choose_spec (h l) hl⟩
section
variable {kf : List Int → Lit}
theorem KeyFn.inj (K : KeyFn kf) {a b : List Int} (ha : NearIn a) (hb : NearIn b) (hl : a.length = b.length) (h5 : a.length ≤ 5) (h : kf a = kf b) : a = b := by
  have h1 := K a ha
  have h2 := K b hb
  rw [h] at h1
  have e := keyLaw.inj h1 h2
  obtain ⟨e0, e1, e2, e3, e4⟩ := keyV_inj e
  clear h1 h2 e h
  refine ext! hl fun j hj => ?_
  rcases (show j = 0 ∨ j = 1 ∨ j = 2 ∨ j = 3 ∨ j = 4 by omega) with rfl | rfl | rfl | rfl | rfl <;> assumption
theorem KeyFn.isKey (K : KeyFn kf) {l : List Int} (h : NearIn l) : WideAt.IsKeyLit (kf l) := keyLaw.key (K l h)
end
/-! ### A map of distances -/
def valOf (L : List (List Int × Nat)) (l : List Int) : Int := match dOf L l with | some d => (d : Int) | none => 0
structure MapIs (kf : List Int → Lit) (D : DataW Unit) (c : Nat) (L : List (List Int × Nat)) : Prop where
  has : ∀ l : List Int, l.length = c → NearIn l → Maps.has D (kf l) = (dOf L l).isSome
  val : ∀ l : List Int, l.length = c → NearIn l → D.atKey (kf l) (.lit (.int .i64 0)) = .lit (.int .i64 (valOf L l))
def IsFar (w : World) (bm c : Nat) (L : List (List Int × Nat)) : Prop :=
  ∃ kf n D, KeyFn kf ∧ n ≤ L.length ∧ w.ownsMap Try.prog 82 (plainElem (H := Unit) Try.prog 3) bm n D ∧ MapIs kf D c L
theorem zeroI (w : World) : (zeroValue 3).run Try.prog w = .ok (.int .i64 0) w := by kernel_rfl
section
variable {w w' : World} {bm c : Nat} {L : List (List Int × Nat)}
theorem IsFar.lt (h : IsFar w bm c L) : bm < w.heap.size := by
  obtain ⟨kf, n, D, K, _, ho, _⟩ := h
  exact ho.lt
theorem IsFar.isMap (h : IsFar w bm c L) : ∃ es ck, w.heap[bm]? = some (.map es ck) := by
  obtain ⟨kf, n, D, K, _, ho, _⟩ := h
  obtain ⟨es, ck, h, _⟩ := ho
  exact ⟨es, ck, h⟩
theorem IsFar.kept {row : Option Nat} (h : IsFar w bm c L) (hg : w.grownBy w' row) (hne : some bm ≠ row) : IsFar w' bm c L := by
  obtain ⟨kf, n, D, K, hn, ho, hm⟩ := h
  exact ⟨kf, n, D, K, hn, ho.kept hg hne, hm⟩
theorem IsFar.past {B : Nat} (h : IsFar w bm c L) (hb : Below B w w') (hB : w.heap.size ≤ B) : IsFar w' bm c L := by
  have hlt := h.lt
  obtain ⟨kf, n, D, K, hn, ho, hm⟩ := h
  obtain ⟨es, ck, h1, r⟩ := ho
  exact ⟨kf, n, D, K, hn, ⟨es, ck, by rw [hb.block bm (by omega)]; exact h1, r⟩, hm⟩
theorem IsFar.drew (h : IsFar w bm c L) : IsFar w.drew bm c L := h
theorem IsFar.gw (h : IsFar w bm c L) (p : GP) : IsFar (gw w p) bm c L := h.past (gw_below w p (Nat.le_refl _)) (Nat.le_refl _)
theorem IsFar.setCell (h : IsFar w bm c L) {g i : Nat} (hg : bm ≠ g) (u : Value) : IsFar (w.setCell ⟨g, i, none⟩ u) bm c L := by
  obtain ⟨kf, n, D, K, hn, ho, hm⟩ := h
  exact ⟨kf, n, D, K, hn, ho.setCell hg u, hm⟩
theorem IsFar.made (w : World) (c : Nat) : IsFar (w.alloc (.map #[] 0)) w.heap.size c [] := by
  obtain ⟨kf, K⟩ := keyFn_some
  refine ⟨kf, 0, _, K, Nat.le_refl _, World.ownsMap_made w _ _ _, ⟨fun l hl hn => rfl, fun l hl hn => rfl⟩⟩
theorem IsFar.look {l : List Int} (h : IsFar w bm c L) (hl : l.length = c) (hn : NearIn l) :
    (Instr.lookup 78 (.map (some bm)) (keyV l) false).run Try.prog w = .ok (.int .i64 (valOf L l)) w := by
  obtain ⟨kf, n, D, K, _, ho, hm⟩ := h
  obtain ⟨x, hrun, hat, _⟩ := ho.lookup_int keyLaw Try.underlying78 Try.underlying3 (zeroI _) (K _ hn)
  rw [hm.val l hl hn] at hat
  have hat := lit_inj hat
  rw [hrun, hat]
theorem IsFar.lookOk {l : List Int} (h : IsFar w bm c L) (hl : l.length = c) (hn : NearIn l) :
    (Instr.lookup 78 (.map (some bm)) (keyV l) true).run Try.prog w = .ok (.tuple #[.int .i64 (valOf L l), .bool (dOf L l).isSome]) w := by
  obtain ⟨kf, n, D, K, _, ho, hm⟩ := h
  obtain ⟨v, ps, hrun, hv⟩ := ho.look_ok keyLaw Try.underlying78 (zeroI _) (plainElem_int Try.underlying3 (by decide)) (K _ hn)
  obtain ⟨x, rfl, hx, _⟩ := plainElem_int_inv Try.underlying3 hv
  have hx := congrArg Prod.fst hx
  simp only [hm.val l hl hn] at hx
  have hx := lit_inj hx
  rw [hrun, hm.has l hl hn, hx]
theorem IsFar.put {y : List Int} {d : Nat} (h : IsFar w bm c L) (hc : c ≤ 5) (hl : y.length = c) (hn : NearIn y) (hy : dOf L y = none) (hd : d ≤ 1000000) (hL : L.length ≤ 1000000) :
    ∃ w', (Instr.mapUpdate 78 (.map (some bm)) (keyV y) (.int .i64 d)).run Try.prog w = .ok () w' ∧ IsFar w' bm c (L ++ [(y, d)]) ∧ w.grownBy w' (some bm) := by
  obtain ⟨kf, n, D, K, hn', ho, hm⟩ := h
  obtain ⟨w', hrun, h1, h2⟩ := ho.update keyLaw Try.underlying78 (show n < maxLen by unfold maxLen; omega) (K _ hn) (plainElem_int Try.underlying3 (a := (d : Int)) (WalkArith.wf_i64 (by omega)))
  refine ⟨w', hrun, ⟨kf, n + 1, _, K, by simp; omega, h1, ⟨fun l hl' hn' => ?_, fun l hl' hn' => ?_⟩⟩, h2⟩
  · rw [dOf_append hy]
    by_cases e : l = y
    · subst e
      rw [if_pos rfl, Maps.has_put_same ho.isMap (K.isKey hn)]; rfl
    · rw [if_neg e, Maps.has_put_other (fun e' => e (K.inj hn' hn (by omega) (by omega) e')), hm.has l hl' hn']
  · unfold valOf
    rw [dOf_append hy]
    by_cases e : l = y
    · subst e
      rw [if_pos rfl, Maps.atKey_put_same ho.isMap (K.isKey hn)]
    · rw [if_neg e, Maps.atKey_put_other (fun e' => e (K.inj hn' hn (by omega) (by omega) e')), hm.val l hl' hn']; rfl
end
end Go.Proofs.Ytbedepmcecdhfaa
