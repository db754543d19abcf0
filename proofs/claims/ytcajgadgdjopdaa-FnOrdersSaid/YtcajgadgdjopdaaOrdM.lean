/- Orders of bittern, plainly: what is taken adds up to the order and is bitter enough; the casks after an order are casks. -/
import Derived.Test.YtcajgadgdjopdaaMostM
import Derived.Test.YtcajgadgdjopdaaAftM
import Derived.Test.YtcajgadgdjopdaaBitPB
namespace Go.Proofs.Ytcajgadgdjopdaa
open Go.RowKit
def isum : List Int → Int
  | [] => 0
  | x :: r => x + isum r
theorem isum_append (a b : List Int) : isum (a ++ b) = isum a + isum b := by
  induction a with
  | nil => simp [isum]
  | cons x r ih => rw [List.cons_append, isum, isum, ih]; omega
theorem isum_perm {a b : List Int} (h : a.Perm b) : isum a = isum b := by
  induction h with
  | nil => rfl
  | cons x _ ih => rw [isum, isum, ih]
  | swap x y l => simp only [isum]; omega
  | trans _ _ h1 h2 => exact h1.trans h2
/-- A sum over the first places. -/
def sumR (F : Int → Int) (t : Nat) : Int := isum (((List.range t).map fun (i : Nat) => (i : Int)).map F)
theorem sumR_succ (F : Int → Int) (t : Nat) : sumR F (t + 1) = sumR F t + F t := by
  unfold sumR
  rw [List.range_succ, List.map_append, List.map_append, isum_append]
  simp [isum]
def outK (out : List Int) (z : Int) : Int := out[z.toNat]!
def outG (l : List Bittern) (out : List Int) (z : Int) : Int := out[z.toNat]! * l[z.toNat]!.bitter
theorem ord_sums {l : List Bittern} {k g : Int} : ∀ t, t ≤ l.length →
    isum (((ordTo l l.length).take t).map (outK (outTo l k g l.length))) = k - (stA (sorted l) k g t).1 ∧
    isum (((ordTo l l.length).take t).map (outG l (outTo l k g l.length))) = g - (stA (sorted l) k g t).2
  | 0, _ => by simp [isum, stA]
  | t + 1, ht => by
    obtain ⟨i1, i2⟩ := ord_sums (l := l) (k := k) (g := g) t (by omega)
    obtain ⟨a, ha1, ha⟩ := ordTo_at (l := l) (k := l.length) (show t < l.length by omega)
    have e1 : (ordTo l l.length).take (t + 1) = (ordTo l l.length).take t ++ [(a : Int)] := by rw [List.take_add_one, ha]; rfl
    have e2 : (sorted l)[t]! = l[a]! := List.getElem!_of_getElem? (ins_at ha)
    have e3 := outTo_at (l := l) (k := k) (g := g) (show t < l.length by omega) l.length (by omega) (Nat.le_refl _)
    rw [List.getElem!_of_getElem? ha, Int.toNat_natCast] at e3
    have s1 : stA (sorted l) k g (t + 1) = ((stA (sorted l) k g t).1 - (amtA (sorted l) k g t : Nat), (stA (sorted l) k g t).2 - (amtA (sorted l) k g t : Nat) * (sorted l)[t]!.bitter) := rfl
    rw [e1, List.map_append, List.map_append, isum_append, isum_append, i1, i2, s1]
    simp only [List.map_cons, List.map_nil, isum, outK, outG, Int.toNat_natCast, e3, e2]
    constructor <;> omega
theorem range_sum (F : Int → Int) (l : List Bittern) : sumR F l.length = isum ((ordTo l l.length).map F) :=
  isum_perm ((ordTo_perm l l.length).symm.map F)
theorem st_end {l : List Bittern} {k g : Int} (hA : areBitterns l = true) (hf : FeasS (sorted l) (k, g)) : (stA (sorted l) k g l.length).1 = 0 ∧ (stA (sorted l) k g l.length).2 ≤ 0 := by
  have h := stA_feas (sorted_ok hA) hf l.length (by rw [sorted_length]; exact Nat.le_refl _)
  rw [List.drop_eq_nil_of_le (by rw [sorted_length]; exact Nat.le_refl _)] at h
  exact ⟨h.2.1, h.2.2⟩
/-- All that is taken is the order, and it is bitter enough. -/
theorem out_sums {l : List Bittern} {k g : Int} (hA : areBitterns l = true) (hf : FeasS (sorted l) (k, g)) :
    sumR (outK (outTo l k g l.length)) l.length = k ∧ g ≤ sumR (outG l (outTo l k g l.length)) l.length := by
  obtain ⟨h1, h2⟩ := ord_sums (l := l) (k := k) (g := g) l.length (Nat.le_refl _)
  obtain ⟨e1, e2⟩ := st_end hA hf
  rw [List.take_of_length_le (by rw [ordTo_length]; exact Nat.le_refl _), ← range_sum] at h1 h2
  omega
/-! ### The pairs -/
def dsum (P : List Ditch) : Int := isum (P.map fun x => x.dst)
theorem dsum_append (P Q : List Ditch) : dsum (P ++ Q) = dsum P + dsum Q := by unfold dsum; rw [List.map_append, isum_append]
theorem dsum_nn : ∀ {P : List Ditch}, (∀ x ∈ P, 0 ≤ x.dst) → 0 ≤ dsum P
  | [], _ => by simp [dsum, isum]
  | x :: P, h => by
    have h1 := h x (by simp)
    have h2 := dsum_nn (P := P) fun y hy => h y (by simp [hy])
    show 0 ≤ x.dst + dsum P
    omega
theorem pairs_sum {l : List Bittern} {out : List Int} (h0 : ∀ i, i < l.length → 0 ≤ out[i]!) : ∀ t, t ≤ l.length → dsum (pairsS l out t) = sumR (outK out) t
  | 0, _ => rfl
  | t + 1, ht => by
    have ih := pairs_sum h0 t (by omega)
    rw [pairsS_succ, sumR_succ, ← ih]
    have h1 := h0 t (by omega)
    have e : outK out (t : Int) = out[t]! := by unfold outK; rw [Int.toNat_natCast]
    rw [e]
    by_cases c : 0 < out[t]!
    · rw [if_pos c, dsum_append]; simp [dsum, isum]
    · rw [if_neg c]; omega
theorem pairs_pos {l : List Bittern} {out : List Int} : ∀ t, ∀ x ∈ pairsS l out t, 0 ≤ x.dst
  | 0, x, h => by simp [pairsS, loopTo] at h
  | t + 1, x, h => by
    rw [pairsS_succ] at h
    by_cases c : 0 < out[t]!
    · rw [if_pos c, List.mem_append] at h
      rcases h with h | h
      · exact pairs_pos t x h
      · rw [List.mem_singleton] at h
        subst h
        show 0 ≤ out[t]!
        omega
    · rw [if_neg c] at h
      exact pairs_pos t x h
def dsumTo (P : List Ditch) (t : Nat) : Int := dsum (P.take t)
theorem dsumTo_succ {P : List Ditch} {t : Nat} (h : t < P.length) : dsumTo P (t + 1) = dsumTo P t + P[t]!.dst := by
  unfold dsumTo
  have e : P.take (t + 1) = P.take t ++ [P[t]!] := by
    rw [List.take_add_one, getElem!_pos P t h, List.getElem?_eq_getElem h]; rfl
  rw [e, dsum_append]
  simp [dsum, isum]
theorem dsumTo_rng {P : List Ditch} (h : ∀ x ∈ P, 0 ≤ x.dst) (t : Nat) : 0 ≤ dsumTo P t ∧ dsumTo P t ≤ dsum P := by
  have h1 := dsum_nn (P := P.take t) fun x hx => h x (List.mem_of_mem_take hx)
  have h2 := dsum_nn (P := P.drop t) fun x hx => h x (List.mem_of_mem_drop hx)
  have e : dsum P = dsum (P.take t) + dsum (P.drop t) := by rw [← dsum_append, List.take_append_drop]
  unfold dsumTo
  omega
theorem dsumTo_all (P : List Ditch) : dsumTo P P.length = dsum P := by unfold dsumTo; rw [List.take_length]
/-! ### The casks after -/
theorem areBitterns_mk {l : List Bittern} (h1 : l.length ≤ 8) (h2 : ∀ i, i < l.length → bitternOK l[i]! = true) (h3 : ∀ i, 0 < i → i < l.length → l[i - 1]!.id < l[i]!.id) : areBitterns l = true := by
  have h : firstTo (badBittern l) l.length = none := firstTo_of_none fun i hi => by
    unfold badBittern
    rw [h2 i hi, Bool.true_and]
    rcases Nat.eq_zero_or_pos i with e | e
    · rw [decide_eq_true e]; rfl
    · rw [decide_eq_true (h3 i e hi), Bool.or_true]; rfl
  unfold areBitterns
  rw [h]
  simp [h1]
theorem after_at {l : List Bittern} {out : List Int} {i : Nat} (hi : i < l.length) : (afterAt l out l.length)[i]! = subK l[i]! out[i]! := by
  rw [List.getElem!_of_getElem? (afterAt_get hi l.length), if_pos hi]
theorem after_ok {l : List Bittern} {out : List Int} (h : areBitterns l = true) (hr : ∀ i, i < l.length → 0 ≤ out[i]! ∧ out[i]! ≤ l[i]!.kilos) : areBitterns (afterAt l out l.length) = true := by
  refine areBitterns_mk (by rw [afterAt_length]; exact areBitterns_len h) (fun i hi => ?_) (fun i h0 hi => ?_)
  · rw [afterAt_length] at hi
    obtain ⟨h1, h2, h3⟩ := bitternOK_at (areBitterns_ok h (show l[i]? = some l[i]! by rw [getElem!_pos l i hi]; exact List.getElem?_eq_getElem hi))
    obtain ⟨r1, r2⟩ := hr i hi
    rw [after_at hi]
    generalize l[i]! = x at *
    obtain ⟨x1, x2, x3⟩ := x
    dsimp only at h1 h2 h3 r2
    generalize out[i]! = a at *
    show (inB x1 1 99 && (inB (x2 - a) 0 10000 && inB x3 0 1000)) = true
    rw [inB_mk h1.1 h1.2, inB_mk (x := x2 - a) (by omega) (by omega), inB_mk h3.1 h3.2]
    rfl
  · rw [afterAt_length] at hi
    rw [after_at hi, after_at (show i - 1 < l.length by omega)]
    exact bitternId_inc h (show i - 1 < i by omega) hi
theorem after_grams {l : List Bittern} {out : List Int} (h : areBitterns l = true) (h2 : areBitterns (afterAt l out l.length) = true) : ∀ t, t ≤ l.length → gramsTo l t - gramsTo (afterAt l out l.length) t = sumR (outG l out) t
  | 0, _ => by simp [gramsTo, loopTo, sumR, isum]
  | t + 1, ht => by
    have ih := after_grams h h2 t (by omega)
    obtain ⟨_, a2, _⟩ := (kg_step h t (by omega)).2 (by omega)
    obtain ⟨_, b2, _⟩ := (kg_step h2 t (by rw [afterAt_length]; omega)).2 (by rw [afterAt_length]; omega)
    rw [after_at (show t < l.length by omega)] at b2
    have e : (subK l[t]! out[t]!).kilos * (subK l[t]! out[t]!).bitter = l[t]!.kilos * l[t]!.bitter - out[t]! * l[t]!.bitter := by
      show (l[t]!.kilos - out[t]!) * l[t]!.bitter = _
      rw [Int.sub_mul]
    have e2 : outG l out (t : Int) = out[t]! * l[t]!.bitter := by unfold outG; rw [Int.toNat_natCast]
    rw [sumR_succ, ← ih, a2, b2, e, e2]
    omega
/-- What the law asks of an order that can be filled. -/
structure Ordered (l : List Bittern) (k b : Int) : Prop where
  one : areBitterns l = true
  two : areBitterns (afterP l k b) = true
  len : (afterP l k b).length = l.length
  sum : dsum (fillP l k b) = k
  pos : ∀ x ∈ fillP l k b, 0 ≤ x.dst
  grams : k * b ≤ gramsTo l l.length - gramsTo (afterP l k b) l.length
  rng : (1 ≤ k ∧ k ≤ 100000) ∧ (0 ≤ b ∧ b ≤ 1000)
theorem ordered {l : List Bittern} {k b : Int} (h : fillOK l k b = true) : Ordered l k b := by
  obtain ⟨hA, hk, hb, hf⟩ := fill_feas h
  have hr := fun i (hi : i < l.length) => out_rng hA hf hi
  have e1 : afterP l k b = afterAt l (outTo l k (k * b) l.length) l.length := by unfold afterP; rw [if_pos h]
  have e2 : fillP l k b = pairsS l (outTo l k (k * b) l.length) l.length := by unfold fillP; rw [if_pos h]
  obtain ⟨s1, s2⟩ := out_sums hA hf
  have hA2 := after_ok hA hr
  refine ⟨hA, by rw [e1]; exact hA2, by rw [e1, afterAt_length], ?_, by rw [e2]; exact pairs_pos _, ?_, hk, hb⟩
  · rw [e2, pairs_sum (fun i hi => (hr i hi).1) l.length (Nat.le_refl _), s1]
  · rw [e1, after_grams hA hA2 l.length (Nat.le_refl _)]
    exact s2
end Go.Proofs.Ytcajgadgdjopdaa
