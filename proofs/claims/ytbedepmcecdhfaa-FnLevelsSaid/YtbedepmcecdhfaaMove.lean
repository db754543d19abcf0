/- Loads between ponds, numbers of levels, and what a search comes to: plain laws. -/
import Derived.Test.YtbedepmcecdhfaaLevB
import Derived.Test.YtbedepmcecdhfaaBfs
import Derived.Test.YtbedepmcecdhfaaDitch
namespace Go.Proofs.Ytbedepmcecdhfaa
def ditchOK (n : Nat) (d : Ditch) : Bool := inB d.src 0 ((n : Int) - 1) && inB d.dst 0 ((n : Int) - 1) && !(decide (d.src = d.dst))
/-- c does not stand before d. -/
def lexGE (c d : Ditch) : Bool := decide (d.src < c.src) || (decide (c.src = d.src) && decide (d.dst ≤ c.dst))
def badDitch (n : Nat) (D : List Ditch) (i : Nat) : Bool := !(ditchOK n D[i]!) || (decide (0 < i) && lexGE D[i - 1]! D[i]!)
def isField (g : List Gauge) (D : List Ditch) : Bool := areGauges g && (decide (D.length ≤ 8) && (firstTo (badDitch g.length D) D.length).isNone)
def asked (g : List Gauge) (D : List Ditch) (l : List Int) : Bool := isField g D && areLevels g l
theorem isField_at {g : List Gauge} {D : List Ditch} (h : isField g D = true) : (areGauges g = true ∧ 1 ≤ g.length ∧ g.length ≤ 5) ∧ D.length ≤ 8 ∧
    ∀ k, k < D.length → ∃ a b : Nat, D[k]? = some ⟨a, b⟩ ∧ a < g.length ∧ b < g.length ∧ a ≠ b := by
  simp only [isField, Bool.and_eq_true, decide_eq_true_eq, Option.isNone_iff_eq_none] at h
  obtain ⟨h1, h2, h3⟩ := h
  refine ⟨⟨h1, areGauges_len h1⟩, h2, fun k hk => ?_⟩
  have hx : D[k]? = some (D[k]'hk) := List.getElem?_eq_getElem _
  have := firstTo_none h3 k hk
  simp only [badDitch, Bool.or_eq_false_iff, Bool.not_eq_false', ditchOK, Bool.and_eq_true, Bool.not_eq_true', decide_eq_false_iff_not] at this
  rw [List.getElem!_of_getElem? hx] at this
  obtain ⟨⟨⟨p, q⟩, r⟩, _⟩ := this
  have p' := inB_true p
  have q' := inB_true q
  generalize D[k]'hk = d at *
  obtain ⟨a, b⟩ := d
  simp only at p' q' r
  refine ⟨a.toNat, b.toNat, ?_, by omega, by omega, by omega⟩
  rw [hx]
  congr 2 <;> omega
/-! ### A load -/
def mv (l : List Int) (a b : Nat) : List Int := (l.set a (l[a]! - 1)).set b (l[b]! + 1)
theorem mv_length (l : List Int) (a b : Nat) : (mv l a b).length = l.length := by simp [mv]
theorem get!_set {l : List Int} {i j : Nat} {z : Int} (hi : i < l.length) : (l.set i z)[j]! = if j = i then z else l[j]! := by
  by_cases h : j = i
  · subst h
    rw [if_pos rfl, getElem!_pos (l.set j z) j (by simpa using hi)]
    simp
  · rw [if_neg h]
    by_cases hj : j < l.length
    · rw [getElem!_pos (l.set i z) j (by simpa using hj), getElem!_pos l j hj, List.getElem_set_ne (by omega)]
    · rw [getElem!_neg (l.set i z) j (by simpa using hj), getElem!_neg l j hj]
theorem mv_get {l : List Int} {a b : Nat} (ha : a < l.length) (hb : b < l.length) (_ : a ≠ b) (j : Nat) : (mv l a b)[j]! = if j = b then l[b]! + 1 else if j = a then l[a]! - 1 else l[j]! := by
  rw [mv, get!_set (by simpa using hb), get!_set ha]
theorem ext! {a b : List Int} (hl : a.length = b.length) (h : ∀ j, j < a.length → a[j]! = b[j]!) : a = b := by
  apply List.ext_getElem hl
  intro j h1 h2
  have := h j h1
  rwa [getElem!_pos a j h1, getElem!_pos b j h2] at this
theorem mv_back {l : List Int} {a b : Nat} (ha : a < l.length) (hb : b < l.length) (hne : a ≠ b) : mv (mv l a b) b a = l := by
  refine ext! (by simp [mv_length]) fun j hj => ?_
  rw [mv_get (by rw [mv_length]; exact hb) (by rw [mv_length]; exact ha) hne.symm, mv_get ha hb hne, mv_get ha hb hne, mv_get ha hb hne]
  by_cases h1 : j = a
  · subst h1
    rw [if_pos rfl, if_neg hne, if_pos rfl]; omega
  · rw [if_neg h1, if_neg h1]
    by_cases h2 : j = b
    · subst h2
      rw [if_pos rfl, if_pos rfl]; omega
    · rw [if_neg h2, if_neg h2]
theorem sumI_set : ∀ {l : List Int} {i : Nat} {z : Int}, i < l.length → sumI (l.set i z) = sumI l - l[i]! + z
  | [], i, z, h => by simp at h
  | x :: r, 0, z, _ => by
    show z + sumI r = x + sumI r - x + z
    omega
  | x :: r, i + 1, z, h => by
    have h' : i < r.length := by simpa using h
    show x + sumI (r.set i z) = x + sumI r - (x :: r)[i + 1]! + z
    rw [sumI_set h', show (x :: r)[i + 1]! = r[i]! by simp]
    omega
theorem sumI_mv {l : List Int} {a b : Nat} (ha : a < l.length) (hb : b < l.length) (hne : a ≠ b) : sumI (mv l a b) = sumI l := by
  rw [mv, sumI_set (by simpa using hb), sumI_set ha, get!_set ha, if_neg hne.symm]
  omega
/-- A load by a ditch, or against it. -/
def mvP (D : List Ditch) (fwd : Bool) (k : Nat) (l : List Int) : List Int := if fwd then mv l D[k]!.src.toNat D[k]!.dst.toNat else mv l D[k]!.dst.toNat D[k]!.src.toNat
/-- Neighbours by ditches. -/
def nbP (g : List Gauge) (D : List Ditch) (fwd : Bool) (k : Nat) (l : List Int) : Option (List Int) := if areLevels g (mvP D fwd k l) then some (mvP D fwd k l) else none
theorem nbP_some {g : List Gauge} {D : List Ditch} {fwd : Bool} {k : Nat} {x y : List Int} (h : nbP g D fwd k x = some y) : areLevels g y = true ∧ y = mvP D fwd k x := by
  unfold nbP at h
  split at h
  · rename_i hl
    injection h with h
    rw [h] at hl
    exact ⟨hl, h.symm⟩
  · cases h
theorem areLevels_len {g : List Gauge} {l : List Int} (h : areLevels g l = true) : l.length = g.length := ((areLevels_iff g l).1 h).1
theorem nbP_back {g : List Gauge} {D : List Ditch} (hF : isField g D = true) {fwd : Bool} {k : Nat} {x y : List Int} (hk : k < D.length) (hx : areLevels g x = true) (h : nbP g D fwd k x = some y) : nbP g D (!fwd) k y = some x := by
  obtain ⟨_, _, hD⟩ := isField_at hF
  obtain ⟨a, b, hab, ha, hb, hne⟩ := hD k hk
  obtain ⟨_, rfl⟩ := nbP_some h
  have hl := areLevels_len hx
  unfold nbP mvP
  rw [List.getElem!_of_getElem? hab]
  simp only [Int.toNat_natCast]
  cases fwd
  · have e := mv_back (l := x) (a := b) (b := a) (by omega) (by omega) hne.symm
    simp [e, hx]
  · have e := mv_back (l := x) (a := a) (b := b) (by omega) (by omega) hne
    simp [e, hx]
theorem nbP_sum {g : List Gauge} {D : List Ditch} (hF : isField g D = true) {fwd : Bool} {k : Nat} {x y : List Int} (hk : k < D.length) (hx : areLevels g x = true) (h : nbP g D fwd k x = some y) : sumI y = sumI x := by
  obtain ⟨_, _, hD⟩ := isField_at hF
  obtain ⟨a, b, hab, ha, hb, hne⟩ := hD k hk
  obtain ⟨_, rfl⟩ := nbP_some h
  have hl := areLevels_len hx
  unfold mvP
  rw [List.getElem!_of_getElem? hab]
  simp only [Int.toNat_natCast]
  cases fwd
  · simpa using sumI_mv (l := x) (by omega) (by omega) hne.symm
  · simpa using sumI_mv (l := x) (by omega) (by omega) hne
abbrev WayP (g : List Gauge) (D : List Ditch) (fwd : Bool) := Way (nbP g D fwd) D.length
theorem way_back {g : List Gauge} {D : List Ditch} (hF : isField g D = true) {fwd : Bool} {x y : List Int} {n : Nat} (hx : areLevels g x = true) (h : WayP g D fwd x y n) : WayP g D (!fwd) y x n :=
  Way.back (P := fun l => areLevels g l = true) (fun _ _ _ _ _ h => (nbP_some h).1) (fun _ _ _ hk hp h => nbP_back hF hk hp h) hx h
theorem way_ok {g : List Gauge} {D : List Ditch} {fwd : Bool} {x y : List Int} {n : Nat} (hx : areLevels g x = true) (h : WayP g D fwd x y n) : areLevels g y = true :=
  h.all (P := fun l => areLevels g l = true) hx (fun _ _ _ _ _ h => (nbP_some h).1)
theorem way_sum {g : List Gauge} {D : List Ditch} (hF : isField g D = true) {fwd : Bool} {x y : List Int} {n : Nat} (hx : areLevels g x = true) (h : WayP g D fwd x y n) : sumI y = sumI x :=
  (h.all (P := fun l => areLevels g l = true ∧ sumI l = sumI x) ⟨hx, rfl⟩ (fun _ _ _ hk hp h => ⟨(nbP_some h).1, (nbP_sum hF hk hp.1 h).trans hp.2⟩)).2
/-! ### Numbers of levels -/
def numN (l : List Int) : Nat := l.foldl (fun n x => 7 * n + x.toNat) 0
theorem numN_snoc (l : List Int) (x : Int) : numN (l ++ [x]) = 7 * numN l + x.toNat := by simp [numN]
theorem SmallIn.init {l : List Int} {x : Int} (h : SmallIn (l ++ [x])) : SmallIn l ∧ 0 ≤ x ∧ x ≤ 6 := by
  refine ⟨fun i y hy => h i y ?_, h l.length x (by simp)⟩
  rw [List.getElem?_append_left (List.getElem?_eq_some_iff.1 hy).1, hy]
theorem snocCases {α : Type} (P : List α → Prop) (h0 : P []) (h1 : ∀ l x, P l → P (l ++ [x])) : ∀ l, P l := fun l => by
  rw [← List.reverse_reverse l]
  generalize l.reverse = r
  induction r with
  | nil => exact h0
  | cons x r ih => rw [List.reverse_cons]; exact h1 _ _ ih
theorem numN_lt : ∀ l : List Int, SmallIn l → numN l < 7 ^ l.length :=
  snocCases _ (fun _ => by simp [numN]) fun l x ih h => by
    obtain ⟨h1, h2, h3⟩ := h.init
    have := ih h1
    rw [numN_snoc, List.length_append, List.length_singleton, Nat.pow_succ]
    omega
theorem digs_num : ∀ l : List Int, SmallIn l → digs l.length (numN l) = l :=
  snocCases _ (fun _ => rfl) fun l x ih h => by
    obtain ⟨h1, h2, h3⟩ := h.init
    rw [List.length_append, List.length_singleton, digs, numN_snoc, show (7 * numN l + x.toNat) / 7 = numN l by omega, ih h1, show ((7 * numN l + x.toNat) % 7 : Nat) = x.toNat by omega, show ((x.toNat : Nat) : Int) = x by omega]
theorem num_digs : ∀ c n, n < 7 ^ c → numN (digs c n) = n
  | 0, n, h => by simp at h; subst h; rfl
  | c + 1, n, h => by
    rw [Nat.pow_succ] at h
    rw [digs, numN_snoc, num_digs c (n / 7) (by omega)]
    omega
theorem numN_inj {a b : List Int} (ha : SmallIn a) (hb : SmallIn b) (hl : a.length = b.length) (h : numN a = numN b) : a = b := by
  rw [← digs_num a ha, ← digs_num b hb, hl, h]
theorem areLevels_small {g : List Gauge} (hg : areGauges g = true) {l : List Int} (h : areLevels g l = true) : SmallIn l := by
  obtain ⟨h1, h2⟩ := (areLevels_iff g l).1 h
  intro i x hx
  have hi : i < g.length := by have := (List.getElem?_eq_some_iff.1 hx).1; omega
  have := inB_true (h2 i hi)
  rw [List.getElem!_of_getElem? hx] at this
  have hgx : g[i]? = some (g[i]'hi) := List.getElem?_eq_getElem _
  rw [List.getElem!_of_getElem? hgx] at this
  obtain ⟨g1, g2, g3⟩ := gaugeOK_at (areGauges_ok hg hgx)
  omega
/-! ### What a search finds -/
def finP (g : List Gauge) (D : List Ditch) (s : List Int) (fwd : Bool) : List (List Int × Nat) := runTo (nbP g D fwd) D.length s (7 ^ g.length)
section
variable {g : List Gauge} {D : List Ditch} {s : List Int} {fwd : Bool}
theorem run_ok (hs : areLevels g s = true) (a : Nat) : ∀ p ∈ runTo (nbP g D fwd) D.length s a, areLevels g p.1 = true :=
  runTo_all (P := fun l => areLevels g l = true) hs (fun _ _ _ _ _ h => (nbP_some h).1)
theorem run_bound (hg : areGauges g = true) (hs : areLevels g s = true) (a : Nat) : (runTo (nbP g D fwd) D.length s a).length ≤ 7 ^ g.length := by
  refine (found_run (nbP g D fwd) D.length s a).keys.bound (f := numN) (fun p hp => ?_) (fun p hp q hq h => ?_)
  · have := run_ok hs a p hp
    rw [← areLevels_len this]
    exact numN_lt _ (areLevels_small hg this)
  · have h1 := run_ok hs a p hp
    have h2 := run_ok hs a q hq
    exact numN_inj (areLevels_small hg h1) (areLevels_small hg h2) (by rw [areLevels_len h1, areLevels_len h2]) h
theorem run_le (hg : areGauges g = true) (hs : areLevels g s = true) (a : Nat) : (runTo (nbP g D fwd) D.length s a).length ≤ 16807 :=
  Nat.le_trans (run_bound hg hs a) (pow7 (areGauges_len hg).2)
theorem fin_of (hg : areGauges g = true) (hs : areLevels g s = true) {a : Nat} (h : (runTo (nbP g D fwd) D.length s a).length = a) : runTo (nbP g D fwd) D.length s a = finP g D s fwd := by
  have := run_bound (D := D) (fwd := fwd) hg hs a
  exact (runTo_end (by omega) (by omega)).symm
theorem fin_end (hg : areGauges g = true) (hs : areLevels g s = true) : (finP g D s fwd).length ≤ 7 ^ g.length := run_bound hg hs _
theorem fin_found : Found (nbP g D fwd) D.length s (7 ^ g.length) (finP g D s fwd) := found_run _ _ _ _
theorem fin_ok (hs : areLevels g s = true) : ∀ p ∈ finP g D s fwd, areLevels g p.1 = true := run_ok hs _
theorem fin_least (hg : areGauges g = true) (hs : areLevels g s = true) {y : List Int} {d : Nat} : dOf (finP g D s fwd) y = some d ↔ WayP g D fwd s y d ∧ ∀ n, WayP g D fwd s y n → d ≤ n := found_least (fin_end hg hs)
theorem fin_none (hg : areGauges g = true) (hs : areLevels g s = true) {y : List Int} : dOf (finP g D s fwd) y = none ↔ ∀ n, ¬ WayP g D fwd s y n := found_none (fin_end hg hs)
/-- Forward from s to t is as far as against the ditches from t to s. -/
theorem fin_turn (hF : isField g D = true) {t : List Int} (hs : areLevels g s = true) (ht : areLevels g t = true) : dOf (finP g D s fwd) t = dOf (finP g D t (!fwd)) s := by
  have hg := (isField_at hF).1.1
  cases e : dOf (finP g D s fwd) t with
  | none =>
    rw [fin_none hg hs] at e
    symm
    rw [fin_none hg ht]
    intro n hn
    have := way_back hF ht hn
    rw [Bool.not_not] at this
    exact e n this
  | some d =>
    rw [fin_least hg hs] at e
    symm
    rw [fin_least hg ht]
    refine ⟨way_back hF hs e.1, fun n hn => e.2 n ?_⟩
    have := way_back hF ht hn
    rwa [Bool.not_not] at this
end
/-! ### How many are found; the fullest; the farthest -/
theorem cnt_of {f : Nat → Bool} : ∀ (N : Nat) (K : List Nat), K.Nodup → (∀ n, n < N → (f n = true ↔ n ∈ K)) → (∀ k ∈ K, k < N) → cntTo f N = K.length
  | 0, K, _, _, h => by
    cases K with
    | nil => rfl
    | cons x r => have := h x (by simp); omega
  | N + 1, K, hd, hf, hk => by
    have h1 := cnt_of N (K.erase N) (hd.erase N) (fun n hn => by
      rw [hf n (by omega), hd.mem_erase_iff]
      exact ⟨fun h => ⟨by omega, h⟩, fun h => h.2⟩) (fun k h => by
      have := hd.mem_erase_iff.1 h
      have := hk k this.2
      omega)
    rw [cntTo, h1]
    by_cases hN : N ∈ K
    · rw [if_pos ((hf N (by omega)).2 hN), List.length_erase_of_mem hN]
      have := List.length_pos_of_mem hN
      omega
    · rw [if_neg (fun h => hN ((hf N (by omega)).1 h)), List.erase_of_not_mem hN]
      rfl
theorem cnt_ge {f : Nat → Bool} : ∀ (N : Nat) (K : List Nat), K.Nodup → (∀ k ∈ K, k < N ∧ f k = true) → K.length ≤ cntTo f N
  | 0, K, _, h => by
    cases K with
    | nil => simp
    | cons x r => have := h x (by simp); omega
  | N + 1, K, hd, hk => by
    have h1 := cnt_ge N (K.erase N) (hd.erase N) (fun k h => by
      have h2 := hd.mem_erase_iff.1 h
      have := hk k h2.2
      exact ⟨by omega, this.2⟩)
    rw [cntTo]
    by_cases hN : N ∈ K
    · rw [if_pos (hk N hN).2]
      rw [List.length_erase_of_mem hN] at h1
      omega
    · rw [List.erase_of_not_mem hN] at h1
      omega
/-- The distance by number, -1 where there is none. -/
def farI (L : List (List Int × Nat)) (c n : Nat) : Int := match dOf L (digs c n) with | some d => d | none => -1
theorem farI_num {L : List (List Int × Nat)} {l : List Int} (h : SmallIn l) : farI L l.length (numN l) = match dOf L l with | some d => (d : Int) | none => -1 := by
  unfold farI; rw [digs_num l h]
section
variable {g : List Gauge} {D : List Ditch} {s : List Int} {fwd : Bool}
theorem keys_nodup (hg : areGauges g = true) (hs : areLevels g s = true) : ((finP g D s fwd).map fun p => numN p.1).Nodup := by
  unfold List.Nodup
  refine List.pairwise_map.2 (List.Pairwise.imp_of_mem (fun {p q} hp hq hne => ?_) fin_found.keys)
  have h1 := fin_ok hs p hp
  have h2 := fin_ok hs q hq
  exact fun e => hne (numN_inj (areLevels_small hg h1) (areLevels_small hg h2) (by rw [areLevels_len h1, areLevels_len h2]) e)
theorem key_iff (hg : areGauges g = true) (hs : areLevels g s = true) {n : Nat} (hn : n < 7 ^ g.length) : 0 ≤ farI (finP g D s fwd) g.length n ↔ n ∈ (finP g D s fwd).map fun p => numN p.1 := by
  unfold farI
  constructor
  · intro h
    cases e : dOf (finP g D s fwd) (digs g.length n) with
    | none => rw [e] at h; simp only at h; omega
    | some d => exact List.mem_map.2 ⟨_, dOf_mem e, num_digs _ _ hn⟩
  · intro h
    obtain ⟨p, hp, rfl⟩ := List.mem_map.1 h
    have h1 := fin_ok hs p hp
    rw [← areLevels_len h1, digs_num _ (areLevels_small hg h1), (dOf_some fin_found.keys).2 (show (p.1, p.2) ∈ _ from hp)]
    simp only
    omega
theorem count_fin (hg : areGauges g = true) (hs : areLevels g s = true) : cntTo (fun n => decide (0 ≤ farI (finP g D s fwd) g.length n)) (7 ^ g.length) = (finP g D s fwd).length := by
  rw [cnt_of (7 ^ g.length) ((finP g D s fwd).map fun p => numN p.1) (keys_nodup hg hs) (fun n hn => by rw [decide_eq_true_eq, key_iff hg hs hn]) (fun k hk => by
    obtain ⟨p, hp, rfl⟩ := List.mem_map.1 hk
    have h1 := fin_ok hs p hp
    rw [← areLevels_len h1]
    exact numN_lt _ (areLevels_small hg h1))]
  simp
end
end Go.Proofs.Ytbedepmcecdhfaa
