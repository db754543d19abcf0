/- The fullest pond, the farthest levels, the shortest plan: plain laws. -/
import Derived.Test.YtbedepmcecdhfaaMove
namespace Go.Proofs.Ytbedepmcecdhfaa
/-! ### The fullest -/
def mxTo (p : Nat → Bool) (v : Nat → Int) : Nat → Int
  | 0 => 0
  | n + 1 => if p n then max (mxTo p v n) (v n) else mxTo p v n
theorem mxTo_pos (p : Nat → Bool) (v : Nat → Int) : ∀ n, 0 ≤ mxTo p v n
  | 0 => Int.le_refl _
  | n + 1 => by have := mxTo_pos p v n; rw [mxTo]; split <;> omega
theorem mxTo_ge {p : Nat → Bool} {v : Nat → Int} : ∀ {n i : Nat}, i < n → p i = true → v i ≤ mxTo p v n
  | 0, _, h, _ => by omega
  | n + 1, i, h, hp => by
    rw [mxTo]
    by_cases e : i = n
    · subst e; rw [if_pos hp]; omega
    · have := mxTo_ge (v := v) (show i < n by omega) hp
      split <;> omega
theorem mxTo_le {p : Nat → Bool} {v : Nat → Int} {X : Int} (h0 : 0 ≤ X) : ∀ {n : Nat}, (∀ i, i < n → p i = true → v i ≤ X) → mxTo p v n ≤ X
  | 0, _ => h0
  | n + 1, h => by
    have := mxTo_le h0 (n := n) fun i hi => h i (by omega)
    rw [mxTo]
    split
    · rename_i hp
      have := h n (by omega) hp
      omega
    · exact this
def fullTo (L : List (List Int × Nat)) (pond k : Nat) : Int := mxTo (fun _ => true) (fun i => L[i]!.1[pond]!) k
def fullN (L : List (List Int × Nat)) (c pond n : Nat) : Int := mxTo (fun n => decide (0 ≤ farI L c n)) (fun n => (digs c n)[pond]!) n
theorem get!_mem {α : Type} [Inhabited α] {l : List α} {i : Nat} (h : i < l.length) : l[i]! ∈ l := by
  rw [getElem!_pos l i h]; exact List.getElem_mem h
section
variable {g : List Gauge} {D : List Ditch} {s : List Int} {fwd : Bool}
theorem full_eq (hg : areGauges g = true) (hs : areLevels g s = true) (pond : Nat) : fullN (finP g D s fwd) g.length pond (7 ^ g.length) = fullTo (finP g D s fwd) pond (finP g D s fwd).length := by
  apply Int.le_antisymm
  · refine mxTo_le (mxTo_pos _ _ _) fun n hn hp => ?_
    rw [decide_eq_true_eq, key_iff hg hs hn] at hp
    obtain ⟨p, hp', rfl⟩ := List.mem_map.1 hp
    have hp := hp'
    obtain ⟨i, hi⟩ := List.getElem?_of_mem hp
    have h1 := fin_ok hs p hp
    rw [← areLevels_len h1, digs_num _ (areLevels_small hg h1)]
    have := mxTo_ge (p := fun _ => true) (v := fun i => (finP g D s fwd)[i]!.1[pond]!) (List.getElem?_eq_some_iff.1 hi).1 rfl
    rw [List.getElem!_of_getElem? hi] at this
    exact this
  · refine mxTo_le (mxTo_pos _ _ _) fun i hi _ => ?_
    have hp := get!_mem hi
    generalize (finP g D s fwd)[i]! = p at hp ⊢
    have h1 := fin_ok hs p hp
    have hlt : numN p.1 < 7 ^ g.length := by rw [← areLevels_len h1]; exact numN_lt _ (areLevels_small hg h1)
    have := mxTo_ge (p := fun n => decide (0 ≤ farI (finP g D s fwd) g.length n)) (v := fun n => (digs g.length n)[pond]!) hlt (by rw [decide_eq_true_eq, key_iff hg hs hlt]; exact List.mem_map.2 ⟨p, hp, rfl⟩)
    have e : digs g.length (numN p.1) = p.1 := by rw [← areLevels_len h1]; exact digs_num _ (areLevels_small hg h1)
    rw [e] at this
    exact this
end
/-! ### The farthest -/
def farther (b p : List Int × Nat) : Bool := decide (b.2 < p.2) || (decide (p.2 = b.2) && decide (numN p.1 < numN b.1))
theorem farther_false {b p : List Int × Nat} : farther b p = false ↔ p.2 < b.2 ∨ (p.2 = b.2 ∧ numN b.1 ≤ numN p.1) := by
  simp only [farther, Bool.or_eq_false_iff, Bool.and_eq_false_iff, decide_eq_false_iff_not]; omega
theorem farther_true {b p : List Int × Nat} : farther b p = true ↔ b.2 < p.2 ∨ (p.2 = b.2 ∧ numN p.1 < numN b.1) := by
  simp only [farther, Bool.or_eq_true, Bool.and_eq_true, decide_eq_true_eq]
def bestF (L : List (List Int × Nat)) : Nat → List Int × Nat
  | 0 => L[0]!
  | k + 1 => if farther (bestF L k) L[k]! then L[k]! else bestF L k
theorem bestF_mem {L : List (List Int × Nat)} (h : 0 < L.length) : ∀ k, k ≤ L.length → bestF L k ∈ L
  | 0, _ => get!_mem h
  | k + 1, hk => by
    rw [bestF]
    split
    · exact get!_mem (by omega)
    · exact bestF_mem h k (by omega)
theorem bestF_top {L : List (List Int × Nat)} : ∀ k i, i < k → farther (bestF L k) L[i]! = false
  | 0, _, h => by omega
  | k + 1, i, h => by
    have hk := fun j hj => bestF_top (L := L) k j hj
    rw [bestF]
    split
    · rename_i hf
      rw [farther_true] at hf
      by_cases e : i = k
      · subst e; rw [farther_false]; omega
      · have := hk i (by omega)
        rw [farther_false] at this ⊢
        omega
    · rename_i hf
      by_cases e : i = k
      · subst e; simpa using hf
      · exact hk i (by omega)
def sbTo (f : Nat → Int) (b : Nat) : Nat → Nat
  | 0 => b
  | n + 1 => if f (sbTo f b n) < f n then n else sbTo f b n
theorem sbTo_lt {f : Nat → Int} {b N : Nat} (hb : b < N) : ∀ n, n ≤ N → sbTo f b n < N
  | 0, _ => hb
  | n + 1, h => by
    rw [sbTo]
    split
    · omega
    · exact sbTo_lt hb n (by omega)
theorem sbTo_top {f : Nat → Int} {b : Nat} : ∀ n, f b ≤ f (sbTo f b n) ∧ (∀ i, i < n → f i ≤ f (sbTo f b n)) ∧ (sbTo f b n = b ∨ ∀ i, i < sbTo f b n → f i < f (sbTo f b n))
  | 0 => ⟨Int.le_refl _, fun i h => by omega, .inl rfl⟩
  | n + 1 => by
    obtain ⟨h1, h2, h3⟩ := sbTo_top (f := f) (b := b) n
    rw [sbTo]
    split
    · rename_i hf
      refine ⟨by omega, fun i hi => ?_, .inr fun i hi => ?_⟩
      · by_cases e : i = n
        · subst e; exact Int.le_refl _
        · have := h2 i (by omega); omega
      · have := h2 i hi; omega
    · rename_i hf
      refine ⟨h1, fun i hi => ?_, h3⟩
      by_cases e : i = n
      · subst e; omega
      · exact h2 i (by omega)
section
variable {g : List Gauge} {D : List Ditch} {s : List Int} {fwd : Bool}
theorem fin_pos : 0 < (finP g D s fwd).length := List.length_pos_of_mem fin_found.first
theorem far_eq (hg : areGauges g = true) (hs : areLevels g s = true) :
    digs g.length (sbTo (farI (finP g D s fwd) g.length) (numN s) (7 ^ g.length)) = (bestF (finP g D s fwd) (finP g D s fwd).length).1 ∧
    farI (finP g D s fwd) g.length (sbTo (farI (finP g D s fwd) g.length) (numN s) (7 ^ g.length)) = ((bestF (finP g D s fwd) (finP g D s fwd).length).2 : Nat) := by
  have hF := fin_found (g := g) (D := D) (s := s) (fwd := fwd)
  have hn : numN s < 7 ^ g.length := by rw [← areLevels_len hs]; exact numN_lt _ (areLevels_small hg hs)
  have hN := sbTo_lt (f := farI (finP g D s fwd) g.length) hn (7 ^ g.length) (Nat.le_refl _)
  obtain ⟨h1, h2, h3⟩ := sbTo_top (f := farI (finP g D s fwd) g.length) (b := numN s) (7 ^ g.length)
  have hb := bestF_mem (fin_pos (g := g) (D := D) (s := s) (fwd := fwd)) _ (Nat.le_refl _)
  have ht : ∀ p ∈ finP g D s fwd, farther (bestF (finP g D s fwd) (finP g D s fwd).length) p = false := fun p hp => by
    obtain ⟨i, hi⟩ := List.getElem?_of_mem hp
    have := bestF_top (L := finP g D s fwd) _ i (List.getElem?_eq_some_iff.1 hi).1
    rwa [List.getElem!_of_getElem? hi] at this
  generalize sbTo (farI (finP g D s fwd) g.length) (numN s) (7 ^ g.length) = z at *
  generalize bestF (finP g D s fwd) (finP g D s fwd).length = bd at *
  obtain ⟨b, d⟩ := bd
  generalize hL : finP g D s fwd = L at *
  have hok : ∀ p ∈ L, areLevels g p.1 = true := by rw [← hL]; exact fin_ok hs
  have hnum : ∀ p ∈ L, numN p.1 < 7 ^ g.length ∧ farI L g.length (numN p.1) = (p.2 : Int) ∧ digs g.length (numN p.1) = p.1 := fun p hp => by
    have e := hok p hp
    have e1 := areLevels_len e
    have e2 := areLevels_small hg e
    refine ⟨by rw [← e1]; exact numN_lt _ e2, ?_, by rw [← e1]; exact digs_num _ e2⟩
    rw [← e1, farI_num e2, (dOf_some hF.keys).2 (show (p.1, p.2) ∈ L from hp)]
  obtain ⟨b1, b2, b3⟩ := hnum _ hb
  obtain ⟨s1, s2, s3⟩ := hnum _ hF.first
  simp only at b1 b2 b3 s1 s2 s3
  have hzb := h2 _ b1
  rw [b2] at hzb
  have hz : (digs g.length z, (farI L g.length z).toNat) ∈ L ∧ 0 ≤ farI L g.length z := by
    have e : 0 ≤ farI L g.length z := by omega
    refine ⟨?_, e⟩
    have e' : farI L g.length z = match dOf L (digs g.length z) with | some d => (d : Int) | none => -1 := rfl
    rw [e'] at e ⊢
    cases hd : dOf L (digs g.length z) with
    | none => rw [hd] at e; simp only at e; omega
    | some d' => exact dOf_mem hd
  obtain ⟨hz1, hz0⟩ := hz
  have hfz := ht _ hz1
  rw [farther_false] at hfz
  simp only [num_digs _ _ hN] at hfz
  have hd : farI L g.length z = (d : Int) := by omega
  refine ⟨?_, hd⟩
  rcases h3 with h3 | h3
  · have hd0 : d = 0 := by rw [h3, s2] at hd; omega
    have hfs := ht _ hF.first
    have := hF.before _ hb
    rcases this with h | ⟨p, _, _, _, _, h⟩
    · injection h with h
      rw [h, h3, s3]
    · simp only at h; omega
  · have hge : z ≤ numN b := by
      rcases Nat.lt_or_ge (numN b) z with h | h
      · have := h3 _ h
        rw [b2] at this; omega
      · exact h
    have : z = numN b := by omega
    rw [this, b3]
end
/-! ### Plans -/
/-- One load of a plan. -/
def stepP (g : List Gauge) (D : List Ditch) (k : Int) (l : List Int) : Option (List Int) := if inB k 0 ((D.length : Int) - 1) then nbP g D true k.toNat l else none
def goTo (g : List Gauge) (D : List Ditch) (s p : List Int) : Nat → Option (List Int)
  | 0 => some s
  | i + 1 => (goTo g D s p i).bind (stepP g D p[i]!)
def goP (g : List Gauge) (D : List Ditch) (s p : List Int) : Option (List Int) := goTo g D s p p.length
theorem goTo_app (g : List Gauge) (D : List Ditch) (s p : List Int) (k : Int) : ∀ i, i ≤ p.length → goTo g D s (p ++ [k]) i = goTo g D s p i
  | 0, _ => rfl
  | i + 1, h => by
    have e : (p ++ [k])[i]! = p[i]! := by
      rw [getElem!_pos (p ++ [k]) i (by simp; omega), getElem!_pos p i (by omega), List.getElem_append_left]
    rw [goTo, goTo, goTo_app g D s p k i (by omega), e]
theorem goP_snoc (g : List Gauge) (D : List Ditch) (s p : List Int) (k : Int) : goP g D s (p ++ [k]) = (goP g D s p).bind (stepP g D k) := by
  unfold goP
  rw [List.length_append, List.length_singleton, goTo, goTo_app g D s p k _ (Nat.le_refl _)]
  congr 1
  simp
theorem goTo_way {g : List Gauge} {D : List Ditch} {s p : List Int} : ∀ (i : Nat) {e : List Int}, goTo g D s p i = some e → WayP g D true s e i
  | 0, e, h => by injection h with h; subst h; exact .refl _
  | i + 1, e, h => by
    rw [goTo] at h
    obtain ⟨x, hx, hs⟩ := Option.bind_eq_some_iff.1 h
    unfold stepP at hs
    split at hs
    · rename_i hk
      have := inB_true hk
      exact .step (goTo_way i hx) (by omega) hs
    · cases hs
/-- The ditch k leads from x to levels at distance t. -/
def hitP (g : List Gauge) (D : List Ditch) (F : List Int → Option Nat) (t : Nat) (x : List Int) (k : Nat) : Bool :=
  areLevels g (mvP D true k x) && decide (F (mvP D true k x) = some t)
def planTo (g : List Gauge) (D : List Ditch) (F : List Int → Option Nat) (s : List Int) (d : Nat) : Nat → List Int × List Int
  | 0 => ([], s)
  | j + 1 => match firstTo (hitP g D F (d - (j + 1)) (planTo g D F s d j).2) D.length with
    | some k => ((planTo g D F s d j).1 ++ [(k : Int)], mvP D true k (planTo g D F s d j).2)
    | none => planTo g D F s d j
theorem plan_inv {g : List Gauge} {D : List Ditch} {s t : List Int} (hF : isField g D = true) (hs : areLevels g s = true) (ht : areLevels g t = true) {d : Nat} (hd : dOf (finP g D t false) s = some d) :
    ∀ j, j ≤ d → (planTo g D (dOf (finP g D t false)) s d j).1.length = j ∧ goP g D s (planTo g D (dOf (finP g D t false)) s d j).1 = some (planTo g D (dOf (finP g D t false)) s d j).2 ∧
      areLevels g (planTo g D (dOf (finP g D t false)) s d j).2 = true ∧ dOf (finP g D t false) (planTo g D (dOf (finP g D t false)) s d j).2 = some (d - j)
  | 0, _ => ⟨rfl, rfl, hs, hd⟩
  | j + 1, hj => by
    obtain ⟨h1, h2, h3, h4⟩ := plan_inv hF hs ht hd j (by omega)
    rw [planTo]
    generalize planTo g D (dOf (finP g D t false)) s d j = px at *
    obtain ⟨p, x⟩ := px
    simp only at h1 h2 h3 h4 ⊢
    have hFo := fin_found (g := g) (D := D) (s := t) (fwd := false)
    have hex : ∃ k, k < D.length ∧ hitP g D (dOf (finP g D t false)) (d - (j + 1)) x k = true := by
      rcases hFo.before _ (dOf_mem h4) with h | ⟨y, hy, k, hk, hnb, hdk⟩
      · injection h with _ h; omega
      · obtain ⟨y, dy⟩ := y
        simp only at hnb hdk
        have hyl := fin_ok ht _ hy
        have hb := nbP_back hF hk hyl hnb
        obtain ⟨_, e⟩ := nbP_some hb
        rw [Bool.not_false] at e
        refine ⟨k, hk, ?_⟩
        rw [hitP, ← e, hyl, (dOf_some hFo.keys).2 hy]
        simp only [Bool.true_and, decide_eq_true_eq]
        congr 1
        omega
    obtain ⟨k0, hk0, hh0⟩ := hex
    cases hf : firstTo (hitP g D (dOf (finP g D t false)) (d - (j + 1)) x) D.length with
    | none => rw [firstTo_none hf k0 hk0] at hh0; cases hh0
    | some k =>
      obtain ⟨hk, hh, _⟩ := firstTo_some hf
      rw [hitP, Bool.and_eq_true, decide_eq_true_eq] at hh
      simp only
      refine ⟨by simp [h1], ?_, hh.1, hh.2⟩
      rw [goP_snoc, h2]
      show stepP g D k x = _
      rw [stepP, if_pos (inB_mk (by omega) (by omega)), Int.toNat_natCast, nbP, if_pos hh.1]
def planP (g : List Gauge) (D : List Ditch) (s t : List Int) : Option (List Int) :=
  match dOf (finP g D t false) s with
  | none => none
  | some d => some (planTo g D (dOf (finP g D t false)) s d d).1
theorem planP_go {g : List Gauge} {D : List Ditch} {s t p : List Int} (hF : isField g D = true) (hs : areLevels g s = true) (ht : areLevels g t = true) (h : planP g D s t = some p) :
    goP g D s p = some t ∧ dOf (finP g D t false) s = some p.length := by
  unfold planP at h
  cases hd : dOf (finP g D t false) s with
  | none => rw [hd] at h; cases h
  | some d =>
    rw [hd] at h
    simp only at h
    injection h with h
    obtain ⟨h1, h2, h3, h4⟩ := plan_inv hF hs ht hd d (Nat.le_refl _)
    rw [h] at h1 h2
    refine ⟨?_, by rw [h1]⟩
    rw [h2]
    have hFo := fin_found (g := g) (D := D) (s := t) (fwd := false)
    rw [Nat.sub_self] at h4
    rcases hFo.before _ (dOf_mem h4) with e | ⟨_, _, _, _, _, e⟩
    · injection e with e; rw [e]
    · simp only at e; omega
/-- Whoever comes there by a plan of his own has a shortest one that is no longer. -/
theorem planP_short {g : List Gauge} {D : List Ditch} {s t : List Int} (hF : isField g D = true) (hs : areLevels g s = true) (ht : areLevels g t = true) {n : Nat} (h : WayP g D true s t n) :
    ∃ p, planP g D s t = some p ∧ p.length ≤ n := by
  have hg := (isField_at hF).1.1
  have hb := way_back hF hs h
  rw [Bool.not_true] at hb
  cases hd : dOf (finP g D t false) s with
  | none => exact absurd hb ((fin_none hg ht).1 hd n)
  | some d =>
    have hl := ((fin_least hg ht).1 hd).2 n hb
    obtain ⟨p, hp⟩ : ∃ p, planP g D s t = some p := by unfold planP; rw [hd]; exact ⟨_, rfl⟩
    obtain ⟨_, h2⟩ := planP_go hF hs ht hp
    rw [hd] at h2
    injection h2 with h2
    exact ⟨p, hp, by omega⟩
/-! ### The order of lists of one length -/
def cmpAt (a b : List Int) (n : Nat) : Int := match firstTo (fun i => !(decide (a[i]! = b[i]!))) n with
  | none => 0
  | some i => if a[i]! < b[i]! then -1 else 1
theorem numN_append (a : List Int) : ∀ b : List Int, numN (a ++ b) = numN a * 7 ^ b.length + numN b :=
  snocCases _ (by simp [numN]) fun l x ih => by
    rw [← List.append_assoc, numN_snoc, ih, numN_snoc, List.length_append, List.length_singleton, Nat.pow_succ, Nat.mul_add, ← Nat.mul_assoc]
    have : 7 * numN a * 7 ^ l.length = numN a * (7 ^ l.length * 7) := by
      rw [Nat.mul_comm 7 (numN a), Nat.mul_assoc, Nat.mul_comm 7]
    omega
theorem numN_cut {a : List Int} (ha : SmallIn a) {i : Nat} (hi : i < a.length) : ∃ r, r < 7 ^ (a.length - i - 1) ∧ numN a = (7 * numN (a.take i) + a[i]!.toNat) * 7 ^ (a.length - i - 1) + r := by
  have e : a = (a.take i ++ [a[i]!]) ++ a.drop (i + 1) := by
    rw [List.append_assoc]
    conv => lhs; rw [← List.take_append_drop i a]
    rw [List.drop_eq_getElem_cons hi, getElem!_pos a i hi]; rfl
  have hs : SmallIn (a.drop (i + 1)) := fun j x hx => ha (i + 1 + j) x (by rwa [List.getElem?_drop] at hx)
  refine ⟨numN (a.drop (i + 1)), ?_, ?_⟩
  · have := numN_lt _ hs
    rw [List.length_drop] at this
    rwa [show a.length - i - 1 = a.length - (i + 1) by omega]
  · conv => lhs; rw [e]
    rw [numN_append, numN_snoc, List.length_drop, show a.length - i - 1 = a.length - (i + 1) by omega]
theorem cmpAt_num {a b : List Int} (ha : SmallIn a) (hb : SmallIn b) (hl : a.length = b.length) : cmpAt a b a.length < 0 ↔ numN a < numN b := by
  have small : ∀ {a : List Int}, SmallIn a → ∀ {i : Nat}, i < a.length → 0 ≤ a[i]! := fun {a} ha {i} hi => by
    rw [getElem!_pos a i hi]; exact (ha i _ (List.getElem?_eq_getElem hi)).1
  unfold cmpAt
  cases h : firstTo (fun i => !(decide (a[i]! = b[i]!))) a.length with
  | none =>
    have : a = b := ext! hl fun j hj => by simpa using firstTo_none h j hj
    subst this
    simp
  | some i =>
    obtain ⟨h1, h2, h3⟩ := firstTo_some h
    have htk : a.take i = b.take i := ext! (by simp [hl]) fun j hj => by
      have hj' : j < i := by simp at hj; omega
      rw [getElem!_pos (a.take i) j hj, getElem!_pos (b.take i) j (by simp; omega), List.getElem_take, List.getElem_take]
      have := h3 j hj'
      simp only [Bool.not_eq_false', decide_eq_true_eq] at this
      rwa [getElem!_pos a j (by omega), getElem!_pos b j (by omega)] at this
    have hne : a[i]! ≠ b[i]! := by simpa using h2
    obtain ⟨r, hr, e1⟩ := numN_cut ha h1
    obtain ⟨r', hr', e2⟩ := numN_cut hb (show i < b.length by omega)
    have a0 := small ha h1
    have b0 := small hb (show i < b.length by omega)
    rw [htk] at e1
    rw [← hl] at hr' e2
    simp only
    generalize numN (b.take i) = u at *
    generalize hp : 7 ^ (a.length - i - 1) = P at *
    obtain ⟨x, hx⟩ : ∃ x : Nat, a[i]! = x := ⟨a[i]!.toNat, by omega⟩
    obtain ⟨y, hy⟩ : ∃ y : Nat, b[i]! = y := ⟨b[i]!.toNat, by omega⟩
    rw [hx, hy] at hne ⊢
    rw [hx] at e1
    rw [hy] at e2
    rw [Int.toNat_natCast] at e1 e2
    rw [e1, e2]
    by_cases hlt : x < y
    · rw [if_pos (by omega)]
      have : (7 * u + x + 1) * P ≤ (7 * u + y) * P := Nat.mul_le_mul_right _ (by omega)
      rw [Nat.add_mul (7 * u + x), Nat.one_mul] at this
      omega
    · rw [if_neg (by omega)]
      have : (7 * u + y + 1) * P ≤ (7 * u + x) * P := Nat.mul_le_mul_right _ (by omega)
      rw [Nat.add_mul (7 * u + y), Nat.one_mul] at this
      omega
end Go.Proofs.Ytbedepmcecdhfaa
