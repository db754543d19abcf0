/- For the law FnContracts: what the answers have to do with each other; lists compared and summed. -/
import Derived.Test.YtcljfdpjlkaagaaDrawS
import Derived.Test.YtcljfdpjlkaagaaBestS
namespace Go.Proofs.Ytcljfdpjlkaagaa
open Go.RowKit
def sumI : List Int → Int
  | [] => 0
  | x :: r => x + sumI r
theorem sumI_app : ∀ (a b : List Int), sumI (a ++ b) = sumI a + sumI b
  | [], b => by simp [sumI]
  | x :: r, b => by rw [List.cons_append, sumI, sumI, sumI_app r b]; omega
theorem sumI_set : ∀ {l : List Int} {i : Nat} {x : Int} (z : Int), l[i]? = some x → sumI (l.set i z) = sumI l - x + z
  | [], i, x, z, h => by simp at h
  | a :: r, 0, x, z, h => by simp at h; subst h; simp only [List.set_cons_zero, sumI]; omega
  | a :: r, i + 1, x, z, h => by
    simp only [List.getElem?_cons_succ] at h
    simp only [List.set_cons_succ, sumI]
    rw [sumI_set z h]; omega
theorem sumI_perm {a b : List Int} (h : a.Perm b) : sumI a = sumI b := by
  induction h with
  | nil => rfl
  | cons x _ ih => simp only [sumI, ih]
  | swap x y l => simp only [sumI]; omega
  | trans _ _ h1 h2 => rw [h1, h2]
theorem sumI_zero : ∀ n : Nat, sumI (List.replicate n 0) = 0
  | 0 => rfl
  | n + 1 => by rw [List.replicate_succ, sumI, sumI_zero n]; rfl
theorem sum_loop (f : Nat → Int) : ∀ n : Nat, loopTo (fun i t => t + f i) 0 n = sumI ((List.range n).map f)
  | 0 => rfl
  | n + 1 => by
    rw [List.range_succ, List.map_append, sumI_app]
    show loopTo (fun i t => t + f i) 0 n + f n = _
    rw [sum_loop f n]
    simp [sumI]
theorem sum_at (l : List Int) : sumI l = sumI ((List.range l.length).map fun i => l[i]!) := by
  congr 1
  refine List.ext_getElem (by simp) fun i h1 h2 => ?_
  rw [List.getElem_map, List.getElem_range, getElem!_pos l i h1]
/-! ### The order is a permutation -/
theorem insAt_perm {S : List Int} {p : Nat} {x : Int} : (insAt S p x).Perm (S ++ [x]) := by
  unfold insAt
  rw [List.append_assoc]
  refine ((List.perm_append_comm (l₁ := [x]) (l₂ := S.drop p)).append_left (S.take p)).trans ?_
  rw [← List.append_assoc, List.take_append_drop]
theorem ordTo_perm (l : List Contract) : ∀ k : Nat, (ordTo l k).Perm ((List.range k).map fun (i : Nat) => (i : Int))
  | 0 => by simp [ordTo]
  | k + 1 => by
    rw [ordTo, List.range_succ, List.map_append]
    exact insAt_perm.trans ((ordTo_perm l k).append_right _)
theorem ordTo_nodup (l : List Contract) (k : Nat) : (ordTo l k).Nodup := by
  refine ((ordTo_perm l k).nodup_iff).2 ?_
  unfold List.Nodup
  refine List.pairwise_map.2 (List.Pairwise.imp (fun h e => h (by omega)) List.nodup_range)
theorem ord_ne {l : List Contract} {n i j : Nat} {a b : Int} (hi : (ordTo l n)[i]? = some a) (hj : (ordTo l n)[j]? = some b) (h : i < j) : a ≠ b := by
  intro e
  subst e
  obtain ⟨h1, h2⟩ := List.getElem?_eq_some_iff.1 hi
  obtain ⟨h3, h4⟩ := List.getElem?_eq_some_iff.1 hj
  have := (List.pairwise_iff_getElem.1 (ordTo_nodup l n)) i j h1 h3 h
  exact this (by rw [h2, h4])
theorem ord_sum (l : List Contract) (n : Nat) (f : Nat → Int) : sumI ((ordTo l n).map fun q => f q.toNat) = sumI ((List.range n).map f) := by
  rw [sumI_perm ((ordTo_perm l n).map _), List.map_map]
  congr 1
/-! ### No ton is lost -/
theorem serveTo_sum {t : Int} {g : Nat} {s : List Int} (ht : 0 ≤ t) (hg : g ≤ 4) (hs : StockIn s) : ∀ j, j ≤ g → sumI (serveTo t g s j).1 + (serveTo t g s j).2 = sumI s
  | 0, _ => by simp [serveTo]
  | j + 1, hj => by
    have ih := serveTo_sum ht hg hs j (by omega)
    obtain ⟨h1, _, _⟩ := serveTo_in ht hg hs j (by omega)
    obtain ⟨h4, _, _⟩ := h1.at_ (i := g - 1 - j) (by omega)
    simp only [serveTo]
    rw [sumI_set _ h4]
    omega
theorem serveP_sum {s : List Int} {x : Contract} (hs : StockIn s) (hx : contractOK x = true) : sumI (serveP s x).1 + (serveP s x).2 = sumI s := by
  obtain ⟨_, g, t, _⟩ := contractOK_at hx
  exact serveTo_sum (t := x.tons) (g := x.grade.toNat) (by omega) (by omega) hs x.grade.toNat (Nat.le_refl _)
/-- What a row of servings is like: sums; what waits has nothing; what was served keeps its tons. -/
structure SrvAt (s : List Int) (l : List Contract) (k : Nat) : Prop where
  sum : sumI (srvTo s l k).1 + sumI (srvTo s l k).2 = sumI s
  zero : ∀ (j q : Nat), k ≤ j → (ordTo l l.length)[j]? = some (q : Int) → (srvTo s l k).2[q]? = some 0
  kept : ∀ (j q : Nat), j < k → (ordTo l l.length)[j]? = some (q : Int) → (srvTo s l k).2[q]? = some (serveP (srvTo s l j).1 l[q]!).2
theorem srvTo_at {s : List Int} {l : List Contract} (hs : StockIn s) (hok : ∀ (i : Nat) (x : Contract), l[i]? = some x → contractOK x = true) : ∀ k, k ≤ l.length → SrvAt s l k
  | 0, _ => by
    refine ⟨by simp [srvTo, sumI_zero], fun j q _ hq => ?_, fun j q h => by omega⟩
    have := ordTo_rng l l.length _ (List.mem_of_getElem? hq)
    simp only [srvTo]
    rw [List.getElem?_replicate, if_pos (by omega)]
  | k + 1, hk => by
    have ih := srvTo_at hs hok k (by omega)
    obtain ⟨q, hq, ho⟩ := ordTo_at (l := l) (k := l.length) (j := k) (by omega)
    have hx : l[q]? = some (l[q]'hq) := List.getElem?_eq_getElem _
    have hx! : l[q]! = l[q]'hq := List.getElem!_of_getElem? hx
    have hcx := hok q _ hx
    have hst := (srvTo_in hs hok k (by omega)).1
    have hlen := (srvTo_in hs hok k (by omega)).2.1
    have hz := ih.zero k q (Nat.le_refl _) ho
    have e := srvTo_succ (s := s) (n := l.length) rfl ho hx
    have hsm := serveP_sum hst hcx
    refine ⟨?_, fun j p hj hp => ?_, fun j p hj hp => ?_⟩
    · rw [e]
      simp only
      rw [sumI_set _ hz]
      have := ih.sum
      omega
    · rw [e]
      simp only
      have hne := ord_ne ho hp (by omega)
      rw [List.getElem?_set_ne (by omega)]
      exact ih.zero j p (by omega) hp
    · rw [e]
      simp only
      rcases Nat.lt_or_ge j k with h | h
      · have hne := ord_ne hp ho h
        rw [List.getElem?_set_ne (by omega)]
        exact ih.kept j p h hp
      · obtain rfl : j = k := by omega
        rw [ho] at hp
        injection hp with hp
        obtain rfl : q = p := by omega
        rw [List.getElem?_set_self (by rw [hlen]; exact hq), hx!]
/-! ### Where it is enough -/
theorem enough_at {s : List Int} {l : List Contract} (h : enoughP s l = true) : allOK s l = true ∧ ∀ i, i < l.length → (srvTo s l l.length).2[i]! = l[i]!.tons := by
  simp only [enoughP, Bool.and_eq_true, Option.isNone_iff_eq_none] at h
  refine ⟨h.1, fun i hi => ?_⟩
  have h1 := firstTo_none h.2 i hi
  obtain ⟨hlen, hall⟩ := allIn_of h.1
  have hx : l[i]? = some (l[i]'hi) := List.getElem?_eq_getElem _
  have hg : (srvTo s l l.length).2[i]? = some ((srvTo s l l.length).2[i]'(by rw [hlen]; exact hi)) := List.getElem?_eq_getElem _
  obtain ⟨_, _, h3⟩ := hall i _ _ hx hg
  rw [shortAt, decide_eq_false_iff_not, List.getElem!_of_getElem? hx, List.getElem!_of_getElem? hg] at h1
  rw [List.getElem!_of_getElem? hx, List.getElem!_of_getElem? hg]
  omega
theorem all_ok {s : List Int} {l : List Contract} (h : allOK s l = true) : StockIn s ∧ areContracts l = true ∧ ∀ (i : Nat) (x : Contract), l[i]? = some x → contractOK x = true := by
  simp only [allOK, Bool.and_eq_true] at h
  exact ⟨stockOK_in h.1, h.2, fun i x hx => areContracts_ok h.2 hx⟩
theorem given_sum {s : List Int} {l : List Contract} (h : enoughP s l = true) : sumI (srvTo s l l.length).2 = sumI ((List.range l.length).map fun i => l[i]!.tons) := by
  obtain ⟨h1, h2⟩ := enough_at h
  rw [sum_at, (allIn_of h1).1]
  congr 1
  refine List.map_congr_left fun i hi => h2 i (List.mem_range.1 hi)
theorem tot_sum {l : List Contract} (hok : ∀ (i : Nat) (x : Contract), l[i]? = some x → contractOK x = true) : ∀ k, k ≤ l.length →
    totG l 1 k + totG l 2 k + totG l 3 k + totG l 4 k = sumI ((List.range k).map fun i => l[i]!.tons)
  | 0, _ => rfl
  | k + 1, hk => by
    have ih := tot_sum hok k (by omega)
    have hx : l[k]? = some (l[k]'(by omega)) := List.getElem?_eq_getElem _
    obtain ⟨_, g, _⟩ := contractOK_at (hok k _ hx)
    rw [totG_step hx, totG_step hx, totG_step hx, totG_step hx, List.range_succ, List.map_append, sumI_app, ← ih]
    simp only [List.map_cons, List.map_nil, sumI, List.getElem!_of_getElem? hx]
    rcases (show (l[k]'(by omega)).grade = 1 ∨ (l[k]'(by omega)).grade = 2 ∨ (l[k]'(by omega)).grade = 3 ∨ (l[k]'(by omega)).grade = 4 by omega) with e | e | e | e <;>
      · rw [e]; simp; omega
theorem need_sum {l : List Contract} (h : areContracts l = true) : sumI (neededP l) = sumI ((List.range l.length).map fun i => l[i]!.tons) := by
  rw [← tot_sum (fun i x hx => areContracts_ok h hx) l.length (Nat.le_refl _), neededP, if_pos h]
  simp only [sumI]
  omega
theorem best_ge {s : List Int} {l : List Contract} (full : ∀ j q : Nat, j < l.length → (ordTo l l.length)[j]? = some (q : Int) → (serveP (srvTo s l j).1 l[q]!).2 = l[q]!.tons) : ∀ m k, k + m = l.length →
    sumI (((ordTo l l.length).drop k).map fun q => l[q.toNat]!.tons * l[q.toNat]!.price) ≤ bestP l ((ordTo l l.length).drop k) (srvTo s l k).1
  | 0, k, h => by
    rw [List.drop_of_length_le (by rw [ordTo_length]; omega)]
    exact Int.le_refl _
  | m + 1, k, h => by
    obtain ⟨q, hq, ho⟩ := ordTo_at (l := l) (k := l.length) (j := k) (by omega)
    have hx : l[q]? = some (l[q]'hq) := List.getElem?_eq_getElem _
    have ih := best_ge full m (k + 1) (by omega)
    have hd : (ordTo l l.length).drop k = (q : Int) :: (ordTo l l.length).drop (k + 1) := by
      rw [List.drop_eq_getElem_cons (by rw [ordTo_length]; omega)]
      congr 1
      exact (List.getElem?_eq_some_iff.1 ho).2
    have hf := full k q (by omega) ho
    have e := srvTo_succ (s := s) (n := l.length) rfl ho hx
    rw [List.getElem!_of_getElem? hx] at hf
    rw [e] at ih
    rw [hd, List.map_cons, sumI, bestP, Int.toNat_natCast, List.getElem!_of_getElem? hx, if_pos hf]
    simp only at ih
    omega
theorem earn_best {s : List Int} {l : List Contract} (h : enoughP s l = true) : earnP s l ≤ bestA s l := by
  obtain ⟨h1, h2⟩ := enough_at h
  obtain ⟨hs, _, hok⟩ := all_ok h1
  have hA := srvTo_at hs hok l.length (Nat.le_refl _)
  have hb := best_ge (s := s) (l := l) (fun j q hj hq => by
    have hk := hA.kept j q hj hq
    have hr := ordTo_rng l l.length _ (List.mem_of_getElem? hq)
    rw [← h2 q (by omega), List.getElem!_of_getElem? hk]) l.length 0 (by omega)
  rw [List.drop_zero, ord_sum l l.length (fun i => l[i]!.tons * l[i]!.price)] at hb
  have he : earnTo l (srvTo s l l.length).2 l.length = sumI ((List.range l.length).map fun i => l[i]!.tons * l[i]!.price) := by
    rw [← sum_loop]
    refine loopTo_congr fun i t hi => ?_
    rw [gainAt, h2 i hi, Int.sub_self, Int.zero_mul, Int.sub_zero]
  rw [earnP, bestA, if_pos h1, if_pos h1, he]
  exact hb
theorem all_sum {s : List Int} {l : List Contract} (h : allOK s l = true) : sumI (allS s l) + sumI (allG s l) = sumI s := by
  obtain ⟨hs, _, hok⟩ := all_ok h
  rw [allS, allG, if_pos h, if_pos h]
  exact (srvTo_at hs hok l.length (Nat.le_refl _)).sum
theorem need_given {s : List Int} {l : List Contract} (h : enoughP s l = true) : sumI (neededP l) = sumI (allG s l) := by
  have h1 := (enough_at h).1
  rw [need_sum (all_ok h1).2.1, allG, if_pos h1, given_sum h]
/-- Tons that a stock can hold. -/
def TonsIn (l : List Int) : Prop := ∀ (i : Nat) (x : Int), l[i]? = some x → 0 ≤ x ∧ x ≤ 50000
theorem all_tons {s : List Int} {l : List Contract} (h : allOK s l = true) : TonsIn s ∧ TonsIn (allS s l) ∧ TonsIn (allG s l) ∧ (allS s l).length = 4 ∧ s.length = 4 ∧ (allG s l).length = l.length := by
  obtain ⟨hs, _, hok⟩ := all_ok h
  obtain ⟨a1, a2, a3⟩ := srvTo_in hs hok l.length (Nat.le_refl _)
  rw [allS, allG, if_pos h, if_pos h]
  refine ⟨hs.2, a1.2, fun i g hg => ?_, a1.1, hs.1, a2⟩
  have hi : i < l.length := by have := (List.getElem?_eq_some_iff.1 hg).1; omega
  have hx : l[i]? = some (l[i]'hi) := List.getElem?_eq_getElem _
  have h3 := a3 i _ g hx hg
  obtain ⟨_, _, t, _⟩ := contractOK_at (hok i _ hx)
  omega
theorem need_tons {s : List Int} {l : List Contract} (h : allOK s l = true) : TonsIn (neededP l) ∧ (neededP l).length = 4 := by
  obtain ⟨hs, ha, hok⟩ := all_ok h
  have hl : l.length ≤ 10 := (allOK_len h).2
  have hT : ∀ k, k ≤ l.length → Tots l k (totG l 1 k) (totG l 2 k) (totG l 3 k) (totG l 4 k) := by
    intro k
    induction k with
    | zero => intro _; exact ⟨⟨rfl, rfl, rfl, rfl⟩, by simp [totG, loopTo], by simp [totG, loopTo], by simp [totG, loopTo], by simp [totG, loopTo]⟩
    | succ k ih =>
      intro hk
      have hx : l[k]? = some (l[k]'(by omega)) := List.getElem?_eq_getElem _
      obtain ⟨_, g, t, _⟩ := contractOK_at (hok k _ hx)
      obtain ⟨s1, s2, s3, s4⟩ := (ih (by omega)).step hx t.1 t.2
      rcases (show (l[k]'(by omega)).grade = 1 ∨ (l[k]'(by omega)).grade = 2 ∨ (l[k]'(by omega)).grade = 3 ∨ (l[k]'(by omega)).grade = 4 by omega) with e | e | e | e
      · have := s1 e; rw [totG_step hx, totG_step hx, totG_step hx, totG_step hx, e]; exact this
      · have := s2 e; rw [totG_step hx, totG_step hx, totG_step hx, totG_step hx, e]; exact this
      · have := s3 e; rw [totG_step hx, totG_step hx, totG_step hx, totG_step hx, e]; exact this
      · have := s4 e; rw [totG_step hx, totG_step hx, totG_step hx, totG_step hx, e]; exact this
  obtain ⟨_, b1, b2, b3, b4⟩ := hT l.length (Nat.le_refl _)
  rw [neededP, if_pos ha]
  refine ⟨fun i x hx => ?_, rfl⟩
  have hm := List.mem_of_getElem? hx
  simp only [List.mem_cons, List.not_mem_nil, or_false] at hm
  rcases hm with rfl | rfl | rfl | rfl <;> omega
end Go.Proofs.Ytcljfdpjlkaagaa
