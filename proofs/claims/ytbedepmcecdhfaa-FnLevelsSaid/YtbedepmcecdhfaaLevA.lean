/- Levels with a sum: the walks. -/
import Derived.Test.YtbedepmcecdhfaaLevM
import Derived.Test.YtbedepmcecdhfaaSet
import Derived.Test.YtbedepmcecdhfaaInts
import Derived.Laws.OwnMore
namespace Go.Proofs.Ytbedepmcecdhfaa
open Go.RowKit
set_option maxHeartbeats 1000000 in
theorem l16All_any (c : Nat) (w : World) (hc : c ≤ 5) :
    Calls Try.prog 85 #[.int .i64 c] w fun e w' => e = .returned (.int .i64 ((7 ^ c : Nat) : Int)) ∧ w = w' := by
  have hp : ∀ k, k ≤ 5 → 7 ^ k ≤ 16807 := fun k hk => Nat.pow_le_pow_right (n := 7) (by decide) hk
  have HPW := Lib.hid hp
  clear hp
  go_enter Try.func85, Try.ntmps85
  go_wp2
  go_loopw [3, 4] (fun u j wr => ∃ k : Nat, k ≤ c ∧ j = .int .i64 k ∧ u = .int .i64 ((7 ^ k : Nat) : Int) ∧ wr = w) (fun _ j _ => c - (intOf j).toNat)
  case atStart => exact ⟨0, Nat.zero_le _, rfl, rfl, rfl⟩
  case round =>
    obtain ⟨k, hk, rfl, rfl, rfl⟩ := hrel
    have hb := HPW.out k (by omega)
    have HS := Lib.hid (show 7 ^ (k + 1) = 7 * 7 ^ k by rw [Nat.pow_succ, Nat.mul_comm])
    by_cases hlt : k < c
    · have k1 : (k : Int) < c := by omega
      obtain ⟨X, hX⟩ : ∃ X, 7 ^ k = X := ⟨_, rfl⟩
      rw [hX] at hb ⊢
      have HX := Lib.hid hX
      clear hX
      have k2 : IntKind.i64.wrap (7 * (X : Int)) = 7 * (X : Int) := IntWalk.i64_in _ (by omega)
      go_wp2
      go_roundw
      case rel => exact ⟨k + 1, by omega, by go_num, by rw [HS.out, HX.out]; go_num, trivial⟩
      case measure => simp [intOf]; omega
    · go_wp2
      go_ret
      obtain rfl : k = c := by omega
      exact ⟨rfl, rfl⟩
def sumTo (l : List Int) (k : Nat) : Int := sumI (l.take k)
theorem sumI_app : ∀ (a b : List Int), sumI (a ++ b) = sumI a + sumI b
  | [], b => by simp [sumI]
  | x :: r, b => by
    show x + sumI (r ++ b) = x + sumI r + sumI b
    rw [sumI_app r b]; omega
theorem sumTo_succ {l : List Int} {k : Nat} {x : Int} (hx : l[k]? = some x) : sumTo l (k + 1) = sumTo l k + x := by
  unfold sumTo
  rw [List.take_add_one, hx, sumI_app]
  simp [sumI]
def SmallIn (l : List Int) : Prop := ∀ (i : Nat) (x : Int), l[i]? = some x → 0 ≤ x ∧ x ≤ 6
theorem sumTo_rng {l : List Int} (h : SmallIn l) : ∀ k, k ≤ l.length → 0 ≤ sumTo l k ∧ sumTo l k ≤ 6 * k
  | 0, _ => by simp [sumTo, sumI]
  | k + 1, hk => by
    have ih := sumTo_rng h k (by omega)
    have hx : l[k]? = some (l[k]'(by omega)) := List.getElem?_eq_getElem _
    have := h k _ hx
    rw [sumTo_succ hx]
    push_cast
    omega
set_option maxHeartbeats 2000000 in
theorem l16Sum_any (l : List Int) (n : Nat) (hn : l.length = n) (A : Option Addr) (cap : Nat) (w : World) (hl : n ≤ 5) (hs : SmallIn l) (hc : Sl encInt w w.heap.size A l) :
    Calls Try.prog 75 #[.slice A n cap] w fun e w' => e = .returned (.int .i64 (sumI l)) ∧ w = w' := by
  have HC := Lib.hid hc; clear hc
  have HN := Lib.hid hn; clear hn
  have HS := Lib.hid hs; clear hs
  go_enter Try.func75, Try.ntmps75
  go_wp2
  go_loopw [3, 4] (fun u j wr => ∃ k : Nat, k ≤ n ∧ j = .int .i64 k ∧ u = .int .i64 (sumTo l k) ∧ wr = w) (fun _ j _ => n - (intOf j).toNat)
  case atStart => exact ⟨0, Nat.zero_le _, rfl, rfl, rfl⟩
  case round =>
    obtain ⟨k, hk, rfl, rfl, rfl⟩ := hrel
    by_cases hlt : k < n
    · obtain ⟨b, off, rfl, hb, hcs⟩ := HC.out.int_ (by rw [HN.out]; omega)
      have hx : l[k]? = some (l[k]'(by rw [HN.out]; exact hlt)) := List.getElem?_eq_getElem _
      generalize l[k]'(by rw [HN.out]; exact hlt) = x at hx
      have c0 := hcs k x hx
      have hr := sumTo_rng HS.out k (by rw [HN.out]; exact hk)
      have hx6 := HS.out k x hx
      have HT := Lib.hid (sumTo_succ hx)
      clear hcs hx
      generalize sumTo l k = sm at *
      have k1 : (k : Int) < n := by omega
      have k2 : (0 : Int) ≤ k := by omega
      have k3 : IntKind.i64.wrap (sm + x) = sm + x := IntWalk.i64_in _ (by omega)
      go_wp2
      go_roundw
      case rel => exact ⟨k + 1, by omega, by go_num, by rw [HT.out], trivial⟩
      case measure => simp [intOf]; omega
    · go_wp2
      go_ret
      obtain rfl : k = n := by omega
      have : sumTo l k = sumI l := by unfold sumTo; rw [List.take_of_length_le (by rw [HN.out]; exact Nat.le_refl _)]
      rw [this]
      exact ⟨rfl, rfl⟩
theorem digs_small : ∀ c n, SmallIn (digs c n)
  | 0, _ => fun i x h => by simp [digs] at h
  | c + 1, n => fun i x h => by
    rw [digs] at h
    by_cases hi : i < c
    · rw [List.getElem?_append_left (by rw [digs_length]; exact hi)] at h
      exact digs_small c _ i x h
    · rw [List.getElem?_append_right (by rw [digs_length]; omega)] at h
      rcases (show i - (digs c (n / 7)).length = 0 ∨ 0 < i - (digs c (n / 7)).length by omega) with h0 | h0
      · rw [h0] at h
        simp at h
        omega
      · rw [List.getElem?_eq_none (by simp; omega)] at h
        cases h
theorem own_made {w : World} {base g n : Nat} {e : TypeId} (h : w.ownsRow base e 1 (.slice (some ⟨g, 0, none⟩) n n) n (madeCells (Value.int .i64 0).cells (n * 1)).toList) : Own encInt w base e (.slice (some ⟨g, 0, none⟩) n n) (List.replicate n 0) := by
  unfold Own
  have e1 : flat encInt (List.replicate n 0) = (madeCells (Value.int .i64 0).cells (n * 1)).toList := by
    rw [show (Value.int .i64 0).cells = #[.int .i64 0] from rfl, toList_madeCells_one]
    simp [flat, encInt, List.flatMap_replicate]
  rw [e1, List.length_replicate]
  exact h
theorem Own.setInt {w : World} {base n c g i : Nat} {e : TypeId} {l : List Int} (h : Own encInt w base e (.slice (some ⟨g, 0, none⟩) n c) l) (hi : i < n) (z : Int) :
    Own encInt (w.setCell ⟨g, i, none⟩ (.int .i64 z)) base e (.slice (some ⟨g, 0, none⟩) n c) (l.set i z) := by
  have hlen := h.len
  exact h.setField hi (x := l[i]'(by omega)) (j := 0) (y := z) (z := z) (List.getElem?_eq_getElem _) (by decide) rfl (by simp [encInt])
theorem Own.int {w : World} {base g n c i : Nat} {e : TypeId} {l : List Int} {x : Int} (h : Own encInt w base e (.slice (some ⟨g, 0, none⟩) n c) l) (hx : l[i]? = some x) :
    g < w.heap.size ∧ w.cell? ⟨g, i, none⟩ = some (.int .i64 x) := by
  obtain ⟨b, off, e', hb, hc⟩ := h.rd.int_ (by have := (List.getElem?_eq_some_iff.1 hx).1; omega)
  injection e' with e'
  injection e' with e1 e2
  subst e1 e2
  have := hc i x hx
  simp only [Nat.zero_add] at this
  exact ⟨hb, this⟩
set_option maxRecDepth 4000 in
set_option maxHeartbeats 4000000 in
theorem l16At_any (c n : Nat) (w : World) (hc : c ≤ 5) (hn : n ≤ 16807) :
    Calls Try.prog 86 #[.int .i64 c, .int .i64 n] w fun e w' => ∃ v, e = .returned v ∧ Own encInt w' w.heap.size 3 v (digs c n) ∧ Below w.heap.size w w' := by
  obtain ⟨i0, hinf, hz0, hz1, hz2⟩ := info_parts info_Int
  go_enter Try.func86, Try.ntmps86
  go_wp2_with (at_make; refine halt ?_)
  unfold Halt
  refine wpList_make_full _ rfl (.tmp 7) (.tmp 7) 26 rfl w.heap.size 3 i0 _ 1 Try.underlying26 hinf hz0 hz1 .i64 .i64 _ _ c rfl rfl rfl rfl (by rw [hz2]; omega) (by unfold maxLen; omega) (Nat.le_refl _) ?_
  intro w1 hown hg1
  have hb1 : Below w.heap.size w w1 := (Below.refl _ _).grown hg1 (Nat.le_refl _) (by intro k hk; cases hk)
  have O1 := Lib.hid (own_made hown)
  have B1 := Lib.hid hb1
  obtain ⟨g, hg⟩ : ∃ g, w.heap.size = g := ⟨_, rfl⟩
  have hgg : w.heap.size ≤ g := by omega
  have HG := Lib.hid hg
  rw [hg] at O1
  have k0 : IntKind.i64.wrap ((c : Int) - 1) = (c : Int) - 1 := IntWalk.i64_in _ (by omega)
  clear hown hg1 hb1
  rw [hg]
  clear hg
  go_wp2
  go_loopw [1, 6] (fun u j wr => ∃ (r m : Nat) (T : List Int), r ≤ c ∧ m ≤ 16807 ∧ j = .int .i64 ((r : Int) - 1) ∧ u = .int .i64 m ∧ digs c n = digs r m ++ T ∧ Own encInt wr g 3 (.slice (some ⟨g, 0, none⟩) c c) (List.replicate r 0 ++ T) ∧ Below w.heap.size w wr) (fun _ j _ => (intOf j + 1).toNat)
  case atStart => exact ⟨c, n, [], Nat.le_refl _, hn, rfl, rfl, by simp, by simpa using O1.out, B1.out⟩
  case round =>
    obtain ⟨r, m, T, hr, hm, rfl, rfl, hd, ho, hbel⟩ := hrel
    have HD := Lib.hid hd
    have HO := Lib.hid ho
    have HB := Lib.hid hbel
    clear hd
    by_cases hr0 : 0 < r
    · obtain ⟨q, rfl⟩ : ∃ q, r = q + 1 := ⟨r - 1, by omega⟩
      have hx : (List.replicate (q + 1) (0 : Int) ++ T)[q]? = some 0 := by
        rw [List.getElem?_append_left (by simp), List.getElem?_replicate, if_pos (by omega)]
      obtain ⟨hgw, c0⟩ := ho.int hx
      have f0 := ho.thaw q
      have HSet := Lib.hid (show (List.replicate (q + 1) (0 : Int) ++ T).set q ((m % 7 : Nat) : Int) = List.replicate q 0 ++ (((m % 7 : Nat) : Int) :: T) by
        rw [show List.replicate (q + 1) (0 : Int) = List.replicate q 0 ++ [0] from List.replicate_succ', List.append_assoc, List.set_append_right _ _ (by simp), List.length_replicate, Nat.sub_self]
        rfl)
      have HD2 := Lib.hid (show digs c n = digs q (m / 7) ++ (((m % 7 : Nat) : Int) :: T) by rw [HD.out, digs, List.append_assoc]; rfl)
      clear ho hx
      rw [show ((q + 1 : Nat) : Int) - 1 = q by omega]
      have k1 : (q : Int) < c := by omega
      have k2 : (0 : Int) ≤ q := by omega
      have d0 : (0 : Int) ≤ (m : Int) := by omega
      have d1 : (m : Int).tmod 7 = ((m % 7 : Nat) : Int) := by rw [Int.tmod_eq_emod_of_nonneg d0]; omega
      have d2 : (m : Int).tdiv 7 = ((m / 7 : Nat) : Int) := by rw [Int.tdiv_eq_ediv_of_nonneg d0]; omega
      have d3 : IntKind.i64.wrap ((m % 7 : Nat) : Int) = ((m % 7 : Nat) : Int) := IntWalk.i64_in _ (by omega)
      have d4 : IntKind.i64.wrap ((m / 7 : Nat) : Int) = ((m / 7 : Nat) : Int) := IntWalk.i64_in _ (by omega)
      have d5 : IntKind.i64.wrap ((q : Int) - 1) = (q : Int) - 1 := IntWalk.i64_in _ (by omega)
      have hm7 : m / 7 ≤ 16807 := by omega
      generalize m % 7 = mr at *
      generalize m / 7 = mq at *
      go_wp2
      go_roundw
      case rel => exact ⟨q, mq, (mr : Int) :: T, by omega, hm7, by go_num, rfl, HD2.out, by rw [← HSet.out]; exact HO.out.setInt (by omega) _, HB.out.setCell (p := ⟨g, q, none⟩) hgg _⟩
      case measure => simp [intOf]
    · obtain rfl : r = 0 := by omega
      have k9 : ¬ (0 : Int) ≤ ((0 : Nat) : Int) - 1 := by omega
      go_wp2
      go_ret
      rw [HD.out]
      exact ⟨_, rfl, by simpa [digs] using ho.lower hgg, hbel⟩
end Go.Proofs.Ytbedepmcecdhfaa
