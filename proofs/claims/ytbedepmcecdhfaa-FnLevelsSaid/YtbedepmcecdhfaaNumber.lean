/- The number of levels, and the list of distances by number, by the reference. -/
import Derived.Test.YtbedepmcecdhfaaRowsG
import Derived.Test.YtbedepmcecdhfaaPlanB
import Derived.Test.YtbedepmcecdhfaaSearch
namespace Go.Proofs.Ytbedepmcecdhfaa
open Go.RowKit
theorem numN_take {l : List Int} {k : Nat} {x : Int} (hx : l[k]? = some x) : numN (l.take (k + 1)) = 7 * numN (l.take k) + x.toNat := by
  rw [List.take_add_one, hx]; exact numN_snoc _ _
theorem numN_takeLt {l : List Int} (h : SmallIn l) (k : Nat) (hk : k ≤ 5) : numN (l.take k) < 16807 := by
  have h1 := numN_lt (l.take k) (fun i x hx => by
    rw [List.getElem?_take] at hx
    split at hx
    · exact h i x hx
    · cases hx)
  have h2 : 7 ^ (l.take k).length ≤ 7 ^ 5 := Nat.pow_le_pow_right (by decide) (by simp; omega)
  omega
set_option maxHeartbeats 2000000 in
theorem l16Number_any (l : List Int) (n : Nat) (hn : l.length = n) (A : Option Addr) (cap : Nat) (w : World) (h5 : n ≤ 5) (hs : SmallIn l) (hc : Sl encInt w w.heap.size A l) :
    Calls Try.prog 65 #[.slice A n cap] w fun e w' => e = .returned (.int .i64 (numN l)) ∧ w = w' := by
  have HC := Lib.hid hc; clear hc
  have HN := Lib.hid hn; clear hn
  have HS := Lib.hid hs; clear hs
  go_enter Try.func65, Try.ntmps65
  go_wp2
  go_loopw [3, 4] (fun u i wr => ∃ k : Nat, k ≤ n ∧ i = .int .i64 k ∧ u = .int .i64 (numN (l.take k)) ∧ wr = w) (fun _ i _ => n - (intOf i).toNat)
  case atStart => exact ⟨0, Nat.zero_le _, rfl, rfl, rfl⟩
  case round =>
    obtain ⟨k, hk, rfl, rfl, rfl⟩ := hrel
    by_cases hlt : k < n
    · obtain ⟨b, off, rfl, hb, hcs⟩ := HC.out.int_ (by rw [HN.out]; omega)
      have hx : l[k]? = some (l[k]'(by rw [HN.out]; exact hlt)) := List.getElem?_eq_getElem _
      generalize l[k]'(by rw [HN.out]; exact hlt) = x at hx
      have c0 := hcs k x hx
      have hx0 := HS.out k x hx
      have HT := Lib.hid (numN_take hx)
      have hlt2 := numN_takeLt HS.out k (by omega)
      obtain ⟨X, hX⟩ : ∃ X, numN (l.take k) = X := ⟨_, rfl⟩
      rw [hX] at hlt2 HT ⊢
      have k1 : (k : Int) < n := by omega
      have k2 : (0 : Int) ≤ k := by omega
      have k3 : IntKind.i64.wrap (7 * (X : Int)) = 7 * (X : Int) := IntWalk.i64_in _ (by omega)
      have k4 : IntKind.i64.wrap (7 * (X : Int) + x) = 7 * (X : Int) + x := IntWalk.i64_in _ (by omega)
      clear hcs hx hX
      go_wp2
      go_roundw
      case rel => exact ⟨k + 1, by omega, by go_num, by rw [HT.out]; congr 1; omega, trivial⟩
      case measure => simp [intOf]; omega
    · go_wp2
      go_ret
      obtain rfl : k = n := by omega
      exact ⟨ret_int (by rw [← HN.out, List.take_length]), rfl⟩
/-- The distances by number, as a list. -/
def farL (L : List (List Int × Nat)) (c : Nat) : List Int := (List.range (7 ^ c)).map (farI L c)
theorem farL_length (L : List (List Int × Nat)) (c : Nat) : (farL L c).length = 7 ^ c := by simp [farL]
theorem farL_get (L : List (List Int × Nat)) {c n : Nat} (hn : n < 7 ^ c) : (farL L c)[n]? = some (farI L c n) := by simp [farL, hn]
theorem farL_set {L : List (List Int × Nat)} {c : Nat} {y : List Int} {e : Nat} (hy : dOf L y = none) (hs : SmallIn y) (hl : y.length = c) : farL (L ++ [(y, e)]) c = (farL L c).set (numN y) e := by
  have hn : numN y < 7 ^ c := by rw [← hl]; exact numN_lt _ hs
  apply List.ext_getElem?
  intro i
  rw [List.getElem?_set]
  rcases Nat.lt_or_ge i (7 ^ c) with hi | hi
  · rw [farL_get _ hi]
    by_cases h : numN y = i
    · rw [if_pos h, farL_length, if_pos hn, ← h, ← hl, farI_num hs, dOf_append hy, if_pos rfl]
    · rw [if_neg h, farL_get _ hi]
      unfold farI
      rw [dOf_append hy, if_neg]
      intro h'
      exact h (by rw [← h', num_digs _ _ hi])
  · rw [List.getElem?_eq_none (by rw [farL_length]; exact hi)]
    by_cases h : numN y = i
    · omega
    · rw [if_neg h, List.getElem?_eq_none (by rw [farL_length]; exact hi)]
theorem farL_nil (c : Nat) : farL [] c = List.replicate (7 ^ c) (-1) := by
  refine List.eq_replicate_iff.2 ⟨farL_length _ _, fun x hx => ?_⟩
  unfold farL at hx
  obtain ⟨n, _, h⟩ := List.mem_map.1 hx
  rw [← h]; rfl
theorem farL_at {L : List (List Int × Nat)} {c : Nat} {y : List Int} (hs : SmallIn y) (hl : y.length = c) : (farL L c)[numN y]? = some (match dOf L y with | some d => (d : Int) | none => -1) := by
  have hn : numN y < 7 ^ c := by rw [← hl]; exact numN_lt _ hs
  rw [farL_get _ hn, ← hl, farI_num hs]
  cases dOf L y <;> rfl
theorem numN_lt' {y : List Int} {c : Nat} (hs : SmallIn y) (hl : y.length = c) : numN y < 7 ^ c := by rw [← hl]; exact numN_lt _ hs
end Go.Proofs.Ytbedepmcecdhfaa
