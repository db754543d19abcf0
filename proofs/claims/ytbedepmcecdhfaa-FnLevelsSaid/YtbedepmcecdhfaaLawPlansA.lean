/- For the laws on plans: lists compared and summed; what the answers have to do with each other. -/
import Derived.Test.YtbedepmcecdhfaaDrawP
import Derived.Test.YtbedepmcecdhfaaWhyNo
import Derived.Test.YtbedepmcecdhfaaFarth
import Derived.Test.YtbedepmcecdhfaaLawKit
namespace Go.Proofs.Ytbedepmcecdhfaa
open Go.RowKit
set_option maxHeartbeats 400000 in
theorem vBig_any (A : Option Addr) (n c : Nat) (w : World) :
    Calls Try.prog 14 #[.slice A n c] w fun e w' => e = .returned (.bool (decide ((65536 : Int) < n))) ∧ w = w' := by
  go_enter Try.func14, Try.ntmps14
  go_wp2
  go_ret
  exact ⟨rfl, rfl⟩
set_option maxHeartbeats 2000000 in
theorem vInts_same (l : List Int) (n : Nat) (hn : l.length = n) (A A' : Option Addr) (c c' : Nat) (w : World) (hl : n ≤ 1073741824) (hc : Sl encInt w w.heap.size A l) (hc' : Sl encInt w w.heap.size A' l) :
    Calls Try.prog 18 #[.slice A n c, .slice A' n c'] w fun e w' => e = .returned (.bool true) ∧ Below w.heap.size w w' := by
  have HC := Lib.hid hc; clear hc
  have HD := Lib.hid hc'; clear hc'
  have HN := Lib.hid hn; clear hn
  go_enter Try.func18, Try.ntmps18
  go_wp2
  go_loopw [5] (fun i wr => ∃ k : Nat, k ≤ n ∧ i = .int .i64 k ∧ Below w.heap.size w wr) (fun i _ => n - (intOf i).toNat)
  case atStart => exact ⟨0, Nat.zero_le _, rfl, Below.refl _ _⟩
  case round =>
    obtain ⟨k, hk, rfl, hbel⟩ := hrel
    have hsz := hbel.size
    by_cases hlt : k < n
    · obtain ⟨b, off, rfl, hb, hcs⟩ := HC.out.int_ (by rw [HN.out]; omega)
      obtain ⟨b', off', rfl, hb', hcs'⟩ := HD.out.int_ (by rw [HN.out]; omega)
      have hx : l[k]? = some (l[k]'(by rw [HN.out]; exact hlt)) := List.getElem?_eq_getElem _
      generalize l[k]'(by rw [HN.out]; exact hlt) = x at hx
      have c0 := hcs k x hx
      have d0 := hcs' k x hx
      clear hcs hcs' hx
      rw [← hbel.cell hb] at c0
      rw [← hbel.cell hb'] at d0
      have hbw : b < wr.heap.size := by omega
      have hbw' : b' < wr.heap.size := by omega
      have k1 : (k : Int) < n := by omega
      have k2 : (0 : Int) ≤ k := by omega
      go_wp2
      refine wp_region_gw (by kernel_rfl) (by kernel_rfl) ?_
      repeat (first | go_big_quiet_step (fail) | quiet_step (fail))
      refine wpQuiet_nil ?_
      rintro _ ⟨pq, rfl⟩
      go_wp2
      go_roundw
      case rel => exact ⟨k + 1, by omega, by go_num, (by repeat (first | assumption | exact Below.refl _ _ | apply bl_gw | apply bl_alloc | apply bl_drewN | apply bl_drew))⟩
      case measure => simp [intOf]; omega
    · go_wp2
      go_ret
      exact ⟨rfl, hbel⟩
set_option maxHeartbeats 2000000 in
theorem vSum_any (l : List Int) (n : Nat) (hn : l.length = n) (A : Option Addr) (cap : Nat) (w : World) (hl : n ≤ 5) (hs : SmallIn l) (hc : Sl encInt w w.heap.size A l) :
    Calls Try.prog 27 #[.slice A n cap] w fun e w' => e = .returned (.int .i64 (sumI l)) ∧ w = w' := by
  have HC := Lib.hid hc; clear hc
  have HN := Lib.hid hn; clear hn
  have HS := Lib.hid hs; clear hs
  go_enter Try.func27, Try.ntmps27
  go_wp2
  go_loopw [3, 4] (fun u j wr => ∃ k : Nat, k ≤ n ∧ j = .int .i64 k ∧ u = .int .i64 (sumTo l k) ∧ wr = w) (fun _ j _ => n - (intOf j).toNat)
  case atStart => exact ⟨0, Nat.zero_le _, rfl, rfl, rfl⟩
  case round =>
    obtain ⟨k, hk, rfl, rfl, rfl⟩ := hrel
    by_cases hlt : k < n
    · obtain ⟨b, off, rfl, hb, hcs⟩ := HC.out.int_ (by rw [HN.out]; omega)
      have hx : l[k]? = some (l[k]'(by rw [HN.out]; exact hlt)) := List.getElem?_eq_getElem _
      generalize l[k]'(by rw [HN.out]; exact hlt) = x at hx
      have c0 := hcs k x hx
      have hr := sumTo_rng HS.out k (by rw [HN.out]; exact hk)
      have hx6 := HS.out k x hx
      have HT := Lib.hid (sumTo_succ hx)
      clear hcs hx
      generalize sumTo l k = sm at *
      have k1 : (k : Int) < n := by omega
      have k2 : (0 : Int) ≤ k := by omega
      have k3 : IntKind.i64.wrap (sm + x) = sm + x := IntWalk.i64_in _ (by omega)
      go_wp2
      go_roundw
      case rel => exact ⟨k + 1, by omega, by go_num, by rw [HT.out], trivial⟩
      case measure => simp [intOf]; omega
    · go_wp2
      go_ret
      obtain rfl : k = n := by omega
      have : sumTo l k = sumI l := by unfold sumTo; rw [List.take_of_length_le (by rw [HN.out]; exact Nat.le_refl _)]
      rw [this]
      exact ⟨rfl, rfl⟩
def Reason.isNone : Reason → Bool
  | .none => true
  | _ => false
theorem text_none (r : Reason) : (r.text.toList == [110, 111, 110, 101]) = r.isNone := by
  cases r <;> kernel_rfl
/-- A plan is told where the word is that there is one. -/
theorem short_why (g : List Gauge) (D : List Ditch) (s t : List Int) : (shortP g D s t).2 = (whyP g D s t).isNone := by
  cases h : asked g D s && areLevels g t with
  | false => rw [shortP_no h, whyP_bad h]; rfl
  | true =>
    rw [shortP_ok h, whyP_at h]
    cases (dOf (finP g D t false) s).isSome with
    | true => rfl
    | false =>
      rw [if_neg (by decide)]
      split
      · split <;> rfl
      · rfl
theorem short_at {g : List Gauge} {D : List Ditch} {s t : List Int} (h : (shortP g D s t).2 = true) : asked g D s = true ∧ areLevels g t = true ∧ planP g D s t = some (shortP g D s t).1 := by
  unfold shortP at h ⊢
  split at h
  · rename_i hq
    rw [Bool.and_eq_true] at hq
    rw [if_pos (by rw [Bool.and_eq_true]; exact hq)]
    cases hp : planP g D s t with
    | none => rw [hp] at h; cases h
    | some p => exact ⟨hq.1, hq.2, rfl⟩
  · cases h
/-- Behind a told plan the levels are the goal. -/
theorem short_after {g : List Gauge} {D : List Ditch} {s t : List Int} (h : (shortP g D s t).2 = true) : afterP g D s (shortP g D s t).1 = (t, true) := by
  obtain ⟨h1, h2, h3⟩ := short_at h
  obtain ⟨hF, _, hs⟩ := asked_at h1
  have := (planP_go hF hs h2 h3).1
  unfold afterP
  rw [if_pos h1, this]
theorem after_at {g : List Gauge} {D : List Ditch} {s p : List Int} (h : (afterP g D s p).2 = true) : asked g D s = true ∧ goP g D s p = some (afterP g D s p).1 := by
  unfold afterP at h ⊢
  split at h
  · rename_i hq
    rw [if_pos hq]
    cases hp : goP g D s p with
    | none => rw [hp] at h; cases h
    | some e => exact ⟨hq, rfl⟩
  · cases h
/-- Where a plan leads there are levels with the same sum, and the shortest plan is no longer. -/
theorem after_facts {g : List Gauge} {D : List Ditch} {s p : List Int} (h : (afterP g D s p).2 = true) :
    areLevels g (afterP g D s p).1 = true ∧ areGauges g = true ∧ areLevels g s = true ∧ sumI (afterP g D s p).1 = sumI s ∧
    (shortP g D s (afterP g D s p).1).2 = true ∧ (shortP g D s (afterP g D s p).1).1.length ≤ p.length := by
  obtain ⟨hq, hgo⟩ := after_at h
  obtain ⟨hF, hg, hs⟩ := asked_at hq
  have hw := goTo_way _ hgo
  have hl := way_ok hs hw
  obtain ⟨p', h1, h2⟩ := planP_short hF hs hl hw
  have e : shortP g D s (afterP g D s p).1 = (p', true) := by
    unfold shortP
    rw [if_pos (by rw [hq, hl]; rfl), h1]
  exact ⟨hl, hg, hs, way_sum hF hs hw, by rw [e], by rw [e]; exact h2⟩
end Go.Proofs.Ytbedepmcecdhfaa
