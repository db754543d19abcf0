/- Walks of fields: whether lists are gauges and ditches. -/
import Derived.Test.YtbedepmcecdhfaaGaugeB
import Derived.Test.YtbedepmcecdhfaaMoveB
namespace Go.Proofs.Ytbedepmcecdhfaa
open Go.RowKit
set_option maxHeartbeats 400000 in
theorem szDitchS_fit (n : Nat) (A : Option Addr) (c : Nat) (z : Int) (w : World) (hn : (n : Int) ≤ z) (hz : z ≤ 1048576) :
    Calls Try.prog 37 #[.slice A n c, .int .i64 z] w fun e w' => e = .returned (.int .i64 (z - n)) ∧ w = w' := by
  have k1 : IntKind.i64.wrap (z - n) = z - n := IntWalk.i64_in _ (by omega)
  have k2 : ¬ z - (n : Int) < 0 := by omega
  go_enter Try.func37, Try.ntmps37
  go_wp2
  go_ret
  exact ⟨rfl, rfl⟩
set_option maxHeartbeats 400000 in
theorem szDitchS_over (n : Nat) (A : Option Addr) (c : Nat) (z : Int) (w : World) (hn : z < n) (hz : 0 ≤ z ∧ z ≤ 1048576) (hm : n ≤ 9223372036854775807) :
    Calls Try.prog 37 #[.slice A n c, .int .i64 z] w fun e w' => e = .returned (.int .i64 (-1)) ∧ w = w' := by
  have k1 : IntKind.i64.wrap (z - n) = z - n := IntWalk.i64_in _ (by omega)
  have k2 : z - (n : Int) < 0 := by omega
  go_enter Try.func37, Try.ntmps37
  go_wp2
  go_ret
  exact ⟨rfl, rfl⟩
def cmpI (a b : Int) : Int := if a < b then -1 else if b < a then 1 else 0
set_option maxHeartbeats 1000000 in
theorem cmpInt_any (a b : Int) (w : World) :
    Calls Try.prog 98 #[.int .i64 a, .int .i64 b] w fun e w' => e = .returned (.int .i64 (cmpI a b)) ∧ w = w' := by
  rcases Int.lt_trichotomy a b with h | h | h
  · have e : cmpI a b = -1 := by simp [cmpI, h]
    rw [e]
    go_enter Try.func98, Try.ntmps98
    go_wp2
    go_ret
    exact ⟨rfl, rfl⟩
  · have e : cmpI a b = 0 := by simp [cmpI, h]
    rw [e]
    subst h
    have h1 : ¬ a < a := by omega
    go_enter Try.func98, Try.ntmps98
    go_wp2
    go_ret
    exact ⟨rfl, rfl⟩
  · have h1 : ¬ a < b := by omega
    have e : cmpI a b = 1 := by simp [cmpI, h, h1]
    rw [e]
    go_enter Try.func98, Try.ntmps98
    go_wp2
    go_ret
    exact ⟨rfl, rfl⟩
theorem cmpI_eq {a b : Int} (h : a = b) : cmpI a b = 0 := by simp [cmpI, h]
theorem cmpI_ne {a b : Int} (h : a ≠ b) : cmpI a b = (if a < b then -1 else 1) := by
  unfold cmpI
  split
  · rfl
  · rw [if_pos (by omega)]
def differ (a b : List Int) (i : Nat) : Bool := !(decide (a[i]! = b[i]!))
set_option maxRecDepth 4000 in
set_option maxHeartbeats 2000000 in
/-- slices.Compare of two lists of one length. -/
theorem compare_any (a b : List Int) (n : Nat) (ha : a.length = n) (hb : b.length = n) (A B : Option Addr) (ca cb : Nat) (w : World) (hn : n ≤ 1048576) (hc : Sl encInt w w.heap.size A a) (hd : Sl encInt w w.heap.size B b) :
    Calls Try.prog 69 #[.slice A n ca, .slice B n cb] w fun e w' => e = .returned (.int .i64 (cmpAt a b n)) ∧ Below w.heap.size w w' := by
  have HC := Lib.hid hc; clear hc
  have HD := Lib.hid hd; clear hd
  have HA := Lib.hid ha; clear ha
  have HB := Lib.hid hb; clear hb
  go_enter Try.func69, Try.ntmps69
  go_wp2
  go_loopw [11] (fun i wr => ∃ k : Nat, k ≤ n ∧ i = .int .i64 k ∧ firstTo (differ a b) k = none ∧ wr = w) (fun i _ => n - (intOf i).toNat)
  case atStart => exact ⟨0, Nat.zero_le _, rfl, rfl, rfl⟩
  case round =>
    obtain ⟨k, hk, rfl, hf, rfl⟩ := hrel
    have HF := Lib.hid hf
    clear hf
    by_cases hlt : k < n
    · obtain ⟨b1, o1, rfl, hb1, hs1⟩ := HC.out.int_ (by rw [HA.out]; omega)
      obtain ⟨b2, o2, rfl, hb2, hs2⟩ := HD.out.int_ (by rw [HB.out]; omega)
      have hx : a[k]? = some (a[k]'(by rw [HA.out]; exact hlt)) := List.getElem?_eq_getElem _
      have hy : b[k]? = some (b[k]'(by rw [HB.out]; exact hlt)) := List.getElem?_eq_getElem _
      have hdf : differ a b k = !(decide (a[k]'(by rw [HA.out]; exact hlt) = b[k]'(by rw [HB.out]; exact hlt))) := by rw [differ, List.getElem!_of_getElem? hx, List.getElem!_of_getElem? hy]
      have hgx := List.getElem!_of_getElem? hx
      have hgy := List.getElem!_of_getElem? hy
      generalize a[k]'(by rw [HA.out]; exact hlt) = x at hx hdf hgx
      generalize b[k]'(by rw [HB.out]; exact hlt) = y at hy hdf hgy
      have c0 := hs1 k x hx
      have d0 := hs2 k y hy
      have k1 : (k : Int) < n := by omega
      have k2 : (0 : Int) ≤ k := by omega
      have k3 : ¬ (n : Int) ≤ k := by omega
      by_cases hxy : x = y
      · subst hxy
        have HN := Lib.hid (firstTo_miss HF.out (show differ a b k = false by rw [hdf]; simp))
        clear hs1 hs2 hx hy hdf hgx hgy
        go_wp2_with (go_at_call 98; refine (cmpInt_any _ _ _).mono ?_; rintro e w1 ⟨rfl, rfl⟩; rw [cmpI_eq rfl])
        go_roundw
        case rel => exact ⟨k + 1, by omega, by go_num, HN.out, by trivial⟩
        case measure => simp [intOf]; omega
      · have hh := firstTo_hit HF.out (show differ a b k = true by rw [hdf]; simp [hxy]) n hlt
        have HV := Lib.hid (show cmpAt a b n = (if x < y then -1 else 1) by
          unfold cmpAt
          rw [show (fun i => !(decide (a[i]! = b[i]!))) = differ a b from rfl, hh]
          simp only [hgx, hgy])
        clear hs1 hs2 hx hy hdf hgx hgy hh
        have HXY := Lib.hid hxy
        rcases (show x < y ∨ ¬ x < y by omega) with hl | hl
        · have e : cmpI x y = -1 := by rw [cmpI_ne HXY.out, if_pos hl]
          have HE := Lib.hid e
          have HV2 := Lib.hid (show cmpAt a b n = -1 by rw [HV.out, if_pos hl])
          clear e hl hxy
          go_wp2_with (go_at_call 98; refine (cmpInt_any _ _ _).mono ?_; rintro e w1 ⟨rfl, rfl⟩; rw [HE.out])
          go_ret
          rw [HV2.out]
          exact ⟨rfl, Below.refl _ _⟩
        · have e : cmpI x y = 1 := by rw [cmpI_ne HXY.out, if_neg hl]
          have HE := Lib.hid e
          have HV2 := Lib.hid (show cmpAt a b n = 1 by rw [HV.out, if_neg hl])
          clear e hl hxy
          go_wp2_with (go_at_call 98; refine (cmpInt_any _ _ _).mono ?_; rintro e w1 ⟨rfl, rfl⟩; rw [HE.out])
          go_ret
          rw [HV2.out]
          exact ⟨rfl, Below.refl _ _⟩
    · obtain rfl : k = n := by omega
      have HV2 := Lib.hid (show cmpAt a b k = 0 by
        unfold cmpAt
        rw [show (fun i => !(decide (a[i]! = b[i]!))) = differ a b from rfl, HF.out])
      have k1 : ¬ (k : Int) < k := by omega
      go_wp2
      go_ret
      rw [HV2.out]
      exact ⟨rfl, Below.refl _ _⟩
theorem cmpAt_ditch (c d : Ditch) : decide (0 ≤ cmpAt [c.src, c.dst] [d.src, d.dst] 2) = lexGE c d := by
  obtain ⟨a, b⟩ := c
  obtain ⟨x, y⟩ := d
  unfold cmpAt lexGE
  by_cases h1 : a = x
  · subst h1
    by_cases h2 : b = y
    · subst h2
      simp [firstTo]
    · simp [firstTo, h2]
      split <;> omega
  · simp [firstTo, h1]
    split <;> omega
end Go.Proofs.Ytbedepmcecdhfaa
