/- Levels with a sum: how many, by the program and by the reference. -/
import Derived.Test.YtbedepmcecdhfaaLevA
namespace Go.Proofs.Ytbedepmcecdhfaa
open Go.RowKit
def countOK (g : List Gauge) (s : Int) : Bool := areGauges g && decide (0 ≤ s)
def countP (g : List Gauge) (s : Int) : Int := if countOK g s then (implC g s : Nat) else 0
theorem areGauges_ok {l : List Gauge} (h : areGauges l = true) {i : Nat} {x : Gauge} (hx : l[i]? = some x) : gaugeOK x = true := by
  simp only [areGauges, Bool.and_eq_true, Option.isNone_iff_eq_none] at h
  have := firstTo_none h.2 i (List.getElem?_eq_some_iff.1 hx).1
  simpa [badGauge, List.getElem!_of_getElem? hx] using this
theorem areGauges_len {l : List Gauge} (h : areGauges l = true) : 1 ≤ l.length ∧ l.length ≤ 5 := by
  simp only [areGauges, Bool.and_eq_true] at h
  have := inB_true h.1
  omega
theorem gaugeOK_at {x : Gauge} (h : gaugeOK x = true) : 0 ≤ x.least ∧ x.least ≤ x.most ∧ x.most ≤ 6 := by
  simp only [gaugeOK, Bool.and_eq_true, decide_eq_true_eq] at h
  have := inB_true h.1
  omega
theorem pow7 {k : Nat} (hk : k ≤ 5) : 7 ^ k ≤ 16807 := Nat.pow_le_pow_right (n := 7) (by decide) hk
theorem sl_tail2 {w w' : World} {B b off : Nat} {a : Gauge} {r : List Gauge} (h : Sl encGauge w B (some ⟨b, off, none⟩) (a :: r)) (hb : Below B w w') {B' : Nat} (hB : B ≤ B') : Sl encGauge w' B' (some ⟨b, off + 2, none⟩) r := by
  have := ((h.drop_ 1).below hb).more hB
  simpa [encGauge] using this
def rowC (a : Gauge) (r : List Gauge) (s : Int) (v : Nat) : Nat := if inB v a.least a.most then implC r (s - v) else 0
theorem implC_cons (a : Gauge) (r : List Gauge) (s : Int) : implC (a :: r) s = sumN (rowC a r s) 7 := rfl
theorem rowC_le (a : Gauge) (r : List Gauge) (s : Int) (v : Nat) : rowC a r s v ≤ 7 ^ r.length := by
  unfold rowC
  split
  · exact implC_le r _
  · exact Nat.zero_le _
set_option maxRecDepth 4000 in
set_option maxHeartbeats 8000000 in
theorem levelsCount_any : ∀ (g : List Gauge) (n : Nat) (_ : g.length = n) (A : Option Addr) (cap : Nat) (s : Int) (w : World) (_ : n ≤ cap) (_ : n ≤ 5) (_ : ∀ (i : Nat) (x : Gauge), g[i]? = some x → gaugeOK x = true) (_ : 6 * (n : Int) - 1000 ≤ s) (_ : s ≤ 9223372036854775807) (_ : Sl encGauge w w.heap.size A g),
    Calls Try.prog 87 #[.slice A n cap, .int .i64 s] w fun e w' => e = .returned (.int .i64 ((implC g s : Nat) : Int)) ∧ Below w.heap.size w w'
  | [], n, hn, A, cap, s, w, hcap, hn5, hok, hs0, hs1, hc => by
    subst hn
    by_cases hs : s = 0
    · have e : implC [] s = 1 := by simp [implC, hs]
      rw [e]
      have h1 : (s == 0) = true := by simp [hs]
      clear hc hok
      go_enter Try.func87, Try.ntmps87
      go_wp2
      go_ret
      exact ⟨rfl, Below.refl _ _⟩
    · have e : implC [] s = 0 := by simp [implC, hs]
      rw [e]
      have h1 : (s == 0) = false := by simp [hs]
      clear hc hok
      go_enter Try.func87, Try.ntmps87
      go_wp2
      go_ret
      exact ⟨rfl, Below.refl _ _⟩
  | [a], n, hn, A, cap, s, w, hcap, hn5, hok, hs0, hs1, hc => by
    have ih := levelsCount_any []
    obtain rfl : n = 1 := by rw [← hn]; rfl
    clear hn
    have HM := Lib.hid (show ([] : List Gauge).length = 0 from rfl)
    have HC := Lib.hid hc
    have HOK := Lib.hid (show ∀ (i : Nat) (x : Gauge), ([] : List Gauge)[i]? = some x → gaugeOK x = true from fun i x hx => hok (i + 1) x (by first | (simp at hx; done) | (simpa using hx)))
    obtain ⟨a0, a1, a2⟩ := gaugeOK_at (hok 0 a (by simp))
    have HIH := Lib.hid ih
    clear hok ih
    obtain ⟨b, off, rfl, hb, hcs⟩ := hc.gauge (by simp)
    obtain ⟨c0, c1⟩ := hcs 0 a (by simp)
    simp only [Nat.zero_mul, Nat.add_zero] at c0 c1
    have E0 := Lib.hid c0; have E1 := Lib.hid c1
    have HR := Lib.hid (implC_cons a [] s)
    have HLe := Lib.hid (rowC_le a [] s)
    have hp7 := pow7 (k := 0) (by omega)
    have hp7' : 7 * 7 ^ 0 ≤ 16807 := by have := pow7 (k := 0 + 1) (by omega); rw [Nat.pow_succ] at this; omega
    clear hc hcs
    obtain ⟨al, am⟩ := a
    dsimp only at a0 a1 a2 c0 c1 E0 E1
    obtain ⟨lo, rfl⟩ : ∃ lo : Nat, al = lo := ⟨al.toNat, by omega⟩
    obtain ⟨mo, rfl⟩ : ∃ mo : Nat, am = mo := ⟨am.toNat, by omega⟩
    have k1 : (0 : Int) < ((0 : Nat) : Int) + 1 := by omega
    have k2 : (((0 : Nat) : Int) + 1 == 0) = false := beq_eq_false_iff_ne.2 (by omega)
    have k3 : (1 : Int) ≤ ((0 : Nat) : Int) + 1 := by omega
    have k4 : (((0 : Nat) : Int) + 1) ≤ cap := by omega
    have k5 : (1 : Int) ≤ cap := by omega
    have hlt1 : 0 < 0 + 1 := by omega
    rcases (show cap = 1 ∨ ¬ cap = 1 by omega) with rfl | hc1
    · go_enter Try.func87, Try.ntmps87
      go_wp2
      clear c0 c1
      go_loopw [5, 6] (fun u j wr => ∃ v : Nat, lo ≤ v ∧ v ≤ mo + 1 ∧ j = .int .i64 v ∧ u = .int .i64 ((sumN (rowC ⟨lo, mo⟩ [] s) v : Nat) : Int) ∧ Below w.heap.size w wr) (fun _ j _ => mo + 1 - (intOf j).toNat)
      case atStart =>
        have e : sumN (rowC ⟨lo, mo⟩ [] s) lo = 0 := by
          have := sumN_flat (h := rowC ⟨lo, mo⟩ [] s) (a := 0) lo (fun j _ hj => by unfold rowC; rw [inB_no (by left; show (j : Int) < (lo : Int); omega)]; rfl)
          rw [Nat.zero_add] at this
          rw [this]; rfl
        exact ⟨lo, Nat.le_refl _, by omega, rfl, by rw [e]; rfl, Below.refl _ _⟩
      case round =>
        obtain ⟨v, hv0, hv1, rfl, rfl, hbel⟩ := hrel
        have HB := Lib.hid hbel
        have hz := hbel.size
        have c0 := E0.out; have c1 := E1.out
        rw [← hbel.cell hb] at c0 c1
        have hbw : b < wr.heap.size := by omega
        have hsum := sumN_le (h := rowC ⟨lo, mo⟩ [] s) (X := 7 ^ ([] : List Gauge).length) v (fun i _ => HLe.out i)
        rw [HM.out] at hsum
        have hsum7 : sumN (rowC ⟨lo, mo⟩ [] s) v ≤ 16807 := by
          have : v * 7 ^ 0 ≤ 7 * 7 ^ 0 := Nat.mul_le_mul_right _ (by omega)
          omega
        clear hsum hbel
        by_cases hlt : v ≤ mo
        · have HST := Lib.hid (show sumN (rowC ⟨lo, mo⟩ [] s) (v + 1) = sumN (rowC ⟨lo, mo⟩ [] s) v + implC [] (s - v) by
            show _ + rowC ⟨lo, mo⟩ [] s v = _
            unfold rowC
            rw [if_pos (inB_mk (show (lo : Int) ≤ v by omega) (show (v : Int) ≤ mo by omega))])
          have hle := implC_le [] (s - v)
          rw [HM.out] at hle
          generalize sumN (rowC ⟨lo, mo⟩ [] s) v = sv at *
          have k6 : (v : Int) ≤ mo := by omega
          have k7 : IntKind.i64.wrap (s - v) = s - v := IntWalk.i64_in _ (by omega)
          have k8 : IntKind.i64.wrap ((sv : Int) + ((implC [] (s - v) : Nat) : Int)) = (sv : Int) + ((implC [] (s - v) : Nat) : Int) := IntWalk.i64_in _ (by omega)
          have k9 : IntKind.i64.wrap ((v : Int) + 1) = (v : Int) + 1 := IntWalk.i64_in _ (by omega)
          go_wp2_with fail
          all_goals
            refine (HIH.out 0 HM.out _ _ (s - v) _ (by omega) (by omega) HOK.out (by omega) (by omega) (by first | exact Sl.nil_' rfl | exact sl_tail2 HC.out HB.out hz)).mono ?_
            rintro e w2 ⟨rfl, b2⟩
            have B2 := Lib.hid (below_step HB.out b2)
            clear b2
            generalize implC [] (s - v) = ic at *
            go_wp2
            go_roundw
            case rel => exact ⟨v + 1, by omega, by omega, by go_num, by rw [HST.out]; go_num, B2.out⟩
            case measure => simp [intOf]; omega
        · have k6 : ¬ (v : Int) ≤ mo := by omega
          go_wp2
          go_ret
          obtain rfl : v = mo + 1 := by omega
          have e : implC (⟨lo, mo⟩ :: []) s = sumN (rowC ⟨lo, mo⟩ [] s) (mo + 1) := by
            rw [HR.out, show (7 : Nat) = (mo + 1) + (6 - mo) by omega]
            exact sumN_flat _ (fun j h1 _ => by unfold rowC; rw [inB_no (by right; show (mo : Int) < (j : Int); omega)]; rfl)
          rw [e]
          exact ⟨rfl, HB.out⟩
    · go_enter Try.func87, Try.ntmps87
      go_wp2
      clear c0 c1
      go_loopw [5, 6] (fun u j wr => ∃ v : Nat, lo ≤ v ∧ v ≤ mo + 1 ∧ j = .int .i64 v ∧ u = .int .i64 ((sumN (rowC ⟨lo, mo⟩ [] s) v : Nat) : Int) ∧ Below w.heap.size w wr) (fun _ j _ => mo + 1 - (intOf j).toNat)
      case atStart =>
        have e : sumN (rowC ⟨lo, mo⟩ [] s) lo = 0 := by
          have := sumN_flat (h := rowC ⟨lo, mo⟩ [] s) (a := 0) lo (fun j _ hj => by unfold rowC; rw [inB_no (by left; show (j : Int) < (lo : Int); omega)]; rfl)
          rw [Nat.zero_add] at this
          rw [this]; rfl
        exact ⟨lo, Nat.le_refl _, by omega, rfl, by rw [e]; rfl, Below.refl _ _⟩
      case round =>
        obtain ⟨v, hv0, hv1, rfl, rfl, hbel⟩ := hrel
        have HB := Lib.hid hbel
        have hz := hbel.size
        have c0 := E0.out; have c1 := E1.out
        rw [← hbel.cell hb] at c0 c1
        have hbw : b < wr.heap.size := by omega
        have hsum := sumN_le (h := rowC ⟨lo, mo⟩ [] s) (X := 7 ^ ([] : List Gauge).length) v (fun i _ => HLe.out i)
        rw [HM.out] at hsum
        have hsum7 : sumN (rowC ⟨lo, mo⟩ [] s) v ≤ 16807 := by
          have : v * 7 ^ 0 ≤ 7 * 7 ^ 0 := Nat.mul_le_mul_right _ (by omega)
          omega
        clear hsum hbel
        by_cases hlt : v ≤ mo
        · have HST := Lib.hid (show sumN (rowC ⟨lo, mo⟩ [] s) (v + 1) = sumN (rowC ⟨lo, mo⟩ [] s) v + implC [] (s - v) by
            show _ + rowC ⟨lo, mo⟩ [] s v = _
            unfold rowC
            rw [if_pos (inB_mk (show (lo : Int) ≤ v by omega) (show (v : Int) ≤ mo by omega))])
          have hle := implC_le [] (s - v)
          rw [HM.out] at hle
          generalize sumN (rowC ⟨lo, mo⟩ [] s) v = sv at *
          have k6 : (v : Int) ≤ mo := by omega
          have k7 : IntKind.i64.wrap (s - v) = s - v := IntWalk.i64_in _ (by omega)
          have k8 : IntKind.i64.wrap ((sv : Int) + ((implC [] (s - v) : Nat) : Int)) = (sv : Int) + ((implC [] (s - v) : Nat) : Int) := IntWalk.i64_in _ (by omega)
          have k9 : IntKind.i64.wrap ((v : Int) + 1) = (v : Int) + 1 := IntWalk.i64_in _ (by omega)
          go_wp2_with fail
          all_goals
            refine (HIH.out 0 HM.out _ _ (s - v) _ (by omega) (by omega) HOK.out (by omega) (by omega) (by first | exact Sl.nil_' rfl | exact sl_tail2 HC.out HB.out hz)).mono ?_
            rintro e w2 ⟨rfl, b2⟩
            have B2 := Lib.hid (below_step HB.out b2)
            clear b2
            generalize implC [] (s - v) = ic at *
            go_wp2
            go_roundw
            case rel => exact ⟨v + 1, by omega, by omega, by go_num, by rw [HST.out]; go_num, B2.out⟩
            case measure => simp [intOf]; omega
        · have k6 : ¬ (v : Int) ≤ mo := by omega
          go_wp2
          go_ret
          obtain rfl : v = mo + 1 := by omega
          have e : implC (⟨lo, mo⟩ :: []) s = sumN (rowC ⟨lo, mo⟩ [] s) (mo + 1) := by
            rw [HR.out, show (7 : Nat) = (mo + 1) + (6 - mo) by omega]
            exact sumN_flat _ (fun j h1 _ => by unfold rowC; rw [inB_no (by right; show (mo : Int) < (j : Int); omega)]; rfl)
          rw [e]
          exact ⟨rfl, HB.out⟩
  | a :: b' :: r', n, hn, A, cap, s, w, hcap, hn5, hok, hs0, hs1, hc => by
    have ih := levelsCount_any (b' :: r')
    obtain ⟨r, hr⟩ : ∃ r, b' :: r' = r := ⟨_, rfl⟩
    have hr1 : 1 ≤ r.length := by rw [← hr]; simp
    rw [hr] at hok hc hn ih ⊢
    clear hr
    obtain ⟨m, hm⟩ : ∃ m, r.length = m := ⟨_, rfl⟩
    obtain rfl : n = m + 1 := by rw [← hn, ← hm]; rfl
    have HM := Lib.hid hm
    have hm1 : 1 ≤ m := by omega
    clear hr1 hm hn
    have hc1 : ¬ cap = 1 := by omega
    have HC := Lib.hid hc
    have HOK := Lib.hid (show ∀ (i : Nat) (x : Gauge), (r : List Gauge)[i]? = some x → gaugeOK x = true from fun i x hx => hok (i + 1) x (by first | (simp at hx; done) | (simpa using hx)))
    obtain ⟨a0, a1, a2⟩ := gaugeOK_at (hok 0 a (by simp))
    have HIH := Lib.hid ih
    clear hok ih
    obtain ⟨b, off, rfl, hb, hcs⟩ := hc.gauge (by simp)
    obtain ⟨c0, c1⟩ := hcs 0 a (by simp)
    simp only [Nat.zero_mul, Nat.add_zero] at c0 c1
    have E0 := Lib.hid c0; have E1 := Lib.hid c1
    have HR := Lib.hid (implC_cons a r s)
    have HLe := Lib.hid (rowC_le a r s)
    have hp7 := pow7 (k := m) (by omega)
    have hp7' : 7 * 7 ^ m ≤ 16807 := by have := pow7 (k := m + 1) (by omega); rw [Nat.pow_succ] at this; omega
    clear hc hcs
    obtain ⟨al, am⟩ := a
    dsimp only at a0 a1 a2 c0 c1 E0 E1
    obtain ⟨lo, rfl⟩ : ∃ lo : Nat, al = lo := ⟨al.toNat, by omega⟩
    obtain ⟨mo, rfl⟩ : ∃ mo : Nat, am = mo := ⟨am.toNat, by omega⟩
    have k1 : (0 : Int) < ((m : Nat) : Int) + 1 := by omega
    have k2 : (((m : Nat) : Int) + 1 == 0) = false := beq_eq_false_iff_ne.2 (by omega)
    have k3 : (1 : Int) ≤ ((m : Nat) : Int) + 1 := by omega
    have k4 : (((m : Nat) : Int) + 1) ≤ cap := by omega
    have k5 : (1 : Int) ≤ cap := by omega
    have hlt1 : 0 < m + 1 := by omega
    go_enter Try.func87, Try.ntmps87
    go_wp2
    clear c0 c1
    go_loopw [5, 6] (fun u j wr => ∃ v : Nat, lo ≤ v ∧ v ≤ mo + 1 ∧ j = .int .i64 v ∧ u = .int .i64 ((sumN (rowC ⟨lo, mo⟩ r s) v : Nat) : Int) ∧ Below w.heap.size w wr) (fun _ j _ => mo + 1 - (intOf j).toNat)
    case atStart =>
      have e : sumN (rowC ⟨lo, mo⟩ r s) lo = 0 := by
        have := sumN_flat (h := rowC ⟨lo, mo⟩ r s) (a := 0) lo (fun j _ hj => by unfold rowC; rw [inB_no (by left; show (j : Int) < (lo : Int); omega)]; rfl)
        rw [Nat.zero_add] at this
        rw [this]; rfl
      exact ⟨lo, Nat.le_refl _, by omega, rfl, by rw [e]; rfl, Below.refl _ _⟩
    case round =>
      obtain ⟨v, hv0, hv1, rfl, rfl, hbel⟩ := hrel
      have HB := Lib.hid hbel
      have hz := hbel.size
      have c0 := E0.out; have c1 := E1.out
      rw [← hbel.cell hb] at c0 c1
      have hbw : b < wr.heap.size := by omega
      have hsum := sumN_le (h := rowC ⟨lo, mo⟩ r s) (X := 7 ^ (r : List Gauge).length) v (fun i _ => HLe.out i)
      rw [HM.out] at hsum
      have hsum7 : sumN (rowC ⟨lo, mo⟩ r s) v ≤ 16807 := by
        have : v * 7 ^ m ≤ 7 * 7 ^ m := Nat.mul_le_mul_right _ (by omega)
        omega
      clear hsum hbel
      by_cases hlt : v ≤ mo
      · have HST := Lib.hid (show sumN (rowC ⟨lo, mo⟩ r s) (v + 1) = sumN (rowC ⟨lo, mo⟩ r s) v + implC r (s - v) by
          show _ + rowC ⟨lo, mo⟩ r s v = _
          unfold rowC
          rw [if_pos (inB_mk (show (lo : Int) ≤ v by omega) (show (v : Int) ≤ mo by omega))])
        have hle := implC_le r (s - v)
        rw [HM.out] at hle
        generalize sumN (rowC ⟨lo, mo⟩ r s) v = sv at *
        have k6 : (v : Int) ≤ mo := by omega
        have k7 : IntKind.i64.wrap (s - v) = s - v := IntWalk.i64_in _ (by omega)
        have k8 : IntKind.i64.wrap ((sv : Int) + ((implC r (s - v) : Nat) : Int)) = (sv : Int) + ((implC r (s - v) : Nat) : Int) := IntWalk.i64_in _ (by omega)
        have k9 : IntKind.i64.wrap ((v : Int) + 1) = (v : Int) + 1 := IntWalk.i64_in _ (by omega)
        go_wp2_with fail
        all_goals
          refine (HIH.out m HM.out _ _ (s - v) _ (by omega) (by omega) HOK.out (by omega) (by omega) (by first | exact Sl.nil_' rfl | exact sl_tail2 HC.out HB.out hz)).mono ?_
          rintro e w2 ⟨rfl, b2⟩
          have B2 := Lib.hid (below_step HB.out b2)
          clear b2
          generalize implC r (s - v) = ic at *
          go_wp2
          go_roundw
          case rel => exact ⟨v + 1, by omega, by omega, by go_num, by rw [HST.out]; go_num, B2.out⟩
          case measure => simp [intOf]; omega
      · have k6 : ¬ (v : Int) ≤ mo := by omega
        go_wp2
        go_ret
        obtain rfl : v = mo + 1 := by omega
        have e : implC (⟨lo, mo⟩ :: r) s = sumN (rowC ⟨lo, mo⟩ r s) (mo + 1) := by
          rw [HR.out, show (7 : Nat) = (mo + 1) + (6 - mo) by omega]
          exact sumN_flat _ (fun j h1 _ => by unfold rowC; rw [inB_no (by right; show (mo : Int) < (j : Int); omega)]; rfl)
        rw [e]
        exact ⟨rfl, HB.out⟩
set_option maxRecDepth 4000 in
set_option maxHeartbeats 4000000 in
theorem impl_LevelsCount_any (g : List Gauge) (n : Nat) (hn : g.length = n) (A : Option Addr) (cap : Nat) (s : Int) (w : World) (hcap : n ≤ cap) (hl : n ≤ 1048576) (hs : s ≤ 9223372036854775807) (hc : Sl encGauge w w.heap.size A g) :
    Calls Try.prog 36 #[.slice A n cap, .int .i64 s] w fun e w' => e = .returned (.tuple #[.int .i64 (countP g s), .bool (countOK g s)]) ∧ Below w.heap.size w w' := by
  have HC := Lib.hid hc; clear hc
  have HN := Lib.hid hn; clear hn
  rcases sp2 (areGauges g) (decide (0 ≤ s)) with t1 | ⟨t1, t2⟩ | ⟨t1, t2⟩
  · have hq : countOK g s = false := by simp [countOK, t1]
    have hp : countP g s = 0 := by simp [countP, hq]
    rw [hq, hp]
    clear hq hp
    go_enter Try.func36, Try.ntmps36
    go_wp2_with fail
    refine (impl_areGauges_any g n HN.out _ _ _ hl HC.out).mono ?_
    rintro e w1 ⟨rfl, b1⟩
    rw [t1]
    have B1 := Lib.hid b1
    clear b1
    go_wp2
    go_ret2
    exact ⟨rfl, B1.out⟩
  · have t3 : ¬ 0 ≤ s := by simpa using t2
    have t4 : s < 0 := by omega
    have hq : countOK g s = false := by simp [countOK, t3]
    have hp : countP g s = 0 := by simp [countP, hq]
    rw [hq, hp]
    clear hq hp t2 t3
    go_enter Try.func36, Try.ntmps36
    go_wp2_with fail
    refine (impl_areGauges_any g n HN.out _ _ _ hl HC.out).mono ?_
    rintro e w1 ⟨rfl, b1⟩
    rw [t1]
    have B1 := Lib.hid b1
    clear b1
    go_wp2
    go_ret2
    exact ⟨rfl, B1.out⟩
  · have t3 : 0 ≤ s := by simpa using t2
    have t4 : ¬ s < 0 := by omega
    have hq : countOK g s = true := by simp [countOK, t1, t3]
    have hp : countP g s = ((implC g s : Nat) : Int) := by simp [countP, hq]
    have HT := Lib.hid t1
    have hn5 : n ≤ 5 := by have := areGauges_len t1; rw [HN.out] at this; omega
    rw [hq, hp]
    clear hq hp t2
    go_enter Try.func36, Try.ntmps36
    go_wp2_with fail
    refine (impl_areGauges_any g n HN.out _ _ _ hl HC.out).mono ?_
    rintro e w1 ⟨rfl, b1⟩
    rw [t1]
    have B1 := Lib.hid b1
    clear b1
    go_wp2_with fail
    refine (levelsCount_any g n HN.out _ _ s _ hcap hn5 (fun i x hx => areGauges_ok HT.out hx) (by omega) hs (HC.out.past B1.out)).mono ?_
    rintro e w2 ⟨rfl, b2⟩
    have B2 := Lib.hid (below_step B1.out b2)
    clear b2
    go_wp2
    go_ret2
    exact ⟨rfl, B2.out⟩
set_option maxRecDepth 4000 in
set_option maxHeartbeats 8000000 in
theorem spec_LevelsCount_any (g : List Gauge) (n : Nat) (hn : g.length = n) (A : Option Addr) (cap : Nat) (s : Int) (w : World) (_hcap : n ≤ cap) (hl : n ≤ 1048576) (hs : s ≤ 9223372036854775807) (hc : Sl encGauge w w.heap.size A g) :
    Calls Try.prog 35 #[.slice A n cap, .int .i64 s] w fun e w' => e = .returned (.tuple #[.int .i64 (countP g s), .bool (countOK g s)]) ∧ Below w.heap.size w w' := by
  have HC := Lib.hid hc; clear hc
  have HN := Lib.hid hn; clear hn
  rcases sp2 (areGauges g) (decide (0 ≤ s)) with t1 | ⟨t1, t2⟩ | ⟨t1, t2⟩
  · have hq : countOK g s = false := by simp [countOK, t1]
    have hp : countP g s = 0 := by simp [countP, hq]
    rw [hq, hp]
    clear hq hp
    go_enter Try.func35, Try.ntmps35
    go_wp2_with fail
    refine (l16Gauges_any g n HN.out _ _ _ hl HC.out).mono ?_
    rintro e w1 ⟨rfl, b1⟩
    rw [t1]
    have B1 := Lib.hid b1
    clear b1
    go_wp2
    go_ret2
    exact ⟨rfl, B1.out⟩
  · have t3 : ¬ 0 ≤ s := by simpa using t2
    have t4 : s < 0 := by omega
    have hq : countOK g s = false := by simp [countOK, t3]
    have hp : countP g s = 0 := by simp [countP, hq]
    rw [hq, hp]
    clear hq hp t2 t3
    go_enter Try.func35, Try.ntmps35
    go_wp2_with fail
    refine (l16Gauges_any g n HN.out _ _ _ hl HC.out).mono ?_
    rintro e w1 ⟨rfl, b1⟩
    rw [t1]
    have B1 := Lib.hid b1
    clear b1
    go_wp2
    go_ret2
    exact ⟨rfl, B1.out⟩
  · have t3 : 0 ≤ s := by simpa using t2
    have t4 : ¬ s < 0 := by omega
    have hq : countOK g s = true := by simp [countOK, t1, t3]
    have HP := Lib.hid (show countP g s = ((cntTo (goodN g s) (7 ^ n) : Nat) : Int) by rw [countP, if_pos hq, ← count_eq, HN.out])
    have HQ := Lib.hid hq
    have hn5 : n ≤ 5 := by have := areGauges_len t1; rw [HN.out] at this; omega
    have hp7 := pow7 hn5
    clear hq t2
    go_enter Try.func35, Try.ntmps35
    go_wp2_with fail
    refine (l16Gauges_any g n HN.out _ _ _ hl HC.out).mono ?_
    rintro e w1 ⟨rfl, b1⟩
    rw [t1]
    have B1 := Lib.hid b1
    clear b1
    clear t1
    go_wp2
    go_loopw [6, 7] (fun u j wr => ∃ k : Nat, k ≤ 7 ^ n ∧ j = .int .i64 k ∧ u = .int .i64 ((cntTo (goodN g s) k : Nat) : Int) ∧ Below w.heap.size w wr) (fun _ j _ => 7 ^ n - (intOf j).toNat)
    case atStart => exact ⟨0, Nat.zero_le _, rfl, rfl, B1.out⟩
    case round =>
      obtain ⟨k, hk, rfl, rfl, hbel⟩ := hrel
      have HB := Lib.hid hbel
      have hle := cntTo_le (goodN g s) k
      have HST := Lib.hid (show cntTo (goodN g s) (k + 1) = cntTo (goodN g s) k + (if goodN g s k then 1 else 0) from rfl)
      have HGd := Lib.hid (show goodN g s k = (areLevels g (digs n k) && decide (sumI (digs n k) = s)) by rw [goodN, HN.out, areLevels_eq])
      have HDl := Lib.hid (digs_length n k)
      have HDs := Lib.hid (digs_small n k)
      clear hbel
      obtain ⟨N, hN⟩ : ∃ N, 7 ^ n = N := ⟨_, rfl⟩
      have HNN := Lib.hid hN
      rw [hN] at hk hp7
      clear hN
      by_cases hlt : k < N
      · have k1 : (k : Int) < N := by omega
        generalize cntTo (goodN g s) k = ct at *
        go_wp2_with fail
        refine (l16All_any n _ hn5).mono ?_
        rintro e w2 ⟨rfl, rfl⟩
        rw [HNN.out]
        go_wp2_with fail
        refine (l16At_any n k _ hn5 (by omega)).mono ?_
        rintro e w3 ⟨v3, rfl, o3, b3⟩
        obtain ⟨A3, c3, rfl, _, _, _⟩ := o3.slice
        rw [HDl.out] at o3 ⊢
        have O3 := Lib.hid o3
        have B3 := Lib.hid (below_step HB.out b3)
        clear o3 b3
        go_wp2_with fail
        refine (l16Levels_any g (digs n k) n n HN.out HDl.out _ _ _ _ _ hl hl (HC.out.past B3.out) O3.out.rd).mono ?_
        rintro e w4 ⟨rfl, b4⟩
        have O4 := Lib.hid (O3.out.past b4 (Nat.le_refl _))
        have B4 := Lib.hid (below_step B3.out b4)
        clear b4
        rcases sp2 (areLevels g (digs n k)) (decide (sumI (digs n k) = s)) with q1 | ⟨q1, q2⟩ | ⟨q1, q2⟩
        · have HF := Lib.hid (show goodN g s k = false by rw [HGd.out, q1]; rfl)
          rw [q1]
          clear q1
          go_wp2
          go_roundw
          case rel => exact ⟨k + 1, by rw [HNN.out]; omega, by go_num, by rw [HST.out, HF.out]; rfl, B4.out⟩
          case measure => have := HNN.out; simp [intOf]; omega
        · have HF := Lib.hid (show goodN g s k = false by rw [HGd.out, q1, q2]; rfl)
          have q3 : (sumI (digs n k) == s) = false := by simpa using q2
          rw [q1]
          clear q1
          go_wp2_with fail
          refine (l16Sum_any (digs n k) n HDl.out _ _ _ hn5 HDs.out O4.out.rd).mono ?_
          rintro e w5 ⟨rfl, rfl⟩
          go_wp2
          go_roundw
          case rel => exact ⟨k + 1, by rw [HNN.out]; omega, by go_num, by rw [HST.out, HF.out]; rfl, B4.out⟩
          case measure => have := HNN.out; simp [intOf]; omega
        · have HF := Lib.hid (show goodN g s k = true by rw [HGd.out, q1, q2]; rfl)
          have q3 : (sumI (digs n k) == s) = true := by simpa using q2
          have k5 : IntKind.i64.wrap ((ct : Int) + 1) = (ct : Int) + 1 := IntWalk.i64_in _ (by omega)
          rw [q1]
          clear q1
          go_wp2_with fail
          refine (l16Sum_any (digs n k) n HDl.out _ _ _ hn5 HDs.out O4.out.rd).mono ?_
          rintro e w5 ⟨rfl, rfl⟩
          go_wp2
          go_roundw
          case rel => exact ⟨k + 1, by rw [HNN.out]; omega, by go_num, by rw [HST.out, HF.out]; go_num, B4.out⟩
          case measure => have := HNN.out; simp [intOf]; omega
      · obtain rfl : k = N := by omega
        go_wp2_with fail
        refine (l16All_any n _ hn5).mono ?_
        rintro e w2 ⟨rfl, rfl⟩
        rw [HNN.out]
        have HP2 := Lib.hid (HNN.out ▸ HP.out)
        go_wp2
        go_ret2
        rw [HQ.out, HP2.out]
        exact ⟨rfl, HB.out⟩
end Go.Proofs.Ytbedepmcecdhfaa
