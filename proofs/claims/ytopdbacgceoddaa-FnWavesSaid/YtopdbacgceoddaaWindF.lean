/- Walks of blows over a lake: the loops with two results or an early end. -/
import Derived.Test.YtopdbacgceoddaaWindE
namespace Go.Proofs.Ytopdbacgceoddaa
open Go.RowKit
set_option maxHeartbeats 4000000 in
theorem impl_WorstHour_any (l : List Blow) (m : Nat) (hn : l.length = m) (A : Option Addr) (cap : Nat) (x n b : Int) (w : World) (hl : m ≤ 1048576) (hc : Sl encBlow w w.heap.size A l) :
    Calls Try.prog 39 #[.slice A m cap, .agg #[.int .i64 x, .int .i64 n, .int .i64 b]] w fun e w' => e = .returned (.tuple #[.int .i64 (worstP l x n b).1, .int .i64 (worstP l x n b).2.1, .bool (worstP l x n b).2.2]) ∧ Below w.heap.size w w' := by
  have HC := Lib.hid (show Sl encBlow (w.alloc (.cells #[.int .i64 x, .int .i64 n, .int .i64 b] 24)) (w.alloc (.cells #[.int .i64 x, .int .i64 n, .int .i64 b] 24)).heap.size A l from hc.past (bl_alloc (Below.refl _ _) _)); clear hc
  have HN := Lib.hid hn; clear hn
  rcases sp2 (areBlows l) (lakeOK x n b) with t1 | ⟨t1, t2⟩ | ⟨t1, t2⟩
  case' inl => have hd : worstP l x n b = (0, 0, false) := by simp [worstP, t1]
  case' inr.inl => have hd : worstP l x n b = (0, 0, false) := by simp [worstP, t1, t2]
  case' inr.inr => have hd : worstP l x n b = ((worstTo l x n b l.length).1, (worstTo l x n b l.length).2, decide (0 < (worstTo l x n b l.length).2)) := by simp [worstP, t1, t2]
  all_goals
    rw [hd]
    clear hd
  case inr.inr =>
    have hk := lakeOK_in t2
    have HT1 := Lib.hid t1
    rw [HN.out]
    go_enter Try.func39, Try.ntmps39
    go_wp2_with (first | (go_at_call 24; refine (impl_AreBlows_any l m HN.out _ _ _ hl HC.out).mono ?_; rintro e w1 ⟨rfl, hb⟩; obtain ⟨p, rfl⟩ := below_gw hb; clear hb) | (go_at_call 50; refine (isLake_any _ _ _ _).mono ?_; rintro e w1 ⟨rfl, hb⟩; obtain ⟨p, rfl⟩ := below_gw hb; clear hb) | (go_at_call 58; refine (isHour_any _ _).mono ?_; rintro e w1 ⟨rfl, rfl⟩))
    refine wp_name (fun W0 hW0 => ?_)
    have hB0 : Below w.heap.size w W0 := by rw [hW0]; exact (by repeat (first | assumption | exact Below.refl _ _ | apply bl_gw | apply bl_alloc | apply bl_drewN | apply bl_drew))
    have HD := Lib.hid (show Sl encBlow W0 W0.heap.size A l by rw [hW0]; exact HC.out.past (by repeat (first | assumption | exact Below.refl _ _ | apply bl_gw | apply bl_alloc | apply bl_drewN | apply bl_drew)))
    have hz : w.heap.size < W0.heap.size := by rw [hW0]; simp; omega
    have L0 : W0.cell? ⟨w.heap.size, 0, none⟩ = some (.int .i64 x) := by rw [hW0]; simp [go_sem]
    have L1 : W0.cell? ⟨w.heap.size, 1, none⟩ = some (.int .i64 n) := by rw [hW0]; simp [go_sem]
    have L2 : W0.cell? ⟨w.heap.size, 2, none⟩ = some (.int .i64 b) := by rw [hW0]; simp [go_sem]
    clear hW0
    clear t1 t2
    go_loopw [7, 8, 22] (fun h q i wr => ∃ (k : Nat) (th tq : Int), k ≤ m ∧ i = .int .i64 k ∧ h = .int .i64 th ∧ q = .int .i64 tq ∧ (th, tq) = worstTo l x n b k ∧ Below W0.heap.size W0 wr) (fun _ _ i _ => m - (intOf i).toNat)
    case atStart => exact ⟨0, 0, 0, Nat.zero_le _, rfl, rfl, rfl, rfl, Below.refl _ _⟩
    case round =>
      obtain ⟨k, th, tq, hkm, rfl, rfl, rfl, ht, hbel⟩ := hrel
      have HT := Lib.hid ht; clear ht
      by_cases hlt : k < m
      · have hsz := hbel.size
        obtain ⟨bk, off, rfl, hb, hcs⟩ := HD.out.blow (by rw [HN.out]; omega)
        have hx : l[k]? = some (l[k]'(by rw [HN.out]; exact hlt)) := List.getElem?_eq_getElem _
        generalize l[k]'(by rw [HN.out]; exact hlt) = y at hx
        obtain ⟨c0, c1, c2⟩ := hcs k y hx
        clear hcs
        have HX := Lib.hid hx
        clear hx
        rw [← hbel.cell hb] at c0 c1 c2
        rw [← hbel.cell (p := ⟨w.heap.size, 0, none⟩) hz] at L0
        rw [← hbel.cell (p := ⟨w.heap.size, 1, none⟩) hz] at L1
        rw [← hbel.cell (p := ⟨w.heap.size, 2, none⟩) hz] at L2
        have hzr : w.heap.size < wr.heap.size := by omega
        have hbw : bk < wr.heap.size := by omega
        have k1 : (k : Int) < m := by omega
        obtain ⟨⟨y1, y2⟩, ⟨y3, y4⟩, ⟨y5, y6⟩⟩ := areBlows_at HT1.out HX.out
        have Y1 := Lib.hid y1; have Y2 := Lib.hid y2; have Y3 := Lib.hid y3; have Y4 := Lib.hid y4; have Y5 := Lib.hid y5; have Y6 := Lib.hid y6
        clear y1 y2 y3 y4 y5 y6
        obtain ⟨v, ev⟩ : ∃ v, spillP x n b y.speed y.frm = v := ⟨_, rfl⟩
        have hstep : worstTo l x n b (k + 1) = if tq < v then (y.hour, v) else (th, tq) := by
          have : worstTo l x n b (k + 1) = if (worstTo l x n b k).2 < spillP x n b y.speed y.frm then (y.hour, spillP x n b y.speed y.frm) else worstTo l x n b k := by simp [worstTo, loopTo, List.getElem!_of_getElem? HX.out]
          rw [this, ← HT.out, ev]
        have HV := Lib.hid ev
        have HS := Lib.hid hstep; clear hstep ev
        by_cases hcmp : tq < v
        · go_wp2_with (go_at_call 66; refine (spills_any _ _ _ _ _ _ _ hk Y3.out Y4.out Y5.out).mono ?_; rintro e w1 ⟨rfl, hb⟩; obtain ⟨p, rfl⟩ := below_gw hb; clear hb; rw [HV.out])
          go_roundw
          case rel => exact ⟨k + 1, _, _, by omega, by go_num, rfl, rfl, by rw [HS.out, if_pos hcmp], (by repeat (first | assumption | exact Below.refl _ _ | apply bl_gw | apply bl_alloc | apply bl_drewN | apply bl_drew))⟩
          case measure => simp [intOf]; omega
        · go_wp2_with (go_at_call 66; refine (spills_any _ _ _ _ _ _ _ hk Y3.out Y4.out Y5.out).mono ?_; rintro e w1 ⟨rfl, hb⟩; obtain ⟨p, rfl⟩ := below_gw hb; clear hb; rw [HV.out])
          go_roundw
          case rel => exact ⟨k + 1, _, _, by omega, by go_num, rfl, rfl, by rw [HS.out, if_neg (by omega)], (by repeat (first | assumption | exact Below.refl _ _ | apply bl_gw | apply bl_alloc | apply bl_drewN | apply bl_drew))⟩
          case measure => simp [intOf]; omega
      · go_wp2
        go_ret3
        obtain rfl : k = m := by omega
        exact ⟨by rw [← HT.out]; rfl, hB0.trans (hbel.mono (by omega))⟩
  all_goals
    go_enter Try.func39, Try.ntmps39
    go_wp2_with (first | (go_at_call 24; refine (impl_AreBlows_any l m HN.out _ _ _ hl HC.out).mono ?_; rintro e w1 ⟨rfl, hb⟩; obtain ⟨p, rfl⟩ := below_gw hb; clear hb) | (go_at_call 50; refine (isLake_any _ _ _ _).mono ?_; rintro e w1 ⟨rfl, hb⟩; obtain ⟨p, rfl⟩ := below_gw hb; clear hb) | (go_at_call 58; refine (isHour_any _ _).mono ?_; rintro e w1 ⟨rfl, rfl⟩))
    go_ret3
    exact ⟨rfl, (by repeat (first | assumption | exact Below.refl _ _ | apply bl_gw | apply bl_alloc | apply bl_drewN | apply bl_drew))⟩
set_option maxHeartbeats 4000000 in
theorem spec_WorstHour_any (l : List Blow) (m : Nat) (hn : l.length = m) (A : Option Addr) (cap : Nat) (x n b : Int) (w : World) (hl : m ≤ 1048576) (hc : Sl encBlow w w.heap.size A l) :
    Calls Try.prog 38 #[.slice A m cap, .agg #[.int .i64 x, .int .i64 n, .int .i64 b]] w fun e w' => e = .returned (.tuple #[.int .i64 (worstP l x n b).1, .int .i64 (worstP l x n b).2.1, .bool (worstP l x n b).2.2]) ∧ Below w.heap.size w w' := by
  have HC := Lib.hid (show Sl encBlow (w.alloc (.cells #[.int .i64 x, .int .i64 n, .int .i64 b] 24)) (w.alloc (.cells #[.int .i64 x, .int .i64 n, .int .i64 b] 24)).heap.size A l from hc.past (bl_alloc (Below.refl _ _) _)); clear hc
  have HN := Lib.hid hn; clear hn
  rcases sp2 (areBlows l) (lakeOK x n b) with t1 | ⟨t1, t2⟩ | ⟨t1, t2⟩
  case' inl => have hd : worstP l x n b = (0, 0, false) := by simp [worstP, t1]
  case' inr.inl => have hd : worstP l x n b = (0, 0, false) := by simp [worstP, t1, t2]
  case' inr.inr => have hd : worstP l x n b = ((worstTo l x n b l.length).1, (worstTo l x n b l.length).2, decide (0 < (worstTo l x n b l.length).2)) := by simp [worstP, t1, t2]
  all_goals
    rw [hd]
    clear hd
  case inr.inr =>
    have hk := lakeOK_in t2
    have HT1 := Lib.hid t1
    rw [HN.out]
    go_enter Try.func38, Try.ntmps38
    go_wp2_with (first | (go_at_call 61; refine (l19Both_any l m HN.out _ _ _ _ _ _ hl HC.out).mono ?_; rintro e w1 ⟨rfl, hb⟩; obtain ⟨p, rfl⟩ := below_gw hb; clear hb) | (go_at_call 51; refine (l1In_any _ _ _ _).mono ?_; rintro e w1 ⟨rfl, rfl⟩))
    refine wp_name (fun W0 hW0 => ?_)
    have hB0 : Below w.heap.size w W0 := by rw [hW0]; exact (by repeat (first | assumption | exact Below.refl _ _ | apply bl_gw | apply bl_alloc | apply bl_drewN | apply bl_drew))
    have HD := Lib.hid (show Sl encBlow W0 W0.heap.size A l by rw [hW0]; exact HC.out.past (by repeat (first | assumption | exact Below.refl _ _ | apply bl_gw | apply bl_alloc | apply bl_drewN | apply bl_drew)))
    have hz : w.heap.size < W0.heap.size := by rw [hW0]; simp; omega
    have L0 : W0.cell? ⟨w.heap.size, 0, none⟩ = some (.int .i64 x) := by rw [hW0]; simp [go_sem]
    have L1 : W0.cell? ⟨w.heap.size, 1, none⟩ = some (.int .i64 n) := by rw [hW0]; simp [go_sem]
    have L2 : W0.cell? ⟨w.heap.size, 2, none⟩ = some (.int .i64 b) := by rw [hW0]; simp [go_sem]
    clear hW0
    clear t1 t2
    go_loopw [7, 8, 9] (fun h q i wr => ∃ (k : Nat) (th tq : Int), k ≤ m ∧ i = .int .i64 k ∧ h = .int .i64 th ∧ q = .int .i64 tq ∧ (th, tq) = worstTo l x n b k ∧ Below W0.heap.size W0 wr) (fun _ _ i _ => m - (intOf i).toNat)
    case atStart => exact ⟨0, 0, 0, Nat.zero_le _, rfl, rfl, rfl, rfl, Below.refl _ _⟩
    case round =>
      obtain ⟨k, th, tq, hkm, rfl, rfl, rfl, ht, hbel⟩ := hrel
      have HT := Lib.hid ht; clear ht
      by_cases hlt : k < m
      · have hsz := hbel.size
        obtain ⟨bk, off, rfl, hb, hcs⟩ := HD.out.blow (by rw [HN.out]; omega)
        have hx : l[k]? = some (l[k]'(by rw [HN.out]; exact hlt)) := List.getElem?_eq_getElem _
        generalize l[k]'(by rw [HN.out]; exact hlt) = y at hx
        obtain ⟨c0, c1, c2⟩ := hcs k y hx
        clear hcs
        have HX := Lib.hid hx
        clear hx
        rw [← hbel.cell hb] at c0 c1 c2
        rw [← hbel.cell (p := ⟨w.heap.size, 0, none⟩) hz] at L0
        rw [← hbel.cell (p := ⟨w.heap.size, 1, none⟩) hz] at L1
        rw [← hbel.cell (p := ⟨w.heap.size, 2, none⟩) hz] at L2
        have hzr : w.heap.size < wr.heap.size := by omega
        have hbw : bk < wr.heap.size := by omega
        have k1 : (k : Int) < m := by omega
        obtain ⟨⟨y1, y2⟩, ⟨y3, y4⟩, ⟨y5, y6⟩⟩ := areBlows_at HT1.out HX.out
        have Y1 := Lib.hid y1; have Y2 := Lib.hid y2; have Y3 := Lib.hid y3; have Y4 := Lib.hid y4; have Y5 := Lib.hid y5; have Y6 := Lib.hid y6
        clear y1 y2 y3 y4 y5 y6
        obtain ⟨v, ev⟩ : ∃ v, spillP x n b y.speed y.frm = v := ⟨_, rfl⟩
        have hstep : worstTo l x n b (k + 1) = if tq < v then (y.hour, v) else (th, tq) := by
          have : worstTo l x n b (k + 1) = if (worstTo l x n b k).2 < spillP x n b y.speed y.frm then (y.hour, spillP x n b y.speed y.frm) else worstTo l x n b k := by simp [worstTo, loopTo, List.getElem!_of_getElem? HX.out]
          rw [this, ← HT.out, ev]
        have HV := Lib.hid ev
        have HS := Lib.hid hstep; clear hstep ev
        by_cases hcmp : tq < v
        · have k2 : (0 : Int) ≤ k := by omega
          go_wp2
          refine wp_region_gw (by kernel_rfl) (by kernel_rfl) ?_
          repeat (first | go_big_quiet_step ((go_at_call 65; exact quiet_gw (v := .int .i64 v) ((l19Spills_any _ _ _ _ _ _ _ hk Y3.out Y4.out Y5.out).mono (fun _ _ ⟨he, hb⟩ => ⟨by rw [he, HV.out], hb⟩)))) | quiet_step ((go_at_call 65; exact quiet_gw (v := .int .i64 v) ((l19Spills_any _ _ _ _ _ _ _ hk Y3.out Y4.out Y5.out).mono (fun _ _ ⟨he, hb⟩ => ⟨by rw [he, HV.out], hb⟩)))))
          refine wpQuiet_nil ?_
          rintro _ ⟨pq, rfl⟩
          go_wp2
          go_roundw
          case rel => exact ⟨k + 1, _, _, by omega, by go_num, rfl, rfl, by rw [HS.out, if_pos hcmp], (by repeat (first | assumption | exact Below.refl _ _ | apply bl_gw | apply bl_alloc | apply bl_drewN | apply bl_drew))⟩
          case measure => simp [intOf]; omega
        · have k2 : (0 : Int) ≤ k := by omega
          go_wp2
          refine wp_region_gw (by kernel_rfl) (by kernel_rfl) ?_
          repeat (first | go_big_quiet_step ((go_at_call 65; exact quiet_gw (v := .int .i64 v) ((l19Spills_any _ _ _ _ _ _ _ hk Y3.out Y4.out Y5.out).mono (fun _ _ ⟨he, hb⟩ => ⟨by rw [he, HV.out], hb⟩)))) | quiet_step ((go_at_call 65; exact quiet_gw (v := .int .i64 v) ((l19Spills_any _ _ _ _ _ _ _ hk Y3.out Y4.out Y5.out).mono (fun _ _ ⟨he, hb⟩ => ⟨by rw [he, HV.out], hb⟩)))))
          refine wpQuiet_nil ?_
          rintro _ ⟨pq, rfl⟩
          go_wp2
          go_roundw
          case rel => exact ⟨k + 1, _, _, by omega, by go_num, rfl, rfl, by rw [HS.out, if_neg (by omega)], (by repeat (first | assumption | exact Below.refl _ _ | apply bl_gw | apply bl_alloc | apply bl_drewN | apply bl_drew))⟩
          case measure => simp [intOf]; omega
      · go_wp2
        go_ret3
        obtain rfl : k = m := by omega
        exact ⟨by rw [← HT.out]; rfl, hB0.trans (hbel.mono (by omega))⟩
  all_goals
    go_enter Try.func38, Try.ntmps38
    go_wp2_with (first | (go_at_call 61; refine (l19Both_any l m HN.out _ _ _ _ _ _ hl HC.out).mono ?_; rintro e w1 ⟨rfl, hb⟩; obtain ⟨p, rfl⟩ := below_gw hb; clear hb) | (go_at_call 51; refine (l1In_any _ _ _ _).mono ?_; rintro e w1 ⟨rfl, rfl⟩))
    go_ret3
    exact ⟨rfl, (by repeat (first | assumption | exact Below.refl _ _ | apply bl_gw | apply bl_alloc | apply bl_drewN | apply bl_drew))⟩
set_option maxHeartbeats 4000000 in
theorem impl_SpilledIn_any (l : List Blow) (m : Nat) (hn : l.length = m) (A : Option Addr) (cap : Nat) (x n b h : Int) (w : World) (hl : m ≤ 1048576) (hc : Sl encBlow w w.heap.size A l) :
    Calls Try.prog 37 #[.slice A m cap, .agg #[.int .i64 x, .int .i64 n, .int .i64 b], .int .i64 h] w fun e w' => e = .returned (.tuple #[.int .i64 (spilledInP l x n b h).1, .bool (spilledInP l x n b h).2]) ∧ Below w.heap.size w w' := by
  have HC := Lib.hid (show Sl encBlow (w.alloc (.cells #[.int .i64 x, .int .i64 n, .int .i64 b] 24)) (w.alloc (.cells #[.int .i64 x, .int .i64 n, .int .i64 b] 24)).heap.size A l from hc.past (bl_alloc (Below.refl _ _) _)); clear hc
  have HN := Lib.hid hn; clear hn
  rcases sp3 (areBlows l) (lakeOK x n b) (inB h 0 9999) with t1 | ⟨t1, t2⟩ | ⟨t1, t2, t3⟩ | ⟨t1, t2, t3⟩
  case' inl => have hd : spilledInP l x n b h = (0, false) := by simp [spilledInP, t1]
  case' inr.inl => have hd : spilledInP l x n b h = (0, false) := by simp [spilledInP, t1, t2]
  case' inr.inr.inl => have hd : spilledInP l x n b h = (0, false) := by simp [spilledInP, t1, t2, t3]
  case' inr.inr.inr => have hd : spilledInP l x n b h = (inHour l x n b h, true) := by simp [spilledInP, t1, t2, t3]
  all_goals
    rw [hd]
    clear hd
  case inr.inr.inr =>
    have hk := lakeOK_in t2
    have HT1 := Lib.hid t1
    go_enter Try.func37, Try.ntmps37
    go_wp2_with (first | (go_at_call 24; refine (impl_AreBlows_any l m HN.out _ _ _ hl HC.out).mono ?_; rintro e w1 ⟨rfl, hb⟩; obtain ⟨p, rfl⟩ := below_gw hb; clear hb) | (go_at_call 50; refine (isLake_any _ _ _ _).mono ?_; rintro e w1 ⟨rfl, hb⟩; obtain ⟨p, rfl⟩ := below_gw hb; clear hb) | (go_at_call 58; refine (isHour_any _ _).mono ?_; rintro e w1 ⟨rfl, rfl⟩))
    refine wp_name (fun W0 hW0 => ?_)
    have hB0 : Below w.heap.size w W0 := by rw [hW0]; exact (by repeat (first | assumption | exact Below.refl _ _ | apply bl_gw | apply bl_alloc | apply bl_drewN | apply bl_drew))
    have HD := Lib.hid (show Sl encBlow W0 W0.heap.size A l by rw [hW0]; exact HC.out.past (by repeat (first | assumption | exact Below.refl _ _ | apply bl_gw | apply bl_alloc | apply bl_drewN | apply bl_drew)))
    have hz : w.heap.size < W0.heap.size := by rw [hW0]; simp; omega
    have L0 : W0.cell? ⟨w.heap.size, 0, none⟩ = some (.int .i64 x) := by rw [hW0]; simp [go_sem]
    have L1 : W0.cell? ⟨w.heap.size, 1, none⟩ = some (.int .i64 n) := by rw [hW0]; simp [go_sem]
    have L2 : W0.cell? ⟨w.heap.size, 2, none⟩ = some (.int .i64 b) := by rw [hW0]; simp [go_sem]
    clear hW0
    clear t1 t2 t3
    go_loopw [25] (fun i wr => ∃ (k : Nat), k ≤ m ∧ i = .int .i64 k ∧ firstTo (fun i => l[i]!.hour == h) k = none ∧ Below W0.heap.size W0 wr) (fun i _ => m - (intOf i).toNat)
    case atStart => exact ⟨0, Nat.zero_le _, rfl, rfl, Below.refl _ _⟩
    case round =>
      obtain ⟨k, hkm, rfl, ht, hbel⟩ := hrel
      have HT := Lib.hid ht; clear ht
      by_cases hlt : k < m
      · have hsz := hbel.size
        obtain ⟨bk, off, rfl, hb, hcs⟩ := HD.out.blow (by rw [HN.out]; omega)
        have hx : l[k]? = some (l[k]'(by rw [HN.out]; exact hlt)) := List.getElem?_eq_getElem _
        generalize l[k]'(by rw [HN.out]; exact hlt) = y at hx
        obtain ⟨c0, c1, c2⟩ := hcs k y hx
        clear hcs
        have HX := Lib.hid hx
        clear hx
        rw [← hbel.cell hb] at c0 c1 c2
        rw [← hbel.cell (p := ⟨w.heap.size, 0, none⟩) hz] at L0
        rw [← hbel.cell (p := ⟨w.heap.size, 1, none⟩) hz] at L1
        rw [← hbel.cell (p := ⟨w.heap.size, 2, none⟩) hz] at L2
        have hzr : w.heap.size < wr.heap.size := by omega
        have hbw : bk < wr.heap.size := by omega
        have k1 : (k : Int) < m := by omega
        obtain ⟨⟨y1, y2⟩, ⟨y3, y4⟩, ⟨y5, y6⟩⟩ := areBlows_at HT1.out HX.out
        have Y1 := Lib.hid y1; have Y2 := Lib.hid y2; have Y3 := Lib.hid y3; have Y4 := Lib.hid y4; have Y5 := Lib.hid y5; have Y6 := Lib.hid y6
        clear y1 y2 y3 y4 y5 y6
        obtain ⟨v, ev⟩ : ∃ v, spillP x n b y.speed y.frm = v := ⟨_, rfl⟩
        have he : (l[k]!.hour == h) = (y.hour == h) := by rw [List.getElem!_of_getElem? HX.out]
        have HE := Lib.hid he
        have HV := Lib.hid ev
        clear he ev
        rcases sp1 (y.hour == h) with hcmp | hcmp
        · have HS := Lib.hid (firstTo_miss HT.out (by rw [HE.out, hcmp]))
          go_wp2_with (go_at_call 66; refine (spills_any _ _ _ _ _ _ _ hk Y3.out Y4.out Y5.out).mono ?_; rintro e w1 ⟨rfl, hb⟩; obtain ⟨p, rfl⟩ := below_gw hb; clear hb; rw [HV.out])
          go_roundw
          case rel => exact ⟨k + 1, by omega, by go_num, HS.out, (by repeat (first | assumption | exact Below.refl _ _ | apply bl_gw | apply bl_alloc | apply bl_drewN | apply bl_drew))⟩
          case measure => simp [intOf]; omega
        · have HS : Hid (inHour l x n b h = v) := by
            have := firstTo_hit HT.out (by rw [HE.out, hcmp]) l.length (by rw [HN.out]; exact hlt)
            show _ = _
            simp only [inHour, this, List.getElem!_of_getElem? HX.out]
            exact HV.out
          go_wp2_with (go_at_call 66; refine (spills_any _ _ _ _ _ _ _ hk Y3.out Y4.out Y5.out).mono ?_; rintro e w1 ⟨rfl, hb⟩; obtain ⟨p, rfl⟩ := below_gw hb; clear hb; rw [HV.out])
          go_ret2
          exact ⟨by rw [HS.out]; rfl, hB0.trans (Below.mono (by repeat (first | assumption | exact Below.refl _ _ | apply bl_gw | apply bl_alloc | apply bl_drewN | apply bl_drew)) (by omega))⟩
      · go_wp2
        go_ret2
        obtain rfl : k = m := by omega
        exact ⟨by rw [show inHour l x n b h = 0 by simp only [inHour, HN.out, HT.out]]; rfl, hB0.trans (hbel.mono (by omega))⟩
  all_goals
    go_enter Try.func37, Try.ntmps37
    go_wp2_with (first | (go_at_call 24; refine (impl_AreBlows_any l m HN.out _ _ _ hl HC.out).mono ?_; rintro e w1 ⟨rfl, hb⟩; obtain ⟨p, rfl⟩ := below_gw hb; clear hb) | (go_at_call 50; refine (isLake_any _ _ _ _).mono ?_; rintro e w1 ⟨rfl, hb⟩; obtain ⟨p, rfl⟩ := below_gw hb; clear hb) | (go_at_call 58; refine (isHour_any _ _).mono ?_; rintro e w1 ⟨rfl, rfl⟩))
    go_ret2
    exact ⟨rfl, (by repeat (first | assumption | exact Below.refl _ _ | apply bl_gw | apply bl_alloc | apply bl_drewN | apply bl_drew))⟩
set_option maxHeartbeats 4000000 in
theorem spec_SpilledIn_any (l : List Blow) (m : Nat) (hn : l.length = m) (A : Option Addr) (cap : Nat) (x n b h : Int) (w : World) (hl : m ≤ 1048576) (hc : Sl encBlow w w.heap.size A l) :
    Calls Try.prog 36 #[.slice A m cap, .agg #[.int .i64 x, .int .i64 n, .int .i64 b], .int .i64 h] w fun e w' => e = .returned (.tuple #[.int .i64 (spilledInP l x n b h).1, .bool (spilledInP l x n b h).2]) ∧ Below w.heap.size w w' := by
  have HC := Lib.hid (show Sl encBlow (w.alloc (.cells #[.int .i64 x, .int .i64 n, .int .i64 b] 24)) (w.alloc (.cells #[.int .i64 x, .int .i64 n, .int .i64 b] 24)).heap.size A l from hc.past (bl_alloc (Below.refl _ _) _)); clear hc
  have HN := Lib.hid hn; clear hn
  rcases sp3 (areBlows l) (lakeOK x n b) (inB h 0 9999) with t1 | ⟨t1, t2⟩ | ⟨t1, t2, t3⟩ | ⟨t1, t2, t3⟩
  case' inl => have hd : spilledInP l x n b h = (0, false) := by simp [spilledInP, t1]
  case' inr.inl => have hd : spilledInP l x n b h = (0, false) := by simp [spilledInP, t1, t2]
  case' inr.inr.inl => have hd : spilledInP l x n b h = (0, false) := by simp [spilledInP, t1, t2, t3]
  case' inr.inr.inr => have hd : spilledInP l x n b h = (inHour l x n b h, true) := by simp [spilledInP, t1, t2, t3]
  all_goals
    rw [hd]
    clear hd
  case inr.inr.inr =>
    have hk := lakeOK_in t2
    have HT1 := Lib.hid t1
    go_enter Try.func36, Try.ntmps36
    go_wp2_with (first | (go_at_call 61; refine (l19Both_any l m HN.out _ _ _ _ _ _ hl HC.out).mono ?_; rintro e w1 ⟨rfl, hb⟩; obtain ⟨p, rfl⟩ := below_gw hb; clear hb) | (go_at_call 51; refine (l1In_any _ _ _ _).mono ?_; rintro e w1 ⟨rfl, rfl⟩))
    refine wp_name (fun W0 hW0 => ?_)
    have hB0 : Below w.heap.size w W0 := by rw [hW0]; exact (by repeat (first | assumption | exact Below.refl _ _ | apply bl_gw | apply bl_alloc | apply bl_drewN | apply bl_drew))
    have HD := Lib.hid (show Sl encBlow W0 W0.heap.size A l by rw [hW0]; exact HC.out.past (by repeat (first | assumption | exact Below.refl _ _ | apply bl_gw | apply bl_alloc | apply bl_drewN | apply bl_drew)))
    have hz : w.heap.size < W0.heap.size := by rw [hW0]; simp; omega
    have L0 : W0.cell? ⟨w.heap.size, 0, none⟩ = some (.int .i64 x) := by rw [hW0]; simp [go_sem]
    have L1 : W0.cell? ⟨w.heap.size, 1, none⟩ = some (.int .i64 n) := by rw [hW0]; simp [go_sem]
    have L2 : W0.cell? ⟨w.heap.size, 2, none⟩ = some (.int .i64 b) := by rw [hW0]; simp [go_sem]
    clear hW0
    clear t1 t2 t3
    go_loopw [8] (fun i wr => ∃ (k : Nat), k ≤ m ∧ i = .int .i64 k ∧ firstTo (fun i => l[i]!.hour == h) k = none ∧ Below W0.heap.size W0 wr) (fun i _ => m - (intOf i).toNat)
    case atStart => exact ⟨0, Nat.zero_le _, rfl, rfl, Below.refl _ _⟩
    case round =>
      obtain ⟨k, hkm, rfl, ht, hbel⟩ := hrel
      have HT := Lib.hid ht; clear ht
      by_cases hlt : k < m
      · have hsz := hbel.size
        obtain ⟨bk, off, rfl, hb, hcs⟩ := HD.out.blow (by rw [HN.out]; omega)
        have hx : l[k]? = some (l[k]'(by rw [HN.out]; exact hlt)) := List.getElem?_eq_getElem _
        generalize l[k]'(by rw [HN.out]; exact hlt) = y at hx
        obtain ⟨c0, c1, c2⟩ := hcs k y hx
        clear hcs
        have HX := Lib.hid hx
        clear hx
        rw [← hbel.cell hb] at c0 c1 c2
        rw [← hbel.cell (p := ⟨w.heap.size, 0, none⟩) hz] at L0
        rw [← hbel.cell (p := ⟨w.heap.size, 1, none⟩) hz] at L1
        rw [← hbel.cell (p := ⟨w.heap.size, 2, none⟩) hz] at L2
        have hzr : w.heap.size < wr.heap.size := by omega
        have hbw : bk < wr.heap.size := by omega
        have k1 : (k : Int) < m := by omega
        obtain ⟨⟨y1, y2⟩, ⟨y3, y4⟩, ⟨y5, y6⟩⟩ := areBlows_at HT1.out HX.out
        have Y1 := Lib.hid y1; have Y2 := Lib.hid y2; have Y3 := Lib.hid y3; have Y4 := Lib.hid y4; have Y5 := Lib.hid y5; have Y6 := Lib.hid y6
        clear y1 y2 y3 y4 y5 y6
        obtain ⟨v, ev⟩ : ∃ v, spillP x n b y.speed y.frm = v := ⟨_, rfl⟩
        have he : (l[k]!.hour == h) = (y.hour == h) := by rw [List.getElem!_of_getElem? HX.out]
        have HE := Lib.hid he
        have HV := Lib.hid ev
        clear he ev
        rcases sp1 (y.hour == h) with hcmp | hcmp
        · have HS := Lib.hid (firstTo_miss HT.out (by rw [HE.out, hcmp]))
          go_wp2
          go_roundw
          case rel => exact ⟨k + 1, by omega, by go_num, HS.out, (by repeat (first | assumption | exact Below.refl _ _ | apply bl_gw | apply bl_alloc | apply bl_drewN | apply bl_drew))⟩
          case measure => simp [intOf]; omega
        · have HS : Hid (inHour l x n b h = v) := by
            have := firstTo_hit HT.out (by rw [HE.out, hcmp]) l.length (by rw [HN.out]; exact hlt)
            show _ = _
            simp only [inHour, this, List.getElem!_of_getElem? HX.out]
            exact HV.out
          have k2 : (0 : Int) ≤ k := by omega
          go_wp2
          refine wp_region_gw (by kernel_rfl) (by kernel_rfl) ?_
          repeat (first | go_big_quiet_step ((go_at_call 65; exact quiet_gw (v := .int .i64 v) ((l19Spills_any _ _ _ _ _ _ _ hk Y3.out Y4.out Y5.out).mono (fun _ _ ⟨he, hb⟩ => ⟨by rw [he, HV.out], hb⟩)))) | quiet_step ((go_at_call 65; exact quiet_gw (v := .int .i64 v) ((l19Spills_any _ _ _ _ _ _ _ hk Y3.out Y4.out Y5.out).mono (fun _ _ ⟨he, hb⟩ => ⟨by rw [he, HV.out], hb⟩)))))
          refine wpQuiet_nil ?_
          rintro _ ⟨pq, rfl⟩
          go_wp2
          go_ret2
          exact ⟨by rw [HS.out]; rfl, hB0.trans (Below.mono (by repeat (first | assumption | exact Below.refl _ _ | apply bl_gw | apply bl_alloc | apply bl_drewN | apply bl_drew)) (by omega))⟩
      · go_wp2
        go_ret2
        obtain rfl : k = m := by omega
        exact ⟨by rw [show inHour l x n b h = 0 by simp only [inHour, HN.out, HT.out]]; rfl, hB0.trans (hbel.mono (by omega))⟩
  all_goals
    go_enter Try.func36, Try.ntmps36
    go_wp2_with (first | (go_at_call 61; refine (l19Both_any l m HN.out _ _ _ _ _ _ hl HC.out).mono ?_; rintro e w1 ⟨rfl, hb⟩; obtain ⟨p, rfl⟩ := below_gw hb; clear hb) | (go_at_call 51; refine (l1In_any _ _ _ _).mono ?_; rintro e w1 ⟨rfl, rfl⟩))
    go_ret2
    exact ⟨rfl, (by repeat (first | assumption | exact Below.refl _ _ | apply bl_gw | apply bl_alloc | apply bl_drewN | apply bl_drew))⟩
end Go.Proofs.Ytopdbacgceoddaa
