/- Walks of blows over a lake: the loops. -/
import Derived.Test.YtopdbacgceoddaaWindD
namespace Go.Proofs.Ytopdbacgceoddaa
open Go.RowKit
theorem areBlows_len {l : List Blow} (h : areBlows l = true) : l.length ≤ 20 := by
  simp only [areBlows, Bool.and_eq_true, decide_eq_true_eq] at h; exact h.2
theorem areBlows_ok {l : List Blow} (h : areBlows l = true) {k : Nat} (hk : k < l.length) : badBlow l k = false := by
  simp only [areBlows, Bool.and_eq_true, Option.isNone_iff_eq_none] at h
  exact firstTo_none h.1 k hk
theorem areBlows_at {l : List Blow} (h : areBlows l = true) {k : Nat} {x : Blow} (hx : l[k]? = some x) : (0 ≤ x.hour ∧ x.hour ≤ 9999) ∧ (0 ≤ x.speed ∧ x.speed ≤ 60) ∧ (0 ≤ x.frm ∧ x.frm ≤ 3) := by
  have := areBlows_ok h (List.getElem?_eq_some_iff.1 hx).1
  simp only [badBlow, List.getElem!_of_getElem? hx, Bool.not_eq_false', Bool.and_eq_true] at this
  exact ⟨inB_true this.1, inB_true this.2.1, inB_true this.2.2.1⟩
def bankTo (l : List Blow) (x n : Int) (k : Nat) : Int := loopTo (fun i t => max t (waveP x n l[i]!.speed l[i]!.frm)) 0 k
def sumSpill (l : List Blow) (x n b : Int) (k : Nat) : Int := loopTo (fun i t => t + spillP x n b l[i]!.speed l[i]!.frm) 0 k
def worstTo (l : List Blow) (x n b : Int) (k : Nat) : Int × Int := loopTo (fun i t => if t.2 < spillP x n b l[i]!.speed l[i]!.frm then (l[i]!.hour, spillP x n b l[i]!.speed l[i]!.frm) else t) (0, 0) k
def bankP (l : List Blow) (x n b : Int) : Int × Bool := if areBlows l && lakeOK x n b then (bankTo l x n l.length, true) else (0, false)
def allP (l : List Blow) (x n b : Int) : Int × Bool := if areBlows l && lakeOK x n b then (sumSpill l x n b l.length, true) else (0, false)
def worstP (l : List Blow) (x n b : Int) : Int × Int × Bool := if areBlows l && lakeOK x n b then ((worstTo l x n b l.length).1, (worstTo l x n b l.length).2, decide (0 < (worstTo l x n b l.length).2)) else (0, 0, false)
def inHour (l : List Blow) (x n b h : Int) : Int := match firstTo (fun i => l[i]!.hour == h) l.length with
  | some i => spillP x n b l[i]!.speed l[i]!.frm
  | none => 0
def spilledInP (l : List Blow) (x n b h : Int) : Int × Bool := if (areBlows l && lakeOK x n b) && inB h 0 9999 then (inHour l x n b h, true) else (0, false)

set_option maxHeartbeats 1000000 in
theorem l19Both_any (l : List Blow) (m : Nat) (hn : l.length = m) (A : Option Addr) (cap : Nat) (x n b : Int) (w : World) (hl : m ≤ 1048576) (hc : Sl encBlow w w.heap.size A l) :
    Calls Try.prog 61 #[.slice A m cap, .agg #[.int .i64 x, .int .i64 n, .int .i64 b]] w fun e w' => e = .returned (.bool (areBlows l && lakeOK x n b)) ∧ Below w.heap.size w w' := by
  have HC := Lib.hid (show Sl encBlow (w.alloc (.cells #[.int .i64 x, .int .i64 n, .int .i64 b] 24)) (w.alloc (.cells #[.int .i64 x, .int .i64 n, .int .i64 b] 24)).heap.size A l from hc.past (bl_alloc (Below.refl _ _) _)); clear hc
  have HN := Lib.hid hn; clear hn
  rcases sp2 (areBlows l) (lakeOK x n b) with t1 | ⟨t1, t2⟩ | ⟨t1, t2⟩
  all_goals
    go_enter Try.func61, Try.ntmps61
    go_wp2_with (first | (go_at_call 56; refine (l19Good_any l m HN.out _ _ _ hl HC.out).mono ?_; rintro e w1 ⟨rfl, hb⟩; obtain ⟨p, rfl⟩ := below_gw hb; clear hb) | (go_at_call 49; refine (l19Lake_any _ _ _ _).mono ?_; rintro e w1 ⟨rfl, hb⟩; obtain ⟨p, rfl⟩ := below_gw hb; clear hb))
    go_ret
    exact ⟨ret_bool (by simp [*]), (by repeat (first | assumption | exact Below.refl _ _ | apply bl_gw | apply bl_alloc | apply bl_drewN | apply bl_drew))⟩

set_option maxHeartbeats 4000000 in
theorem impl_BankNeeded_any (l : List Blow) (m : Nat) (hn : l.length = m) (A : Option Addr) (cap : Nat) (x n b : Int) (w : World) (hl : m ≤ 1048576) (hc : Sl encBlow w w.heap.size A l) :
    Calls Try.prog 31 #[.slice A m cap, .agg #[.int .i64 x, .int .i64 n, .int .i64 b]] w fun e w' => e = .returned (.tuple #[.int .i64 (bankP l x n b).1, .bool (bankP l x n b).2]) ∧ Below w.heap.size w w' := by
  have HC := Lib.hid (show Sl encBlow (w.alloc (.cells #[.int .i64 x, .int .i64 n, .int .i64 b] 24)) (w.alloc (.cells #[.int .i64 x, .int .i64 n, .int .i64 b] 24)).heap.size A l from hc.past (bl_alloc (Below.refl _ _) _)); clear hc
  have HN := Lib.hid hn; clear hn
  rcases sp2 (areBlows l) (lakeOK x n b) with t1 | ⟨t1, t2⟩ | ⟨t1, t2⟩
  case' inl => have hd : bankP l x n b = (0, false) := by simp [bankP, t1]
  case' inr.inl => have hd : bankP l x n b = (0, false) := by simp [bankP, t1, t2]
  case' inr.inr => have hd : bankP l x n b = (bankTo l x n l.length, true) := by simp [bankP, t1, t2]
  all_goals
    rw [hd]
    clear hd
  case inr.inr =>
    have hk := lakeOK_in t2
    have HT1 := Lib.hid t1
    rw [HN.out]
    go_enter Try.func31, Try.ntmps31
    go_wp2_with (first | (go_at_call 24; refine (impl_AreBlows_any l m HN.out _ _ _ hl HC.out).mono ?_; rintro e w1 ⟨rfl, hb⟩; obtain ⟨p, rfl⟩ := below_gw hb; clear hb) | (go_at_call 50; refine (isLake_any _ _ _ _).mono ?_; rintro e w1 ⟨rfl, hb⟩; obtain ⟨p, rfl⟩ := below_gw hb; clear hb) | (go_at_call 58; refine (isHour_any _ _).mono ?_; rintro e w1 ⟨rfl, rfl⟩))
    refine wp_name (fun W0 hW0 => ?_)
    have hB0 : Below w.heap.size w W0 := by rw [hW0]; exact (by repeat (first | assumption | exact Below.refl _ _ | apply bl_gw | apply bl_alloc | apply bl_drewN | apply bl_drew))
    have HD := Lib.hid (show Sl encBlow W0 W0.heap.size A l by rw [hW0]; exact HC.out.past (by repeat (first | assumption | exact Below.refl _ _ | apply bl_gw | apply bl_alloc | apply bl_drewN | apply bl_drew)))
    have hz : w.heap.size < W0.heap.size := by rw [hW0]; simp; omega
    have L0 : W0.cell? ⟨w.heap.size, 0, none⟩ = some (.int .i64 x) := by rw [hW0]; simp [go_sem]
    have L1 : W0.cell? ⟨w.heap.size, 1, none⟩ = some (.int .i64 n) := by rw [hW0]; simp [go_sem]
    have L2 : W0.cell? ⟨w.heap.size, 2, none⟩ = some (.int .i64 b) := by rw [hW0]; simp [go_sem]
    clear hW0
    clear t1 t2
    go_loopw [6, 19] (fun h i wr => ∃ (k : Nat) (t : Int), k ≤ m ∧ i = .int .i64 k ∧ h = .int .i64 t ∧ t = bankTo l x n k ∧ Below W0.heap.size W0 wr) (fun _ i _ => m - (intOf i).toNat)
    case atStart => exact ⟨0, 0, Nat.zero_le _, rfl, rfl, rfl, Below.refl _ _⟩
    case round =>
      obtain ⟨k, t, hkm, rfl, rfl, ht, hbel⟩ := hrel
      have HT := Lib.hid ht; clear ht
      by_cases hlt : k < m
      · have hsz := hbel.size
        obtain ⟨bk, off, rfl, hb, hcs⟩ := HD.out.blow (by rw [HN.out]; omega)
        have hx : l[k]? = some (l[k]'(by rw [HN.out]; exact hlt)) := List.getElem?_eq_getElem _
        generalize l[k]'(by rw [HN.out]; exact hlt) = y at hx
        obtain ⟨c0, c1, c2⟩ := hcs k y hx
        clear hcs
        have HX := Lib.hid hx
        clear hx
        rw [← hbel.cell hb] at c0 c1 c2
        rw [← hbel.cell (p := ⟨w.heap.size, 0, none⟩) hz] at L0
        rw [← hbel.cell (p := ⟨w.heap.size, 1, none⟩) hz] at L1
        rw [← hbel.cell (p := ⟨w.heap.size, 2, none⟩) hz] at L2
        have hzr : w.heap.size < wr.heap.size := by omega
        have hbw : bk < wr.heap.size := by omega
        have k1 : (k : Int) < m := by omega
        obtain ⟨⟨y1, y2⟩, ⟨y3, y4⟩, ⟨y5, y6⟩⟩ := areBlows_at HT1.out HX.out
        have Y1 := Lib.hid y1; have Y2 := Lib.hid y2; have Y3 := Lib.hid y3; have Y4 := Lib.hid y4; have Y5 := Lib.hid y5; have Y6 := Lib.hid y6
        clear y1 y2 y3 y4 y5 y6
        have hstep : bankTo l x n (k + 1) = max t (waveP x n y.speed y.frm) := by rw [HT.out]; simp [bankTo, loopTo, List.getElem!_of_getElem? HX.out]
        have HS := Lib.hid hstep; clear hstep
        go_wp2_with (first | (go_at_call 55; refine (wave_any _ _ _ _ _ _ hk Y3.out Y4.out Y5.out).mono ?_; rintro e w1 ⟨rfl, hb⟩; obtain ⟨p, rfl⟩ := below_gw hb; clear hb))
        all_goals
          go_roundw
          case rel => exact ⟨k + 1, _, by omega, by go_num, rfl, by first | exact HS.out.symm | (rw [HS.out]; omega), (by repeat (first | assumption | exact Below.refl _ _ | apply bl_gw | apply bl_alloc | apply bl_drewN | apply bl_drew))⟩
          case measure => simp [intOf]; omega
      · go_wp2
        go_ret2
        obtain rfl : k = m := by omega
        exact ⟨by rw [HT.out]; rfl, hB0.trans (hbel.mono (by omega))⟩
  all_goals
    go_enter Try.func31, Try.ntmps31
    go_wp2_with (first | (go_at_call 24; refine (impl_AreBlows_any l m HN.out _ _ _ hl HC.out).mono ?_; rintro e w1 ⟨rfl, hb⟩; obtain ⟨p, rfl⟩ := below_gw hb; clear hb) | (go_at_call 50; refine (isLake_any _ _ _ _).mono ?_; rintro e w1 ⟨rfl, hb⟩; obtain ⟨p, rfl⟩ := below_gw hb; clear hb) | (go_at_call 58; refine (isHour_any _ _).mono ?_; rintro e w1 ⟨rfl, rfl⟩))
    go_ret2
    exact ⟨rfl, (by repeat (first | assumption | exact Below.refl _ _ | apply bl_gw | apply bl_alloc | apply bl_drewN | apply bl_drew))⟩
set_option maxHeartbeats 4000000 in
theorem spec_BankNeeded_any (l : List Blow) (m : Nat) (hn : l.length = m) (A : Option Addr) (cap : Nat) (x n b : Int) (w : World) (hl : m ≤ 1048576) (hc : Sl encBlow w w.heap.size A l) :
    Calls Try.prog 30 #[.slice A m cap, .agg #[.int .i64 x, .int .i64 n, .int .i64 b]] w fun e w' => e = .returned (.tuple #[.int .i64 (bankP l x n b).1, .bool (bankP l x n b).2]) ∧ Below w.heap.size w w' := by
  have HC := Lib.hid (show Sl encBlow (w.alloc (.cells #[.int .i64 x, .int .i64 n, .int .i64 b] 24)) (w.alloc (.cells #[.int .i64 x, .int .i64 n, .int .i64 b] 24)).heap.size A l from hc.past (bl_alloc (Below.refl _ _) _)); clear hc
  have HN := Lib.hid hn; clear hn
  rcases sp2 (areBlows l) (lakeOK x n b) with t1 | ⟨t1, t2⟩ | ⟨t1, t2⟩
  case' inl => have hd : bankP l x n b = (0, false) := by simp [bankP, t1]
  case' inr.inl => have hd : bankP l x n b = (0, false) := by simp [bankP, t1, t2]
  case' inr.inr => have hd : bankP l x n b = (bankTo l x n l.length, true) := by simp [bankP, t1, t2]
  all_goals
    rw [hd]
    clear hd
  case inr.inr =>
    have hk := lakeOK_in t2
    have HT1 := Lib.hid t1
    rw [HN.out]
    go_enter Try.func30, Try.ntmps30
    go_wp2_with (first | (go_at_call 61; refine (l19Both_any l m HN.out _ _ _ _ _ _ hl HC.out).mono ?_; rintro e w1 ⟨rfl, hb⟩; obtain ⟨p, rfl⟩ := below_gw hb; clear hb) | (go_at_call 51; refine (l1In_any _ _ _ _).mono ?_; rintro e w1 ⟨rfl, rfl⟩))
    refine wp_name (fun W0 hW0 => ?_)
    have hB0 : Below w.heap.size w W0 := by rw [hW0]; exact (by repeat (first | assumption | exact Below.refl _ _ | apply bl_gw | apply bl_alloc | apply bl_drewN | apply bl_drew))
    have HD := Lib.hid (show Sl encBlow W0 W0.heap.size A l by rw [hW0]; exact HC.out.past (by repeat (first | assumption | exact Below.refl _ _ | apply bl_gw | apply bl_alloc | apply bl_drewN | apply bl_drew)))
    have hz : w.heap.size < W0.heap.size := by rw [hW0]; simp; omega
    have L0 : W0.cell? ⟨w.heap.size, 0, none⟩ = some (.int .i64 x) := by rw [hW0]; simp [go_sem]
    have L1 : W0.cell? ⟨w.heap.size, 1, none⟩ = some (.int .i64 n) := by rw [hW0]; simp [go_sem]
    have L2 : W0.cell? ⟨w.heap.size, 2, none⟩ = some (.int .i64 b) := by rw [hW0]; simp [go_sem]
    clear hW0
    clear t1 t2
    go_loopw [6, 7] (fun h i wr => ∃ (k : Nat) (t : Int), k ≤ m ∧ i = .int .i64 k ∧ h = .int .i64 t ∧ t = bankTo l x n k ∧ Below W0.heap.size W0 wr) (fun _ i _ => m - (intOf i).toNat)
    case atStart => exact ⟨0, 0, Nat.zero_le _, rfl, rfl, rfl, Below.refl _ _⟩
    case round =>
      obtain ⟨k, t, hkm, rfl, rfl, ht, hbel⟩ := hrel
      have HT := Lib.hid ht; clear ht
      by_cases hlt : k < m
      · have hsz := hbel.size
        obtain ⟨bk, off, rfl, hb, hcs⟩ := HD.out.blow (by rw [HN.out]; omega)
        have hx : l[k]? = some (l[k]'(by rw [HN.out]; exact hlt)) := List.getElem?_eq_getElem _
        generalize l[k]'(by rw [HN.out]; exact hlt) = y at hx
        obtain ⟨c0, c1, c2⟩ := hcs k y hx
        clear hcs
        have HX := Lib.hid hx
        clear hx
        rw [← hbel.cell hb] at c0 c1 c2
        rw [← hbel.cell (p := ⟨w.heap.size, 0, none⟩) hz] at L0
        rw [← hbel.cell (p := ⟨w.heap.size, 1, none⟩) hz] at L1
        rw [← hbel.cell (p := ⟨w.heap.size, 2, none⟩) hz] at L2
        have hzr : w.heap.size < wr.heap.size := by omega
        have hbw : bk < wr.heap.size := by omega
        have k1 : (k : Int) < m := by omega
        obtain ⟨⟨y1, y2⟩, ⟨y3, y4⟩, ⟨y5, y6⟩⟩ := areBlows_at HT1.out HX.out
        have Y1 := Lib.hid y1; have Y2 := Lib.hid y2; have Y3 := Lib.hid y3; have Y4 := Lib.hid y4; have Y5 := Lib.hid y5; have Y6 := Lib.hid y6
        clear y1 y2 y3 y4 y5 y6
        have hstep : bankTo l x n (k + 1) = max t (waveP x n y.speed y.frm) := by rw [HT.out]; simp [bankTo, loopTo, List.getElem!_of_getElem? HX.out]
        have HS := Lib.hid hstep; clear hstep
        have k2 : (0 : Int) ≤ k := by omega
        go_wp2
        refine wp_region_gw (by kernel_rfl) (by kernel_rfl) ?_
        repeat (first | go_big_quiet_step ((first | (go_at_call 52; exact quiet_gw (l19Wave_any _ _ _ _ _ _ hk Y3.out Y4.out Y5.out)) | (go_at_call 62; exact quiet_gw_same (l1Most_any _ _ _)))) | quiet_step ((first | (go_at_call 52; exact quiet_gw (l19Wave_any _ _ _ _ _ _ hk Y3.out Y4.out Y5.out)) | (go_at_call 62; exact quiet_gw_same (l1Most_any _ _ _)))))
        refine wpQuiet_nil ?_
        rintro _ ⟨pq, rfl⟩
        go_wp2
        all_goals
          go_roundw
          case rel => exact ⟨k + 1, _, by omega, by go_num, rfl, by first | exact HS.out.symm | (rw [HS.out]; omega), (by repeat (first | assumption | exact Below.refl _ _ | apply bl_gw | apply bl_alloc | apply bl_drewN | apply bl_drew))⟩
          case measure => simp [intOf]; omega
      · go_wp2
        go_ret2
        obtain rfl : k = m := by omega
        exact ⟨by rw [HT.out]; rfl, hB0.trans (hbel.mono (by omega))⟩
  all_goals
    go_enter Try.func30, Try.ntmps30
    go_wp2_with (first | (go_at_call 61; refine (l19Both_any l m HN.out _ _ _ _ _ _ hl HC.out).mono ?_; rintro e w1 ⟨rfl, hb⟩; obtain ⟨p, rfl⟩ := below_gw hb; clear hb) | (go_at_call 51; refine (l1In_any _ _ _ _).mono ?_; rintro e w1 ⟨rfl, rfl⟩))
    go_ret2
    exact ⟨rfl, (by repeat (first | assumption | exact Below.refl _ _ | apply bl_gw | apply bl_alloc | apply bl_drewN | apply bl_drew))⟩
set_option maxHeartbeats 4000000 in
theorem impl_SpilledInAll_any (l : List Blow) (m : Nat) (hn : l.length = m) (A : Option Addr) (cap : Nat) (x n b : Int) (w : World) (hl : m ≤ 1048576) (hc : Sl encBlow w w.heap.size A l) :
    Calls Try.prog 35 #[.slice A m cap, .agg #[.int .i64 x, .int .i64 n, .int .i64 b]] w fun e w' => e = .returned (.tuple #[.int .i64 (allP l x n b).1, .bool (allP l x n b).2]) ∧ Below w.heap.size w w' := by
  have HC := Lib.hid (show Sl encBlow (w.alloc (.cells #[.int .i64 x, .int .i64 n, .int .i64 b] 24)) (w.alloc (.cells #[.int .i64 x, .int .i64 n, .int .i64 b] 24)).heap.size A l from hc.past (bl_alloc (Below.refl _ _) _)); clear hc
  have HN := Lib.hid hn; clear hn
  rcases sp2 (areBlows l) (lakeOK x n b) with t1 | ⟨t1, t2⟩ | ⟨t1, t2⟩
  case' inl => have hd : allP l x n b = (0, false) := by simp [allP, t1]
  case' inr.inl => have hd : allP l x n b = (0, false) := by simp [allP, t1, t2]
  case' inr.inr => have hd : allP l x n b = (sumSpill l x n b l.length, true) := by simp [allP, t1, t2]
  all_goals
    rw [hd]
    clear hd
  case inr.inr =>
    have hk := lakeOK_in t2
    have HT1 := Lib.hid t1
    rw [HN.out]
    have hm20 : m ≤ 20 := by have := areBlows_len t1; rw [HN.out] at this; exact this
    go_enter Try.func35, Try.ntmps35
    go_wp2_with (first | (go_at_call 24; refine (impl_AreBlows_any l m HN.out _ _ _ hl HC.out).mono ?_; rintro e w1 ⟨rfl, hb⟩; obtain ⟨p, rfl⟩ := below_gw hb; clear hb) | (go_at_call 50; refine (isLake_any _ _ _ _).mono ?_; rintro e w1 ⟨rfl, hb⟩; obtain ⟨p, rfl⟩ := below_gw hb; clear hb) | (go_at_call 58; refine (isHour_any _ _).mono ?_; rintro e w1 ⟨rfl, rfl⟩))
    refine wp_name (fun W0 hW0 => ?_)
    have hB0 : Below w.heap.size w W0 := by rw [hW0]; exact (by repeat (first | assumption | exact Below.refl _ _ | apply bl_gw | apply bl_alloc | apply bl_drewN | apply bl_drew))
    have HD := Lib.hid (show Sl encBlow W0 W0.heap.size A l by rw [hW0]; exact HC.out.past (by repeat (first | assumption | exact Below.refl _ _ | apply bl_gw | apply bl_alloc | apply bl_drewN | apply bl_drew)))
    have hz : w.heap.size < W0.heap.size := by rw [hW0]; simp; omega
    have L0 : W0.cell? ⟨w.heap.size, 0, none⟩ = some (.int .i64 x) := by rw [hW0]; simp [go_sem]
    have L1 : W0.cell? ⟨w.heap.size, 1, none⟩ = some (.int .i64 n) := by rw [hW0]; simp [go_sem]
    have L2 : W0.cell? ⟨w.heap.size, 2, none⟩ = some (.int .i64 b) := by rw [hW0]; simp [go_sem]
    clear hW0
    clear t1 t2
    go_loopw [6, 19] (fun h i wr => ∃ (k : Nat) (t : Int), k ≤ m ∧ i = .int .i64 k ∧ h = .int .i64 t ∧ (0 ≤ t ∧ t ≤ 300000 * k) ∧ t = sumSpill l x n b k ∧ Below W0.heap.size W0 wr) (fun _ i _ => m - (intOf i).toNat)
    case atStart => exact ⟨0, 0, Nat.zero_le _, rfl, rfl, ⟨by omega, by omega⟩, rfl, Below.refl _ _⟩
    case round =>
      obtain ⟨k, t, hkm, rfl, rfl, ⟨ht0, ht1⟩, ht, hbel⟩ := hrel
      have HT := Lib.hid ht; clear ht
      by_cases hlt : k < m
      · have hsz := hbel.size
        obtain ⟨bk, off, rfl, hb, hcs⟩ := HD.out.blow (by rw [HN.out]; omega)
        have hx : l[k]? = some (l[k]'(by rw [HN.out]; exact hlt)) := List.getElem?_eq_getElem _
        generalize l[k]'(by rw [HN.out]; exact hlt) = y at hx
        obtain ⟨c0, c1, c2⟩ := hcs k y hx
        clear hcs
        have HX := Lib.hid hx
        clear hx
        rw [← hbel.cell hb] at c0 c1 c2
        rw [← hbel.cell (p := ⟨w.heap.size, 0, none⟩) hz] at L0
        rw [← hbel.cell (p := ⟨w.heap.size, 1, none⟩) hz] at L1
        rw [← hbel.cell (p := ⟨w.heap.size, 2, none⟩) hz] at L2
        have hzr : w.heap.size < wr.heap.size := by omega
        have hbw : bk < wr.heap.size := by omega
        have k1 : (k : Int) < m := by omega
        obtain ⟨⟨y1, y2⟩, ⟨y3, y4⟩, ⟨y5, y6⟩⟩ := areBlows_at HT1.out HX.out
        have Y1 := Lib.hid y1; have Y2 := Lib.hid y2; have Y3 := Lib.hid y3; have Y4 := Lib.hid y4; have Y5 := Lib.hid y5; have Y6 := Lib.hid y6
        clear y1 y2 y3 y4 y5 y6
        have hsp := spillP_in (f := y.frm) hk Y3.out Y4.out
        have hstep : sumSpill l x n b (k + 1) = t + spillP x n b y.speed y.frm := by rw [HT.out]; simp [sumSpill, loopTo, List.getElem!_of_getElem? HX.out]
        obtain ⟨v, ev⟩ : ∃ v, spillP x n b y.speed y.frm = v := ⟨_, rfl⟩
        rw [ev] at hsp hstep
        have HV := Lib.hid ev
        have HS := Lib.hid hstep; clear hstep ev
        obtain ⟨v0, v1⟩ := hsp
        go_wp2_with (go_at_call 66; refine (spills_any _ _ _ _ _ _ _ hk Y3.out Y4.out Y5.out).mono ?_; rintro e w1 ⟨rfl, hb⟩; obtain ⟨p, rfl⟩ := below_gw hb; clear hb; rw [HV.out])
        go_roundw
        case rel => exact ⟨k + 1, _, by omega, by go_num, rfl, ⟨by omega, by omega⟩, by rw [HS.out], (by repeat (first | assumption | exact Below.refl _ _ | apply bl_gw | apply bl_alloc | apply bl_drewN | apply bl_drew))⟩
        case measure => simp [intOf]; omega
      · go_wp2
        go_ret2
        obtain rfl : k = m := by omega
        exact ⟨by rw [HT.out]; rfl, hB0.trans (hbel.mono (by omega))⟩
  all_goals
    go_enter Try.func35, Try.ntmps35
    go_wp2_with (first | (go_at_call 24; refine (impl_AreBlows_any l m HN.out _ _ _ hl HC.out).mono ?_; rintro e w1 ⟨rfl, hb⟩; obtain ⟨p, rfl⟩ := below_gw hb; clear hb) | (go_at_call 50; refine (isLake_any _ _ _ _).mono ?_; rintro e w1 ⟨rfl, hb⟩; obtain ⟨p, rfl⟩ := below_gw hb; clear hb) | (go_at_call 58; refine (isHour_any _ _).mono ?_; rintro e w1 ⟨rfl, rfl⟩))
    go_ret2
    exact ⟨rfl, (by repeat (first | assumption | exact Below.refl _ _ | apply bl_gw | apply bl_alloc | apply bl_drewN | apply bl_drew))⟩
set_option maxHeartbeats 4000000 in
theorem spec_SpilledInAll_any (l : List Blow) (m : Nat) (hn : l.length = m) (A : Option Addr) (cap : Nat) (x n b : Int) (w : World) (hl : m ≤ 1048576) (hc : Sl encBlow w w.heap.size A l) :
    Calls Try.prog 34 #[.slice A m cap, .agg #[.int .i64 x, .int .i64 n, .int .i64 b]] w fun e w' => e = .returned (.tuple #[.int .i64 (allP l x n b).1, .bool (allP l x n b).2]) ∧ Below w.heap.size w w' := by
  have HC := Lib.hid (show Sl encBlow (w.alloc (.cells #[.int .i64 x, .int .i64 n, .int .i64 b] 24)) (w.alloc (.cells #[.int .i64 x, .int .i64 n, .int .i64 b] 24)).heap.size A l from hc.past (bl_alloc (Below.refl _ _) _)); clear hc
  have HN := Lib.hid hn; clear hn
  rcases sp2 (areBlows l) (lakeOK x n b) with t1 | ⟨t1, t2⟩ | ⟨t1, t2⟩
  case' inl => have hd : allP l x n b = (0, false) := by simp [allP, t1]
  case' inr.inl => have hd : allP l x n b = (0, false) := by simp [allP, t1, t2]
  case' inr.inr => have hd : allP l x n b = (sumSpill l x n b l.length, true) := by simp [allP, t1, t2]
  all_goals
    rw [hd]
    clear hd
  case inr.inr =>
    have hk := lakeOK_in t2
    have HT1 := Lib.hid t1
    rw [HN.out]
    have hm20 : m ≤ 20 := by have := areBlows_len t1; rw [HN.out] at this; exact this
    go_enter Try.func34, Try.ntmps34
    go_wp2_with (first | (go_at_call 61; refine (l19Both_any l m HN.out _ _ _ _ _ _ hl HC.out).mono ?_; rintro e w1 ⟨rfl, hb⟩; obtain ⟨p, rfl⟩ := below_gw hb; clear hb) | (go_at_call 51; refine (l1In_any _ _ _ _).mono ?_; rintro e w1 ⟨rfl, rfl⟩))
    refine wp_name (fun W0 hW0 => ?_)
    have hB0 : Below w.heap.size w W0 := by rw [hW0]; exact (by repeat (first | assumption | exact Below.refl _ _ | apply bl_gw | apply bl_alloc | apply bl_drewN | apply bl_drew))
    have HD := Lib.hid (show Sl encBlow W0 W0.heap.size A l by rw [hW0]; exact HC.out.past (by repeat (first | assumption | exact Below.refl _ _ | apply bl_gw | apply bl_alloc | apply bl_drewN | apply bl_drew)))
    have hz : w.heap.size < W0.heap.size := by rw [hW0]; simp; omega
    have L0 : W0.cell? ⟨w.heap.size, 0, none⟩ = some (.int .i64 x) := by rw [hW0]; simp [go_sem]
    have L1 : W0.cell? ⟨w.heap.size, 1, none⟩ = some (.int .i64 n) := by rw [hW0]; simp [go_sem]
    have L2 : W0.cell? ⟨w.heap.size, 2, none⟩ = some (.int .i64 b) := by rw [hW0]; simp [go_sem]
    clear hW0
    clear t1 t2
    go_loopw [6, 7] (fun h i wr => ∃ (k : Nat) (t : Int), k ≤ m ∧ i = .int .i64 k ∧ h = .int .i64 t ∧ (0 ≤ t ∧ t ≤ 300000 * k) ∧ t = sumSpill l x n b k ∧ Below W0.heap.size W0 wr) (fun _ i _ => m - (intOf i).toNat)
    case atStart => exact ⟨0, 0, Nat.zero_le _, rfl, rfl, ⟨by omega, by omega⟩, rfl, Below.refl _ _⟩
    case round =>
      obtain ⟨k, t, hkm, rfl, rfl, ⟨ht0, ht1⟩, ht, hbel⟩ := hrel
      have HT := Lib.hid ht; clear ht
      by_cases hlt : k < m
      · have hsz := hbel.size
        obtain ⟨bk, off, rfl, hb, hcs⟩ := HD.out.blow (by rw [HN.out]; omega)
        have hx : l[k]? = some (l[k]'(by rw [HN.out]; exact hlt)) := List.getElem?_eq_getElem _
        generalize l[k]'(by rw [HN.out]; exact hlt) = y at hx
        obtain ⟨c0, c1, c2⟩ := hcs k y hx
        clear hcs
        have HX := Lib.hid hx
        clear hx
        rw [← hbel.cell hb] at c0 c1 c2
        rw [← hbel.cell (p := ⟨w.heap.size, 0, none⟩) hz] at L0
        rw [← hbel.cell (p := ⟨w.heap.size, 1, none⟩) hz] at L1
        rw [← hbel.cell (p := ⟨w.heap.size, 2, none⟩) hz] at L2
        have hzr : w.heap.size < wr.heap.size := by omega
        have hbw : bk < wr.heap.size := by omega
        have k1 : (k : Int) < m := by omega
        obtain ⟨⟨y1, y2⟩, ⟨y3, y4⟩, ⟨y5, y6⟩⟩ := areBlows_at HT1.out HX.out
        have Y1 := Lib.hid y1; have Y2 := Lib.hid y2; have Y3 := Lib.hid y3; have Y4 := Lib.hid y4; have Y5 := Lib.hid y5; have Y6 := Lib.hid y6
        clear y1 y2 y3 y4 y5 y6
        have hsp := spillP_in (f := y.frm) hk Y3.out Y4.out
        have hstep : sumSpill l x n b (k + 1) = t + spillP x n b y.speed y.frm := by rw [HT.out]; simp [sumSpill, loopTo, List.getElem!_of_getElem? HX.out]
        obtain ⟨v, ev⟩ : ∃ v, spillP x n b y.speed y.frm = v := ⟨_, rfl⟩
        rw [ev] at hsp hstep
        have HV := Lib.hid ev
        have HS := Lib.hid hstep; clear hstep ev
        obtain ⟨v0, v1⟩ := hsp
        have k2 : (0 : Int) ≤ k := by omega
        have k3 : IntKind.i64.wrap (t + v) = t + v := IntWalk.i64_in _ (by omega)
        go_wp2
        refine wp_region_gw (by kernel_rfl) (by kernel_rfl) ?_
        repeat (first | go_big_quiet_step ((go_at_call 65; exact quiet_gw (v := .int .i64 v) ((l19Spills_any _ _ _ _ _ _ _ hk Y3.out Y4.out Y5.out).mono (fun _ _ ⟨he, hb⟩ => ⟨by rw [he, HV.out], hb⟩)))) | quiet_step ((go_at_call 65; exact quiet_gw (v := .int .i64 v) ((l19Spills_any _ _ _ _ _ _ _ hk Y3.out Y4.out Y5.out).mono (fun _ _ ⟨he, hb⟩ => ⟨by rw [he, HV.out], hb⟩)))))
        refine wpQuiet_nil ?_
        rintro _ ⟨pq, rfl⟩
        go_wp2
        go_roundw
        case rel => exact ⟨k + 1, _, by omega, by go_num, rfl, ⟨by omega, by omega⟩, by rw [HS.out], (by repeat (first | assumption | exact Below.refl _ _ | apply bl_gw | apply bl_alloc | apply bl_drewN | apply bl_drew))⟩
        case measure => simp [intOf]; omega
      · go_wp2
        go_ret2
        obtain rfl : k = m := by omega
        exact ⟨by rw [HT.out]; rfl, hB0.trans (hbel.mono (by omega))⟩
  all_goals
    go_enter Try.func34, Try.ntmps34
    go_wp2_with (first | (go_at_call 61; refine (l19Both_any l m HN.out _ _ _ _ _ _ hl HC.out).mono ?_; rintro e w1 ⟨rfl, hb⟩; obtain ⟨p, rfl⟩ := below_gw hb; clear hb) | (go_at_call 51; refine (l1In_any _ _ _ _).mono ?_; rintro e w1 ⟨rfl, rfl⟩))
    go_ret2
    exact ⟨rfl, (by repeat (first | assumption | exact Below.refl _ _ | apply bl_gw | apply bl_alloc | apply bl_drewN | apply bl_drew))⟩
end Go.Proofs.Ytopdbacgceoddaa
