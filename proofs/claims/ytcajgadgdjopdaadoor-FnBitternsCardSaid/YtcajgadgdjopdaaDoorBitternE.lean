/- Casks of bittern: the bitterest cask. -/
import Derived.Test.YtcajgadgdjopdaaDoorBitternD
namespace Go.Proofs.YtcajgadgdjopdaaDoor
open Go.RowKit
/-- The bitterest of the first k casks that hold something: its id and bitterness. -/
def bitA (l : List Bittern) (k : Nat) : Int × Int := loopTo (fun i s => if 0 < l[i]!.kilos ∧ s.2 < l[i]!.bitter then (l[i]!.id, l[i]!.bitter) else s) (0, -1) k
theorem bitA_succ (l : List Bittern) (k : Nat) : bitA l (k + 1) = if 0 < l[k]!.kilos ∧ (bitA l k).2 < l[k]!.bitter then (l[k]!.id, l[k]!.bitter) else bitA l k := rfl
def bestB (l : List Bittern) : Int := if areBitterns l then (bitA l l.length).1 else 0
def bestBOK (l : List Bittern) : Bool := areBitterns l && decide (0 < (bitA l l.length).1)
theorem someB_at {l : List Bittern} {k : Nat} (h : k < l.length) : l[k]? = some l[k]! := by rw [getElem!_pos l k h]; exact List.getElem?_eq_getElem _
set_option maxHeartbeats 4000000 in
theorem impl_BitterestCask_any (l : List Bittern) (n : Nat) (hn : l.length = n) (A : Option Addr) (cap : Nat) (w : World) (hl : n ≤ 1048576) (hc : Sl encBittern w w.heap.size A l) :
    Calls Tryd.prog 13 #[.slice A n cap] w fun e w' => e = .returned (.tuple #[.int .i64 (bestB l), .bool (bestBOK l)]) ∧ Below w.heap.size w w' := by
  have HC := Lib.hid hc; clear hc
  have HN := Lib.hid hn; clear hn
  cases t : areBitterns l
  · have e1 : bestB l = 0 := by unfold bestB; rw [t]; rfl
    have e2 : bestBOK l = false := by unfold bestBOK; rw [t]; rfl
    rw [e1, e2]
    have HT := Lib.hid t
    clear t e1 e2
    go_enter Tryd.func13, Tryd.ntmps13
    go_wp2_with (go_at_call 23; refine (impl_AreBitterns_any l n HN.out _ _ _ hl HC.out).mono ?_; rintro e w1 ⟨rfl, hb⟩; rw [HT.out]; obtain ⟨p, rfl⟩ := below_gw hb; clear hb)
    go_ret2
    exact ⟨rfl, (by repeat (first | assumption | exact Below.refl _ _ | apply bl_gw | apply bl_alloc | apply bl_drewN | apply bl_drew))⟩
  · have e1 : bestB l = (bitA l n).1 := by unfold bestB; rw [t, HN.out]; rfl
    have e2 : bestBOK l = decide (0 < (bitA l n).1) := by unfold bestBOK; rw [t, HN.out]; rfl
    rw [e1, e2]
    have HT := Lib.hid t
    clear t e1 e2
    go_enter Tryd.func13, Tryd.ntmps13
    go_wp2_with (go_at_call 23; refine (impl_AreBitterns_any l n HN.out _ _ _ hl HC.out).mono ?_; rintro e w1 ⟨rfl, hb⟩; rw [HT.out]; obtain ⟨p, rfl⟩ := below_gw hb; clear hb)
    go_loopw [4, 5, 13] (fun dv mv iv wr => ∃ k : Nat, k ≤ n ∧ iv = .int .i64 k ∧ dv = .int .i64 (bitA l k).1 ∧ mv = .int .i64 (bitA l k).2 ∧ Below w.heap.size w wr) (fun _ _ iv _ => n - (intOf iv).toNat)
    case atStart => exact ⟨0, Nat.zero_le _, rfl, rfl, rfl, (by repeat (first | assumption | exact Below.refl _ _ | apply bl_gw | apply bl_alloc | apply bl_drewN | apply bl_drew))⟩
    case round =>
      obtain ⟨k, hk, rfl, rfl, rfl, hbel⟩ := hrel
      have hsz := hbel.size
      by_cases hlt : k < n
      · obtain ⟨b, off, rfl, hb, hcs⟩ := HC.out.bittern (by rw [HN.out]; omega)
        have hx := someB_at (l := l) (k := k) (by rw [HN.out]; exact hlt)
        obtain ⟨c0, c1, c2⟩ := hcs k _ hx
        have h1 := bitA_succ l k
        generalize l[k]! = x at c0 c1 c2 h1
        obtain ⟨x1, x2, x3⟩ := x
        dsimp only at c0 c1 c2 h1
        obtain ⟨⟨s, t⟩, hst⟩ : ∃ s, bitA l k = s := ⟨_, rfl⟩
        rw [hst] at h1 ⊢
        dsimp only at h1 ⊢
        rw [← hbel.cell hb] at c0 c1 c2
        have hbw : b < wr.heap.size := by omega
        have k1 : (k : Int) < n := by omega
        have k2 : (0 : Int) ≤ k := by omega
        clear hcs hx hst
        by_cases q1 : 0 < x2
        · by_cases q2 : t < x3
          · rw [if_pos ⟨q1, q2⟩] at h1
            have H1 := Lib.hid h1
            clear h1
            go_wp2
            refine wp_region_gw (by kernel_rfl) (by kernel_rfl) ?_
            repeat (first | go_big_quiet_step (fail) | quiet_step (fail))
            refine wpQuiet_nil ?_
            rintro _ ⟨pq, rfl⟩
            go_wp2
            go_roundw
            case rel => exact ⟨k + 1, by omega, by go_num, by rw [H1.out], by rw [H1.out], (by repeat (first | assumption | exact Below.refl _ _ | apply bl_gw | apply bl_alloc | apply bl_drewN | apply bl_drew))⟩
            case measure => simp [intOf]; omega
          · rw [if_neg (fun h => q2 h.2)] at h1
            have H1 := Lib.hid h1
            clear h1
            go_wp2
            go_roundw
            case rel => exact ⟨k + 1, by omega, by go_num, by rw [H1.out], by rw [H1.out], (by repeat (first | assumption | exact Below.refl _ _ | apply bl_gw | apply bl_alloc | apply bl_drewN | apply bl_drew))⟩
            case measure => simp [intOf]; omega
        · rw [if_neg (fun h => q1 h.1)] at h1
          have H1 := Lib.hid h1
          clear h1
          go_wp2
          go_roundw
          case rel => exact ⟨k + 1, by omega, by go_num, by rw [H1.out], by rw [H1.out], (by repeat (first | assumption | exact Below.refl _ _ | apply bl_gw | apply bl_alloc | apply bl_drewN | apply bl_drew))⟩
          case measure => simp [intOf]; omega
      · obtain rfl : k = n := by omega
        go_wp2
        go_ret2
        exact ⟨rfl, hbel⟩
set_option maxHeartbeats 4000000 in
theorem spec_BitterestCask_any (l : List Bittern) (n : Nat) (hn : l.length = n) (A : Option Addr) (cap : Nat) (w : World) (hl : n ≤ 1048576) (hc : Sl encBittern w w.heap.size A l) :
    Calls Tryd.prog 14 #[.slice A n cap] w fun e w' => e = .returned (.tuple #[.int .i64 (bestB l), .bool (bestBOK l)]) ∧ Below w.heap.size w w' := by
  have HC := Lib.hid hc; clear hc
  have HN := Lib.hid hn; clear hn
  cases t : areBitterns l
  · have e1 : bestB l = 0 := by unfold bestB; rw [t]; rfl
    have e2 : bestBOK l = false := by unfold bestBOK; rw [t]; rfl
    rw [e1, e2]
    have HT := Lib.hid t
    clear t e1 e2
    go_enter Tryd.func14, Tryd.ntmps14
    go_wp2_with (go_at_call 27; refine (l15Good_any l n HN.out _ _ _ hl HC.out).mono ?_; rintro e w1 ⟨rfl, hb⟩; rw [HT.out]; obtain ⟨p, rfl⟩ := below_gw hb; clear hb)
    go_ret2
    exact ⟨rfl, (by repeat (first | assumption | exact Below.refl _ _ | apply bl_gw | apply bl_alloc | apply bl_drewN | apply bl_drew))⟩
  · have e1 : bestB l = (bitA l n).1 := by unfold bestB; rw [t, HN.out]; rfl
    have e2 : bestBOK l = decide (0 < (bitA l n).1) := by unfold bestBOK; rw [t, HN.out]; rfl
    rw [e1, e2]
    have HT := Lib.hid t
    clear t e1 e2
    go_enter Tryd.func14, Tryd.ntmps14
    go_wp2_with (go_at_call 27; refine (l15Good_any l n HN.out _ _ _ hl HC.out).mono ?_; rintro e w1 ⟨rfl, hb⟩; rw [HT.out]; obtain ⟨p, rfl⟩ := below_gw hb; clear hb)
    go_loopw [4, 5] (fun bv iv wr => ∃ (k : Nat) (b : Int), k ≤ n ∧ iv = .int .i64 k ∧ bv = .int .i64 b ∧ ((b = -1 ∧ bitA l k = (0, -1)) ∨ ∃ p : Nat, b = p ∧ p < k ∧ bitA l k = (l[p]!.id, l[p]!.bitter)) ∧ Below w.heap.size w wr) (fun _ iv _ => n - (intOf iv).toNat)
    case atStart => exact ⟨0, -1, Nat.zero_le _, rfl, rfl, Or.inl ⟨rfl, rfl⟩, (by repeat (first | assumption | exact Below.refl _ _ | apply bl_gw | apply bl_alloc | apply bl_drewN | apply bl_drew))⟩
    case round =>
      obtain ⟨k, bb, hk, rfl, rfl, hbb, hbel⟩ := hrel
      have hsz := hbel.size
      by_cases hlt : k < n
      · obtain ⟨b, off, rfl, hb, hcs⟩ := HC.out.bittern (by rw [HN.out]; omega)
        have hx := someB_at (l := l) (k := k) (by rw [HN.out]; exact hlt)
        obtain ⟨c0, c1, c2⟩ := hcs k _ hx
        have h1 := bitA_succ l k
        have hr := (bitternOK_at (areBitterns_ok HT.out hx)).2.2
        have hkk : (l[k]!.id, l[k]!.bitter) = (l[k]!.id, l[k]!.bitter) := rfl
        obtain ⟨y, hy⟩ : ∃ y, l[k]! = y := ⟨_, rfl⟩
        rw [hy] at c0 c1 c2 h1 hr
        obtain ⟨x1, x2, x3⟩ := y
        dsimp only at c0 c1 c2 h1 hr
        rw [← hbel.cell hb] at c0 c1 c2
        have HY := Lib.hid (show (l[k]!.id, l[k]!.bitter) = (x1, x3) by rw [hy])
        have hbw : b < wr.heap.size := by omega
        have k1 : (k : Int) < n := by omega
        have k2 : (0 : Int) ≤ k := by omega
        clear hx hy hkk
        rcases hbb with ⟨rfl, hA⟩ | ⟨p, rfl, hp, hA⟩
        · rw [hA] at h1
          dsimp only at h1
          have HA := Lib.hid hA
          clear hA hcs
          by_cases q1 : 0 < x2
          · rw [if_pos ⟨q1, by omega⟩] at h1
            have H1 := Lib.hid h1
            have dq : decide (0 < x2) = true := decide_eq_true q1
            clear h1
            go_wp2
            refine wp_region_gw (by kernel_rfl) (by kernel_rfl) ?_
            repeat (first | go_big_quiet_step (fail) | quiet_step (fail))
            refine wpQuiet_nil ?_
            rintro _ ⟨pq, rfl⟩
            go_wp2
            go_roundw
            case rel => exact ⟨k + 1, k, by omega, by go_num, rfl, Or.inr ⟨k, rfl, by omega, by rw [H1.out, HY.out]⟩, (by repeat (first | assumption | exact Below.refl _ _ | apply bl_gw | apply bl_alloc | apply bl_drewN | apply bl_drew))⟩
            case measure => simp [intOf]; omega
          · rw [if_neg (fun h => q1 h.1)] at h1
            have H1 := Lib.hid h1
            have dq : decide (0 < x2) = false := decide_eq_false q1
            clear h1
            go_wp2
            refine wp_region_gw (by kernel_rfl) (by kernel_rfl) ?_
            repeat (first | go_big_quiet_step (fail) | quiet_step (fail))
            refine wpQuiet_nil ?_
            rintro _ ⟨pq, rfl⟩
            go_wp2
            go_roundw
            case rel => exact ⟨k + 1, -1, by omega, by go_num, rfl, Or.inl ⟨rfl, H1.out⟩, (by repeat (first | assumption | exact Below.refl _ _ | apply bl_gw | apply bl_alloc | apply bl_drewN | apply bl_drew))⟩
            case measure => simp [intOf]; omega
        · have hz := someB_at (l := l) (k := p) (by rw [HN.out]; omega)
          obtain ⟨d0, d1, d2⟩ := hcs p _ hz
          rw [hA] at h1
          dsimp only at h1
          have HA := Lib.hid hA
          obtain ⟨u, hu⟩ : ∃ u, l[p]!.bitter = u := ⟨_, rfl⟩
          rw [hu] at h1 d2
          have HU := Lib.hid hu
          rw [← hbel.cell hb] at d2
          have p1 : (p : Int) < n := by omega
          have p2 : (0 : Int) ≤ p := by omega
          have p3 : ¬ (p : Int) < 0 := by omega
          have p4 : decide ((p : Int) < 0) = false := decide_eq_false p3
          clear hA hcs d0 d1 hz hu
          by_cases q1 : 0 < x2
          · have dq : decide (0 < x2) = true := decide_eq_true q1
            by_cases q2 : u < x3
            · rw [if_pos ⟨q1, q2⟩] at h1
              have H1 := Lib.hid h1
              have dq2 : decide (u < x3) = true := decide_eq_true q2
              clear h1
              go_wp2
              refine wp_region_gw (by kernel_rfl) (by kernel_rfl) ?_
              repeat (first | go_big_quiet_step (fail) | quiet_step (fail))
              refine wpQuiet_nil ?_
              rintro _ ⟨pq, rfl⟩
              go_wp2
              go_roundw
              case rel => exact ⟨k + 1, k, by omega, by go_num, rfl, Or.inr ⟨k, rfl, by omega, by rw [H1.out, HY.out]⟩, (by repeat (first | assumption | exact Below.refl _ _ | apply bl_gw | apply bl_alloc | apply bl_drewN | apply bl_drew))⟩
              case measure => simp [intOf]; omega
            · rw [if_neg (fun h => q2 h.2)] at h1
              have H1 := Lib.hid h1
              have dq2 : decide (u < x3) = false := decide_eq_false q2
              clear h1
              go_wp2
              refine wp_region_gw (by kernel_rfl) (by kernel_rfl) ?_
              repeat (first | go_big_quiet_step (fail) | quiet_step (fail))
              refine wpQuiet_nil ?_
              rintro _ ⟨pq, rfl⟩
              go_wp2
              go_roundw
              case rel => exact ⟨k + 1, p, by omega, by go_num, rfl, Or.inr ⟨p, rfl, by omega, by rw [H1.out, HU.out]⟩, (by repeat (first | assumption | exact Below.refl _ _ | apply bl_gw | apply bl_alloc | apply bl_drewN | apply bl_drew))⟩
              case measure => simp [intOf]; omega
          · rw [if_neg (fun h => q1 h.1)] at h1
            have H1 := Lib.hid h1
            have dq : decide (0 < x2) = false := decide_eq_false q1
            clear h1
            go_wp2
            refine wp_region_gw (by kernel_rfl) (by kernel_rfl) ?_
            repeat (first | go_big_quiet_step (fail) | quiet_step (fail))
            refine wpQuiet_nil ?_
            rintro _ ⟨pq, rfl⟩
            go_wp2
            go_roundw
            case rel => exact ⟨k + 1, p, by omega, by go_num, rfl, Or.inr ⟨p, rfl, by omega, by rw [H1.out, HU.out]⟩, (by repeat (first | assumption | exact Below.refl _ _ | apply bl_gw | apply bl_alloc | apply bl_drewN | apply bl_drew))⟩
            case measure => simp [intOf]; omega
      · obtain rfl : k = n := by omega
        rcases hbb with ⟨rfl, hA⟩ | ⟨p, rfl, hp, hA⟩
        · have HA := Lib.hid hA
          clear hA
          go_wp2
          go_ret2
          exact ⟨by rw [HA.out]; first | rfl | (simp; done), hbel⟩
        · obtain ⟨b, off, rfl, hb, hcs⟩ := HC.out.bittern (by rw [HN.out]; omega)
          have hz := someB_at (l := l) (k := p) (by rw [HN.out]; omega)
          obtain ⟨d0, _, _⟩ := hcs p _ hz
          have hr := (bitternOK_at (areBitterns_ok HT.out hz)).1
          obtain ⟨u, hu⟩ : ∃ u, l[p]!.id = u := ⟨_, rfl⟩
          rw [hu] at d0 hr hA
          have HA := Lib.hid hA
          rw [← hbel.cell hb] at d0
          have hbw : b < wr.heap.size := by omega
          have p1 : (p : Int) < k := by omega
          have p2 : (0 : Int) ≤ p := by omega
          have p3 : ¬ (p : Int) < 0 := by omega
          have Q3 := Lib.hid (show decide (0 < u) = true from decide_eq_true (by omega))
          clear hA hcs hz hu
          go_wp2
          go_ret2
          exact ⟨by rw [HA.out]; dsimp only; rw [Q3.out]; first | rfl | (simp; done), hbel⟩
end Go.Proofs.YtcajgadgdjopdaaDoor
