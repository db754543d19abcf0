/- Walks of casks: the place of a ship in a list. -/
import Derived.Test.YtcajgadgdjopdaaBitternA
namespace Go.Proofs.Ytcajgadgdjopdaa
open Go.RowKit
def isAt (l : List Bittern) (id : Int) (i : Nat) : Bool := decide (l[i]!.id = id)
def placeOf (o : Option Nat) : Int := match o with | some k => k | none => -1
def bitPlace (l : List Bittern) (id : Int) : Int := placeOf (firstTo (isAt l id) l.length)
set_option maxHeartbeats 1000000 in
theorem bitAt1_any (a b c id : Int) (B : Nat) (w : World) (hB : B < w.heap.size) (hid : w.cell? ⟨B, 0, none⟩ = some (.int .i64 id)) :
    Calls Try.prog 83 #[.agg #[.int .i64 a, .int .i64 b, .int .i64 c], .pointer (some ⟨B, 0, none⟩)] w fun x w' => x = .returned (.bool (decide (a = id))) ∧ Below w.heap.size w w' := by
  go_enter Try.func83, Try.ntmps83
  go_wp2
  go_ret
  exact ⟨rfl, (by repeat (first | assumption | exact Below.refl _ _ | apply bl_gw | apply bl_alloc | apply bl_drewN | apply bl_drew))⟩
set_option maxHeartbeats 4000000 in
theorem indexBit_any (l : List Bittern) (n : Nat) (hn : l.length = n) (A : Option Addr) (cap : Nat) (id : Int) (B : Nat) (w : World) (hB : B < w.heap.size) (hid : w.cell? ⟨B, 0, none⟩ = some (.int .i64 id)) (hl : n ≤ 1048576) (hc : Sl encBittern w w.heap.size A l) :
    Calls Try.prog 82 #[.slice A n cap, .func (.func 83) #[] #[.pointer (some ⟨B, 0, none⟩)]] w fun e w' => e = .returned (.int .i64 (bitPlace l id)) ∧ Below w.heap.size w w' := by
  have HC := Lib.hid hc; clear hc
  have HN := Lib.hid hn; clear hn
  go_enter Try.func82, Try.ntmps82
  go_wp2
  go_loopw [8] (fun i wr => ∃ k : Nat, k ≤ n ∧ i = .int .i64 k ∧ firstTo (isAt l id) k = none ∧ Below w.heap.size w wr) (fun i _ => n - (intOf i).toNat)
  case atStart => exact ⟨0, Nat.zero_le _, rfl, rfl, Below.refl _ _⟩
  case round =>
    obtain ⟨k, hk, rfl, hall, hbel⟩ := hrel
    have HA := Lib.hid hall; clear hall
    have hsz := hbel.size
    by_cases hlt : k < n
    · obtain ⟨b, off, rfl, hb, hcs⟩ := HC.out.bittern (by rw [HN.out]; omega)
      have hx : l[k]? = some (l[k]'(by rw [HN.out]; exact hlt)) := List.getElem?_eq_getElem _
      generalize l[k]'(by rw [HN.out]; exact hlt) = x at hx
      obtain ⟨c0, c1, c2⟩ := hcs k x hx
      clear hcs
      have hbad : isAt l id k = decide (x.id = id) := by simp [isAt, hx]
      clear hx
      rw [← hbel.cell hb] at c0 c1 c2
      rw [← hbel.cell (p := ⟨B, 0, none⟩) hB] at hid
      have hbw : b < wr.heap.size := by omega
      have hBw : B < wr.heap.size := by omega
      have HX := Lib.hid (show isAt l id k = true → bitPlace l id = k from fun h => by
        simp [bitPlace, firstTo_hit HA.out h l.length (by rw [HN.out]; exact hlt), placeOf])
      have HY := Lib.hid (show isAt l id k = false → firstTo (isAt l id) (k + 1) = none from fun h => firstTo_miss HA.out h)
      have HB := Lib.hid hbad
      clear hbad
      have k1 : (k : Int) < n := by omega
      have k2 : (0 : Int) ≤ (k : Int) := by omega
      rcases Bool.eq_false_or_eq_true (decide (x.id = id)) with hq | hq
      · have HQ := Lib.hid hq; clear hq
        go_wp2_with (go_at_call 83; refine (bitAt1_any _ _ _ _ _ _ hBw hid).mono ?_; rintro e w1 ⟨rfl, hb1⟩; obtain ⟨p, rfl⟩ := below_gw hb1; clear hb1; rw [HQ.out])
        go_ret
        rw [HX.out (by rw [HB.out]; exact HQ.out)]
        exact ⟨rfl, (by repeat (first | assumption | exact Below.refl _ _ | apply bl_gw | apply bl_alloc | apply bl_drewN | apply bl_drew))⟩
      · have HQ := Lib.hid hq; clear hq
        go_wp2_with (go_at_call 83; refine (bitAt1_any _ _ _ _ _ _ hBw hid).mono ?_; rintro e w1 ⟨rfl, hb1⟩; obtain ⟨p, rfl⟩ := below_gw hb1; clear hb1; rw [HQ.out])
        go_roundw
        case rel => exact ⟨k + 1, by omega, by go_num, HY.out (by rw [HB.out]; exact HQ.out), (by repeat (first | assumption | exact Below.refl _ _ | apply bl_gw | apply bl_alloc | apply bl_drewN | apply bl_drew))⟩
        case measure => simp [intOf]; omega
    · go_wp2
      go_ret
      obtain rfl : k = n := by omega
      refine ⟨?_, hbel⟩
      rw [bitPlace, HN.out, HA.out]
      rfl
set_option maxHeartbeats 4000000 in
theorem bitternAt_any (l : List Bittern) (n : Nat) (hn : l.length = n) (A : Option Addr) (cap : Nat) (id : Int) (w : World) (hl : n ≤ 1048576) (hc : Sl encBittern w w.heap.size A l) :
    Calls Try.prog 57 #[.slice A n cap, .int .i64 id] w fun e w' => e = .returned (.int .i64 (bitPlace l id)) ∧ Below w.heap.size w w' := by
  have HC := Lib.hid hc; clear hc
  have HN := Lib.hid hn; clear hn
  go_enter Try.func57, Try.ntmps57
  go_wp2_with ((go_at_call 82; refine (indexBit_any l n HN.out A cap id w.heap.size _ (by simp) (by simp [go_sem]) hl (HC.out.past (bl_alloc (Below.refl _ _) _))).mono ?_; rintro e w1 ⟨rfl, hb1⟩; obtain ⟨p, rfl⟩ := below_gw hb1; clear hb1))
  go_ret
  exact ⟨rfl, (by repeat (first | assumption | exact Below.refl _ _ | apply bl_gw | apply bl_alloc | apply bl_drewN | apply bl_drew))⟩
end Go.Proofs.Ytcajgadgdjopdaa
