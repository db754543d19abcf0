/- Marks in lists of Ship. -/
import Derived.Test.YtggdcjajiaeklaaShip
import Derived.Test.YtggdcjajiaeklaaTurn
namespace Go.Proofs.Ytggdcjajiaeklaa
open Go.RowKit
def markShip (s : Int) (n : Nat) : List Ship := (List.range n).map fun (i : Nat) => ⟨s + (i : Int) * 6, s + (i : Int) * 6 + 1, s + (i : Int) * 6 + 2, s + (i : Int) * 6 + 3, s + (i : Int) * 6 + 4, s + (i : Int) * 6 + 5⟩
theorem markShip_length (s : Int) (n : Nat) : (markShip s n).length = n := by simp [markShip]
theorem markShip_get (s : Int) (n k : Nat) (h : k < n) {m m1 m2 m3 m4 m5 : Int} (h0 : m = s + k * 6) (h1 : m + 1 = m1) (h2 : m1 + 1 = m2) (h3 : m2 + 1 = m3) (h4 : m3 + 1 = m4) (h5 : m4 + 1 = m5) : (markShip s n)[k]? = some ⟨m, m1, m2, m3, m4, m5⟩ := by
  have e : m1 = s + k * 6 + 1 ∧ m2 = s + k * 6 + 2 ∧ m3 = s + k * 6 + 3 ∧ m4 = s + k * 6 + 4 ∧ m5 = s + k * 6 + 5 := by omega
  obtain ⟨e1, e2, e3, e4, e5⟩ := e
  rw [h0, e1, e2, e3, e4, e5]
  simp [markShip, h]
set_option maxHeartbeats 4000000 in
theorem markShipS_own (n : Nat) (A : Option Addr) (c base : Nat) (l : List Ship) (s : Int) (w : World) (h0 : 0 ≤ s) (h1 : s ≤ 1000000000000) (hl : n ≤ 1000000000) (ho : Own encShip w base 25 (.slice A n c) l) :
    Calls Try.prog 24 #[.slice A n c, .int .i64 s] w fun e w' => e = .returned (.int .i64 (s + n * 6)) ∧ Turn A w w' ∧ Own encShip w' base 25 (.slice A n c) (markShip s n) := by
  have hcm := ho.capMax; unfold maxLen at hcm
  rcases ho.open_ with ⟨rfl, rfl⟩ | ⟨g, cs0, rfl, hbase, hblk0, hcs0, hnc, hcap⟩
  · have HO := Lib.hid ho; clear ho
    go_enter Try.func24, Try.ntmps24
    go_wp2
    go_loopw [5, 1] (fun i j wr => i = .int .i64 0 ∧ j = .int .i64 s ∧ wr = w) (fun i _ _ => 0)
    case atStart => exact ⟨rfl, rfl, rfl⟩
    case round =>
      obtain ⟨rfl, rfl, rfl⟩ := hrel
      go_wp2
      go_ret
      exact ⟨ret_int (by simp), Turn.refl, (by simpa [markShip] using (show l = [] from List.length_eq_zero_iff.1 HO.out.len) ▸ HO.out)⟩
  · clear ho
    have HC0 := Lib.hid hcs0; have HB0 := Lib.hid hblk0; clear hcs0 hblk0
    go_enter Try.func24, Try.ntmps24
    go_wp2
    go_loopw [5, 1] (fun i j wr => ∃ k : Nat, k ≤ n ∧ i = .int .i64 k ∧ j = .int .i64 (s + k * 6) ∧ Turn (some ⟨g, 0, none⟩) w wr ∧ ∃ cs, Blk wr g 25 cs ∧ cs.size = c * encShip.k ∧ ∀ j, j < k * encShip.k → cs[j]? = (flat encShip (markShip s n))[j]?) (fun i _ _ => n - (intOf i).toNat)
    case atStart => exact ⟨0, Nat.zero_le _, rfl, by simp, Turn.refl, cs0, HB0.out, HC0.out, fun j hj => absurd hj (by simp)⟩
    case round =>
      clear HB0 HC0
      obtain ⟨k, hk, rfl, rfl, ht, cs, hblk, hcs, hfill⟩ := hrel
      have hg := hblk.lt
      by_cases hlt : k < n
      · obtain ⟨m, hm⟩ : ∃ v, v = s + (k : Int) * 6 := ⟨_, rfl⟩
        have hb0 : 0 ≤ m ∧ m ≤ 100000000000000 := by omega
        obtain ⟨m1, e1⟩ : ∃ v, m + 1 = v := ⟨_, rfl⟩
        obtain ⟨m2, e2⟩ : ∃ v, m1 + 1 = v := ⟨_, rfl⟩
        obtain ⟨m3, e3⟩ : ∃ v, m2 + 1 = v := ⟨_, rfl⟩
        obtain ⟨m4, e4⟩ : ∃ v, m3 + 1 = v := ⟨_, rfl⟩
        obtain ⟨m5, e5⟩ : ∃ v, m4 + 1 = v := ⟨_, rfl⟩
        obtain ⟨m6, e6⟩ : ∃ v, m5 + 1 = v := ⟨_, rfl⟩
        rw [← hm]
        have w1 : IntKind.i64.wrap (m + 1) = m1 := by rw [← e1]; exact IntWalk.i64_in _ (by omega)
        have w2 : IntKind.i64.wrap (m1 + 1) = m2 := by rw [← e2]; exact IntWalk.i64_in _ (by omega)
        have w3 : IntKind.i64.wrap (m2 + 1) = m3 := by rw [← e3]; exact IntWalk.i64_in _ (by omega)
        have w4 : IntKind.i64.wrap (m3 + 1) = m4 := by rw [← e4]; exact IntWalk.i64_in _ (by omega)
        have w5 : IntKind.i64.wrap (m4 + 1) = m5 := by rw [← e5]; exact IntWalk.i64_in _ (by omega)
        have w6 : IntKind.i64.wrap (m5 + 1) = m6 := by rw [← e6]; exact IntWalk.i64_in _ (by omega)
        have hf := fill_step' hcs (show k < c by omega) (markShip_get s n k hlt hm e1 e2 e3 e4 e5) hfill
        have HF := Lib.hid hf
        have hcs' : cs.size = c * 6 := hcs
        have HT := Lib.hid ht
        have hend : m6 = s + ((k + 1 : Nat) : Int) * 6 := by omega
        have HE := Lib.hid hend
        obtain ⟨v0, c0⟩ := hblk.cell_some (i := k * 6) (by omega)
        have f0 := hblk.frozen (k * 6)
        obtain ⟨v1, c1⟩ := hblk.cell_some (i := k * 6 + 1) (by omega)
        have f1 := hblk.frozen (k * 6 + 1)
        obtain ⟨v2, c2⟩ := hblk.cell_some (i := k * 6 + 2) (by omega)
        have f2 := hblk.frozen (k * 6 + 2)
        obtain ⟨v3, c3⟩ := hblk.cell_some (i := k * 6 + 3) (by omega)
        have f3 := hblk.frozen (k * 6 + 3)
        obtain ⟨v4, c4⟩ := hblk.cell_some (i := k * 6 + 4) (by omega)
        have f4 := hblk.frozen (k * 6 + 4)
        obtain ⟨v5, c5⟩ := hblk.cell_some (i := k * 6 + 5) (by omega)
        have f5 := hblk.frozen (k * 6 + 5)
        have HBk := Lib.hid hblk
        have HCs := Lib.hid hcs
        clear hf hfill hblk hcs hcs' hm ht hend e1 e2 e3 e4 e5 e6
        go_wp2
        go_roundw
        case rel =>
          refine ⟨k + 1, by omega, by go_num, by rw [HE.out], ?_, _, ?_, ?_, HF.out⟩
          · have q := HT.out.put ((encShip.f ⟨m, m1, m2, m3, m4, m5⟩).map (Value.int .i64)) (k * encShip.k)
            exact q
          · have q := HBk.out.put ((encShip.f ⟨m, m1, m2, m3, m4, m5⟩).map (Value.int .i64)) (k * encShip.k)
            exact q
          · rw [setAll_size]; exact HCs.out
        case measure => simp [intOf]; omega
      · go_wp2
        go_ret
        obtain rfl : k = n := by omega
        exact ⟨rfl, ht, Own.of_marks hbase hblk (markShip_length _ _) hnc hcs hfill hcap⟩
set_option maxHeartbeats 4000000 in
theorem heldShipS_sl (n : Nat) (A : Option Addr) (c : Nat) (s : Int) (w : World) (h0 : 0 ≤ s) (h1 : s ≤ 1000000000000) (hl : n ≤ 1000000000) (hc : Sl encShip w w.heap.size A (markShip s n)) :
    Calls Try.prog 25 #[.slice A n c, .int .i64 s] w fun e w' => e = .returned (.int .i64 (s + n * 6)) ∧ Below w.heap.size w w' := by
  have HC := Lib.hid hc; clear hc
  go_enter Try.func25, Try.ntmps25
  go_wp2
  go_loopw [5, 1] (fun i j wr => ∃ k : Nat, k ≤ n ∧ i = .int .i64 k ∧ j = .int .i64 (s + k * 6) ∧ Below w.heap.size w wr) (fun i _ _ => n - (intOf i).toNat)
  case atStart => exact ⟨0, Nat.zero_le _, rfl, by simp, Below.refl _ _⟩
  case round =>
    obtain ⟨k, hk, rfl, rfl, hbel⟩ := hrel
    have hsz := hbel.size
    by_cases hlt : k < n
    · obtain ⟨m, hm⟩ : ∃ v, v = s + (k : Int) * 6 := ⟨_, rfl⟩
      have hb0 : 0 ≤ m ∧ m ≤ 100000000000000 := by omega
      obtain ⟨m1, e1⟩ : ∃ v, m + 1 = v := ⟨_, rfl⟩
      obtain ⟨m2, e2⟩ : ∃ v, m1 + 1 = v := ⟨_, rfl⟩
      obtain ⟨m3, e3⟩ : ∃ v, m2 + 1 = v := ⟨_, rfl⟩
      obtain ⟨m4, e4⟩ : ∃ v, m3 + 1 = v := ⟨_, rfl⟩
      obtain ⟨m5, e5⟩ : ∃ v, m4 + 1 = v := ⟨_, rfl⟩
      obtain ⟨m6, e6⟩ : ∃ v, m5 + 1 = v := ⟨_, rfl⟩
      rw [← hm]
      have w1 : IntKind.i64.wrap (m + 1) = m1 := by rw [← e1]; exact IntWalk.i64_in _ (by omega)
      have w2 : IntKind.i64.wrap (m1 + 1) = m2 := by rw [← e2]; exact IntWalk.i64_in _ (by omega)
      have w3 : IntKind.i64.wrap (m2 + 1) = m3 := by rw [← e3]; exact IntWalk.i64_in _ (by omega)
      have w4 : IntKind.i64.wrap (m3 + 1) = m4 := by rw [← e4]; exact IntWalk.i64_in _ (by omega)
      have w5 : IntKind.i64.wrap (m4 + 1) = m5 := by rw [← e5]; exact IntWalk.i64_in _ (by omega)
      have w6 : IntKind.i64.wrap (m5 + 1) = m6 := by rw [← e6]; exact IntWalk.i64_in _ (by omega)
      obtain ⟨b, off, rfl, hb, hcl⟩ := HC.out.ship (by rw [markShip_length]; omega)
      obtain ⟨c0, c1, c2, c3, c4, c5⟩ := hcl k _ (markShip_get s n k hlt hm e1 e2 e3 e4 e5)
      dsimp only at c0 c1 c2 c3 c4 c5
      rw [← hbel.cell hb] at c0 c1 c2 c3 c4 c5
      have hbw : b < wr.heap.size := by omega
      have HE := Lib.hid (show m6 = s + ((k + 1 : Nat) : Int) * 6 by omega)
      clear hm hcl e1 e2 e3 e4 e5 e6
      go_wp2
      go_roundw
      case rel => exact ⟨k + 1, by omega, by go_num, by rw [HE.out], (by repeat (first | assumption | exact Below.refl _ _ | apply bl_gw | apply bl_alloc | apply bl_drewN | apply bl_drew))⟩
      case measure => simp [intOf]; omega
    · go_wp2
      go_ret
      obtain rfl : k = n := by omega
      exact ⟨rfl, hbel⟩
end Go.Proofs.Ytggdcjajiaeklaa
