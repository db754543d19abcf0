/- Marks in lists of Bittern. -/
import Derived.Test.YtcajgadgdjopdaaBittern
import Derived.Test.YtcajgadgdjopdaaTurn
namespace Go.Proofs.Ytcajgadgdjopdaa
open Go.RowKit
def markBittern (s : Int) (n : Nat) : List Bittern := (List.range n).map fun (i : Nat) => ⟨s + (i : Int) * 3, s + (i : Int) * 3 + 1, s + (i : Int) * 3 + 2⟩
theorem markBittern_length (s : Int) (n : Nat) : (markBittern s n).length = n := by simp [markBittern]
theorem markBittern_get (s : Int) (n k : Nat) (h : k < n) {m m1 m2 : Int} (h0 : m = s + k * 3) (h1 : m + 1 = m1) (h2 : m1 + 1 = m2) : (markBittern s n)[k]? = some ⟨m, m1, m2⟩ := by
  have e : m1 = s + k * 3 + 1 ∧ m2 = s + k * 3 + 2 := by omega
  obtain ⟨e1, e2⟩ := e
  rw [h0, e1, e2]
  simp [markBittern, h]
set_option maxHeartbeats 4000000 in
theorem markBitternS_own (n : Nat) (A : Option Addr) (c base : Nat) (l : List Bittern) (s : Int) (w : World) (h0 : 0 ≤ s) (h1 : s ≤ 1000000000000) (hl : n ≤ 1000000000) (ho : Own encBittern w base 69 (.slice A n c) l) :
    Calls Try.prog 26 #[.slice A n c, .int .i64 s] w fun e w' => e = .returned (.int .i64 (s + n * 3)) ∧ Turn A w w' ∧ Own encBittern w' base 69 (.slice A n c) (markBittern s n) := by
  have hcm := ho.capMax; unfold maxLen at hcm
  rcases ho.open_ with ⟨rfl, rfl⟩ | ⟨g, cs0, rfl, hbase, hblk0, hcs0, hnc, hcap⟩
  · have HO := Lib.hid ho; clear ho
    go_enter Try.func26, Try.ntmps26
    go_wp2
    go_loopw [5, 1] (fun i j wr => i = .int .i64 0 ∧ j = .int .i64 s ∧ wr = w) (fun i _ _ => 0)
    case atStart => exact ⟨rfl, rfl, rfl⟩
    case round =>
      obtain ⟨rfl, rfl, rfl⟩ := hrel
      go_wp2
      go_ret
      exact ⟨ret_int (by simp), Turn.refl, (by simpa [markBittern] using (show l = [] from List.length_eq_zero_iff.1 HO.out.len) ▸ HO.out)⟩
  · clear ho
    have HC0 := Lib.hid hcs0; have HB0 := Lib.hid hblk0; clear hcs0 hblk0
    go_enter Try.func26, Try.ntmps26
    go_wp2
    go_loopw [5, 1] (fun i j wr => ∃ k : Nat, k ≤ n ∧ i = .int .i64 k ∧ j = .int .i64 (s + k * 3) ∧ Turn (some ⟨g, 0, none⟩) w wr ∧ ∃ cs, Blk wr g 69 cs ∧ cs.size = c * encBittern.k ∧ ∀ j, j < k * encBittern.k → cs[j]? = (flat encBittern (markBittern s n))[j]?) (fun i _ _ => n - (intOf i).toNat)
    case atStart => exact ⟨0, Nat.zero_le _, rfl, by simp, Turn.refl, cs0, HB0.out, HC0.out, fun j hj => absurd hj (by simp)⟩
    case round =>
      clear HB0 HC0
      obtain ⟨k, hk, rfl, rfl, ht, cs, hblk, hcs, hfill⟩ := hrel
      have hg := hblk.lt
      by_cases hlt : k < n
      · obtain ⟨m, hm⟩ : ∃ v, v = s + (k : Int) * 3 := ⟨_, rfl⟩
        have hb0 : 0 ≤ m ∧ m ≤ 100000000000000 := by omega
        obtain ⟨m1, e1⟩ : ∃ v, m + 1 = v := ⟨_, rfl⟩
        obtain ⟨m2, e2⟩ : ∃ v, m1 + 1 = v := ⟨_, rfl⟩
        obtain ⟨m3, e3⟩ : ∃ v, m2 + 1 = v := ⟨_, rfl⟩
        rw [← hm]
        have w1 : IntKind.i64.wrap (m + 1) = m1 := by rw [← e1]; exact IntWalk.i64_in _ (by omega)
        have w2 : IntKind.i64.wrap (m1 + 1) = m2 := by rw [← e2]; exact IntWalk.i64_in _ (by omega)
        have w3 : IntKind.i64.wrap (m2 + 1) = m3 := by rw [← e3]; exact IntWalk.i64_in _ (by omega)
        have hf := fill_step' hcs (show k < c by omega) (markBittern_get s n k hlt hm e1 e2) hfill
        have HF := Lib.hid hf
        have hcs' : cs.size = c * 3 := hcs
        have HT := Lib.hid ht
        have hend : m3 = s + ((k + 1 : Nat) : Int) * 3 := by omega
        have HE := Lib.hid hend
        obtain ⟨v0, c0⟩ := hblk.cell_some (i := k * 3) (by omega)
        have f0 := hblk.frozen (k * 3)
        obtain ⟨v1, c1⟩ := hblk.cell_some (i := k * 3 + 1) (by omega)
        have f1 := hblk.frozen (k * 3 + 1)
        obtain ⟨v2, c2⟩ := hblk.cell_some (i := k * 3 + 2) (by omega)
        have f2 := hblk.frozen (k * 3 + 2)
        have HBk := Lib.hid hblk
        have HCs := Lib.hid hcs
        clear hf hfill hblk hcs hcs' hm ht hend e1 e2 e3
        go_wp2
        go_roundw
        case rel =>
          refine ⟨k + 1, by omega, by go_num, by rw [HE.out], ?_, _, ?_, ?_, HF.out⟩
          · have q := HT.out.put ((encBittern.f ⟨m, m1, m2⟩).map (Value.int .i64)) (k * encBittern.k)
            exact q
          · have q := HBk.out.put ((encBittern.f ⟨m, m1, m2⟩).map (Value.int .i64)) (k * encBittern.k)
            exact q
          · rw [setAll_size]; exact HCs.out
        case measure => simp [intOf]; omega
      · go_wp2
        go_ret
        obtain rfl : k = n := by omega
        exact ⟨rfl, ht, Own.of_marks hbase hblk (markBittern_length _ _) hnc hcs hfill hcap⟩
set_option maxHeartbeats 4000000 in
theorem heldBitternS_sl (n : Nat) (A : Option Addr) (c : Nat) (s : Int) (w : World) (h0 : 0 ≤ s) (h1 : s ≤ 1000000000000) (hl : n ≤ 1000000000) (hc : Sl encBittern w w.heap.size A (markBittern s n)) :
    Calls Try.prog 27 #[.slice A n c, .int .i64 s] w fun e w' => e = .returned (.int .i64 (s + n * 3)) ∧ Below w.heap.size w w' := by
  have HC := Lib.hid hc; clear hc
  go_enter Try.func27, Try.ntmps27
  go_wp2
  go_loopw [5, 1] (fun i j wr => ∃ k : Nat, k ≤ n ∧ i = .int .i64 k ∧ j = .int .i64 (s + k * 3) ∧ Below w.heap.size w wr) (fun i _ _ => n - (intOf i).toNat)
  case atStart => exact ⟨0, Nat.zero_le _, rfl, by simp, Below.refl _ _⟩
  case round =>
    obtain ⟨k, hk, rfl, rfl, hbel⟩ := hrel
    have hsz := hbel.size
    by_cases hlt : k < n
    · obtain ⟨m, hm⟩ : ∃ v, v = s + (k : Int) * 3 := ⟨_, rfl⟩
      have hb0 : 0 ≤ m ∧ m ≤ 100000000000000 := by omega
      obtain ⟨m1, e1⟩ : ∃ v, m + 1 = v := ⟨_, rfl⟩
      obtain ⟨m2, e2⟩ : ∃ v, m1 + 1 = v := ⟨_, rfl⟩
      obtain ⟨m3, e3⟩ : ∃ v, m2 + 1 = v := ⟨_, rfl⟩
      rw [← hm]
      have w1 : IntKind.i64.wrap (m + 1) = m1 := by rw [← e1]; exact IntWalk.i64_in _ (by omega)
      have w2 : IntKind.i64.wrap (m1 + 1) = m2 := by rw [← e2]; exact IntWalk.i64_in _ (by omega)
      have w3 : IntKind.i64.wrap (m2 + 1) = m3 := by rw [← e3]; exact IntWalk.i64_in _ (by omega)
      obtain ⟨b, off, rfl, hb, hcl⟩ := HC.out.bittern (by rw [markBittern_length]; omega)
      obtain ⟨c0, c1, c2⟩ := hcl k _ (markBittern_get s n k hlt hm e1 e2)
      dsimp only at c0 c1 c2
      rw [← hbel.cell hb] at c0 c1 c2
      have hbw : b < wr.heap.size := by omega
      have HE := Lib.hid (show m3 = s + ((k + 1 : Nat) : Int) * 3 by omega)
      clear hm hcl e1 e2 e3
      go_wp2
      go_roundw
      case rel => exact ⟨k + 1, by omega, by go_num, by rw [HE.out], (by repeat (first | assumption | exact Below.refl _ _ | apply bl_gw | apply bl_alloc | apply bl_drewN | apply bl_drew))⟩
      case measure => simp [intOf]; omega
    · go_wp2
      go_ret
      obtain rfl : k = n := by omega
      exact ⟨rfl, hbel⟩
end Go.Proofs.Ytcajgadgdjopdaa
