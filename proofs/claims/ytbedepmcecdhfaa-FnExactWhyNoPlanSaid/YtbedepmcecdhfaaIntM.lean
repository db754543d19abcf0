/- Marks in lists of Int. -/
import Derived.Test.YtbedepmcecdhfaaInts
import Derived.Test.YtbedepmcecdhfaaTurn
namespace Go.Proofs.Ytbedepmcecdhfaa
open Go.RowKit
def markInt (s : Int) (n : Nat) : List Int := (List.range n).map fun (i : Nat) => s + (i : Int) * 1
theorem markInt_length (s : Int) (n : Nat) : (markInt s n).length = n := by simp [markInt]
theorem markInt_get (s : Int) (n k : Nat) (h : k < n) {m : Int} (h0 : m = s + k * 1)  : (markInt s n)[k]? = some m := by
  rw [h0]
  simp [markInt, h]
set_option maxHeartbeats 4000000 in
theorem markIntS_own (n : Nat) (A : Option Addr) (c base : Nat) (l : List Int) (s : Int) (w : World) (h0 : 0 ≤ s) (h1 : s ≤ 1000000000000) (hl : n ≤ 1000000000) (ho : Own encInt w base 3 (.slice A n c) l) :
    Calls Try.prog 42 #[.slice A n c, .int .i64 s] w fun e w' => e = .returned (.int .i64 (s + n * 1)) ∧ Turn A w w' ∧ Own encInt w' base 3 (.slice A n c) (markInt s n) := by
  have hcm := ho.capMax; unfold maxLen at hcm
  rcases ho.open_ with ⟨rfl, rfl⟩ | ⟨g, cs0, rfl, hbase, hblk0, hcs0, hnc, hcap⟩
  · have HO := Lib.hid ho; clear ho
    go_enter Try.func42, Try.ntmps42
    go_wp2
    go_loopw [5, 1] (fun i j wr => i = .int .i64 0 ∧ j = .int .i64 s ∧ wr = w) (fun i _ _ => 0)
    case atStart => exact ⟨rfl, rfl, rfl⟩
    case round =>
      obtain ⟨rfl, rfl, rfl⟩ := hrel
      go_wp2
      go_ret
      exact ⟨ret_int (by simp), Turn.refl, (by simpa [markInt] using (show l = [] from List.length_eq_zero_iff.1 HO.out.len) ▸ HO.out)⟩
  · clear ho
    have HC0 := Lib.hid hcs0; have HB0 := Lib.hid hblk0; clear hcs0 hblk0
    go_enter Try.func42, Try.ntmps42
    go_wp2
    go_loopw [5, 1] (fun i j wr => ∃ k : Nat, k ≤ n ∧ i = .int .i64 k ∧ j = .int .i64 (s + k * 1) ∧ Turn (some ⟨g, 0, none⟩) w wr ∧ ∃ cs, Blk wr g 3 cs ∧ cs.size = c * encInt.k ∧ ∀ j, j < k * encInt.k → cs[j]? = (flat encInt (markInt s n))[j]?) (fun i _ _ => n - (intOf i).toNat)
    case atStart => exact ⟨0, Nat.zero_le _, rfl, by simp, Turn.refl, cs0, HB0.out, HC0.out, fun j hj => absurd hj (by simp)⟩
    case round =>
      clear HB0 HC0
      obtain ⟨k, hk, rfl, rfl, ht, cs, hblk, hcs, hfill⟩ := hrel
      have hg := hblk.lt
      by_cases hlt : k < n
      · obtain ⟨m, hm⟩ : ∃ v, v = s + (k : Int) * 1 := ⟨_, rfl⟩
        have hb0 : 0 ≤ m ∧ m ≤ 100000000000000 := by omega
        obtain ⟨m1, e1⟩ : ∃ v, m + 1 = v := ⟨_, rfl⟩
        rw [← hm]
        have w1 : IntKind.i64.wrap (m + 1) = m1 := by rw [← e1]; exact IntWalk.i64_in _ (by omega)
        have hf := fill_step' hcs (show k < c by omega) (markInt_get s n k hlt hm) hfill
        have HF := Lib.hid hf
        have hcs' : cs.size = c * 1 := hcs
        have HT := Lib.hid ht
        have hend : m1 = s + ((k + 1 : Nat) : Int) * 1 := by omega
        have HE := Lib.hid hend
        obtain ⟨v0, c0⟩ := hblk.cell_some (i := k * 1) (by omega)
        have f0 := hblk.frozen (k * 1)
        have HBk := Lib.hid hblk
        have HCs := Lib.hid hcs
        clear hf hfill hblk hcs hcs' hm ht hend e1
        simp only [Nat.mul_one] at c0 f0
        go_wp2
        go_roundw
        case rel =>
          refine ⟨k + 1, by omega, by go_num, by rw [HE.out], ?_, _, ?_, ?_, HF.out⟩
          · have q := HT.out.put ((encInt.f m).map (Value.int .i64)) (k * encInt.k)
            simp only [encInt, Nat.mul_one] at q
            exact q
          · have q := HBk.out.put ((encInt.f m).map (Value.int .i64)) (k * encInt.k)
            simp only [encInt, Nat.mul_one] at q ⊢
            exact q
          · rw [setAll_size]; exact HCs.out
        case measure => simp [intOf]; omega
      · go_wp2
        go_ret
        obtain rfl : k = n := by omega
        exact ⟨rfl, ht, Own.of_marks hbase hblk (markInt_length _ _) hnc hcs hfill hcap⟩
set_option maxHeartbeats 4000000 in
theorem heldIntS_sl (n : Nat) (A : Option Addr) (c : Nat) (s : Int) (w : World) (h0 : 0 ≤ s) (h1 : s ≤ 1000000000000) (hl : n ≤ 1000000000) (hc : Sl encInt w w.heap.size A (markInt s n)) :
    Calls Try.prog 43 #[.slice A n c, .int .i64 s] w fun e w' => e = .returned (.int .i64 (s + n * 1)) ∧ Below w.heap.size w w' := by
  have HC := Lib.hid hc; clear hc
  go_enter Try.func43, Try.ntmps43
  go_wp2
  go_loopw [5, 1] (fun i j wr => ∃ k : Nat, k ≤ n ∧ i = .int .i64 k ∧ j = .int .i64 (s + k * 1) ∧ Below w.heap.size w wr) (fun i _ _ => n - (intOf i).toNat)
  case atStart => exact ⟨0, Nat.zero_le _, rfl, by simp, Below.refl _ _⟩
  case round =>
    obtain ⟨k, hk, rfl, rfl, hbel⟩ := hrel
    have hsz := hbel.size
    by_cases hlt : k < n
    · obtain ⟨m, hm⟩ : ∃ v, v = s + (k : Int) * 1 := ⟨_, rfl⟩
      have hb0 : 0 ≤ m ∧ m ≤ 100000000000000 := by omega
      obtain ⟨m1, e1⟩ : ∃ v, m + 1 = v := ⟨_, rfl⟩
      rw [← hm]
      have w1 : IntKind.i64.wrap (m + 1) = m1 := by rw [← e1]; exact IntWalk.i64_in _ (by omega)
      obtain ⟨b, off, rfl, hb, hcl⟩ := HC.out.int_ (by rw [markInt_length]; omega)
      have c0 := hcl k _ (markInt_get s n k hlt hm)
      rw [← hbel.cell hb] at c0
      have hbw : b < wr.heap.size := by omega
      have HE := Lib.hid (show m1 = s + ((k + 1 : Nat) : Int) * 1 by omega)
      clear hm hcl e1
      go_wp2
      go_roundw
      case rel => exact ⟨k + 1, by omega, by go_num, by rw [HE.out], (by repeat (first | assumption | exact Below.refl _ _ | apply bl_gw | apply bl_alloc | apply bl_drewN | apply bl_drew))⟩
      case measure => simp [intOf]; omega
    · go_wp2
      go_ret
      obtain rfl : k = n := by omega
      exact ⟨rfl, hbel⟩
end Go.Proofs.Ytbedepmcecdhfaa
