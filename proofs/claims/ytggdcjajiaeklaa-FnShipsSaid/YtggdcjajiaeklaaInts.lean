/- Lists of ints: copies and comparisons. -/
import Derived.Test.YtggdcjajiaeklaaProg
import Derived.Test.YtggdcjajiaeklaaTurn
namespace Go.Proofs.Ytggdcjajiaeklaa
open Go.RowKit
theorem Sl.int_ {w : World} {B : Nat} {A : Option Addr} {l : List Int} (h : Sl encInt w B A l) (hn : 0 < l.length) :
    ∃ b off, A = some ⟨b, off, none⟩ ∧ b < B ∧ ∀ i x, l[i]? = some x → w.cell? ⟨b, off + i, none⟩ = some (.int .i64 x) := by
  obtain ⟨b, off, e, hb, hc⟩ := h hn
  refine ⟨b, off, e, hb, fun i x hx => ?_⟩
  have := hc i x hx 0 x rfl
  simpa [encInt] using this
theorem info_Int : (Try.prog.info? 3).map (fun i => (i.zero, i.size, i.bytes)) = some (some (.int .i64 0), 1, 8) := by kernel_rfl
set_option maxHeartbeats 2000000 in
theorem eqIntS_same (l : List Int) (n : Nat) (hn : l.length = n) (A A' : Option Addr) (c c' : Nat) (w : World) (hl : n ≤ 1073741824) (hc : Sl encInt w w.heap.size A l) (hc' : Sl encInt w w.heap.size A' l) :
    Calls Try.prog 28 #[.slice A n c, .slice A' n c'] w fun e w' => e = .returned (.bool true) ∧ Below w.heap.size w w' := by
  have HC := Lib.hid hc; clear hc
  have HD := Lib.hid hc'; clear hc'
  have HN := Lib.hid hn; clear hn
  go_enter Try.func28, Try.ntmps28
  go_wp2
  go_loopw [5] (fun i wr => ∃ k : Nat, k ≤ n ∧ i = .int .i64 k ∧ Below w.heap.size w wr) (fun i _ => n - (intOf i).toNat)
  case atStart => exact ⟨0, Nat.zero_le _, rfl, Below.refl _ _⟩
  case round =>
    obtain ⟨k, hk, rfl, hbel⟩ := hrel
    have hsz := hbel.size
    by_cases hlt : k < n
    · obtain ⟨b, off, rfl, hb, hcs⟩ := HC.out.int_ (by rw [HN.out]; omega)
      obtain ⟨b', off', rfl, hb', hcs'⟩ := HD.out.int_ (by rw [HN.out]; omega)
      have hx : l[k]? = some (l[k]'(by rw [HN.out]; exact hlt)) := List.getElem?_eq_getElem _
      generalize l[k]'(by rw [HN.out]; exact hlt) = x at hx
      have c0 := hcs k x hx
      have d0 := hcs' k x hx
      clear hcs hcs' hx
      rw [← hbel.cell hb] at c0
      rw [← hbel.cell hb'] at d0
      have hbw : b < wr.heap.size := by omega
      have hbw' : b' < wr.heap.size := by omega
      have k1 : (k : Int) < n := by omega
      have k2 : (0 : Int) ≤ k := by omega
      go_wp2
      refine wp_region_gw (by kernel_rfl) (by kernel_rfl) ?_
      repeat (first | go_big_quiet_step (fail) | quiet_step (fail))
      refine wpQuiet_nil ?_
      rintro _ ⟨pq, rfl⟩
      go_wp2
      go_roundw
      case rel => exact ⟨k + 1, by omega, by go_num, (by repeat (first | assumption | exact Below.refl _ _ | apply bl_gw | apply bl_alloc | apply bl_drewN | apply bl_drew))⟩
      case measure => simp [intOf]; omega
    · go_wp2
      go_ret
      exact ⟨rfl, hbel⟩
set_option maxHeartbeats 2000000 in
theorem toIntS_any (l : List Int) (n : Nat) (hn : l.length = n) (A : Option Addr) (c : Nat) (w : World) (hl : n ≤ 1048576) (hc : Sl encInt w w.heap.size A l) :
    Calls Try.prog 32 #[.slice A n c] w fun e w' => ∃ v, e = .returned v ∧ Own encInt w' w.heap.size 3 v l ∧ Below w.heap.size w w' := by
  have HC := Lib.hid hc; clear hc
  have HN := Lib.hid hn; clear hn
  obtain ⟨i0, hi, hz0, hz1, hz2⟩ := info_parts info_Int
  go_enter Try.func32, Try.ntmps32
  go_wp2_with (at_make; refine wpList_make_full _ rfl (.tmp 6) (.tmp 6) 39 rfl w.heap.size 3 i0 _ 1 Try.underlying39 hi hz0 hz1 .i64 .i64 _ _ n rfl rfl rfl rfl (by rw [hz2]; omega) (by unfold maxLen; omega) (Nat.le_refl _) ?_; intro w1 hown hg1)
  have hb1 : Below w.heap.size w w1 := (Below.refl _ _).grown hg1 (Nat.le_refl _) (by intro k hk; cases hk)
  obtain ⟨_, cs1, hB1, hs1, _⟩ := own_blk hown
  have HB1 := Lib.hid hB1
  have HS1 := Lib.hid hs1
  clear hown hg1 hB1 hs1 hi hz0 hz1 hz2
  go_loopw [4] (fun i wr => ∃ k : Nat, k ≤ n ∧ i = .int .i64 k ∧ Below w.heap.size w wr ∧ ∃ cs, Blk wr w.heap.size 3 cs ∧ cs.size = n * encInt.k ∧ ∀ j, j < k * encInt.k → cs[j]? = (flat encInt l)[j]?) (fun i _ => n - (intOf i).toNat)
  case atStart => exact ⟨0, Nat.zero_le _, rfl, hb1, cs1, HB1.out, HS1.out, fun j hj => absurd hj (by simp)⟩
  case round =>
    clear HB1 HS1 hb1
    obtain ⟨k, hk, rfl, hbel, cs, hblk, hcs, hfill⟩ := hrel
    have hsz := hbel.size
    have hg := hblk.lt
    by_cases hlt : k < n
    · obtain ⟨b, off, rfl, hb, hcl⟩ := HC.out.int_ (by rw [HN.out]; omega)
      have hx : l[k]? = some (l[k]'(by rw [HN.out]; exact hlt)) := List.getElem?_eq_getElem _
      generalize l[k]'(by rw [HN.out]; exact hlt) = x at hx
      have c0 := hcl k x hx
      have hf := fill_step hcs hlt hx hfill
      have HF := Lib.hid hf
      rw [← hbel.cell hb] at c0
      have hbw : b < wr.heap.size := by omega
      have hcs' : cs.size = n * 1 := hcs
      obtain ⟨v0, e0⟩ := hblk.cell_some (i := k) (by omega)
      have f0 := hblk.frozen k
      have HBk := Lib.hid hblk
      have HCs := Lib.hid hcs
      clear hcl hx hf hfill hblk hcs hcs'
      go_wp2
      go_roundw
      case rel =>
        refine ⟨k + 1, by omega, by go_num, ?_, _, ?_, ?_, HF.out⟩
        · have q := putC_below (Nat.le_refl _) ((encInt.f x).map (Value.int .i64)) (k * encInt.k) hbel
          simp only [encInt, Nat.mul_one] at q
          exact q
        · have q := HBk.out.put ((encInt.f x).map (Value.int .i64)) (k * encInt.k)
          simp only [encInt, Nat.mul_one] at q ⊢
          exact q
        · rw [setAll_size]; exact HCs.out
      case measure => simp [intOf]; omega
    · go_wp2
      refine bodyPost_ret (results_tmp rfl _ _ _) rfl ?_
      obtain rfl : k = n := by omega
      exact ⟨_, rfl, Own.of_blk (Nat.le_refl _) hblk HN.out hcs hfill (by unfold maxLen; omega), hbel⟩
theorem toIntS_sl (l : List Int) (n : Nat) (hn : l.length = n) (A : Option Addr) (c : Nat) (w : World) (hl : n ≤ 1048576) (hc : Sl encInt w w.heap.size A l) :
    Calls Try.prog 32 #[.slice A n c] w fun e w' => ∃ A' c', e = .returned (.slice A' n c') ∧ Sl encInt w' w'.heap.size A' l ∧ Own encInt w' w.heap.size 3 (.slice A' n c') l ∧ Below w.heap.size w w' :=
  (toIntS_any l n hn A c w hl hc).mono fun e w' ⟨v, he, ho, hb⟩ => by
    obtain ⟨A', c', rfl, _, _, hs⟩ := ho.slice
    rw [hn] at he ho
    exact ⟨A', c', he, hs, ho, hb⟩
end Go.Proofs.Ytggdcjajiaeklaa
