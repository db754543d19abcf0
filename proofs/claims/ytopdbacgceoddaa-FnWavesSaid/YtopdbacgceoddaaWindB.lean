/- Walks of blows, part B: copies of lists. -/
import Derived.Test.YtopdbacgceoddaaWindA
namespace Go.Proofs.Ytopdbacgceoddaa
open Go.RowKit
set_option maxHeartbeats 400000 in
theorem szBlowS_ok (n : Nat) (A : Option Addr) (c : Nat) (w : World) (hn : n ≤ 1048576) :
    Calls Try.prog 21 #[.slice A n c, .int .i64 1048576] w fun e w' => e = .returned (.int .i64 (1048576 - n)) ∧ w = w' := by
  go_enter Try.func21, Try.ntmps21
  go_wp2
  go_ret
  exact ⟨rfl, rfl⟩
set_option maxHeartbeats 400000 in
theorem szBlowS_big (n : Nat) (A : Option Addr) (c : Nat) (w : World) (hn : 1048576 < n) (hm : n ≤ 9223372036854775807) :
    Calls Try.prog 21 #[.slice A n c, .int .i64 1048576] w fun e w' => e = .returned (.int .i64 (-1)) ∧ w = w' := by
  go_enter Try.func21, Try.ntmps21
  go_wp2
  go_ret
  exact ⟨rfl, rfl⟩
theorem info_Blow : (Try.prog.info? 62).map (fun i => (i.zero, i.size, i.bytes)) = some (some (.agg #[.int .i64 0, .int .i64 0, .int .i64 0]), 3, 24) := by kernel_rfl
set_option maxHeartbeats 1000000 in
theorem toBlowS_any (l : List Blow) (n : Nat) (hn : l.length = n) (A : Option Addr) (c : Nat) (w : World) (hl : n ≤ 1048576) (hc : Sl encBlow w w.heap.size A l) :
    Calls Try.prog 23 #[.slice A n c] w fun e w' => ∃ v, e = .returned v ∧ Own encBlow w' w.heap.size 62 v l ∧ Below w.heap.size w w' := by
  have HC := Lib.hid hc; clear hc
  have HN := Lib.hid hn; clear hn
  obtain ⟨i0, hi, hz0, hz1, hz2⟩ := info_parts info_Blow
  go_enter Try.func23, Try.ntmps23
  go_wp2_with (at_make; refine wpList_make_full _ rfl (.tmp 6) (.tmp 6) 36 rfl w.heap.size 62 i0 _ 3 Try.underlying36 hi hz0 hz1 .i64 .i64 _ _ n rfl rfl rfl rfl (by rw [hz2]; omega) (by unfold maxLen; omega) (Nat.le_refl _) ?_; intro w1 hown hg1)
  have hb1 : Below w.heap.size w w1 := (Below.refl _ _).grown hg1 (Nat.le_refl _) (by intro k hk; cases hk)
  obtain ⟨_, cs1, hB1, hs1, _⟩ := own_blk hown
  have HB1 := Lib.hid hB1
  have HS1 := Lib.hid hs1
  clear hown hg1 hB1 hs1 hi hz0 hz1 hz2
  go_loopw [4] (fun i wr => ∃ k : Nat, k ≤ n ∧ i = .int .i64 k ∧ Below w.heap.size w wr ∧ ∃ cs, Blk wr w.heap.size 62 cs ∧ cs.size = n * encBlow.k ∧ ∀ j, j < k * encBlow.k → cs[j]? = (flat encBlow l)[j]?) (fun i _ => n - (intOf i).toNat)
  case atStart => exact ⟨0, Nat.zero_le _, rfl, hb1, cs1, HB1.out, HS1.out, fun j hj => absurd hj (by simp)⟩
  case round =>
    clear HB1 HS1 hb1
    obtain ⟨k, hk, rfl, hbel, cs, hblk, hcs, hfill⟩ := hrel
    have hsz := hbel.size
    have hg := hblk.lt
    by_cases hlt : k < n
    · obtain ⟨b, off, rfl, hb, hcl⟩ := HC.out.blow (by rw [HN.out]; omega)
      have hx : l[k]? = some (l[k]'(by rw [HN.out]; exact hlt)) := List.getElem?_eq_getElem _
      generalize l[k]'(by rw [HN.out]; exact hlt) = x at hx
      obtain ⟨c0, c1, c2⟩ := hcl k x hx
      have hf := fill_step hcs hlt hx hfill
      have HF := Lib.hid hf
      rw [← hbel.cell hb] at c0 c1 c2
      have hbw : b < wr.heap.size := by omega
      have hcs' : cs.size = n * 3 := hcs
      obtain ⟨v0, e0⟩ := hblk.cell_some (i := k * 3) (by omega)
      obtain ⟨v1, e1⟩ := hblk.cell_some (i := k * 3 + 1) (by omega)
      obtain ⟨v2, e2⟩ := hblk.cell_some (i := k * 3 + 2) (by omega)
      have f0 := hblk.frozen (k * 3)
      have f1 := hblk.frozen (k * 3 + 1)
      have f2 := hblk.frozen (k * 3 + 2)
      have HBk := Lib.hid hblk
      have HCs := Lib.hid hcs
      clear hcl hx hf hfill hblk hcs hcs'
      go_wp2_with (go_at_call 57; refine (toBlow_any _ _ _ _).mono ?_; rintro e w2 ⟨rfl, hb2⟩; obtain ⟨p2, rfl⟩ := below_gw hb2; clear hb2)
      go_roundw
      case rel =>
        have hB := putC_below (Nat.le_refl _) ((encBlow.f x).map (Value.int .i64)) (k * 3) hbel
        have hS := putC_size w.heap.size ((encBlow.f x).map (Value.int .i64)) wr (k * 3)
        exact ⟨k + 1, by omega, by go_num, hB.trans (gw_below _ p2 (by rw [hS]; exact hsz)), _, (HBk.out.put ((encBlow.f x).map (Value.int .i64)) (k * 3)).gw p2, by rw [setAll_size]; exact HCs.out, HF.out⟩
      case measure => simp [intOf]; omega
    · go_wp2
      refine bodyPost_ret (results_tmp rfl _ _ _) rfl ?_
      obtain rfl : k = n := by omega
      exact ⟨_, rfl, Own.of_blk (Nat.le_refl _) hblk HN.out hcs hfill (by unfold maxLen; omega), hbel⟩
theorem toBlowS_sl (l : List Blow) (n : Nat) (hn : l.length = n) (A : Option Addr) (c : Nat) (w : World) (hl : n ≤ 1048576) (hc : Sl encBlow w w.heap.size A l) :
    Calls Try.prog 23 #[.slice A n c] w fun e w' => ∃ A' c', e = .returned (.slice A' n c') ∧ Sl encBlow w' w'.heap.size A' l ∧ Own encBlow w' w.heap.size 62 (.slice A' n c') l ∧ Below w.heap.size w w' :=
  (toBlowS_any l n hn A c w hl hc).mono fun e w' ⟨v, he, ho, hb⟩ => by
    obtain ⟨A', c', rfl, _, _, hs⟩ := ho.slice
    rw [hn] at he ho
    exact ⟨A', c', he, hs, ho, hb⟩
end Go.Proofs.Ytopdbacgceoddaa
