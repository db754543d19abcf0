/- Structs Bittern: 3 ints. Copies, comparisons, lists. -/
import Derived.Test.YtcajgadgdjopdaaProg
import Derived.Test.YtcajgadgdjopdaaBase
namespace Go.Proofs.Ytcajgadgdjopdaa
open Go.RowKit
structure Bittern where
  id : Int
  kilos : Int
  bitter : Int
deriving Inhabited
def encBittern : Enc Bittern := ⟨3, fun x => [x.id, x.kilos, x.bitter], fun _ => rfl⟩
def mkBittern : List Int → Bittern
  | [a0, a1, a2] => ⟨a0, a1, a2⟩
  | _ => ⟨0, 0, 0⟩
theorem mkBittern_f : ∀ zs : List Int, zs.length = encBittern.k → encBittern.f (mkBittern zs) = zs
  | [a0, a1, a2], _ => rfl
  | [], h => by cases h
  | [a0], h => by cases h
  | [a0, a1], h => by cases h
  | a0 :: a1 :: a2 :: b :: r, h => by simp [encBittern] at h
theorem Sl.bittern {w : World} {B : Nat} {A : Option Addr} {l : List Bittern} (h : Sl encBittern w B A l) (hn : 0 < l.length) :
    ∃ b off, A = some ⟨b, off, none⟩ ∧ b < B ∧ ∀ i x, l[i]? = some x → w.cell? ⟨b, off + i * 3, none⟩ = some (.int .i64 x.id) ∧ w.cell? ⟨b, off + i * 3 + 1, none⟩ = some (.int .i64 x.kilos) ∧ w.cell? ⟨b, off + i * 3 + 2, none⟩ = some (.int .i64 x.bitter) := by
  obtain ⟨b, off, e, hb, hc⟩ := h hn
  exact ⟨b, off, e, hb, fun i x hx => ⟨hc i x hx 0 _ rfl, hc i x hx 1 _ rfl, hc i x hx 2 _ rfl⟩⟩
set_option maxHeartbeats 1000000 in
theorem toBittern_any (a0 a1 a2 : Int) (w : World) :
    Calls Try.prog 59 #[.agg #[.int .i64 a0, .int .i64 a1, .int .i64 a2]] w fun e w' => e = .returned (.agg #[.int .i64 a0, .int .i64 a1, .int .i64 a2]) ∧ Below w.heap.size w w' := by
  go_enter Try.func59, Try.ntmps59
  go_wp2
  refine bodyPost_ret (v := .agg #[.int .i64 a0, .int .i64 a1, .int .i64 a2]) (by simp [results, Try.results59, go_sem]) rfl ⟨rfl, ?_⟩
  exact (by repeat (first | assumption | exact Below.refl _ _ | apply bl_gw | apply bl_alloc | apply bl_drewN | apply bl_drew))
set_option maxHeartbeats 1000000 in
theorem eqBittern_same (a0 a1 a2 : Int) (w : World) :
    Calls Try.prog 60 #[.agg #[.int .i64 a0, .int .i64 a1, .int .i64 a2], .agg #[.int .i64 a0, .int .i64 a1, .int .i64 a2]] w fun e w' => e = .returned (.bool true) ∧ Below w.heap.size w w' := by
  go_enter Try.func60, Try.ntmps60
  go_wp2
  all_goals go_ret
  all_goals exact ⟨rfl, (by repeat (first | assumption | exact Below.refl _ _ | apply bl_gw | apply bl_alloc | apply bl_drewN | apply bl_drew))⟩
set_option maxHeartbeats 400000 in
theorem szBitternS_ok (n : Nat) (A : Option Addr) (c : Nat) (w : World) (hn : n ≤ 1048576) :
    Calls Try.prog 23 #[.slice A n c, .int .i64 1048576] w fun e w' => e = .returned (.int .i64 (1048576 - n)) ∧ w = w' := by
  go_enter Try.func23, Try.ntmps23
  go_wp2
  go_ret
  exact ⟨rfl, rfl⟩
set_option maxHeartbeats 400000 in
theorem szBitternS_big (n : Nat) (A : Option Addr) (c : Nat) (w : World) (hn : 1048576 < n) (hm : n ≤ 9223372036854775807) :
    Calls Try.prog 23 #[.slice A n c, .int .i64 1048576] w fun e w' => e = .returned (.int .i64 (-1)) ∧ w = w' := by
  go_enter Try.func23, Try.ntmps23
  go_wp2
  go_ret
  exact ⟨rfl, rfl⟩
theorem info_Bittern : (Try.prog.info? 69).map (fun i => (i.zero, i.size, i.bytes)) = some (some (.agg #[.int .i64 0, .int .i64 0, .int .i64 0]), 3, 24) := by kernel_rfl
set_option maxHeartbeats 2000000 in
theorem eqBitternS_same (l : List Bittern) (n : Nat) (hn : l.length = n) (A A' : Option Addr) (c c' : Nat) (w : World) (hl : n ≤ 1048576) (hc : Sl encBittern w w.heap.size A l) (hc' : Sl encBittern w w.heap.size A' l) :
    Calls Try.prog 25 #[.slice A n c, .slice A' n c'] w fun e w' => e = .returned (.bool true) ∧ Below w.heap.size w w' := by
  have HC := Lib.hid hc; clear hc
  have HD := Lib.hid hc'; clear hc'
  have HN := Lib.hid hn; clear hn
  go_enter Try.func25, Try.ntmps25
  go_wp2
  go_loopw [5] (fun i wr => ∃ k : Nat, k ≤ n ∧ i = .int .i64 k ∧ Below w.heap.size w wr) (fun i _ => n - (intOf i).toNat)
  case atStart => exact ⟨0, Nat.zero_le _, rfl, Below.refl _ _⟩
  case round =>
    obtain ⟨k, hk, rfl, hbel⟩ := hrel
    have hsz := hbel.size
    by_cases hlt : k < n
    · obtain ⟨b, off, rfl, hb, hcs⟩ := HC.out.bittern (by rw [HN.out]; omega)
      obtain ⟨b', off', rfl, hb', hcs'⟩ := HD.out.bittern (by rw [HN.out]; omega)
      have hx : l[k]? = some (l[k]'(by rw [HN.out]; exact hlt)) := List.getElem?_eq_getElem _
      generalize l[k]'(by rw [HN.out]; exact hlt) = x at hx
      obtain ⟨c0, c1, c2⟩ := hcs k x hx
      obtain ⟨d0, d1, d2⟩ := hcs' k x hx
      clear hcs hcs' hx
      rw [← hbel.cell hb] at c0 c1 c2
      rw [← hbel.cell hb'] at d0 d1 d2
      have hbw : b < wr.heap.size := by omega
      have hbw' : b' < wr.heap.size := by omega
      have k1 : (k : Int) < n := by omega
      have k2 : (0 : Int) ≤ k := by omega
      go_wp2
      refine wp_region_gw (by kernel_rfl) (by kernel_rfl) ?_
      repeat (first | go_big_quiet_step ((go_at_call 60; exact quiet_gw (eqBittern_same _ _ _ _))) | quiet_step ((go_at_call 60; exact quiet_gw (eqBittern_same _ _ _ _))))
      refine wpQuiet_nil ?_
      rintro _ ⟨pq, rfl⟩
      go_wp2
      go_roundw
      case rel => exact ⟨k + 1, by omega, by go_num, (by repeat (first | assumption | exact Below.refl _ _ | apply bl_gw | apply bl_alloc | apply bl_drewN | apply bl_drew))⟩
      case measure => simp [intOf]; omega
    · go_wp2
      go_ret
      exact ⟨rfl, hbel⟩
set_option maxHeartbeats 2000000 in
theorem toBitternS_any (l : List Bittern) (n : Nat) (hn : l.length = n) (A : Option Addr) (c : Nat) (w : World) (hl : n ≤ 1048576) (hc : Sl encBittern w w.heap.size A l) :
    Calls Try.prog 24 #[.slice A n c] w fun e w' => ∃ v, e = .returned v ∧ Own encBittern w' w.heap.size 69 v l ∧ Below w.heap.size w w' := by
  have HC := Lib.hid hc; clear hc
  have HN := Lib.hid hn; clear hn
  obtain ⟨i0, hi, hz0, hz1, hz2⟩ := info_parts info_Bittern
  go_enter Try.func24, Try.ntmps24
  go_wp2_with (at_make; refine wpList_make_full _ rfl (.tmp 6) (.tmp 6) 24 rfl w.heap.size 69 i0 _ 3 Try.underlying24 hi hz0 hz1 .i64 .i64 _ _ n rfl rfl rfl rfl (by rw [hz2]; omega) (by unfold maxLen; omega) (Nat.le_refl _) ?_; intro w1 hown hg1)
  have hb1 : Below w.heap.size w w1 := (Below.refl _ _).grown hg1 (Nat.le_refl _) (by intro k hk; cases hk)
  obtain ⟨_, cs1, hB1, hs1, _⟩ := own_blk hown
  have HB1 := Lib.hid hB1
  have HS1 := Lib.hid hs1
  clear hown hg1 hB1 hs1 hi hz0 hz1 hz2
  go_loopw [4] (fun i wr => ∃ k : Nat, k ≤ n ∧ i = .int .i64 k ∧ Below w.heap.size w wr ∧ ∃ cs, Blk wr w.heap.size 69 cs ∧ cs.size = n * encBittern.k ∧ ∀ j, j < k * encBittern.k → cs[j]? = (flat encBittern l)[j]?) (fun i _ => n - (intOf i).toNat)
  case atStart => exact ⟨0, Nat.zero_le _, rfl, hb1, cs1, HB1.out, HS1.out, fun j hj => absurd hj (by simp)⟩
  case round =>
    clear HB1 HS1 hb1
    obtain ⟨k, hk, rfl, hbel, cs, hblk, hcs, hfill⟩ := hrel
    have hsz := hbel.size
    have hg := hblk.lt
    by_cases hlt : k < n
    · obtain ⟨b, off, rfl, hb, hcl⟩ := HC.out.bittern (by rw [HN.out]; omega)
      have hx : l[k]? = some (l[k]'(by rw [HN.out]; exact hlt)) := List.getElem?_eq_getElem _
      generalize l[k]'(by rw [HN.out]; exact hlt) = x at hx
      obtain ⟨c0, c1, c2⟩ := hcl k x hx
      have hf := fill_step hcs hlt hx hfill
      have HF := Lib.hid hf
      rw [← hbel.cell hb] at c0 c1 c2
      have hbw : b < wr.heap.size := by omega
      have hcs' : cs.size = n * 3 := hcs
      obtain ⟨v0, e0⟩ := hblk.cell_some (i := k * 3) (by omega)
      obtain ⟨v1, e1⟩ := hblk.cell_some (i := k * 3 + 1) (by omega)
      obtain ⟨v2, e2⟩ := hblk.cell_some (i := k * 3 + 2) (by omega)
      have f0 := hblk.frozen (k * 3)
      have f1 := hblk.frozen (k * 3 + 1)
      have f2 := hblk.frozen (k * 3 + 2)
      have HBk := Lib.hid hblk
      have HCs := Lib.hid hcs
      clear hcl hx hf hfill hblk hcs hcs'
      go_wp2_with (go_at_call 59; refine (toBittern_any _ _ _ _).mono ?_; rintro e w2 ⟨rfl, hb2⟩; obtain ⟨p2, rfl⟩ := below_gw hb2; clear hb2)
      go_roundw
      case rel =>
        have hB := putC_below (Nat.le_refl _) ((encBittern.f x).map (Value.int .i64)) (k * 3) hbel
        have hS := putC_size w.heap.size ((encBittern.f x).map (Value.int .i64)) wr (k * 3)
        exact ⟨k + 1, by omega, by go_num, hB.trans (gw_below _ p2 (by rw [hS]; exact hsz)), _, (HBk.out.put ((encBittern.f x).map (Value.int .i64)) (k * 3)).gw p2, by rw [setAll_size]; exact HCs.out, HF.out⟩
      case measure => simp [intOf]; omega
    · go_wp2
      refine bodyPost_ret (results_tmp rfl _ _ _) rfl ?_
      obtain rfl : k = n := by omega
      exact ⟨_, rfl, Own.of_blk (Nat.le_refl _) hblk HN.out hcs hfill (by unfold maxLen; omega), hbel⟩
theorem toBitternS_sl (l : List Bittern) (n : Nat) (hn : l.length = n) (A : Option Addr) (c : Nat) (w : World) (hl : n ≤ 1048576) (hc : Sl encBittern w w.heap.size A l) :
    Calls Try.prog 24 #[.slice A n c] w fun e w' => ∃ A' c', e = .returned (.slice A' n c') ∧ Sl encBittern w' w'.heap.size A' l ∧ Own encBittern w' w.heap.size 69 (.slice A' n c') l ∧ Below w.heap.size w w' :=
  (toBitternS_any l n hn A c w hl hc).mono fun e w' ⟨v, he, ho, hb⟩ => by
    obtain ⟨A', c', rfl, _, _, hs⟩ := ho.slice
    rw [hn] at he ho
    exact ⟨A', c', he, hs, ho, hb⟩
end Go.Proofs.Ytcajgadgdjopdaa
