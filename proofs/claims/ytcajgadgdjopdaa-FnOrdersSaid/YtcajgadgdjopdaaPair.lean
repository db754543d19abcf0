/- Pairs of numbers: copies, comparisons, lists. -/
import Derived.Test.YtcajgadgdjopdaaProg
import Derived.Test.YtcajgadgdjopdaaBase
import Derived.Test.YtcajgadgdjopdaaTail
namespace Go.Proofs.Ytcajgadgdjopdaa
open Go.RowKit
structure Ditch where
  src : Int
  dst : Int
deriving Inhabited
theorem alloc_sz (w : World) (o : Obj) : (w.alloc o).heap.size = w.heap.size + 1 := by simp
def encDitch : Enc Ditch := ⟨2, fun x => [x.src, x.dst], fun _ => rfl⟩
def mkDitch : List Int → Ditch
  | [a0, a1] => ⟨a0, a1⟩
  | _ => ⟨0, 0⟩
theorem mkDitch_f : ∀ zs : List Int, zs.length = encDitch.k → encDitch.f (mkDitch zs) = zs
  | [a0, a1], _ => rfl
  | [], h => by cases h
  | [a0], h => by cases h
  | a0 :: a1 :: b :: r, h => by simp [encDitch] at h
theorem Sl.ditch {w : World} {B : Nat} {A : Option Addr} {l : List Ditch} (h : Sl encDitch w B A l) (hn : 0 < l.length) :
    ∃ b off, A = some ⟨b, off, none⟩ ∧ b < B ∧ ∀ i x, l[i]? = some x → w.cell? ⟨b, off + i * 2, none⟩ = some (.int .i64 x.src) ∧ w.cell? ⟨b, off + i * 2 + 1, none⟩ = some (.int .i64 x.dst) := by
  obtain ⟨b, off, e, hb, hc⟩ := h hn
  exact ⟨b, off, e, hb, fun i x hx => ⟨hc i x hx 0 _ rfl, hc i x hx 1 _ rfl⟩⟩

set_option maxHeartbeats 2000000 in
theorem eqIntA2_same (a0 a1 : Int) (w : World) :
    Calls Try.prog 61 #[.agg #[.int .i64 a0, .int .i64 a1], .agg #[.int .i64 a0, .int .i64 a1]] w fun e w' => e = .returned (.bool true) ∧ Below w.heap.size w w' := by
  have hA0 := (Blk.new w 37 #[.int .i64 a0, .int .i64 a1]).alloc (.cells #[.int .i64 a0, .int .i64 a1] 37)
  have hR0 := Blk.new (w.alloc (.cells #[.int .i64 a0, .int .i64 a1] 37)) 37 #[.int .i64 a0, .int .i64 a1]
  rw [alloc_sz] at hR0
  have HA0 := Lib.hid hA0
  have HR0 := Lib.hid hR0
  clear hA0 hR0
  go_enter Try.func61, Try.ntmps61
  go_wp2
  go_loopw [5] (fun i wr => ∃ k : Nat, k ≤ 2 ∧ i = .int .i64 k ∧ Below w.heap.size w wr ∧ Blk wr w.heap.size 37 #[.int .i64 a0, .int .i64 a1] ∧ Blk wr (w.heap.size + 1) 37 #[.int .i64 a0, .int .i64 a1]) (fun i _ => 2 - (intOf i).toNat)
  case atStart => exact ⟨0, by omega, rfl, (by repeat (first | assumption | exact Below.refl _ _ | apply bl_gw | apply bl_alloc | apply bl_drewN | apply bl_drew)), HA0.out, HR0.out⟩
  case round =>
    obtain ⟨k, hk, rfl, hbel, hA, hR⟩ := hrel
    clear HA0 HR0
    have r0 : wr.cell? ⟨w.heap.size, 0, none⟩ = some (.int .i64 a0) := hA.cell 0
    have r1 : wr.cell? ⟨w.heap.size, 1, none⟩ = some (.int .i64 a1) := hA.cell 1
    have q0 : wr.cell? ⟨w.heap.size + 1, 0, none⟩ = some (.int .i64 a0) := hR.cell 0
    have q1 : wr.cell? ⟨w.heap.size + 1, 1, none⟩ = some (.int .i64 a1) := hR.cell 1
    have l0 := hA.lt
    have l1 := hR.lt
    have HA := Lib.hid hA
    have HR := Lib.hid hR
    have HB := Lib.hid hbel
    clear hA hR hbel
    rcases (show k = 0 ∨ k = 1 ∨ k = 2 by omega) with rfl | rfl | rfl
    · go_wp2
      refine wp_region_gw (by kernel_rfl) (by kernel_rfl) ?_
      repeat (first | go_big_quiet_step ((fail)) | quiet_step ((fail)))
      refine wpQuiet_nil ?_
      rintro _ ⟨pq, rfl⟩
      go_wp2
      go_roundw
      case rel => exact ⟨1, by omega, rfl, bl_gw HB.out _, HA.out.gw _, HR.out.gw _⟩
      case measure => simp [intOf]
    · go_wp2
      refine wp_region_gw (by kernel_rfl) (by kernel_rfl) ?_
      repeat (first | go_big_quiet_step ((fail)) | quiet_step ((fail)))
      refine wpQuiet_nil ?_
      rintro _ ⟨pq, rfl⟩
      go_wp2
      go_roundw
      case rel => exact ⟨2, by omega, rfl, bl_gw HB.out _, HA.out.gw _, HR.out.gw _⟩
      case measure => simp [intOf]
    · go_wp2
      go_ret
      exact ⟨rfl, HB.out⟩
theorem info_Ditch : (Try.prog.info? 37).map (fun i => (i.zero, i.size, i.bytes)) = some (some (.agg #[.int .i64 0, .int .i64 0]), 2, 16) := by kernel_rfl
set_option maxHeartbeats 2000000 in
theorem eqDitchS_same (l : List Ditch) (n : Nat) (hn : l.length = n) (A A' : Option Addr) (c c' : Nat) (w : World) (hl : n ≤ 1048576) (hc : Sl encDitch w w.heap.size A l) (hc' : Sl encDitch w w.heap.size A' l) :
    Calls Try.prog 28 #[.slice A n c, .slice A' n c'] w fun e w' => e = .returned (.bool true) ∧ Below w.heap.size w w' := by
  have HC := Lib.hid hc; clear hc
  have HD := Lib.hid hc'; clear hc'
  have HN := Lib.hid hn; clear hn
  go_enter Try.func28, Try.ntmps28
  go_wp2
  go_loopw [5] (fun i wr => ∃ k : Nat, k ≤ n ∧ i = .int .i64 k ∧ Below w.heap.size w wr) (fun i _ => n - (intOf i).toNat)
  case atStart => exact ⟨0, Nat.zero_le _, rfl, Below.refl _ _⟩
  case round =>
    obtain ⟨k, hk, rfl, hbel⟩ := hrel
    have hsz := hbel.size
    by_cases hlt : k < n
    · obtain ⟨b, off, rfl, hb, hcs⟩ := HC.out.ditch (by rw [HN.out]; omega)
      obtain ⟨b', off', rfl, hb', hcs'⟩ := HD.out.ditch (by rw [HN.out]; omega)
      have hx : l[k]? = some (l[k]'(by rw [HN.out]; exact hlt)) := List.getElem?_eq_getElem _
      generalize l[k]'(by rw [HN.out]; exact hlt) = x at hx
      obtain ⟨c0, c1⟩ := hcs k x hx
      obtain ⟨d0, d1⟩ := hcs' k x hx
      clear hcs hcs' hx
      rw [← hbel.cell hb] at c0 c1
      rw [← hbel.cell hb'] at d0 d1
      have hbw : b < wr.heap.size := by omega
      have hbw' : b' < wr.heap.size := by omega
      have k1 : (k : Int) < n := by omega
      have k2 : (0 : Int) ≤ k := by omega
      go_wp2
      refine wp_region_gw (by kernel_rfl) (by kernel_rfl) ?_
      repeat (first | go_big_quiet_step ((go_at_call 61; exact quiet_gw (eqIntA2_same _ _ _))) | quiet_step ((go_at_call 61; exact quiet_gw (eqIntA2_same _ _ _))))
      refine wpQuiet_nil ?_
      rintro _ ⟨pq, rfl⟩
      go_wp2
      go_roundw
      case rel => exact ⟨k + 1, by omega, by go_num, (by repeat (first | assumption | exact Below.refl _ _ | apply bl_gw | apply bl_alloc | apply bl_drewN | apply bl_drew))⟩
      case measure => simp [intOf]; omega
    · go_wp2
      go_ret
      exact ⟨rfl, hbel⟩
end Go.Proofs.Ytcajgadgdjopdaa
