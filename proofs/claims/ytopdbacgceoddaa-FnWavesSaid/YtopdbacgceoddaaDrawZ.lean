/- The draws of the laws on banks and worst hours: those of the law on all that spills. -/
import Derived.Test.YtopdbacgceoddaaDrawX
namespace Go.Proofs.Ytopdbacgceoddaa
open Go.RowKit
set_option maxRecDepth 4000 in
set_option maxHeartbeats 4000000 in
theorem drawBankNeeded_any (A : Option Addr) (n c : Nat) (w : World) (hc : Bytes w A n) :
    Calls Try.prog 41 #[.slice A n c] w fun e w' => ∃ v l, ∃ x y z : Int, e = .returned (.tuple #[v, .agg #[.int .i64 x, .int .i64 y, .int .i64 z]]) ∧ List.length l ≤ 40 ∧ Own encBlow w' w.heap.size 62 v l ∧ Below w.heap.size w w' := by
  have HC := Lib.hid (hc.past (bl_alloc (Below.refl _ _) (.cells #[.int .i64 0, .int .i64 0, .int .i64 0] 24)))
  have HR := Lib.hid (Blk.new w 24 #[.int .i64 0, .int .i64 0, .int .i64 0])
  clear hc
  go_enter Try.func41, Try.ntmps41
  go_wp2_with fail
  refine (drawSpilledInAll_any A n c _ HC.out).mono ?_
  rintro e w1 ⟨v, l, x, y, z, rfl, hl, o1, b1⟩
  have O1 := Lib.hid (o1.lower (b := w.heap.size) (by simp))
  have R1 := Lib.hid (HR.out.past b1)
  have B1 := Lib.hid (below_step (bl_alloc (Below.refl w.heap.size w) (.cells #[.int .i64 0, .int .i64 0, .int .i64 0] 24)) b1)
  have hne : v.ownBlock ≠ some w.heap.size := fun h => by have := o1.row _ h; simp at this; omega
  clear o1 b1
  have r0 : (w1).cell? ⟨w.heap.size, 0, none⟩ = some (.int .i64 0) := R1.out.cell 0
  have r1 : (w1).cell? ⟨w.heap.size, 1, none⟩ = some (.int .i64 0) := R1.out.cell 1
  have r2 : (w1).cell? ⟨w.heap.size, 2, none⟩ = some (.int .i64 0) := R1.out.cell 2
  have f0 := R1.out.frozen 0
  have f1 := R1.out.frozen 1
  have f2 := R1.out.frozen 2
  have hl1 := R1.out.lt
  go_wp2
  refine bodyPost_ret (v := .tuple #[v, .agg #[.int .i64 x, .int .i64 y, .int .i64 z]]) (by simp [results, Try.results41, go_sem, r0, r1, r2]) rfl ?_
  exact ⟨_, _, _, _, _, rfl, hl, ((((O1.out.afar hne _).afar hne _).afar hne _).lower (by omega)), B1.out.trans (by repeat (first | assumption | exact Below.refl _ _ | apply Below.drew | apply below_drewN | (refine Below.setCell ?_ (by dsimp only; omega) _)))⟩
set_option maxRecDepth 4000 in
set_option maxHeartbeats 4000000 in
theorem drawWorstHour_any (A : Option Addr) (n c : Nat) (w : World) (hc : Bytes w A n) :
    Calls Try.prog 43 #[.slice A n c] w fun e w' => ∃ v l, ∃ x y z : Int, e = .returned (.tuple #[v, .agg #[.int .i64 x, .int .i64 y, .int .i64 z]]) ∧ List.length l ≤ 40 ∧ Own encBlow w' w.heap.size 62 v l ∧ Below w.heap.size w w' := by
  have HC := Lib.hid (hc.past (bl_alloc (Below.refl _ _) (.cells #[.int .i64 0, .int .i64 0, .int .i64 0] 24)))
  have HR := Lib.hid (Blk.new w 24 #[.int .i64 0, .int .i64 0, .int .i64 0])
  clear hc
  go_enter Try.func43, Try.ntmps43
  go_wp2_with fail
  refine (drawSpilledInAll_any A n c _ HC.out).mono ?_
  rintro e w1 ⟨v, l, x, y, z, rfl, hl, o1, b1⟩
  have O1 := Lib.hid (o1.lower (b := w.heap.size) (by simp))
  have R1 := Lib.hid (HR.out.past b1)
  have B1 := Lib.hid (below_step (bl_alloc (Below.refl w.heap.size w) (.cells #[.int .i64 0, .int .i64 0, .int .i64 0] 24)) b1)
  have hne : v.ownBlock ≠ some w.heap.size := fun h => by have := o1.row _ h; simp at this; omega
  clear o1 b1
  have r0 : (w1).cell? ⟨w.heap.size, 0, none⟩ = some (.int .i64 0) := R1.out.cell 0
  have r1 : (w1).cell? ⟨w.heap.size, 1, none⟩ = some (.int .i64 0) := R1.out.cell 1
  have r2 : (w1).cell? ⟨w.heap.size, 2, none⟩ = some (.int .i64 0) := R1.out.cell 2
  have f0 := R1.out.frozen 0
  have f1 := R1.out.frozen 1
  have f2 := R1.out.frozen 2
  have hl1 := R1.out.lt
  go_wp2
  refine bodyPost_ret (v := .tuple #[v, .agg #[.int .i64 x, .int .i64 y, .int .i64 z]]) (by simp [results, Try.results43, go_sem, r0, r1, r2]) rfl ?_
  exact ⟨_, _, _, _, _, rfl, hl, ((((O1.out.afar hne _).afar hne _).afar hne _).lower (by omega)), B1.out.trans (by repeat (first | assumption | exact Below.refl _ _ | apply Below.drew | apply below_drewN | (refine Below.setCell ?_ (by dsimp only; omega) _)))⟩
end Go.Proofs.Ytopdbacgceoddaa
