/- Structs Ship: 6 ints. Copies, comparisons, lists. -/
import Derived.Test.YtggdcjajiaeklaaDoorProg
import Derived.Test.YtggdcjajiaeklaaDoorBase
namespace Go.Proofs.YtggdcjajiaeklaaDoor
open Go.RowKit
structure Ship where
  id : Int
  come : Int
  leave : Int
  draft : Int
  holds : Int
  loaded : Int
deriving Inhabited
def encShip : Enc Ship := ⟨6, fun x => [x.id, x.come, x.leave, x.draft, x.holds, x.loaded], fun _ => rfl⟩
def mkShip : List Int → Ship
  | [a0, a1, a2, a3, a4, a5] => ⟨a0, a1, a2, a3, a4, a5⟩
  | _ => ⟨0, 0, 0, 0, 0, 0⟩
theorem mkShip_f : ∀ zs : List Int, zs.length = encShip.k → encShip.f (mkShip zs) = zs
  | [a0, a1, a2, a3, a4, a5], _ => rfl
  | [], h => by cases h
  | [a0], h => by cases h
  | [a0, a1], h => by cases h
  | [a0, a1, a2], h => by cases h
  | [a0, a1, a2, a3], h => by cases h
  | [a0, a1, a2, a3, a4], h => by cases h
  | a0 :: a1 :: a2 :: a3 :: a4 :: a5 :: b :: r, h => by simp [encShip] at h
theorem Sl.ship {w : World} {B : Nat} {A : Option Addr} {l : List Ship} (h : Sl encShip w B A l) (hn : 0 < l.length) :
    ∃ b off, A = some ⟨b, off, none⟩ ∧ b < B ∧ ∀ i x, l[i]? = some x → w.cell? ⟨b, off + i * 6, none⟩ = some (.int .i64 x.id) ∧ w.cell? ⟨b, off + i * 6 + 1, none⟩ = some (.int .i64 x.come) ∧ w.cell? ⟨b, off + i * 6 + 2, none⟩ = some (.int .i64 x.leave) ∧ w.cell? ⟨b, off + i * 6 + 3, none⟩ = some (.int .i64 x.draft) ∧ w.cell? ⟨b, off + i * 6 + 4, none⟩ = some (.int .i64 x.holds) ∧ w.cell? ⟨b, off + i * 6 + 5, none⟩ = some (.int .i64 x.loaded) := by
  obtain ⟨b, off, e, hb, hc⟩ := h hn
  exact ⟨b, off, e, hb, fun i x hx => ⟨hc i x hx 0 _ rfl, hc i x hx 1 _ rfl, hc i x hx 2 _ rfl, hc i x hx 3 _ rfl, hc i x hx 4 _ rfl, hc i x hx 5 _ rfl⟩⟩
set_option maxHeartbeats 1000000 in
theorem toShip_any (a0 a1 a2 a3 a4 a5 : Int) (w : World) :
    Calls Tryd.prog 6 #[.agg #[.int .i64 a0, .int .i64 a1, .int .i64 a2, .int .i64 a3, .int .i64 a4, .int .i64 a5]] w fun e w' => e = .returned (.agg #[.int .i64 a0, .int .i64 a1, .int .i64 a2, .int .i64 a3, .int .i64 a4, .int .i64 a5]) ∧ Below w.heap.size w w' := by
  go_enter Tryd.func6, Tryd.ntmps6
  go_wp2
  refine bodyPost_ret (v := .agg #[.int .i64 a0, .int .i64 a1, .int .i64 a2, .int .i64 a3, .int .i64 a4, .int .i64 a5]) (by simp [results, Tryd.results6, go_sem]) rfl ⟨rfl, ?_⟩
  exact (by repeat (first | assumption | exact Below.refl _ _ | apply bl_gw | apply bl_alloc | apply bl_drewN | apply bl_drew))
theorem info_Ship : (Tryd.prog.info? 26).map (fun i => (i.zero, i.size, i.bytes)) = some (some (.agg #[.int .i64 0, .int .i64 0, .int .i64 0, .int .i64 0, .int .i64 0, .int .i64 0]), 6, 48) := by kernel_rfl
end Go.Proofs.YtggdcjajiaeklaaDoor
