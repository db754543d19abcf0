/- Structs Contract: 7 ints. Copies, comparisons, lists. -/
import Derived.Test.YtcljfdpjlkaagaaDoorProg
import Derived.Test.YtcljfdpjlkaagaaDoorBase
namespace Go.Proofs.YtcljfdpjlkaagaaDoor
open Go.RowKit
structure Contract where
  id : Int
  grade : Int
  tons : Int
  price : Int
  first : Int
  last : Int
  fine : Int
deriving Inhabited
def encContract : Enc Contract := ⟨7, fun x => [x.id, x.grade, x.tons, x.price, x.first, x.last, x.fine], fun _ => rfl⟩
def mkContract : List Int → Contract
  | [a0, a1, a2, a3, a4, a5, a6] => ⟨a0, a1, a2, a3, a4, a5, a6⟩
  | _ => ⟨0, 0, 0, 0, 0, 0, 0⟩
theorem mkContract_f : ∀ zs : List Int, zs.length = encContract.k → encContract.f (mkContract zs) = zs
  | [a0, a1, a2, a3, a4, a5, a6], _ => rfl
  | [], h => by cases h
  | [a0], h => by cases h
  | [a0, a1], h => by cases h
  | [a0, a1, a2], h => by cases h
  | [a0, a1, a2, a3], h => by cases h
  | [a0, a1, a2, a3, a4], h => by cases h
  | [a0, a1, a2, a3, a4, a5], h => by cases h
  | a0 :: a1 :: a2 :: a3 :: a4 :: a5 :: a6 :: b :: r, h => by simp [encContract] at h
theorem Sl.contract {w : World} {B : Nat} {A : Option Addr} {l : List Contract} (h : Sl encContract w B A l) (hn : 0 < l.length) :
    ∃ b off, A = some ⟨b, off, none⟩ ∧ b < B ∧ ∀ i x, l[i]? = some x → w.cell? ⟨b, off + i * 7, none⟩ = some (.int .i64 x.id) ∧ w.cell? ⟨b, off + i * 7 + 1, none⟩ = some (.int .i64 x.grade) ∧ w.cell? ⟨b, off + i * 7 + 2, none⟩ = some (.int .i64 x.tons) ∧ w.cell? ⟨b, off + i * 7 + 3, none⟩ = some (.int .i64 x.price) ∧ w.cell? ⟨b, off + i * 7 + 4, none⟩ = some (.int .i64 x.first) ∧ w.cell? ⟨b, off + i * 7 + 5, none⟩ = some (.int .i64 x.last) ∧ w.cell? ⟨b, off + i * 7 + 6, none⟩ = some (.int .i64 x.fine) := by
  obtain ⟨b, off, e, hb, hc⟩ := h hn
  exact ⟨b, off, e, hb, fun i x hx => ⟨hc i x hx 0 _ rfl, hc i x hx 1 _ rfl, hc i x hx 2 _ rfl, hc i x hx 3 _ rfl, hc i x hx 4 _ rfl, hc i x hx 5 _ rfl, hc i x hx 6 _ rfl⟩⟩
set_option maxHeartbeats 1000000 in
theorem toContract_any (a0 a1 a2 a3 a4 a5 a6 : Int) (w : World) :
    Calls Tryd.prog 6 #[.agg #[.int .i64 a0, .int .i64 a1, .int .i64 a2, .int .i64 a3, .int .i64 a4, .int .i64 a5, .int .i64 a6]] w fun e w' => e = .returned (.agg #[.int .i64 a0, .int .i64 a1, .int .i64 a2, .int .i64 a3, .int .i64 a4, .int .i64 a5, .int .i64 a6]) ∧ Below w.heap.size w w' := by
  go_enter Tryd.func6, Tryd.ntmps6
  go_wp2
  refine bodyPost_ret (v := .agg #[.int .i64 a0, .int .i64 a1, .int .i64 a2, .int .i64 a3, .int .i64 a4, .int .i64 a5, .int .i64 a6]) (by simp [results, Tryd.results6, go_sem]) rfl ⟨rfl, ?_⟩
  exact (by repeat (first | assumption | exact Below.refl _ _ | apply bl_gw | apply bl_alloc | apply bl_drewN | apply bl_drew))
theorem info_Contract : (Tryd.prog.info? 26).map (fun i => (i.zero, i.size, i.bytes)) = some (some (.agg #[.int .i64 0, .int .i64 0, .int .i64 0, .int .i64 0, .int .i64 0, .int .i64 0, .int .i64 0]), 7, 56) := by kernel_rfl
end Go.Proofs.YtcljfdpjlkaagaaDoor
