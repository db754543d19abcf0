/- Structs Bittern: 3 ints. Copies, comparisons, lists. -/
import Derived.Test.YtcajgadgdjopdaaDoorProg
import Derived.Test.YtcajgadgdjopdaaDoorBase
namespace Go.Proofs.YtcajgadgdjopdaaDoor
open Go.RowKit
structure Bittern where
  id : Int
  kilos : Int
  bitter : Int
deriving Inhabited
def encBittern : Enc Bittern := ⟨3, fun x => [x.id, x.kilos, x.bitter], fun _ => rfl⟩
def mkBittern : List Int → Bittern
  | [a0, a1, a2] => ⟨a0, a1, a2⟩
  | _ => ⟨0, 0, 0⟩
theorem mkBittern_f : ∀ zs : List Int, zs.length = encBittern.k → encBittern.f (mkBittern zs) = zs
  | [a0, a1, a2], _ => rfl
  | [], h => by cases h
  | [a0], h => by cases h
  | [a0, a1], h => by cases h
  | a0 :: a1 :: a2 :: b :: r, h => by simp [encBittern] at h
theorem Sl.bittern {w : World} {B : Nat} {A : Option Addr} {l : List Bittern} (h : Sl encBittern w B A l) (hn : 0 < l.length) :
    ∃ b off, A = some ⟨b, off, none⟩ ∧ b < B ∧ ∀ i x, l[i]? = some x → w.cell? ⟨b, off + i * 3, none⟩ = some (.int .i64 x.id) ∧ w.cell? ⟨b, off + i * 3 + 1, none⟩ = some (.int .i64 x.kilos) ∧ w.cell? ⟨b, off + i * 3 + 2, none⟩ = some (.int .i64 x.bitter) := by
  obtain ⟨b, off, e, hb, hc⟩ := h hn
  exact ⟨b, off, e, hb, fun i x hx => ⟨hc i x hx 0 _ rfl, hc i x hx 1 _ rfl, hc i x hx 2 _ rfl⟩⟩
theorem info_Bittern : (Tryd.prog.info? 33).map (fun i => (i.zero, i.size, i.bytes)) = some (some (.agg #[.int .i64 0, .int .i64 0, .int .i64 0]), 3, 24) := by kernel_rfl
end Go.Proofs.YtcajgadgdjopdaaDoor
