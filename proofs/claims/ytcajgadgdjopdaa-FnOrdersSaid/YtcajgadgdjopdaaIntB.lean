/- Lists of ints: cells. -/
import Derived.Test.YtcajgadgdjopdaaProg
import Derived.Test.YtcajgadgdjopdaaTurn
namespace Go.Proofs.Ytcajgadgdjopdaa
open Go.RowKit
theorem Sl.int_ {w : World} {B : Nat} {A : Option Addr} {l : List Int} (h : Sl encInt w B A l) (hn : 0 < l.length) :
    ∃ b off, A = some ⟨b, off, none⟩ ∧ b < B ∧ ∀ i x, l[i]? = some x → w.cell? ⟨b, off + i, none⟩ = some (.int .i64 x) := by
  obtain ⟨b, off, e, hb, hc⟩ := h hn
  refine ⟨b, off, e, hb, fun i x hx => ?_⟩
  have := hc i x hx 0 x rfl
  simpa [encInt] using this
theorem info_Int : (Try.prog.info? 3).map (fun i => (i.zero, i.size, i.bytes)) = some (some (.int .i64 0), 1, 8) := by kernel_rfl
end Go.Proofs.Ytcajgadgdjopdaa
