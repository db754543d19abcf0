/- A region that draws its order, whose last operations come last in every order: the others only look. -/
import Derived.Test.YtcajgadgdjopdaaBase
import Derived.StillTailTactics
namespace Go.Proofs.Ytcajgadgdjopdaa
open Go.RowKit
theorem wp_region_tail {P : Program} {id : Nat} {Q : Exit → Act → World → Prop} {a : Act} {w : World} {l : List Oper} (n : Nat) (hm : P.follows .mixedOrders = true) (hB : Region.lexTailB .any l.toArray n = true)
    (h : ∀ W : World, W = w.drew → (∀ p, W.cell? p = w.cell? p) → (∀ p, W.frozen? p = w.frozen? p) → W.heap.size = w.heap.size → wpStill P l.toArray W (fun a' => wpList P l.toArray Q (l.drop n) a' W) (l.take n) a) : (Code.region id l.toArray true).wp P Q a w :=
  wp_region_still_tail n hm hB (h w.drew rfl (fun _ => rfl) (fun _ => rfl) rfl)
theorem below_lt {w w' : World} {n : Nat} (h : n < w.heap.size) (hb : Below w.heap.size w w') : n < w'.heap.size := Nat.lt_of_lt_of_le h hb.size
theorem Blk.new (w : World) (t : TypeId) (cs : Array Value) : Blk (w.alloc (.cells cs t)) w.heap.size t cs := heap_alloc_new w _
end Go.Proofs.Ytcajgadgdjopdaa
