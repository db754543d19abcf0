/- append of one element that was built just before; of a list that was built empty. -/
import Derived.Test.YtcajgadgdjopdaaApp
namespace Go.Proofs.Ytcajgadgdjopdaa
open Go.RowKit
section
variable {P : Program} {α : Type} {E : Enc α}
theorem wpList_app1 {w3 : World} {ops : Array Oper} {rest : List Oper} {o : Oper} {a : Act} {Q : Exit → Act → World → Prop} (hgd : o.guard = none) (s x : Operand) (t : TypeId)
    (ho : o.op = .call { callee := .builtin .append, args := #[s, x], argTypes := #[t, t] })
    (base : Nat) (e : TypeId) (i : TypeInfo) (z : Value) (bytes : Nat) (ht : P.underlying t = some (.slice e)) (hi : P.info? e = some i) (hz : i.zero = some z)
    (hsize : i.size = E.k) (hby : i.bytes = bytes) (hzs : z.cells.size = E.k) (hsz : 0 < E.k) (v : Value) (l : List α) (hs : a.eval s = v) (hown : Own E w3 base e v l)
    (y : α) (cs : Array Value) (hcs : cs.toList = flat E [y]) (hx : a.eval x = .slice (some ⟨w3.heap.size, 0, none⟩) 1 1) (h63 : l.length + 1 ≤ maxLen) (hbytes : (l.length + 1) * bytes ≤ 140737488355328) (hbase : base ≤ w3.heap.size)
    (h : ∀ v' w', Own E w' base e v' (l ++ [y]) → (∀ w0 : World, w0.heap.size ≤ base → Below w0.heap.size w0 w3 → Below w0.heap.size w0 w') → wpList P ops Q rest (a.put o.dst v') w') : wpList P ops Q (o :: rest) a (w3.alloc (.cells cs e)) := by
  have hb : Own E (w3.alloc (.cells cs e)) w3.heap.size e (.slice (some ⟨w3.heap.size, 0, none⟩) 1 1) [y] := Own.build (n := 1) (Nat.le_refl _) (heap_alloc_new w3 _) hcs rfl (by decide)
  refine wpList_app (E := E) _ hgd s x t ho base e i z bytes ht hi hz hsize hby hzs hsz v l hs (hown.past (bl_alloc (Below.refl _ _) _) (Nat.le_refl _)) _ _ 1 1 [y] hx rfl (Own.sl hb).2 h63 hbytes (by simp; omega) ?_
  intro v' w' h1 h2 h3
  refine h v' w' h1 (fun w0 h0 hw => ?_)
  refine below_grown (bl_alloc hw _) h2 (fun k hk => ?_)
  have := hown.row k hk
  omega
end
theorem Own.nil_ {α : Type} {E : Enc α} {w : World} {base : Nat} (hb : base ≤ w.heap.size) (t : TypeId) : Own E (w.alloc (.cells #[] t)) base t (.slice (some ⟨w.heap.size, 0, none⟩) 0 0) ([] : List α) :=
  Own.build (n := 0) hb (heap_alloc_new w _) rfl rfl (by decide)
end Go.Proofs.Ytcajgadgdjopdaa
