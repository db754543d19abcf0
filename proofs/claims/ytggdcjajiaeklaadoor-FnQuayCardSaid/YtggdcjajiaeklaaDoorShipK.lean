/- Ships: the copy of a list. -/
import Derived.Test.YtggdcjajiaeklaaDoorShipG
import Derived.Test.YtggdcjajiaeklaaDoorSet
import Derived.Lib.SliceRun
namespace Go.Proofs.YtggdcjajiaeklaaDoor
open Go.RowKit
set_option maxHeartbeats 2000000 in
theorem cloneShip_any (l : List Ship) (n : Nat) (hn : l.length = n) (A : Option Addr) (cap : Nat) (w : World) (hl : n ≤ 1048576) (hc : Sl encShip w w.heap.size A l) :
    Calls Tryd.prog 49 #[.slice A n cap] w fun e w' => ∃ v, e = .returned v ∧ Own encShip w' w.heap.size 26 v l ∧ Below w.heap.size w w' := by
  have q : ∀ (w : World) (a : Option Addr) (n c n' c' : Nat), (binOp .eql 31 (.slice a n c) (.slice none n' c')).run Tryd.prog w = .ok (.bool a.isNone) w := fun w a n c n' c' => Lib.run_eql_slice_nil w _ _ a n c n' c' Tryd.underlying31
  have HC := Lib.hid hc; clear hc
  obtain ⟨i0, hi, hz0, hz1, hz2⟩ := info_parts info_Ship
  rcases A with _ | ad
  · have h0 : l = [] := by
      rcases l with _ | ⟨x, r⟩
      · rfl
      · obtain ⟨_, _, h, _⟩ := HC.out (by simp)
        cases h
    subst h0
    go_enter Tryd.func49, Tryd.ntmps49
    go_wp2
    go_ret
    exact ⟨_, rfl, Own.none_, Below.refl _ _⟩
  · have HN := Lib.hid hn; clear hn
    go_enter Tryd.func49, Tryd.ntmps49
    go_wp2_with (at_builtin; refine wpList_app (E := encShip) _ rfl (.tmp 5) (.tmp 6) 31 rfl w.heap.size 26 i0 _ 48 Tryd.underlying31 hi hz0 hz1 hz2 rfl (by decide) (.slice (some ⟨w.heap.size, 0, none⟩) 0 0) [] rfl (Own.nil_ (Nat.le_refl _) _) _ (some ad) n cap l rfl HN.out (HC.out.past (bl_alloc (Below.refl _ _) _)) (by simp [maxLen]; omega) (by simp; omega) (by simp) ?_; intro v' w' ho hg _; have HO := Lib.hid ho; have HG := Lib.hid hg; clear ho hg)
    go_ret
    exact ⟨_, rfl, by simpa using HO.out, below_grown (bl_alloc (Below.refl _ _) _) HG.out (by intro k hk; simp [Value.ownBlock] at hk; omega)⟩
end Go.Proofs.YtggdcjajiaeklaaDoor
