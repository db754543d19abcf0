/- Casks in the order of their bitterness: the program's copy, sorted. -/
import Derived.Test.YtcajgadgdjopdaaSortB
import Derived.Lib.SliceRun
namespace Go.Proofs.Ytcajgadgdjopdaa
open Go.RowKit
set_option maxHeartbeats 2000000 in
theorem cloneBittern_any (l : List Bittern) (n : Nat) (hn : l.length = n) (A : Option Addr) (cap : Nat) (w : World) (hl : n ≤ 1048576) (hc : Sl encBittern w w.heap.size A l) :
    Calls Try.prog 56 #[.slice A n cap] w fun e w' => ∃ v, e = .returned v ∧ Own encBittern w' w.heap.size 69 v l ∧ Below w.heap.size w w' := by
  have q : ∀ (w : World) (a : Option Addr) (n c n' c' : Nat), (binOp .eql 24 (.slice a n c) (.slice none n' c')).run Try.prog w = .ok (.bool a.isNone) w := fun w a n c n' c' => Lib.run_eql_slice_nil w _ _ a n c n' c' Try.underlying24
  have HC := Lib.hid hc; clear hc
  obtain ⟨i0, hi, hz0, hz1, hz2⟩ := info_parts info_Bittern
  rcases A with _ | ad
  · have h0 : l = [] := by
      rcases l with _ | ⟨x, r⟩
      · rfl
      · obtain ⟨_, _, h, _⟩ := HC.out (by simp)
        cases h
    subst h0
    go_enter Try.func56, Try.ntmps56
    go_wp2
    go_ret
    exact ⟨_, rfl, Own.none_, Below.refl _ _⟩
  · have HN := Lib.hid hn; clear hn
    go_enter Try.func56, Try.ntmps56
    go_wp2_with (at_builtin; refine wpList_app (E := encBittern) _ rfl (.tmp 5) (.tmp 6) 24 rfl w.heap.size 69 i0 _ 24 Try.underlying24 hi hz0 hz1 hz2 rfl (by decide) (.slice (some ⟨w.heap.size, 0, none⟩) 0 0) [] rfl (Own.nil_ (Nat.le_refl _) _) _ (some ad) n cap l rfl HN.out (HC.out.past (bl_alloc (Below.refl _ _) _)) (by simp [maxLen]; omega) (by simp; omega) (by simp) ?_; intro v' w' ho hg _; have HO := Lib.hid ho; have HG := Lib.hid hg; clear ho hg)
    go_ret
    exact ⟨_, rfl, by simpa using HO.out, below_grown (bl_alloc (Below.refl _ _) _) HG.out (by intro k hk; simp [Value.ownBlock] at hk; omega)⟩
set_option maxHeartbeats 2000000 in
theorem byBitter_any (l : List Bittern) (n : Nat) (hn : l.length = n) (A : Option Addr) (cap : Nat) (w : World) (hl : n ≤ 10) (hc : Sl encBittern w w.heap.size A l) :
    Calls Try.prog 43 #[.slice A n cap] w fun e w' => ∃ v, e = .returned v ∧ Own encBittern w' w.heap.size 69 v (insToB l n) ∧ Below w.heap.size w w' := by
  have HC := Lib.hid hc; clear hc
  have HN := Lib.hid hn; clear hn
  go_enter Try.func43, Try.ntmps43
  go_wp2_with fail
  refine (cloneBittern_any l n HN.out _ _ _ (by omega) HC.out).mono ?_
  rintro e w1 ⟨v1, rfl, o1, b1⟩
  obtain ⟨A1, c1, rfl, _, _, _⟩ := o1.slice
  rw [HN.out] at o1 ⊢
  have O1 := Lib.hid o1
  have B1 := Lib.hid b1
  have hz := b1.size
  clear o1 b1
  go_wp2_with fail
  refine (sortStableCB_any l n HN.out A1 w.heap.size c1 _ hl hz O1.out).mono ?_
  rintro e w2 ⟨⟨v, rfl⟩, o2, b2⟩
  have O2 := Lib.hid o2
  have B2 := Lib.hid (B1.out.trans b2)
  clear o2 b2
  go_wp2
  go_ret
  exact ⟨_, rfl, O2.out, B2.out⟩
end Go.Proofs.Ytcajgadgdjopdaa
