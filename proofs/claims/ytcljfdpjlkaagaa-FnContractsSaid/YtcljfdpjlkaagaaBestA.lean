/- The best choice of contracts: the program's function. -/
import Derived.Test.YtcljfdpjlkaagaaBestP
namespace Go.Proofs.Ytcljfdpjlkaagaa
open Go.RowKit
def bestA (s : List Int) (l : List Contract) : Int := if allOK s l then bestP l (ordTo l l.length) s else 0
theorem ordIn_ord {l : List Contract} {n : Nat} : OrdIn n (ordTo l n) := fun x hx => ordTo_rng l n x hx
set_option maxRecDepth 4000 in
set_option maxHeartbeats 8000000 in
theorem impl_BestServed_any (s : List Int) (l : List Contract) (m n : Nat) (hm : s.length = m) (hn : l.length = n) (A A' : Option Addr) (cap cap' : Nat) (w : World) (hl' : m ≤ 1048576) (hl : n ≤ 1048576) (hc : Sl encInt w w.heap.size A s) (hd : Sl encContract w w.heap.size A' l) :
    Calls Try.prog 37 #[.slice A m cap, .slice A' n cap'] w fun e w' => e = .returned (.tuple #[.int .i64 (bestA s l), .bool (allOK s l)]) ∧ Below w.heap.size w w' := by
  have HC := Lib.hid hc; clear hc
  have HD := Lib.hid hd; clear hd
  have HN := Lib.hid hn; clear hn
  have HM := Lib.hid hm; clear hm
  rcases sp2 (stockOK s) (areContracts l) with t1 | ⟨t1, t2⟩ | ⟨t1, t2⟩
  · have hq : allOK s l = false := by simp [allOK, t1]
    have hp : bestA s l = 0 := by simp [bestA, hq]
    rw [hq, hp]
    clear hq hp
    go_enter Try.func37, Try.ntmps37
    go_wp2_with fail
    refine (isStock_any s m HM.out _ _ _ hl' HC.out).mono ?_
    rintro e w1 ⟨rfl, b1⟩
    rw [t1]
    have B1 := Lib.hid b1
    have D1 := Lib.hid (HD.out.past b1)
    clear b1
    go_wp2
    go_ret2
    exact ⟨rfl, B1.out⟩
  · have hq : allOK s l = false := by simp [allOK, t2]
    have hp : bestA s l = 0 := by simp [bestA, hq]
    rw [hq, hp]
    clear hq hp
    go_enter Try.func37, Try.ntmps37
    go_wp2_with fail
    refine (isStock_any s m HM.out _ _ _ hl' HC.out).mono ?_
    rintro e w1 ⟨rfl, b1⟩
    rw [t1]
    have B1 := Lib.hid b1
    have D1 := Lib.hid (HD.out.past b1)
    clear b1
    go_wp2_with fail
    refine (impl_AreContracts_any l n HN.out _ _ _ hl D1.out).mono ?_
    rintro e w2 ⟨rfl, b2⟩
    rw [t2]
    have B2 := Lib.hid (below_step B1.out b2)
    have C2 := Lib.hid (HC.out.past B2.out)
    have D2 := Lib.hid (HD.out.past B2.out)
    clear b2
    go_wp2
    go_ret2
    exact ⟨rfl, B2.out⟩
  · have hq : allOK s l = true := by simp [allOK, t1, t2]
    have HQ := Lib.hid hq
    have HP := Lib.hid (show bestA s l = bestP l (ordTo l n) s by rw [bestA, if_pos hq, HN.out])
    clear hq
    have HST := Lib.hid (stockOK_in t1)
    have HOK := Lib.hid (show ∀ (i : Nat) (x : Contract), l[i]? = some x → contractOK x = true from fun i x hx => areContracts_ok t2 hx)
    have hn10 : n ≤ 10 := by have := areContracts_len t2; rw [HN.out] at this; exact this
    have HM4 := Lib.hid (show m = 4 by rw [← HM.out]; exact HST.out.1)
    go_enter Try.func37, Try.ntmps37
    go_wp2_with fail
    refine (isStock_any s m HM.out _ _ _ hl' HC.out).mono ?_
    rintro e w1 ⟨rfl, b1⟩
    rw [t1]
    have B1 := Lib.hid b1
    have D1 := Lib.hid (HD.out.past b1)
    clear b1
    go_wp2_with fail
    refine (impl_AreContracts_any l n HN.out _ _ _ hl D1.out).mono ?_
    rintro e w2 ⟨rfl, b2⟩
    rw [t2]
    have B2 := Lib.hid (below_step B1.out b2)
    have C2 := Lib.hid (HC.out.past B2.out)
    have D2 := Lib.hid (HD.out.past B2.out)
    clear b2
    clear t1 t2
    have hm4 := HM4.out
    clear HM4
    subst hm4
    go_wp2_with fail
    refine (byUntil_any l n HN.out _ _ _ hn10 (HD.out.past B2.out)).mono ?_
    rintro e w6 ⟨v6, rfl, o6, b6⟩
    obtain ⟨A6, c6, rfl, h6, _, sl6⟩ := o6.slice
    rw [ordTo_length] at o6 h6 ⊢
    have S6 := Lib.hid sl6
    have B6 := Lib.hid (below_step B2.out b6)
    clear o6 b6 sl6
    go_wp2_with fail
    refine (bestServed_any l n HN.out hn10 HOK.out (ordTo l n) n (ordTo_length l n) s _ _ _ _ _ _ _ hn10 h6 ordIn_ord HST.out (HC.out.past B6.out) (HD.out.past B6.out) S6.out).mono ?_
    rintro e w7 ⟨rfl, b7⟩
    have B7 := Lib.hid (below_step B6.out b7)
    clear b7
    go_wp2
    go_ret2
    rw [HQ.out, HP.out]
    exact ⟨rfl, B7.out⟩
end Go.Proofs.Ytcljfdpjlkaagaa
