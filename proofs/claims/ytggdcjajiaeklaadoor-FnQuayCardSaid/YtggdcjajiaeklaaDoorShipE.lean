/- Walks of ships: whether a ship may lie at the quay, and the days on which it may. -/
import Derived.Test.YtggdcjajiaeklaaDoorShipD
import Derived.Test.YtggdcjajiaeklaaDoorTail
import Derived.Test.YtggdcjajiaeklaaDoorApp
namespace Go.Proofs.YtggdcjajiaeklaaDoor
open Go.RowKit
def mayP (s : Ship) (l : List Int) (k : Nat) : Bool := inB k s.come (s.leave - 1) && decide (s.draft ≤ l[k]!)
theorem areShips_len {l : List Ship} (h : areShips l = true) : l.length ≤ 8 := by
  simp only [areShips, Bool.and_eq_true, decide_eq_true_eq] at h; exact h.1
theorem areShips_ok {l : List Ship} (h : areShips l = true) {k : Nat} {x : Ship} (hx : l[k]? = some x) : shipOK x = true := by
  simp only [areShips, Bool.and_eq_true, Option.isNone_iff_eq_none] at h
  have := firstTo_none h.2 k (List.getElem?_eq_some_iff.1 hx).1
  simp only [badShip, List.getElem!_of_getElem? hx, Bool.not_eq_false', Bool.and_eq_true] at this
  exact this.1
theorem shipOK_at {x : Ship} (h : shipOK x = true) : (1 ≤ x.id ∧ x.id ≤ 99) ∧ (0 ≤ x.come ∧ x.come ≤ 4000) ∧ (0 ≤ x.leave ∧ x.leave ≤ 4000) ∧ x.come < x.leave ∧ (10 ≤ x.draft ∧ x.draft ≤ 90) ∧ (1 ≤ x.holds ∧ x.holds ≤ 3000) ∧ (0 ≤ x.loaded ∧ x.loaded ≤ x.holds) := by
  simp only [shipOK, Bool.and_eq_true, decide_eq_true_eq] at h
  exact ⟨inB_true h.1, inB_true h.2.1, inB_true h.2.2.1, h.2.2.2.1, inB_true h.2.2.2.2.1, inB_true h.2.2.2.2.2.1, inB_true h.2.2.2.2.2.2⟩
set_option maxRecDepth 4000 in
set_option maxHeartbeats 4000000 in
theorem mayLie_any (a b c d e f : Int) (l : List Int) (n : Nat) (hn : l.length = n) (A : Option Addr) (cap k : Nat) (w : World) (hk : k < n) (h0 : 0 ≤ c) (h1 : c ≤ 4000) (hl : n ≤ 1048576) (hc : Sl encInt w w.heap.size A l) :
    Calls Tryd.prog 36 #[.agg #[.int .i64 a, .int .i64 b, .int .i64 c, .int .i64 d, .int .i64 e, .int .i64 f], .slice A n cap, .int .i64 k] w fun x w' => x = .returned (.bool (mayP ⟨a, b, c, d, e, f⟩ l k)) ∧ Below w.heap.size w w' := by
  obtain ⟨bk, off, rfl, hb, hcs⟩ := hc.int_ (by rw [hn]; omega)
  have hx : l[k]? = some (l[k]'(by rw [hn]; exact hk)) := List.getElem?_eq_getElem _
  generalize l[k]'(by rw [hn]; exact hk) = y at hx
  have c0 := hcs k y hx
  have hd : mayP ⟨a, b, c, d, e, f⟩ l k = (inB k b (c - 1) && decide (d ≤ y)) := by simp [mayP, List.getElem!_of_getElem? hx]
  rw [hd]
  clear hd hx hcs hc hn
  have k1 : (k : Int) < n := by omega
  have k2 : (0 : Int) ≤ k := by omega
  have k3 : IntKind.i64.wrap (c - 1) = c - 1 := IntWalk.i64_in _ (by omega)
  rcases sp1 (inB k b (c - 1)) with t | t
  all_goals
    go_enter Tryd.func36, Tryd.ntmps36
    go_wp2
    refine wp_region_gw (by kernel_rfl) (by kernel_rfl) ?_
    repeat (first | go_big_quiet_step ((go_at_call 53; exact quiet_gw_same (within_q (by assumption) _))) | quiet_step ((go_at_call 53; exact quiet_gw_same (within_q (by assumption) _))))
    refine wpQuiet_nil ?_
    rintro _ ⟨pq, rfl⟩
    go_wp2
    go_ret
    exact ⟨ret_bool (by simp [t]), (by repeat (first | assumption | exact Below.refl _ _ | apply bl_gw | apply bl_alloc | apply bl_drewN | apply bl_drew))⟩
theorem mayLie_q {a b c d e f : Int} {l : List Int} {n : Nat} (hn : l.length = n) (A : Option Addr) (cap k : Nat) {v : Bool} (w : World) (h : mayP ⟨a, b, c, d, e, f⟩ l k = v) (hk : k < n) (h0 : 0 ≤ c) (h1 : c ≤ 4000) (hl : n ≤ 1048576) (hc : Sl encInt w w.heap.size A l) :
    Calls Tryd.prog 36 #[.agg #[.int .i64 a, .int .i64 b, .int .i64 c, .int .i64 d, .int .i64 e, .int .i64 f], .slice A n cap, .int .i64 k] w fun x w' => x = .returned (.bool v) ∧ Below w.heap.size w w' := h ▸ mayLie_any a b c d e f l n hn A cap k w hk h0 h1 hl hc
set_option maxRecDepth 4000 in
set_option maxHeartbeats 4000000 in
theorem l17May_any (a b c d e f : Int) (l : List Int) (n : Nat) (hn : l.length = n) (A : Option Addr) (cap k : Nat) (w : World) (hk : k < n) (h0 : 0 ≤ c) (h1 : c ≤ 4000) (hl : n ≤ 1048576) (hc : Sl encInt w w.heap.size A l) :
    Calls Tryd.prog 50 #[.agg #[.int .i64 a, .int .i64 b, .int .i64 c, .int .i64 d, .int .i64 e, .int .i64 f], .slice A n cap, .int .i64 k] w fun x w' => x = .returned (.bool (mayP ⟨a, b, c, d, e, f⟩ l k)) ∧ Below w.heap.size w w' := by
  obtain ⟨bk, off, rfl, hb, hcs⟩ := hc.int_ (by rw [hn]; omega)
  have hx : l[k]? = some (l[k]'(by rw [hn]; exact hk)) := List.getElem?_eq_getElem _
  generalize l[k]'(by rw [hn]; exact hk) = y at hx
  have c0 := hcs k y hx
  have hd : mayP ⟨a, b, c, d, e, f⟩ l k = (inB k b (c - 1) && decide (d ≤ y)) := by simp [mayP, List.getElem!_of_getElem? hx]
  rw [hd]
  clear hd hx hcs hc hn
  have k1 : (k : Int) < n := by omega
  have k2 : (0 : Int) ≤ k := by omega
  have k3 : IntKind.i64.wrap (c - 1) = c - 1 := IntWalk.i64_in _ (by omega)
  rcases sp1 (inB k b (c - 1)) with t | t
  all_goals
    go_enter Tryd.func50, Tryd.ntmps50
    go_wp2
    refine wp_region_gw (by kernel_rfl) (by kernel_rfl) ?_
    repeat (first | go_big_quiet_step ((go_at_call 33; exact quiet_gw_same (l1In_q (by assumption) _))) | quiet_step ((go_at_call 33; exact quiet_gw_same (l1In_q (by assumption) _))))
    refine wpQuiet_nil ?_
    rintro _ ⟨pq, rfl⟩
    go_wp2
    go_ret
    exact ⟨ret_bool (by simp [t]), (by repeat (first | assumption | exact Below.refl _ _ | apply bl_gw | apply bl_alloc | apply bl_drewN | apply bl_drew))⟩
theorem l17May_q {a b c d e f : Int} {l : List Int} {n : Nat} (hn : l.length = n) (A : Option Addr) (cap k : Nat) {v : Bool} (w : World) (h : mayP ⟨a, b, c, d, e, f⟩ l k = v) (hk : k < n) (h0 : 0 ≤ c) (h1 : c ≤ 4000) (hl : n ≤ 1048576) (hc : Sl encInt w w.heap.size A l) :
    Calls Tryd.prog 50 #[.agg #[.int .i64 a, .int .i64 b, .int .i64 c, .int .i64 d, .int .i64 e, .int .i64 f], .slice A n cap, .int .i64 k] w fun x w' => x = .returned (.bool v) ∧ Below w.heap.size w w' := h ▸ l17May_any a b c d e f l n hn A cap k w hk h0 h1 hl hc
end Go.Proofs.YtggdcjajiaeklaaDoor
