/- Ships: the water that is needed. -/
import Derived.Test.YtggdcjajiaeklaaDoorShipE
import Derived.Test.YtggdcjajiaeklaaDoorSet
import Derived.Laws.OwnMore
namespace Go.Proofs.YtggdcjajiaeklaaDoor
open Go.RowKit
theorem own_made {w : World} {base g n : Nat} {e : TypeId} (h : w.ownsRow base e 1 (.slice (some ⟨g, 0, none⟩) n n) n (madeCells (Value.int .i64 0).cells (n * 1)).toList) : Own encInt w base e (.slice (some ⟨g, 0, none⟩) n n) (List.replicate n 0) := by
  unfold Own
  have e1 : flat encInt (List.replicate n 0) = (madeCells (Value.int .i64 0).cells (n * 1)).toList := by
    rw [show (Value.int .i64 0).cells = #[.int .i64 0] from rfl, toList_madeCells_one]
    simp [flat, encInt, List.flatMap_replicate]
  rw [e1, List.length_replicate]
  exact h
theorem Own.setInt {w : World} {base n c g i : Nat} {e : TypeId} {l : List Int} (h : Own encInt w base e (.slice (some ⟨g, 0, none⟩) n c) l) (hi : i < n) (z : Int) :
    Own encInt (w.setCell ⟨g, i, none⟩ (.int .i64 z)) base e (.slice (some ⟨g, 0, none⟩) n c) (l.set i z) := by
  have hlen := h.len
  exact h.setField hi (x := l[i]'(by omega)) (j := 0) (y := z) (z := z) (List.getElem?_eq_getElem _) (by decide) rfl (by simp [encInt])
theorem Own.int {w : World} {base g n c i : Nat} {e : TypeId} {l : List Int} {x : Int} (h : Own encInt w base e (.slice (some ⟨g, 0, none⟩) n c) l) (hx : l[i]? = some x) :
    g < w.heap.size ∧ w.cell? ⟨g, i, none⟩ = some (.int .i64 x) := by
  obtain ⟨b, off, e', hb, hc⟩ := h.rd.int_ (by have := (List.getElem?_eq_some_iff.1 hx).1; omega)
  injection e' with e'
  injection e' with e1 e2
  subst e1 e2
  have := hc i x hx
  simp only [Nat.zero_add] at this
  exact ⟨hb, this⟩
def lastTo (l : List Ship) (k : Nat) : Int := loopTo (fun i t => max t l[i]!.leave) 0 k
theorem lastTo_succ (l : List Ship) (k : Nat) : lastTo l (k + 1) = max (lastTo l k) l[k]!.leave := rfl
theorem lastTo_rng {l : List Ship} (hok : ∀ (i : Nat) (x : Ship), l[i]? = some x → shipOK x = true) : ∀ k, k ≤ l.length → 0 ≤ lastTo l k ∧ lastTo l k ≤ 4000 ∧ ∀ i, i < k → l[i]!.leave ≤ lastTo l k
  | 0, _ => by simp [lastTo, loopTo]
  | k + 1, hk => by
    obtain ⟨h1, h2, h3⟩ := lastTo_rng hok k (by omega)
    have hx : l[k]? = some (l[k]'(by omega)) := List.getElem?_eq_getElem _
    obtain ⟨_, _, ⟨h4, h5⟩, _⟩ := shipOK_at (hok k _ hx)
    rw [lastTo_succ, List.getElem!_of_getElem? hx]
    refine ⟨by omega, by omega, fun i hi => ?_⟩
    by_cases e : i = k
    · subst e; rw [List.getElem!_of_getElem? hx]; omega
    · have := h3 i (by omega); omega
def needs (x : Ship) (d : Nat) : Bool := inB d x.come (x.leave - 1) && decide (x.loaded < x.holds)
def mostTo (l : List Ship) (d : Nat) (k : Nat) : Int := loopTo (fun i t => if needs l[i]! d then max t l[i]!.draft else t) 0 k
theorem mostTo_succ (l : List Ship) (d k : Nat) : mostTo l d (k + 1) = if needs l[k]! d then max (mostTo l d k) l[k]!.draft else mostTo l d k := rfl
def needOK (l : List Ship) : Bool := areShips l && decide (lastTo l l.length ≤ 400)
def needTo (l : List Ship) (n : Nat) (d : Nat) : List Int := (List.range d).map fun e => mostTo l e n
theorem needTo_succ (l : List Ship) (n d : Nat) : needTo l n (d + 1) = needTo l n d ++ [mostTo l d n] := by simp [needTo, List.range_succ]
theorem needTo_length (l : List Ship) (n d : Nat) : (needTo l n d).length = d := by simp [needTo]
def needP (l : List Ship) : List Int := if needOK l then needTo l l.length (lastTo l l.length).toNat else []
theorem needP_length (l : List Ship) : (needP l).length ≤ 1000000 := by
  unfold needP
  split
  · rename_i h
    simp only [needOK, Bool.and_eq_true, decide_eq_true_eq] at h
    rw [needTo_length]
    omega
  · simp
theorem needTo_zero (l : List Ship) (L : Nat) : needTo l 0 L = List.replicate L 0 := by
  unfold needTo
  rw [show (fun e => mostTo l e 0) = fun _ => (0 : Int) from rfl, List.map_const', List.length_range]
/-- The row while the ship k is laid in, up to the day d. -/
def midTo (l : List Ship) (L k : Nat) (c d : Nat) : List Int := (List.range L).map fun e => if c ≤ e ∧ e < d then mostTo l e (k + 1) else mostTo l e k
theorem midTo_start (l : List Ship) (L k c : Nat) : midTo l L k c c = needTo l k L := by
  unfold midTo needTo
  refine List.map_congr_left fun e _ => ?_
  rw [if_neg (by omega)]
theorem midTo_end {l : List Ship} {L k c d : Nat} {x : Ship} (hx : l[k]? = some x) (hc : x.come = c) (hd : x.leave = d) : midTo l L k c d = needTo l (k + 1) L := by
  unfold midTo needTo
  refine List.map_congr_left fun e _ => ?_
  split
  · rfl
  · rename_i h
    rw [mostTo_succ, List.getElem!_of_getElem? hx, needs, hc, hd]
    rw [inB_no (by omega)]
    rfl
theorem midTo_step {l : List Ship} {L k c d D : Nat} {x : Ship} (hx : l[k]? = some x) (hc : x.come = c) (hD : x.leave = D) (hcd : c ≤ d) (hdD : d < D) (hf : x.loaded < x.holds) (hdL : d < L) :
    (midTo l L k c d)[d]? = some (mostTo l d k) ∧ (midTo l L k c d).set d (max (mostTo l d k) x.draft) = midTo l L k c (d + 1) := by
  have e1 : mostTo l d (k + 1) = max (mostTo l d k) x.draft := by
    rw [mostTo_succ, List.getElem!_of_getElem? hx, needs, hc, hD, inB_mk (by omega) (by omega), decide_eq_true hf]
    rfl
  refine ⟨?_, ?_⟩
  · simp only [midTo, List.getElem?_map, List.getElem?_range hdL, Option.map_some]
    rw [if_neg (by omega)]
  · apply List.ext_getElem?
    intro i
    rw [List.getElem?_set]
    by_cases hi : d = i
    · subst hi
      rw [if_pos rfl]
      simp only [midTo, List.getElem?_map, List.getElem?_range hdL, Option.map_some, List.length_map, List.length_range]
      rw [if_pos hdL, if_pos (by omega), e1]
    · rw [if_neg hi]
      simp only [midTo, List.getElem?_map]
      by_cases hiL : i < L
      · rw [List.getElem?_range hiL]
        simp only [Option.map_some]
        by_cases h : c ≤ i ∧ i < d
        · rw [if_pos h, if_pos (by omega)]
        · rw [if_neg h, if_neg (by omega)]
      · rw [List.getElem?_eq_none (by simp; omega)]
        rfl
theorem midTo_length (l : List Ship) (L k c d : Nat) : (midTo l L k c d).length = L := by simp [midTo]
theorem mostTo_rng {l : List Ship} (hok : ∀ (i : Nat) (x : Ship), l[i]? = some x → shipOK x = true) (d : Nat) : ∀ k, k ≤ l.length → 0 ≤ mostTo l d k ∧ mostTo l d k ≤ 90
  | 0, _ => by simp [mostTo, loopTo]
  | k + 1, hk => by
    obtain ⟨h1, h2⟩ := mostTo_rng hok d k (by omega)
    have hx : l[k]? = some (l[k]'(by omega)) := List.getElem?_eq_getElem _
    obtain ⟨_, _, _, _, ⟨h4, h5⟩, _⟩ := shipOK_at (hok k _ hx)
    rw [mostTo_succ, List.getElem!_of_getElem? hx]
    split <;> omega
set_option maxHeartbeats 400000 in
theorem l1Most_any (a b : Int) (w : World) :
    Calls Tryd.prog 32 #[.int .i64 a, .int .i64 b] w fun e w' => e = .returned (.int .i64 (max a b)) ∧ w = w' := by
  go_enter Tryd.func32, Tryd.ntmps32
  go_wp2
  all_goals go_ret
  all_goals exact ⟨ret_int (by first | omega | (simp; omega)), rfl⟩
set_option maxRecDepth 4000 in
set_option maxHeartbeats 8000000 in
theorem spec_NeededWater_any (l : List Ship) (n : Nat) (hn : l.length = n) (A : Option Addr) (cap : Nat) (w : World) (hcap : n ≤ cap) (hl : n ≤ 1048576) (hc : Sl encShip w w.heap.size A l) :
    Calls Tryd.prog 11 #[.slice A n cap] w fun e w' => ∃ v, e = .returned (.tuple #[v, .bool (needOK l)]) ∧ Own encInt w' w.heap.size 3 v (needP l) ∧ Below w.heap.size w w' := by
  have HC := Lib.hid hc; clear hc
  have HN := Lib.hid hn; clear hn
  have HO := Lib.hid (show Own encInt (w.alloc (.cells #[] 3)) w.heap.size 3 (.slice (some ⟨w.heap.size, 0, none⟩) 0 0) [] from Own.nil_ (Nat.le_refl _) _)
  rcases sp1 (areShips l) with t1 | t1
  · have hq : needOK l = false := by simp [needOK, t1]
    have hp : needP l = [] := by simp [needP, hq]
    rw [hq, hp]
    clear hq hp
    go_enter Tryd.func11, Tryd.ntmps11
    go_wp2_with fail
    refine (l17Good_any l n HN.out _ _ _ hcap hl (HC.out.past (bl_alloc (Below.refl _ _) _))).mono ?_
    rintro e w1 ⟨rfl, b1⟩
    rw [t1]
    have B1 := Lib.hid (below_step (bl_alloc (Below.refl _ _) _) b1)
    have HO1 := Lib.hid (HO.out.past b1 (Nat.le_refl _))
    clear b1
    go_wp2
    go_ret2
    exact ⟨_, rfl, HO1.out, B1.out⟩
  · have HOK := Lib.hid (show ∀ (i : Nat) (x : Ship), l[i]? = some x → shipOK x = true from fun i x hx => areShips_ok t1 hx)
    have HT1 := Lib.hid t1
    obtain ⟨i0, hinf, hz0, hz1, hz2⟩ := info_parts info_Int
    go_enter Tryd.func11, Tryd.ntmps11
    go_wp2_with fail
    refine (l17Good_any l n HN.out _ _ _ hcap hl (HC.out.past (bl_alloc (Below.refl _ _) _))).mono ?_
    rintro e w1 ⟨rfl, b1⟩
    rw [t1]
    have B1 := Lib.hid (below_step (bl_alloc (Below.refl _ _) _) b1)
    have HO1 := Lib.hid (HO.out.past b1 (Nat.le_refl _))
    clear b1 t1
    go_wp2
    go_loopw [5, 6] (fun u j wr => ∃ k : Nat, k ≤ n ∧ j = .int .i64 k ∧ u = .int .i64 (lastTo l k) ∧ Below w1.heap.size w1 wr) (fun _ j _ => n - (intOf j).toNat)
    case atStart => exact ⟨0, Nat.zero_le _, rfl, rfl, Below.refl _ _⟩
    case round =>
      obtain ⟨k, hk, rfl, rfl, hb1⟩ := hrel
      have hbel := below_step B1.out hb1
      have HS := Lib.hid (lastTo_succ l k)
      by_cases hlt : k < n
      · have hsz := hbel.size
        obtain ⟨bk, off, rfl, hb, hcs⟩ := HC.out.ship (by rw [HN.out]; omega)
        have hx : l[k]? = some (l[k]'(by rw [HN.out]; exact hlt)) := List.getElem?_eq_getElem _
        generalize l[k]'(by rw [HN.out]; exact hlt) = x at hx
        obtain ⟨c0, c1, c2, c3, c4, c5⟩ := hcs k x hx
        clear hcs
        obtain ⟨_, ⟨h1, h2⟩, ⟨h3, h4⟩, h5, ⟨h6, h7⟩, ⟨h8, h9⟩, ⟨h10, h11⟩⟩ := shipOK_at (HOK.out k _ hx)
        have HX := Lib.hid hx
        clear hx
        obtain ⟨x1, x2, x3, x4, x5, x6⟩ := x
        dsimp only at c0 c1 c2 c3 c4 c5 h1 h2 h3 h4 h5 h6 h7 h8 h9 h10 h11
        rw [← hbel.cell hb] at c0 c1 c2 c3 c4 c5
        have hbw : bk < wr.heap.size := by omega
        have k1 : (k : Int) < n := by omega
        have k2 : (0 : Int) ≤ k := by omega
        go_wp2_with (first | (go_at_call 32; refine (l1Most_any _ _ _).mono ?_; rintro e w1 ⟨rfl, rfl⟩))
        go_roundw
        case rel => exact ⟨k + 1, by omega, by go_num, by rw [HS.out, List.getElem!_of_getElem? HX.out], hb1⟩
        case measure => simp [intOf]; omega
      · obtain rfl : k = n := by omega
        have HB1 := Lib.hid hb1
        obtain ⟨lv0, lv1, lv2⟩ := lastTo_rng HOK.out k (by rw [HN.out]; exact Nat.le_refl _)
        obtain ⟨L, hL⟩ : ∃ L : Nat, lastTo l k = L := ⟨(lastTo l k).toNat, by omega⟩
        rw [hL] at lv0 lv1 ⊢
        have HO2 := Lib.hid (HO1.out.past hb1 (Nat.le_refl _))
        clear hb1
        by_cases h400 : L ≤ 400
        · have hq : needOK l = true := by simp [needOK, HT1.out, HN.out, hL]; omega
          have hp : needP l = needTo l k L := by rw [needP, if_pos hq, HN.out, hL, Int.toNat_natCast]
          have HQ := Lib.hid hq
          have HP := Lib.hid hp
          clear hq hp hL
          have h401 : ¬ (400 : Int) < L := by omega
          go_wp2
          obtain ⟨wq, rfl⟩ : ∃ wq : World, wq = wr := ⟨_, rfl⟩
          go_loopw [4, 7] (fun u j wr => ∃ d : Nat, d ≤ L ∧ j = .int .i64 d ∧ Own encInt wr w.heap.size 3 u (needTo l k d) ∧ Below w.heap.size w wr) (fun _ j _ => L - (intOf j).toNat)
          case atStart => exact ⟨0, Nat.zero_le _, rfl, HO2.out, hbel⟩
          case round =>
            obtain ⟨d, hd, rfl, ho, hbd⟩ := hrel
            have HO3 := Lib.hid ho
            have HB3 := Lib.hid hbd
            clear ho
            by_cases hdl : d < L
            · have kd1 : (d : Int) < L := by omega
              have kd2 : (0 : Int) ≤ d := by omega
              go_wp2
              obtain ⟨wo, rfl⟩ : ∃ wo : World, wo = wr := ⟨_, rfl⟩
              go_loopw [8, 9] (fun u j wr => ∃ i : Nat, i ≤ k ∧ j = .int .i64 i ∧ u = .int .i64 (mostTo l d i) ∧ Below wo.heap.size wo wr) (fun _ j _ => k - (intOf j).toNat)
              case atStart => exact ⟨0, Nat.zero_le _, rfl, rfl, Below.refl _ _⟩
              case round =>
                obtain ⟨i, hi, rfl, rfl, hbi⟩ := hrel
                by_cases hik : i < k
                · obtain ⟨bk, off, rfl, hb, hcs⟩ := HC.out.ship (by rw [HN.out]; omega)
                  have hx : l[i]? = some (l[i]'(by rw [HN.out]; exact hik)) := List.getElem?_eq_getElem _
                  generalize l[i]'(by rw [HN.out]; exact hik) = x at hx
                  obtain ⟨c0, c1, c2, c3, c4, c5⟩ := hcs i x hx
                  clear hcs
                  obtain ⟨_, ⟨h1, h2⟩, ⟨h3, h4⟩, h5, ⟨h6, h7⟩, ⟨h8, h9⟩, ⟨h10, h11⟩⟩ := shipOK_at (HOK.out i _ hx)
                  have hst : mostTo l d (i + 1) = if needs x d then max (mostTo l d i) x.draft else mostTo l d i := by rw [mostTo_succ, List.getElem!_of_getElem? hx]
                  clear hx
                  obtain ⟨x1, x2, x3, x4, x5, x6⟩ := x
                  dsimp only at c0 c1 c2 c3 c4 c5 h1 h2 h3 h4 h5 h6 h7 h8 h9 h10 h11 hst
                  have HST := Lib.hid hst
                  clear hst
                  rw [← (below_step HB3.out hbi).cell hb] at c0 c1 c2 c3 c4 c5
                  have hbw : bk < wr.heap.size := by have := (below_step HB3.out hbi).size; omega
                  have k1 : (i : Int) < k := by omega
                  have k2 : (0 : Int) ≤ i := by omega
                  have k3 : IntKind.i64.wrap (x3 - 1) = x3 - 1 := IntWalk.i64_in _ (by omega)
                  generalize mostTo l d i = mt at *
                  rcases sp2 (inB d x2 (x3 - 1)) (decide (x6 < x5)) with q1 | ⟨q1, q2⟩ | ⟨q1, q2⟩
                  · go_wp2
                    refine wp_region_gw (by kernel_rfl) (by kernel_rfl) ?_
                    repeat (first | go_big_quiet_step ((go_at_call 33; exact quiet_gw_same (l1In_q (by assumption) _))) | quiet_step ((go_at_call 33; exact quiet_gw_same (l1In_q (by assumption) _))))
                    refine wpQuiet_nil ?_
                    rintro _ ⟨pq, rfl⟩
                    go_wp2
                    go_roundw
                    case rel => exact ⟨i + 1, by omega, by go_num, by rw [HST.out]; simp [needs, q1], (by repeat (first | assumption | exact Below.refl _ _ | apply bl_gw | apply bl_alloc | apply bl_drewN | apply bl_drew))⟩
                    case measure => simp [intOf]; omega
                  · go_wp2
                    refine wp_region_gw (by kernel_rfl) (by kernel_rfl) ?_
                    repeat (first | go_big_quiet_step ((go_at_call 33; exact quiet_gw_same (l1In_q (by assumption) _))) | quiet_step ((go_at_call 33; exact quiet_gw_same (l1In_q (by assumption) _))))
                    refine wpQuiet_nil ?_
                    rintro _ ⟨pq, rfl⟩
                    go_wp2
                    go_roundw
                    case rel => exact ⟨i + 1, by omega, by go_num, by rw [HST.out, needs, q1, q2]; rfl, (by repeat (first | assumption | exact Below.refl _ _ | apply bl_gw | apply bl_alloc | apply bl_drewN | apply bl_drew))⟩
                    case measure => simp [intOf]; omega
                  · go_wp2
                    refine wp_region_gw (by kernel_rfl) (by kernel_rfl) ?_
                    repeat (first | go_big_quiet_step ((go_at_call 33; exact quiet_gw_same (l1In_q (by assumption) _))) | quiet_step ((go_at_call 33; exact quiet_gw_same (l1In_q (by assumption) _))))
                    refine wpQuiet_nil ?_
                    rintro _ ⟨pq, rfl⟩
                    go_wp2_with (first | (go_at_call 32; refine (l1Most_any _ _ _).mono ?_; rintro e w1 ⟨rfl, rfl⟩))
                    go_roundw
                    case rel => exact ⟨i + 1, by omega, by go_num, by rw [HST.out, needs, q1, q2]; rfl, (by repeat (first | assumption | exact Below.refl _ _ | apply bl_gw | apply bl_alloc | apply bl_drewN | apply bl_drew))⟩
                    case measure => simp [intOf]; omega
                · obtain rfl : i = k := by omega
                  have HO4 := Lib.hid (HO3.out.past hbi (Nat.le_refl _))
                  have HB4 := Lib.hid (below_step HB3.out hbi)
                  have HL := Lib.hid (needTo_length l i d)
                  have HS2 := Lib.hid (needTo_succ l i d)
                  have hz4 := HB4.out.size
                  clear hbi hbd
                  go_wp2_with (at_builtin; refine halt ?_)
                  unfold Halt
                  refine wpList_app2 (E := encInt) rfl (.tmp 75) (.tmp 77) 33 rfl w.heap.size 3 i0 _ 8 Tryd.underlying33 hinf hz0 hz1 hz2 rfl (by decide) _ _ rfl HO4.out (mostTo l d i) _ rfl rfl (by have := HL.out; unfold maxLen; omega) (by have := HL.out; omega) hz4 ?_
                  intro v5 w5 ho5 hb5
                  have O5 := Lib.hid ho5
                  have B5 := Lib.hid (HB4.out.trans (hb5 w.heap.size (Nat.le_refl _)))
                  clear ho5 hb5
                  go_wp2
                  go_roundw
                  case rel => exact ⟨d + 1, by omega, by go_num, by rw [HS2.out]; exact O5.out, B5.out⟩
                  case measure => simp [intOf]; omega
            · obtain rfl : d = L := by omega
              go_wp2
              go_ret2
              rw [HQ.out, HP.out]
              exact ⟨_, rfl, HO3.out, HB3.out⟩
        · have hq : needOK l = false := by simp [needOK, HN.out, hL]; omega
          have hp : needP l = [] := by simp [needP, hq]
          have HQ := Lib.hid hq
          have HP := Lib.hid hp
          clear hq hp hL
          have h401 : (400 : Int) < L := by omega
          go_wp2
          go_ret2
          rw [HQ.out, HP.out]
          exact ⟨_, rfl, HO2.out, hbel⟩
set_option maxRecDepth 4000 in
set_option maxHeartbeats 8000000 in
theorem impl_NeededWater_any (l : List Ship) (n : Nat) (hn : l.length = n) (A : Option Addr) (cap : Nat) (w : World) (hcap : n ≤ cap) (hl : n ≤ 1048576) (hc : Sl encShip w w.heap.size A l) :
    Calls Tryd.prog 10 #[.slice A n cap] w fun e w' => ∃ v, e = .returned (.tuple #[v, .bool (needOK l)]) ∧ Own encInt w' w.heap.size 3 v (needP l) ∧ Below w.heap.size w w' := by
  have HC := Lib.hid hc; clear hc
  have HN := Lib.hid hn; clear hn
  rcases sp1 (areShips l) with t1 | t1
  · have hq : needOK l = false := by simp [needOK, t1]
    have hp : needP l = [] := by simp [needP, hq]
    rw [hq, hp]
    clear hq hp
    go_enter Tryd.func10, Tryd.ntmps10
    go_wp2_with fail
    refine (impl_AreShips_any l n HN.out _ _ _ hcap hl (HC.out.past (Below.refl _ _))).mono ?_
    rintro e w1 ⟨rfl, b1⟩
    rw [t1]
    have B1 := Lib.hid (below_step (Below.refl _ _) b1)
    clear b1
    go_wp2
    go_ret2
    exact ⟨_, rfl, Own.none_, B1.out⟩
  · have HOK := Lib.hid (show ∀ (i : Nat) (x : Ship), l[i]? = some x → shipOK x = true from fun i x hx => areShips_ok t1 hx)
    have HT1 := Lib.hid t1
    obtain ⟨i0, hinf, hz0, hz1, hz2⟩ := info_parts info_Int
    go_enter Tryd.func10, Tryd.ntmps10
    go_wp2_with fail
    refine (impl_AreShips_any l n HN.out _ _ _ hcap hl (HC.out.past (Below.refl _ _))).mono ?_
    rintro e w1 ⟨rfl, b1⟩
    rw [t1]
    have B1 := Lib.hid (below_step (Below.refl _ _) b1)
    clear b1 t1
    go_wp2
    go_loopw [4, 16] (fun u j wr => ∃ k : Nat, k ≤ n ∧ j = .int .i64 k ∧ u = .int .i64 (lastTo l k) ∧ Below w1.heap.size w1 wr) (fun _ j _ => n - (intOf j).toNat)
    case atStart => exact ⟨0, Nat.zero_le _, rfl, rfl, Below.refl _ _⟩
    case round =>
      obtain ⟨k, hk, rfl, rfl, hb1⟩ := hrel
      have hbel := below_step B1.out hb1
      have HS := Lib.hid (lastTo_succ l k)
      by_cases hlt : k < n
      · have hsz := hbel.size
        obtain ⟨bk, off, rfl, hb, hcs⟩ := HC.out.ship (by rw [HN.out]; omega)
        have hx : l[k]? = some (l[k]'(by rw [HN.out]; exact hlt)) := List.getElem?_eq_getElem _
        generalize l[k]'(by rw [HN.out]; exact hlt) = x at hx
        obtain ⟨c0, c1, c2, c3, c4, c5⟩ := hcs k x hx
        clear hcs
        obtain ⟨_, ⟨h1, h2⟩, ⟨h3, h4⟩, h5, ⟨h6, h7⟩, ⟨h8, h9⟩, ⟨h10, h11⟩⟩ := shipOK_at (HOK.out k _ hx)
        have HX := Lib.hid hx
        clear hx
        obtain ⟨x1, x2, x3, x4, x5, x6⟩ := x
        dsimp only at c0 c1 c2 c3 c4 c5 h1 h2 h3 h4 h5 h6 h7 h8 h9 h10 h11
        rw [← hbel.cell hb] at c0 c1 c2 c3 c4 c5
        have hbw : bk < wr.heap.size := by omega
        have k1 : (k : Int) < n := by omega
        have k2 : (0 : Int) ≤ k := by omega
        go_wp2
        go_roundw
        case rel =>
          have hM : max (lastTo l k) x3 = (if lastTo l k < x3 then x3 else lastTo l k) := by split <;> omega
          exact ⟨k + 1, by omega, by go_num, by rw [HS.out, List.getElem!_of_getElem? HX.out]; first | rfl | (simp only [hM]), (by repeat (first | assumption | exact Below.refl _ _ | apply bl_gw | apply bl_alloc | apply bl_drewN | apply bl_drew))⟩
        case measure => simp [intOf]; omega
      · obtain rfl : k = n := by omega
        obtain ⟨lv0, lv1, lv2⟩ := lastTo_rng HOK.out k (by rw [HN.out]; exact Nat.le_refl _)
        obtain ⟨L, hL⟩ : ∃ L : Nat, lastTo l k = L := ⟨(lastTo l k).toNat, by omega⟩
        rw [hL] at lv0 lv1 lv2 ⊢
        by_cases h400 : L ≤ 400
        · have hq : needOK l = true := by simp [needOK, HT1.out, HN.out, hL]; omega
          have hp : needP l = needTo l k L := by rw [needP, if_pos hq, HN.out, hL, Int.toNat_natCast]
          have HQ := Lib.hid hq
          have HP := Lib.hid hp
          have HLV := Lib.hid lv2
          clear hq hp hL lv2
          have h401 : ¬ (400 : Int) < L := by omega
          have hbz := hbel.size
          go_wp2_with (at_make; refine halt ?_)
          unfold Halt
          refine wpList_make_full _ rfl (.tmp 27) (.tmp 27) 33 rfl wr.heap.size 3 i0 _ 1 Tryd.underlying33 hinf hz0 hz1 .i64 .i64 _ _ L rfl rfl rfl rfl (by rw [hz2]; omega) (by unfold maxLen; omega) (Nat.le_refl _) ?_
          intro w2 hown hg1
          have hb2 : Below wr.heap.size wr w2 := (Below.refl _ _).grown hg1 (Nat.le_refl _) (by intro k hk; cases hk)
          have o2 := own_made hown
          rw [← needTo_zero l] at o2
          have O2 := Lib.hid o2
          have B2 := Lib.hid (below_step hbel hb2)
          obtain ⟨g, hg⟩ : ∃ g, wr.heap.size = g := ⟨_, rfl⟩
          have hgw : w.heap.size ≤ g := by omega
          rw [hg] at O2 ⊢
          clear hown hg1 hb2 o2 hb1 hbel hg
          go_wp2
          go_loopw [31] (fun j wr => ∃ i : Nat, i ≤ k ∧ j = .int .i64 i ∧ Own encInt wr g 3 (.slice (some ⟨g, 0, none⟩) L L) (needTo l i L) ∧ Below w.heap.size w wr) (fun j _ => k - (intOf j).toNat)
          case atStart => exact ⟨0, Nat.zero_le _, rfl, O2.out, B2.out⟩
          case round =>
            obtain ⟨i, hi, rfl, ho, hbi⟩ := hrel
            have HO3 := Lib.hid ho
            have HB3 := Lib.hid hbi
            clear ho
            by_cases hik : i < k
            · obtain ⟨bk, off, rfl, hb, hcs⟩ := HC.out.ship (by rw [HN.out]; omega)
              have hx : l[i]? = some (l[i]'(by rw [HN.out]; exact hik)) := List.getElem?_eq_getElem _
              generalize l[i]'(by rw [HN.out]; exact hik) = x at hx
              obtain ⟨c0, c1, c2, c3, c4, c5⟩ := hcs i x hx
              clear hcs
              obtain ⟨_, ⟨h1, h2⟩, ⟨h3, h4⟩, h5, ⟨h6, h7⟩, ⟨h8, h9⟩, ⟨h10, h11⟩⟩ := shipOK_at (HOK.out i _ hx)
              have hlv := HLV.out i hik
              rw [List.getElem!_of_getElem? hx] at hlv
              have HX := Lib.hid hx
              clear hx
              obtain ⟨x1, x2, x3, x4, x5, x6⟩ := x
              dsimp only at c0 c1 c2 c3 c4 c5 h1 h2 h3 h4 h5 h6 h7 h8 h9 h10 h11 hlv
              rw [← HB3.out.cell hb] at c0 c1 c2 c3 c4 c5
              have hbz := HB3.out.size
              have hbw : bk < wr.heap.size := by omega
              have k1 : (i : Int) < k := by omega
              have k2 : (0 : Int) ≤ i := by omega
              by_cases hf : x6 < x5
              · obtain ⟨cc, rfl⟩ : ∃ cc : Nat, x2 = cc := ⟨x2.toNat, by omega⟩
                obtain ⟨dd, rfl⟩ : ∃ dd : Nat, x3 = dd := ⟨x3.toNat, by omega⟩
                have HF := Lib.hid hf
                go_wp2
                obtain ⟨wo, rfl⟩ : ∃ wo : World, wo = wr := ⟨_, rfl⟩
                go_loopw [10] (fun j wr => ∃ d : Nat, cc ≤ d ∧ d ≤ dd ∧ j = .int .i64 d ∧ Own encInt wr g 3 (.slice (some ⟨g, 0, none⟩) L L) (midTo l L i cc d) ∧ Below w.heap.size w wr ∧ wr.cell? ⟨wo.heap.size, 2, none⟩ = some (.int .i64 dd) ∧ wr.cell? ⟨wo.heap.size, 3, none⟩ = some (.int .i64 x4) ∧ wo.heap.size < wr.heap.size) (fun j _ => dd - (intOf j).toNat)
                case atStart => exact ⟨cc, Nat.le_refl _, by omega, rfl, by rw [midTo_start]; exact HO3.out.past (bl_alloc (Below.refl _ _) _) (Nat.le_refl _), bl_alloc HB3.out _, by simp [go_sem], by simp [go_sem], by simp⟩
                case round =>
                  obtain ⟨d, hd0, hd1, rfl, ho, hbd, e2, e3, hzd⟩ := hrel
                  by_cases hdd : d < dd
                  · obtain ⟨m1, m2⟩ := midTo_step (L := L) HX.out rfl rfl hd0 hdd HF.out (by omega)
                    obtain ⟨mr0, mr1⟩ := mostTo_rng HOK.out d i (by rw [HN.out]; exact hi)
                    generalize mostTo l d i = mt at *
                    obtain ⟨hgl, e4⟩ := ho.int m1
                    have f4 := ho.thaw d
                    have HO5 := Lib.hid ho
                    have HB5 := Lib.hid hbd
                    have HM2 := Lib.hid m2
                    have E2 := Lib.hid e2
                    have E3 := Lib.hid e3
                    have hgo : g ≠ wo.heap.size := by have := HO3.out.hi ⟨g, 0, none⟩ rfl; simp at this; omega
                    clear ho hbd m1 m2
                    have kd1 : (d : Int) < dd := by omega
                    have kd2 : (0 : Int) ≤ d := by omega
                    have kd3 : (d : Int) < L := by omega
                    go_wp2
                    refine wp_region_tail 10 (by kernel_rfl) (by kernel_rfl) (fun W hW hWc hWf hWs => ?_)
                    have HW := Lib.hid hW; clear hW
                    simp only [List.take_succ_cons, List.take_zero, List.drop_succ_cons, List.drop_zero]
                    repeat still_step
                    refine wpStill_nil ?_
                    go_wp2
                    go_roundw
                    case rel =>
                      have hM : (if mt < x4 then x4 else mt) = max mt x4 := by split <;> omega
                      have hWB : Below w.heap.size w W := by rw [HW.out]; exact bl_drew HB5.out
                      have hWO : Own encInt W g 3 (.slice (some ⟨g, 0, none⟩) L L) (midTo l L i cc d) := by rw [HW.out]; exact HO5.out.past (bl_drew (Below.refl _ _)) (Nat.le_refl _)
                      try rw [hM]
                      refine ⟨d + 1, by omega, by omega, by go_num, ?_, hWB.setCell (p := ⟨g, d, none⟩) hgw _, ?_, ?_, ?_⟩
                      · rw [← HM2.out]
                        exact hWO.setInt (by omega) _
                      · rw [HW.out]; simp [go_sem, E2.out]
                      · rw [HW.out]; simp [go_sem, E3.out]
                      · rw [HW.out]; simpa [World.setCell] using hzd
                    case measure => simp [intOf]; omega
                  · obtain rfl : d = dd := by omega
                    rw [midTo_end HX.out rfl rfl] at ho
                    have HO5 := Lib.hid ho
                    clear ho
                    go_wp2
                    go_roundw
                    case rel => exact ⟨i + 1, by omega, by go_num, HO5.out, hbd⟩
                    case measure => simp [intOf]; omega
              · have HST := Lib.hid (show needTo l (i + 1) L = needTo l i L from by
                  unfold needTo
                  refine List.map_congr_left fun e _ => ?_
                  rw [mostTo_succ, List.getElem!_of_getElem? HX.out, needs, decide_eq_false hf, Bool.and_false]
                  rfl)
                go_wp2
                go_roundw
                case rel => exact ⟨i + 1, by omega, by go_num, by rw [HST.out]; exact HO3.out.past (bl_alloc (Below.refl _ _) _) (Nat.le_refl _), bl_alloc HB3.out _⟩
                case measure => simp [intOf]; omega
            · obtain rfl : i = k := by omega
              go_wp2
              go_ret2
              rw [HQ.out, HP.out]
              exact ⟨_, rfl, HO3.out.lower hgw, HB3.out⟩
        · have hq : needOK l = false := by simp [needOK, HN.out, hL]; omega
          have hp : needP l = [] := by simp [needP, hq]
          have HQ := Lib.hid hq
          have HP := Lib.hid hp
          clear hq hp hL
          have h401 : (400 : Int) < L := by omega
          go_wp2
          go_ret2
          rw [HQ.out, HP.out]
          exact ⟨_, rfl, Own.none_, hbel⟩
end Go.Proofs.YtggdcjajiaeklaaDoor
