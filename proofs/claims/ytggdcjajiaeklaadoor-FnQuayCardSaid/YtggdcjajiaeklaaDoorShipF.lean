/- Walks of ships: the days on which a ship may lie at the quay. -/
import Derived.Test.YtggdcjajiaeklaaDoorShipE
import Derived.Test.YtggdcjajiaeklaaDoorApp1
namespace Go.Proofs.YtggdcjajiaeklaaDoor
open Go.RowKit
def daysTo (s : Ship) (l : List Int) (k : Nat) : List Int := loopTo (fun i acc => if mayP s l i then acc ++ [(i : Int)] else acc) [] k
theorem daysTo_length (s : Ship) (l : List Int) : ∀ k, (daysTo s l k).length ≤ k
  | 0 => by simp [daysTo, loopTo]
  | k + 1 => by
    have e : daysTo s l (k + 1) = if mayP s l k then daysTo s l k ++ [(k : Int)] else daysTo s l k := rfl
    have := daysTo_length s l k
    rw [e]
    split
    · simp; omega
    · omega
def quayOK (l : List Ship) (wt : List Int) (id : Int) : Bool := (areShips l && areWaters wt) && decide (0 ≤ shipPlace l id)
def daysP (l : List Ship) (wt : List Int) (id : Int) : List Int := if quayOK l wt id then daysTo l[(shipPlace l id).toNat]! wt wt.length else []
theorem areWaters_len {l : List Int} (h : areWaters l = true) : l.length ≤ 400 := by
  simp only [areWaters, Bool.and_eq_true, decide_eq_true_eq] at h; exact h.1
theorem daysP_length (l : List Ship) (wt : List Int) (id : Int) : (daysP l wt id).length ≤ 1000000 := by
  unfold daysP
  split
  · rename_i h
    have := daysTo_length l[(shipPlace l id).toNat]! wt wt.length
    simp only [quayOK, Bool.and_eq_true] at h
    have := areWaters_len h.1.2
    omega
  · simp
theorem shipPlace_lt {l : List Ship} {id v : Int} (h : shipPlace l id = v) (h0 : 0 ≤ v) : ∃ p : Nat, v = p ∧ p < l.length := by
  subst h
  unfold shipPlace at *
  cases hf : firstTo (isAt l id) l.length with
  | none => rw [hf] at h0; simp [placeOf] at h0
  | some k => exact ⟨k, by simp [placeOf], (firstTo_some hf).1⟩
theorem daysTo_no {s : Ship} {l : List Int} {k : Nat} (h : mayP s l k = false) : daysTo s l (k + 1) = daysTo s l k := by
  have e : daysTo s l (k + 1) = if mayP s l k then daysTo s l k ++ [(k : Int)] else daysTo s l k := rfl
  rw [e, h]; rfl
theorem daysTo_yes {s : Ship} {l : List Int} {k : Nat} (h : mayP s l k = true) : daysTo s l (k + 1) = daysTo s l k ++ [(k : Int)] := by
  have e : daysTo s l (k + 1) = if mayP s l k then daysTo s l k ++ [(k : Int)] else daysTo s l k := rfl
  rw [e, h]; rfl
theorem daysP_at {l : List Ship} {wt : List Int} {id : Int} {p : Nat} {s : Ship} (h : quayOK l wt id = true) (hp : shipPlace l id = p) (hs : l[p]? = some s) : daysP l wt id = daysTo s wt wt.length := by
  unfold daysP
  rw [if_pos h, hp]
  simp [hs]
set_option maxRecDepth 4000 in
set_option maxHeartbeats 4000000 in
theorem impl_DaysAtQuay_any (l : List Ship) (wt : List Int) (n m : Nat) (hn : l.length = n) (hm : wt.length = m) (A A' : Option Addr) (cap cap' : Nat) (id : Int) (w : World) (hcap : n ≤ cap) (hl : n ≤ 1048576) (hl' : m ≤ 1048576) (hc : Sl encShip w w.heap.size A l) (hd : Sl encInt w w.heap.size A' wt) :
    Calls Tryd.prog 13 #[.slice A n cap, .slice A' m cap', .int .i64 id] w fun e w' => ∃ v, e = .returned (.tuple #[v, .bool (quayOK l wt id)]) ∧ Own encInt w' w.heap.size 3 v (daysP l wt id) ∧ Below w.heap.size w w' := by
  have HC := Lib.hid hc; clear hc
  have HD := Lib.hid hd; clear hd
  have HN := Lib.hid hn; clear hn
  have HM := Lib.hid hm; clear hm
  obtain ⟨at_, hat⟩ : ∃ v, shipPlace l id = v := ⟨_, rfl⟩
  have HAT := Lib.hid hat
  rcases sp3 (areShips l) (areWaters wt) (decide (0 ≤ at_)) with t1 | ⟨t1, t2⟩ | ⟨t1, t2, t3⟩ | ⟨t1, t2, t3⟩
  · have hq : quayOK l wt id = false := by simp [quayOK, t1]
    have hp : daysP l wt id = [] := by simp [daysP, hq]
    rw [hq, hp]
    clear hq hp hat
    go_enter Tryd.func13, Tryd.ntmps13
    go_wp2_with fail
    have HO0 := Lib.hid ((Own.none_ : Own encInt w w.heap.size 3 (.slice none 0 0) []))
    refine (shipAt_any l n HN.out _ _ id _ hl (HC.out.past (Below.refl _ _))).mono ?_
    rintro e w1 ⟨rfl, b1⟩
    rw [HAT.out]
    have B1 := Lib.hid (below_step (Below.refl _ _) b1)
    have C1 := Lib.hid (HC.out.past B1.out)
    have O1 := Lib.hid (HO0.out.past b1 (Nat.le_refl _))
    clear b1
    go_wp2_with fail
    refine (impl_AreShips_any l n HN.out _ _ _ hcap hl C1.out).mono ?_
    rintro e w2 ⟨rfl, b2⟩
    rw [t1]
    have B2 := Lib.hid (below_step B1.out b2)
    have D2 := Lib.hid (HD.out.past B2.out)
    have O2 := Lib.hid (O1.out.past b2 (Nat.le_refl _))
    clear b2
    go_wp2
    go_ret2
    exact ⟨_, rfl, Own.none_, B2.out⟩
  · have hq : quayOK l wt id = false := by simp [quayOK, t2]
    have hp : daysP l wt id = [] := by simp [daysP, hq]
    rw [hq, hp]
    clear hq hp hat
    go_enter Tryd.func13, Tryd.ntmps13
    go_wp2_with fail
    have HO0 := Lib.hid ((Own.none_ : Own encInt w w.heap.size 3 (.slice none 0 0) []))
    refine (shipAt_any l n HN.out _ _ id _ hl (HC.out.past (Below.refl _ _))).mono ?_
    rintro e w1 ⟨rfl, b1⟩
    rw [HAT.out]
    have B1 := Lib.hid (below_step (Below.refl _ _) b1)
    have C1 := Lib.hid (HC.out.past B1.out)
    have O1 := Lib.hid (HO0.out.past b1 (Nat.le_refl _))
    clear b1
    go_wp2_with fail
    refine (impl_AreShips_any l n HN.out _ _ _ hcap hl C1.out).mono ?_
    rintro e w2 ⟨rfl, b2⟩
    rw [t1]
    have B2 := Lib.hid (below_step B1.out b2)
    have D2 := Lib.hid (HD.out.past B2.out)
    have O2 := Lib.hid (O1.out.past b2 (Nat.le_refl _))
    clear b2
    go_wp2_with fail
    refine (impl_areWaters_any wt m HM.out _ _ _ hl' D2.out).mono ?_
    rintro e w3 ⟨rfl, b3⟩
    rw [t2]
    have B3 := Lib.hid (below_step B2.out b3)
    have O3 := Lib.hid (O2.out.past b3 (Nat.le_refl _))
    clear b3
    go_wp2
    go_ret2
    exact ⟨_, rfl, Own.none_, B3.out⟩
  · have hq : quayOK l wt id = false := by simp [quayOK, hat, t3]
    have hp : daysP l wt id = [] := by simp [daysP, hq]
    rw [hq, hp]
    clear hq hp hat
    have t4 : at_ < 0 := by simpa using t3
    go_enter Tryd.func13, Tryd.ntmps13
    go_wp2_with fail
    have HO0 := Lib.hid ((Own.none_ : Own encInt w w.heap.size 3 (.slice none 0 0) []))
    refine (shipAt_any l n HN.out _ _ id _ hl (HC.out.past (Below.refl _ _))).mono ?_
    rintro e w1 ⟨rfl, b1⟩
    rw [HAT.out]
    have B1 := Lib.hid (below_step (Below.refl _ _) b1)
    have C1 := Lib.hid (HC.out.past B1.out)
    have O1 := Lib.hid (HO0.out.past b1 (Nat.le_refl _))
    clear b1
    go_wp2_with fail
    refine (impl_AreShips_any l n HN.out _ _ _ hcap hl C1.out).mono ?_
    rintro e w2 ⟨rfl, b2⟩
    rw [t1]
    have B2 := Lib.hid (below_step B1.out b2)
    have D2 := Lib.hid (HD.out.past B2.out)
    have O2 := Lib.hid (O1.out.past b2 (Nat.le_refl _))
    clear b2
    go_wp2_with fail
    refine (impl_areWaters_any wt m HM.out _ _ _ hl' D2.out).mono ?_
    rintro e w3 ⟨rfl, b3⟩
    rw [t2]
    have B3 := Lib.hid (below_step B2.out b3)
    have O3 := Lib.hid (O2.out.past b3 (Nat.le_refl _))
    clear b3
    go_wp2
    go_ret2
    exact ⟨_, rfl, Own.none_, B3.out⟩
  · have hq : quayOK l wt id = true := by simp [quayOK, t1, t2, hat, t3]
    obtain ⟨p, rfl, hp⟩ := shipPlace_lt hat (of_decide_eq_true t3)
    rw [HN.out] at hp
    obtain ⟨bk, off, rfl, hb, hcs⟩ := HC.out.ship (by rw [HN.out]; omega)
    have hx : l[p]? = some (l[p]'(by rw [HN.out]; exact hp)) := List.getElem?_eq_getElem _
    generalize l[p]'(by rw [HN.out]; exact hp) = x at hx
    obtain ⟨c0, c1, c2, c3, c4, c5⟩ := hcs p x hx
    have hdays := daysP_at hq hat hx
    rw [hdays, hq, HM.out]
    obtain ⟨_, _, ⟨h0, h1⟩, _⟩ := shipOK_at (areShips_ok t1 hx)
    have hm4 : m ≤ 400 := by have := areWaters_len t2; rw [HM.out] at this; exact this
    clear hcs hx hdays hq hat t3
    obtain ⟨x1, x2, x3, x4, x5, x6⟩ := x
    dsimp only at c0 c1 c2 c3 c4 c5 h0 h1
    have E0 := Lib.hid c0; have E1 := Lib.hid c1; have E2 := Lib.hid c2; have E3 := Lib.hid c3; have E4 := Lib.hid c4; have E5 := Lib.hid c5
    clear c0 c1 c2 c3 c4 c5
    have k8 : ¬ (p : Int) < 0 := by omega
    have k9 : (0 : Int) ≤ p := by omega
    have k10 : (p : Int) < n := by omega
    obtain ⟨i0, hi, hz0, hz1, hz2⟩ := info_parts info_Int
    go_enter Tryd.func13, Tryd.ntmps13
    go_wp2_with fail
    have HO0 := Lib.hid ((Own.none_ : Own encInt w w.heap.size 3 (.slice none 0 0) []))
    refine (shipAt_any l n HN.out _ _ id _ hl (HC.out.past (Below.refl _ _))).mono ?_
    rintro e w1 ⟨rfl, b1⟩
    rw [HAT.out]
    have B1 := Lib.hid (below_step (Below.refl _ _) b1)
    have C1 := Lib.hid (HC.out.past B1.out)
    have O1 := Lib.hid (HO0.out.past b1 (Nat.le_refl _))
    clear b1
    go_wp2_with fail
    refine (impl_AreShips_any l n HN.out _ _ _ hcap hl C1.out).mono ?_
    rintro e w2 ⟨rfl, b2⟩
    rw [t1]
    have B2 := Lib.hid (below_step B1.out b2)
    have D2 := Lib.hid (HD.out.past B2.out)
    have O2 := Lib.hid (O1.out.past b2 (Nat.le_refl _))
    clear b2
    go_wp2_with fail
    refine (impl_areWaters_any wt m HM.out _ _ _ hl' D2.out).mono ?_
    rintro e w3 ⟨rfl, b3⟩
    rw [t2]
    have B3 := Lib.hid (below_step B2.out b3)
    have O3 := Lib.hid (O2.out.past b3 (Nat.le_refl _))
    clear b3
    go_wp2
    clear t1 t2
    go_loopw [9, 28] (fun u j wr => ∃ k : Nat, k ≤ m ∧ j = .int .i64 k ∧ Own encInt wr w.heap.size 3 u (daysTo ⟨x1, x2, x3, x4, x5, x6⟩ wt k) ∧ Below w.heap.size w wr) (fun _ j _ => m - (intOf j).toNat)
    case atStart => exact ⟨0, Nat.zero_le _, rfl, O3.out, B3.out⟩
    case round =>
      obtain ⟨k, hkm, rfl, ho, hbel⟩ := hrel
      have HO := Lib.hid ho; clear ho
      have hsz := hbel.size
      have c0 := E0.out; have c1 := E1.out; have c2 := E2.out; have c3 := E3.out; have c4 := E4.out; have c5 := E5.out
      rw [← hbel.cell hb] at c0 c1 c2 c3 c4 c5
      have hbw : bk < wr.heap.size := by omega
      by_cases hlt : k < m
      · have k1 : (k : Int) < m := by omega
        have k2 : (0 : Int) ≤ k := by omega
        rcases sp1 (mayP ⟨x1, x2, x3, x4, x5, x6⟩ wt k) with q | q
        · have HQ := Lib.hid (daysTo_no q)
          go_wp2_with fail
          refine (mayLie_q HM.out _ _ k _ q hlt h0 h1 hl' (HD.out.past hbel)).mono ?_
          rintro e w4 ⟨rfl, b4⟩
          have O4 := Lib.hid (HO.out.past b4 (Nat.le_refl _)); have B4 := Lib.hid (below_step hbel b4); clear b4
          go_wp2
          go_roundw
          case rel => exact ⟨k + 1, by omega, by go_num, by rw [HQ.out]; exact O4.out, B4.out⟩
          case measure => simp [intOf]; omega
        · have HQ := Lib.hid (daysTo_yes q)
          have HL := Lib.hid (daysTo_length ⟨x1, x2, x3, x4, x5, x6⟩ wt k)
          go_wp2_with fail
          refine (mayLie_q HM.out _ _ k _ q hlt h0 h1 hl' (HD.out.past hbel)).mono ?_
          rintro e w4 ⟨rfl, b4⟩
          have O4 := Lib.hid (HO.out.past b4 (Nat.le_refl _)); have B4 := Lib.hid (below_step hbel b4); clear b4
          go_wp2_with (at_builtin; refine wpList_app1 (E := encInt) rfl (.tmp 38) (.tmp 40) 33 rfl w.heap.size 3 i0 _ 8 Tryd.underlying33 hi hz0 hz1 hz2 rfl (by decide) _ _ rfl O4.out (k : Int) _ rfl rfl (by have := HL.out; unfold maxLen; omega) (by have := HL.out; omega) (by have := B4.out.size; omega) ?_; intro v5 w5 ho5 hb5; have O5 := Lib.hid ho5; have B5 := Lib.hid (hb5 w (Nat.le_refl _) B4.out); clear ho5 hb5)
          go_roundw
          case rel => exact ⟨k + 1, by omega, by go_num, by rw [HQ.out]; exact O5.out, B5.out⟩
          case measure => simp [intOf]; omega
      · go_wp2
        go_ret2
        obtain rfl : k = m := by omega
        exact ⟨_, rfl, HO.out, hbel⟩
set_option maxRecDepth 4000 in
set_option maxHeartbeats 4000000 in
theorem spec_DaysAtQuay_any (l : List Ship) (wt : List Int) (n m : Nat) (hn : l.length = n) (hm : wt.length = m) (A A' : Option Addr) (cap cap' : Nat) (id : Int) (w : World) (hcap : n ≤ cap) (hl : n ≤ 1048576) (hl' : m ≤ 1048576) (hc : Sl encShip w w.heap.size A l) (hd : Sl encInt w w.heap.size A' wt) :
    Calls Tryd.prog 22 #[.slice A n cap, .slice A' m cap', .int .i64 id] w fun e w' => ∃ v, e = .returned (.tuple #[v, .bool (quayOK l wt id)]) ∧ Own encInt w' w.heap.size 3 v (daysP l wt id) ∧ Below w.heap.size w w' := by
  have HC := Lib.hid hc; clear hc
  have HD := Lib.hid hd; clear hd
  have HN := Lib.hid hn; clear hn
  have HM := Lib.hid hm; clear hm
  obtain ⟨at_, hat⟩ : ∃ v, shipPlace l id = v := ⟨_, rfl⟩
  have HAT := Lib.hid hat
  rcases sp3 (areShips l) (areWaters wt) (decide (0 ≤ at_)) with t1 | ⟨t1, t2⟩ | ⟨t1, t2, t3⟩ | ⟨t1, t2, t3⟩
  · have hq : quayOK l wt id = false := by simp [quayOK, t1]
    have hp : daysP l wt id = [] := by simp [daysP, hq]
    rw [hq, hp]
    clear hq hp hat
    go_enter Tryd.func22, Tryd.ntmps22
    go_wp2_with fail
    have HO0 := Lib.hid ((Own.nil_ (Nat.le_refl _) 3 : Own encInt (w.alloc (.cells #[] 3)) w.heap.size 3 (.slice (some ⟨w.heap.size, 0, none⟩) 0 0) []))
    refine (l17Find_any l n HN.out _ _ id _ hl (HC.out.past (bl_alloc (Below.refl _ _) _))).mono ?_
    rintro e w1 ⟨rfl, b1⟩
    rw [HAT.out]
    have B1 := Lib.hid (below_step (bl_alloc (Below.refl _ _) _) b1)
    have C1 := Lib.hid (HC.out.past B1.out)
    have O1 := Lib.hid (HO0.out.past b1 (Nat.le_refl _))
    clear b1
    go_wp2_with fail
    refine (l17Good_any l n HN.out _ _ _ hcap hl C1.out).mono ?_
    rintro e w2 ⟨rfl, b2⟩
    rw [t1]
    have B2 := Lib.hid (below_step B1.out b2)
    have D2 := Lib.hid (HD.out.past B2.out)
    have O2 := Lib.hid (O1.out.past b2 (Nat.le_refl _))
    clear b2
    go_wp2
    go_ret2
    exact ⟨_, rfl, O2.out, B2.out⟩
  · have hq : quayOK l wt id = false := by simp [quayOK, t2]
    have hp : daysP l wt id = [] := by simp [daysP, hq]
    rw [hq, hp]
    clear hq hp hat
    go_enter Tryd.func22, Tryd.ntmps22
    go_wp2_with fail
    have HO0 := Lib.hid ((Own.nil_ (Nat.le_refl _) 3 : Own encInt (w.alloc (.cells #[] 3)) w.heap.size 3 (.slice (some ⟨w.heap.size, 0, none⟩) 0 0) []))
    refine (l17Find_any l n HN.out _ _ id _ hl (HC.out.past (bl_alloc (Below.refl _ _) _))).mono ?_
    rintro e w1 ⟨rfl, b1⟩
    rw [HAT.out]
    have B1 := Lib.hid (below_step (bl_alloc (Below.refl _ _) _) b1)
    have C1 := Lib.hid (HC.out.past B1.out)
    have O1 := Lib.hid (HO0.out.past b1 (Nat.le_refl _))
    clear b1
    go_wp2_with fail
    refine (l17Good_any l n HN.out _ _ _ hcap hl C1.out).mono ?_
    rintro e w2 ⟨rfl, b2⟩
    rw [t1]
    have B2 := Lib.hid (below_step B1.out b2)
    have D2 := Lib.hid (HD.out.past B2.out)
    have O2 := Lib.hid (O1.out.past b2 (Nat.le_refl _))
    clear b2
    go_wp2_with fail
    refine (l17Water_any wt m HM.out _ _ _ hl' D2.out).mono ?_
    rintro e w3 ⟨rfl, b3⟩
    rw [t2]
    have B3 := Lib.hid (below_step B2.out b3)
    have O3 := Lib.hid (O2.out.past b3 (Nat.le_refl _))
    clear b3
    go_wp2
    go_ret2
    exact ⟨_, rfl, O3.out, B3.out⟩
  · have hq : quayOK l wt id = false := by simp [quayOK, hat, t3]
    have hp : daysP l wt id = [] := by simp [daysP, hq]
    rw [hq, hp]
    clear hq hp hat
    have t4 : at_ < 0 := by simpa using t3
    go_enter Tryd.func22, Tryd.ntmps22
    go_wp2_with fail
    have HO0 := Lib.hid ((Own.nil_ (Nat.le_refl _) 3 : Own encInt (w.alloc (.cells #[] 3)) w.heap.size 3 (.slice (some ⟨w.heap.size, 0, none⟩) 0 0) []))
    refine (l17Find_any l n HN.out _ _ id _ hl (HC.out.past (bl_alloc (Below.refl _ _) _))).mono ?_
    rintro e w1 ⟨rfl, b1⟩
    rw [HAT.out]
    have B1 := Lib.hid (below_step (bl_alloc (Below.refl _ _) _) b1)
    have C1 := Lib.hid (HC.out.past B1.out)
    have O1 := Lib.hid (HO0.out.past b1 (Nat.le_refl _))
    clear b1
    go_wp2_with fail
    refine (l17Good_any l n HN.out _ _ _ hcap hl C1.out).mono ?_
    rintro e w2 ⟨rfl, b2⟩
    rw [t1]
    have B2 := Lib.hid (below_step B1.out b2)
    have D2 := Lib.hid (HD.out.past B2.out)
    have O2 := Lib.hid (O1.out.past b2 (Nat.le_refl _))
    clear b2
    go_wp2_with fail
    refine (l17Water_any wt m HM.out _ _ _ hl' D2.out).mono ?_
    rintro e w3 ⟨rfl, b3⟩
    rw [t2]
    have B3 := Lib.hid (below_step B2.out b3)
    have O3 := Lib.hid (O2.out.past b3 (Nat.le_refl _))
    clear b3
    go_wp2
    go_ret2
    exact ⟨_, rfl, O3.out, B3.out⟩
  · have hq : quayOK l wt id = true := by simp [quayOK, t1, t2, hat, t3]
    obtain ⟨p, rfl, hp⟩ := shipPlace_lt hat (of_decide_eq_true t3)
    rw [HN.out] at hp
    obtain ⟨bk, off, rfl, hb, hcs⟩ := HC.out.ship (by rw [HN.out]; omega)
    have hx : l[p]? = some (l[p]'(by rw [HN.out]; exact hp)) := List.getElem?_eq_getElem _
    generalize l[p]'(by rw [HN.out]; exact hp) = x at hx
    obtain ⟨c0, c1, c2, c3, c4, c5⟩ := hcs p x hx
    have hdays := daysP_at hq hat hx
    rw [hdays, hq, HM.out]
    obtain ⟨_, _, ⟨h0, h1⟩, _⟩ := shipOK_at (areShips_ok t1 hx)
    have hm4 : m ≤ 400 := by have := areWaters_len t2; rw [HM.out] at this; exact this
    clear hcs hx hdays hq hat t3
    obtain ⟨x1, x2, x3, x4, x5, x6⟩ := x
    dsimp only at c0 c1 c2 c3 c4 c5 h0 h1
    have E0 := Lib.hid c0; have E1 := Lib.hid c1; have E2 := Lib.hid c2; have E3 := Lib.hid c3; have E4 := Lib.hid c4; have E5 := Lib.hid c5
    clear c0 c1 c2 c3 c4 c5
    have k8 : ¬ (p : Int) < 0 := by omega
    have k9 : (0 : Int) ≤ p := by omega
    have k10 : (p : Int) < n := by omega
    obtain ⟨i0, hi, hz0, hz1, hz2⟩ := info_parts info_Int
    go_enter Tryd.func22, Tryd.ntmps22
    go_wp2_with fail
    have HO0 := Lib.hid ((Own.nil_ (Nat.le_refl _) 3 : Own encInt (w.alloc (.cells #[] 3)) w.heap.size 3 (.slice (some ⟨w.heap.size, 0, none⟩) 0 0) []))
    refine (l17Find_any l n HN.out _ _ id _ hl (HC.out.past (bl_alloc (Below.refl _ _) _))).mono ?_
    rintro e w1 ⟨rfl, b1⟩
    rw [HAT.out]
    have B1 := Lib.hid (below_step (bl_alloc (Below.refl _ _) _) b1)
    have C1 := Lib.hid (HC.out.past B1.out)
    have O1 := Lib.hid (HO0.out.past b1 (Nat.le_refl _))
    clear b1
    go_wp2_with fail
    refine (l17Good_any l n HN.out _ _ _ hcap hl C1.out).mono ?_
    rintro e w2 ⟨rfl, b2⟩
    rw [t1]
    have B2 := Lib.hid (below_step B1.out b2)
    have D2 := Lib.hid (HD.out.past B2.out)
    have O2 := Lib.hid (O1.out.past b2 (Nat.le_refl _))
    clear b2
    go_wp2_with fail
    refine (l17Water_any wt m HM.out _ _ _ hl' D2.out).mono ?_
    rintro e w3 ⟨rfl, b3⟩
    rw [t2]
    have B3 := Lib.hid (below_step B2.out b3)
    have O3 := Lib.hid (O2.out.past b3 (Nat.le_refl _))
    clear b3
    go_wp2
    clear t1 t2
    go_loopw [8, 10] (fun u j wr => ∃ k : Nat, k ≤ m ∧ j = .int .i64 k ∧ Own encInt wr w.heap.size 3 u (daysTo ⟨x1, x2, x3, x4, x5, x6⟩ wt k) ∧ Below w.heap.size w wr) (fun _ j _ => m - (intOf j).toNat)
    case atStart => exact ⟨0, Nat.zero_le _, rfl, O3.out, B3.out⟩
    case round =>
      obtain ⟨k, hkm, rfl, ho, hbel⟩ := hrel
      have HO := Lib.hid ho; clear ho
      have hsz := hbel.size
      have c0 := E0.out; have c1 := E1.out; have c2 := E2.out; have c3 := E3.out; have c4 := E4.out; have c5 := E5.out
      rw [← hbel.cell hb] at c0 c1 c2 c3 c4 c5
      have hbw : bk < wr.heap.size := by omega
      by_cases hlt : k < m
      · have k1 : (k : Int) < m := by omega
        have k2 : (0 : Int) ≤ k := by omega
        rcases sp1 (mayP ⟨x1, x2, x3, x4, x5, x6⟩ wt k) with q | q
        · have HQ := Lib.hid (daysTo_no q)
          go_wp2_with fail
          refine (l17May_q HM.out _ _ k _ q hlt h0 h1 hl' (HD.out.past hbel)).mono ?_
          rintro e w4 ⟨rfl, b4⟩
          have O4 := Lib.hid (HO.out.past b4 (Nat.le_refl _)); have B4 := Lib.hid (below_step hbel b4); clear b4
          go_wp2
          go_roundw
          case rel => exact ⟨k + 1, by omega, by go_num, by rw [HQ.out]; exact O4.out, B4.out⟩
          case measure => simp [intOf]; omega
        · have HQ := Lib.hid (daysTo_yes q)
          have HL := Lib.hid (daysTo_length ⟨x1, x2, x3, x4, x5, x6⟩ wt k)
          go_wp2_with fail
          refine (l17May_q HM.out _ _ k _ q hlt h0 h1 hl' (HD.out.past hbel)).mono ?_
          rintro e w4 ⟨rfl, b4⟩
          have O4 := Lib.hid (HO.out.past b4 (Nat.le_refl _)); have B4 := Lib.hid (below_step hbel b4); clear b4
          go_wp2_with (at_builtin; refine wpList_app1 (E := encInt) rfl (.tmp 41) (.tmp 43) 33 rfl w.heap.size 3 i0 _ 8 Tryd.underlying33 hi hz0 hz1 hz2 rfl (by decide) _ _ rfl O4.out (k : Int) _ rfl rfl (by have := HL.out; unfold maxLen; omega) (by have := HL.out; omega) (by have := B4.out.size; omega) ?_; intro v5 w5 ho5 hb5; have O5 := Lib.hid ho5; have B5 := Lib.hid (hb5 w (Nat.le_refl _) B4.out); clear ho5 hb5)
          go_roundw
          case rel => exact ⟨k + 1, by omega, by go_num, by rw [HQ.out]; exact O5.out, B5.out⟩
          case measure => simp [intOf]; omega
      · go_wp2
        go_ret2
        obtain rfl : k = m := by omega
        exact ⟨_, rfl, HO.out, hbel⟩
end Go.Proofs.YtggdcjajiaeklaaDoor
