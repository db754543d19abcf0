/- Walks of ships: free days and tons in all. -/
import Derived.Test.YtggdcjajiaeklaaShipS
namespace Go.Proofs.Ytggdcjajiaeklaa
open Go.RowKit
def rotaOK (l : List Ship) (wt : List Int) : Bool := areShips l && areWaters wt
def negTo (D : List Int) (k : Nat) : Nat := loopTo (fun i c => if D[i]! < 0 then c + 1 else c) 0 k
theorem negTo_succ (D : List Int) (k : Nat) : negTo D (k + 1) = if D[k]! < 0 then negTo D k + 1 else negTo D k := rfl
theorem negTo_le (D : List Int) : ∀ k, negTo D k ≤ k
  | 0 => Nat.le_refl _
  | k + 1 => by have := negTo_le D k; rw [negTo_succ]; split <;> omega
def freeP (l : List Ship) (wt : List Int) : Int := if rotaOK l wt then (negTo (rotaD l wt wt.length) wt.length : Nat) else 0
def tonsP (l : List Ship) (wt : List Int) : Int := if rotaOK l wt then rotaT l wt wt.length else 0
theorem sumTo_rng {l S : List Ship} (hf : Fuls l S) (hok : ∀ (i : Nat) (x : Ship), l[i]? = some x → shipOK x = true) : ∀ k : Nat, k ≤ l.length → 0 ≤ sumTo l S k ∧ sumTo l S k ≤ 3000 * k
  | 0, _ => by simp [sumTo, loopTo]
  | k + 1, hk => by
    have ih := sumTo_rng hf hok k (by omega)
    have hx : l[k]? = some (l[k]'(by omega)) := List.getElem?_eq_getElem _
    have hy : S[k]? = some (S[k]'(by rw [hf.1]; omega)) := List.getElem?_eq_getElem _
    obtain ⟨_, _, _, _, h5, h6, h7⟩ := hf.2 k _ _ hx hy
    obtain ⟨_, _, _, _, _, ⟨h8, h9⟩, ⟨h10, h11⟩⟩ := shipOK_at (hok k _ hx)
    rw [sumTo_succ, List.getElem!_of_getElem? hx, List.getElem!_of_getElem? hy]
    push_cast
    omega
set_option maxRecDepth 4000 in
set_option maxHeartbeats 4000000 in
theorem impl_FreeDays_any (l : List Ship) (wt : List Int) (n m : Nat) (hn : l.length = n) (hm : wt.length = m) (A A' : Option Addr) (cap cap' : Nat) (w : World) (hcap : n ≤ cap) (hl : n ≤ 1048576) (hl' : m ≤ 1048576) (hc : Sl encShip w w.heap.size A l) (hd : Sl encInt w w.heap.size A' wt) :
    Calls Try.prog 39 #[.slice A n cap, .slice A' m cap'] w fun e w' => e = .returned (.tuple #[.int .i64 (freeP l wt), .bool (rotaOK l wt)]) ∧ Below w.heap.size w w' := by
  have HC := Lib.hid hc; clear hc
  have HD := Lib.hid hd; clear hd
  have HN := Lib.hid hn; clear hn
  have HM := Lib.hid hm; clear hm
  rcases sp2 (areShips l) (areWaters wt) with t1 | ⟨t1, t2⟩ | ⟨t1, t2⟩
  · have hq : rotaOK l wt = false := by simp [rotaOK, t1]
    have hp : freeP l wt = 0 := by simp [freeP, hq]
    rw [hq, hp]
    clear hq hp
    go_enter Try.func39, Try.ntmps39
    go_wp2_with fail
    refine (impl_AreShips_any l n HN.out _ _ _ hcap hl (HC.out.past (Below.refl _ _))).mono ?_
    rintro e w1 ⟨rfl, b1⟩
    rw [t1]
    have B1 := Lib.hid (below_step (Below.refl _ _) b1)
    have D1 := Lib.hid (HD.out.past B1.out)
    have BB1 := Lib.hid b1
    clear b1
    go_wp2
    go_ret2
    exact ⟨rfl, B1.out⟩
  · have hq : rotaOK l wt = false := by simp [rotaOK, t2]
    have hp : freeP l wt = 0 := by simp [freeP, hq]
    rw [hq, hp]
    clear hq hp
    go_enter Try.func39, Try.ntmps39
    go_wp2_with fail
    refine (impl_AreShips_any l n HN.out _ _ _ hcap hl (HC.out.past (Below.refl _ _))).mono ?_
    rintro e w1 ⟨rfl, b1⟩
    rw [t1]
    have B1 := Lib.hid (below_step (Below.refl _ _) b1)
    have D1 := Lib.hid (HD.out.past B1.out)
    have BB1 := Lib.hid b1
    clear b1
    go_wp2_with fail
    refine (impl_areWaters_any wt m HM.out _ _ _ hl' D1.out).mono ?_
    rintro e w2 ⟨rfl, b2⟩
    rw [t2]
    have B2 := Lib.hid (below_step B1.out b2)
    have C2 := Lib.hid (HC.out.past B2.out)
    have D2 := Lib.hid (HD.out.past B2.out)
    have BB2 := Lib.hid (below_step BB1.out b2)
    clear b2
    go_wp2
    go_ret2
    exact ⟨rfl, B2.out⟩
  · have hq : rotaOK l wt = true := by simp [rotaOK, t1, t2]
    obtain ⟨D, hD⟩ : ∃ D, rotaD l wt m = D := ⟨_, rfl⟩
    have hp : freeP l wt = (negTo D m : Nat) := by simp [freeP, hq, HM.out, hD]
    have HE := Lib.hid hD
    clear hD
    rw [hq, hp]
    clear hq hp
    have HT1 := Lib.hid t1
    have hm4 : m ≤ 400 := by have := areWaters_len t2; rw [HM.out] at this; exact this
    have hn8 : n ≤ 8 := by have := areShips_len t1; rw [HN.out] at this; exact this
    go_enter Try.func39, Try.ntmps39
    go_wp2_with fail
    refine (impl_AreShips_any l n HN.out _ _ _ hcap hl (HC.out.past (Below.refl _ _))).mono ?_
    rintro e w1 ⟨rfl, b1⟩
    rw [t1]
    have B1 := Lib.hid (below_step (Below.refl _ _) b1)
    have D1 := Lib.hid (HD.out.past B1.out)
    have BB1 := Lib.hid b1
    clear b1
    go_wp2_with fail
    refine (impl_areWaters_any wt m HM.out _ _ _ hl' D1.out).mono ?_
    rintro e w2 ⟨rfl, b2⟩
    rw [t2]
    have B2 := Lib.hid (below_step B1.out b2)
    have C2 := Lib.hid (HC.out.past B2.out)
    have D2 := Lib.hid (HD.out.past B2.out)
    have BB2 := Lib.hid (below_step BB1.out b2)
    clear b2
    go_wp2_with fail
    refine (rota_any l wt n m HN.out HM.out _ _ _ _ _ (fun i x hx => areShips_ok HT1.out hx) hl hm4 C2.out D2.out).mono ?_
    rintro e w3 ⟨vs, vd, rfl, os, od, b3⟩
    obtain ⟨As, cs, rfl, _, _, _⟩ := os.slice
    obtain ⟨Ad, cd, rfl, _, _, _⟩ := od.slice
    rw [rotaS_length, HN.out] at os ⊢
    rw [rotaD_length] at od ⊢
    have OS := Lib.hid os
    have OD := Lib.hid od
    have B3 := Lib.hid (below_step B2.out b3)
    have BB3 := Lib.hid (below_step BB2.out b3)
    clear os od b3
    clear t1 t2
    go_wp2
    have HDl := Lib.hid (HE.out ▸ rotaD_length l wt m)
    rw [HE.out] at OD
    go_loopw [9, 29] (fun c j wr => ∃ k : Nat, k ≤ m ∧ j = .int .i64 k ∧ c = .int .i64 (negTo D k : Nat) ∧ Below w3.heap.size w3 wr) (fun _ j _ => m - (intOf j).toNat)
    case atStart => exact ⟨0, Nat.zero_le _, rfl, rfl, Below.refl _ _⟩
    case round =>
      obtain ⟨k, hk, rfl, rfl, hbel⟩ := hrel
      have hsz := hbel.size
      have hle := negTo_le D k
      by_cases hlt : k < m
      · obtain ⟨b, off, rfl, hb, hcs⟩ := OD.out.rd.int_ (by rw [HDl.out]; omega)
        have hx : D[k]? = some (D[k]'(by rw [HDl.out]; exact hlt)) := List.getElem?_eq_getElem _
        generalize D[k]'(by rw [HDl.out]; exact hlt) = x at hx
        have c0 := hcs k x hx
        have HS := Lib.hid (show negTo D (k + 1) = if x < 0 then negTo D k + 1 else negTo D k by rw [negTo_succ, List.getElem!_of_getElem? hx])
        clear hcs hx
        rw [← hbel.cell hb] at c0
        have hbw : b < wr.heap.size := by omega
        have k1 : (k : Int) < m := by omega
        have k2 : (0 : Int) ≤ k := by omega
        have k3 : IntKind.i64.wrap ((negTo D k : Nat) + 1 : Int) = (negTo D k : Nat) + 1 := IntWalk.i64_in _ (by omega)
        by_cases hq : x < 0
        · go_wp2
          go_roundw
          case rel => exact ⟨k + 1, by omega, by go_num, by rw [HS.out, if_pos hq]; go_num, hbel⟩
          case measure => simp [intOf]; omega
        · go_wp2
          go_roundw
          case rel => exact ⟨k + 1, by omega, by go_num, by rw [HS.out, if_neg hq], hbel⟩
          case measure => simp [intOf]; omega
      · go_wp2
        go_ret2
        obtain rfl : k = m := by omega
        exact ⟨rfl, below_step B3.out hbel⟩
set_option maxRecDepth 4000 in
set_option maxHeartbeats 4000000 in
theorem spec_FreeDays_any (l : List Ship) (wt : List Int) (n m : Nat) (hn : l.length = n) (hm : wt.length = m) (A A' : Option Addr) (cap cap' : Nat) (w : World) (hcap : n ≤ cap) (hl : n ≤ 1048576) (hl' : m ≤ 1048576) (hc : Sl encShip w w.heap.size A l) (hd : Sl encInt w w.heap.size A' wt) :
    Calls Try.prog 38 #[.slice A n cap, .slice A' m cap'] w fun e w' => e = .returned (.tuple #[.int .i64 (freeP l wt), .bool (rotaOK l wt)]) ∧ Below w.heap.size w w' := by
  have HC := Lib.hid hc; clear hc
  have HD := Lib.hid hd; clear hd
  have HN := Lib.hid hn; clear hn
  have HM := Lib.hid hm; clear hm
  rcases sp2 (areShips l) (areWaters wt) with t1 | ⟨t1, t2⟩ | ⟨t1, t2⟩
  · have hq : rotaOK l wt = false := by simp [rotaOK, t1]
    have hp : freeP l wt = 0 := by simp [freeP, hq]
    rw [hq, hp]
    clear hq hp
    go_enter Try.func38, Try.ntmps38
    go_wp2_with fail
    refine (l17Good_any l n HN.out _ _ _ hcap hl (HC.out.past (Below.refl _ _))).mono ?_
    rintro e w1 ⟨rfl, b1⟩
    rw [t1]
    have B1 := Lib.hid (below_step (Below.refl _ _) b1)
    have D1 := Lib.hid (HD.out.past B1.out)
    have BB1 := Lib.hid b1
    clear b1
    go_wp2
    go_ret2
    exact ⟨rfl, B1.out⟩
  · have hq : rotaOK l wt = false := by simp [rotaOK, t2]
    have hp : freeP l wt = 0 := by simp [freeP, hq]
    rw [hq, hp]
    clear hq hp
    go_enter Try.func38, Try.ntmps38
    go_wp2_with fail
    refine (l17Good_any l n HN.out _ _ _ hcap hl (HC.out.past (Below.refl _ _))).mono ?_
    rintro e w1 ⟨rfl, b1⟩
    rw [t1]
    have B1 := Lib.hid (below_step (Below.refl _ _) b1)
    have D1 := Lib.hid (HD.out.past B1.out)
    have BB1 := Lib.hid b1
    clear b1
    go_wp2_with fail
    refine (l17Water_any wt m HM.out _ _ _ hl' D1.out).mono ?_
    rintro e w2 ⟨rfl, b2⟩
    rw [t2]
    have B2 := Lib.hid (below_step B1.out b2)
    have C2 := Lib.hid (HC.out.past B2.out)
    have D2 := Lib.hid (HD.out.past B2.out)
    have BB2 := Lib.hid (below_step BB1.out b2)
    clear b2
    go_wp2
    go_ret2
    exact ⟨rfl, B2.out⟩
  · have hq : rotaOK l wt = true := by simp [rotaOK, t1, t2]
    obtain ⟨D, hD⟩ : ∃ D, rotaD l wt m = D := ⟨_, rfl⟩
    have hp : freeP l wt = (negTo D m : Nat) := by simp [freeP, hq, HM.out, hD]
    have HE := Lib.hid hD
    clear hD
    rw [hq, hp]
    clear hq hp
    have HT1 := Lib.hid t1
    have hm4 : m ≤ 400 := by have := areWaters_len t2; rw [HM.out] at this; exact this
    have hn8 : n ≤ 8 := by have := areShips_len t1; rw [HN.out] at this; exact this
    go_enter Try.func38, Try.ntmps38
    go_wp2_with fail
    refine (l17Good_any l n HN.out _ _ _ hcap hl (HC.out.past (Below.refl _ _))).mono ?_
    rintro e w1 ⟨rfl, b1⟩
    rw [t1]
    have B1 := Lib.hid (below_step (Below.refl _ _) b1)
    have D1 := Lib.hid (HD.out.past B1.out)
    have BB1 := Lib.hid b1
    clear b1
    go_wp2_with fail
    refine (l17Water_any wt m HM.out _ _ _ hl' D1.out).mono ?_
    rintro e w2 ⟨rfl, b2⟩
    rw [t2]
    have B2 := Lib.hid (below_step B1.out b2)
    have C2 := Lib.hid (HC.out.past B2.out)
    have D2 := Lib.hid (HD.out.past B2.out)
    have BB2 := Lib.hid (below_step BB1.out b2)
    clear b2
    go_wp2_with fail
    refine (l17Rota_any l wt n m m 400 HN.out HM.out _ _ _ _ _ (fun i x hx => areShips_ok HT1.out hx) hl hm4 (by omega) (by omega) C2.out D2.out).mono ?_
    rintro e w3 ⟨vd, vs, rfl, od, os, b3⟩
    obtain ⟨As, cs, rfl, _, _, _⟩ := os.slice
    obtain ⟨Ad, cd, rfl, _, _, _⟩ := od.slice
    rw [rotaS_length, HN.out] at os ⊢
    rw [rotaD_length] at od ⊢
    have OS := Lib.hid os
    have OD := Lib.hid od
    have B3 := Lib.hid (below_step B2.out b3)
    have BB3 := Lib.hid (below_step BB2.out b3)
    clear os od b3
    clear t1 t2
    go_wp2
    have HDl := Lib.hid (HE.out ▸ rotaD_length l wt m)
    rw [HE.out] at OD
    go_loopw [6, 9] (fun c j wr => ∃ k : Nat, k ≤ m ∧ j = .int .i64 k ∧ c = .int .i64 (negTo D k : Nat) ∧ Below w3.heap.size w3 wr) (fun _ j _ => m - (intOf j).toNat)
    case atStart => exact ⟨0, Nat.zero_le _, rfl, rfl, Below.refl _ _⟩
    case round =>
      obtain ⟨k, hk, rfl, rfl, hbel⟩ := hrel
      have hsz := hbel.size
      have hle := negTo_le D k
      by_cases hlt : k < m
      · obtain ⟨b, off, rfl, hb, hcs⟩ := OD.out.rd.int_ (by rw [HDl.out]; omega)
        have hx : D[k]? = some (D[k]'(by rw [HDl.out]; exact hlt)) := List.getElem?_eq_getElem _
        generalize D[k]'(by rw [HDl.out]; exact hlt) = x at hx
        have c0 := hcs k x hx
        have HS := Lib.hid (show negTo D (k + 1) = if x < 0 then negTo D k + 1 else negTo D k by rw [negTo_succ, List.getElem!_of_getElem? hx])
        clear hcs hx
        rw [← hbel.cell hb] at c0
        have hbw : b < wr.heap.size := by omega
        have k1 : (k : Int) < m := by omega
        have k2 : (0 : Int) ≤ k := by omega
        have k3 : IntKind.i64.wrap ((negTo D k : Nat) + 1 : Int) = (negTo D k : Nat) + 1 := IntWalk.i64_in _ (by omega)
        by_cases hq : x < 0
        · go_wp2
          go_roundw
          case rel => exact ⟨k + 1, by omega, by go_num, by rw [HS.out, if_pos hq]; go_num, hbel⟩
          case measure => simp [intOf]; omega
        · go_wp2
          go_roundw
          case rel => exact ⟨k + 1, by omega, by go_num, by rw [HS.out, if_neg hq], hbel⟩
          case measure => simp [intOf]; omega
      · go_wp2
        go_ret2
        obtain rfl : k = m := by omega
        exact ⟨rfl, below_step B3.out hbel⟩
set_option maxRecDepth 4000 in
set_option maxHeartbeats 4000000 in
theorem impl_TonsInAll_any (l : List Ship) (wt : List Int) (n m : Nat) (hn : l.length = n) (hm : wt.length = m) (A A' : Option Addr) (cap cap' : Nat) (w : World) (hcap : n ≤ cap) (hl : n ≤ 1048576) (hl' : m ≤ 1048576) (hc : Sl encShip w w.heap.size A l) (hd : Sl encInt w w.heap.size A' wt) :
    Calls Try.prog 37 #[.slice A n cap, .slice A' m cap'] w fun e w' => e = .returned (.tuple #[.int .i64 (tonsP l wt), .bool (rotaOK l wt)]) ∧ Below w.heap.size w w' := by
  have HC := Lib.hid hc; clear hc
  have HD := Lib.hid hd; clear hd
  have HN := Lib.hid hn; clear hn
  have HM := Lib.hid hm; clear hm
  rcases sp2 (areShips l) (areWaters wt) with t1 | ⟨t1, t2⟩ | ⟨t1, t2⟩
  · have hq : rotaOK l wt = false := by simp [rotaOK, t1]
    have hp : tonsP l wt = 0 := by simp [tonsP, hq]
    rw [hq, hp]
    clear hq hp
    go_enter Try.func37, Try.ntmps37
    go_wp2_with fail
    refine (impl_AreShips_any l n HN.out _ _ _ hcap hl (HC.out.past (Below.refl _ _))).mono ?_
    rintro e w1 ⟨rfl, b1⟩
    rw [t1]
    have B1 := Lib.hid (below_step (Below.refl _ _) b1)
    have D1 := Lib.hid (HD.out.past B1.out)
    have BB1 := Lib.hid b1
    clear b1
    go_wp2
    go_ret2
    exact ⟨rfl, B1.out⟩
  · have hq : rotaOK l wt = false := by simp [rotaOK, t2]
    have hp : tonsP l wt = 0 := by simp [tonsP, hq]
    rw [hq, hp]
    clear hq hp
    go_enter Try.func37, Try.ntmps37
    go_wp2_with fail
    refine (impl_AreShips_any l n HN.out _ _ _ hcap hl (HC.out.past (Below.refl _ _))).mono ?_
    rintro e w1 ⟨rfl, b1⟩
    rw [t1]
    have B1 := Lib.hid (below_step (Below.refl _ _) b1)
    have D1 := Lib.hid (HD.out.past B1.out)
    have BB1 := Lib.hid b1
    clear b1
    go_wp2_with fail
    refine (impl_areWaters_any wt m HM.out _ _ _ hl' D1.out).mono ?_
    rintro e w2 ⟨rfl, b2⟩
    rw [t2]
    have B2 := Lib.hid (below_step B1.out b2)
    have C2 := Lib.hid (HC.out.past B2.out)
    have D2 := Lib.hid (HD.out.past B2.out)
    have BB2 := Lib.hid (below_step BB1.out b2)
    clear b2
    go_wp2
    go_ret2
    exact ⟨rfl, B2.out⟩
  · have hq : rotaOK l wt = true := by simp [rotaOK, t1, t2]
    have hp : tonsP l wt = rotaT l wt m := by simp [tonsP, hq, HM.out]
    rw [hq, hp]
    clear hq hp
    have HT1 := Lib.hid t1
    have hm4 : m ≤ 400 := by have := areWaters_len t2; rw [HM.out] at this; exact this
    have hn8 : n ≤ 8 := by have := areShips_len t1; rw [HN.out] at this; exact this
    go_enter Try.func37, Try.ntmps37
    go_wp2_with fail
    refine (impl_AreShips_any l n HN.out _ _ _ hcap hl (HC.out.past (Below.refl _ _))).mono ?_
    rintro e w1 ⟨rfl, b1⟩
    rw [t1]
    have B1 := Lib.hid (below_step (Below.refl _ _) b1)
    have D1 := Lib.hid (HD.out.past B1.out)
    have BB1 := Lib.hid b1
    clear b1
    go_wp2_with fail
    refine (impl_areWaters_any wt m HM.out _ _ _ hl' D1.out).mono ?_
    rintro e w2 ⟨rfl, b2⟩
    rw [t2]
    have B2 := Lib.hid (below_step B1.out b2)
    have C2 := Lib.hid (HC.out.past B2.out)
    have D2 := Lib.hid (HD.out.past B2.out)
    have BB2 := Lib.hid (below_step BB1.out b2)
    clear b2
    go_wp2_with fail
    refine (rota_any l wt n m HN.out HM.out _ _ _ _ _ (fun i x hx => areShips_ok HT1.out hx) hl hm4 C2.out D2.out).mono ?_
    rintro e w3 ⟨vs, vd, rfl, os, od, b3⟩
    obtain ⟨As, cs, rfl, _, _, _⟩ := os.slice
    obtain ⟨Ad, cd, rfl, _, _, _⟩ := od.slice
    rw [rotaS_length, HN.out] at os ⊢
    rw [rotaD_length] at od ⊢
    have OS := Lib.hid os
    have OD := Lib.hid od
    have B3 := Lib.hid (below_step B2.out b3)
    have BB3 := Lib.hid (below_step BB2.out b3)
    clear os od b3
    clear t1 t2
    go_wp2
    go_ret2
    exact ⟨rfl, B3.out⟩
set_option maxRecDepth 4000 in
set_option maxHeartbeats 4000000 in
theorem spec_TonsInAll_any (l : List Ship) (wt : List Int) (n m : Nat) (hn : l.length = n) (hm : wt.length = m) (A A' : Option Addr) (cap cap' : Nat) (w : World) (hcap : n ≤ cap) (hl : n ≤ 1048576) (hl' : m ≤ 1048576) (hc : Sl encShip w w.heap.size A l) (hd : Sl encInt w w.heap.size A' wt) :
    Calls Try.prog 36 #[.slice A n cap, .slice A' m cap'] w fun e w' => e = .returned (.tuple #[.int .i64 (tonsP l wt), .bool (rotaOK l wt)]) ∧ Below w.heap.size w w' := by
  have HC := Lib.hid hc; clear hc
  have HD := Lib.hid hd; clear hd
  have HN := Lib.hid hn; clear hn
  have HM := Lib.hid hm; clear hm
  rcases sp2 (areShips l) (areWaters wt) with t1 | ⟨t1, t2⟩ | ⟨t1, t2⟩
  · have hq : rotaOK l wt = false := by simp [rotaOK, t1]
    have hp : tonsP l wt = 0 := by simp [tonsP, hq]
    rw [hq, hp]
    clear hq hp
    go_enter Try.func36, Try.ntmps36
    go_wp2_with fail
    refine (l17Good_any l n HN.out _ _ _ hcap hl (HC.out.past (Below.refl _ _))).mono ?_
    rintro e w1 ⟨rfl, b1⟩
    rw [t1]
    have B1 := Lib.hid (below_step (Below.refl _ _) b1)
    have D1 := Lib.hid (HD.out.past B1.out)
    have BB1 := Lib.hid b1
    clear b1
    go_wp2
    go_ret2
    exact ⟨rfl, B1.out⟩
  · have hq : rotaOK l wt = false := by simp [rotaOK, t2]
    have hp : tonsP l wt = 0 := by simp [tonsP, hq]
    rw [hq, hp]
    clear hq hp
    go_enter Try.func36, Try.ntmps36
    go_wp2_with fail
    refine (l17Good_any l n HN.out _ _ _ hcap hl (HC.out.past (Below.refl _ _))).mono ?_
    rintro e w1 ⟨rfl, b1⟩
    rw [t1]
    have B1 := Lib.hid (below_step (Below.refl _ _) b1)
    have D1 := Lib.hid (HD.out.past B1.out)
    have BB1 := Lib.hid b1
    clear b1
    go_wp2_with fail
    refine (l17Water_any wt m HM.out _ _ _ hl' D1.out).mono ?_
    rintro e w2 ⟨rfl, b2⟩
    rw [t2]
    have B2 := Lib.hid (below_step B1.out b2)
    have C2 := Lib.hid (HC.out.past B2.out)
    have D2 := Lib.hid (HD.out.past B2.out)
    have BB2 := Lib.hid (below_step BB1.out b2)
    clear b2
    go_wp2
    go_ret2
    exact ⟨rfl, B2.out⟩
  · have hq : rotaOK l wt = true := by simp [rotaOK, t1, t2]
    obtain ⟨S, eS⟩ : ∃ S, rotaS l wt m = S := ⟨_, rfl⟩
    have hp : tonsP l wt = sumTo l S n := by simp [tonsP, hq, HM.out]; rw [← rotaT_sum, HN.out, eS]
    have HE := Lib.hid eS
    clear eS
    rw [hq, hp]
    clear hq hp
    have HT1 := Lib.hid t1
    have hm4 : m ≤ 400 := by have := areWaters_len t2; rw [HM.out] at this; exact this
    have hn8 : n ≤ 8 := by have := areShips_len t1; rw [HN.out] at this; exact this
    go_enter Try.func36, Try.ntmps36
    go_wp2_with fail
    refine (l17Good_any l n HN.out _ _ _ hcap hl (HC.out.past (Below.refl _ _))).mono ?_
    rintro e w1 ⟨rfl, b1⟩
    rw [t1]
    have B1 := Lib.hid (below_step (Below.refl _ _) b1)
    have D1 := Lib.hid (HD.out.past B1.out)
    have BB1 := Lib.hid b1
    clear b1
    go_wp2_with fail
    refine (l17Water_any wt m HM.out _ _ _ hl' D1.out).mono ?_
    rintro e w2 ⟨rfl, b2⟩
    rw [t2]
    have B2 := Lib.hid (below_step B1.out b2)
    have C2 := Lib.hid (HC.out.past B2.out)
    have D2 := Lib.hid (HD.out.past B2.out)
    have BB2 := Lib.hid (below_step BB1.out b2)
    clear b2
    go_wp2_with fail
    refine (l17Rota_any l wt n m m 400 HN.out HM.out _ _ _ _ _ (fun i x hx => areShips_ok HT1.out hx) hl hm4 (by omega) (by omega) C2.out D2.out).mono ?_
    rintro e w3 ⟨vd, vs, rfl, od, os, b3⟩
    obtain ⟨As, cs, rfl, _, _, _⟩ := os.slice
    obtain ⟨Ad, cd, rfl, _, _, _⟩ := od.slice
    rw [rotaS_length, HN.out] at os ⊢
    rw [rotaD_length] at od ⊢
    have OS := Lib.hid os
    have OD := Lib.hid od
    have B3 := Lib.hid (below_step B2.out b3)
    have BB3 := Lib.hid (below_step BB2.out b3)
    clear os od b3
    clear t1 t2
    go_wp2
    have HSl := Lib.hid (HE.out ▸ rotaS_length l wt m)
    have HF := Lib.hid (HE.out ▸ rotaS_fuls (okShips_fits (fun i x hx => areShips_ok HT1.out hx)) wt m)
    rw [HE.out] at OS
    have C3 := Lib.hid ((HC.out.below B3.out).more B3.out.size)
    go_loopw [6, 9] (fun c j wr => ∃ k : Nat, k ≤ n ∧ j = .int .i64 k ∧ c = .int .i64 (sumTo l S k) ∧ Below w3.heap.size w3 wr) (fun _ j _ => n - (intOf j).toNat)
    case atStart => exact ⟨0, Nat.zero_le _, rfl, rfl, Below.refl _ _⟩
    case round =>
      obtain ⟨k, hk, rfl, rfl, hbel⟩ := hrel
      have hsz := hbel.size
      by_cases hlt : k < n
      · obtain ⟨b, off, rfl, hb, hcs⟩ := OS.out.rd.ship (by rw [HSl.out, HN.out]; omega)
        obtain ⟨b', off', rfl, hb', hcs'⟩ := C3.out.ship (by rw [HN.out]; omega)
        have hy : S[k]? = some (S[k]'(by rw [HSl.out, HN.out]; exact hlt)) := List.getElem?_eq_getElem _
        have hx : l[k]? = some (l[k]'(by rw [HN.out]; exact hlt)) := List.getElem?_eq_getElem _
        generalize S[k]'(by rw [HSl.out, HN.out]; exact hlt) = y at hy
        generalize l[k]'(by rw [HN.out]; exact hlt) = x at hx
        obtain ⟨_, _, _, _, _, c5⟩ := hcs k y hy
        obtain ⟨_, _, _, _, _, d5⟩ := hcs' k x hx
        obtain ⟨_, _, _, _, h5, h6, h7⟩ := HF.out.2 k _ _ hx hy
        obtain ⟨_, _, _, _, _, ⟨h8, h9⟩, ⟨h10, h11⟩⟩ := shipOK_at (areShips_ok HT1.out hx)
        have hr := sumTo_rng HF.out (fun i x hx => areShips_ok HT1.out hx) k (by rw [HN.out]; exact hk)
        have HS := Lib.hid (show sumTo l S (k + 1) = sumTo l S k + y.loaded - x.loaded by rw [sumTo_succ, List.getElem!_of_getElem? hx, List.getElem!_of_getElem? hy])
        clear hcs hcs' hx hy
        rw [← hbel.cell hb] at c5
        rw [← hbel.cell hb'] at d5
        have hbw : b < wr.heap.size := by omega
        have hbw' : b' < wr.heap.size := by omega
        generalize sumTo l S k = s at *
        generalize y.loaded = yl at *
        generalize x.loaded = xl at *
        have k1 : (k : Int) < n := by omega
        have k2 : (0 : Int) ≤ k := by omega
        have k3 : IntKind.i64.wrap (s + yl) = s + yl := IntWalk.i64_in _ (by omega)
        have k4 : IntKind.i64.wrap (s + yl - xl) = s + yl - xl := IntWalk.i64_in _ (by omega)
        go_wp2
        refine wp_region_gw (by kernel_rfl) (by kernel_rfl) ?_
        repeat (first | go_big_quiet_step ((fail)) | quiet_step ((fail)))
        refine wpQuiet_nil ?_
        rintro _ ⟨pq, rfl⟩
        go_wp2
        go_roundw
        case rel => exact ⟨k + 1, by omega, by go_num, by rw [HS.out], (by repeat (first | assumption | exact Below.refl _ _ | apply bl_gw | apply bl_alloc | apply bl_drewN | apply bl_drew))⟩
        case measure => simp [intOf]; omega
      · go_wp2
        go_ret2
        obtain rfl : k = n := by omega
        exact ⟨rfl, below_step B3.out hbel⟩
end Go.Proofs.Ytggdcjajiaeklaa
