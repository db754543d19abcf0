/- Ships: one is sent away. -/
import Derived.Test.YtggdcjajiaeklaaDoorShipR
import Derived.Test.YtggdcjajiaeklaaDoorRoom
import Derived.Laws.CopyRow
namespace Go.Proofs.YtggdcjajiaeklaaDoor
open Go.RowKit
theorem bl_drewB {B : Nat} {w : World} (_ : B ≤ w.heap.size) : Below B w w.drew := (Below.refl B w).drew
def zs6 : List Value := [.int .i64 0, .int .i64 0, .int .i64 0, .int .i64 0, .int .i64 0, .int .i64 0]
theorem zero_Ship : ∀ w, (zeroValue 26).run Tryd.prog w = .ok (.agg #[.int .i64 0, .int .i64 0, .int .i64 0, .int .i64 0, .int .i64 0, .int .i64 0]) w := fun _ => by kernel_rfl
theorem zc_Ship : (Builtin.zeroCells #[.int .i64 0, .int .i64 0, .int .i64 0, .int .i64 0, .int .i64 0, .int .i64 0] 1).toList = zs6 := by first | kernel_rfl | (simp [Builtin.zeroCells, zs6])
theorem clear_Ship {w : World} {B g n c c' : Nat} {l : List Ship} (h : Own encShip w B 26 (.slice (some ⟨g, 0, none⟩) n c) l) (hroom : n + 1 ≤ c) :
    ∃ w', (Builtin.clear_ #[31] 0 #[.slice (some ⟨g, n * 6, none⟩) 1 c']).run Tryd.prog w = .ok (.tuple #[]) w' ∧ Own encShip w' B 26 (.slice (some ⟨g, 0, none⟩) n c) l ∧ w.grownBy w' (some g) := by
  obtain ⟨cs, hg, hb, hs, hl, hn, hm, hcs⟩ := h.open2
  have hk6 : encShip.k = 6 := rfl
  have hzl : zs6.length = 6 := rfl
  rw [hk6] at hs hcs
  have hst := run_storeCells_at Tryd.prog g (n * 6) 26 zs6 0 cs w hb (by rw [hzl]; omega) (by intro v hv; simp [zs6] at hv; subst hv; rfl)
  obtain ⟨R, hR⟩ : ∃ R : Array Value, (cs.toList.take (n * 6 + 0) ++ zs6 ++ cs.toList.drop (n * 6 + 0 + zs6.length)).toArray = R := ⟨_, rfl⟩
  rw [hR] at hst
  refine ⟨w.setRow g R, ?_, ?_, ⟨rfl, rfl, rfl, by simp, fun k _ hk => setRow_other w g k _ (fun e => hk (by rw [e]))⟩⟩
  · unfold Builtin.clear_
    simp [run_underlying Tryd.underlying31, zc_Ship, hst, Value.cells]
  · refine Own.of_marks hg (setRow_heap w g cs _ _ _ hb) hl hn ?_ (fun j hj => ?_) hm
    · rw [← hR]; simp [hk6, hzl]; omega
    · rw [hk6] at hj
      rw [← hcs j hj, ← hR]
      simp only [List.getElem?_toArray, Nat.add_zero, List.append_assoc]
      rw [List.getElem?_append_left (by simp; omega), List.getElem?_take, if_pos hj]
      simp
set_option maxRecDepth 4000 in
set_option maxHeartbeats 8000000 in
theorem deleteShip_any (l : List Ship) (n p g c B : Nat) (w : World) (hp : p ≤ n) (hn : n ≤ 1000) (hB : B ≤ w.heap.size) (ho : Own encShip w B 26 (.slice (some ⟨g, 0, none⟩) (n + 1) c) l) :
    Calls Tryd.prog 48 #[.slice (some ⟨g, 0, none⟩) (n + 1) c, .int .i64 p, .int .i64 ((p : Int) + 1)] w fun e w' => e = .returned (.slice (some ⟨g, 0, none⟩) n c) ∧ Own encShip w' B 26 (.slice (some ⟨g, 0, none⟩) n c) (l.take p ++ l.drop (p + 1)) ∧ Below B w w' := by
  have hc := ho.cap
  have hcm := ho.capMax
  have hgB : B ≤ g := ho.lo ⟨g, 0, none⟩ rfl
  have hlen := ho.len
  have HO := Lib.hid (ho.past (bl_drew (Below.refl w.heap.size w)) (Nat.le_refl _))
  have HPf := Lib.hid (HO.out.prefix_ (p := p) (by omega))
  obtain ⟨j0, hinf', hy0, hy1, hy2⟩ := info_parts info_Ship
  obtain ⟨ad, had⟩ : ∃ ad : Addr, (if c = p + 1 then some (⟨g, 0, none⟩ : Addr) else some ⟨g, (p + 1) * 6, none⟩) = some ad := by
    by_cases h : c = p + 1
    · exact ⟨⟨g, 0, none⟩, if_pos h⟩
    · exact ⟨⟨g, (p + 1) * 6, none⟩, if_neg h⟩
  have HS := Lib.hid (show Sl encShip w.drew w.drew.heap.size (some ad) (l.drop (p + 1)) from by
    rw [← had]
    split
    · exact Sl.nil_' (List.drop_eq_nil_of_le (by omega))
    · have := HO.out.rd.drop_ (p + 1)
      simpa [encShip] using this)
  have HAD := Lib.hid had
  have HLd := Lib.hid (show (l.drop (p + 1)).length = n - p by rw [List.length_drop, hlen]; omega)
  clear ho had hlen
  have k1 : (p : Int) + 1 ≤ (n : Int) + 1 := by omega
  have k1' : (p : Int) ≤ n := by omega
  have k2 : (0 : Int) ≤ p := by omega
  have k3 : (0 : Int) ≤ (p : Int) + 1 := by omega
  have k4 : ((p : Int) + 1).toNat = p + 1 := by omega
  have k5 : (p : Int) ≤ (p : Int) + 1 := by omega
  have k6 : ((p : Int) == (p : Int) + 1) = false := by simp; omega
  have k7 : (n : Int) + 1 ≤ c := by omega
  have k8 : (p : Int) ≤ c := by omega
  have k9 : (p : Int) + 1 ≤ c := by omega
  have k10 : ((n : Int) + 1).toNat = n + 1 := by omega
  have hnm : p + (n - p) = n := by omega
  have HNM := Lib.hid hnm
  clear hnm
  go_enter Tryd.func48, Tryd.ntmps48
  go_wp2
  go_region_law (refine step_app_room (E := encShip) rfl (.tmp 22) (.tmp 25) 31 rfl B 26 j0 Tryd.underlying31 hinf' hy1 (by decide) g p c (l.take p) rfl HPf.out _ ad (n - p) (c - (p + 1)) (l.drop (p + 1)) (by rw [← HAD.out]; rfl) HLd.out HS.out (by have := HNM.out; omega) ?_; intro w1 o1 g1; rw [HNM.out] at o1 ⊢; have O1 := Lib.hid o1; have B1 := Lib.hid (below_grownB (bl_drewB hB) g1 hB (by intro k hk; injection hk with hk; have h2 : g = k := hk; omega)); clear o1 g1)
  obtain ⟨w2, hclr, o2, g2⟩ := clear_Ship (c' := c - n) O1.out (show n + 1 ≤ c by omega)
  have O2 := Lib.hid o2
  have HCL := Lib.hid hclr
  have B2 := Lib.hid (below_grownB B1.out g2 (Nat.le_trans hB B1.out.size) (by intro k hk; injection hk with hk; have h2 : g = k := hk; omega))
  clear hclr o2 g2
  have k11 : ¬ c = n := by omega
  have k12 : n + 1 - n = 1 := by omega
  have k13 : (n : Int) ≤ (n : Int) + 1 := by omega
  go_wp2
  all_goals
    first
      | rw [HCL.out]
      | (rename_i h; subst h; rw [HCL.out])
    go_wp2
    go_ret
    exact ⟨rfl, O2.out, B2.out⟩
def sendOK (l : List Ship) (id : Int) : Bool := areShips l && (decide (0 ≤ shipPlace l id) && decide (l[(shipPlace l id).toNat]!.holds ≤ l[(shipPlace l id).toNat]!.loaded))
def sendP (l : List Ship) (id : Int) : List Ship := if sendOK l id then l.take (shipPlace l id).toNat ++ l.drop ((shipPlace l id).toNat + 1) else []
theorem sendP_length (l : List Ship) (id : Int) : (sendP l id).length ≤ 1000000 := by
  unfold sendP
  split
  · rename_i h
    simp only [sendOK, Bool.and_eq_true] at h
    have := areShips_len h.1
    simp; omega
  · simp
set_option maxRecDepth 4000 in
set_option maxHeartbeats 8000000 in
theorem impl_SendShip_any (l : List Ship) (n : Nat) (hn : l.length = n) (A : Option Addr) (cap : Nat) (id : Int) (w : World) (hcap : n ≤ cap) (hl : n ≤ 1048576) (hc : Sl encShip w w.heap.size A l) :
    Calls Tryd.prog 18 #[.slice A n cap, .int .i64 id] w fun e w' => ∃ v, e = .returned (.tuple #[v, .bool (sendOK l id)]) ∧ Own encShip w' w.heap.size 26 v (sendP l id) ∧ Below w.heap.size w w' := by
  have HC := Lib.hid hc; clear hc
  have HN := Lib.hid hn; clear hn
  obtain ⟨at_, hat⟩ : ∃ v, shipPlace l id = v := ⟨_, rfl⟩
  have HAT := Lib.hid hat
  rcases sp2 (areShips l) (decide (0 ≤ at_)) with t1 | ⟨t1, t2⟩ | ⟨t1, t2⟩
  · have hq : sendOK l id = false := by simp [sendOK, t1]
    have hp : sendP l id = [] := by simp [sendP, hq]
    rw [hq, hp]
    clear hq hp hat
    go_enter Tryd.func18, Tryd.ntmps18
    go_wp2_with fail
    refine (shipAt_any l n HN.out _ _ id _ hl HC.out).mono ?_
    rintro e w1 ⟨rfl, b1⟩
    rw [HAT.out]
    have B1 := Lib.hid b1
    have C1 := Lib.hid (HC.out.past b1)
    clear b1
    go_wp2
    refine wp_region_gw (by kernel_rfl) (by kernel_rfl) ?_
    repeat (first | go_big_quiet_step ((go_at_call 25; exact quiet_gw ((impl_AreShips_any l n HN.out _ _ _ hcap hl (C1.out.past (by repeat (first | assumption | exact Below.refl _ _ | apply bl_gw | apply bl_alloc | apply bl_drewN | apply bl_drew)))).mono (fun _ _ ⟨he, hb⟩ => ⟨by rw [he, t1], hb⟩)))) | quiet_step ((go_at_call 25; exact quiet_gw ((impl_AreShips_any l n HN.out _ _ _ hcap hl (C1.out.past (by repeat (first | assumption | exact Below.refl _ _ | apply bl_gw | apply bl_alloc | apply bl_drewN | apply bl_drew)))).mono (fun _ _ ⟨he, hb⟩ => ⟨by rw [he, t1], hb⟩)))))
    refine wpQuiet_nil ?_
    rintro _ ⟨pq, rfl⟩
    go_wp2
    go_ret2
    exact ⟨_, rfl, Own.none_, bl_gw B1.out pq⟩
  · have t3 : ¬ 0 ≤ at_ := by simpa using t2
    have t4 : at_ < 0 := by omega
    have t5 : decide (at_ < 0) = true := decide_eq_true t4
    have hq : sendOK l id = false := by simp [sendOK, hat, t3]
    have hp : sendP l id = [] := by simp [sendP, hq]
    rw [hq, hp]
    clear hq hp hat t2 t3
    go_enter Tryd.func18, Tryd.ntmps18
    go_wp2_with fail
    refine (shipAt_any l n HN.out _ _ id _ hl HC.out).mono ?_
    rintro e w1 ⟨rfl, b1⟩
    rw [HAT.out]
    have B1 := Lib.hid b1
    have C1 := Lib.hid (HC.out.past b1)
    clear b1
    go_wp2
    refine wp_region_gw (by kernel_rfl) (by kernel_rfl) ?_
    repeat (first | go_big_quiet_step ((go_at_call 25; exact quiet_gw ((impl_AreShips_any l n HN.out _ _ _ hcap hl (C1.out.past (by repeat (first | assumption | exact Below.refl _ _ | apply bl_gw | apply bl_alloc | apply bl_drewN | apply bl_drew)))).mono (fun _ _ ⟨he, hb⟩ => ⟨by rw [he, t1], hb⟩)))) | quiet_step ((go_at_call 25; exact quiet_gw ((impl_AreShips_any l n HN.out _ _ _ hcap hl (C1.out.past (by repeat (first | assumption | exact Below.refl _ _ | apply bl_gw | apply bl_alloc | apply bl_drewN | apply bl_drew)))).mono (fun _ _ ⟨he, hb⟩ => ⟨by rw [he, t1], hb⟩)))))
    refine wpQuiet_nil ?_
    rintro _ ⟨pq, rfl⟩
    go_wp2
    go_ret2
    exact ⟨_, rfl, Own.none_, bl_gw B1.out pq⟩
  · obtain ⟨p, rfl, hp⟩ := shipPlace_lt hat (of_decide_eq_true t2)
    rw [HN.out] at hp
    obtain ⟨bk, off, rfl, hb, hcs⟩ := HC.out.ship (by rw [HN.out]; omega)
    have hx : l[p]? = some (l[p]'(by rw [HN.out]; exact hp)) := List.getElem?_eq_getElem _
    generalize l[p]'(by rw [HN.out]; exact hp) = x at hx
    obtain ⟨c0, c1, c2, c3, c4, c5⟩ := hcs p x hx
    have hn8 : n ≤ 8 := by have := areShips_len t1; rw [HN.out] at this; exact this
    have hG : sendOK l id = decide (x.holds ≤ x.loaded) := by
      rw [sendOK, t1, hat, t2, Int.toNat_natCast, List.getElem!_of_getElem? hx]; rfl
    have HP := Lib.hid (show sendOK l id = true → sendP l id = l.take p ++ l.drop (p + 1) from fun h => by rw [sendP, if_pos h, hat, Int.toNat_natCast])
    have HG := Lib.hid hG
    have E4 := Lib.hid c4; have E5 := Lib.hid c5
    clear hcs hx hG hat c0 c1 c2 c3 c4 c5 t2
    generalize x.holds = xh at *
    generalize x.loaded = xl at *
    have k1 : (p : Int) < n := by omega
    have k2 : (0 : Int) ≤ p := by omega
    have k3 : ¬ (p : Int) < 0 := by omega
    have k3' : decide ((p : Int) < 0) = false := decide_eq_false (by omega)
    rcases sp1 (decide (xl < xh)) with q | q
    rotate_left
    · have hq : sendOK l id = false := by rw [HG.out]; simp at q ⊢; omega
      have hp : sendP l id = [] := by simp [sendP, hq]
      rw [hq, hp]
      clear hq hp
      go_enter Tryd.func18, Tryd.ntmps18
      go_wp2_with fail
      refine (shipAt_any l n HN.out _ _ id _ hl HC.out).mono ?_
      rintro e w1 ⟨rfl, b1⟩
      rw [HAT.out]
      have B1 := Lib.hid b1
      have C1 := Lib.hid (HC.out.past b1)
      clear b1
      have c4 := E4.out
      have c5 := E5.out
      rw [← B1.out.cell hb] at c4 c5
      have hbw : bk < w1.heap.size := by have := B1.out.size; omega
      go_wp2
      refine wp_region_gw (by kernel_rfl) (by kernel_rfl) ?_
      repeat (first | go_big_quiet_step ((go_at_call 25; exact quiet_gw ((impl_AreShips_any l n HN.out _ _ _ hcap hl (C1.out.past (by repeat (first | assumption | exact Below.refl _ _ | apply bl_gw | apply bl_alloc | apply bl_drewN | apply bl_drew)))).mono (fun _ _ ⟨he, hb⟩ => ⟨by rw [he, t1], hb⟩)))) | quiet_step ((go_at_call 25; exact quiet_gw ((impl_AreShips_any l n HN.out _ _ _ hcap hl (C1.out.past (by repeat (first | assumption | exact Below.refl _ _ | apply bl_gw | apply bl_alloc | apply bl_drewN | apply bl_drew)))).mono (fun _ _ ⟨he, hb⟩ => ⟨by rw [he, t1], hb⟩)))))
      refine wpQuiet_nil ?_
      rintro _ ⟨pq, rfl⟩
      go_wp2
      go_ret2
      exact ⟨_, rfl, Own.none_, bl_gw B1.out pq⟩
    · have hq : sendOK l id = true := by rw [HG.out]; simp at q ⊢; omega
      have hp' := HP.out hq
      rw [hq, hp']
      clear hq hp'
      go_enter Tryd.func18, Tryd.ntmps18
      go_wp2_with fail
      refine (shipAt_any l n HN.out _ _ id _ hl HC.out).mono ?_
      rintro e w1 ⟨rfl, b1⟩
      rw [HAT.out]
      have B1 := Lib.hid b1
      have C1 := Lib.hid (HC.out.past b1)
      clear b1
      have c4 := E4.out
      have c5 := E5.out
      rw [← B1.out.cell hb] at c4 c5
      have hbw : bk < w1.heap.size := by have := B1.out.size; omega
      go_wp2
      refine wp_region_gw (by kernel_rfl) (by kernel_rfl) ?_
      repeat (first | go_big_quiet_step ((go_at_call 25; exact quiet_gw ((impl_AreShips_any l n HN.out _ _ _ hcap hl (C1.out.past (by repeat (first | assumption | exact Below.refl _ _ | apply bl_gw | apply bl_alloc | apply bl_drewN | apply bl_drew)))).mono (fun _ _ ⟨he, hb⟩ => ⟨by rw [he, t1], hb⟩)))) | quiet_step ((go_at_call 25; exact quiet_gw ((impl_AreShips_any l n HN.out _ _ _ hcap hl (C1.out.past (by repeat (first | assumption | exact Below.refl _ _ | apply bl_gw | apply bl_alloc | apply bl_drewN | apply bl_drew)))).mono (fun _ _ ⟨he, hb⟩ => ⟨by rw [he, t1], hb⟩)))))
      refine wpQuiet_nil ?_
      rintro _ ⟨pq, rfl⟩
      go_wp2_with fail
      refine (cloneShip_any l n HN.out _ _ _ hl (C1.out.past (by repeat (first | assumption | exact Below.refl _ _ | apply bl_gw | apply bl_alloc | apply bl_drewN | apply bl_drew)))).mono ?_
      rintro e w3 ⟨v3, rfl, o3, b3⟩
      obtain ⟨A3, c3, rfl, _, _, _⟩ := o3.slice
      rw [HN.out] at o3 ⊢
      obtain ⟨g, rfl⟩ := o3.some_ (show 0 < n by omega)
      have hbq : Below w.heap.size w _ := bl_gw B1.out pq
      have B3 := Lib.hid (below_step hbq b3)
      have O3 := Lib.hid (o3.lower hbq.size)
      clear o3 b3 hbq
      obtain ⟨n1, rfl⟩ : ∃ n1, n = n1 + 1 := ⟨n - 1, by omega⟩
      have k5 : IntKind.i64.wrap ((p : Int) + 1) = (p : Int) + 1 := IntWalk.i64_in _ (by omega)
      go_wp2_with fail
      refine (deleteShip_any l n1 p g c3 w.heap.size _ (by omega) (by omega) B3.out.size O3.out).mono ?_
      rintro e w4 ⟨rfl, o4, b4⟩
      have O4 := Lib.hid o4
      have B4 := Lib.hid (B3.out.trans b4)
      clear o4 b4
      go_wp2
      go_ret2
      exact ⟨_, rfl, O4.out, B4.out⟩
end Go.Proofs.YtggdcjajiaeklaaDoor
