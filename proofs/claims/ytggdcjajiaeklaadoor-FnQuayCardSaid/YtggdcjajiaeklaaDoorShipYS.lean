/- Ships: one is sent away, by the reference. -/
import Derived.Test.YtggdcjajiaeklaaDoorShipY
namespace Go.Proofs.YtggdcjajiaeklaaDoor
open Go.RowKit
theorem own_nilG {w : World} {B : Nat} (pq : GP) (h : B ≤ (gw w pq).heap.size) : Own encShip ((gw w pq).alloc (.cells #[] 26)) B 26 (.slice (some ⟨w.heap.size + pq.os.size, 0, none⟩) 0 0) [] := by
  have q := Own.nil_ (E := encShip) (w := gw w pq) (base := B) h 26
  rw [gw_size] at q
  exact q
theorem sl_tailS {w w' : World} {b off k c : Nat} {S : List Ship} (h : Sl encShip w w.heap.size (some ⟨b, off, none⟩) S) (hS : S.length = k) (hk : k ≤ c) (p : Nat) (hb : Below w.heap.size w w') : Sl encShip w' w.heap.size (if c = p + 1 then some ⟨b, off, none⟩ else some ⟨b, off + (p + 1) * 6, none⟩) (S.drop (p + 1)) := by
  split
  · exact Sl.nil_' (List.drop_eq_nil_of_le (by omega))
  · have := (h.drop_ (p + 1)).below hb
    simpa [encShip] using this
set_option maxRecDepth 4000 in
set_option maxHeartbeats 8000000 in
theorem spec_SendShip_any (l : List Ship) (n : Nat) (hn : l.length = n) (A : Option Addr) (cap : Nat) (id : Int) (w : World) (hcap : n ≤ cap) (hl : n ≤ 1048576) (hc : Sl encShip w w.heap.size A l) :
    Calls Tryd.prog 19 #[.slice A n cap, .int .i64 id] w fun e w' => ∃ v, e = .returned (.tuple #[v, .bool (sendOK l id)]) ∧ Own encShip w' w.heap.size 26 v (sendP l id) ∧ Below w.heap.size w w' := by
  have HC := Lib.hid hc; clear hc
  have HN := Lib.hid hn; clear hn
  obtain ⟨at_, hat⟩ : ∃ v, shipPlace l id = v := ⟨_, rfl⟩
  have HAT := Lib.hid hat
  rcases sp2 (areShips l) (decide (0 ≤ at_)) with t1 | ⟨t1, t2⟩ | ⟨t1, t2⟩
  · have hq : sendOK l id = false := by simp [sendOK, t1]
    have hp : sendP l id = [] := by simp [sendP, hq]
    rw [hq, hp]
    clear hq hp hat
    go_enter Tryd.func19, Tryd.ntmps19
    go_wp2_with fail
    refine (l17Find_any l n HN.out _ _ id _ hl HC.out).mono ?_
    rintro e w1 ⟨rfl, b1⟩
    rw [HAT.out]
    have B1 := Lib.hid b1
    have C1 := Lib.hid (HC.out.past b1)
    clear b1
    go_wp2
    refine wp_region_gw (by kernel_rfl) (by kernel_rfl) ?_
    repeat (first | go_big_quiet_step ((go_at_call 31; exact quiet_gw ((l17Good_any l n HN.out _ _ _ hcap hl (C1.out.past (by repeat (first | assumption | exact Below.refl _ _ | apply bl_gw | apply bl_alloc | apply bl_drewN | apply bl_drew)))).mono (fun _ _ ⟨he, hb⟩ => ⟨by rw [he, t1], hb⟩)))) | quiet_step ((go_at_call 31; exact quiet_gw ((l17Good_any l n HN.out _ _ _ hcap hl (C1.out.past (by repeat (first | assumption | exact Below.refl _ _ | apply bl_gw | apply bl_alloc | apply bl_drewN | apply bl_drew)))).mono (fun _ _ ⟨he, hb⟩ => ⟨by rw [he, t1], hb⟩)))))
    refine wpQuiet_nil ?_
    rintro _ ⟨pq, rfl⟩
    go_wp2
    go_ret2
    exact ⟨_, rfl, own_nilG pq (bl_gw B1.out pq).size, bl_alloc (bl_gw B1.out pq) _⟩
  · have t3 : ¬ 0 ≤ at_ := by simpa using t2
    have t4 : at_ < 0 := by omega
    have t5 : decide (at_ < 0) = true := decide_eq_true t4
    have hq : sendOK l id = false := by simp [sendOK, hat, t3]
    have hp : sendP l id = [] := by simp [sendP, hq]
    rw [hq, hp]
    clear hq hp hat t2 t3
    go_enter Tryd.func19, Tryd.ntmps19
    go_wp2_with fail
    refine (l17Find_any l n HN.out _ _ id _ hl HC.out).mono ?_
    rintro e w1 ⟨rfl, b1⟩
    rw [HAT.out]
    have B1 := Lib.hid b1
    have C1 := Lib.hid (HC.out.past b1)
    clear b1
    go_wp2
    refine wp_region_gw (by kernel_rfl) (by kernel_rfl) ?_
    repeat (first | go_big_quiet_step ((go_at_call 31; exact quiet_gw ((l17Good_any l n HN.out _ _ _ hcap hl (C1.out.past (by repeat (first | assumption | exact Below.refl _ _ | apply bl_gw | apply bl_alloc | apply bl_drewN | apply bl_drew)))).mono (fun _ _ ⟨he, hb⟩ => ⟨by rw [he, t1], hb⟩)))) | quiet_step ((go_at_call 31; exact quiet_gw ((l17Good_any l n HN.out _ _ _ hcap hl (C1.out.past (by repeat (first | assumption | exact Below.refl _ _ | apply bl_gw | apply bl_alloc | apply bl_drewN | apply bl_drew)))).mono (fun _ _ ⟨he, hb⟩ => ⟨by rw [he, t1], hb⟩)))))
    refine wpQuiet_nil ?_
    rintro _ ⟨pq, rfl⟩
    go_wp2
    go_ret2
    exact ⟨_, rfl, own_nilG pq (bl_gw B1.out pq).size, bl_alloc (bl_gw B1.out pq) _⟩
  · obtain ⟨p, rfl, hp⟩ := shipPlace_lt hat (of_decide_eq_true t2)
    rw [HN.out] at hp
    obtain ⟨bk, off, rfl, hb, hcs⟩ := HC.out.ship (by rw [HN.out]; omega)
    have hx : l[p]? = some (l[p]'(by rw [HN.out]; exact hp)) := List.getElem?_eq_getElem _
    generalize l[p]'(by rw [HN.out]; exact hp) = x at hx
    obtain ⟨c0, c1, c2, c3, c4, c5⟩ := hcs p x hx
    have hn8 : n ≤ 8 := by have := areShips_len t1; rw [HN.out] at this; exact this
    have hG : sendOK l id = decide (x.holds ≤ x.loaded) := by
      rw [sendOK, t1, hat, t2, Int.toNat_natCast, List.getElem!_of_getElem? hx]; rfl
    have HP := Lib.hid (show sendOK l id = true → sendP l id = l.take p ++ l.drop (p + 1) from fun h => by rw [sendP, if_pos h, hat, Int.toNat_natCast])
    have HG := Lib.hid hG
    have E4 := Lib.hid c4; have E5 := Lib.hid c5
    clear hcs hx hG hat c0 c1 c2 c3 c4 c5 t2
    generalize x.holds = xh at *
    generalize x.loaded = xl at *
    have k1 : (p : Int) < n := by omega
    have k2 : (0 : Int) ≤ p := by omega
    have k3 : ¬ (p : Int) < 0 := by omega
    have k3' : decide ((p : Int) < 0) = false := decide_eq_false (by omega)
    rcases sp1 (decide (xl < xh)) with q | q
    rotate_left
    · have hq : sendOK l id = false := by rw [HG.out]; simp at q ⊢; omega
      have hp : sendP l id = [] := by simp [sendP, hq]
      rw [hq, hp]
      clear hq hp
      go_enter Tryd.func19, Tryd.ntmps19
      go_wp2_with fail
      refine (l17Find_any l n HN.out _ _ id _ hl HC.out).mono ?_
      rintro e w1 ⟨rfl, b1⟩
      rw [HAT.out]
      have B1 := Lib.hid b1
      have C1 := Lib.hid (HC.out.past b1)
      clear b1
      have c4 := E4.out
      have c5 := E5.out
      rw [← B1.out.cell hb] at c4 c5
      have hbw : bk < w1.heap.size := by have := B1.out.size; omega
      go_wp2
      refine wp_region_gw (by kernel_rfl) (by kernel_rfl) ?_
      repeat (first | go_big_quiet_step ((go_at_call 31; exact quiet_gw ((l17Good_any l n HN.out _ _ _ hcap hl (C1.out.past (by repeat (first | assumption | exact Below.refl _ _ | apply bl_gw | apply bl_alloc | apply bl_drewN | apply bl_drew)))).mono (fun _ _ ⟨he, hb⟩ => ⟨by rw [he, t1], hb⟩)))) | quiet_step ((go_at_call 31; exact quiet_gw ((l17Good_any l n HN.out _ _ _ hcap hl (C1.out.past (by repeat (first | assumption | exact Below.refl _ _ | apply bl_gw | apply bl_alloc | apply bl_drewN | apply bl_drew)))).mono (fun _ _ ⟨he, hb⟩ => ⟨by rw [he, t1], hb⟩)))))
      refine wpQuiet_nil ?_
      rintro _ ⟨pq, rfl⟩
      go_wp2
      go_ret2
      exact ⟨_, rfl, own_nilG pq (bl_gw B1.out pq).size, bl_alloc (bl_gw B1.out pq) _⟩
    · have hq : sendOK l id = true := by rw [HG.out]; simp at q ⊢; omega
      have hp' := HP.out hq
      rw [hq, hp']
      clear hq hp'
      go_enter Tryd.func19, Tryd.ntmps19
      go_wp2_with fail
      refine (l17Find_any l n HN.out _ _ id _ hl HC.out).mono ?_
      rintro e w1 ⟨rfl, b1⟩
      rw [HAT.out]
      have B1 := Lib.hid b1
      have C1 := Lib.hid (HC.out.past b1)
      clear b1
      have c4 := E4.out
      have c5 := E5.out
      rw [← B1.out.cell hb] at c4 c5
      have hbw : bk < w1.heap.size := by have := B1.out.size; omega
      go_wp2
      refine wp_region_gw (by kernel_rfl) (by kernel_rfl) ?_
      repeat (first | go_big_quiet_step ((go_at_call 31; exact quiet_gw ((l17Good_any l n HN.out _ _ _ hcap hl (C1.out.past (by repeat (first | assumption | exact Below.refl _ _ | apply bl_gw | apply bl_alloc | apply bl_drewN | apply bl_drew)))).mono (fun _ _ ⟨he, hb⟩ => ⟨by rw [he, t1], hb⟩)))) | quiet_step ((go_at_call 31; exact quiet_gw ((l17Good_any l n HN.out _ _ _ hcap hl (C1.out.past (by repeat (first | assumption | exact Below.refl _ _ | apply bl_gw | apply bl_alloc | apply bl_drewN | apply bl_drew)))).mono (fun _ _ ⟨he, hb⟩ => ⟨by rw [he, t1], hb⟩)))))
      refine wpQuiet_nil ?_
      rintro _ ⟨pq, rfl⟩
      obtain ⟨j0, hinf', hy0, hy1, hy2⟩ := info_parts info_Ship
      have j1 : IntKind.i64.wrap ((p : Int) + 1) = (p : Int) + 1 := IntWalk.i64_in _ (by omega)
      have j2 : (p : Int) + 1 ≤ n := by omega
      have j3 : (p : Int) ≤ cap := by omega
      have j4 : ((p : Int) + 1).toNat = p + 1 := by omega
      have j5 : (0 : Int) ≤ (p : Int) + 1 := by omega
      have j6 : (p : Int) ≤ n := by omega
      go_wp2
      refine wp_name (fun W0 hW0 => ?_)
      have hB0 : Below w1.heap.size w1 W0 := by rw [hW0]; exact (by repeat (first | assumption | exact Below.refl _ _ | apply bl_gw | apply bl_alloc | apply bl_drewN | apply bl_drew))
      have HS0 := Lib.hid (C1.out.past hB0)
      have HB0 := Lib.hid (below_step B1.out hB0)
      clear hW0 hB0
      have HTk := Lib.hid (show (l.take p).length = p by rw [List.length_take, HN.out]; omega)
      have HTd := Lib.hid (show (l.drop (p + 1)).length = n - (p + 1) by rw [List.length_drop, HN.out])
      have HST := Lib.hid (HS0.out.take p)
      have BA := Lib.hid (show Below W0.heap.size W0 (W0.alloc (.cells #[] 26)).drew from (by repeat (first | assumption | exact Below.refl _ _ | apply bl_gw | apply bl_alloc | apply bl_drewN | apply bl_drew)))
      have OA := Lib.hid (show Own encShip (W0.alloc (.cells #[] 26)).drew W0.heap.size 26 (.slice (some ⟨W0.heap.size, 0, none⟩) 0 0) [] from (Own.nil_ (w := W0) (Nat.le_refl _) _).past (bl_drew (Below.refl _ _)) (Nat.le_refl _))
      go_region_law (first | (refine step_app (E := encShip) rfl (.tmp 31) (.tmp 34) 31 rfl W0.heap.size 26 j0 _ 48 Tryd.underlying31 hinf' hy0 hy1 hy2 rfl (by decide) (.slice (some ⟨W0.heap.size, 0, none⟩) 0 0) [] rfl OA.out W0.heap.size (some ⟨bk, off, none⟩) p cap (l.take p) rfl HTk.out (HST.out.below BA.out) (by simp [maxLen]; omega) (by simp; omega) BA.out.size ?_; intro v1 w2' o1 g1' d1; have O1 := Lib.hid o1; have B1' := Lib.hid (below_grownB BA.out g1' BA.out.size OA.out.row); clear o1 g1' d1) | (refine step_app (E := encShip) rfl (.tmp 35) (.tmp 39) 31 rfl W0.heap.size 26 j0 _ 48 Tryd.underlying31 hinf' hy0 hy1 hy2 rfl (by decide) v1 _ rfl O1.out W0.heap.size _ (n - (p + 1)) (cap - (p + 1)) (l.drop (p + 1)) rfl HTd.out (sl_tailS HS0.out HN.out hcap p B1'.out) (by simp [maxLen, HTk.out]; omega) (by simp [HTk.out]; omega) B1'.out.size ?_; intro v2 w3' o2 g2' d2; have O2 := Lib.hid o2; have B2' := Lib.hid (below_grownB B1'.out g2' B1'.out.size O1.out.row); clear o2 g2' d2))
      all_goals
        have o2 := O2.out
        rw [List.nil_append] at o2
        have O3 := Lib.hid (o2.lower (b := w.heap.size) HB0.out.size)
        have B3 := Lib.hid (HB0.out.trans (B2'.out.mono HB0.out.size))
        clear o2
        go_wp2
        all_goals go_ret2
        all_goals exact ⟨_, rfl, O3.out, B3.out⟩
end Go.Proofs.YtggdcjajiaeklaaDoor
