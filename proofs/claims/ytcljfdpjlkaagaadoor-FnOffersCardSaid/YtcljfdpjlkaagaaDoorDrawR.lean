/- The draw of contracts; the draws of the law on contracts. -/
import Derived.Test.YtcljfdpjlkaagaaDoorDrawC
import Derived.Test.YtcljfdpjlkaagaaDoorDrawD
namespace Go.Proofs.YtcljfdpjlkaagaaDoor
open Go.RowKit
set_option maxRecDepth 4000 in
set_option maxHeartbeats 8000000 in
theorem contracts_any (B p k : Nat) (w : World) (hk : k ≤ 300) (h : Cur w B p k) :
    Calls Tryd.prog 24 #[.pointer (some ⟨p, 0, none⟩)] w fun e w' => ∃ v l, e = .returned v ∧ List.length l ≤ 11 ∧ Own encContract w' w.heap.size 26 v l ∧ Cur w' B p (k + 300) ∧ w.grownBy w' (some p) := by
  have HC := Lib.hid h
  have hpB := h.lt
  have hle := h.le
  clear h
  have hpw : p < w.heap.size := by omega
  obtain ⟨i0, hinf, hz0, hz1, hz2⟩ := info_parts info_Contract
  have HB0 := Lib.hid (show Below w.heap.size w (w.alloc (.cells #[] 26)) from (by repeat (first | assumption | exact Below.refl _ _ | apply bl_gw | apply bl_alloc | apply bl_drewN | apply bl_drew)))
  have O0 := Lib.hid (show Own encContract (w.alloc (.cells #[] 26)) w.heap.size 26 (.slice (some ⟨w.heap.size, 0, none⟩) 0 0) [] from Own.nil_ (Nat.le_refl w.heap.size) 26)
  have C0 := Lib.hid (HC.out.below (HB0.out.mono hle))
  have G0 := Lib.hid (gb_below (World.grownBy.refl w (some p)) HB0.out)
  go_enter Tryd.func24, Tryd.ntmps24
  go_wp2_with fail
  refine (pick_any _ _ _ 7 _ (by omega) (by omega) (C0.out.below ((show Below (w.alloc (.cells #[] 26)).heap.size (w.alloc (.cells #[] 26)) _ from (by repeat (first | assumption | exact Below.refl _ _ | apply bl_gw | apply bl_alloc | apply bl_drewN | apply bl_drew))).mono C0.out.le))).mono ?_
  rintro e w1 ⟨x1, hmx1, rfl, r1, g1⟩
  have C1 := Lib.hid r1
  have G1 := Lib.hid ((gb_below G0.out ((show Below (w.alloc (.cells #[] 26)).heap.size (w.alloc (.cells #[] 26)) _ from (by repeat (first | assumption | exact Below.refl _ _ | apply bl_gw | apply bl_alloc | apply bl_drewN | apply bl_drew))).mono G0.out.size)).trans g1)
  have g1' := g1
  clear r1 g1
  have O1 := Lib.hid (O0.out.drawn g1' hpw)
  clear g1' O0 C0 G0 HB0 HC
  go_wp2
  go_loopw [3, 4, 5] (fun u hv mv wr => ∃ (vw : Value) (l : List Contract) (h : Int) (m : Nat), l.length + m ≤ 6 ∧ hv = .int .i64 h ∧ mv = .int .i64 m ∧ vw = u ∧ Own encContract wr w.heap.size 26 vw l ∧ Cur wr B p (k + 4 + 30 * l.length) ∧ w.grownBy wr (some p)) (fun _ _ mv _ => (intOf mv).toNat)
  case atStart => exact ⟨_, [], 0, x1, by simp; omega, rfl, rfl, rfl, O1.out, C1.out.mono (by simp), G1.out⟩
  case round =>
    clear O1 C1 G1
    obtain ⟨vw, l, h, m, hlm, rfl, rfl, rfl, ho, hc, hg⟩ := hrel
    have HO := Lib.hid ho
    have C3 := Lib.hid hc
    have G3 := Lib.hid hg
    clear ho hc hg
    by_cases hm : 0 < m
    · have m1 : (0 : Int) < m := by omega
      go_wp2_with fail
      refine (pick_any _ _ _ 2 _ (by omega) (by omega) (C3.out.below ((show Below (wr).heap.size (wr) _ from (by repeat (first | assumption | exact Below.refl _ _ | apply bl_gw | apply bl_alloc | apply bl_drewN | apply bl_drew))).mono C3.out.le))).mono ?_
      rintro e w3 ⟨x4, hmx4, rfl, r1, g1⟩
      have C4 := Lib.hid r1
      have G4 := Lib.hid ((gb_below G3.out ((show Below (wr).heap.size (wr) _ from (by repeat (first | assumption | exact Below.refl _ _ | apply bl_gw | apply bl_alloc | apply bl_drewN | apply bl_drew))).mono G3.out.size)).trans g1)
      have g1' := g1
      clear r1 g1
      have O4 := Lib.hid (HO.out.drawn g1' hpw)
      clear g1'
      go_wp2_with fail
      refine (pick_any _ _ _ 120 _ (by omega) (by omega) (C4.out.below ((show Below (w3).heap.size (w3) _ from (by repeat (first | assumption | exact Below.refl _ _ | apply bl_gw | apply bl_alloc | apply bl_drewN | apply bl_drew))).mono C4.out.le))).mono ?_
      rintro e w4 ⟨x5, hmx5, rfl, r1, g1⟩
      have C5' := Lib.hid r1
      have G5' := Lib.hid ((gb_below G4.out ((show Below (w3).heap.size (w3) _ from (by repeat (first | assumption | exact Below.refl _ _ | apply bl_gw | apply bl_alloc | apply bl_drewN | apply bl_drew))).mono G4.out.size)).trans g1)
      have g1' := g1
      clear r1 g1
      have O5' := Lib.hid (O4.out.drawn g1' hpw)
      clear g1'
      go_wp2_with fail
      refine (contract_any _ B p _ _ (by omega) (C5'.out.below ((show Below w4.heap.size w4 _ from (by repeat (first | assumption | exact Below.refl _ _ | apply bl_gw | apply bl_alloc | apply bl_drewN | apply bl_drew))).mono C5'.out.le))).mono ?_
      rintro e w6 ⟨a0, a1, a2, a3, a4, a5, a6, rfl, r1, g1⟩
      have C6 := Lib.hid r1
      have G6 := Lib.hid ((gb_below G5'.out ((show Below w4.heap.size w4 _ from (by repeat (first | assumption | exact Below.refl _ _ | apply bl_gw | apply bl_alloc | apply bl_drewN | apply bl_drew))).mono G5'.out.size)).trans g1)
      have O6 := Lib.hid (((O5'.out).past (show Below w4.heap.size w4 _ from (by repeat (first | assumption | exact Below.refl _ _ | apply bl_gw | apply bl_alloc | apply bl_drewN | apply bl_drew))) (Nat.le_refl _)).drawn g1 hpw)
      clear r1 g1
      go_wp2_with (at_builtin; refine halt ?_)
      unfold Halt
      refine wpList_app2 (E := encContract) rfl (.tmp 23) (.tmp 27) 31 rfl w.heap.size 26 i0 _ 56 Tryd.underlying31 hinf hz0 hz1 hz2 rfl (by decide) _ _ rfl O6.out ⟨a0, a1, a2, a3, a4, a5, a6⟩ _ rfl (by first | rfl | (rw [alloc_size]; rfl)) (by unfold maxLen; omega) (by omega) (by have := G6.out.size; simp; omega) ?_
      intro v5 w5 ho5 hb5
      have O5 := Lib.hid ho5
      have C5 := Lib.hid (C6.out.below (hb5 B hle))
      have G5 := Lib.hid (gb_below G6.out (hb5 _ (Nat.le_refl _)))
      clear ho5 hb5
      obtain ⟨m', rfl⟩ : ∃ m', m = m' + 1 := ⟨m - 1, by omega⟩
      have m2 : IntKind.i64.wrap (((m' + 1 : Nat) : Int) - 1) = m' := by rw [IntWalk.i64_in _ (by omega)]; omega
      go_wp2
      go_roundw
      case rel => exact ⟨_, _, _, m', by simp; omega, rfl, rfl, rfl, O5.out, C5.out.mono (by simp; omega), G5.out⟩
      case measure => simp [intOf]
    · obtain rfl : m = 0 := by omega
      have hl7 : l.length ≤ 6 := by omega
      have C3' := Lib.hid (C3.out.mono (show k + 4 + 30 * l.length ≤ k + 190 by omega))
      clear C3
      go_wp2_with fail
      refine (one_any _ _ _ 40 _ (by omega) (by omega) (C3'.out.below ((show Below (wr).heap.size (wr) _ from (by repeat (first | assumption | exact Below.refl _ _ | apply bl_gw | apply bl_alloc | apply bl_drewN | apply bl_drew))).mono C3'.out.le))).mono ?_
      rintro e w7 ⟨q, rfl, r1, g1⟩
      have C7 := Lib.hid r1
      have G7 := Lib.hid ((gb_below G3.out ((show Below (wr).heap.size (wr) _ from (by repeat (first | assumption | exact Below.refl _ _ | apply bl_gw | apply bl_alloc | apply bl_drewN | apply bl_drew))).mono G3.out.size)).trans g1)
      have g1' := g1
      clear r1 g1
      have O7 := Lib.hid (HO.out.drawn g1' hpw)
      clear g1'
      cases q
      · go_wp2
        go_ret
        exact ⟨_, _, rfl, by omega, O7.out, C7.out.mono (by omega), G7.out⟩
      · have HB8 := Lib.hid (show Below w7.heap.size w7 (w7.alloc (.cells #[] 26)) from (by repeat (first | assumption | exact Below.refl _ _ | apply bl_gw | apply bl_alloc | apply bl_drewN | apply bl_drew)))
        have O8 := Lib.hid (show Own encContract (w7.alloc (.cells #[] 26)) w.heap.size 26 (.slice (some ⟨w7.heap.size, 0, none⟩) 0 0) [] from Own.nil_ G7.out.size 26)
        have C8 := Lib.hid (C7.out.below (HB8.out.mono C7.out.le))
        have G8 := Lib.hid (gb_below G7.out (HB8.out.mono G7.out.size))
        clear O7 C7 G7 HO
        go_wp2
        go_loopw [3, 6] (fun u nv wr => ∃ (vw : Value) (l : List Contract) (m : Nat), l.length = m ∧ m ≤ 11 ∧ nv = .int .i64 m ∧ vw = u ∧ Own encContract wr w.heap.size 26 vw l ∧ Cur wr B p (k + 200 + 2 * m) ∧ w.grownBy wr (some p)) (fun _ nv _ => 12 - (intOf nv).toNat)
        case atStart => exact ⟨_, [], 0, rfl, by omega, rfl, rfl, O8.out, C8.out.mono (by omega), G8.out⟩
        case round =>
          clear O8 C8 G8 HB8
          obtain ⟨vw, l', m, hlm', hm11, rfl, rfl, ho, hc, hg⟩ := hrel
          have HLM := Lib.hid hlm'
          have hl11 : l'.length ≤ 11 := by omega
          have HO' := Lib.hid ho
          have C9 := Lib.hid hc
          have G9 := Lib.hid hg
          clear ho hc hg hlm'
          go_wp2_with fail
          refine (pick_any _ _ _ 2 _ (by omega) (by omega) (C9.out.below ((show Below (wr).heap.size (wr) _ from (by repeat (first | assumption | exact Below.refl _ _ | apply bl_gw | apply bl_alloc | apply bl_drewN | apply bl_drew))).mono C9.out.le))).mono ?_
          rintro e w9 ⟨x9, hmx9, rfl, r1, g1⟩
          have C10 := Lib.hid r1
          have G10 := Lib.hid ((gb_below G9.out ((show Below (wr).heap.size (wr) _ from (by repeat (first | assumption | exact Below.refl _ _ | apply bl_gw | apply bl_alloc | apply bl_drewN | apply bl_drew))).mono G9.out.size)).trans g1)
          have g1' := g1
          clear r1 g1
          have O9 := Lib.hid (HO'.out.drawn g1' hpw)
          clear g1'
          have k9 : IntKind.i64.wrap (10 + (x9 : Int)) = 10 + (x9 : Int) := IntWalk.i64_in _ (by omega)
          by_cases hlt : (m : Int) < 10 + (x9 : Int)
          · go_wp2_with (at_builtin; refine halt ?_)
            unfold Halt
            refine wpList_app2 (E := encContract) rfl (.tmp 39) (.tmp 51) 31 rfl w.heap.size 26 i0 _ 56 Tryd.underlying31 hinf hz0 hz1 hz2 rfl (by decide) _ _ rfl O9.out ⟨_, _, _, _, _, _, _⟩ _ rfl (by first | rfl | (rw [alloc_size]; rfl)) (by unfold maxLen; omega) (by omega) (by have := G10.out.size; simp; omega) ?_
            intro v5 w5 ho5 hb5
            have O5 := Lib.hid ho5
            have C5 := Lib.hid (C10.out.below (hb5 B hle))
            have G5 := Lib.hid (gb_below G10.out (hb5 _ (Nat.le_refl _)))
            clear ho5 hb5
            go_wp2
            go_roundw
            case rel => exact ⟨_, _, m + 1, by simp [HLM.out], by omega, by go_num, rfl, O5.out, C5.out.mono (by omega), G5.out⟩
            case measure => simp [intOf]; omega
          · go_wp2
            go_ret
            exact ⟨_, _, rfl, hl11, O9.out, C10.out.mono (by omega), G10.out⟩
end Go.Proofs.YtcljfdpjlkaagaaDoor
