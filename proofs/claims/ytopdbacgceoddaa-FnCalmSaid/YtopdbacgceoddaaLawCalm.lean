/- The law FnCalm: the walk. In a calm span no blow is too fast, the main direction has the greatest sum. -/
import Derived.Test.YtopdbacgceoddaaDrawY
import Derived.Test.YtopdbacgceoddaaLawKit
import Derived.Test.YtopdbacgceoddaaWindP
import Derived.Test.YtopdbacgceoddaaWindM
import Derived.Test.YtopdbacgceoddaaWindI
namespace Go.Proofs.Ytopdbacgceoddaa
open Go.RowKit
set_option maxHeartbeats 400000 in
theorem vBig_any (A : Option Addr) (n c : Nat) (w : World) :
    Calls Try.prog 40 #[.slice A n c] w fun e w' => e = .returned (.bool (decide ((65536 : Int) < n))) ∧ w = w' := by
  go_enter Try.func40, Try.ntmps40
  go_wp2
  go_ret
  exact ⟨rfl, rfl⟩
set_option maxRecDepth 4000 in
set_option maxHeartbeats 16000000 in
theorem FnCalm_walk (A : Option Addr) (n c : Nat) (w : World) (hc : Bytes w A n) :
    Calls Try.prog 14 #[.slice A n c] w fun e w' => e = .returned (.bool true) ∧ Below w.heap.size w w' := by
  have HC := Lib.hid hc
  clear hc
  by_cases hbig : (65536 : Int) < n
  · go_enter Try.func14, Try.ntmps14
    go_wp2_with (go_at_call 40; refine (vBig_any _ _ _ _).mono ?_; rintro e w1 ⟨rfl, rfl⟩)
    go_ret
    exact ⟨rfl, Below.refl _ _⟩
  · go_enter Try.func14, Try.ntmps14
    go_wp2_with (go_at_call 40; refine (vBig_any _ _ _ _).mono ?_; rintro e w1 ⟨rfl, rfl⟩)
    refine (drawCalmSpan_any A n c _ HC.out).mono ?_
    rintro e w1 ⟨v1, l1, s, f, t, rfl, hl1, o1, b1⟩
    obtain ⟨A1, c1, rfl, _, _, sl1⟩ := o1.slice
    obtain ⟨m1, hm1⟩ : ∃ m, l1.length = m := ⟨_, rfl⟩
    rw [hm1] at hl1 ⊢
    have HM1 := Lib.hid hm1
    have B1 := Lib.hid b1
    have S1 := Lib.hid sl1
    clear hm1 b1 sl1 o1
    obtain ⟨a, b, ok, hcp⟩ : ∃ a b ok, calmP l1 s f t = (a, b, ok) := ⟨_, _, _, rfl⟩
    have HCP := Lib.hid hcp
    clear hcp
    go_wp2_with fail
    refine (impl_CalmSpan_any l1 m1 HM1.out _ _ _ _ _ _ (by omega) S1.out).mono ?_
    rintro e w2 ⟨rfl, b2⟩
    rw [HCP.out]
    have B2 := Lib.hid (below_step B1.out b2)
    have S2 := Lib.hid (S1.out.past b2)
    clear b2
    go_wp2_with fail
    refine (spec_CalmSpan_any l1 m1 HM1.out _ _ _ _ _ _ (by omega) S2.out).mono ?_
    rintro e w3 ⟨rfl, b3⟩
    rw [HCP.out]
    have B3 := Lib.hid (below_step B2.out b3)
    have S3 := Lib.hid (S2.out.past b3)
    clear b3
    go_upto_region 6 with (fail)
    go_cut [94] from 37 (fun u wx => u = .bool false ∧ wx = w3)
    case first => as_aux_lemma =>
      cases ok
      · go_wp2
        go_meet
        exact ⟨rfl, rfl⟩
      · obtain ⟨q1, q2, q3, _⟩ := calm_good HCP.out
        have r1 : ¬ a < f := by omega
        have r2 : ¬ t < b := by omega
        have r3 : ¬ b < a := by omega
        go_wp2
        go_meet
        exact ⟨rfl, rfl⟩
    case rest => as_aux_lemma =>
      obtain ⟨rfl, rfl⟩ := hcut
      go_upto_region 8 with (fail)
      go_cut [13] from 37 (fun u wx => u = .int .i64 0 ∧ wx = wc)
      case first => as_aux_lemma =>
        go_wp2
        go_meet
        exact ⟨rfl, rfl⟩
      case rest => as_aux_lemma =>
        obtain ⟨rfl, rfl⟩ := hcut
        go_step
        go_cut [] from 37 (fun wx => Below w.heap.size w wx)
        case first => as_aux_lemma =>
          go_wp2
          go_loopw [13] (fun i wr => ∃ k : Nat, k ≤ m1 ∧ i = .int .i64 k ∧ wr = wc) (fun i _ => m1 - (intOf i).toNat)
          case atStart => exact ⟨0, Nat.zero_le _, rfl, rfl⟩
          case round =>
            obtain ⟨k, hk, rfl, rfl⟩ := hrel
            by_cases hlt : k < m1
            · have k1 : (k : Int) < m1 := by omega
              have k2 : (0 : Int) ≤ k := by omega
              cases ok
              · go_wp2
                go_meet
                exact B3.out
              · obtain ⟨q1, q2, q3, _, q5⟩ := calm_good HCP.out
                obtain ⟨bk, off, rfl, hb, hcs⟩ := S3.out.blow (by rw [HM1.out]; omega)
                have hx : l1[k]? = some (l1[k]'(by rw [HM1.out]; exact hlt)) := List.getElem?_eq_getElem _
                generalize l1[k]'(by rw [HM1.out]; exact hlt) = x at hx
                obtain ⟨d0, d1, d2⟩ := hcs k x hx
                have q6 := q5 k x hx
                clear hcs hx q5
                rcases Int.lt_or_le x.hour a with g1 | g1
                · have g1' : ¬ a ≤ x.hour := by omega
                  have g1b : decide (a ≤ x.hour) = false := decide_eq_false g1'
                  go_wp2
                  go_roundw
                  case rel => exact ⟨k + 1, by omega, by go_num, by trivial⟩
                  case measure => simp [intOf]; omega
                · rcases Int.lt_or_le b x.hour with g2 | g2
                  · have g2' : ¬ x.hour ≤ b := by omega
                    go_wp2
                    go_roundw
                    case rel => exact ⟨k + 1, by omega, by go_num, by trivial⟩
                    case measure => simp [intOf]; omega
                  · have g3 := q6 g1 g2
                    have g4 : ¬ s < x.speed := by omega
                    go_wp2
                    go_roundw
                    case rel => exact ⟨k + 1, by omega, by go_num, by trivial⟩
                    case measure => simp [intOf]; omega
            · go_wp2
              go_meet
              exact B3.out
        case rest => as_aux_lemma =>
          have B4 := Lib.hid hcut
          clear hcut
          go_wp2_with fail
          refine (drawMainDirection_any A n c _ (HC.out.past B4.out)).mono ?_
          rintro e w4 ⟨v2, l2, rfl, hl2, o2, b2⟩
          obtain ⟨A2, c2, rfl, _, _, sl2⟩ := o2.slice
          obtain ⟨m2, hm2⟩ : ∃ m, l2.length = m := ⟨_, rfl⟩
          rw [hm2] at hl2 ⊢
          have HM2 := Lib.hid hm2
          have B5 := Lib.hid (below_step B4.out b2)
          have S5 := Lib.hid sl2
          clear hm2 b2 sl2 o2
          obtain ⟨bd, told, hmp⟩ : ∃ b told, mainP l2 = (b, told) := ⟨_, _, rfl⟩
          have HMP := Lib.hid hmp
          clear hmp
          go_wp2_with fail
          refine (impl_MainDirection_any l2 m2 HM2.out _ _ _ (by omega) S5.out).mono ?_
          rintro e w5 ⟨rfl, b5⟩
          rw [HMP.out]
          have B6 := Lib.hid (below_step B5.out b5)
          have S6 := Lib.hid (S5.out.past b5)
          clear b5
          go_wp2_with fail
          refine (spec_MainDirection_any l2 m2 HM2.out _ _ _ (by omega) S6.out).mono ?_
          rintro e w6 ⟨rfl, b6⟩
          rw [HMP.out]
          have B7 := Lib.hid (below_step B6.out b6)
          have S7 := Lib.hid (S6.out.past b6)
          clear b6
          go_upto_region 16 with (fail)
          go_cut [148] from 37 (fun u wx => u = .bool false ∧ wx = w6)
          case first => as_aux_lemma =>
            cases told
            · go_wp2
              go_meet
              exact ⟨rfl, rfl⟩
            · go_wp2
              go_meet
              exact ⟨rfl, rfl⟩
          case rest => as_aux_lemma =>
            obtain ⟨rfl, rfl⟩ := hcut
            go_upto_if 149 with (fail)
            go_cut [] from 37 (fun wx => Below w.heap.size w wx)
            case first => as_aux_lemma =>
              cases told
              · go_wp2
                go_meet
                exact B7.out
              · obtain ⟨ha2, q0, q1, q2⟩ := main_good HMP.out
                have HQ := Lib.hid q2
                have HA2 := Lib.hid ha2
                clear ha2 q2
                have hm20 : m2 ≤ 20 := by have := areBlows_len HA2.out; rw [HM2.out] at this; exact this
                rw [HM2.out] at HQ
                go_wp2
                go_loopw [19, 20] (fun u i wr => ∃ k : Nat, k ≤ m2 ∧ i = .int .i64 k ∧ u = .int .i64 (sumD l2 bd k) ∧ wr = wc) (fun _ i _ => m2 - (intOf i).toNat)
                case atStart => exact ⟨0, Nat.zero_le _, rfl, rfl, rfl⟩
                case round =>
                  obtain ⟨k, hk, rfl, rfl, rfl⟩ := hrel
                  by_cases hlt : k < m2
                  · obtain ⟨bk, off, rfl, hb, hcs⟩ := S7.out.blow (by rw [HM2.out]; omega)
                    have hx : l2[k]? = some (l2[k]'(by rw [HM2.out]; exact hlt)) := List.getElem?_eq_getElem _
                    generalize l2[k]'(by rw [HM2.out]; exact hlt) = x at hx
                    obtain ⟨d0, d1, d2⟩ := hcs k x hx
                    obtain ⟨_, ⟨g3, g4⟩, _⟩ := areBlows_at HA2.out hx
                    have hr := sumD_rng HA2.out bd k (by rw [HM2.out]; omega)
                    have HST := Lib.hid (sumD_step (d := bd) hx)
                    clear hcs hx
                    have k1 : (k : Int) < m2 := by omega
                    have k2 : (0 : Int) ≤ k := by omega
                    generalize sumD l2 bd k = sk at *
                    have k3 : IntKind.i64.wrap (sk + x.speed) = sk + x.speed := IntWalk.i64_in _ (by omega)
                    by_cases hfr : x.frm = bd
                    · have hfr2 : (x.frm == bd) = true := by simpa using hfr
                      go_wp2
                      go_roundw
                      case rel => exact ⟨k + 1, by omega, by go_num, by rw [HST.out, if_pos hfr2], by trivial⟩
                      case measure => simp [intOf]; omega
                    · have hfr2 : (x.frm == bd) = false := by simpa using hfr
                      go_wp2
                      go_roundw
                      case rel => exact ⟨k + 1, by omega, by go_num, by rw [HST.out, if_neg (by simpa using hfr)], by trivial⟩
                      case measure => simp [intOf]; omega
                  · obtain rfl : k = m2 := by omega
                    have HT := Lib.hid (sumD_rng HA2.out bd k (by rw [HM2.out]; exact Nat.le_refl _))
                    obtain ⟨top, htop⟩ : ∃ t, sumD l2 bd k = t := ⟨_, rfl⟩
                    rw [htop] at HQ HT ⊢
                    clear htop
                    obtain ⟨wz, rfl⟩ : ∃ wz : World, wz = wr := ⟨_, rfl⟩
                    go_wp2
                    go_loopw [21] (fun d wr => ∃ q : Nat, q ≤ 4 ∧ d = .int .i64 q ∧ wr = wz) (fun d _ => 4 - (intOf d).toNat)
                    case atStart => exact ⟨0, Nat.zero_le _, rfl, rfl⟩
                    case round =>
                      obtain ⟨q, hq, rfl, rfl⟩ := hrel
                      by_cases hq4 : q < 4
                      · have y1 : (q : Int) < 4 := by omega
                        have HQq := Lib.hid (HQ.out q hq4)
                        obtain ⟨wz, rfl⟩ : ∃ wz : World, wz = wr := ⟨_, rfl⟩
                        go_wp2
                        go_loopw [22, 23] (fun u i wr => ∃ j : Nat, j ≤ k ∧ i = .int .i64 j ∧ u = .int .i64 (sumD l2 q j) ∧ wr = wz) (fun _ i _ => k - (intOf i).toNat)
                        case atStart => exact ⟨0, Nat.zero_le _, rfl, rfl, rfl⟩
                        case round =>
                          obtain ⟨j, hj, rfl, rfl, rfl⟩ := hrel
                          by_cases hlt : j < k
                          · obtain ⟨bk, off, rfl, hb, hcs⟩ := S7.out.blow (by rw [HM2.out]; omega)
                            have hx : l2[j]? = some (l2[j]'(by rw [HM2.out]; exact hlt)) := List.getElem?_eq_getElem _
                            generalize l2[j]'(by rw [HM2.out]; exact hlt) = x at hx
                            obtain ⟨d0, d1, d2⟩ := hcs j x hx
                            obtain ⟨_, ⟨g3, g4⟩, _⟩ := areBlows_at HA2.out hx
                            have hr := sumD_rng HA2.out q j (by rw [HM2.out]; omega)
                            have HST := Lib.hid (sumD_step (d := q) hx)
                            clear hcs hx
                            have k1 : (j : Int) < k := by omega
                            have k2 : (0 : Int) ≤ k := by omega
                            generalize sumD l2 q j = sk at *
                            have k3 : IntKind.i64.wrap (sk + x.speed) = sk + x.speed := IntWalk.i64_in _ (by omega)
                            by_cases hfr : x.frm = q
                            · have hfr2 : (x.frm == q) = true := by simpa using hfr
                              go_wp2
                              go_roundw
                              case rel => exact ⟨j + 1, by omega, by go_num, by rw [HST.out, if_pos hfr2], by trivial⟩
                              case measure => simp [intOf]; omega
                            · have hfr2 : (x.frm == q) = false := by simpa using hfr
                              go_wp2
                              go_roundw
                              case rel => exact ⟨j + 1, by omega, by go_num, by rw [HST.out, if_neg (by simpa using hfr)], by trivial⟩
                              case measure => simp [intOf]; omega
                          · obtain rfl : j = k := by omega
                            have z1 : ¬ top < sumD l2 q j := by have := HQq.out; omega
                            go_wp2
                            go_roundw
                            case rel => exact ⟨q + 1, by omega, by go_num, by trivial⟩
                            case measure => simp [intOf]; omega
                      · go_wp2
                        go_meet
                        exact B7.out
            case rest => as_aux_lemma =>
              have B8 := Lib.hid hcut
              clear hcut
              go_wp2_with fail
              refine (drawMeanSpeed_any A n c _ (HC.out.past B8.out)).mono ?_
              rintro e w7 ⟨v3, l3, dm, rfl, hl3, o3, b3⟩
              obtain ⟨A3, c3, rfl, _, _, sl3⟩ := o3.slice
              obtain ⟨m3, hm3⟩ : ∃ m, l3.length = m := ⟨_, rfl⟩
              rw [hm3] at hl3 ⊢
              have HM3 := Lib.hid hm3
              have B9 := Lib.hid (below_step B8.out b3)
              have S9 := Lib.hid sl3
              clear hm3 b3 sl3 o3
              obtain ⟨p, q, fine, hme⟩ : ∃ p q fine, meanP l3 dm = (p, q, fine) := ⟨_, _, _, rfl⟩
              have HME := Lib.hid hme
              clear hme
              go_wp2_with fail
              refine (impl_MeanSpeed_any l3 m3 HM3.out _ _ _ _ (by omega) S9.out).mono ?_
              rintro e w8 ⟨rfl, b8⟩
              rw [HME.out]
              have B10 := Lib.hid (below_step B9.out b8)
              have S10 := Lib.hid (S9.out.past b8)
              clear b8
              go_wp2_with fail
              refine (spec_MeanSpeed_any l3 m3 HM3.out _ _ _ _ (by omega) S10.out).mono ?_
              rintro e w9 ⟨rfl, b9⟩
              rw [HME.out]
              have B11 := Lib.hid (below_step B10.out b9)
              clear b9 S10
              go_upto_region 39 with (fail)
              go_cut [237] from 37 (fun u wx => u = .bool false ∧ wx = w9)
              case first => as_aux_lemma =>
                cases fine
                · go_wp2
                  go_meet
                  exact ⟨rfl, rfl⟩
                · obtain ⟨e1, e2, e3, e4⟩ := mean_good HME.out
                  have e5 : IntKind.i64.wrap (60 * q) = 60 * q := IntWalk.i64_in _ (by omega)
                  have e6 : ¬ 60 * q < p := by omega
                  go_wp2
                  go_meet
                  exact ⟨rfl, rfl⟩
              case rest => as_aux_lemma =>
                obtain ⟨rfl, rfl⟩ := hcut
                go_wp2_with fail
                refine (drawTurnLake_any A n c _ (HC.out.past B11.out)).mono ?_
                rintro e w10 ⟨x, y, z, rfl, b10⟩
                have B12 := Lib.hid (below_step B11.out b10)
                clear b10
                rcases sp1 (lakeOK x y z) with t1 | t1
                · have s1 := fun w => spec_TurnLake_any x y z w
                  have s2 := fun w => impl_TurnLake_any x y z w
                  rw [if_neg (by simp [t1])] at s1 s2
                  have S1 := Lib.hid s1
                  have S2 := Lib.hid s2
                  clear s1 s2
                  go_wp2_with (first | (go_at_call 17; refine (S2.out _).mono ?_; rintro e w1 ⟨rfl, hb⟩; obtain ⟨p, rfl⟩ := below_gw hb; clear hb) | (go_at_call 15; refine (S1.out _).mono ?_; rintro e w1 ⟨rfl, hb⟩; obtain ⟨p, rfl⟩ := below_gw hb; clear hb))
                  go_ret
                  exact ⟨rfl, B12.out.trans ((show Below w10.heap.size w10 _ from (by repeat (first | assumption | exact Below.refl _ _ | apply bl_gw | apply bl_alloc | apply bl_drewN | apply bl_drew))).mono B12.out.size)⟩
                · have s1 := fun w => spec_TurnLake_any x y z w
                  have s2 := fun w => impl_TurnLake_any x y z w
                  rw [if_pos t1] at s1 s2
                  have S1 := Lib.hid s1
                  have S2 := Lib.hid s2
                  clear s1 s2
                  go_wp2_with (first | (go_at_call 17; refine (S2.out _).mono ?_; rintro e w1 ⟨rfl, hb⟩; obtain ⟨p, rfl⟩ := below_gw hb; clear hb) | (go_at_call 15; refine (S1.out _).mono ?_; rintro e w1 ⟨rfl, hb⟩; obtain ⟨p, rfl⟩ := below_gw hb; clear hb))
                  go_ret
                  exact ⟨rfl, B12.out.trans ((show Below w10.heap.size w10 _ from (by repeat (first | assumption | exact Below.refl _ _ | apply bl_gw | apply bl_alloc | apply bl_drewN | apply bl_drew))).mono B12.out.size)⟩
end Go.Proofs.Ytopdbacgceoddaa
