/- The law FnWaves: the walk. With the told bank nothing spills; a turned lake has the waves of the turned wind. -/
import Derived.Test.YtopdbacgceoddaaDrawY
import Derived.Test.YtopdbacgceoddaaDrawZ
import Derived.Test.YtopdbacgceoddaaLawKit
import Derived.Test.YtopdbacgceoddaaWindP
import Derived.Test.YtopdbacgceoddaaWindF
namespace Go.Proofs.Ytopdbacgceoddaa
open Go.RowKit
set_option maxHeartbeats 400000 in
theorem vBig_any (A : Option Addr) (n c : Nat) (w : World) :
    Calls Try.prog 40 #[.slice A n c] w fun e w' => e = .returned (.bool (decide ((65536 : Int) < n))) ∧ w = w' := by
  go_enter Try.func40, Try.ntmps40
  go_wp2
  go_ret
  exact ⟨rfl, rfl⟩
set_option maxRecDepth 4000 in
set_option maxHeartbeats 16000000 in
theorem FnWaves_walk (A : Option Addr) (n c : Nat) (w : World) (hc : Bytes w A n) :
    Calls Try.prog 13 #[.slice A n c] w fun e w' => e = .returned (.bool true) ∧ Below w.heap.size w w' := by
  have HC := Lib.hid hc
  clear hc
  by_cases hbig : (65536 : Int) < n
  · go_enter Try.func13, Try.ntmps13
    go_wp2_with (go_at_call 40; refine (vBig_any _ _ _ _).mono ?_; rintro e w1 ⟨rfl, rfl⟩)
    go_ret
    exact ⟨rfl, Below.refl _ _⟩
  · have B00 := Lib.hid (Below.refl w.heap.size w)
    go_enter Try.func13, Try.ntmps13
    go_wp2_with (go_at_call 40; refine (vBig_any _ _ _ _).mono ?_; rintro e w1 ⟨rfl, rfl⟩)
    refine (drawBankNeeded_any A n c _ HC.out).mono ?_
    rintro e w1 ⟨v1, l1, x, y, z, rfl, hl1, o1, b1⟩
    obtain ⟨A1, c1, rfl, _, _, sl1⟩ := o1.slice
    obtain ⟨m1, hm1⟩ : ∃ m, l1.length = m := ⟨_, rfl⟩
    rw [hm1] at hl1 ⊢
    have HM1 := Lib.hid hm1
    have B1 := Lib.hid (below_step B00.out b1)
    have S1 := Lib.hid sl1
    clear hm1 sl1 o1 b1
    obtain ⟨bank, ok, hbp⟩ : ∃ bank ok, bankP l1 x y z = (bank, ok) := ⟨_, _, rfl⟩
    have HBP := Lib.hid hbp
    clear hbp
    go_upto_region 4 with (fail)
    refine wp_name (fun w2 hW2 => ?_)
    have hb2 : Below w1.heap.size w1 w2 := by rw [hW2]; exact (by repeat (first | assumption | exact Below.refl _ _ | apply bl_gw | apply bl_alloc | apply bl_drewN | apply bl_drew))
    have B2 := Lib.hid (below_step B1.out hb2)
    have S2 := Lib.hid (S1.out.past hb2)
    have K2 := Lib.hid (show Blk w2 w1.heap.size 24 #[.int .i64 x, .int .i64 y, .int .i64 z] by rw [hW2]; exact (by first | exact Blk.new _ _ _ | exact Blk.new_ _ _ _ _ (by simp) | exact (Blk.new _ _ _).drewN _ | exact (Blk.new _ _ _).gw _))
    clear hb2 hW2
    obtain ⟨g1, hg⟩ : ∃ g, w1.heap.size = g := ⟨_, rfl⟩
    rw [hg] at K2 ⊢
    clear hg
    have r0 : w2.cell? ⟨g1, 0, none⟩ = some (.int .i64 x) := K2.out.cell 0
    have r1 : w2.cell? ⟨g1, 1, none⟩ = some (.int .i64 y) := K2.out.cell 1
    have r2 : w2.cell? ⟨g1, 2, none⟩ = some (.int .i64 z) := K2.out.cell 2
    have hgl : g1 < w2.heap.size := K2.out.lt
    go_wp2_with fail
    refine (impl_BankNeeded_any l1 m1 HM1.out _ _ _ _ _ _ (by omega) (S2.out.past (by repeat (first | assumption | exact Below.refl _ _ | apply bl_gw | apply bl_alloc | apply bl_drewN | apply bl_drew)))).mono ?_
    rintro e w3 ⟨rfl, bb⟩
    rw [HBP.out]
    have hb2 : Below w2.heap.size w2 w3 := below_step (by repeat (first | assumption | exact Below.refl _ _ | apply bl_gw | apply bl_alloc | apply bl_drewN | apply bl_drew)) bb
    clear bb
    have B3 := Lib.hid (below_step B2.out hb2)
    have S3 := Lib.hid (S2.out.past hb2)
    have K3 := Lib.hid (K2.out.past hb2)
    clear hb2 r0 r1 r2 hgl
    have r0 : w3.cell? ⟨g1, 0, none⟩ = some (.int .i64 x) := K3.out.cell 0
    have r1 : w3.cell? ⟨g1, 1, none⟩ = some (.int .i64 y) := K3.out.cell 1
    have r2 : w3.cell? ⟨g1, 2, none⟩ = some (.int .i64 z) := K3.out.cell 2
    have hgl : g1 < w3.heap.size := K3.out.lt
    go_wp2_with fail
    refine (spec_BankNeeded_any l1 m1 HM1.out _ _ _ _ _ _ (by omega) (S3.out.past (by repeat (first | assumption | exact Below.refl _ _ | apply bl_gw | apply bl_alloc | apply bl_drewN | apply bl_drew)))).mono ?_
    rintro e w4 ⟨rfl, bb⟩
    rw [HBP.out]
    have hb2 : Below w3.heap.size w3 w4 := below_step (by repeat (first | assumption | exact Below.refl _ _ | apply bl_gw | apply bl_alloc | apply bl_drewN | apply bl_drew)) bb
    clear bb
    have B4 := Lib.hid (below_step B3.out hb2)
    have S4 := Lib.hid (S3.out.past hb2)
    have K4 := Lib.hid (K3.out.past hb2)
    clear hb2 r0 r1 r2 hgl
    have r0 : w4.cell? ⟨g1, 0, none⟩ = some (.int .i64 x) := K4.out.cell 0
    have r1 : w4.cell? ⟨g1, 1, none⟩ = some (.int .i64 y) := K4.out.cell 1
    have r2 : w4.cell? ⟨g1, 2, none⟩ = some (.int .i64 z) := K4.out.cell 2
    have hgl : g1 < w4.heap.size := K4.out.lt
    go_upto_region 6 with (fail)
    go_cut [76] from 43 (fun u wx => u = .bool false ∧ Below w4.heap.size w4 wx)
    case first => as_aux_lemma =>
      go_wp2_with (first | (go_at_call 24; refine (impl_AreBlows_any l1 m1 HM1.out _ _ _ (by omega) (S4.out.past (by repeat (first | assumption | exact Below.refl _ _ | apply bl_gw | apply bl_alloc | apply bl_drewN | apply bl_drew)))).mono ?_; rintro e w1 ⟨rfl, hb⟩; obtain ⟨p, rfl⟩ := below_gw hb; clear hb) | (go_at_call 22; refine (specAreBlows_any l1 m1 HM1.out _ _ _ (by omega) (S4.out.past (by repeat (first | assumption | exact Below.refl _ _ | apply bl_gw | apply bl_alloc | apply bl_drewN | apply bl_drew)))).mono ?_; rintro e w1 ⟨rfl, hb⟩; obtain ⟨p, rfl⟩ := below_gw hb; clear hb))
      go_meet
      exact ⟨by first | rfl | simp, (by repeat (first | assumption | exact Below.refl _ _ | apply bl_gw | apply bl_alloc | apply bl_drewN | apply bl_drew))⟩
    case rest => as_aux_lemma =>
      obtain ⟨rfl, hb5⟩ := hcut
      have B5 := Lib.hid (below_step B4.out hb5)
      have S5 := Lib.hid (S4.out.past hb5)
      have K5 := Lib.hid (K4.out.past hb5)
      clear hb5 r0 r1 r2 hgl
      have r0 : wc.cell? ⟨g1, 0, none⟩ = some (.int .i64 x) := K5.out.cell 0
      have r1 : wc.cell? ⟨g1, 1, none⟩ = some (.int .i64 y) := K5.out.cell 1
      have r2 : wc.cell? ⟨g1, 2, none⟩ = some (.int .i64 z) := K5.out.cell 2
      have hgl : g1 < wc.heap.size := K5.out.lt
      go_upto_if 77 with (fail)
      go_cut [] from 43 (fun wx => Below w.heap.size w wx)
      case first => as_aux_lemma =>
        cases ok
        · go_wp2
          go_meet
          exact B5.out
        · obtain ⟨⟨q1, q2⟩, q3, q4⟩ := bank_good HBP.out
          have Q3 := Lib.hid q3
          have Q4 := Lib.hid q4
          clear q3 q4
          have q5 : ¬ bank < 0 := by omega
          go_wp2_with fail
          refine (impl_SpilledInAll_any l1 m1 HM1.out _ _ _ _ _ _ (by omega) (S5.out.past (by repeat (first | assumption | exact Below.refl _ _ | apply bl_gw | apply bl_alloc | apply bl_drewN | apply bl_drew)))).mono ?_
          rintro e w6 ⟨rfl, bb⟩
          rw [Q3.out]
          have hb2 : Below wc.heap.size wc w6 := below_step (by repeat (first | assumption | exact Below.refl _ _ | apply bl_gw | apply bl_alloc | apply bl_drewN | apply bl_drew)) bb
          clear bb
          have B6 := Lib.hid (below_step B5.out hb2)
          have S6 := Lib.hid (S5.out.past hb2)
          have K6 := Lib.hid (K5.out.past hb2)
          clear hb2 r0 r1 r2 hgl
          have r0 : w6.cell? ⟨g1, 0, none⟩ = some (.int .i64 x) := K6.out.cell 0
          have r1 : w6.cell? ⟨g1, 1, none⟩ = some (.int .i64 y) := K6.out.cell 1
          have r2 : w6.cell? ⟨g1, 2, none⟩ = some (.int .i64 z) := K6.out.cell 2
          have hgl : g1 < w6.heap.size := K6.out.lt
          by_cases hb0 : 0 < bank
          · obtain ⟨s, q6, q7⟩ := Q4.out hb0
            have Q6 := Lib.hid q6
            clear q6
            have q8 : IntKind.i64.wrap (bank - 1) = bank - 1 := IntWalk.i64_in _ (by omega)
            have q9 : ¬ s < 1 := by omega
            go_wp2_with fail
            refine (impl_SpilledInAll_any l1 m1 HM1.out _ _ _ _ _ _ (by omega) (S6.out.past (by repeat (first | assumption | exact Below.refl _ _ | apply bl_gw | apply bl_alloc | apply bl_drewN | apply bl_drew)))).mono ?_
            rintro e w7 ⟨rfl, bb⟩
            rw [Q6.out]
            have hb2 : Below w6.heap.size w6 w7 := below_step (by repeat (first | assumption | exact Below.refl _ _ | apply bl_gw | apply bl_alloc | apply bl_drewN | apply bl_drew)) bb
            clear bb
            have B7 := Lib.hid (below_step B6.out hb2)
            have S7 := Lib.hid (S6.out.past hb2)
            have K7 := Lib.hid (K6.out.past hb2)
            clear hb2 r0 r1 r2 hgl
            have r0 : w7.cell? ⟨g1, 0, none⟩ = some (.int .i64 x) := K7.out.cell 0
            have r1 : w7.cell? ⟨g1, 1, none⟩ = some (.int .i64 y) := K7.out.cell 1
            have r2 : w7.cell? ⟨g1, 2, none⟩ = some (.int .i64 z) := K7.out.cell 2
            have hgl : g1 < w7.heap.size := K7.out.lt
            go_wp2
            go_meet
            exact B7.out
          · go_wp2
            go_meet
            exact B6.out
      case rest => as_aux_lemma =>
        have B8 := Lib.hid hcut
        clear hcut
        go_wp2_with fail
        refine (drawWaveOf_any A n c _ (HC.out.past B8.out)).mono ?_
        rintro e w8 ⟨x, y, z, s, f, rfl, b1⟩
        have B9 := Lib.hid (below_step B8.out b1)
        clear b1
        obtain ⟨wave, told, hwp⟩ : ∃ wave told, waveOfP x y z s f = (wave, told) := ⟨_, _, rfl⟩
        have HWP := Lib.hid hwp
        clear hwp
        go_upto_region 17 with (fail)
        refine wp_name (fun w9 hW2 => ?_)
        have hb2 : Below w8.heap.size w8 w9 := by rw [hW2]; exact (by repeat (first | assumption | exact Below.refl _ _ | apply bl_gw | apply bl_alloc | apply bl_drewN | apply bl_drew))
        have B10 := Lib.hid (below_step B9.out hb2)
        have K10 := Lib.hid (show Blk w9 w8.heap.size 24 #[.int .i64 x, .int .i64 y, .int .i64 z] by rw [hW2]; exact (by first | exact Blk.new _ _ _ | exact Blk.new_ _ _ _ _ (by simp) | exact (Blk.new _ _ _).drewN _ | exact (Blk.new _ _ _).gw _))
        clear hb2 hW2
        obtain ⟨g2, hg⟩ : ∃ g, w8.heap.size = g := ⟨_, rfl⟩
        rw [hg] at K10 ⊢
        clear hg
        have r0 : w9.cell? ⟨g2, 0, none⟩ = some (.int .i64 x) := K10.out.cell 0
        have r1 : w9.cell? ⟨g2, 1, none⟩ = some (.int .i64 y) := K10.out.cell 1
        have r2 : w9.cell? ⟨g2, 2, none⟩ = some (.int .i64 z) := K10.out.cell 2
        have hgl : g2 < w9.heap.size := K10.out.lt
        go_wp2_with fail
        refine (impl_WaveOf_any _ _ _ _ _ _).mono ?_
        rintro e w10 ⟨rfl, bb⟩
        rw [HWP.out]
        have hb2 : Below w9.heap.size w9 w10 := below_step (by repeat (first | assumption | exact Below.refl _ _ | apply bl_gw | apply bl_alloc | apply bl_drewN | apply bl_drew)) bb
        clear bb
        have B11 := Lib.hid (below_step B10.out hb2)
        have K11 := Lib.hid (K10.out.past hb2)
        clear hb2 r0 r1 r2 hgl
        have r0 : w10.cell? ⟨g2, 0, none⟩ = some (.int .i64 x) := K11.out.cell 0
        have r1 : w10.cell? ⟨g2, 1, none⟩ = some (.int .i64 y) := K11.out.cell 1
        have r2 : w10.cell? ⟨g2, 2, none⟩ = some (.int .i64 z) := K11.out.cell 2
        have hgl : g2 < w10.heap.size := K11.out.lt
        go_wp2_with fail
        refine (spec_WaveOf_any _ _ _ _ _ _).mono ?_
        rintro e w11 ⟨rfl, bb⟩
        rw [HWP.out]
        have hb2 : Below w10.heap.size w10 w11 := below_step (by repeat (first | assumption | exact Below.refl _ _ | apply bl_gw | apply bl_alloc | apply bl_drewN | apply bl_drew)) bb
        clear bb
        have B12 := Lib.hid (below_step B11.out hb2)
        have K12 := Lib.hid (K11.out.past hb2)
        clear hb2 r0 r1 r2 hgl
        have r0 : w11.cell? ⟨g2, 0, none⟩ = some (.int .i64 x) := K12.out.cell 0
        have r1 : w11.cell? ⟨g2, 1, none⟩ = some (.int .i64 y) := K12.out.cell 1
        have r2 : w11.cell? ⟨g2, 2, none⟩ = some (.int .i64 z) := K12.out.cell 2
        have hgl : g2 < w11.heap.size := K12.out.lt
        go_upto_region 19 with (fail)
        go_cut [142] from 43 (fun u wx => u = .bool false ∧ wx = w11)
        case first => as_aux_lemma =>
          go_wp2
          go_meet
          exact ⟨by first | rfl | simp, rfl⟩
        case rest => as_aux_lemma =>
          obtain ⟨rfl, rfl⟩ := hcut
          go_upto_if 143 with (fail)
          go_cut [] from 43 (fun wx => Below w.heap.size w wx)
          case first => as_aux_lemma =>
            cases told
            · go_wp2
              go_meet
              exact B12.out
            · obtain ⟨q1, q2, q3, q4⟩ := wave_turn HWP.out
              have q5 : IntKind.i64.wrap (f + 1) = f + 1 := IntWalk.i64_in _ (by omega)
              obtain ⟨f1, q6⟩ : ∃ f1, (f + 1).tmod 4 = f1 := ⟨_, rfl⟩
              rw [← Int.tmod_eq_emod_of_nonneg (show (0 : Int) ≤ f + 1 by omega), q6] at q2
              have ht := fun w => impl_TurnLake_any x y z w
              rw [if_pos q1] at ht
              have HTL := Lib.hid ht
              have Q2 := Lib.hid q2
              clear ht q1 q2
              go_wp2_with fail
              refine (HTL.out _).mono ?_
              rintro e w12 ⟨rfl, bb⟩
              have B13 := Lib.hid (below_step B12.out (show Below wc.heap.size wc w12 from below_step (by repeat (first | assumption | exact Below.refl _ _ | apply bl_gw | apply bl_alloc | apply bl_drewN | apply bl_drew)) bb))
              clear bb HTL r0 r1 r2 hgl
              go_upto_region 23 with (fail)
              refine wp_name (fun w13 hW2 => ?_)
              have hb2 : Below w12.heap.size w12 w13 := by rw [hW2]; exact (by repeat (first | assumption | exact Below.refl _ _ | apply bl_gw | apply bl_alloc | apply bl_drewN | apply bl_drew))
              have B14 := Lib.hid (below_step B13.out hb2)
              have K14 := Lib.hid (show Blk w13 w12.heap.size 24 #[.int .i64 y, .int .i64 x, .int .i64 z] by rw [hW2]; exact (by first | exact Blk.new _ _ _ | exact Blk.new_ _ _ _ _ (by simp) | exact (Blk.new _ _ _).drewN _ | exact (Blk.new _ _ _).gw _))
              clear hb2 hW2
              obtain ⟨g3, hg⟩ : ∃ g, w12.heap.size = g := ⟨_, rfl⟩
              rw [hg] at K14 ⊢
              clear hg
              have r0 : w13.cell? ⟨g3, 0, none⟩ = some (.int .i64 y) := K14.out.cell 0
              have r1 : w13.cell? ⟨g3, 1, none⟩ = some (.int .i64 x) := K14.out.cell 1
              have r2 : w13.cell? ⟨g3, 2, none⟩ = some (.int .i64 z) := K14.out.cell 2
              have hgl : g3 < w13.heap.size := K14.out.lt
              go_wp2_with fail
              refine (impl_WaveOf_any _ _ _ _ _ _).mono ?_
              rintro e w14 ⟨rfl, bb⟩
              rw [Q2.out]
              have B15 := Lib.hid (below_step B14.out (show Below w13.heap.size w13 w14 from below_step (by repeat (first | assumption | exact Below.refl _ _ | apply bl_gw | apply bl_alloc | apply bl_drewN | apply bl_drew)) bb))
              go_wp2
              go_meet
              exact B15.out
          case rest => as_aux_lemma =>
            have B16 := Lib.hid hcut
            clear hcut
            go_wp2_with fail
            refine (drawWorstHour_any A n c _ (HC.out.past B16.out)).mono ?_
            rintro e w15 ⟨v2, l2, x2, y2, z2, rfl, hl1, o1, b1⟩
            obtain ⟨A2, c2, rfl, _, _, sl1⟩ := o1.slice
            obtain ⟨m2, hm1⟩ : ∃ m, l2.length = m := ⟨_, rfl⟩
            rw [hm1] at hl1 ⊢
            have HM2 := Lib.hid hm1
            have B17 := Lib.hid (below_step B16.out b1)
            have S17 := Lib.hid sl1
            clear hm1 sl1 o1 b1
            obtain ⟨h, most, fine, hbp⟩ : ∃ h most fine, worstP l2 x2 y2 z2 = (h, most, fine) := ⟨_, _, _, rfl⟩
            have HWR := Lib.hid hbp
            clear hbp
            go_upto_region 27 with (fail)
            refine wp_name (fun w16 hW2 => ?_)
            have hb2 : Below w15.heap.size w15 w16 := by rw [hW2]; exact (by repeat (first | assumption | exact Below.refl _ _ | apply bl_gw | apply bl_alloc | apply bl_drewN | apply bl_drew))
            have B18 := Lib.hid (below_step B17.out hb2)
            have S18 := Lib.hid (S17.out.past hb2)
            have K18 := Lib.hid (show Blk w16 w15.heap.size 24 #[.int .i64 x2, .int .i64 y2, .int .i64 z2] by rw [hW2]; exact (by first | exact Blk.new _ _ _ | exact Blk.new_ _ _ _ _ (by simp) | exact (Blk.new _ _ _).drewN _ | exact (Blk.new _ _ _).gw _))
            clear hb2 hW2
            obtain ⟨g4, hg⟩ : ∃ g, w15.heap.size = g := ⟨_, rfl⟩
            rw [hg] at K18 ⊢
            clear hg
            have r0 : w16.cell? ⟨g4, 0, none⟩ = some (.int .i64 x2) := K18.out.cell 0
            have r1 : w16.cell? ⟨g4, 1, none⟩ = some (.int .i64 y2) := K18.out.cell 1
            have r2 : w16.cell? ⟨g4, 2, none⟩ = some (.int .i64 z2) := K18.out.cell 2
            have hgl : g4 < w16.heap.size := K18.out.lt
            go_wp2_with fail
            refine (impl_WorstHour_any l2 m2 HM2.out _ _ _ _ _ _ (by omega) (S18.out.past (by repeat (first | assumption | exact Below.refl _ _ | apply bl_gw | apply bl_alloc | apply bl_drewN | apply bl_drew)))).mono ?_
            rintro e w17 ⟨rfl, bb⟩
            rw [HWR.out]
            have hb2 : Below w16.heap.size w16 w17 := below_step (by repeat (first | assumption | exact Below.refl _ _ | apply bl_gw | apply bl_alloc | apply bl_drewN | apply bl_drew)) bb
            clear bb
            have B19 := Lib.hid (below_step B18.out hb2)
            have S19 := Lib.hid (S18.out.past hb2)
            have K19 := Lib.hid (K18.out.past hb2)
            clear hb2 r0 r1 r2 hgl
            have r0 : w17.cell? ⟨g4, 0, none⟩ = some (.int .i64 x2) := K19.out.cell 0
            have r1 : w17.cell? ⟨g4, 1, none⟩ = some (.int .i64 y2) := K19.out.cell 1
            have r2 : w17.cell? ⟨g4, 2, none⟩ = some (.int .i64 z2) := K19.out.cell 2
            have hgl : g4 < w17.heap.size := K19.out.lt
            go_wp2_with fail
            refine (spec_WorstHour_any l2 m2 HM2.out _ _ _ _ _ _ (by omega) (S19.out.past (by repeat (first | assumption | exact Below.refl _ _ | apply bl_gw | apply bl_alloc | apply bl_drewN | apply bl_drew)))).mono ?_
            rintro e w18 ⟨rfl, bb⟩
            rw [HWR.out]
            have hb2 : Below w17.heap.size w17 w18 := below_step (by repeat (first | assumption | exact Below.refl _ _ | apply bl_gw | apply bl_alloc | apply bl_drewN | apply bl_drew)) bb
            clear bb
            have B20 := Lib.hid (below_step B19.out hb2)
            have S20 := Lib.hid (S19.out.past hb2)
            have K20 := Lib.hid (K19.out.past hb2)
            clear hb2 r0 r1 r2 hgl
            have r0 : w18.cell? ⟨g4, 0, none⟩ = some (.int .i64 x2) := K20.out.cell 0
            have r1 : w18.cell? ⟨g4, 1, none⟩ = some (.int .i64 y2) := K20.out.cell 1
            have r2 : w18.cell? ⟨g4, 2, none⟩ = some (.int .i64 z2) := K20.out.cell 2
            have hgl : g4 < w18.heap.size := K20.out.lt
            go_upto_region 29 with (fail)
            go_cut [200] from 43 (fun u wx => u = .bool false ∧ wx = w18)
            case first => as_aux_lemma =>
              go_wp2
              go_meet
              exact ⟨by first | rfl | simp, rfl⟩
            case rest => as_aux_lemma =>
              obtain ⟨rfl, rfl⟩ := hcut
              go_upto_if 201 with (fail)
              go_cut [] from 43 (fun wx => Below w.heap.size w wx)
              case first => as_aux_lemma =>
                cases fine
                · go_wp2
                  go_meet
                  exact B20.out
                · obtain ⟨q1, s, q2, q3⟩ := worst_good HWR.out
                  have Q1 := Lib.hid q1
                  have Q2 := Lib.hid q2
                  clear q1 q2
                  have q4 : ¬ s < most := by omega
                  go_wp2_with fail
                  refine (impl_SpilledIn_any l2 m2 HM2.out _ _ _ _ _ _ _ (by omega) (S20.out.past (by repeat (first | assumption | exact Below.refl _ _ | apply bl_gw | apply bl_alloc | apply bl_drewN | apply bl_drew)))).mono ?_
                  rintro e w19 ⟨rfl, bb⟩
                  rw [Q1.out]
                  have hb2 : Below wc.heap.size wc w19 := below_step (by repeat (first | assumption | exact Below.refl _ _ | apply bl_gw | apply bl_alloc | apply bl_drewN | apply bl_drew)) bb
                  clear bb
                  have B21 := Lib.hid (below_step B20.out hb2)
                  have S21 := Lib.hid (S20.out.past hb2)
                  have K21 := Lib.hid (K20.out.past hb2)
                  clear hb2 r0 r1 r2 hgl
                  have r0 : w19.cell? ⟨g4, 0, none⟩ = some (.int .i64 x2) := K21.out.cell 0
                  have r1 : w19.cell? ⟨g4, 1, none⟩ = some (.int .i64 y2) := K21.out.cell 1
                  have r2 : w19.cell? ⟨g4, 2, none⟩ = some (.int .i64 z2) := K21.out.cell 2
                  have hgl : g4 < w19.heap.size := K21.out.lt
                  go_wp2_with fail
                  refine (impl_SpilledInAll_any l2 m2 HM2.out _ _ _ _ _ _ (by omega) (S21.out.past (by repeat (first | assumption | exact Below.refl _ _ | apply bl_gw | apply bl_alloc | apply bl_drewN | apply bl_drew)))).mono ?_
                  rintro e w20 ⟨rfl, bb⟩
                  rw [Q2.out]
                  have hb2 : Below w19.heap.size w19 w20 := below_step (by repeat (first | assumption | exact Below.refl _ _ | apply bl_gw | apply bl_alloc | apply bl_drewN | apply bl_drew)) bb
                  clear bb
                  have B22 := Lib.hid (below_step B21.out hb2)
                  have S22 := Lib.hid (S21.out.past hb2)
                  have K22 := Lib.hid (K21.out.past hb2)
                  clear hb2 r0 r1 r2 hgl
                  have r0 : w20.cell? ⟨g4, 0, none⟩ = some (.int .i64 x2) := K22.out.cell 0
                  have r1 : w20.cell? ⟨g4, 1, none⟩ = some (.int .i64 y2) := K22.out.cell 1
                  have r2 : w20.cell? ⟨g4, 2, none⟩ = some (.int .i64 z2) := K22.out.cell 2
                  have hgl : g4 < w20.heap.size := K22.out.lt
                  go_wp2
                  go_meet
                  exact B22.out
              case rest => as_aux_lemma =>
                have B23 := Lib.hid hcut
                clear hcut
                go_wp2_with fail
                refine (drawSpilledIn_any A n c _ (HC.out.past B23.out)).mono ?_
                rintro e w21 ⟨v3, l3, x3, y3, z3, h3, rfl, hl1, o1, b1⟩
                obtain ⟨A3, c3, rfl, _, _, sl1⟩ := o1.slice
                obtain ⟨m3, hm1⟩ : ∃ m, l3.length = m := ⟨_, rfl⟩
                rw [hm1] at hl1 ⊢
                have HM3 := Lib.hid hm1
                have B24 := Lib.hid (below_step B23.out b1)
                have S24 := Lib.hid sl1
                clear hm1 sl1 o1 b1
                obtain ⟨s3, k3, hbp⟩ : ∃ s k, spilledInP l3 x3 y3 z3 h3 = (s, k) := ⟨_, _, rfl⟩
                have HSP := Lib.hid hbp
                clear hbp
                go_upto_region 37 with (fail)
                refine wp_name (fun w22 hW2 => ?_)
                have hb2 : Below w21.heap.size w21 w22 := by rw [hW2]; exact (by repeat (first | assumption | exact Below.refl _ _ | apply bl_gw | apply bl_alloc | apply bl_drewN | apply bl_drew))
                have B25 := Lib.hid (below_step B24.out hb2)
                have S25 := Lib.hid (S24.out.past hb2)
                have K25 := Lib.hid (show Blk w22 w21.heap.size 24 #[.int .i64 x3, .int .i64 y3, .int .i64 z3] by rw [hW2]; exact (by first | exact Blk.new _ _ _ | exact Blk.new_ _ _ _ _ (by simp) | exact (Blk.new _ _ _).drewN _ | exact (Blk.new _ _ _).gw _))
                clear hb2 hW2
                obtain ⟨g5, hg⟩ : ∃ g, w21.heap.size = g := ⟨_, rfl⟩
                rw [hg] at K25 ⊢
                clear hg
                have r0 : w22.cell? ⟨g5, 0, none⟩ = some (.int .i64 x3) := K25.out.cell 0
                have r1 : w22.cell? ⟨g5, 1, none⟩ = some (.int .i64 y3) := K25.out.cell 1
                have r2 : w22.cell? ⟨g5, 2, none⟩ = some (.int .i64 z3) := K25.out.cell 2
                have hgl : g5 < w22.heap.size := K25.out.lt
                go_wp2_with fail
                refine (impl_SpilledIn_any l3 m3 HM3.out _ _ _ _ _ _ _ (by omega) (S25.out.past (by repeat (first | assumption | exact Below.refl _ _ | apply bl_gw | apply bl_alloc | apply bl_drewN | apply bl_drew)))).mono ?_
                rintro e w23 ⟨rfl, bb⟩
                rw [HSP.out]
                have hb2 : Below w22.heap.size w22 w23 := below_step (by repeat (first | assumption | exact Below.refl _ _ | apply bl_gw | apply bl_alloc | apply bl_drewN | apply bl_drew)) bb
                clear bb
                have B26 := Lib.hid (below_step B25.out hb2)
                have S26 := Lib.hid (S25.out.past hb2)
                have K26 := Lib.hid (K25.out.past hb2)
                clear hb2 r0 r1 r2 hgl
                have r0 : w23.cell? ⟨g5, 0, none⟩ = some (.int .i64 x3) := K26.out.cell 0
                have r1 : w23.cell? ⟨g5, 1, none⟩ = some (.int .i64 y3) := K26.out.cell 1
                have r2 : w23.cell? ⟨g5, 2, none⟩ = some (.int .i64 z3) := K26.out.cell 2
                have hgl : g5 < w23.heap.size := K26.out.lt
                go_wp2_with fail
                refine (spec_SpilledIn_any l3 m3 HM3.out _ _ _ _ _ _ _ (by omega) (S26.out.past (by repeat (first | assumption | exact Below.refl _ _ | apply bl_gw | apply bl_alloc | apply bl_drewN | apply bl_drew)))).mono ?_
                rintro e w24 ⟨rfl, bb⟩
                rw [HSP.out]
                have hb2 : Below w23.heap.size w23 w24 := below_step (by repeat (first | assumption | exact Below.refl _ _ | apply bl_gw | apply bl_alloc | apply bl_drewN | apply bl_drew)) bb
                clear bb
                have B27 := Lib.hid (below_step B26.out hb2)
                have S27 := Lib.hid (S26.out.past hb2)
                have K27 := Lib.hid (K26.out.past hb2)
                clear hb2 r0 r1 r2 hgl
                have r0 : w24.cell? ⟨g5, 0, none⟩ = some (.int .i64 x3) := K27.out.cell 0
                have r1 : w24.cell? ⟨g5, 1, none⟩ = some (.int .i64 y3) := K27.out.cell 1
                have r2 : w24.cell? ⟨g5, 2, none⟩ = some (.int .i64 z3) := K27.out.cell 2
                have hgl : g5 < w24.heap.size := K27.out.lt
                go_wp2
                go_ret
                exact ⟨by first | rfl | simp, B27.out⟩
end Go.Proofs.Ytopdbacgceoddaa
