/- Walks of blows: calm spans, the program's. -/
import Derived.Test.YtopdbacgceoddaaWindJ
import Derived.Test.YtopdbacgceoddaaApp
namespace Go.Proofs.Ytopdbacgceoddaa
open Go.RowKit
set_option maxHeartbeats 8000000 in
theorem impl_CalmSpan_any (l : List Blow) (m : Nat) (hn : l.length = m) (A : Option Addr) (cap : Nat) (s f t : Int) (w : World) (hl : m ≤ 1048576) (hc : Sl encBlow w w.heap.size A l) :
    Calls Try.prog 29 #[.slice A m cap, .int .i64 s, .int .i64 f, .int .i64 t] w fun e w' => e = .returned (.tuple #[.int .i64 (calmP l s f t).1, .int .i64 (calmP l s f t).2.1, .bool (calmP l s f t).2.2]) ∧ Below w.heap.size w w' := by
  have HC := Lib.hid hc; clear hc
  have HN := Lib.hid hn; clear hn
  rcases sp4 (areBlows l) (decide (0 ≤ s)) (inB f 0 9999) (inB t 0 9999) with t1 | ⟨t1, t2⟩ | ⟨t1, t2, t3⟩ | ⟨t1, t2, t3, t4⟩ | ⟨t1, t2, t3, t4⟩
  case inr.inr.inr.inr =>
    have HT1 := Lib.hid t1
    have hsn : 0 ≤ s := by simpa using t2
    have hm20 : m ≤ 20 := by have := areBlows_len t1; rw [HN.out] at this; exact this
    have n2 : ¬ s < 0 := by omega
    obtain ⟨f0, f1⟩ := inB_true t3
    obtain ⟨g0, g1⟩ := inB_true t4
    have HE := Lib.hid (fun u => calm_end (u := u) t1 hsn t3 t4)
    obtain ⟨i0, hi, hz0, hz1', hz2⟩ := info_parts info_Blow
    go_enter Try.func29, Try.ntmps29
    go_wp2_with (first
      | (go_at_call 24; refine (impl_AreBlows_any l m HN.out _ _ _ hl HC.out).mono ?_; rintro e w1 ⟨rfl, hb1⟩; have HB1 := Lib.hid hb1; have hz1 := hb1.size; have HC1 := Lib.hid (HC.out.past hb1); clear hb1)
      | (go_at_call 58; refine (isHour_any _ _).mono ?_; rintro e w1 ⟨rfl, rfl⟩)
      | (at_builtin; refine wpList_app (E := encBlow) _ rfl (.tmp 34) (.tmp 35) 36 rfl w1.heap.size 62 i0 _ 24 Try.underlying36 hi hz0 hz1' hz2 rfl (by decide) (.slice (some ⟨w1.heap.size, 0, none⟩) 0 0) [] rfl (Own.build (Nat.le_refl _) (Blk.new _ _ _) rfl rfl (by decide)) _ A m cap l rfl HN.out (HC1.out.past (bl_alloc (Below.refl _ _) _)) (by simp [maxLen]; omega) (by simp; omega) (by simp) ?_; intro v2 w2 ho2 hg2 hk2; have HO2 := Lib.hid ho2; have HG2 := Lib.hid hg2; have HK2 := Lib.hid hk2; clear ho2 hg2 hk2)
      | (at_builtin; refine wpList_app (E := encBlow) _ rfl (.tmp 36) (.tmp 42) 36 rfl w1.heap.size 62 i0 _ 24 Try.underlying36 hi hz0 hz1' hz2 rfl (by decide) v2 l rfl (HO2.out.past (bl_alloc (Below.refl _ _) _) (Nat.le_refl _)) _ (some ⟨w2.heap.size, 0, none⟩) 1 1 [⟨t + 1, wrap64 (s + 1), 0⟩] rfl rfl (Own.sl (Own.build (n := 1) (Nat.zero_le _) (Blk.new _ _ _) rfl rfl (by decide))).2 (by rw [HN.out]; simp [maxLen]; omega) (by rw [HN.out]; omega) (by simp; have := HG2.out.size; simp at this; omega) ?_; intro v3 w3 ho3 hg3 hk3; have HG3 := Lib.hid hg3; obtain ⟨A3, c3, rfl, s3⟩ := ho3.slice_at (n := m + 1) (by simp [HN.out]); have S3 := Lib.hid s3; clear ho3 hg3 hk3 s3))
    have hB3 : Below w.heap.size w w3 := by
      have h2 : Below w.heap.size w w2 := below_grown (bl_alloc HB1.out _) HG2.out (by intro k hk; simp [Value.ownBlock] at hk; omega)
      refine below_grown (bl_alloc h2 _) HG3.out (fun k hk => ?_)
      have := HO2.out.row k hk
      omega
    clear t1 t2 t3 t4 hi hz0 hz1' hz2 HC HC1 HO2 HG2 HK2 HG3
    obtain ⟨L, hL⟩ : ∃ L, L = l ++ [(⟨t + 1, wrap64 (s + 1), 0⟩ : Blow)] := ⟨_, rfl⟩
    rw [← hL] at S3
    have HL := Lib.hid hL
    clear hL
    go_loopw [11, 12, 13, 45] (fun a b c i wr => ∃ (k : Nat) (ta tb tc : Int), k ≤ m + 1 ∧ i = .int .i64 k ∧ a = .int .i64 ta ∧ b = .int .i64 tb ∧ c = .int .i64 tc ∧ in3 ta tb tc ∧ (ta, tb, tc) = iTo L s f t k ∧ Below w3.heap.size w3 wr) (fun _ _ _ i _ => m + 1 - (intOf i).toNat)
    case atStart => exact ⟨0, 0, -1, f, Nat.zero_le _, rfl, rfl, rfl, rfl, ⟨by omega, by omega, by omega⟩, rfl, Below.refl _ _⟩
    case round =>
      obtain ⟨k, ta, tb, tc, hkm, rfl, rfl, rfl, rfl, hin, hst, hbel⟩ := hrel
      obtain ⟨⟨a0, a1⟩, ⟨b0, b1⟩, ⟨e0, e1⟩⟩ := hin
      have HT := Lib.hid hst; clear hst
      have hsz := hbel.size
      have hLn : L.length = m + 1 := by rw [HL.out]; simp [HN.out]
      have HLn := Lib.hid hLn; clear hLn
      by_cases hlt : k < m + 1
      · obtain ⟨bk, off, rfl, hb, hcs⟩ := S3.out.blow (by rw [HLn.out]; omega)
        have hx : L[k]? = some (L[k]'(by rw [HLn.out]; exact hlt)) := List.getElem?_eq_getElem _
        generalize L[k]'(by rw [HLn.out]; exact hlt) = y at hx
        obtain ⟨c0, c1, c2⟩ := hcs k y hx
        clear hcs
        have hy : 0 ≤ y.hour ∧ y.hour ≤ 10000 := by
          rw [HL.out] at hx
          by_cases hk : k < l.length
          · rw [List.getElem?_append_left hk] at hx
            have := (areBlows_at HT1.out hx).1
            omega
          · have hk' : k = l.length := by have := HN.out; omega
            rw [hk', List.getElem?_append_right (Nat.le_refl _)] at hx
            simp at hx
            rw [← hx]
            simp only; omega
        have hstep : iTo L s f t (k + 1) = if iSkip s f t y then (ta, tb, tc) else upd y.hour (ta, tb, tc) := by
          rw [iTo_succ, ← HT.out, List.getElem!_of_getElem? hx]
        clear hx
        have HS := Lib.hid hstep; clear hstep
        rw [← hbel.cell hb] at c0 c1 c2
        have hbw : bk < wr.heap.size := by omega
        have k1 : (k : Int) < m + 1 := by omega
        have k2 : (0 : Int) ≤ k := by omega
        obtain ⟨y0, y1⟩ := hy
        by_cases hk : y.speed ≤ s ∧ y.hour ≤ t
        · obtain ⟨h1, h1'⟩ := hk
          have HK := Lib.hid (show iSkip s f t y = true by simp [iSkip, h1, h1'])
          go_wp2
          go_roundw
          case rel => exact ⟨k + 1, _, _, _, by omega, by go_num, rfl, rfl, rfl, ⟨by omega, by omega, by omega⟩, by rw [HS.out, if_pos HK.out], (by repeat (first | assumption | exact Below.refl _ _ | apply bl_gw | apply bl_alloc | apply bl_drewN | apply bl_drew))⟩
          case measure => simp [intOf]; omega
        · rcases sp1 (inB y.hour f (t + 1)) with h2 | h2
          · have HK := Lib.hid (show iSkip s f t y = true by simp [iSkip, h2])
            by_cases h1 : y.speed ≤ s
            · have h1' : ¬ y.hour ≤ t := fun h => hk ⟨h1, h⟩
              clear hk
              go_wp2_with (first | (go_at_call 60; refine (within_any _ _ _ _).mono ?_; rintro e w1 ⟨rfl, rfl⟩))
              go_roundw
              case rel => exact ⟨k + 1, _, _, _, by omega, by go_num, rfl, rfl, rfl, ⟨by omega, by omega, by omega⟩, by rw [HS.out, if_pos HK.out], (by repeat (first | assumption | exact Below.refl _ _ | apply bl_gw | apply bl_alloc | apply bl_drewN | apply bl_drew))⟩
              case measure => simp [intOf]; omega
            · clear hk
              go_wp2_with (first | (go_at_call 60; refine (within_any _ _ _ _).mono ?_; rintro e w1 ⟨rfl, rfl⟩))
              go_roundw
              case rel => exact ⟨k + 1, _, _, _, by omega, by go_num, rfl, rfl, rfl, ⟨by omega, by omega, by omega⟩, by rw [HS.out, if_pos HK.out], (by repeat (first | assumption | exact Below.refl _ _ | apply bl_gw | apply bl_alloc | apply bl_drewN | apply bl_drew))⟩
              case measure => simp [intOf]; omega
          · by_cases h1 : y.speed ≤ s
            · have h1' : ¬ y.hour ≤ t := fun h => hk ⟨h1, h⟩
              have HK := Lib.hid (show iSkip s f t y = false by simp [iSkip, h2]; omega)
              clear hk
              by_cases hcmp : tb - ta + 1 < y.hour - tc
              · go_wp2_with (first | (go_at_call 60; refine (within_any _ _ _ _).mono ?_; rintro e w1 ⟨rfl, rfl⟩))
                have w1' : IntKind.i64.wrap (y.hour - 1) = y.hour - 1 := IntWalk.i64_in _ (by omega)
                refine wp_region_gw (by kernel_rfl) (by kernel_rfl) ?_
                repeat (first | go_big_quiet_step ((fail)) | quiet_step ((fail)))
                refine wpQuiet_nil ?_
                rintro _ ⟨pq, rfl⟩
                go_wp2
                go_roundw
                case rel => exact ⟨k + 1, _, _, _, by omega, by go_num, rfl, rfl, rfl, ⟨by omega, by omega, by omega⟩, by rw [HS.out, if_neg (by rw [HK.out]; simp)]; unfold upd; rw [if_pos hcmp], (by repeat (first | assumption | exact Below.refl _ _ | apply bl_gw | apply bl_alloc | apply bl_drewN | apply bl_drew))⟩
                case measure => simp [intOf]; omega
              · go_wp2_with (first | (go_at_call 60; refine (within_any _ _ _ _).mono ?_; rintro e w1 ⟨rfl, rfl⟩))
                go_roundw
                case rel => exact ⟨k + 1, _, _, _, by omega, by go_num, rfl, rfl, rfl, ⟨by omega, by omega, by omega⟩, by rw [HS.out, if_neg (by rw [HK.out]; simp)]; unfold upd; rw [if_neg (by simp only; omega)], (by repeat (first | assumption | exact Below.refl _ _ | apply bl_gw | apply bl_alloc | apply bl_drewN | apply bl_drew))⟩
                case measure => simp [intOf]; omega
            · have HK := Lib.hid (show iSkip s f t y = false by simp [iSkip, h2]; omega)
              clear hk
              by_cases hcmp : tb - ta + 1 < y.hour - tc
              · go_wp2_with (first | (go_at_call 60; refine (within_any _ _ _ _).mono ?_; rintro e w1 ⟨rfl, rfl⟩))
                have w1' : IntKind.i64.wrap (y.hour - 1) = y.hour - 1 := IntWalk.i64_in _ (by omega)
                refine wp_region_gw (by kernel_rfl) (by kernel_rfl) ?_
                repeat (first | go_big_quiet_step ((fail)) | quiet_step ((fail)))
                refine wpQuiet_nil ?_
                rintro _ ⟨pq, rfl⟩
                go_wp2
                go_roundw
                case rel => exact ⟨k + 1, _, _, _, by omega, by go_num, rfl, rfl, rfl, ⟨by omega, by omega, by omega⟩, by rw [HS.out, if_neg (by rw [HK.out]; simp)]; unfold upd; rw [if_pos hcmp], (by repeat (first | assumption | exact Below.refl _ _ | apply bl_gw | apply bl_alloc | apply bl_drewN | apply bl_drew))⟩
                case measure => simp [intOf]; omega
              · go_wp2_with (first | (go_at_call 60; refine (within_any _ _ _ _).mono ?_; rintro e w1 ⟨rfl, rfl⟩))
                go_roundw
                case rel => exact ⟨k + 1, _, _, _, by omega, by go_num, rfl, rfl, rfl, ⟨by omega, by omega, by omega⟩, by rw [HS.out, if_neg (by rw [HK.out]; simp)]; unfold upd; rw [if_neg (by simp only; omega)], (by repeat (first | assumption | exact Below.refl _ _ | apply bl_gw | apply bl_alloc | apply bl_drewN | apply bl_drew))⟩
                case measure => simp [intOf]; omega
      · obtain rfl : k = m + 1 := by omega
        have hres : calmP l s f t = fin3 (ta, tb, tc) := by rw [HT.out, HL.out, ← HE.out (wrap64 (s + 1)), HN.out]
        have hr2 : calmP l s f t = if tb < ta then (0, 0, false) else (ta, tb, true) := hres
        have HR := Lib.hid hr2; clear hr2 hres
        have h5 : ¬ (m + 1 < m + 1) := by omega
        by_cases h3 : tb < ta
        · go_wp2
          go_ret3
          exact ⟨by rw [HR.out, if_pos h3]; rfl, hB3.trans (hbel.mono hB3.size)⟩
        · go_wp2
          go_ret3
          exact ⟨by rw [HR.out, if_neg (by omega)]; rfl, hB3.trans (hbel.mono hB3.size)⟩
  all_goals
    have hd : calmP l s f t = (0, 0, false) := by
      unfold calmP
      rw [if_neg (by intro hh; simp only [Bool.and_eq_true, decide_eq_true_eq] at hh; obtain ⟨⟨q1, q2⟩, q3, q4⟩ := hh; have q5 := inB_true q3; first | (simp at t2; omega) | (have := inB_false t3; omega) | (have := inB_false t4; omega) | (rw [t1] at q1; cases q1))]
    rw [hd]
    clear hd
  case' inr.inl => have n2 : s < 0 := by simpa using t2
  case' inr.inr.inl => have n2 : ¬ s < 0 := by simpa using t2
  case' inr.inr.inr.inl => have n2 : ¬ s < 0 := by simpa using t2
  all_goals
    go_enter Try.func29, Try.ntmps29
    go_wp2_with (first | (go_at_call 24; refine (impl_AreBlows_any l m HN.out _ _ _ hl HC.out).mono ?_; rintro e w1 ⟨rfl, hb⟩; obtain ⟨p, rfl⟩ := below_gw hb; clear hb) | (go_at_call 58; refine (isHour_any _ _).mono ?_; rintro e w1 ⟨rfl, rfl⟩))
    go_ret3
    exact ⟨rfl, (by repeat (first | assumption | exact Below.refl _ _ | apply bl_gw | apply bl_alloc | apply bl_drewN | apply bl_drew))⟩
end Go.Proofs.Ytopdbacgceoddaa
