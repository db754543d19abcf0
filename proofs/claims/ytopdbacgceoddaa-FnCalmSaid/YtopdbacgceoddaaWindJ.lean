/- Walks of blows: calm spans. -/
import Derived.Test.YtopdbacgceoddaaWindK
import Derived.Test.YtopdbacgceoddaaTail
namespace Go.Proofs.Ytopdbacgceoddaa
open Go.RowKit
def in3 (a b c : Int) : Prop := (0 ≤ a ∧ a ≤ 10001) ∧ (-1 ≤ b ∧ b ≤ 10000) ∧ (0 ≤ c ∧ c ≤ 10001)
set_option maxHeartbeats 8000000 in
theorem spec_CalmSpan_any (l : List Blow) (m : Nat) (hn : l.length = m) (A : Option Addr) (cap : Nat) (s f t : Int) (w : World) (hl : m ≤ 1048576) (hc : Sl encBlow w w.heap.size A l) :
    Calls Try.prog 28 #[.slice A m cap, .int .i64 s, .int .i64 f, .int .i64 t] w fun e w' => e = .returned (.tuple #[.int .i64 (calmP l s f t).1, .int .i64 (calmP l s f t).2.1, .bool (calmP l s f t).2.2]) ∧ Below w.heap.size w w' := by
  have HC := Lib.hid hc; clear hc
  have HN := Lib.hid hn; clear hn
  rcases sp4 (areBlows l) (decide (0 ≤ s)) (inB f 0 t) (decide (t ≤ 9999)) with t1 | ⟨t1, t2⟩ | ⟨t1, t2, t3⟩ | ⟨t1, t2, t3, t4⟩ | ⟨t1, t2, t3, t4⟩
  case inr.inr.inr.inr =>
    have HT1 := Lib.hid t1
    have hsn : 0 ≤ s := by simpa using t2
    have hf := inB_true t3
    have ht : t ≤ 9999 := by simpa using t4
    have hd : calmP l s f t = fin3 (upd (t + 1) (sTo l s f t l.length)) := by simp [calmP, t1, hsn, t3, ht]
    have HD0 := Lib.hid hd
    clear hd
    have n2 : ¬ s < 0 := by omega
    have n4 : ¬ 9999 < t := by omega
    obtain ⟨f0, f1⟩ := hf
    go_enter Try.func28, Try.ntmps28
    go_wp2_with (first | (go_at_call 56; refine (l19Good_any l m HN.out _ _ _ hl HC.out).mono ?_; rintro e w1 ⟨rfl, hb⟩; obtain ⟨p, rfl⟩ := below_gw hb; clear hb) | (go_at_call 51; refine (l1In_any _ _ _ _).mono ?_; rintro e w1 ⟨rfl, rfl⟩))
    refine wp_name (fun W0 hW0 => ?_)
    have hB0 : Below w.heap.size w W0 := by rw [hW0]; exact (by repeat (first | assumption | exact Below.refl _ _ | apply bl_gw | apply bl_alloc | apply bl_drewN | apply bl_drew))
    have HD := Lib.hid (show Sl encBlow W0 W0.heap.size A l by rw [hW0]; exact HC.out.past (by repeat (first | assumption | exact Below.refl _ _ | apply bl_gw | apply bl_alloc | apply bl_drewN | apply bl_drew)))
    clear hW0
    clear t1 t2 t3 t4
    go_loopw [11, 12, 13, 14] (fun a b c i wr => ∃ (k : Nat) (ta tb tc : Int), k ≤ m ∧ i = .int .i64 k ∧ a = .int .i64 ta ∧ b = .int .i64 tb ∧ c = .int .i64 tc ∧ in3 ta tb tc ∧ (ta, tb, tc) = sTo l s f t k ∧ Below W0.heap.size W0 wr) (fun _ _ _ i _ => m - (intOf i).toNat)
    case atStart => exact ⟨0, 0, -1, f, Nat.zero_le _, rfl, rfl, rfl, rfl, ⟨by omega, by omega, by omega⟩, rfl, Below.refl _ _⟩
    case round =>
      obtain ⟨k, ta, tb, tc, hkm, rfl, rfl, rfl, rfl, hin, hst, hbel⟩ := hrel
      obtain ⟨⟨a0, a1⟩, ⟨b0, b1⟩, ⟨g0, g1⟩⟩ := hin
      have HT := Lib.hid hst; clear hst
      by_cases hlt : k < m
      · have hsz := hbel.size
        obtain ⟨bk, off, rfl, hb, hcs⟩ := HD.out.blow (by rw [HN.out]; omega)
        have hx : l[k]? = some (l[k]'(by rw [HN.out]; exact hlt)) := List.getElem?_eq_getElem _
        generalize l[k]'(by rw [HN.out]; exact hlt) = y at hx
        obtain ⟨c0, c1, c2⟩ := hcs k y hx
        clear hcs
        have HX := Lib.hid hx
        clear hx
        rw [← hbel.cell hb] at c0 c1 c2
        have hbw : bk < wr.heap.size := by omega
        have k1 : (k : Int) < m := by omega
        obtain ⟨⟨y1, y2⟩, ⟨y3, y4⟩, ⟨y5, y6⟩⟩ := areBlows_at HT1.out HX.out
        have hstep : sTo l s f t (k + 1) = if sSkip s f t y then (ta, tb, tc) else upd y.hour (ta, tb, tc) := by
          have : sTo l s f t (k + 1) = if sSkip s f t l[k]! then sTo l s f t k else upd l[k]!.hour (sTo l s f t k) := rfl
          rw [this, ← HT.out, List.getElem!_of_getElem? HX.out]
        have HS := Lib.hid hstep; clear hstep
        have k2 : (0 : Int) ≤ k := by omega
        by_cases h1 : y.speed ≤ s
        · have HK := Lib.hid (show sSkip s f t y = true by simp [sSkip, h1])
          go_wp2
          go_roundw
          case rel => exact ⟨k + 1, _, _, _, by omega, by go_num, rfl, rfl, rfl, ⟨by omega, by omega, by omega⟩, by rw [HS.out, if_pos HK.out], (by repeat (first | assumption | exact Below.refl _ _ | apply bl_gw | apply bl_alloc | apply bl_drewN | apply bl_drew))⟩
          case measure => simp [intOf]; omega
        · have h1' : s < y.speed := by omega
          rcases sp1 (inB y.hour f t) with h2 | h2
          · have HK := Lib.hid (show sSkip s f t y = true by simp [sSkip, h2])
            go_wp2_with (first | (go_at_call 51; refine (l1In_any _ _ _ _).mono ?_; rintro e w1 ⟨rfl, rfl⟩))
            go_roundw
            case rel => exact ⟨k + 1, _, _, _, by omega, by go_num, rfl, rfl, rfl, ⟨by omega, by omega, by omega⟩, by rw [HS.out, if_pos HK.out], (by repeat (first | assumption | exact Below.refl _ _ | apply bl_gw | apply bl_alloc | apply bl_drewN | apply bl_drew))⟩
            case measure => simp [intOf]; omega
          · have HK := Lib.hid (show sSkip s f t y = false by simp [sSkip, h2]; omega)
            by_cases hcmp : tb - ta + 1 < y.hour - tc
            · go_wp2_with (first | (go_at_call 51; refine (l1In_any _ _ _ _).mono ?_; rintro e w1 ⟨rfl, rfl⟩))
              go_roundw
              case rel => exact ⟨k + 1, _, _, _, by omega, by go_num, rfl, rfl, rfl, ⟨by omega, by omega, by omega⟩, by rw [HS.out, if_neg (by rw [HK.out]; simp)]; unfold upd; rw [if_pos hcmp], (by repeat (first | assumption | exact Below.refl _ _ | apply bl_gw | apply bl_alloc | apply bl_drewN | apply bl_drew))⟩
              case measure => simp [intOf]; omega
            · go_wp2_with (first | (go_at_call 51; refine (l1In_any _ _ _ _).mono ?_; rintro e w1 ⟨rfl, rfl⟩))
              go_roundw
              case rel => exact ⟨k + 1, _, _, _, by omega, by go_num, rfl, rfl, rfl, ⟨by omega, by omega, by omega⟩, by rw [HS.out, if_neg (by rw [HK.out]; simp)]; unfold upd; rw [if_neg (by simp only; omega)], (by repeat (first | assumption | exact Below.refl _ _ | apply bl_gw | apply bl_alloc | apply bl_drewN | apply bl_drew))⟩
              case measure => simp [intOf]; omega
      · obtain rfl : k = m := by omega
        have hres : calmP l s f t = fin3 (upd (t + 1) (ta, tb, tc)) := by rw [HD0.out, HN.out, ← HT.out]
        by_cases hcmp : tb - ta + 1 < t - tc + 1
        · have hr2 : calmP l s f t = if t < tc then (0, 0, false) else (tc, t, true) := by
            rw [hres]; unfold upd; rw [if_pos (by simp only; omega)]; unfold fin3; simp only; rw [show t + 1 - 1 = t by omega]
          have HR := Lib.hid hr2; clear hr2 hres
          by_cases h3 : t < tc
          · go_wp2
            go_ret3
            exact ⟨by rw [HR.out, if_pos h3]; rfl, hB0.trans (hbel.mono hB0.size)⟩
          · go_wp2
            go_ret3
            exact ⟨by rw [HR.out, if_neg (by omega)]; rfl, hB0.trans (hbel.mono hB0.size)⟩
        · have hr2 : calmP l s f t = if tb < ta then (0, 0, false) else (ta, tb, true) := by
            rw [hres]; unfold upd; rw [if_neg (by simp only; omega)]; rfl
          have HR := Lib.hid hr2; clear hr2 hres
          by_cases h3 : tb < ta
          · go_wp2
            go_ret3
            exact ⟨by rw [HR.out, if_pos h3]; rfl, hB0.trans (hbel.mono hB0.size)⟩
          · go_wp2
            go_ret3
            exact ⟨by rw [HR.out, if_neg (by omega)]; rfl, hB0.trans (hbel.mono hB0.size)⟩
  all_goals
    have hd : calmP l s f t = (0, 0, false) := by
      unfold calmP
      rw [if_neg (by simp [*])]
    rw [hd]
    clear hd
  case inl =>
    go_enter Try.func28, Try.ntmps28
    go_wp2_with (first | (go_at_call 56; refine (l19Good_any l m HN.out _ _ _ hl HC.out).mono ?_; rintro e w1 ⟨rfl, hb⟩; obtain ⟨p, rfl⟩ := below_gw hb; clear hb) | (go_at_call 51; refine (l1In_any _ _ _ _).mono ?_; rintro e w1 ⟨rfl, rfl⟩))
    go_ret3
    exact ⟨rfl, (by repeat (first | assumption | exact Below.refl _ _ | apply bl_gw | apply bl_alloc | apply bl_drewN | apply bl_drew))⟩
  case' inr.inl => have n2 : s < 0 := by simpa using t2
  case' inr.inr.inl => have n2 : ¬ s < 0 := by simpa using t2
  case' inr.inr.inr.inl =>
    have n2 : ¬ s < 0 := by simpa using t2
    have n4 : 9999 < t := by simpa using t4
  all_goals
    go_enter Try.func28, Try.ntmps28
    go_wp2_with (first | (go_at_call 56; refine (l19Good_any l m HN.out _ _ _ hl HC.out).mono ?_; rintro e w1 ⟨rfl, hb⟩; obtain ⟨p, rfl⟩ := below_gw hb; clear hb) | (go_at_call 51; refine (l1In_any _ _ _ _).mono ?_; rintro e w1 ⟨rfl, rfl⟩))
    go_ret3
    exact ⟨rfl, (by repeat (first | assumption | exact Below.refl _ _ | apply bl_gw | apply bl_alloc | apply bl_drewN | apply bl_drew))⟩
end Go.Proofs.Ytopdbacgceoddaa
