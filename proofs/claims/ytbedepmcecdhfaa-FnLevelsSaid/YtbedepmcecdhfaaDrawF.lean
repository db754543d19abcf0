/- The draw of gauges and ditches. -/
import Derived.Test.YtbedepmcecdhfaaDraw
import Derived.Test.YtbedepmcecdhfaaDitch
import Derived.Test.YtbedepmcecdhfaaGaugeB
namespace Go.Proofs.Ytbedepmcecdhfaa
open Go.RowKit
/-- Gauges whose numbers are small. -/
def GB (g : List Gauge) : Prop := ∀ (i : Nat) (x : Gauge), g[i]? = some x → -10 ≤ x.least ∧ x.least ≤ 10 ∧ -10 ≤ x.most ∧ x.most ≤ 20
theorem GB.nil : GB [] := fun i x h => by simp at h
theorem GB.snoc {g : List Gauge} (h : GB g) {x : Gauge} (hx : -10 ≤ x.least ∧ x.least ≤ 10 ∧ -10 ≤ x.most ∧ x.most ≤ 20) : GB (g ++ [x]) := fun i y hy => by
  rcases Nat.lt_or_ge i g.length with hi | hi
  · rw [List.getElem?_append_left hi] at hy; exact h i y hy
  · have hlt := (List.getElem?_eq_some_iff.1 hy).1
    have : i = g.length := by simp at hlt; omega
    subst this
    rw [List.getElem?_append_right (Nat.le_refl _), Nat.sub_self] at hy
    simp at hy; subst hy; exact hx
theorem GB.set {g : List Gauge} (h : GB g) {x : Gauge} (hx : -10 ≤ x.least ∧ x.least ≤ 10 ∧ -10 ≤ x.most ∧ x.most ≤ 20) (k : Nat) : GB (g.set k x) := fun i y hy => by
  rw [List.getElem?_set] at hy
  split at hy
  · split at hy
    · injection hy with hy; subst hy; exact hx
    · cases hy
  · exact h i y hy
/-- What stands while a field is drawn. -/
structure FieldS (w wr : World) (B p k : Nat) (gv dv : Value) (g : List Gauge) (D : List Ditch) : Prop where
  og : Own encGauge wr w.heap.size 99 gv g
  od : Own encDitch wr w.heap.size 84 dv D
  apart : ∀ k, dv.ownBlock = some k → gv.ownBlock ≠ some k
  cur : Cur wr B p k
  grown : w.grownBy wr (some p)
  gb : GB g
  le : B ≤ w.heap.size
section
variable {w wr W w1 : World} {B p k k1 : Nat} {gv dv : Value} {g : List Gauge} {D : List Ditch}
theorem FieldS.step (h : FieldS w wr B p k gv dv g D) (hb : Below wr.heap.size wr W) (r : Cur w1 B p k1) (g1 : W.grownBy w1 (some p)) : FieldS w w1 B p k1 gv dv g D := by
  have hp := h.cur.lt
  have hle := h.le
  exact ⟨(h.og.past hb (Nat.le_refl _)).drawn g1 (by omega), (h.od.past hb (Nat.le_refl _)).drawn g1 (by omega), h.apart, r, (gb_below h.grown (hb.mono h.grown.size)).trans g1, h.gb, h.le⟩
theorem FieldS.mono (h : FieldS w wr B p k gv dv g D) (hk : k ≤ k1) : FieldS w wr B p k1 gv dv g D := ⟨h.og, h.od, h.apart, h.cur.mono hk, h.grown, h.gb, h.le⟩
theorem FieldS.sz (h : FieldS w wr B p k gv dv g D) : w.heap.size ≤ wr.heap.size := h.grown.size
end
theorem FieldS.set0 {w wr : World} {B p k gg N c : Nat} {dv : Value} {g : List Gauge} {D : List Ditch} (h : FieldS w wr B p k (.slice (some ⟨gg, 0, none⟩) N c) dv g D) (hN : 0 < N) {x : Gauge} (hx : -10 ≤ x.least ∧ x.least ≤ 10 ∧ -10 ≤ x.most ∧ x.most ≤ 20) :
    FieldS w ((wr.setCell ⟨gg, 0, none⟩ (.int .i64 x.least)).setCell ⟨gg, 1, none⟩ (.int .i64 x.most)) B p k (.slice (some ⟨gg, 0, none⟩) N c) dv (g.set 0 x) D := by
  have hlo : w.heap.size ≤ gg := h.og.lo ⟨gg, 0, none⟩ rfl
  have hne : dv.ownBlock ≠ some gg := fun e => h.apart gg e rfl
  have hb : Below w.heap.size wr ((wr.setCell ⟨gg, 0, none⟩ (.int .i64 x.least)).setCell ⟨gg, 1, none⟩ (.int .i64 x.most)) := ((Below.refl w.heap.size wr).setCell (p := ⟨gg, 0, none⟩) hlo _).setCell (p := ⟨gg, 1, none⟩) hlo _
  exact ⟨h.og.setElem (i := 0) hN x, (h.od.afar hne _).afar hne _, h.apart, h.cur.below (hb.mono h.le), gb_below h.grown hb, h.gb.set hx 0, h.le⟩
/-- The relation of the loop over pairs. -/
def FRel (w : World) (B p K N : Nat) (gv : Value) (g : List Gauge) (dv bv : Value) (wr : World) : Prop :=
  ∃ (dw : Value) (D : List Ditch) (b k' : Nat), D.length ≤ 8 ∧ b ≤ N ∧ k' + 10 * (N - b) ≤ K ∧ bv = .int .i64 b ∧ dw = dv ∧ FieldS w wr B p k' gv dw g D
def GRel (w : World) (B p K : Nat) (dv : Value) (D : List Ditch) (gv : Value) (wr : World) : Prop :=
  ∃ (Ac : Option Addr × Nat) (g : List Gauge) (k' : Nat), g.length ≤ 6 ∧ k' + 10 * (6 - g.length) ≤ K ∧ .slice Ac.1 g.length Ac.2 = gv ∧ FieldS w wr B p k' (.slice Ac.1 g.length Ac.2) dv g D
set_option maxRecDepth 4000 in
set_option maxHeartbeats 16000000 in
theorem field16_any (B p k : Nat) (w : World) (hk : k ≤ 10000) (h : Cur w B p k) :
    Calls Try.prog 54 #[.pointer (some ⟨p, 0, none⟩)] w fun e w' => ∃ gv dv g D, e = .returned (.tuple #[gv, dv]) ∧ List.length g ≤ 6 ∧ List.length D ≤ 9 ∧ FieldS w w' B p (k + 1000) gv dv g D := by
  have HC := Lib.hid h
  have hpB := h.lt
  have hle := h.le
  clear h
  obtain ⟨i0, hinf, hz0, hz1, hz2⟩ := info_parts info_Gauge
  obtain ⟨j0, hinf2, hy0, hy1, hy2⟩ := info_parts info_Ditch
  have HB0 := Lib.hid (show Below w.heap.size w ((w.alloc (.cells #[] 99)).alloc (.cells #[] 84)) from (by repeat (first | assumption | exact Below.refl _ _ | apply bl_gw | apply bl_alloc | apply bl_drewN | apply bl_drew)))
  have S0 := Lib.hid (show FieldS w ((w.alloc (.cells #[] 99)).alloc (.cells #[] 84)) B p k (.slice (some ⟨w.heap.size, 0, none⟩) 0 0) (.slice (some ⟨w.heap.size + 1, 0, none⟩) 0 0) [] [] from
    ⟨(Own.nil_ (Nat.le_refl w.heap.size) _).past (bl_alloc (Below.refl _ _) _) (Nat.le_refl _), by have := Own.nil_ (E := encDitch) (base := w.heap.size) (w := w.alloc (.cells #[] 99)) (by simp) 84; rwa [alloc_sz] at this,
      fun k h1 h2 => by simp [Value.ownBlock] at h1 h2; omega, HC.out.below (HB0.out.mono hle), gb_below (World.grownBy.refl w (some p)) HB0.out, GB.nil, hle⟩)
  go_enter Try.func54, Try.ntmps54
  go_wp2_with fail
  refine (pick_any _ _ _ 3 _ (by omega) (by omega) (S0.out.cur.below ((show Below (((w.alloc (.cells #[] 99)).alloc (.cells #[] 84))).heap.size (((w.alloc (.cells #[] 99)).alloc (.cells #[] 84))) _ from (by repeat (first | assumption | exact Below.refl _ _ | apply bl_gw | apply bl_alloc | apply bl_drewN | apply bl_drew))).mono S0.out.cur.le))).mono ?_
  rintro e w1 ⟨x1, hmx1, rfl, r1, g1⟩
  have S1 := Lib.hid (S0.out.step (show Below (((w.alloc (.cells #[] 99)).alloc (.cells #[] 84))).heap.size (((w.alloc (.cells #[] 99)).alloc (.cells #[] 84))) _ from (by repeat (first | assumption | exact Below.refl _ _ | apply bl_gw | apply bl_alloc | apply bl_drewN | apply bl_drew))) r1 g1)
  clear r1 g1
  clear S0 HB0
  have e1 : IntKind.i64.wrap (2 + (x1 : Int)) = 2 + (x1 : Int) := IntWalk.i64_in _ (by omega)
  go_wp2
  go_loopw [4, 6] (fun gv nv wr => ∃ (gw : Value) (g : List Gauge) (n k' : Nat), g.length + n = 2 + x1 ∧ k' + 10 * n ≤ k + 100 ∧ gw = gv ∧ nv = .int .i64 n ∧ FieldS w wr B p k' gw (.slice (some ⟨w.heap.size + 1, 0, none⟩) 0 0) g []) (fun _ nv _ => (intOf nv).toNat)
  case atStart => exact ⟨_, [], 2 + x1, _, by simp, by omega, rfl, by go_num, S1.out⟩
  case round =>
    clear S1
    obtain ⟨gw, g, n, k', hgn, hkn, rfl, rfl, hs⟩ := hrel
    have S2 := Lib.hid hs
    clear hs
    by_cases hn : 0 < n
    · have n1 : (0 : Int) < n := by omega
      obtain ⟨n', rfl⟩ : ∃ n', n = n' + 1 := ⟨n - 1, by omega⟩
      have n2 : IntKind.i64.wrap (((n' + 1 : Nat) : Int) - 1) = n' := by rw [IntWalk.i64_in _ (by omega)]; omega
      go_wp2_with fail
      refine (among_any [0, 0, 1, 2] 4 rfl _ _ _ _ 3 _ (by omega) (S2.out.cur.below ((show Below (wr).heap.size (wr) _ from (by repeat (first | assumption | exact Below.refl _ _ | apply bl_gw | apply bl_alloc | apply bl_drewN | apply bl_drew))).mono S2.out.cur.le)) (by have := S2.out.cur.le; simp; omega) (by first | exact Blk.new _ _ _ | exact Blk.new_ _ _ _ _ (by simp) | exact (Blk.new _ _ _).drewN _ | exact (Blk.new _ _ _).gw _) (by omega) (by omega)).mono ?_
      rintro e w3 ⟨x3, hmx3, rfl, r1, g1⟩
      have S3 := Lib.hid (S2.out.step (show Below (wr).heap.size (wr) _ from (by repeat (first | assumption | exact Below.refl _ _ | apply bl_gw | apply bl_alloc | apply bl_drewN | apply bl_drew))) r1 g1)
      clear r1 g1
      go_wp2_with fail
      refine (among_any [0, 1, 2, 3, 4] 5 rfl _ _ _ _ 3 _ (by omega) (S3.out.cur.below ((show Below (w3).heap.size (w3) _ from (by repeat (first | assumption | exact Below.refl _ _ | apply bl_gw | apply bl_alloc | apply bl_drewN | apply bl_drew))).mono S3.out.cur.le)) (by have := S3.out.cur.le; simp; omega) (by first | exact Blk.new _ _ _ | exact Blk.new_ _ _ _ _ (by simp) | exact (Blk.new _ _ _).drewN _ | exact (Blk.new _ _ _).gw _) (by omega) (by omega)).mono ?_
      rintro e w4 ⟨x4, hmx4, rfl, r1, g1⟩
      have S4 := Lib.hid (S3.out.step (show Below (w3).heap.size (w3) _ from (by repeat (first | assumption | exact Below.refl _ _ | apply bl_gw | apply bl_alloc | apply bl_drewN | apply bl_drew))) r1 g1)
      clear r1 g1
      have hb3 : 0 ≤ x3 ∧ x3 ≤ 2 := by simp at hmx3; omega
      have hb4 : 0 ≤ x4 ∧ x4 ≤ 4 := by simp at hmx4; omega
      have e4 : IntKind.i64.wrap (x3 + x4) = x3 + x4 := IntWalk.i64_in _ (by omega)
      clear hmx3 hmx4 S2 S3
      go_wp2_with (at_builtin; refine halt ?_)
      unfold Halt
      refine wpList_app3 (E := encGauge) rfl (.tmp 22) (.tmp 30) 24 rfl w.heap.size 99 i0 _ 16 Try.underlying24 hinf hz0 hz1 hz2 rfl (by decide) _ _ rfl S4.out.og (⟨x3, x3 + x4⟩ : Gauge) _ rfl (by first | rfl | (rw [alloc_size]; rfl)) (by unfold maxLen; omega) (by omega) S4.out.sz ?_
      intro v5 w5 ho5 hb5 hap5
      have hq5 := hap5 S4.out.od S4.out.apart
      have S5 := Lib.hid (show FieldS w w5 B p _ v5 _ _ _ from ⟨ho5, hq5.1, hq5.2, S4.out.cur.below (hb5 B S4.out.le), gb_below S4.out.grown (hb5 _ (Nat.le_refl _)), S4.out.gb.snoc (by dsimp only; omega), S4.out.le⟩)
      clear ho5 hb5 hap5 hq5
      go_wp2
      go_roundw
      case rel => exact ⟨_, _, n', _, by simp; omega, by omega, rfl, rfl, S5.out⟩
      case measure => simp [intOf]
    · have n1 : ¬ (0 : Int) < n := by omega
      obtain ⟨Ag, cg, rfl, _, _, _⟩ := S2.out.og.slice
      obtain ⟨N, hN⟩ : ∃ N, g.length = N := ⟨_, rfl⟩
      have HNL := Lib.hid hN
      rw [hN] at hgn S2 ⊢
      clear hN
      have hN4 : N ≤ 4 := by omega
      have hN2 : 2 ≤ N := by omega
      go_wp2
      obtain ⟨wo, hwo⟩ : ∃ wo : World, wo = wr := ⟨_, rfl⟩
      subst hwo
      go_loopw [5, 8] (fun dv av wr => ∃ (dw : Value) (D : List Ditch) (a k' : Nat), D.length ≤ 8 ∧ a ≤ N ∧ k' + 100 * (N - a) ≤ k + 600 ∧ av = .int .i64 a ∧ dw = dv ∧ FieldS w wr B p k' (.slice Ag N cg) dw g D) (fun _ av _ => N - (intOf av).toNat)
      case atStart => exact ⟨_, [], 0, k', by simp, by omega, by omega, rfl, rfl, S2.out⟩
      case round =>
        clear S2
        obtain ⟨dw, D, a, k0, hD, ha, hk0, rfl, rfl, hs⟩ := hrel
        have S2 := Lib.hid hs
        clear hs
        by_cases haN : a < N
        · have a1 : (a : Int) < N := by omega
          have a2 : IntKind.i64.wrap ((a : Int) + 1) = (a : Int) + 1 := IntWalk.i64_in _ (by omega)
          go_wp2
          obtain ⟨wo, hwo⟩ : ∃ wo : World, wo = wr := ⟨_, rfl⟩
          subst hwo
          go_loopw [5, 9] (fun dv bv wr => FRel w B p (k0 + 10 * N) N (.slice Ag N cg) g dv bv wr) (fun _ bv _ => N - (intOf bv).toNat)
          case atStart => exact ⟨_, D, 0, k0, hD, by omega, by omega, rfl, rfl, S2.out⟩
          case round =>
            clear S2 hD
            obtain ⟨dw, D, b, k1, hD, hb, hk1, rfl, rfl, hs⟩ := hrel
            have S2 := Lib.hid hs
            clear hs
            obtain ⟨Ad, cd, rfl, _, _, _⟩ := S2.out.od.slice
            by_cases hbN : b < N
            · have b1 : (b : Int) < N := by omega
              by_cases hab : a = b
              · subst hab
                go_wp2
                go_roundw
                case rel => exact ⟨.slice Ad D.length cd, D, a + 1, k1, hD, by omega, by omega, by go_num, rfl, S2.out⟩
                case measure => simp [intOf]; omega
              have q0 : ¬ (a : Int) = b := by omega
              have q0' : ((a : Int) == b) = false := beq_eq_false_iff_ne.2 q0
              by_cases hd8 : D.length < 8
              rotate_left
              · have d1 : ¬ (D.length : Int) < 8 := by omega
                have d2 : decide ((D.length : Int) < 8) = false := decide_eq_false d1
                go_wp2
                go_roundw
                case rel => exact ⟨.slice Ad D.length cd, D, b + 1, k1, hD, by omega, by omega, by go_num, rfl, S2.out⟩
                case measure => simp [intOf]; omega
              have d1 : (D.length : Int) < 8 := by omega
              have d2 : decide ((D.length : Int) < 8) = true := decide_eq_true d1
              by_cases hba : b = a + 1
              · have q1 : (b : Int) = (a : Int) + 1 := by omega
                rw [q1]
                go_wp2_with fail
                refine (one_any _ _ _ 6 _ (by omega) (by omega) (S2.out.cur.below ((show Below (wr).heap.size (wr) _ from (by repeat (first | assumption | exact Below.refl _ _ | apply bl_gw | apply bl_alloc | apply bl_drewN | apply bl_drew))).mono S2.out.cur.le))).mono ?_
                rintro e w3 ⟨r3, rfl, r1, g1⟩
                have S3 := Lib.hid (S2.out.step (show Below (wr).heap.size (wr) _ from (by repeat (first | assumption | exact Below.refl _ _ | apply bl_gw | apply bl_alloc | apply bl_drewN | apply bl_drew))) r1 g1)
                clear r1 g1
                cases r3
                · go_wp2_with (at_builtin; refine halt ?_)
                  unfold Halt
                  refine wpList_app3 (E := encDitch) rfl (.tmp 67) (.tmp 71) 25 rfl w.heap.size 84 j0 _ 16 Try.underlying25 hinf2 hy0 hy1 hy2 rfl (by decide) _ _ rfl S3.out.od (⟨a, (a : Int) + 1⟩ : Ditch) _ rfl (by first | rfl | (rw [alloc_size]; rfl)) (by unfold maxLen; omega) (by omega) S3.out.sz ?_
                  intro v5 w5 ho5 hb5 hap5
                  have hq5 := hap5 S3.out.og (fun k hk e => S3.out.apart k e hk)
                  have S5 := Lib.hid (show FieldS w w5 B p _ _ v5 _ _ from ⟨hq5.1, ho5, fun k hk e => hq5.2 k e hk, S3.out.cur.below (hb5 B S3.out.le), gb_below S3.out.grown (hb5 _ (Nat.le_refl _)), S3.out.gb, S3.out.le⟩)
                  clear ho5 hb5 hap5 hq5
                  go_wp2
                  go_roundw
                  case rel => exact ⟨v5, D ++ [_], b + 1, _, by simp; omega, by omega, by omega, by first | (go_num; done) | (congr 1; omega), rfl, S5.out⟩
                  case measure => simp [intOf]; omega
                · go_wp2_with fail
                  refine (one_any _ _ _ 4 _ (by omega) (by omega) (S3.out.cur.below ((show Below (w3).heap.size (w3) _ from (by repeat (first | assumption | exact Below.refl _ _ | apply bl_gw | apply bl_alloc | apply bl_drewN | apply bl_drew))).mono S3.out.cur.le))).mono ?_
                  rintro e w4 ⟨r4, rfl, r1, g1⟩
                  have S4 := Lib.hid (S3.out.step (show Below (w3).heap.size (w3) _ from (by repeat (first | assumption | exact Below.refl _ _ | apply bl_gw | apply bl_alloc | apply bl_drewN | apply bl_drew))) r1 g1)
                  clear r1 g1
                  cases r4
                  · go_wp2
                    go_roundw
                    case rel => exact ⟨.slice Ad D.length cd, D, b + 1, _, hD, by omega, by omega, by first | (go_num; done) | (congr 1; omega), rfl, S4.out⟩
                    case measure => simp [intOf]; omega
                  · go_wp2_with (at_builtin; refine halt ?_)
                    unfold Halt
                    refine wpList_app3 (E := encDitch) rfl (.tmp 67) (.tmp 71) 25 rfl w.heap.size 84 j0 _ 16 Try.underlying25 hinf2 hy0 hy1 hy2 rfl (by decide) _ _ rfl S4.out.od (⟨a, (a : Int) + 1⟩ : Ditch) _ rfl (by first | rfl | (rw [alloc_size]; rfl)) (by unfold maxLen; omega) (by omega) S4.out.sz ?_
                    intro v5 w5 ho5 hb5 hap5
                    have hq5 := hap5 S4.out.og (fun k hk e => S4.out.apart k e hk)
                    have S5 := Lib.hid (show FieldS w w5 B p _ _ v5 _ _ from ⟨hq5.1, ho5, fun k hk e => hq5.2 k e hk, S4.out.cur.below (hb5 B S4.out.le), gb_below S4.out.grown (hb5 _ (Nat.le_refl _)), S4.out.gb, S4.out.le⟩)
                    clear ho5 hb5 hap5 hq5
                    go_wp2
                    go_roundw
                    case rel => exact ⟨v5, D ++ [_], b + 1, _, by simp; omega, by omega, by omega, by first | (go_num; done) | (congr 1; omega), rfl, S5.out⟩
                    case measure => simp [intOf]; omega
              · have q1 : ¬ (b : Int) = (a : Int) + 1 := by omega
                have q1' : ((b : Int) == (a : Int) + 1) = false := beq_eq_false_iff_ne.2 q1
                go_wp2_with fail
                refine (one_any _ _ _ 4 _ (by omega) (by omega) (S2.out.cur.below ((show Below (wr).heap.size (wr) _ from (by repeat (first | assumption | exact Below.refl _ _ | apply bl_gw | apply bl_alloc | apply bl_drewN | apply bl_drew))).mono S2.out.cur.le))).mono ?_
                rintro e w4 ⟨r4, rfl, r1, g1⟩
                have S4 := Lib.hid (S2.out.step (show Below (wr).heap.size (wr) _ from (by repeat (first | assumption | exact Below.refl _ _ | apply bl_gw | apply bl_alloc | apply bl_drewN | apply bl_drew))) r1 g1)
                clear r1 g1
                cases r4
                · go_wp2
                  go_roundw
                  case rel => exact ⟨.slice Ad D.length cd, D, b + 1, _, hD, by omega, by omega, by first | (go_num; done) | (congr 1; omega), rfl, S4.out⟩
                  case measure => simp [intOf]; omega
                · go_wp2_with (at_builtin; refine halt ?_)
                  unfold Halt
                  refine wpList_app3 (E := encDitch) rfl (.tmp 67) (.tmp 71) 25 rfl w.heap.size 84 j0 _ 16 Try.underlying25 hinf2 hy0 hy1 hy2 rfl (by decide) _ _ rfl S4.out.od (⟨a, b⟩ : Ditch) _ rfl (by first | rfl | (rw [alloc_size]; rfl)) (by unfold maxLen; omega) (by omega) S4.out.sz ?_
                  intro v5 w5 ho5 hb5 hap5
                  have hq5 := hap5 S4.out.og (fun k hk e => S4.out.apart k e hk)
                  have S5 := Lib.hid (show FieldS w w5 B p _ _ v5 _ _ from ⟨hq5.1, ho5, fun k hk e => hq5.2 k e hk, S4.out.cur.below (hb5 B S4.out.le), gb_below S4.out.grown (hb5 _ (Nat.le_refl _)), S4.out.gb, S4.out.le⟩)
                  clear ho5 hb5 hap5 hq5
                  go_wp2
                  go_roundw
                  case rel => exact ⟨v5, D ++ [_], b + 1, _, by simp; omega, by omega, by omega, by first | (go_num; done) | (congr 1; omega), rfl, S5.out⟩
                  case measure => simp [intOf]; omega
            · go_wp2
              go_roundw
              case rel => exact ⟨_, D, a + 1, k1, hD, by omega, by omega, by go_num, rfl, S2.out⟩
              case measure => simp [intOf]; omega
        · obtain rfl : a = N := by omega
          obtain ⟨Ad, cd, rfl, _, _, _⟩ := S2.out.od.slice
          go_wp2_with fail
          refine (pick_any _ _ _ 32 _ (by omega) (by omega) (S2.out.cur.below ((show Below (wr).heap.size (wr) _ from (by repeat (first | assumption | exact Below.refl _ _ | apply bl_gw | apply bl_alloc | apply bl_drewN | apply bl_drew))).mono S2.out.cur.le))).mono ?_
          rintro e w3 ⟨x3, hmx3, rfl, r1, g1⟩
          have S3 := Lib.hid (S2.out.step (show Below (wr).heap.size (wr) _ from (by repeat (first | assumption | exact Below.refl _ _ | apply bl_gw | apply bl_alloc | apply bl_drewN | apply bl_drew))) r1 g1)
          clear r1 g1
          rcases (show x3 = 0 ∨ x3 = 1 ∨ x3 = 2 ∨ x3 = 3 ∨ 3 < x3 by omega) with h | h | h | h | h
          · have f0 : (x3 : Int) = 0 := by omega
            rw [f0]
            go_wp2_with fail
            refine (among_any [-1, 0, 3] 3 rfl _ _ _ _ 3 _ (by omega) (S3.out.cur.below ((show Below (w3).heap.size (w3) _ from (by repeat (first | assumption | exact Below.refl _ _ | apply bl_gw | apply bl_alloc | apply bl_drewN | apply bl_drew))).mono S3.out.cur.le)) (by have := S3.out.cur.le; simp; omega) (by first | exact Blk.new _ _ _ | exact Blk.new_ _ _ _ _ (by simp) | exact (Blk.new _ _ _).drewN _ | exact (Blk.new _ _ _).gw _) (by omega) (by omega)).mono ?_
            rintro e w4 ⟨x4, hmx4, rfl, r1, g1⟩
            have S4 := Lib.hid (S3.out.step (show Below (w3).heap.size (w3) _ from (by repeat (first | assumption | exact Below.refl _ _ | apply bl_gw | apply bl_alloc | apply bl_drewN | apply bl_drew))) r1 g1)
            clear r1 g1
            go_wp2_with fail
            refine (among_any [2, 7] 2 rfl _ _ _ _ 3 _ (by omega) (S4.out.cur.below ((show Below (w4).heap.size (w4) _ from (by repeat (first | assumption | exact Below.refl _ _ | apply bl_gw | apply bl_alloc | apply bl_drewN | apply bl_drew))).mono S4.out.cur.le)) (by have := S4.out.cur.le; simp; omega) (by first | exact Blk.new _ _ _ | exact Blk.new_ _ _ _ _ (by simp) | exact (Blk.new _ _ _).drewN _ | exact (Blk.new _ _ _).gw _) (by omega) (by omega)).mono ?_
            rintro e w5 ⟨x5, hmx5, rfl, r1, g1⟩
            have S5 := Lib.hid (S4.out.step (show Below (w4).heap.size (w4) _ from (by repeat (first | assumption | exact Below.refl _ _ | apply bl_gw | apply bl_alloc | apply bl_drewN | apply bl_drew))) r1 g1)
            clear r1 g1
            have hb4 : -1 ≤ x4 ∧ x4 ≤ 3 := by simp at hmx4; omega
            have hb5 : 2 ≤ x5 ∧ x5 ≤ 7 := by simp at hmx5; omega
            obtain ⟨gg, rfl⟩ := S5.out.og.some_ (by omega)
            obtain ⟨gs, _, hgb, hgs, _, hgc, _, _⟩ := S5.out.og.open2
            obtain ⟨v0, c0⟩ := hgb.cell_some (i := 0) (by rw [hgs]; simp [encGauge]; omega)
            obtain ⟨v1, c1⟩ := hgb.cell_some (i := 1) (by rw [hgs]; simp [encGauge]; omega)
            have t0 := hgb.frozen 0
            have t1 := hgb.frozen 1
            have hgl := hgb.lt
            have k1 : (0 : Int) < a := by omega
            have S6 := Lib.hid (S5.out.set0 (x := ⟨x4, x5⟩) (by omega) (by dsimp only; omega))
            clear hgb hgs hmx4 hmx5
            go_wp2
            go_ret2
            exact ⟨_, _, _, _, rfl, by simp [HNL.out]; omega, by omega, S6.out.mono (by omega)⟩
          · have f0 : (x3 : Int) = 1 := by omega
            rw [f0]
            go_wp2_with fail
            refine (among_any [0, 9] 2 rfl _ _ _ _ 3 _ (by omega) (S3.out.cur.below ((show Below (w3).heap.size (w3) _ from (by repeat (first | assumption | exact Below.refl _ _ | apply bl_gw | apply bl_alloc | apply bl_drewN | apply bl_drew))).mono S3.out.cur.le)) (by have := S3.out.cur.le; simp; omega) (by first | exact Blk.new _ _ _ | exact Blk.new_ _ _ _ _ (by simp) | exact (Blk.new _ _ _).drewN _ | exact (Blk.new _ _ _).gw _) (by omega) (by omega)).mono ?_
            rintro e w4 ⟨x4, hmx4, rfl, r1, g1⟩
            have S4 := Lib.hid (S3.out.step (show Below (w3).heap.size (w3) _ from (by repeat (first | assumption | exact Below.refl _ _ | apply bl_gw | apply bl_alloc | apply bl_drewN | apply bl_drew))) r1 g1)
            clear r1 g1
            go_wp2_with (at_builtin; refine halt ?_)
            unfold Halt
            refine wpList_app3 (E := encDitch) rfl (.tmp 88) (.tmp 93) 25 rfl w.heap.size 84 j0 _ 16 Try.underlying25 hinf2 hy0 hy1 hy2 rfl (by decide) _ _ rfl S4.out.od (⟨0, x4⟩ : Ditch) _ rfl (by first | rfl | (rw [alloc_size]; rfl)) (by unfold maxLen; omega) (by omega) S4.out.sz ?_
            intro v5 w5 ho5 hb5 hap5
            have hq5 := hap5 S4.out.og (fun k hk e => S4.out.apart k e hk)
            have S5 := Lib.hid (show FieldS w w5 B p _ _ v5 _ _ from ⟨hq5.1, ho5, fun k hk e => hq5.2 k e hk, S4.out.cur.below (hb5 B S4.out.le), gb_below S4.out.grown (hb5 _ (Nat.le_refl _)), S4.out.gb, S4.out.le⟩)
            clear ho5 hb5 hap5 hq5
            go_wp2
            go_ret2
            exact ⟨_, _, _, _, rfl, by rw [HNL.out]; omega, by simp; omega, S5.out.mono (by omega)⟩
          · have f0 : (x3 : Int) = 2 := by omega
            rw [f0]
            go_wp2
            go_ret2
            have hz := S3.out.sz
            refine ⟨_, _, [], D, rfl, by simp, by omega, ⟨Own.nil_ hz _, S3.out.od.past (bl_alloc (Below.refl _ _) _) (Nat.le_refl _), fun k1 h1 h2 => ?_, S3.out.cur.mono (by omega) |>.below (bl_alloc (Below.refl _ _) _ |>.mono S3.out.cur.le), gb_below S3.out.grown (bl_alloc (Below.refl _ _) _ |>.mono hz), GB.nil, hle⟩⟩
            have := S3.out.od.blkLt h1
            simp [Value.ownBlock] at h2
            omega
          · have f0 : (x3 : Int) = 3 := by omega
            rw [f0]
            go_wp2
            go_loopw [4] (fun gv wr => GRel w B p (k + 800) (.slice Ad D.length cd) D gv wr) (fun gv _ => 7 - sliceLen gv)
            case atStart => exact ⟨(_, _), g, k0 + 2, by rw [HNL.out]; omega, by rw [HNL.out]; omega, by rw [HNL.out], by rw [HNL.out]; exact S3.out⟩
            case round =>
              clear S2 S3
              obtain ⟨⟨Ag', cg'⟩, g', k4, hg6, hk4, rfl, hs⟩ := hrel
              have S7 := Lib.hid hs
              clear hs
              obtain ⟨N', hN'⟩ : ∃ N', g'.length = N' := ⟨_, rfl⟩
              have HN' := Lib.hid hN'
              dsimp only at S7 ⊢
              rw [hN'] at hg6 hk4 S7 ⊢
              clear hN'
              go_wp2_with fail
              refine (pick_any _ _ _ 2 _ (by omega) (by omega) (S7.out.cur.below ((show Below (wr).heap.size (wr) _ from (by repeat (first | assumption | exact Below.refl _ _ | apply bl_gw | apply bl_alloc | apply bl_drewN | apply bl_drew))).mono S7.out.cur.le))).mono ?_
              rintro e w8 ⟨x8, hmx8, rfl, r1, g1⟩
              have S8 := Lib.hid (S7.out.step (show Below (wr).heap.size (wr) _ from (by repeat (first | assumption | exact Below.refl _ _ | apply bl_gw | apply bl_alloc | apply bl_drewN | apply bl_drew))) r1 g1)
              clear r1 g1
              have e8 : IntKind.i64.wrap (5 + (x8 : Int)) = 5 + (x8 : Int) := IntWalk.i64_in _ (by omega)
              by_cases hlt : N' < 5 + x8
              · have l1 : (N' : Int) < 5 + (x8 : Int) := by omega
                have hg6' : g'.length ≤ 6 := by rw [HN'.out]; exact hg6
                go_wp2_with (at_builtin; refine halt ?_)
                unfold Halt
                refine wpList_app3 (E := encGauge) rfl (.tmp 106) (.tmp 108) 24 rfl w.heap.size 99 i0 _ 16 Try.underlying24 hinf hz0 hz1 hz2 rfl (by decide) _ _ rfl S8.out.og (⟨0, 1⟩ : Gauge) _ rfl (by first | rfl | (rw [alloc_size]; rfl)) (by unfold maxLen; omega) (by omega) S8.out.sz ?_
                intro v5 w5 ho5 hb5 hap5
                have hq5 := hap5 S8.out.od S8.out.apart
                have S9 := Lib.hid (show FieldS w w5 B p _ v5 _ _ _ from ⟨ho5, hq5.1, hq5.2, S8.out.cur.below (hb5 B S8.out.le), gb_below S8.out.grown (hb5 _ (Nat.le_refl _)), S8.out.gb.snoc (by dsimp only; omega), S8.out.le⟩)
                clear ho5 hb5 hap5 hq5
                obtain ⟨A9, c9, rfl, _, _, _⟩ := S9.out.og.slice
                go_wp2
                go_roundw
                case rel => exact ⟨(A9, c9), g' ++ [⟨0, 1⟩], _, by simp [HN'.out]; omega, by simp [HN'.out]; omega, by simp, S9.out⟩
                case measure => simp [sliceLen, HN'.out]; omega
              · have l1 : ¬ (N' : Int) < 5 + (x8 : Int) := by omega
                go_wp2
                go_ret2
                exact ⟨_, _, _, _, rfl, by rw [HN'.out]; omega, by omega, S8.out.mono (by omega)⟩
          · have f0 : ((x3 : Int) == 0) = false := beq_eq_false_iff_ne.2 (by omega)
            have f1 : ((x3 : Int) == 1) = false := beq_eq_false_iff_ne.2 (by omega)
            have f2 : ((x3 : Int) == 2) = false := beq_eq_false_iff_ne.2 (by omega)
            have f3 : ((x3 : Int) == 3) = false := beq_eq_false_iff_ne.2 (by omega)
            have f4 : ¬ (x3 : Int) = 0 := by omega
            have f5 : ¬ (x3 : Int) = 1 := by omega
            have f6 : ¬ (x3 : Int) = 2 := by omega
            have f7 : ¬ (x3 : Int) = 3 := by omega
            go_wp2
            go_ret2
            exact ⟨_, _, _, _, rfl, by rw [HNL.out]; omega, by omega, S3.out.mono (by omega)⟩
end Go.Proofs.Ytbedepmcecdhfaa
