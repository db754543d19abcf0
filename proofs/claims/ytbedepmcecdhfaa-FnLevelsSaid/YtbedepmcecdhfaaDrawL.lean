/- The draw of levels. -/
import Derived.Test.YtbedepmcecdhfaaDrawF
import Derived.Test.YtbedepmcecdhfaaPlanB
import Derived.Deep.RegionHeld3
import Derived.Deep.RegionLaw
namespace Go.Proofs.Ytbedepmcecdhfaa
open Go.RowKit
set_option maxHeartbeats 400000 in
theorem l1MostD_any (a b : Int) (w : World) :
    Calls Try.prog 90 #[.int .i64 a, .int .i64 b] w fun e w' => e = .returned (.int .i64 (max a b)) ∧ w = w' := by
  go_enter Try.func90, Try.ntmps90
  go_wp2
  all_goals go_ret
  all_goals exact ⟨ret_int (by first | omega | (simp; omega)), rfl⟩
theorem sl_draw {α : Type} {E : Enc α} {w wr : World} {B p : Nat} {A : Option Addr} {l : List α} (h : Sl E w B A l) (hne : ∀ a, A = some a → a.block ≠ p) (hB : B ≤ w.heap.size) (hg : w.grownBy wr (some p)) : Sl E wr B A l := fun hn => by
  obtain ⟨b, off, e, hb, hc⟩ := h hn
  have hbp : b ≠ p := hne _ e
  exact ⟨b, off, e, hb, fun i x hx j z hz => (World.cell?_of_block (a := ⟨b, _, none⟩) (hg.block b (by omega) (fun h => by injection h with h; exact hbp h))).trans (hc i x hx j z hz)⟩
theorem grown_below {w W w' : World} {p : Nat} (h : w.grownBy W (some p)) (hb : Below w.heap.size W w') : w.grownBy w' (some p) := gb_below h hb
set_option maxRecDepth 4000 in
set_option maxHeartbeats 16000000 in
theorem levels16_any (g : List Gauge) (n : Nat) (hn : g.length = n) (A : Option Addr) (cap B p k : Nat) (w : World) (hk : k ≤ 10000) (hn6 : n ≤ 6) (hgb : GB g) (hA : ∀ a, A = some a → a.block ≠ p) (hc : Sl encGauge w w.heap.size A g) (h : Cur w B p k) :
    Calls Try.prog 55 #[.pointer (some ⟨p, 0, none⟩), .slice A n cap] w fun e w' => ∃ v l, e = .returned v ∧ List.length l ≤ 7 ∧ Own encInt w' w.heap.size 3 v l ∧ Cur w' B p (k + 100) ∧ w.grownBy w' (some p) := by
  have HC := Lib.hid h
  have HS := Lib.hid hc
  have HN := Lib.hid hn
  have HA := Lib.hid hA
  have HGB := Lib.hid hgb
  have hpB := h.lt
  have hle := h.le
  have hpw : p < w.heap.size := by omega
  clear h hc hn hA hgb
  obtain ⟨i0, hinf, hz0, hz1, hz2⟩ := info_parts info_Int
  have HB0 := Lib.hid (show Below w.heap.size w (w.alloc (.cells #[] 3)) from (by repeat (first | assumption | exact Below.refl _ _ | apply bl_gw | apply bl_alloc | apply bl_drewN | apply bl_drew)))
  have O0 := Lib.hid (own_nil1 (Nat.le_refl w.heap.size))
  have C0 := Lib.hid (HC.out.below (HB0.out.mono hle))
  have G0 := Lib.hid (gb_below (World.grownBy.refl w (some p)) HB0.out)
  go_enter Try.func55, Try.ntmps55
  go_wp2
  go_loopw [5, 6] (fun u iv wr => ∃ (vw : Value) (l : List Int) (i : Nat), i ≤ n ∧ l.length = i ∧ iv = .int .i64 i ∧ vw = u ∧ Own encInt wr w.heap.size 3 vw l ∧ Cur wr B p (k + 2 * i) ∧ w.grownBy wr (some p)) (fun _ iv _ => n - (intOf iv).toNat)
  case atStart => exact ⟨_, [], 0, Nat.zero_le _, rfl, rfl, rfl, O0.out, C0.out.mono (by omega), G0.out⟩
  case round =>
    clear O0 C0 G0 HB0
    obtain ⟨vw, l, i, hi, hli, rfl, rfl, ho, hc, hg⟩ := hrel
    have HLI := Lib.hid hli
    have hl6 : l.length ≤ 6 := by omega
    have O1 := Lib.hid ho
    have C1 := Lib.hid hc
    have G1 := Lib.hid hg
    have hsz := hg.size
    clear hli ho hc hg
    by_cases hlt : i < n
    · obtain ⟨b, off, rfl, hb, hcs⟩ := (sl_draw HS.out HA.out (Nat.le_refl _) G1.out).gauge (by rw [HN.out]; omega)
      have hx : g[i]? = some (g[i]'(by rw [HN.out]; exact hlt)) := List.getElem?_eq_getElem _
      obtain ⟨x, hxx⟩ : ∃ x, g[i]'(by rw [HN.out]; exact hlt) = x := ⟨_, rfl⟩
      rw [hxx] at hx
      obtain ⟨c0, c1⟩ := hcs i x hx
      have hbd := HGB.out i x hx
      obtain ⟨xl, xm⟩ := x
      dsimp only at c0 c1 hbd
      have hbp : b ≠ p := HA.out _ rfl
      have hbw : b < wr.heap.size := by omega
      have HK := Lib.hid (fun (W : World) (hW : w.grownBy W (some p)) => (show W.cell? ⟨b, off + i * 2, none⟩ = some (.int .i64 xl) ∧ W.cell? ⟨b, off + i * 2 + 1, none⟩ = some (.int .i64 xm) from by
        obtain ⟨b', off', e', _, hcs'⟩ := (sl_draw HS.out HA.out (Nat.le_refl _) hW).gauge (by rw [HN.out]; omega)
        injection e' with e'
        injection e' with e1 e2
        subst e1 e2
        exact hcs' i _ hx))
      clear hcs hx hxx
      have k1 : (i : Int) < n := by omega
      have k2 : (0 : Int) ≤ i := by omega
      have e1 : IntKind.i64.wrap (xm - xl) = xm - xl := IntWalk.i64_in _ (by omega)
      have e2 : IntKind.i64.wrap (max 0 (xm - xl) + 1) = max 0 (xm - xl) + 1 := IntWalk.i64_in _ (by omega)
      have hm30 : 0 ≤ max 0 (xm - xl) ∧ max 0 (xm - xl) ≤ 30 := by omega
      have CD := Lib.hid (C1.out.below ((show Below wr.heap.size wr wr.drew from bl_drew (Below.refl _ _)).mono C1.out.le))
      have GD := Lib.hid (gb_below G1.out (show Below w.heap.size wr wr.drew from (bl_drew (Below.refl wr.heap.size wr)).mono hsz))
      have OD := Lib.hid (O1.out.past (bl_drew (Below.refl wr.heap.size wr)) (Nat.le_refl _))
      clear C1 G1 O1
      go_wp2
      go_region_held3 (fun w' => w'.cell? ⟨b, off + i * 2, none⟩ = some (.int .i64 xl) ∧ w'.cell? ⟨b, off + i * 2 + 1, none⟩ = some (.int .i64 xm)) (go_keep)
        (first
          | (go_at_call 90; refine (l1MostD_any _ _ _).mono ?_; rintro e u1 ⟨rfl, rfl⟩)
          | (go_at_call 78; refine (pick_any B p _ _ _ (by omega) (by omega) CD.out).mono ?_; rintro e u2 ⟨r, hr, rfl, r1, g1⟩; have C2 := Lib.hid r1; have G2 := Lib.hid (GD.out.trans g1); have O2 := Lib.hid (OD.out.drawn g1 hpw); obtain ⟨M0, M1⟩ := HK.out u2 G2.out; have hbu : b < u2.heap.size := (Nat.lt_of_lt_of_le hb G2.out.size); have e3 : IntKind.i64.wrap (xl + (r : Int)) = xl + (r : Int) := (IntWalk.i64_in _ (by omega)); clear r1 g1)
          | (refine step_app (E := encInt) rfl (.tmp 14) (.tmp 36) 26 rfl w.heap.size 3 i0 _ 8 Try.underlying26 hinf hz0 hz1 hz2 rfl (by decide) vw l rfl (O2.out.past (bl_alloc (Below.refl u2.heap.size u2) _) (Nat.le_refl _)) _ _ 1 1 [xl + (r : Int)] rfl rfl (Own.sl (Own.build (n := 1) (base := 0) (Nat.zero_le _) (Blk.new u2 3 #[.int .i64 (xl + (r : Int))]) rfl rfl (by decide))).2 (by unfold maxLen; omega) (by omega) (by have := G2.out.size; simp; omega) ?_; intro v5 w5 o5 g5 d5; have O5 := Lib.hid o5; have B5 := Lib.hid (below_grownB ((Below.refl w.heap.size u2).alloc G2.out.size _) g5 (by have := G2.out.size; simp; omega) O2.out.row); have G5 := Lib.hid (gb_below G2.out B5.out); have C5 := Lib.hid (C2.out.below (B5.out.mono hle)); obtain ⟨N0, N1⟩ := HK.out w5 G5.out; clear o5 g5 d5))
      go_wp2
      go_roundw
      case rel => exact ⟨_, _, i + 1, by omega, by simp [HLI.out], by go_num, rfl, O5.out, C5.out.mono (by omega), G5.out⟩
      case measure => simp [intOf]; omega
    · obtain rfl : i = n := by omega
      have C1' := Lib.hid (C1.out.mono (show k + 2 * i ≤ k + 12 by omega))
      clear C1
      go_wp2_with fail
      refine (pick_any B p _ _ _ (by omega) (by omega) C1'.out).mono ?_
      rintro e w2 ⟨x2, _, rfl, r2, g2⟩
      have C2 := Lib.hid r2
      have G2 := Lib.hid (G1.out.trans g2)
      have O2 := Lib.hid (O1.out.drawn g2 hpw)
      clear r2 g2 C1' G1 O1
      rcases (show x2 = 0 ∨ x2 = 1 ∨ 1 < x2 by omega) with h | h | h
      · have f0 : (x2 : Int) = 0 := by omega
        rw [f0]
        go_wp2_with (at_builtin; refine halt ?_)
        unfold Halt
        refine wpList_app2 (E := encInt) rfl (.tmp 42) (.tmp 43) 26 rfl w.heap.size 3 i0 _ 8 Try.underlying26 hinf hz0 hz1 hz2 rfl (by decide) _ _ rfl O2.out (0 : Int) _ rfl (by first | rfl | (rw [alloc_size]; rfl)) (by unfold maxLen; omega) (by omega) G2.out.size ?_
        intro v5 w5 ho5 hb5
        have O5 := Lib.hid ho5
        have C5 := Lib.hid (C2.out.below (hb5 B hle))
        have G5 := Lib.hid (gb_below G2.out (hb5 _ (Nat.le_refl _)))
        clear ho5 hb5
        go_wp2
        go_ret
        exact ⟨_, _, rfl, by simp; omega, O5.out, C5.out.mono (by omega), G5.out⟩
      · have f0 : (x2 : Int) = 1 := by omega
        rw [f0]
        obtain ⟨Av, cv, rfl, _, _, _⟩ := O2.out.slice
        by_cases hl0 : 0 < l.length
        · have l0 : (0 : Int) < l.length := by omega
          go_wp2_with fail
          refine (among_any [-1, 7, 6] 3 rfl _ _ _ _ 3 _ (by omega) (C2.out.below ((show Below w2.heap.size w2 _ from (by repeat (first | assumption | exact Below.refl _ _ | apply bl_gw | apply bl_alloc | apply bl_drewN | apply bl_drew))).mono C2.out.le)) (by have := C2.out.le; simp; omega) (by first | exact Blk.new _ _ _ | exact Blk.new_ _ _ _ _ (by simp) | exact (Blk.new _ _ _).drewN _ | exact (Blk.new _ _ _).gw _) (by omega) (by omega)).mono ?_
          rintro e w3 ⟨x3, _, rfl, r3, g3⟩
          have C3 := Lib.hid r3
          have G3 := Lib.hid ((gb_below G2.out ((show Below w2.heap.size w2 _ from (by repeat (first | assumption | exact Below.refl _ _ | apply bl_gw | apply bl_alloc | apply bl_drewN | apply bl_drew))).mono G2.out.size)).trans g3)
          have O3 := Lib.hid ((O2.out.past (show Below w2.heap.size w2 _ from (by repeat (first | assumption | exact Below.refl _ _ | apply bl_gw | apply bl_alloc | apply bl_drewN | apply bl_drew))) (Nat.le_refl _)).drawn g3 hpw)
          clear r3 g3
          obtain ⟨gg, rfl⟩ := O3.out.some_ hl0
          obtain ⟨y, hy⟩ : ∃ y, l[0]? = some y := ⟨l[0]'hl0, List.getElem?_eq_getElem _⟩
          obtain ⟨hgw, d0⟩ := O3.out.int hy
          have t0 := O3.out.thaw 0
          have hlo : w.heap.size ≤ gg := O3.out.lo ⟨gg, 0, none⟩ rfl
          have O4 := Lib.hid (O3.out.setInt (i := 0) hl0 x3)
          have B4 := Lib.hid ((Below.refl w.heap.size w3).setCell (p := ⟨gg, 0, none⟩) hlo (.int .i64 x3))
          have C4 := Lib.hid (C3.out.below (B4.out.mono hle))
          have G4 := Lib.hid (gb_below G3.out B4.out)
          clear hy
          go_wp2
          go_ret
          exact ⟨_, _, rfl, by simp; omega, O4.out, C4.out.mono (by omega), G4.out⟩
        · have l0 : ¬ (0 : Int) < l.length := by omega
          go_wp2
          go_ret
          exact ⟨_, _, rfl, by omega, O2.out, C2.out.mono (by omega), G2.out⟩
      · have f0 : ((x2 : Int) == 0) = false := beq_eq_false_iff_ne.2 (by omega)
        have f1 : ((x2 : Int) == 1) = false := beq_eq_false_iff_ne.2 (by omega)
        have f4 : ¬ (x2 : Int) = 0 := by omega
        have f5 : ¬ (x2 : Int) = 1 := by omega
        go_wp2
        go_ret
        exact ⟨_, _, rfl, by omega, O2.out, C2.out.mono (by omega), G2.out⟩
end Go.Proofs.Ytbedepmcecdhfaa
