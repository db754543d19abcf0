/- The draw of a goal, and the draws of the laws on plans. -/
import Derived.Test.YtbedepmcecdhfaaDrawL
import Derived.Test.YtbedepmcecdhfaaShortS
namespace Go.Proofs.Ytbedepmcecdhfaa
open Go.RowKit
theorem afterP_len5 (g : List Gauge) (D : List Ditch) (s p : List Int) : (afterP g D s p).1.length ≤ 5 := by
  unfold afterP
  split
  · rename_i h
    obtain ⟨hF, hg, hs⟩ := asked_at h
    cases e : goP g D s p with
    | none => simp
    | some x =>
      have := areLevels_len (way_ok hs (goTo_way _ e))
      have := (areGauges_len hg).2
      simp only
      omega
  · simp
theorem sl_cur {α : Type} {E : Enc α} {w wr : World} {B p : Nat} {A : Option Addr} {l : List α} (h : Sl E w B A l) (hne : ∀ a, A = some a → a.block ≠ p) (hB : B ≤ w.heap.size) (hg : w.grownBy wr (some p)) : Sl E wr wr.heap.size A l :=
  (sl_draw h hne hB hg).more (Nat.le_trans hB hg.size)
set_option maxRecDepth 4000 in
set_option maxHeartbeats 16000000 in
theorem goal16_any (g : List Gauge) (D : List Ditch) (s : List Int) (n m r : Nat) (hn : g.length = n) (hm : D.length = m) (hr : s.length = r) (A A' R : Option Addr) (cap cap' cr B p k : Nat) (w : World) (hk : k ≤ 9000) (hn6 : n ≤ 6) (hm9 : m ≤ 9) (hr7 : r ≤ 7) (hgb : GB g)
    (hA : ∀ a, A = some a → a.block ≠ p) (hA' : ∀ a, A' = some a → a.block ≠ p) (hAR : ∀ a, R = some a → a.block ≠ p) (hc : Sl encGauge w w.heap.size A g) (hd : Sl encDitch w w.heap.size A' D) (hs : Sl encInt w w.heap.size R s) (h : Cur w B p k) :
    Calls Try.prog 56 #[.pointer (some ⟨p, 0, none⟩), .slice A n cap, .slice A' m cap', .slice R r cr] w fun e w' => ∃ v l, e = .returned v ∧ List.length l ≤ 7 ∧ Own encInt w' w.heap.size 3 v l ∧ Cur w' B p (k + 300) ∧ w.grownBy w' (some p) := by
  have HC := Lib.hid h
  have HS := Lib.hid hc
  have HD := Lib.hid hd
  have HR := Lib.hid hs
  have HN := Lib.hid hn
  have HM := Lib.hid hm
  have HRL := Lib.hid hr
  have HA := Lib.hid hA
  have HA' := Lib.hid hA'
  have HGB := Lib.hid hgb
  have HAR := Lib.hid hAR
  have hpB := h.lt
  have hle := h.le
  have hpw : p < w.heap.size := by omega
  clear h hc hd hs hn hm hr hA hA' hgb hAR
  go_enter Try.func56, Try.ntmps56
  go_wp2_with fail
  refine (one_any _ _ _ _ _ (by omega) (by omega) HC.out).mono ?_
  rintro e w1 ⟨q, rfl, r1, g1⟩
  have C1 := Lib.hid r1
  have G1 := Lib.hid g1
  clear r1 g1
  cases q
  rotate_left
  · go_wp2_with fail
    refine (levels16_any g n HN.out A cap B p _ _ (by omega) hn6 HGB.out HA.out (sl_cur HS.out HA.out (Nat.le_refl _) G1.out) C1.out).mono ?_
    rintro e w2 ⟨v, l, rfl, hl7, o2, r2, g2⟩
    have O2 := Lib.hid (o2.lower G1.out.size)
    have C2 := Lib.hid r2
    have G2 := Lib.hid (G1.out.trans g2)
    clear o2 r2 g2
    go_wp2
    go_ret
    exact ⟨_, _, rfl, by omega, O2.out, C2.out.mono (by omega), G2.out⟩
  · go_wp2_with fail
    refine (l1Own_any s r HRL.out _ _ _ (by omega) (sl_cur HR.out HAR.out (Nat.le_refl _) G1.out)).mono ?_
    rintro e w2 ⟨v2, rfl, o2, b2⟩
    have O2 := Lib.hid (o2.lower G1.out.size)
    have C2 := Lib.hid (C1.out.below (b2.mono C1.out.le))
    have G2 := Lib.hid (gb_below G1.out (b2.mono G1.out.size))
    clear o2 b2 C1 G1
    go_wp2_with fail
    refine (pick_any _ _ _ _ _ (by omega) (by omega) C2.out).mono ?_
    rintro e w3 ⟨x3, hx3, rfl, r3, g3⟩
    have C3 := Lib.hid r3
    have G3 := Lib.hid (G2.out.trans g3)
    have O3 := Lib.hid (O2.out.drawn g3 hpw)
    clear r3 g3 C2 G2 O2
    go_wp2
    go_loopw [9, 10] (fun u nv wr => ∃ (vw : Value) (l : List Int) (j k' : Nat), l.length ≤ 7 ∧ k' + 10 * j ≤ k + 100 ∧ nv = .int .i64 j ∧ vw = u ∧ Own encInt wr w.heap.size 3 vw l ∧ Cur wr B p k' ∧ w.grownBy wr (some p)) (fun _ nv _ => (intOf nv).toNat)
    case atStart => exact ⟨_, s, x3, _, by rw [HRL.out]; omega, by omega, rfl, rfl, O3.out, C3.out, G3.out⟩
    case round =>
      clear O3 C3 G3
      obtain ⟨vw, l, j, k', hl, hk', rfl, rfl, ho, hc, hg⟩ := hrel
      have O4 := Lib.hid ho
      have C4 := Lib.hid hc
      have G4 := Lib.hid hg
      clear ho hc hg
      by_cases hj : 0 < j
      rotate_left
      · have j1 : ¬ (0 : Int) < j := by omega
        have j2 : decide ((0 : Int) < j) = false := decide_eq_false j1
        go_wp2
        go_ret
        exact ⟨_, rfl, l, hl, O4.out, C4.out.mono (by omega), G4.out⟩
      have j1 : (0 : Int) < j := by omega
      have j2 : decide ((0 : Int) < j) = true := decide_eq_true j1
      by_cases hm0 : 0 < m
      rotate_left
      · have m1 : ¬ (0 : Int) < m := by omega
        go_wp2
        go_ret
        exact ⟨_, rfl, l, hl, O4.out, C4.out.mono (by omega), G4.out⟩
      have m1 : (0 : Int) < m := by omega
      obtain ⟨j', rfl⟩ : ∃ j', j = j' + 1 := ⟨j - 1, by omega⟩
      have m2 : IntKind.i64.wrap (((j' + 1 : Nat) : Int) - 1) = j' := by rw [IntWalk.i64_in _ (by omega)]; omega
      obtain ⟨Av, cv, rfl, _, _, _⟩ := O4.out.slice
      go_wp2_with fail
      refine (pick_any _ _ _ _ _ (by omega) (by omega) C4.out).mono ?_
      rintro e w5 ⟨x5, hx5, rfl, r5, g5⟩
      have C5 := Lib.hid r5
      have G5 := Lib.hid (G4.out.trans g5)
      have O5 := Lib.hid (O4.out.drawn g5 hpw)
      clear r5 g5 C4 G4 O4
      have HB5 := Lib.hid (bl_alloc (Below.refl w5.heap.size w5) (.cells #[.int .i64 x5] 3))
      go_wp2_with fail
      refine (spec_AfterPlan_any g D l [(x5 : Int)] n m l.length 1 HN.out HM.out rfl rfl _ _ _ _ _ _ _ _ _ (by omega) (by omega) (by omega) (by omega)
        ((sl_cur HS.out HA.out (Nat.le_refl _) G5.out).past HB5.out) ((sl_cur HD.out HA'.out (Nat.le_refl _) G5.out).past HB5.out) (O5.out.rd.past HB5.out)
        ((Own.sl (Own.build (E := encInt) (l := [(x5 : Int)]) (n := 1) (base := 0) (Nat.zero_le _) (Blk.new w5 3 #[.int .i64 x5]) rfl rfl (by decide))).2)).mono ?_
      rintro e w6 ⟨v6, rfl, o6, b6⟩
      have hb6 := below_step HB5.out b6
      have C6 := Lib.hid (C5.out.below (hb6.mono C5.out.le))
      have G6 := Lib.hid (gb_below G5.out (hb6.mono G5.out.size))
      have O6 := Lib.hid (O5.out.past hb6 (Nat.le_refl _))
      have P6 := Lib.hid (o6.lower (b := w.heap.size) (by have := G5.out.size; simp; omega))
      have hl5 := afterP_len5 g D l [(x5 : Int)]
      obtain ⟨⟨la, ok⟩, hla⟩ : ∃ la, afterP g D l [(x5 : Int)] = la := ⟨_, rfl⟩
      rw [hla] at hl5 P6 ⊢
      dsimp only at hl5 P6 ⊢
      clear o6 b6 hb6 hla C5 G5 O5 HB5
      cases ok
      · go_wp2
        go_roundw
        case rel => exact ⟨_, l, j', _, hl, by omega, rfl, rfl, O6.out, C6.out, G6.out⟩
        case measure => simp [intOf]
      · go_wp2
        go_roundw
        case rel => exact ⟨_, la, j', _, by omega, by omega, rfl, rfl, P6.out, C6.out, G6.out⟩
        case measure => simp [intOf]
set_option maxRecDepth 4000 in
set_option maxHeartbeats 8000000 in
theorem drawReachedCount_any (A : Option Addr) (n c : Nat) (w : World) (hc : Bytes w A n) :
    Calls Try.prog 91 #[.slice A n c] w fun e w' => ∃ gv dv lv g D l, e = .returned (.tuple #[gv, dv, lv]) ∧ List.length g ≤ 6 ∧ List.length D ≤ 9 ∧ List.length l ≤ 7 ∧ Own encGauge w' w.heap.size 99 gv g ∧ Own encDitch w' w.heap.size 84 dv D ∧ Own encInt w' w.heap.size 3 lv l ∧ Below w.heap.size w w' := by
  have HC := Lib.hid (Cur.new hc c 71)
  have HB := Lib.hid (show Below w.heap.size w (w.alloc (.cells #[.slice A n c, .int .i64 0, .int .u64 0] 71)) from (by repeat (first | assumption | exact Below.refl _ _ | apply bl_gw | apply bl_alloc | apply bl_drewN | apply bl_drew)))
  clear hc
  go_enter Try.func91, Try.ntmps91
  go_wp2_with fail
  refine (field16_any _ _ _ _ (by omega) HC.out).mono ?_
  rintro e w1 ⟨gv, dv, g, D, rfl, hgl, hDl, hs1⟩
  have S1 := Lib.hid hs1
  obtain ⟨Ag, cg, rfl, hcg, _, _⟩ := hs1.og.slice
  obtain ⟨Ad, cd, rfl, hcd, _, _⟩ := hs1.od.slice
  have HAg := Lib.hid (show ∀ a, Ag = some a → a.block ≠ w.heap.size from fun a ha e => by have := S1.out.og.lo a ha; simp at this; omega)
  have HAd := Lib.hid (show ∀ a, Ad = some a → a.block ≠ w.heap.size from fun a ha e => by have := S1.out.od.lo a ha; simp at this; omega)
  have hsz1 : w.heap.size < w1.heap.size := by have := S1.out.sz; simp at this; omega
  obtain ⟨n1, hn1⟩ : ∃ n, g.length = n := ⟨_, rfl⟩
  obtain ⟨m1, hm1⟩ : ∃ m, D.length = m := ⟨_, rfl⟩
  have HGN := Lib.hid hn1
  have HDN := Lib.hid hm1
  rw [hn1] at hgl hcg S1 ⊢
  rw [hm1] at hDl hcd S1 ⊢
  have B1 := Lib.hid (show Below w.heap.size w w1 from HB.out.trans (gb_toBelow S1.out.grown (by simp) (Nat.le_refl _)))
  have HB0 := HB
  clear hs1 hn1 hm1 HC HB
  go_wp2_with fail
  refine (levels16_any g n1 HGN.out Ag cg _ _ _ _ (by omega) hgl S1.out.gb HAg.out (S1.out.og.rd) (S1.out.cur)).mono ?_
  rintro e w2 ⟨v2, l2, rfl, hll2, o2, r2, g2⟩
  obtain ⟨A2, c2, rfl, hcl2, _, _⟩ := o2.slice
  obtain ⟨m2, hm2⟩ : ∃ n, l2.length = n := ⟨_, rfl⟩
  have HLm2 := Lib.hid hm2
  rw [hm2] at o2 hll2 hcl2 ⊢
  have Ol2 := Lib.hid o2
  have C2 := Lib.hid r2
  have OG2 := Lib.hid (S1.out.og.drawn g2 (by simp))
  have OD2 := Lib.hid (S1.out.od.drawn g2 (by simp))
  have B2 := Lib.hid (B1.out.trans (gb_toBelow g2 (by have := B1.out.size; omega) (by omega)))
  have hgrl2 := g2.size
  have HGl2 := Lib.hid g2
  clear o2 r2 g2 hm2
  go_wp2
  go_ret3
  exact ⟨_, _, _, g, D, l2, rfl, by rw [HGN.out]; exact hgl, by rw [HDN.out]; exact hDl, by rw [HLm2.out]; exact hll2, OG2.out.lower (by simp), OD2.out.lower (by simp), Ol2.out.lower (by omega), B2.out⟩
end Go.Proofs.Ytbedepmcecdhfaa
