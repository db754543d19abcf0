/- Walks of plans: copies of levels, a load. -/
import Derived.Test.YtbedepmcecdhfaaFieldC
import Derived.Test.YtbedepmcecdhfaaSet
import Derived.Lib.SliceRun
namespace Go.Proofs.Ytbedepmcecdhfaa
open Go.RowKit
set_option maxHeartbeats 2000000 in
theorem cloneInt_any (l : List Int) (n : Nat) (hn : l.length = n) (A : Option Addr) (cap : Nat) (w : World) (hl : n ≤ 1048576) (hc : Sl encInt w w.heap.size A l) :
    Calls Try.prog 60 #[.slice A n cap] w fun e w' => ∃ v, e = .returned v ∧ Own encInt w' w.heap.size 3 v l ∧ Below w.heap.size w w' := by
  have q : ∀ (w : World) (a : Option Addr) (n c n' c' : Nat), (binOp .eql 26 (.slice a n c) (.slice none n' c')).run Try.prog w = .ok (.bool a.isNone) w := fun w a n c n' c' => Lib.run_eql_slice_nil w _ _ a n c n' c' Try.underlying26
  have HC := Lib.hid hc; clear hc
  obtain ⟨i0, hi, hz0, hz1, hz2⟩ := info_parts info_Int
  rcases A with _ | ad
  · have h0 : l = [] := by
      rcases l with _ | ⟨x, r⟩
      · rfl
      · obtain ⟨_, _, h, _⟩ := HC.out (by simp)
        cases h
    subst h0
    go_enter Try.func60, Try.ntmps60
    go_wp2
    go_ret
    exact ⟨_, rfl, Own.none_, Below.refl _ _⟩
  · have HN := Lib.hid hn; clear hn
    go_enter Try.func60, Try.ntmps60
    go_wp2_with (at_builtin; refine wpList_app (E := encInt) _ rfl (.tmp 5) (.tmp 6) 26 rfl w.heap.size 3 i0 _ 8 Try.underlying26 hi hz0 hz1 hz2 rfl (by decide) (.slice (some ⟨w.heap.size, 0, none⟩) 0 0) [] rfl (Own.nil_ (Nat.le_refl _) _) _ (some ad) n cap l rfl HN.out (HC.out.past (bl_alloc (Below.refl _ _) _)) (by simp [maxLen]; omega) (by simp; omega) (by simp) ?_; intro v' w' ho hg _; have HO := Lib.hid ho; have HG := Lib.hid hg; clear ho hg)
    go_ret
    exact ⟨_, rfl, by simpa using HO.out, below_grown (bl_alloc (Below.refl _ _) _) HG.out (by intro k hk; simp [Value.ownBlock] at hk; omega)⟩
set_option maxHeartbeats 2000000 in
theorem l1Own_any (l : List Int) (n : Nat) (hn : l.length = n) (A : Option Addr) (cap : Nat) (w : World) (hl : n ≤ 1048576) (hc : Sl encInt w w.heap.size A l) :
    Calls Try.prog 79 #[.slice A n cap] w fun e w' => ∃ v, e = .returned v ∧ Own encInt w' w.heap.size 3 v l ∧ Below w.heap.size w w' := by
  have HC := Lib.hid hc; clear hc
  obtain ⟨i0, hi, hz0, hz1, hz2⟩ := info_parts info_Int
  have HN := Lib.hid hn; clear hn
  go_enter Try.func79, Try.ntmps79
  go_wp2_with (at_builtin; refine wpList_app (E := encInt) _ rfl (.tmp 3) (.tmp 4) 26 rfl w.heap.size 3 i0 _ 8 Try.underlying26 hi hz0 hz1 hz2 rfl (by decide) (.slice (some ⟨w.heap.size, 0, none⟩) 0 0) [] rfl (Own.nil_ (Nat.le_refl _) _) _ A n cap l rfl HN.out (HC.out.past (bl_alloc (Below.refl _ _) _)) (by simp [maxLen]; omega) (by simp; omega) (by simp) ?_; intro v' w' ho hg _; have HO := Lib.hid ho; have HG := Lib.hid hg; clear ho hg)
  go_ret
  exact ⟨_, rfl, by simpa using HO.out, below_grown (bl_alloc (Below.refl _ _) _) HG.out (by intro k hk; simp [Value.ownBlock] at hk; omega)⟩
theorem small_at {l : List Int} (h : SmallIn l) {i : Nat} (hi : i < l.length) : ∃ x : Int, l[i]? = some x ∧ l[i]! = x ∧ 0 ≤ x ∧ x ≤ 6 := by
  have hx : l[i]? = some (l[i]'hi) := List.getElem?_eq_getElem _
  exact ⟨_, hx, List.getElem!_of_getElem? hx, h i _ hx⟩
set_option maxRecDepth 4000 in
set_option maxHeartbeats 4000000 in
theorem moved_any (g : List Gauge) (l : List Int) (n m : Nat) (hn : g.length = n) (hm : l.length = m) (A A' : Option Addr) (cap cap' : Nat) (a b : Nat) (w : World) (hl : n ≤ 1048576) (hl' : m ≤ 1048576) (ha : a < m) (hb : b < m) (hab : a ≠ b) (hs : SmallIn l) (hc : Sl encGauge w w.heap.size A g) (hd : Sl encInt w w.heap.size A' l) :
    Calls Try.prog 61 #[.slice A n cap, .slice A' m cap', .int .i64 a, .int .i64 b] w fun e w' => ∃ v, e = .returned (.tuple #[v, .bool (areLevels g (mv l a b))]) ∧ Own encInt w' w.heap.size 3 v (mv l a b) ∧ Below w.heap.size w w' := by
  obtain ⟨x, hx, hx', x0, x1⟩ := small_at hs (show a < l.length by omega)
  obtain ⟨y, hy, hy', y0, y1⟩ := small_at hs (show b < l.length by omega)
  have HMV := Lib.hid (show (l.set a (x - 1)).set b (y + 1) = mv l a b by rw [mv, hx', hy'])
  have HC := Lib.hid hc; clear hc
  have HD := Lib.hid hd; clear hd
  have HN := Lib.hid hn; clear hn
  have HM := Lib.hid hm; clear hm
  have HX := Lib.hid hx
  have HY := Lib.hid hy
  have HAB := Lib.hid hab
  clear hs hx hx' hy hy' hab
  have w1' : IntKind.i64.wrap (x - 1) = x - 1 := IntWalk.i64_in _ (by omega)
  have w2' : IntKind.i64.wrap (y + 1) = y + 1 := IntWalk.i64_in _ (by omega)
  go_enter Try.func61, Try.ntmps61
  go_wp2_with fail
  refine (cloneInt_any l m HM.out _ _ _ hl' HD.out).mono ?_
  rintro e w1 ⟨v1, rfl, o1, b1⟩
  obtain ⟨A1, c1, rfl, _, _, _⟩ := o1.slice
  rw [HM.out] at o1 ⊢
  obtain ⟨gg, rfl⟩ := o1.some_ (by omega)
  have hgg0 := o1.lo ⟨gg, 0, none⟩ rfl
  have O1 := Lib.hid o1
  have B1 := Lib.hid b1
  obtain ⟨hgw, d0⟩ := O1.out.int HX.out
  have f0 := O1.out.thaw a
  have k1 : (a : Int) < m := by omega
  have k2 : (0 : Int) ≤ a := by omega
  have k3 : (b : Int) < m := by omega
  have k4 : (0 : Int) ≤ b := by omega
  clear o1 b1
  go_upto_region 3 with (fail)
  refine wp_name (fun w2 hw2 => ?_)
  have O2 := Lib.hid (show Own encInt w2 w.heap.size 3 (.slice (some ⟨gg, 0, none⟩) m c1) (l.set a (x - 1)) by rw [hw2]; exact O1.out.setInt ha (x - 1))
  have B2 := Lib.hid (show Below w.heap.size w w2 by rw [hw2]; exact B1.out.setCell (p := ⟨gg, a, none⟩) hgg0 _)
  clear hw2 d0 f0 hgw
  obtain ⟨hgw, d0⟩ := O2.out.int (i := b) (x := y) (by rw [List.getElem?_set_ne HAB.out]; exact HY.out)
  have f0 := O2.out.thaw b
  go_upto_region 4 with (fail)
  refine wp_name (fun w3 hw3 => ?_)
  have o3 := (show Own encInt w3 w.heap.size 3 (.slice (some ⟨gg, 0, none⟩) m c1) ((l.set a (x - 1)).set b (y + 1)) by rw [hw3]; exact O2.out.setInt hb (y + 1))
  rw [HMV.out] at o3
  have O3 := Lib.hid o3
  have B3 := Lib.hid (show Below w.heap.size w w3 by rw [hw3]; exact B2.out.setCell (p := ⟨gg, b, none⟩) hgg0 _)
  clear hw3 d0 f0 hgw o3
  go_wp2_with fail
  refine (impl_areLevels_any g (mv l a b) n m HN.out (by rw [mv_length]; exact HM.out) _ _ _ _ _ hl hl' (HC.out.past B3.out) O3.out.rd).mono ?_
  rintro e w4 ⟨rfl, b4⟩
  have O4 := Lib.hid (O3.out.past b4 (Nat.le_refl _))
  have B4 := Lib.hid (below_step B3.out b4)
  clear b4
  go_wp2
  go_ret2
  exact ⟨_, rfl, O4.out, B4.out⟩
set_option maxRecDepth 4000 in
set_option maxHeartbeats 8000000 in
theorem l16Moved_any (l : List Int) (m : Nat) (hm : l.length = m) (A' : Option Addr) (cap' : Nat) (a b : Nat) (w : World) (hl' : m ≤ 1048576) (ha : a < m) (hb : b < m) (hab : a ≠ b) (hs : SmallIn l) (hd : Sl encInt w w.heap.size A' l) :
    Calls Try.prog 66 #[.slice A' m cap', .agg #[.int .i64 a, .int .i64 b]] w fun e w' => ∃ v, e = .returned v ∧ Own encInt w' w.heap.size 3 v (mv l a b) ∧ Below w.heap.size w w' := by
  obtain ⟨x, hx, hx', x0, x1⟩ := small_at hs (show a < l.length by omega)
  obtain ⟨y, hy, hy', y0, y1⟩ := small_at hs (show b < l.length by omega)
  have HMV := Lib.hid (show (l.set a (x - 1)).set b (y + 1) = mv l a b by rw [mv, hx', hy'])
  have HD := Lib.hid hd; clear hd
  have HM := Lib.hid hm; clear hm
  have HX := Lib.hid hx
  have HY := Lib.hid hy
  have HAB := Lib.hid hab
  clear hs hx hx' hy hy' hab
  have w1' : IntKind.i64.wrap (x - 1) = x - 1 := IntWalk.i64_in _ (by omega)
  have w2' : IntKind.i64.wrap (y + 1) = y + 1 := IntWalk.i64_in _ (by omega)
  have hk0 := Blk.new w 84 #[.int .i64 a, .int .i64 b]
  have HK0 := Lib.hid hk0
  clear hk0
  go_enter Try.func66, Try.ntmps66
  go_wp2_with fail
  refine (l1Own_any l m HM.out _ _ _ hl' (HD.out.past (by repeat (first | assumption | exact Below.refl _ _ | apply bl_gw | apply bl_alloc | apply bl_drewN | apply bl_drew)))).mono ?_
  rintro e w1 ⟨v1, rfl, o1, b1⟩
  obtain ⟨A1, c1, rfl, _, _, _⟩ := o1.slice
  rw [HM.out] at o1 ⊢
  obtain ⟨gg, rfl⟩ := o1.some_ (by omega)
  have hgg0 := o1.lo ⟨gg, 0, none⟩ rfl
  simp only [alloc_sz] at hgg0
  have K1 := Lib.hid (HK0.out.past b1)
  have O1 := Lib.hid (o1.lower (b := w.heap.size) (by simp))
  have B1 := Lib.hid (below_step (bl_alloc (Below.refl w.heap.size w) _) b1)
  clear o1 b1 HK0
  obtain ⟨lb, lo, rfl, hlb, hls⟩ := (HD.out.past B1.out).int_ (by rw [HM.out]; omega)
  have e0 := hls a x HX.out
  have e1 := hls b y HY.out
  have hlbw : lb < w.heap.size := by
    obtain ⟨b', o', e', hb', _⟩ := HD.out.int_ (by rw [HM.out]; omega)
    injection e' with e'
    injection e' with e1 e2
    omega
  obtain ⟨hgw, d0⟩ := O1.out.int HX.out
  obtain ⟨_, d1⟩ := O1.out.int HY.out
  have f0 := O1.out.thaw a
  have f1 := O1.out.thaw b
  have r0 : w1.cell? ⟨w.heap.size, 0, none⟩ = some (.int .i64 a) := K1.out.cell 0
  have r1 : w1.cell? ⟨w.heap.size, 1, none⟩ = some (.int .i64 b) := K1.out.cell 1
  have hkl := K1.out.lt
  have k1 : (a : Int) < m := by omega
  have k2 : (0 : Int) ≤ a := by omega
  have k3 : (b : Int) < m := by omega
  have k4 : (0 : Int) ≤ b := by omega
  have n1 : ¬ w.heap.size = gg := by omega
  have n2 : ¬ gg = w.heap.size := by omega
  have n3 : ¬ lb = gg := by omega
  have n4 : ¬ gg = lb := by omega
  clear hls
  go_upto_region 2 with (fail)
  go_region
  go_upto_region 3 with (fail)
  refine wp_name (fun w2 hw2 => ?_)
  have O2 := Lib.hid (show Own encInt w2 w.heap.size 3 (.slice (some ⟨gg, 0, none⟩) m c1) (l.set a (x - 1)) by rw [hw2]; exact (O1.out.setInt ha (x - 1)).past (bl_drew (Below.refl _ _)) (Nat.le_refl _))
  have B2 := Lib.hid (show Below w.heap.size w w2 by rw [hw2]; exact (B1.out.setCell (p := ⟨gg, a, none⟩) (by dsimp only; omega) _).drew)
  have hz2 : w2.heap.size = w1.heap.size := by rw [hw2]; simp [World.setCell]
  have r1' : w2.cell? ⟨w.heap.size, 1, none⟩ = some (.int .i64 b) := by rw [hw2]; simp [go_sem, r1]
  have e1' : w2.cell? ⟨lb, lo + b, none⟩ = some (.int .i64 y) := by rw [hw2]; simp [go_sem, e1]
  clear hw2 d0 f0 d1 f1 r0 r1 e0 e1 hgw
  have hlb2 : lb < w2.heap.size := by omega
  have hkl2 : w.heap.size < w2.heap.size := by omega
  obtain ⟨hgw, d1⟩ := O2.out.int (i := b) (x := y) (by rw [List.getElem?_set_ne HAB.out]; exact HY.out)
  have f1 := O2.out.thaw b
  go_region
  go_wp2
  go_ret
  have o3 := (O2.out.setInt hb (y + 1)).past (bl_drew (Below.refl _ _)) (Nat.le_refl _)
  rw [HMV.out] at o3
  exact ⟨_, rfl, o3, (B2.out.setCell (p := ⟨gg, b, none⟩) (by dsimp only; omega) _).drew⟩
end Go.Proofs.Ytbedepmcecdhfaa
