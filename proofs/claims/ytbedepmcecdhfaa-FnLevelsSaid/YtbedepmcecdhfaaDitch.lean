/- Ditches: arrays of 2 ints. Copies, comparisons, lists. -/
import Derived.Test.YtbedepmcecdhfaaProg
import Derived.Test.YtbedepmcecdhfaaFrame
import Derived.Test.YtbedepmcecdhfaaTail
namespace Go.Proofs.Ytbedepmcecdhfaa
open Go.RowKit
structure Ditch where
  src : Int
  dst : Int
deriving Inhabited
theorem alloc_sz (w : World) (o : Obj) : (w.alloc o).heap.size = w.heap.size + 1 := by simp
def encDitch : Enc Ditch := ⟨2, fun x => [x.src, x.dst], fun _ => rfl⟩
def mkDitch : List Int → Ditch
  | [a0, a1] => ⟨a0, a1⟩
  | _ => ⟨0, 0⟩
theorem mkDitch_f : ∀ zs : List Int, zs.length = encDitch.k → encDitch.f (mkDitch zs) = zs
  | [a0, a1], _ => rfl
  | [], h => by cases h
  | [a0], h => by cases h
  | a0 :: a1 :: b :: r, h => by simp [encDitch] at h
theorem Sl.ditch {w : World} {B : Nat} {A : Option Addr} {l : List Ditch} (h : Sl encDitch w B A l) (hn : 0 < l.length) :
    ∃ b off, A = some ⟨b, off, none⟩ ∧ b < B ∧ ∀ i x, l[i]? = some x → w.cell? ⟨b, off + i * 2, none⟩ = some (.int .i64 x.src) ∧ w.cell? ⟨b, off + i * 2 + 1, none⟩ = some (.int .i64 x.dst) := by
  obtain ⟨b, off, e, hb, hc⟩ := h hn
  exact ⟨b, off, e, hb, fun i x hx => ⟨hc i x hx 0 _ rfl, hc i x hx 1 _ rfl⟩⟩

open Go.ChangeShapes Go.WideShapes Go.ChangeAt Go.Deep in
/-- A slice argument whose elements are arrays of ints, as a list. -/
theorem open_sla {H : Type} {enc : TypeId × Value → H} {P : Program} {α : Type} (E : Enc α) (mk : List Int → α) (hmk : ∀ zs : List Int, zs.length = E.k → E.f (mk zs) = zs) {W : World} {t e e2 : TypeId} {v : Value} {d : DataW H} {p : List MemPlace} {r : Reach} {b0 : Nat}
    (ht : P.underlying t = some (.slice e)) (he : P.underlying e = some (.array E.k e2)) (he2 : P.underlying e2 = some (.int .i64)) (hC2 : P.cellsOf e2 = 1) (hC : P.cellsOf e = E.k) (hk0 : 0 < E.k)
    (hv : Value.okWide P W r b0 t v) (h : DataW.Trod enc P W 0 (fun _ => true) true t v d p) :
    ∃ (A : Option Addr) (n c : Nat) (l : List α), v = .slice A n c ∧ l.length = n ∧ n ≤ maxLen ∧ Sl E W W.heap.size A l ∧ ∀ x ∈ l, ∀ z ∈ E.f x, I64 z := by
  obtain ⟨a0, len, cap, rfl⟩ := okWide_slice ht hv
  obtain ⟨fuel, hf⟩ := h
  rcases open_slice ht hf with ⟨hcs, hx⟩ | ⟨a, len', cap', m, n, D, Pl, hcs, hb, hl, hm, hmm, hx, hi⟩
  · have hv : a0 = none ∧ len = 0 ∧ cap = 0 := by simpa [Value.cells] using hcs
    obtain ⟨rfl, rfl, rfl⟩ := hv
    exact ⟨none, 0, 0, [], rfl, rfl, by unfold maxLen; omega, fun h => absurd h (by simp), fun x hx => by cases hx⟩
  · have hv : a0 = some a ∧ len = len' ∧ cap = cap' := by simpa [Value.cells] using hcs
    obtain ⟨rfl, rfl, rfl⟩ := hv
    simp only [if_true] at hmm
    rw [hmm] at hi
    clear hx hmm m
    have key : ∀ i, i < cap → ∃ zs : List Int, zs.length = E.k ∧ (∀ z ∈ zs, I64 z) ∧ ∀ j z, zs[j]? = some z → W.cell? (a.add (i * E.k + j)) = some (.int .i64 z) := by
      intro i him
      have h1 : ∀ j, j < E.k → ∃ z : Int, I64 z ∧ W.cell? (a.add (i * E.k + j)) = some (.int .i64 z) := by
        intro j hj
        obtain ⟨cs', hc, ht'⟩ := hi i him
        rw [hC] at hc
        obtain ⟨ys, n', _, _, _, hyl, hf⟩ := DataW.trod_array he ht'
        obtain ⟨_, hcl, hat⟩ := World.cells?_some hc
        have h1 := hf j hj
        rw [hC2, Nat.mul_one] at h1
        have hone' : (cs'.drop j).take 1 = [cs'[j]'(by omega)] := by
          rw [List.drop_eq_getElem_cons (by omega)]
          rfl
        rw [hone', List.getElem?_eq_getElem (show j < ys.length by omega)] at h1
        obtain ⟨z, h2, _, h3⟩ := DataW.trod_int he2 h1
        refine ⟨z, h3, ?_⟩
        have hcell := hat j hj
        rw [← Go.Deep.add_add, hcell, List.getElem?_eq_getElem (show j < cs'.length by omega)]
        simpa using h2
      have hch : ∃ g : Nat → Int, ∀ j, j < E.k → I64 (g j) ∧ W.cell? (a.add (i * E.k + j)) = some (.int .i64 (g j)) := by
        classical
        exact ⟨fun j => if hj : j < E.k then Classical.choose (h1 j hj) else 0, fun j hj => by simpa [hj] using Classical.choose_spec (h1 j hj)⟩
      obtain ⟨g, hg⟩ := hch
      refine ⟨(List.range E.k).map g, by simp, fun z hz => ?_, fun j z hz => ?_⟩
      · simp only [List.mem_map, List.mem_range] at hz
        obtain ⟨j, hj, rfl⟩ := hz
        exact (hg j (by omega)).1
      · rw [List.getElem?_map] at hz
        have hj : j < E.k := by
          rcases Nat.lt_or_ge j E.k with h | h
          · exact h
          · rw [List.getElem?_eq_none (by simpa using h)] at hz; cases hz
        rw [List.getElem?_eq_getElem (by simpa using hj)] at hz
        simp at hz
        subst hz
        exact (hg j (by omega)).2
    have hch : ∃ G : Nat → List Int, ∀ i, i < cap → (G i).length = E.k ∧ (∀ z ∈ G i, I64 z) ∧ ∀ j z, (G i)[j]? = some z → W.cell? (a.add (i * E.k + j)) = some (.int .i64 z) := by
      classical
      exact ⟨fun i => if h : i < cap then Classical.choose (key i h) else [], fun i h => by simpa [h] using Classical.choose_spec (key i h)⟩
    obtain ⟨G, hG⟩ := hch
    refine ⟨some a, len, cap, (List.range len).map fun i => mk (G i), rfl, by simp, by omega, fun hn => ?_, fun x hx z hz => ?_⟩
    · have hlen : 0 < len := by simpa using hn
      obtain ⟨g1, g2, g3⟩ := hG 0 (by omega)
      have hc0 := g3 0 (G 0)[0] (List.getElem?_eq_getElem (by omega))
      rw [Nat.zero_mul] at hc0
      obtain ⟨ab, ao, asp⟩ := a
      have h0 : W.cell? ⟨ab, ao, asp⟩ = some (.int .i64 (G 0)[0]) := by simpa [Addr.add] using hc0
      obtain ⟨hlt, rfl⟩ := cell_some_lt h0
      refine ⟨ab, ao, rfl, hlt, fun i x hx j z hz => ?_⟩
      rw [List.getElem?_map] at hx
      have hi' : i < len := by
        rcases Nat.lt_or_ge i len with h | h
        · exact h
        · rw [List.getElem?_eq_none (by simpa using h)] at hx; cases hx
      rw [List.getElem?_eq_getElem (by simpa using hi')] at hx
      simp at hx
      subst hx
      obtain ⟨q1, q2, q3⟩ := hG i (by omega)
      rw [hmk _ q1] at hz
      have := q3 j z hz
      rw [add_plain rfl] at this
      rw [← this]
      simp [Nat.add_assoc]
    · simp only [List.mem_map, List.mem_range] at hx
      obtain ⟨i, hi', rfl⟩ := hx
      obtain ⟨q1, q2, _⟩ := hG i (by omega)
      rw [hmk _ q1] at hz
      exact q2 z hz


set_option maxHeartbeats 2000000 in
theorem toIntA2_any (a0 a1 : Int) (w : World) :
    Calls Try.prog 88 #[.agg #[.int .i64 a0, .int .i64 a1]] w fun e w' => e = .returned (.agg #[.int .i64 a0, .int .i64 a1]) ∧ Below w.heap.size w w' := by
  have hA0 := (((Blk.new w 84 #[.int .i64 a0, .int .i64 a1]).alloc (.cells #[.int .i64 0, .int .i64 0] 84)).alloc (.cells #[.int .i64 0, .int .i64 0] 84))
  have hR0 := ((Blk.new (w.alloc (.cells #[.int .i64 a0, .int .i64 a1] 84)) 84 #[.int .i64 0, .int .i64 0]).alloc (.cells #[.int .i64 0, .int .i64 0] 84))
  have hC0 := (Blk.new ((w.alloc (.cells #[.int .i64 a0, .int .i64 a1] 84)).alloc (.cells #[.int .i64 0, .int .i64 0] 84)) 84 #[.int .i64 0, .int .i64 0])
  rw [alloc_sz] at hR0
  rw [alloc_sz, alloc_sz] at hC0
  have HA0 := Lib.hid hA0
  have HR0 := Lib.hid hR0
  have HC0 := Lib.hid hC0
  clear hA0 hR0 hC0
  go_enter Try.func88, Try.ntmps88
  go_wp2
  go_loopw [4] (fun i wr => ∃ k : Nat, k ≤ 2 ∧ i = .int .i64 k ∧ Below w.heap.size w wr ∧ Blk wr w.heap.size 84 #[.int .i64 a0, .int .i64 a1] ∧ Blk wr (w.heap.size + 1) 84 #[.int .i64 0, .int .i64 0] ∧ ∃ c0 c1 : Int, Blk wr (w.heap.size + 1 + 1) 84 #[.int .i64 c0, .int .i64 c1] ∧ (1 ≤ k → c0 = a0) ∧ (2 ≤ k → c1 = a1)) (fun i _ => 2 - (intOf i).toNat)
  case atStart => exact ⟨0, by omega, rfl, (by repeat (first | assumption | exact Below.refl _ _ | apply bl_gw | apply bl_alloc | apply bl_drewN | apply bl_drew)), HA0.out, HR0.out, 0, 0, HC0.out, fun h => by omega, fun h => by omega⟩
  case round =>
    obtain ⟨k, hk, rfl, hbel, hA, hR, c0, c1, hC, e0, e1⟩ := hrel
    clear HA0 HR0 HC0
    rcases (show k = 0 ∨ k = 1 ∨ k = 2 by omega) with rfl | rfl | rfl
    · have r0 : wr.cell? ⟨w.heap.size, 0, none⟩ = some (.int .i64 a0) := hA.cell 0
      have r1 : wr.cell? ⟨w.heap.size, 1, none⟩ = some (.int .i64 a1) := hA.cell 1
      have s0 : wr.cell? ⟨w.heap.size + 1 + 1, 0, none⟩ = some (.int .i64 c0) := hC.cell 0
      have s1 : wr.cell? ⟨w.heap.size + 1 + 1, 1, none⟩ = some (.int .i64 c1) := hC.cell 1
      have q0 : wr.cell? ⟨w.heap.size + 1, 0, none⟩ = some (.int .i64 0) := hR.cell 0
      have q1 : wr.cell? ⟨w.heap.size + 1, 1, none⟩ = some (.int .i64 0) := hR.cell 1
      have f0 := hC.frozen 0
      have f1 := hC.frozen 1
      have g0 := hR.frozen 0
      have g1 := hR.frozen 1
      have l0 := hA.lt
      have l1 := hR.lt
      have l2 := hC.lt
      have HA := Lib.hid hA
      have HR := Lib.hid hR
      have HC := Lib.hid hC
      have HB := Lib.hid hbel
      clear hA hR hC hbel
      go_wp2
      go_roundw
      case rel => exact ⟨1, by omega, rfl, HB.out.setCell (p := ⟨w.heap.size + 1 + 1, 0, none⟩) (by dsimp only; omega) _, HA.out.far (by dsimp only; omega) _, HR.out.far (by dsimp only; omega) _, a0, c1, HC.out.set_ 0 _, fun _ => rfl, fun h => by omega⟩
      case measure => simp [intOf]
    · have r0 : wr.cell? ⟨w.heap.size, 0, none⟩ = some (.int .i64 a0) := hA.cell 0
      have r1 : wr.cell? ⟨w.heap.size, 1, none⟩ = some (.int .i64 a1) := hA.cell 1
      have s0 : wr.cell? ⟨w.heap.size + 1 + 1, 0, none⟩ = some (.int .i64 c0) := hC.cell 0
      have s1 : wr.cell? ⟨w.heap.size + 1 + 1, 1, none⟩ = some (.int .i64 c1) := hC.cell 1
      have q0 : wr.cell? ⟨w.heap.size + 1, 0, none⟩ = some (.int .i64 0) := hR.cell 0
      have q1 : wr.cell? ⟨w.heap.size + 1, 1, none⟩ = some (.int .i64 0) := hR.cell 1
      have f0 := hC.frozen 0
      have f1 := hC.frozen 1
      have g0 := hR.frozen 0
      have g1 := hR.frozen 1
      have l0 := hA.lt
      have l1 := hR.lt
      have l2 := hC.lt
      have HA := Lib.hid hA
      have HR := Lib.hid hR
      have HC := Lib.hid hC
      have HB := Lib.hid hbel
      clear hA hR hC hbel
      obtain rfl := e0 (by omega)
      go_wp2
      go_roundw
      case rel => exact ⟨2, by omega, rfl, HB.out.setCell (p := ⟨w.heap.size + 1 + 1, 1, none⟩) (by dsimp only; omega) _, HA.out.far (by dsimp only; omega) _, HR.out.far (by dsimp only; omega) _, c0, a1, HC.out.set_ 1 _, fun _ => rfl, fun _ => rfl⟩
      case measure => simp [intOf]
    · have r0 : wr.cell? ⟨w.heap.size, 0, none⟩ = some (.int .i64 a0) := hA.cell 0
      have r1 : wr.cell? ⟨w.heap.size, 1, none⟩ = some (.int .i64 a1) := hA.cell 1
      have s0 : wr.cell? ⟨w.heap.size + 1 + 1, 0, none⟩ = some (.int .i64 c0) := hC.cell 0
      have s1 : wr.cell? ⟨w.heap.size + 1 + 1, 1, none⟩ = some (.int .i64 c1) := hC.cell 1
      have q0 : wr.cell? ⟨w.heap.size + 1, 0, none⟩ = some (.int .i64 0) := hR.cell 0
      have q1 : wr.cell? ⟨w.heap.size + 1, 1, none⟩ = some (.int .i64 0) := hR.cell 1
      have f0 := hC.frozen 0
      have f1 := hC.frozen 1
      have g0 := hR.frozen 0
      have g1 := hR.frozen 1
      have l0 := hA.lt
      have l1 := hR.lt
      have l2 := hC.lt
      have HA := Lib.hid hA
      have HR := Lib.hid hR
      have HC := Lib.hid hC
      have HB := Lib.hid hbel
      clear hA hR hC hbel
      obtain rfl := e0 (by omega)
      obtain rfl := e1 (by omega)
      go_wp2
      refine bodyPost_ret (v := .agg #[.int .i64 c0, .int .i64 c1]) (by simp [results, Try.results88, go_sem, q0, q1]) rfl ⟨rfl, ?_⟩
      exact HB.out.trans (by repeat (first | assumption | exact Below.refl _ _ | apply Below.drew | apply below_drewN | (refine Below.setCell ?_ (by dsimp only; omega) _)))
set_option maxHeartbeats 2000000 in
theorem eqIntA2_same (a0 a1 : Int) (w : World) :
    Calls Try.prog 89 #[.agg #[.int .i64 a0, .int .i64 a1], .agg #[.int .i64 a0, .int .i64 a1]] w fun e w' => e = .returned (.bool true) ∧ Below w.heap.size w w' := by
  have hA0 := (Blk.new w 84 #[.int .i64 a0, .int .i64 a1]).alloc (.cells #[.int .i64 a0, .int .i64 a1] 84)
  have hR0 := Blk.new (w.alloc (.cells #[.int .i64 a0, .int .i64 a1] 84)) 84 #[.int .i64 a0, .int .i64 a1]
  rw [alloc_sz] at hR0
  have HA0 := Lib.hid hA0
  have HR0 := Lib.hid hR0
  clear hA0 hR0
  go_enter Try.func89, Try.ntmps89
  go_wp2
  go_loopw [5] (fun i wr => ∃ k : Nat, k ≤ 2 ∧ i = .int .i64 k ∧ Below w.heap.size w wr ∧ Blk wr w.heap.size 84 #[.int .i64 a0, .int .i64 a1] ∧ Blk wr (w.heap.size + 1) 84 #[.int .i64 a0, .int .i64 a1]) (fun i _ => 2 - (intOf i).toNat)
  case atStart => exact ⟨0, by omega, rfl, (by repeat (first | assumption | exact Below.refl _ _ | apply bl_gw | apply bl_alloc | apply bl_drewN | apply bl_drew)), HA0.out, HR0.out⟩
  case round =>
    obtain ⟨k, hk, rfl, hbel, hA, hR⟩ := hrel
    clear HA0 HR0
    have r0 : wr.cell? ⟨w.heap.size, 0, none⟩ = some (.int .i64 a0) := hA.cell 0
    have r1 : wr.cell? ⟨w.heap.size, 1, none⟩ = some (.int .i64 a1) := hA.cell 1
    have q0 : wr.cell? ⟨w.heap.size + 1, 0, none⟩ = some (.int .i64 a0) := hR.cell 0
    have q1 : wr.cell? ⟨w.heap.size + 1, 1, none⟩ = some (.int .i64 a1) := hR.cell 1
    have l0 := hA.lt
    have l1 := hR.lt
    have HA := Lib.hid hA
    have HR := Lib.hid hR
    have HB := Lib.hid hbel
    clear hA hR hbel
    rcases (show k = 0 ∨ k = 1 ∨ k = 2 by omega) with rfl | rfl | rfl
    · go_wp2
      refine wp_region_gw (by kernel_rfl) (by kernel_rfl) ?_
      repeat (first | go_big_quiet_step ((fail)) | quiet_step ((fail)))
      refine wpQuiet_nil ?_
      rintro _ ⟨pq, rfl⟩
      go_wp2
      go_roundw
      case rel => exact ⟨1, by omega, rfl, bl_gw HB.out _, HA.out.gw _, HR.out.gw _⟩
      case measure => simp [intOf]
    · go_wp2
      refine wp_region_gw (by kernel_rfl) (by kernel_rfl) ?_
      repeat (first | go_big_quiet_step ((fail)) | quiet_step ((fail)))
      refine wpQuiet_nil ?_
      rintro _ ⟨pq, rfl⟩
      go_wp2
      go_roundw
      case rel => exact ⟨2, by omega, rfl, bl_gw HB.out _, HA.out.gw _, HR.out.gw _⟩
      case measure => simp [intOf]
    · go_wp2
      go_ret
      exact ⟨rfl, HB.out⟩
set_option maxHeartbeats 400000 in
theorem szDitchS_ok (n : Nat) (A : Option Addr) (c : Nat) (w : World) (hn : n ≤ 1048576) :
    Calls Try.prog 37 #[.slice A n c, .int .i64 1048576] w fun e w' => e = .returned (.int .i64 (1048576 - n)) ∧ w = w' := by
  go_enter Try.func37, Try.ntmps37
  go_wp2
  go_ret
  exact ⟨rfl, rfl⟩
set_option maxHeartbeats 400000 in
theorem szDitchS_big (n : Nat) (A : Option Addr) (c : Nat) (w : World) (hn : 1048576 < n) (hm : n ≤ 9223372036854775807) :
    Calls Try.prog 37 #[.slice A n c, .int .i64 1048576] w fun e w' => e = .returned (.int .i64 (-1)) ∧ w = w' := by
  go_enter Try.func37, Try.ntmps37
  go_wp2
  go_ret
  exact ⟨rfl, rfl⟩
theorem info_Ditch : (Try.prog.info? 84).map (fun i => (i.zero, i.size, i.bytes)) = some (some (.agg #[.int .i64 0, .int .i64 0]), 2, 16) := by kernel_rfl
set_option maxHeartbeats 2000000 in
theorem eqDitchS_same (l : List Ditch) (n : Nat) (hn : l.length = n) (A A' : Option Addr) (c c' : Nat) (w : World) (hl : n ≤ 1048576) (hc : Sl encDitch w w.heap.size A l) (hc' : Sl encDitch w w.heap.size A' l) :
    Calls Try.prog 39 #[.slice A n c, .slice A' n c'] w fun e w' => e = .returned (.bool true) ∧ Below w.heap.size w w' := by
  have HC := Lib.hid hc; clear hc
  have HD := Lib.hid hc'; clear hc'
  have HN := Lib.hid hn; clear hn
  go_enter Try.func39, Try.ntmps39
  go_wp2
  go_loopw [5] (fun i wr => ∃ k : Nat, k ≤ n ∧ i = .int .i64 k ∧ Below w.heap.size w wr) (fun i _ => n - (intOf i).toNat)
  case atStart => exact ⟨0, Nat.zero_le _, rfl, Below.refl _ _⟩
  case round =>
    obtain ⟨k, hk, rfl, hbel⟩ := hrel
    have hsz := hbel.size
    by_cases hlt : k < n
    · obtain ⟨b, off, rfl, hb, hcs⟩ := HC.out.ditch (by rw [HN.out]; omega)
      obtain ⟨b', off', rfl, hb', hcs'⟩ := HD.out.ditch (by rw [HN.out]; omega)
      have hx : l[k]? = some (l[k]'(by rw [HN.out]; exact hlt)) := List.getElem?_eq_getElem _
      generalize l[k]'(by rw [HN.out]; exact hlt) = x at hx
      obtain ⟨c0, c1⟩ := hcs k x hx
      obtain ⟨d0, d1⟩ := hcs' k x hx
      clear hcs hcs' hx
      rw [← hbel.cell hb] at c0 c1
      rw [← hbel.cell hb'] at d0 d1
      have hbw : b < wr.heap.size := by omega
      have hbw' : b' < wr.heap.size := by omega
      have k1 : (k : Int) < n := by omega
      have k2 : (0 : Int) ≤ k := by omega
      go_wp2
      refine wp_region_gw (by kernel_rfl) (by kernel_rfl) ?_
      repeat (first | go_big_quiet_step ((go_at_call 89; exact quiet_gw (eqIntA2_same _ _ _))) | quiet_step ((go_at_call 89; exact quiet_gw (eqIntA2_same _ _ _))))
      refine wpQuiet_nil ?_
      rintro _ ⟨pq, rfl⟩
      go_wp2
      go_roundw
      case rel => exact ⟨k + 1, by omega, by go_num, (by repeat (first | assumption | exact Below.refl _ _ | apply bl_gw | apply bl_alloc | apply bl_drewN | apply bl_drew))⟩
      case measure => simp [intOf]; omega
    · go_wp2
      go_ret
      exact ⟨rfl, hbel⟩
set_option maxHeartbeats 2000000 in
theorem toDitchS_any (l : List Ditch) (n : Nat) (hn : l.length = n) (A : Option Addr) (c : Nat) (w : World) (hl : n ≤ 1048576) (hc : Sl encDitch w w.heap.size A l) :
    Calls Try.prog 38 #[.slice A n c] w fun e w' => ∃ v, e = .returned v ∧ Own encDitch w' w.heap.size 84 v l ∧ Below w.heap.size w w' := by
  have HC := Lib.hid hc; clear hc
  have HN := Lib.hid hn; clear hn
  obtain ⟨i0, hi, hz0, hz1, hz2⟩ := info_parts info_Ditch
  go_enter Try.func38, Try.ntmps38
  go_wp2_with (at_make; refine wpList_make_full _ rfl (.tmp 6) (.tmp 6) 25 rfl w.heap.size 84 i0 _ 2 Try.underlying25 hi hz0 hz1 .i64 .i64 _ _ n rfl rfl rfl rfl (by rw [hz2]; omega) (by unfold maxLen; omega) (Nat.le_refl _) ?_; intro w1 hown hg1)
  have hb1 : Below w.heap.size w w1 := (Below.refl _ _).grown hg1 (Nat.le_refl _) (by intro k hk; cases hk)
  obtain ⟨_, cs1, hB1, hs1, _⟩ := own_blk hown
  have HB1 := Lib.hid hB1
  have HS1 := Lib.hid hs1
  clear hown hg1 hB1 hs1 hi hz0 hz1 hz2
  go_loopw [4] (fun i wr => ∃ k : Nat, k ≤ n ∧ i = .int .i64 k ∧ Below w.heap.size w wr ∧ ∃ cs, Blk wr w.heap.size 84 cs ∧ cs.size = n * encDitch.k ∧ ∀ j, j < k * encDitch.k → cs[j]? = (flat encDitch l)[j]?) (fun i _ => n - (intOf i).toNat)
  case atStart => exact ⟨0, Nat.zero_le _, rfl, hb1, cs1, HB1.out, HS1.out, fun j hj => absurd hj (by simp)⟩
  case round =>
    clear HB1 HS1 hb1
    obtain ⟨k, hk, rfl, hbel, cs, hblk, hcs, hfill⟩ := hrel
    have hsz := hbel.size
    have hg := hblk.lt
    by_cases hlt : k < n
    · obtain ⟨b, off, rfl, hb, hcl⟩ := HC.out.ditch (by rw [HN.out]; omega)
      have hx : l[k]? = some (l[k]'(by rw [HN.out]; exact hlt)) := List.getElem?_eq_getElem _
      generalize l[k]'(by rw [HN.out]; exact hlt) = x at hx
      obtain ⟨c0, c1⟩ := hcl k x hx
      have hf := fill_step hcs hlt hx hfill
      have HF := Lib.hid hf
      rw [← hbel.cell hb] at c0 c1
      have hbw : b < wr.heap.size := by omega
      have hcs' : cs.size = n * 2 := hcs
      obtain ⟨v0, e0⟩ := hblk.cell_some (i := k * 2) (by omega)
      obtain ⟨v1, e1⟩ := hblk.cell_some (i := k * 2 + 1) (by omega)
      have f0 := hblk.frozen (k * 2)
      have f1 := hblk.frozen (k * 2 + 1)
      have HBk := Lib.hid hblk
      have HCs := Lib.hid hcs
      clear hcl hx hf hfill hblk hcs hcs'
      go_wp2_with (go_at_call 88; refine (toIntA2_any _ _ _).mono ?_; rintro e w2 ⟨rfl, hb2⟩; obtain ⟨p2, rfl⟩ := below_gw hb2; clear hb2)
      go_roundw
      case rel =>
        have hB := putC_below (Nat.le_refl _) ((encDitch.f x).map (Value.int .i64)) (k * 2) hbel
        have hS := putC_size w.heap.size ((encDitch.f x).map (Value.int .i64)) wr (k * 2)
        exact ⟨k + 1, by omega, by go_num, hB.trans (gw_below _ p2 (by rw [hS]; exact hsz)), _, (HBk.out.put ((encDitch.f x).map (Value.int .i64)) (k * 2)).gw p2, by rw [setAll_size]; exact HCs.out, HF.out⟩
      case measure => simp [intOf]; omega
    · go_wp2
      refine bodyPost_ret (results_tmp rfl _ _ _) rfl ?_
      obtain rfl : k = n := by omega
      exact ⟨_, rfl, Own.of_blk (Nat.le_refl _) hblk HN.out hcs hfill (by unfold maxLen; omega), hbel⟩
theorem toDitchS_sl (l : List Ditch) (n : Nat) (hn : l.length = n) (A : Option Addr) (c : Nat) (w : World) (hl : n ≤ 1048576) (hc : Sl encDitch w w.heap.size A l) :
    Calls Try.prog 38 #[.slice A n c] w fun e w' => ∃ A' c', e = .returned (.slice A' n c') ∧ Sl encDitch w' w'.heap.size A' l ∧ Own encDitch w' w.heap.size 84 (.slice A' n c') l ∧ Below w.heap.size w w' :=
  (toDitchS_any l n hn A c w hl hc).mono fun e w' ⟨v, he, ho, hb⟩ => by
    obtain ⟨A', c', rfl, _, _, hs⟩ := ho.slice
    rw [hn] at he ho
    exact ⟨A', c', he, hs, ho, hb⟩
end Go.Proofs.Ytbedepmcecdhfaa
