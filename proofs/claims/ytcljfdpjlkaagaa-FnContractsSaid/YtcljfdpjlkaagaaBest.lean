/- The best choice of contracts: the program's recursion. -/
import Derived.Test.YtcljfdpjlkaagaaEarn
namespace Go.Proofs.Ytcljfdpjlkaagaa
open Go.RowKit
def bestP (l : List Contract) : List Int → List Int → Int
  | [], _ => 0
  | q :: r, s => if (serveP s l[q.toNat]!).2 = l[q.toNat]!.tons then max (bestP l r s - l[q.toNat]!.tons * l[q.toNat]!.fine) (bestP l r (serveP s l[q.toNat]!).1 + l[q.toNat]!.tons * l[q.toNat]!.price)
    else bestP l r s - l[q.toNat]!.tons * l[q.toNat]!.fine
theorem best_mul {x : Contract} (hx : contractOK x = true) : (0 ≤ x.tons * x.price ∧ x.tons * x.price ≤ 2500000) ∧ (0 ≤ x.tons * x.fine ∧ x.tons * x.fine ≤ 5000000) := by
  obtain ⟨_, _, t, p, _, _, f⟩ := contractOK_at hx
  exact ⟨mul_rng (A := 5000) (B := 500) (by omega) t.2 (by omega) p.2, mul_rng (A := 5000) (B := 1000) (by omega) t.2 f.1 f.2⟩
theorem bestP_cons {l : List Contract} {q : Nat} {x : Contract} {r s : List Int} (hx : l[q]? = some x) : bestP l ((q : Int) :: r) s =
    if (serveP s x).2 = x.tons then max (bestP l r s - x.tons * x.fine) (bestP l r (serveP s x).1 + x.tons * x.price) else bestP l r s - x.tons * x.fine := by
  rw [bestP, Int.toNat_natCast, List.getElem!_of_getElem? hx]
def OrdIn (n : Nat) (O : List Int) : Prop := ∀ x ∈ O, 0 ≤ x ∧ x < n
theorem OrdIn.tail {n : Nat} {q : Int} {r : List Int} (h : OrdIn n (q :: r)) : OrdIn n r := fun x hx => h x (List.mem_cons_of_mem _ hx)
theorem bestP_rng {l : List Contract} (hok : ∀ (i : Nat) (x : Contract), l[i]? = some x → contractOK x = true) : ∀ (O s : List Int), OrdIn l.length O → -5000000 * (O.length : Int) ≤ bestP l O s ∧ bestP l O s ≤ 2500000 * O.length
  | [], s, _ => by simp [bestP]
  | q :: r, s, h => by
    obtain ⟨h0, h1⟩ := h q (by simp)
    have hx : l[q.toNat]? = some (l[q.toNat]'(by omega)) := List.getElem?_eq_getElem _
    have hm := best_mul (hok _ _ hx)
    have i1 := bestP_rng hok r s h.tail
    have i2 := bestP_rng hok r (serveP s l[q.toNat]!).1 h.tail
    rw [bestP, List.length_cons]
    rw [List.getElem!_of_getElem? hx] at i2 ⊢
    push_cast
    split <;> omega
theorem sl_tailI {w w' : World} {B b off : Nat} {a : Int} {r : List Int} (h : Sl encInt w B (some ⟨b, off, none⟩) (a :: r)) (hb : Below B w w') {B' : Nat} (hB : B ≤ B') : Sl encInt w' B' (some ⟨b, off + 1, none⟩) r := by
  have := ((h.drop_ 1).below hb).more hB
  simpa [encInt] using this
set_option maxRecDepth 4000 in
set_option maxHeartbeats 8000000 in
theorem bestServed_any (l : List Contract) (n : Nat) (hn : l.length = n) (hn10 : n ≤ 10) (hok : ∀ (i : Nat) (x : Contract), l[i]? = some x → contractOK x = true) : ∀ (O : List Int) (k : Nat) (_ : O.length = k) (s : List Int) (As A Ao : Option Addr) (cs cap cap' : Nat) (w : World) (_ : k ≤ 10) (_ : k ≤ cap') (_ : OrdIn n O) (_ : StockIn s)
    (_ : Sl encInt w w.heap.size As s) (_ : Sl encContract w w.heap.size A l) (_ : Sl encInt w w.heap.size Ao O),
    Calls Try.prog 70 #[.slice As 4 cs, .slice A n cap, .slice Ao k cap'] w fun e w' => e = .returned (.int .i64 (bestP l O s)) ∧ Below w.heap.size w w'
  | [], k, hk, s, As, A, Ao, cs, cap, cap', w, hk10, hcap, hin, hst, hs, hc, ho => by
    subst hk
    clear hs hc ho hin hst hok
    go_enter Try.func70, Try.ntmps70
    go_wp2
    go_ret
    exact ⟨rfl, Below.refl _ _⟩
  | [q'], k, hk, s, As, A, Ao, cs, cap, cap', w, hk10, hcap, hin, hst, hs, hc, ho => by
    have ih := bestServed_any l n hn hn10 hok []
    obtain rfl : k = 0 + 1 := by rw [← hk]; rfl
    clear hk
    have HM := Lib.hid (show ([] : List Int).length = 0 from rfl)
    obtain ⟨q, rfl⟩ : ∃ q : Nat, q' = q := ⟨q'.toNat, by have := hin q' (by simp); omega⟩
    have hqn : q < n := by have := hin q (by simp); omega
    have hx : l[q]? = some (l[q]'(by rw [hn]; exact hqn)) := List.getElem?_eq_getElem _
    have hq := bestP_cons (r := []) (s := s) hx
    generalize l[q]'(by rw [hn]; exact hqn) = x at hx hq
    rcases (show cap' = 1 ∨ ¬ cap' = 1 by omega) with rfl | hc1
    · have HE := Lib.hid hq
      clear hq
      obtain ⟨ob, oo, rfl, hob, hos⟩ := ho.int_ (by simp)
      have d0 := hos 0 (q : Int) (by simp)
      simp only [Nat.add_zero] at d0
      obtain ⟨bk, off, rfl, hb, hcs⟩ := hc.contract (by rw [hn]; omega)
      obtain ⟨c0, c1, c2, c3, c4, c5, c6⟩ := hcs q x hx
      have HO := Lib.hid ho
      have HC := Lib.hid hc
      have HS := Lib.hid hs
      have HI := Lib.hid hin.tail
      have HIH := Lib.hid ih
      have HOK := Lib.hid hok
      have HST := Lib.hid hst
      have HN := Lib.hid hn
      have hr1 := bestP_rng hok ([]) s (by rw [hn]; exact hin.tail)
      have hr2 := bestP_rng hok ([]) (serveP s x).1 (by rw [hn]; exact hin.tail)
      rw [HM.out] at hr1 hr2
      obtain ⟨m1, m2⟩ := best_mul (hok _ _ hx)
      obtain ⟨_, ⟨g1, g4⟩, ht, _⟩ := contractOK_at (hok _ _ hx)
      have HSI := Lib.hid (serveP_in hst (hok _ _ hx)).1
      clear ho hc hs hin ih hok hst hn hcs hos hx
      obtain ⟨id, g, t, pr, fr, un, fi⟩ := x
      dsimp only at c0 c1 c2 c3 c4 c5 c6 g1 g4 ht m1 m2 HE
      obtain ⟨gr, rfl⟩ : ∃ gr : Nat, g = gr := ⟨g.toNat, by omega⟩
      have HSP := Lib.hid (show serveP s ⟨id, gr, t, pr, fr, un, fi⟩ = serveTo t gr s gr from rfl)
      rw [HSP.out] at hr2 HSI
      have HE2 := HE.out
      rw [HSP.out] at HE2
      clear HE
      have HE := Lib.hid HE2
      clear HE2
      obtain ⟨b1, hb1⟩ : ∃ b1, bestP l ([]) s = b1 := ⟨_, rfl⟩
      obtain ⟨b2, hb2⟩ : ∃ b2, bestP l ([]) (serveTo t gr s gr).1 = b2 := ⟨_, rfl⟩
      rw [hb1] at hr1
      rw [hb2] at hr2
      have HB1 := Lib.hid hb1
      have HB2 := Lib.hid hb2
      clear hb1 hb2
      have k1 : (0 : Int) < ((0 : Nat) : Int) + 1 := by omega
      have k2 : (((0 : Nat) : Int) + 1 == 0) = false := beq_eq_false_iff_ne.2 (by omega)
      have k3 : (1 : Int) ≤ ((0 : Nat) : Int) + 1 := by omega
      have k4 : (((0 : Nat) : Int) + 1) ≤ 1 := by omega
      have k5 : (1 : Int) ≤ 1 := by omega
      have k6 : (0 : Int) ≤ q := by omega
      have k7 : (q : Int) < n := by omega
      have hlt1 : 0 < 0 + 1 := by omega
      have w1' : IntKind.i64.wrap (t * fi) = t * fi := IntWalk.i64_in _ (by omega)
      have w2' : IntKind.i64.wrap (t * pr) = t * pr := IntWalk.i64_in _ (by omega)
      have w3' : IntKind.i64.wrap (b1 - t * fi) = b1 - t * fi := IntWalk.i64_in _ (by omega)
      have w4' : IntKind.i64.wrap (b2 + t * pr) = b2 + t * pr := IntWalk.i64_in _ (by omega)
      go_enter Try.func70, Try.ntmps70
      go_wp2
      refine wp_region_gw (by kernel_rfl) (by kernel_rfl) ?_
      repeat (first | go_big_quiet_step ((go_at_call 70; exact quiet_gw (v := .int .i64 b1) ((HIH.out 0 HM.out s _ _ _ _ _ _ _ (by omega) (by omega) HI.out HST.out (HS.out.past (by repeat (first | assumption | exact Below.refl _ _ | apply bl_gw | apply bl_alloc | apply bl_drewN | apply bl_drew))) (HC.out.past (by repeat (first | assumption | exact Below.refl _ _ | apply bl_gw | apply bl_alloc | apply bl_drewN | apply bl_drew))) (by first | exact Sl.nil_' rfl | exact sl_tailI HO.out (by repeat (first | assumption | exact Below.refl _ _ | apply bl_gw | apply bl_alloc | apply bl_drewN | apply bl_drew)) (by simp; omega))).mono (fun _ _ ⟨he, hb⟩ => ⟨by rw [he, HB1.out], hb⟩)))) | quiet_step ((go_at_call 70; exact quiet_gw (v := .int .i64 b1) ((HIH.out 0 HM.out s _ _ _ _ _ _ _ (by omega) (by omega) HI.out HST.out (HS.out.past (by repeat (first | assumption | exact Below.refl _ _ | apply bl_gw | apply bl_alloc | apply bl_drewN | apply bl_drew))) (HC.out.past (by repeat (first | assumption | exact Below.refl _ _ | apply bl_gw | apply bl_alloc | apply bl_drewN | apply bl_drew))) (by first | exact Sl.nil_' rfl | exact sl_tailI HO.out (by repeat (first | assumption | exact Below.refl _ _ | apply bl_gw | apply bl_alloc | apply bl_drewN | apply bl_drew)) (by simp; omega))).mono (fun _ _ ⟨he, hb⟩ => ⟨by rw [he, HB1.out], hb⟩)))))
      refine wpQuiet_nil ?_
      rintro _ ⟨pq, rfl⟩
      go_wp2_with fail
      refine (serve_any s HST.out _ _ id t pr fr un fi gr _ (by omega) (by omega) (by omega) (HS.out.past (by repeat (first | assumption | exact Below.refl _ _ | apply bl_gw | apply bl_alloc | apply bl_drewN | apply bl_drew)))).mono ?_
      rintro e w5 ⟨v5, rfl, o5, b5⟩
      obtain ⟨A5, cc5, rfl, _, _, sl5⟩ := o5.slice
      rw [HSI.out.1]
      have S5 := Lib.hid sl5
      have B5 := Lib.hid (below_step (show Below w.heap.size w _ from (by repeat (first | assumption | exact Below.refl _ _ | apply bl_gw | apply bl_alloc | apply bl_drewN | apply bl_drew))) b5)
      have HC5 := Lib.hid (HC.out.past B5.out)
      have HO5 := Lib.hid ((HO.out.below B5.out).more B5.out.size)
      obtain ⟨hcb, _⟩ := bcell b5
      have L2 : w5.cell? ⟨w.heap.size, 2, none⟩ = some (.int .i64 t) := by rw [hcb _ _ (by simp; omega)]; simp [go_sem]
      have L3 : w5.cell? ⟨w.heap.size, 3, none⟩ = some (.int .i64 pr) := by rw [hcb _ _ (by simp; omega)]; simp [go_sem]
      have hz5 : w.heap.size < w5.heap.size := below_lt (by simp; omega) b5
      clear hcb b5 o5 sl5
      obtain ⟨gv, hgv⟩ : ∃ gv, (serveTo t gr s gr).2 = gv := ⟨_, rfl⟩
      rw [hgv] at HE ⊢
      clear hgv c0 c1 c2 c3 c4 c5 c6 d0
      by_cases hfull : gv = t
      · have hf1 : (gv == t) = true := by simp [hfull]
        have HF := Lib.hid hfull
        have hE := Lib.hid (show bestP l ((q : Int) :: []) s = max (b1 - t * fi) (b2 + t * pr) by rw [HE.out, if_pos hfull, HB1.out, HB2.out])
        clear hfull
        go_wp2
        refine wp_region_gw (by kernel_rfl) (by kernel_rfl) ?_
        repeat (first | go_big_quiet_step ((go_at_call 70; exact quiet_gw (v := .int .i64 b2) ((HIH.out 0 HM.out _ _ _ _ _ _ _ _ (by omega) (by omega) HI.out HSI.out (S5.out.past (by repeat (first | assumption | exact Below.refl _ _ | apply bl_gw | apply bl_alloc | apply bl_drewN | apply bl_drew))) (HC5.out.past (by repeat (first | assumption | exact Below.refl _ _ | apply bl_gw | apply bl_alloc | apply bl_drewN | apply bl_drew))) (by first | exact Sl.nil_' rfl | exact sl_tailI HO5.out (by repeat (first | assumption | exact Below.refl _ _ | apply bl_gw | apply bl_alloc | apply bl_drewN | apply bl_drew)) (by simp; try omega))).mono (fun _ _ ⟨he, hb⟩ => ⟨by rw [he, HB2.out], hb⟩)))) | quiet_step ((go_at_call 70; exact quiet_gw (v := .int .i64 b2) ((HIH.out 0 HM.out _ _ _ _ _ _ _ _ (by omega) (by omega) HI.out HSI.out (S5.out.past (by repeat (first | assumption | exact Below.refl _ _ | apply bl_gw | apply bl_alloc | apply bl_drewN | apply bl_drew))) (HC5.out.past (by repeat (first | assumption | exact Below.refl _ _ | apply bl_gw | apply bl_alloc | apply bl_drewN | apply bl_drew))) (by first | exact Sl.nil_' rfl | exact sl_tailI HO5.out (by repeat (first | assumption | exact Below.refl _ _ | apply bl_gw | apply bl_alloc | apply bl_drewN | apply bl_drew)) (by simp; try omega))).mono (fun _ _ ⟨he, hb⟩ => ⟨by rw [he, HB2.out], hb⟩)))))
        refine wpQuiet_nil ?_
        rintro _ ⟨pq, rfl⟩
        go_wp2
        all_goals
          go_ret
          rw [hE.out]
          first
            | (rw [Int.max_eq_right (a := b1 - t * fi) (b := b2 + t * pr) (by omega)]; exact ⟨rfl, (by repeat (first | assumption | exact Below.refl _ _ | apply bl_gw | apply bl_alloc | apply bl_drewN | apply bl_drew))⟩)
            | (rw [Int.max_eq_left (a := b1 - t * fi) (b := b2 + t * pr) (by omega)]; exact ⟨rfl, (by repeat (first | assumption | exact Below.refl _ _ | apply bl_gw | apply bl_alloc | apply bl_drewN | apply bl_drew))⟩)
      · have hf1 : (gv == t) = false := by simpa using hfull
        have hE := Lib.hid (show bestP l ((q : Int) :: []) s = b1 - t * fi by rw [HE.out, if_neg hfull, HB1.out])
        go_wp2
        go_ret
        rw [hE.out]
        exact ⟨rfl, (by repeat (first | assumption | exact Below.refl _ _ | apply bl_gw | apply bl_alloc | apply bl_drewN | apply bl_drew))⟩
    · have HE := Lib.hid hq
      clear hq
      obtain ⟨ob, oo, rfl, hob, hos⟩ := ho.int_ (by simp)
      have d0 := hos 0 (q : Int) (by simp)
      simp only [Nat.add_zero] at d0
      obtain ⟨bk, off, rfl, hb, hcs⟩ := hc.contract (by rw [hn]; omega)
      obtain ⟨c0, c1, c2, c3, c4, c5, c6⟩ := hcs q x hx
      have HO := Lib.hid ho
      have HC := Lib.hid hc
      have HS := Lib.hid hs
      have HI := Lib.hid hin.tail
      have HIH := Lib.hid ih
      have HOK := Lib.hid hok
      have HST := Lib.hid hst
      have HN := Lib.hid hn
      have hr1 := bestP_rng hok ([]) s (by rw [hn]; exact hin.tail)
      have hr2 := bestP_rng hok ([]) (serveP s x).1 (by rw [hn]; exact hin.tail)
      rw [HM.out] at hr1 hr2
      obtain ⟨m1, m2⟩ := best_mul (hok _ _ hx)
      obtain ⟨_, ⟨g1, g4⟩, ht, _⟩ := contractOK_at (hok _ _ hx)
      have HSI := Lib.hid (serveP_in hst (hok _ _ hx)).1
      clear ho hc hs hin ih hok hst hn hcs hos hx
      obtain ⟨id, g, t, pr, fr, un, fi⟩ := x
      dsimp only at c0 c1 c2 c3 c4 c5 c6 g1 g4 ht m1 m2 HE
      obtain ⟨gr, rfl⟩ : ∃ gr : Nat, g = gr := ⟨g.toNat, by omega⟩
      have HSP := Lib.hid (show serveP s ⟨id, gr, t, pr, fr, un, fi⟩ = serveTo t gr s gr from rfl)
      rw [HSP.out] at hr2 HSI
      have HE2 := HE.out
      rw [HSP.out] at HE2
      clear HE
      have HE := Lib.hid HE2
      clear HE2
      obtain ⟨b1, hb1⟩ : ∃ b1, bestP l ([]) s = b1 := ⟨_, rfl⟩
      obtain ⟨b2, hb2⟩ : ∃ b2, bestP l ([]) (serveTo t gr s gr).1 = b2 := ⟨_, rfl⟩
      rw [hb1] at hr1
      rw [hb2] at hr2
      have HB1 := Lib.hid hb1
      have HB2 := Lib.hid hb2
      clear hb1 hb2
      have k1 : (0 : Int) < ((0 : Nat) : Int) + 1 := by omega
      have k2 : (((0 : Nat) : Int) + 1 == 0) = false := beq_eq_false_iff_ne.2 (by omega)
      have k3 : (1 : Int) ≤ ((0 : Nat) : Int) + 1 := by omega
      have k4 : (((0 : Nat) : Int) + 1) ≤ cap' := by omega
      have k5 : (1 : Int) ≤ cap' := by omega
      have k6 : (0 : Int) ≤ q := by omega
      have k7 : (q : Int) < n := by omega
      have hlt1 : 0 < 0 + 1 := by omega
      have w1' : IntKind.i64.wrap (t * fi) = t * fi := IntWalk.i64_in _ (by omega)
      have w2' : IntKind.i64.wrap (t * pr) = t * pr := IntWalk.i64_in _ (by omega)
      have w3' : IntKind.i64.wrap (b1 - t * fi) = b1 - t * fi := IntWalk.i64_in _ (by omega)
      have w4' : IntKind.i64.wrap (b2 + t * pr) = b2 + t * pr := IntWalk.i64_in _ (by omega)
      go_enter Try.func70, Try.ntmps70
      go_wp2
      refine wp_region_gw (by kernel_rfl) (by kernel_rfl) ?_
      repeat (first | go_big_quiet_step ((go_at_call 70; exact quiet_gw (v := .int .i64 b1) ((HIH.out 0 HM.out s _ _ _ _ _ _ _ (by omega) (by omega) HI.out HST.out (HS.out.past (by repeat (first | assumption | exact Below.refl _ _ | apply bl_gw | apply bl_alloc | apply bl_drewN | apply bl_drew))) (HC.out.past (by repeat (first | assumption | exact Below.refl _ _ | apply bl_gw | apply bl_alloc | apply bl_drewN | apply bl_drew))) (by first | exact Sl.nil_' rfl | exact sl_tailI HO.out (by repeat (first | assumption | exact Below.refl _ _ | apply bl_gw | apply bl_alloc | apply bl_drewN | apply bl_drew)) (by simp; omega))).mono (fun _ _ ⟨he, hb⟩ => ⟨by rw [he, HB1.out], hb⟩)))) | quiet_step ((go_at_call 70; exact quiet_gw (v := .int .i64 b1) ((HIH.out 0 HM.out s _ _ _ _ _ _ _ (by omega) (by omega) HI.out HST.out (HS.out.past (by repeat (first | assumption | exact Below.refl _ _ | apply bl_gw | apply bl_alloc | apply bl_drewN | apply bl_drew))) (HC.out.past (by repeat (first | assumption | exact Below.refl _ _ | apply bl_gw | apply bl_alloc | apply bl_drewN | apply bl_drew))) (by first | exact Sl.nil_' rfl | exact sl_tailI HO.out (by repeat (first | assumption | exact Below.refl _ _ | apply bl_gw | apply bl_alloc | apply bl_drewN | apply bl_drew)) (by simp; omega))).mono (fun _ _ ⟨he, hb⟩ => ⟨by rw [he, HB1.out], hb⟩)))))
      refine wpQuiet_nil ?_
      rintro _ ⟨pq, rfl⟩
      go_wp2_with fail
      refine (serve_any s HST.out _ _ id t pr fr un fi gr _ (by omega) (by omega) (by omega) (HS.out.past (by repeat (first | assumption | exact Below.refl _ _ | apply bl_gw | apply bl_alloc | apply bl_drewN | apply bl_drew)))).mono ?_
      rintro e w5 ⟨v5, rfl, o5, b5⟩
      obtain ⟨A5, cc5, rfl, _, _, sl5⟩ := o5.slice
      rw [HSI.out.1]
      have S5 := Lib.hid sl5
      have B5 := Lib.hid (below_step (show Below w.heap.size w _ from (by repeat (first | assumption | exact Below.refl _ _ | apply bl_gw | apply bl_alloc | apply bl_drewN | apply bl_drew))) b5)
      have HC5 := Lib.hid (HC.out.past B5.out)
      have HO5 := Lib.hid ((HO.out.below B5.out).more B5.out.size)
      obtain ⟨hcb, _⟩ := bcell b5
      have L2 : w5.cell? ⟨w.heap.size, 2, none⟩ = some (.int .i64 t) := by rw [hcb _ _ (by simp; omega)]; simp [go_sem]
      have L3 : w5.cell? ⟨w.heap.size, 3, none⟩ = some (.int .i64 pr) := by rw [hcb _ _ (by simp; omega)]; simp [go_sem]
      have hz5 : w.heap.size < w5.heap.size := below_lt (by simp; omega) b5
      clear hcb b5 o5 sl5
      obtain ⟨gv, hgv⟩ : ∃ gv, (serveTo t gr s gr).2 = gv := ⟨_, rfl⟩
      rw [hgv] at HE ⊢
      clear hgv c0 c1 c2 c3 c4 c5 c6 d0
      by_cases hfull : gv = t
      · have hf1 : (gv == t) = true := by simp [hfull]
        have HF := Lib.hid hfull
        have hE := Lib.hid (show bestP l ((q : Int) :: []) s = max (b1 - t * fi) (b2 + t * pr) by rw [HE.out, if_pos hfull, HB1.out, HB2.out])
        clear hfull
        go_wp2
        refine wp_region_gw (by kernel_rfl) (by kernel_rfl) ?_
        repeat (first | go_big_quiet_step ((go_at_call 70; exact quiet_gw (v := .int .i64 b2) ((HIH.out 0 HM.out _ _ _ _ _ _ _ _ (by omega) (by omega) HI.out HSI.out (S5.out.past (by repeat (first | assumption | exact Below.refl _ _ | apply bl_gw | apply bl_alloc | apply bl_drewN | apply bl_drew))) (HC5.out.past (by repeat (first | assumption | exact Below.refl _ _ | apply bl_gw | apply bl_alloc | apply bl_drewN | apply bl_drew))) (by first | exact Sl.nil_' rfl | exact sl_tailI HO5.out (by repeat (first | assumption | exact Below.refl _ _ | apply bl_gw | apply bl_alloc | apply bl_drewN | apply bl_drew)) (by simp; try omega))).mono (fun _ _ ⟨he, hb⟩ => ⟨by rw [he, HB2.out], hb⟩)))) | quiet_step ((go_at_call 70; exact quiet_gw (v := .int .i64 b2) ((HIH.out 0 HM.out _ _ _ _ _ _ _ _ (by omega) (by omega) HI.out HSI.out (S5.out.past (by repeat (first | assumption | exact Below.refl _ _ | apply bl_gw | apply bl_alloc | apply bl_drewN | apply bl_drew))) (HC5.out.past (by repeat (first | assumption | exact Below.refl _ _ | apply bl_gw | apply bl_alloc | apply bl_drewN | apply bl_drew))) (by first | exact Sl.nil_' rfl | exact sl_tailI HO5.out (by repeat (first | assumption | exact Below.refl _ _ | apply bl_gw | apply bl_alloc | apply bl_drewN | apply bl_drew)) (by simp; try omega))).mono (fun _ _ ⟨he, hb⟩ => ⟨by rw [he, HB2.out], hb⟩)))))
        refine wpQuiet_nil ?_
        rintro _ ⟨pq, rfl⟩
        go_wp2
        all_goals
          go_ret
          rw [hE.out]
          first
            | (rw [Int.max_eq_right (a := b1 - t * fi) (b := b2 + t * pr) (by omega)]; exact ⟨rfl, (by repeat (first | assumption | exact Below.refl _ _ | apply bl_gw | apply bl_alloc | apply bl_drewN | apply bl_drew))⟩)
            | (rw [Int.max_eq_left (a := b1 - t * fi) (b := b2 + t * pr) (by omega)]; exact ⟨rfl, (by repeat (first | assumption | exact Below.refl _ _ | apply bl_gw | apply bl_alloc | apply bl_drewN | apply bl_drew))⟩)
      · have hf1 : (gv == t) = false := by simpa using hfull
        have hE := Lib.hid (show bestP l ((q : Int) :: []) s = b1 - t * fi by rw [HE.out, if_neg hfull, HB1.out])
        go_wp2
        go_ret
        rw [hE.out]
        exact ⟨rfl, (by repeat (first | assumption | exact Below.refl _ _ | apply bl_gw | apply bl_alloc | apply bl_drewN | apply bl_drew))⟩
  | q' :: r1 :: r', k, hk, s, As, A, Ao, cs, cap, cap', w, hk10, hcap, hin, hst, hs, hc, ho => by
    have ih := bestServed_any l n hn hn10 hok (r1 :: r')
    obtain ⟨r, hr⟩ : ∃ r, r1 :: r' = r := ⟨_, rfl⟩
    have hr1 : 1 ≤ r.length := by rw [← hr]; simp
    rw [hr] at hin ho hk ih ⊢
    clear hr
    obtain ⟨m, hm⟩ : ∃ m, r.length = m := ⟨_, rfl⟩
    obtain rfl : k = m + 1 := by rw [← hk, ← hm]; rfl
    have HM := Lib.hid hm
    have hm1 : 1 ≤ m := by omega
    clear hr1 hm hk
    have hc1 : ¬ cap' = 1 := by omega
    obtain ⟨q, rfl⟩ : ∃ q : Nat, q' = q := ⟨q'.toNat, by have := hin q' (by simp); omega⟩
    have hqn : q < n := by have := hin q (by simp); omega
    have hx : l[q]? = some (l[q]'(by rw [hn]; exact hqn)) := List.getElem?_eq_getElem _
    have hq := bestP_cons (r := r) (s := s) hx
    generalize l[q]'(by rw [hn]; exact hqn) = x at hx hq
    have HE := Lib.hid hq
    clear hq
    obtain ⟨ob, oo, rfl, hob, hos⟩ := ho.int_ (by simp)
    have d0 := hos 0 (q : Int) (by simp)
    simp only [Nat.add_zero] at d0
    obtain ⟨bk, off, rfl, hb, hcs⟩ := hc.contract (by rw [hn]; omega)
    obtain ⟨c0, c1, c2, c3, c4, c5, c6⟩ := hcs q x hx
    have HO := Lib.hid ho
    have HC := Lib.hid hc
    have HS := Lib.hid hs
    have HI := Lib.hid hin.tail
    have HIH := Lib.hid ih
    have HOK := Lib.hid hok
    have HST := Lib.hid hst
    have HN := Lib.hid hn
    have hr1 := bestP_rng hok (r) s (by rw [hn]; exact hin.tail)
    have hr2 := bestP_rng hok (r) (serveP s x).1 (by rw [hn]; exact hin.tail)
    rw [HM.out] at hr1 hr2
    obtain ⟨m1, m2⟩ := best_mul (hok _ _ hx)
    obtain ⟨_, ⟨g1, g4⟩, ht, _⟩ := contractOK_at (hok _ _ hx)
    have HSI := Lib.hid (serveP_in hst (hok _ _ hx)).1
    clear ho hc hs hin ih hok hst hn hcs hos hx
    obtain ⟨id, g, t, pr, fr, un, fi⟩ := x
    dsimp only at c0 c1 c2 c3 c4 c5 c6 g1 g4 ht m1 m2 HE
    obtain ⟨gr, rfl⟩ : ∃ gr : Nat, g = gr := ⟨g.toNat, by omega⟩
    have HSP := Lib.hid (show serveP s ⟨id, gr, t, pr, fr, un, fi⟩ = serveTo t gr s gr from rfl)
    rw [HSP.out] at hr2 HSI
    have HE2 := HE.out
    rw [HSP.out] at HE2
    clear HE
    have HE := Lib.hid HE2
    clear HE2
    obtain ⟨b1, hb1⟩ : ∃ b1, bestP l (r) s = b1 := ⟨_, rfl⟩
    obtain ⟨b2, hb2⟩ : ∃ b2, bestP l (r) (serveTo t gr s gr).1 = b2 := ⟨_, rfl⟩
    rw [hb1] at hr1
    rw [hb2] at hr2
    have HB1 := Lib.hid hb1
    have HB2 := Lib.hid hb2
    clear hb1 hb2
    have k1 : (0 : Int) < ((m : Nat) : Int) + 1 := by omega
    have k2 : (((m : Nat) : Int) + 1 == 0) = false := beq_eq_false_iff_ne.2 (by omega)
    have k3 : (1 : Int) ≤ ((m : Nat) : Int) + 1 := by omega
    have k4 : (((m : Nat) : Int) + 1) ≤ cap' := by omega
    have k5 : (1 : Int) ≤ cap' := by omega
    have k6 : (0 : Int) ≤ q := by omega
    have k7 : (q : Int) < n := by omega
    have hlt1 : 0 < m + 1 := by omega
    have w1' : IntKind.i64.wrap (t * fi) = t * fi := IntWalk.i64_in _ (by omega)
    have w2' : IntKind.i64.wrap (t * pr) = t * pr := IntWalk.i64_in _ (by omega)
    have w3' : IntKind.i64.wrap (b1 - t * fi) = b1 - t * fi := IntWalk.i64_in _ (by omega)
    have w4' : IntKind.i64.wrap (b2 + t * pr) = b2 + t * pr := IntWalk.i64_in _ (by omega)
    go_enter Try.func70, Try.ntmps70
    go_wp2
    refine wp_region_gw (by kernel_rfl) (by kernel_rfl) ?_
    repeat (first | go_big_quiet_step ((go_at_call 70; exact quiet_gw (v := .int .i64 b1) ((HIH.out m HM.out s _ _ _ _ _ _ _ (by omega) (by omega) HI.out HST.out (HS.out.past (by repeat (first | assumption | exact Below.refl _ _ | apply bl_gw | apply bl_alloc | apply bl_drewN | apply bl_drew))) (HC.out.past (by repeat (first | assumption | exact Below.refl _ _ | apply bl_gw | apply bl_alloc | apply bl_drewN | apply bl_drew))) (by first | exact Sl.nil_' rfl | exact sl_tailI HO.out (by repeat (first | assumption | exact Below.refl _ _ | apply bl_gw | apply bl_alloc | apply bl_drewN | apply bl_drew)) (by simp; omega))).mono (fun _ _ ⟨he, hb⟩ => ⟨by rw [he, HB1.out], hb⟩)))) | quiet_step ((go_at_call 70; exact quiet_gw (v := .int .i64 b1) ((HIH.out m HM.out s _ _ _ _ _ _ _ (by omega) (by omega) HI.out HST.out (HS.out.past (by repeat (first | assumption | exact Below.refl _ _ | apply bl_gw | apply bl_alloc | apply bl_drewN | apply bl_drew))) (HC.out.past (by repeat (first | assumption | exact Below.refl _ _ | apply bl_gw | apply bl_alloc | apply bl_drewN | apply bl_drew))) (by first | exact Sl.nil_' rfl | exact sl_tailI HO.out (by repeat (first | assumption | exact Below.refl _ _ | apply bl_gw | apply bl_alloc | apply bl_drewN | apply bl_drew)) (by simp; omega))).mono (fun _ _ ⟨he, hb⟩ => ⟨by rw [he, HB1.out], hb⟩)))))
    refine wpQuiet_nil ?_
    rintro _ ⟨pq, rfl⟩
    go_wp2_with fail
    refine (serve_any s HST.out _ _ id t pr fr un fi gr _ (by omega) (by omega) (by omega) (HS.out.past (by repeat (first | assumption | exact Below.refl _ _ | apply bl_gw | apply bl_alloc | apply bl_drewN | apply bl_drew)))).mono ?_
    rintro e w5 ⟨v5, rfl, o5, b5⟩
    obtain ⟨A5, cc5, rfl, _, _, sl5⟩ := o5.slice
    rw [HSI.out.1]
    have S5 := Lib.hid sl5
    have B5 := Lib.hid (below_step (show Below w.heap.size w _ from (by repeat (first | assumption | exact Below.refl _ _ | apply bl_gw | apply bl_alloc | apply bl_drewN | apply bl_drew))) b5)
    have HC5 := Lib.hid (HC.out.past B5.out)
    have HO5 := Lib.hid ((HO.out.below B5.out).more B5.out.size)
    obtain ⟨hcb, _⟩ := bcell b5
    have L2 : w5.cell? ⟨w.heap.size, 2, none⟩ = some (.int .i64 t) := by rw [hcb _ _ (by simp; omega)]; simp [go_sem]
    have L3 : w5.cell? ⟨w.heap.size, 3, none⟩ = some (.int .i64 pr) := by rw [hcb _ _ (by simp; omega)]; simp [go_sem]
    have hz5 : w.heap.size < w5.heap.size := below_lt (by simp; omega) b5
    clear hcb b5 o5 sl5
    obtain ⟨gv, hgv⟩ : ∃ gv, (serveTo t gr s gr).2 = gv := ⟨_, rfl⟩
    rw [hgv] at HE ⊢
    clear hgv c0 c1 c2 c3 c4 c5 c6 d0
    by_cases hfull : gv = t
    · have hf1 : (gv == t) = true := by simp [hfull]
      have HF := Lib.hid hfull
      have hE := Lib.hid (show bestP l ((q : Int) :: r) s = max (b1 - t * fi) (b2 + t * pr) by rw [HE.out, if_pos hfull, HB1.out, HB2.out])
      clear hfull
      go_wp2
      refine wp_region_gw (by kernel_rfl) (by kernel_rfl) ?_
      repeat (first | go_big_quiet_step ((go_at_call 70; exact quiet_gw (v := .int .i64 b2) ((HIH.out m HM.out _ _ _ _ _ _ _ _ (by omega) (by omega) HI.out HSI.out (S5.out.past (by repeat (first | assumption | exact Below.refl _ _ | apply bl_gw | apply bl_alloc | apply bl_drewN | apply bl_drew))) (HC5.out.past (by repeat (first | assumption | exact Below.refl _ _ | apply bl_gw | apply bl_alloc | apply bl_drewN | apply bl_drew))) (by first | exact Sl.nil_' rfl | exact sl_tailI HO5.out (by repeat (first | assumption | exact Below.refl _ _ | apply bl_gw | apply bl_alloc | apply bl_drewN | apply bl_drew)) (by simp; try omega))).mono (fun _ _ ⟨he, hb⟩ => ⟨by rw [he, HB2.out], hb⟩)))) | quiet_step ((go_at_call 70; exact quiet_gw (v := .int .i64 b2) ((HIH.out m HM.out _ _ _ _ _ _ _ _ (by omega) (by omega) HI.out HSI.out (S5.out.past (by repeat (first | assumption | exact Below.refl _ _ | apply bl_gw | apply bl_alloc | apply bl_drewN | apply bl_drew))) (HC5.out.past (by repeat (first | assumption | exact Below.refl _ _ | apply bl_gw | apply bl_alloc | apply bl_drewN | apply bl_drew))) (by first | exact Sl.nil_' rfl | exact sl_tailI HO5.out (by repeat (first | assumption | exact Below.refl _ _ | apply bl_gw | apply bl_alloc | apply bl_drewN | apply bl_drew)) (by simp; try omega))).mono (fun _ _ ⟨he, hb⟩ => ⟨by rw [he, HB2.out], hb⟩)))))
      refine wpQuiet_nil ?_
      rintro _ ⟨pq, rfl⟩
      go_wp2
      all_goals
        go_ret
        rw [hE.out]
        first
          | (rw [Int.max_eq_right (a := b1 - t * fi) (b := b2 + t * pr) (by omega)]; exact ⟨rfl, (by repeat (first | assumption | exact Below.refl _ _ | apply bl_gw | apply bl_alloc | apply bl_drewN | apply bl_drew))⟩)
          | (rw [Int.max_eq_left (a := b1 - t * fi) (b := b2 + t * pr) (by omega)]; exact ⟨rfl, (by repeat (first | assumption | exact Below.refl _ _ | apply bl_gw | apply bl_alloc | apply bl_drewN | apply bl_drew))⟩)
    · have hf1 : (gv == t) = false := by simpa using hfull
      have hE := Lib.hid (show bestP l ((q : Int) :: r) s = b1 - t * fi by rw [HE.out, if_neg hfull, HB1.out])
      go_wp2
      go_ret
      rw [hE.out]
      exact ⟨rfl, (by repeat (first | assumption | exact Below.refl _ _ | apply bl_gw | apply bl_alloc | apply bl_drewN | apply bl_drew))⟩
end Go.Proofs.Ytcljfdpjlkaagaa
