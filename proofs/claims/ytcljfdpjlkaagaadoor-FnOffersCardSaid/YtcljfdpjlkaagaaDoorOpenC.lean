/- Contracts: which are open on a day, by the reference. -/
import Derived.Test.YtcljfdpjlkaagaaDoorOpenB
namespace Go.Proofs.YtcljfdpjlkaagaaDoor
open Go.RowKit
theorem sl_tailC {w w' : World} {g k c : Nat} {S : List Contract} (h : Sl encContract w w.heap.size (some ⟨g, 0, none⟩) S) (hS : S.length = k) (hk : k ≤ c) (p : Nat) (hb : Below w.heap.size w w') : Sl encContract w' w.heap.size (if c = p then some ⟨g, 0, none⟩ else some ⟨g, p * 7, none⟩) (S.drop p) := by
  split
  · exact Sl.nil_' (List.drop_eq_nil_of_le (by omega))
  · have := (h.drop_ p).below hb
    simpa [encContract] using this
set_option maxRecDepth 4000 in
set_option maxHeartbeats 16000000 in
theorem spec_OpenOn_any (l : List Contract) (n : Nat) (hn : l.length = n) (A : Option Addr) (cap : Nat) (day : Int) (w : World) (hl : n ≤ 1048576) (hc : Sl encContract w w.heap.size A l) :
    Calls Tryd.prog 11 #[.slice A n cap, .int .i64 day] w fun e w' => ∃ v, e = .returned (.tuple #[v, .bool (openOK l day)]) ∧ Own encInt w' w.heap.size 3 v (openP l day) ∧ Below w.heap.size w w' := by
  have HC := Lib.hid hc; clear hc
  have HN := Lib.hid hn; clear hn
  have OO := Lib.hid (show Own encInt (w.alloc (.cells #[] 3)) w.heap.size 3 (.slice (some ⟨w.heap.size, 0, none⟩) 0 0) [] from Own.nil_ (Nat.le_refl _) _)
  rcases sp2 (areContracts l) (inB day 0 4000) with t1 | ⟨t1, t2⟩ | ⟨t1, t2⟩
  · have hq : openOK l day = false := by simp [openOK, t1]
    have hp : openP l day = [] := by simp [openP, hq]
    rw [hq, hp]
    clear hq hp
    go_enter Tryd.func11, Tryd.ntmps11
    go_wp2_with fail
    refine (l18Good_any l n HN.out _ _ _ hl (HC.out.past (bl_alloc (Below.refl _ _) _))).mono ?_
    rintro e w1 ⟨rfl, b1⟩
    rw [t1]
    have B1 := Lib.hid (below_step (bl_alloc (Below.refl w.heap.size w) _) b1)
    have BB1 := Lib.hid b1
    clear b1
    go_wp2
    go_ret2
    exact ⟨_, rfl, OO.out.past BB1.out (Nat.le_refl _), B1.out⟩
  · have hq : openOK l day = false := by simp [openOK, t2]
    have hp : openP l day = [] := by simp [openP, hq]
    rw [hq, hp]
    clear hq hp
    go_enter Tryd.func11, Tryd.ntmps11
    go_wp2_with fail
    refine (l18Good_any l n HN.out _ _ _ hl (HC.out.past (bl_alloc (Below.refl _ _) _))).mono ?_
    rintro e w1 ⟨rfl, b1⟩
    rw [t1]
    have B1 := Lib.hid (below_step (bl_alloc (Below.refl w.heap.size w) _) b1)
    have BB1 := Lib.hid b1
    clear b1
    go_wp2_with fail
    refine (l2Day_any _ _).mono ?_
    rintro e w1' ⟨rfl, rfl⟩
    rw [t2]
    go_wp2
    go_ret2
    exact ⟨_, rfl, OO.out.past BB1.out (Nat.le_refl _), B1.out⟩
  · have hq : openOK l day = true := by simp [openOK, t1, t2]
    have HQ := Lib.hid hq
    have HPd := Lib.hid (show openP l day = idsTo (insTo (openTo l day n) (openTo l day n).length) (openTo l day n).length by rw [openP, if_pos hq, HN.out])
    have hn10 : n ≤ 10 := by have := areContracts_len t1; rw [HN.out] at this; exact this
    clear hq
    obtain ⟨i0, hinf, hz0, hz1, hz2⟩ := info_parts info_Int
    obtain ⟨j0, hinf', hy0, hy1, hy2⟩ := info_parts info_Contract
    go_enter Tryd.func11, Tryd.ntmps11
    go_wp2_with fail
    refine (l18Good_any l n HN.out _ _ _ hl (HC.out.past (bl_alloc (Below.refl _ _) _))).mono ?_
    rintro e w1 ⟨rfl, b1⟩
    rw [t1]
    have B1 := Lib.hid (below_step (bl_alloc (Below.refl w.heap.size w) _) b1)
    have BB1 := Lib.hid b1
    clear b1
    go_wp2_with fail
    refine (l2Day_any _ _).mono ?_
    rintro e w1' ⟨rfl, rfl⟩
    rw [t2]
    have OO1 := Lib.hid (OO.out.past BB1.out (Nat.le_refl _))
    have hzw : w.heap.size < w1.heap.size := by have := BB1.out.size; simp at this; omega
    clear t1 t2
    go_wp2
    go_loopw [7, 8] (fun u j wr => ∃ k g m c : Nat, k ≤ n ∧ j = .int .i64 k ∧ u = .slice (some ⟨g, 0, none⟩) m c ∧ (openTo l day k).length = m ∧ Own encContract wr w1.heap.size 26 (.slice (some ⟨g, 0, none⟩) m c) (insTo (openTo l day k) m) ∧ Below w1.heap.size w1 wr) (fun _ j _ => n - (intOf j).toNat)
    case atStart => exact ⟨0, _, 0, _, Nat.zero_le _, rfl, rfl, rfl, Own.nil_ (Nat.le_refl _) _, bl_alloc (Below.refl _ _) _⟩
    case round =>
      obtain ⟨k, g, m, cu, hk, rfl, rfl, hm, ho, hbel⟩ := hrel
      have HO := Lib.hid ho
      have HBB := Lib.hid hbel
      have HB := Lib.hid (B1.out.trans (hbel.mono (Nat.le_of_lt hzw)))
      have HM := Lib.hid hm
      have hz := hbel.size
      have hmk : m ≤ k := by have := openTo_length l day k; omega
      by_cases hlt : k < n
      · have hcu := ho.cap
        have hgo := ho.hi ⟨g, 0, none⟩ rfl
        obtain ⟨bk, off, rfl, hb, hcs⟩ := HC.out.contract (by rw [HN.out]; omega)
        have hx : l[k]? = some (l[k]'(by rw [HN.out]; exact hlt)) := List.getElem?_eq_getElem _
        generalize l[k]'(by rw [HN.out]; exact hlt) = x at hx
        obtain ⟨c0, c1, c2, c3, c4, c5, c6⟩ := hcs k x hx
        have hop : openTo l day (k + 1) = if inB day x.first x.last then openTo l day k ++ [x] else openTo l day k := by rw [openTo_succ, List.getElem!_of_getElem? hx]
        have HOP := Lib.hid hop
        obtain ⟨S, hS⟩ : ∃ S, insTo (openTo l day k) m = S := ⟨_, rfl⟩
        have HSn := Lib.hid (show S.length = m by rw [← hS]; exact insTo_length _ _)
        rw [← HB.out.cell hb] at c0 c1 c2 c3 c4 c5 c6
        have hsn := insTo_snoc (openTo l day k) x
        rw [hm, hS] at hsn
        have HSN := Lib.hid hsn
        rw [hS] at HO
        have HSe := Lib.hid hS
        clear hcs hx ho hbel hop hm hsn hS
        obtain ⟨x1, x2, x3, x4, x5, x6, x7⟩ := x
        dsimp only at c0 c1 c2 c3 c4 c5 c6 HOP HSN
        have hbw : bk < wr.heap.size := by have := HB.out.size; omega
        have k1 : (k : Int) < n := by omega
        have k2 : (0 : Int) ≤ k := by omega
        rcases sp1 (inB day x5 x6) with q | q
        · go_wp2
          refine wp_region_gw (by kernel_rfl) (by kernel_rfl) ?_
          repeat (first | go_big_quiet_step ((go_at_call 34; exact quiet_gw_same (l1In_q (by assumption) _))) | quiet_step ((go_at_call 34; exact quiet_gw_same (l1In_q (by assumption) _))))
          refine wpQuiet_nil ?_
          rintro _ ⟨pq, rfl⟩
          go_wp2
          go_roundw
          case rel => exact ⟨k + 1, g, m, cu, by omega, by go_num, rfl, by rw [HOP.out, q]; exact HM.out, by rw [HOP.out, q]; rw [show (if false = true then openTo l day k ++ [(⟨x1, x2, x3, x4, x5, x6, x7⟩ : Contract)] else openTo l day k) = openTo l day k from rfl, HSe.out]; exact HO.out.past (by repeat (first | assumption | exact Below.refl _ _ | apply bl_gw | apply bl_alloc | apply bl_drewN | apply bl_drew)) (Nat.le_refl _), HBB.out.trans ((show Below wr.heap.size wr _ from (by repeat (first | assumption | exact Below.refl _ _ | apply bl_gw | apply bl_alloc | apply bl_drewN | apply bl_drew))).mono hz)⟩
          case measure => simp [intOf]; omega
        · have HOP2 := Lib.hid (show openTo l day (k + 1) = openTo l day k ++ [(⟨x1, x2, x3, x4, x5, x6, x7⟩ : Contract)] by rw [HOP.out, q]; rfl)
          have HM1 := Lib.hid (show (openTo l day (k + 1)).length = m + 1 by rw [HOP2.out, List.length_append, HM.out]; rfl)
          have HNX := Lib.hid (show insTo (openTo l day (k + 1)) (m + 1) = insAt S (posDown (fun j => decide (S[j]!.price < x4)) m) ⟨x1, x2, x3, x4, x5, x6, x7⟩ by rw [HOP2.out]; exact HSN.out)
          go_wp2
          refine wp_region_gw (by kernel_rfl) (by kernel_rfl) ?_
          repeat (first | go_big_quiet_step ((go_at_call 34; exact quiet_gw_same (l1In_q (by assumption) _))) | quiet_step ((go_at_call 34; exact quiet_gw_same (l1In_q (by assumption) _))))
          refine wpQuiet_nil ?_
          rintro _ ⟨pq, rfl⟩
          go_wp2
          refine wp_name (fun W9 hW9 => ?_)
          have hB9 : Below wr.heap.size wr W9 := by rw [hW9]; exact (by repeat (first | assumption | exact Below.refl _ _ | apply bl_gw | apply bl_alloc | apply bl_drewN | apply bl_drew))
          have HO9 := Lib.hid (HO.out.past hB9 (Nat.le_refl _))
          rw [← hB9.cell (by exact hbw)] at c0 c1 c2 c3 c4 c5 c6
          have HBB9 := Lib.hid (HBB.out.trans (hB9.mono hz))
          have hz9 := hB9.size
          have hbw9 : bk < W9.heap.size := by omega
          have hgo9 : g < W9.heap.size := by omega
          have hzB9 : w1.heap.size ≤ W9.heap.size := by omega
          clear hW9 hB9 HO HBB HB hbw hgo
          have HO := HO9
          have HBB := HBB9
          have hbw := hbw9
          have hgo := hgo9
          have hzB := hzB9
          clear HO9 HBB9
          obtain ⟨wo, rfl⟩ : ∃ wo : World, wo = W9 := ⟨_, rfl⟩
          have E0 := Lib.hid c0; have E1 := Lib.hid c1; have E2 := Lib.hid c2; have E3 := Lib.hid c3; have E4 := Lib.hid c4; have E5 := Lib.hid c5; have E6 := Lib.hid c6
          clear c0 c1 c2 c3 c4 c5 c6
          go_loopw [9] (fun j wr => ∃ p : Nat, p ≤ m ∧ j = .int .i64 p ∧ posDown (fun j => decide (S[j]!.price < x4)) p = posDown (fun j => decide (S[j]!.price < x4)) m ∧ Below wo.heap.size wo wr) (fun j _ => (intOf j).toNat)
          case atStart => exact ⟨m, Nat.le_refl _, rfl, rfl, Below.refl _ _⟩
          case round =>
            obtain ⟨p, hp, rfl, hpd, hb2⟩ := hrel
            have hz2' := hb2.size
            have HPD := Lib.hid hpd
            clear hpd
            rcases (show p = 0 ∨ ∃ q, p = q + 1 from by rcases p with _ | q; exact .inl rfl; exact .inr ⟨q, rfl⟩) with hp0 | ⟨q', hpq⟩
            · have hn0 : decide ((0 : Int) < (p : Int)) = false := decide_eq_false (by omega)
              have hn1 : decide (0 < p) = false := decide_eq_false (by omega)
              have HPOS := Lib.hid (show posDown (fun j => decide (S[j]!.price < x4)) m = p by rw [← HPD.out, hp0]; rfl)
              clear hp0
              go_wp2
              refine wp_region_gw (by kernel_rfl) (by kernel_rfl) ?_
              repeat (first | go_big_quiet_step ((fail)) | quiet_step ((fail)))
              refine wpQuiet_nil ?_
              rintro _ ⟨pq, rfl⟩
              go_wp2
              refine wp_name (fun W0 hW0 => ?_)
              have hB0 : Below wo.heap.size wo W0 := by rw [hW0]; exact (by repeat (first | assumption | exact Below.refl _ _ | apply bl_gw | apply bl_alloc | apply bl_drewN | apply bl_drew))
              have HOW := Lib.hid (HO.out.past hB0 (Nat.le_refl _))
              have HBW := Lib.hid (HBB.out.trans (hB0.mono hzB))
              have hz0' := HBW.out.size
              have hzW := hB0.size
              have hbW : bk < W0.heap.size := by omega
              have e0 : W0.cell? ⟨bk, off + k * 7, none⟩ = some (.int .i64 x1) := (hB0.cell (p := ⟨bk, off + k * 7, none⟩) hbw).trans E0.out
              have e1 : W0.cell? ⟨bk, off + k * 7 + 1, none⟩ = some (.int .i64 x2) := (hB0.cell (p := ⟨bk, off + k * 7 + 1, none⟩) hbw).trans E1.out
              have e2 : W0.cell? ⟨bk, off + k * 7 + 2, none⟩ = some (.int .i64 x3) := (hB0.cell (p := ⟨bk, off + k * 7 + 2, none⟩) hbw).trans E2.out
              have e3 : W0.cell? ⟨bk, off + k * 7 + 3, none⟩ = some (.int .i64 x4) := (hB0.cell (p := ⟨bk, off + k * 7 + 3, none⟩) hbw).trans E3.out
              have e4 : W0.cell? ⟨bk, off + k * 7 + 4, none⟩ = some (.int .i64 x5) := (hB0.cell (p := ⟨bk, off + k * 7 + 4, none⟩) hbw).trans E4.out
              have e5 : W0.cell? ⟨bk, off + k * 7 + 5, none⟩ = some (.int .i64 x6) := (hB0.cell (p := ⟨bk, off + k * 7 + 5, none⟩) hbw).trans E5.out
              have e6 : W0.cell? ⟨bk, off + k * 7 + 6, none⟩ = some (.int .i64 x7) := (hB0.cell (p := ⟨bk, off + k * 7 + 6, none⟩) hbw).trans E6.out
              clear hW0 hB0
              have g1 : (p : Int) ≤ cu := by omega
              have g2 : (0 : Int) ≤ (p : Int) := by omega
              have g3 : (p : Int) ≤ m := by omega
              have g4 : ((p : Nat) : Int).toNat = p := by omega
              have HTk := Lib.hid (show (S.take p).length = p by rw [List.length_take, HSn.out]; omega)
              have HTd := Lib.hid (show (S.drop p).length = m - p by rw [List.length_drop, HSn.out])
              have HST := Lib.hid (HOW.out.rd.take p)
              have BA1 := Lib.hid (show Below W0.heap.size W0 (W0.alloc (.cells #[] 26)).drew from (by repeat (first | assumption | exact Below.refl _ _ | apply bl_gw | apply bl_alloc | apply bl_drewN | apply bl_drew)))
              have OA1 := Lib.hid (show Own encContract (W0.alloc (.cells #[] 26)).drew W0.heap.size 26 (.slice (some ⟨W0.heap.size, 0, none⟩) 0 0) [] from by exact (Own.nil_ (w := W0) (Nat.le_refl _) _).past (bl_drew (Below.refl _ _)) (Nat.le_refl _))
              have BA2 := Lib.hid (show Below W0.heap.size W0 ((W0.alloc (.cells #[] 26)).alloc (.cells #[.int .i64 x1, .int .i64 x2, .int .i64 x3, .int .i64 x4, .int .i64 x5, .int .i64 x6, .int .i64 x7] 26)).drew from (by repeat (first | assumption | exact Below.refl _ _ | apply bl_gw | apply bl_alloc | apply bl_drewN | apply bl_drew)))
              have OA2 := Lib.hid (show Own encContract ((W0.alloc (.cells #[] 26)).alloc (.cells #[.int .i64 x1, .int .i64 x2, .int .i64 x3, .int .i64 x4, .int .i64 x5, .int .i64 x6, .int .i64 x7] 26)).drew W0.heap.size 26 (.slice (some ⟨W0.heap.size, 0, none⟩) 0 0) [] from by exact (Own.nil_ (w := W0) (Nat.le_refl _) _).past (bl_drew (bl_alloc (Below.refl _ _) _)) (Nat.le_refl _))
              have BB := Lib.hid (show Below W0.heap.size W0 ((W0.alloc (.cells #[.int .i64 x1, .int .i64 x2, .int .i64 x3, .int .i64 x4, .int .i64 x5, .int .i64 x6, .int .i64 x7] 26)).alloc (.cells #[] 26)).drew from (by repeat (first | assumption | exact Below.refl _ _ | apply bl_gw | apply bl_alloc | apply bl_drewN | apply bl_drew)))
              have OB := Lib.hid (show Own encContract ((W0.alloc (.cells #[.int .i64 x1, .int .i64 x2, .int .i64 x3, .int .i64 x4, .int .i64 x5, .int .i64 x6, .int .i64 x7] 26)).alloc (.cells #[] 26)).drew W0.heap.size 26 (.slice (some ⟨W0.heap.size + 1, 0, none⟩) 0 0) [] from by have q := (Own.nil_ (E := encContract) (w := W0.alloc (.cells #[.int .i64 x1, .int .i64 x2, .int .i64 x3, .int .i64 x4, .int .i64 x5, .int .i64 x6, .int .i64 x7] 26)) (base := W0.heap.size) (by simp) 26).past (bl_drew (Below.refl _ _)) (Nat.le_refl _); rw [alloc_size] at q; exact q)
              have KA2 := Lib.hid (show Blk ((W0.alloc (.cells #[] 26)).alloc (.cells #[.int .i64 x1, .int .i64 x2, .int .i64 x3, .int .i64 x4, .int .i64 x5, .int .i64 x6, .int .i64 x7] 26)).drew (W0.heap.size + 1) 26 #[.int .i64 x1, .int .i64 x2, .int .i64 x3, .int .i64 x4, .int .i64 x5, .int .i64 x6, .int .i64 x7] from by have q := (Blk.new (W0.alloc (.cells #[] 26)) 26 #[.int .i64 x1, .int .i64 x2, .int .i64 x3, .int .i64 x4, .int .i64 x5, .int .i64 x6, .int .i64 x7]).past (bl_drew (Below.refl _ _)); rw [alloc_size] at q; exact q)
              have KB := Lib.hid (show Blk ((W0.alloc (.cells #[.int .i64 x1, .int .i64 x2, .int .i64 x3, .int .i64 x4, .int .i64 x5, .int .i64 x6, .int .i64 x7] 26)).alloc (.cells #[] 26)).drew (W0.heap.size) 26 #[.int .i64 x1, .int .i64 x2, .int .i64 x3, .int .i64 x4, .int .i64 x5, .int .i64 x6, .int .i64 x7] from (Blk.new W0 26 #[.int .i64 x1, .int .i64 x2, .int .i64 x3, .int .i64 x4, .int .i64 x5, .int .i64 x6, .int .i64 x7]).past (bl_drew (bl_alloc (Below.refl _ _) _)))
              go_region_law (first | (refine step_app (E := encContract) rfl (.tmp 61) (.tmp 64) 31 rfl W0.heap.size 26 j0 _ 56 Tryd.underlying31 hinf' hy0 hy1 hy2 rfl (by decide) (.slice (some ⟨W0.heap.size, 0, none⟩) 0 0) [] rfl OA1.out W0.heap.size (some ⟨g, 0, none⟩) p cu (S.take p) rfl HTk.out (HST.out.below BA1.out) (by simp [maxLen]; omega) (by simp; omega) BA1.out.size ?_; intro v1 w1' o1 g1' d1; have O1 := Lib.hid o1; have B1' := Lib.hid (below_grownB BA1.out g1' BA1.out.size OA1.out.row); have e0' : w1'.cell? ⟨bk, off + k * 7, none⟩ = some (.int .i64 x1) := (B1'.out.cell (p := ⟨bk, off + k * 7, none⟩) hbW).trans e0; have e1' : w1'.cell? ⟨bk, off + k * 7 + 1, none⟩ = some (.int .i64 x2) := (B1'.out.cell (p := ⟨bk, off + k * 7 + 1, none⟩) hbW).trans e1; have e2' : w1'.cell? ⟨bk, off + k * 7 + 2, none⟩ = some (.int .i64 x3) := (B1'.out.cell (p := ⟨bk, off + k * 7 + 2, none⟩) hbW).trans e2; have e3' : w1'.cell? ⟨bk, off + k * 7 + 3, none⟩ = some (.int .i64 x4) := (B1'.out.cell (p := ⟨bk, off + k * 7 + 3, none⟩) hbW).trans e3; have e4' : w1'.cell? ⟨bk, off + k * 7 + 4, none⟩ = some (.int .i64 x5) := (B1'.out.cell (p := ⟨bk, off + k * 7 + 4, none⟩) hbW).trans e4; have e5' : w1'.cell? ⟨bk, off + k * 7 + 5, none⟩ = some (.int .i64 x6) := (B1'.out.cell (p := ⟨bk, off + k * 7 + 5, none⟩) hbW).trans e5; have e6' : w1'.cell? ⟨bk, off + k * 7 + 6, none⟩ = some (.int .i64 x7) := (B1'.out.cell (p := ⟨bk, off + k * 7 + 6, none⟩) hbW).trans e6; clear o1 g1' d1) | (refine step_app (E := encContract) rfl (.tmp 61) (.tmp 64) 31 rfl W0.heap.size 26 j0 _ 56 Tryd.underlying31 hinf' hy0 hy1 hy2 rfl (by decide) (.slice (some ⟨W0.heap.size, 0, none⟩) 0 0) [] rfl OA2.out W0.heap.size (some ⟨g, 0, none⟩) p cu (S.take p) rfl HTk.out (HST.out.below BA2.out) (by simp [maxLen]; omega) (by simp; omega) BA2.out.size ?_; intro v1 w1' o1 g1' d1; have O1 := Lib.hid o1; have B1' := Lib.hid (below_grownB BA2.out g1' BA2.out.size OA2.out.row); have K1 := Lib.hid (show Blk w1' (W0.heap.size + 1) 26 #[.int .i64 x1, .int .i64 x2, .int .i64 x3, .int .i64 x4, .int .i64 x5, .int .i64 x6, .int .i64 x7] from (g1'.block _ KA2.out.lt (by simp [Value.ownBlock])).trans KA2.out); have e0' : w1'.cell? ⟨bk, off + k * 7, none⟩ = some (.int .i64 x1) := (B1'.out.cell (p := ⟨bk, off + k * 7, none⟩) hbW).trans e0; have e1' : w1'.cell? ⟨bk, off + k * 7 + 1, none⟩ = some (.int .i64 x2) := (B1'.out.cell (p := ⟨bk, off + k * 7 + 1, none⟩) hbW).trans e1; have e2' : w1'.cell? ⟨bk, off + k * 7 + 2, none⟩ = some (.int .i64 x3) := (B1'.out.cell (p := ⟨bk, off + k * 7 + 2, none⟩) hbW).trans e2; have e3' : w1'.cell? ⟨bk, off + k * 7 + 3, none⟩ = some (.int .i64 x4) := (B1'.out.cell (p := ⟨bk, off + k * 7 + 3, none⟩) hbW).trans e3; have e4' : w1'.cell? ⟨bk, off + k * 7 + 4, none⟩ = some (.int .i64 x5) := (B1'.out.cell (p := ⟨bk, off + k * 7 + 4, none⟩) hbW).trans e4; have e5' : w1'.cell? ⟨bk, off + k * 7 + 5, none⟩ = some (.int .i64 x6) := (B1'.out.cell (p := ⟨bk, off + k * 7 + 5, none⟩) hbW).trans e5; have e6' : w1'.cell? ⟨bk, off + k * 7 + 6, none⟩ = some (.int .i64 x7) := (B1'.out.cell (p := ⟨bk, off + k * 7 + 6, none⟩) hbW).trans e6; clear o1 g1' d1) | (refine step_app (E := encContract) rfl (.tmp 61) (.tmp 64) 31 rfl W0.heap.size 26 j0 _ 56 Tryd.underlying31 hinf' hy0 hy1 hy2 rfl (by decide) (.slice (some ⟨W0.heap.size + 1, 0, none⟩) 0 0) [] rfl OB.out W0.heap.size (some ⟨g, 0, none⟩) p cu (S.take p) rfl HTk.out (HST.out.below BB.out) (by simp [maxLen]; omega) (by simp; omega) BB.out.size ?_; intro v1 w1' o1 g1' d1; have O1 := Lib.hid o1; have B1' := Lib.hid (below_grownB BB.out g1' BB.out.size OB.out.row); have K1 := Lib.hid (show Blk w1' (W0.heap.size) 26 #[.int .i64 x1, .int .i64 x2, .int .i64 x3, .int .i64 x4, .int .i64 x5, .int .i64 x6, .int .i64 x7] from (g1'.block _ KB.out.lt (by simp [Value.ownBlock])).trans KB.out); have e0' : w1'.cell? ⟨bk, off + k * 7, none⟩ = some (.int .i64 x1) := (B1'.out.cell (p := ⟨bk, off + k * 7, none⟩) hbW).trans e0; have e1' : w1'.cell? ⟨bk, off + k * 7 + 1, none⟩ = some (.int .i64 x2) := (B1'.out.cell (p := ⟨bk, off + k * 7 + 1, none⟩) hbW).trans e1; have e2' : w1'.cell? ⟨bk, off + k * 7 + 2, none⟩ = some (.int .i64 x3) := (B1'.out.cell (p := ⟨bk, off + k * 7 + 2, none⟩) hbW).trans e2; have e3' : w1'.cell? ⟨bk, off + k * 7 + 3, none⟩ = some (.int .i64 x4) := (B1'.out.cell (p := ⟨bk, off + k * 7 + 3, none⟩) hbW).trans e3; have e4' : w1'.cell? ⟨bk, off + k * 7 + 4, none⟩ = some (.int .i64 x5) := (B1'.out.cell (p := ⟨bk, off + k * 7 + 4, none⟩) hbW).trans e4; have e5' : w1'.cell? ⟨bk, off + k * 7 + 5, none⟩ = some (.int .i64 x6) := (B1'.out.cell (p := ⟨bk, off + k * 7 + 5, none⟩) hbW).trans e5; have e6' : w1'.cell? ⟨bk, off + k * 7 + 6, none⟩ = some (.int .i64 x7) := (B1'.out.cell (p := ⟨bk, off + k * 7 + 6, none⟩) hbW).trans e6; clear o1 g1' d1) | (refine step_app (E := encContract) rfl (.tmp 71) (.tmp 74) 31 rfl W0.heap.size 26 j0 _ 56 Tryd.underlying31 hinf' hy0 hy1 hy2 rfl (by decide) v2 _ rfl O2.out W0.heap.size _ (m - p) (cu - p) (S.drop p) rfl HTd.out (sl_tailC HOW.out.rd HSn.out hcu p B2'.out) (by simp [maxLen, HTk.out]; omega) (by simp [HTk.out]; omega) B2'.out.size ?_; intro v3 w3' o3 g3' d3; have O3 := Lib.hid o3; have B3' := Lib.hid (below_grownB B2'.out g3' B2'.out.size O2.out.row); clear o3 g3' d3) | (refine step_app (E := encContract) rfl (.tmp 65) (.tmp 70) 31 rfl W0.heap.size 26 j0 _ 56 Tryd.underlying31 hinf' hy0 hy1 hy2 rfl (by decide) v1 _ rfl O1.out _ _ 1 1 [(⟨x1, x2, x3, x4, x5, x6, x7⟩ : Contract)] rfl rfl (Own.sl (Own.build (n := 1) (base := 0) (Nat.zero_le _) K1.out rfl rfl (by decide))).2 (by simp [maxLen, HTk.out]; omega) (by simp [HTk.out]; omega) B1'.out.size ?_; intro v2 w2' o2 g2' d2; have O2 := Lib.hid o2; have B2' := Lib.hid (below_grownB B1'.out g2' B1'.out.size O1.out.row); clear o2 g2' d2) | (refine step_app (E := encContract) rfl (.tmp 65) (.tmp 70) 31 rfl W0.heap.size 26 j0 _ 56 Tryd.underlying31 hinf' hy0 hy1 hy2 rfl (by decide) v1 _ rfl (O1.out.past (bl_alloc (Below.refl _ _) _) (Nat.le_refl _)) _ _ 1 1 [(⟨x1, x2, x3, x4, x5, x6, x7⟩ : Contract)] rfl rfl (Own.sl (Own.build (n := 1) (base := 0) (Nat.zero_le _) (Blk.new _ _ _) rfl rfl (by decide))).2 (by simp [maxLen, HTk.out]; omega) (by simp [HTk.out]; omega) (B1'.out.alloc B1'.out.size _).size ?_; intro v2 w2' o2 g2' d2; have O2 := Lib.hid o2; have B2' := Lib.hid (below_grownB (B1'.out.alloc B1'.out.size _) g2' (B1'.out.alloc B1'.out.size _).size O1.out.row); clear o2 g2' d2))
              all_goals
                have o3 := O3.out
                rw [List.nil_append] at o3
                have hE : insTo (openTo l day (k + 1)) (m + 1) = (S.take p ++ [(⟨x1, x2, x3, x4, x5, x6, x7⟩ : Contract)]) ++ S.drop p := by rw [HNX.out, HPOS.out]; rfl
                rw [← hE] at o3
                obtain ⟨A3, c3, rfl, _, _, _⟩ := o3.slice
                rw [insTo_length] at o3 ⊢
                obtain ⟨g3, rfl⟩ := o3.some_ (by omega)
                have O4 := Lib.hid (o3.lower (b := w1.heap.size) hz0')
                have B4 := Lib.hid (HBW.out.trans (B3'.out.mono hz0'))
                clear o3 hE
                go_wp2
                go_roundw
                case rel => exact ⟨k + 1, g3, m + 1, c3, by omega, by go_num, rfl, HM1.out, O4.out, B4.out⟩
                case measure => simp [intOf]; omega
            · have hs2 : S[q']? = some (S[q']'(by rw [HSn.out]; omega)) := List.getElem?_eq_getElem _
              generalize S[q']'(by rw [HSn.out]; omega) = y at hs2
              have d3 := (HO.out.contract hs2).2.2.2.2.1
              rw [← hb2.cell (p := ⟨g, q' * 7 + 3, none⟩) hgo] at d3
              have c3 := E3.out
              rw [← hb2.cell (by exact hbw)] at c3
              have hpd2 : posDown (fun j => decide (S[j]!.price < x4)) p = if decide (y.price < x4) then posDown (fun j => decide (S[j]!.price < x4)) q' else p := by
                rw [hpq, posDown, List.getElem!_of_getElem? hs2]
              have HPD2 := Lib.hid hpd2
              clear hs2 hpd2
              generalize y.price = yp at *
              have n0 : decide ((0 : Int) < (p : Int)) = true := decide_eq_true (by omega)
              have n00 : decide (0 < p) = true := decide_eq_true (by omega)
              have n000 : 0 < p := by omega
              have n1 : IntKind.i64.wrap ((p : Int) - 1) = q' := by rw [IntWalk.i64_in _ (by omega)]; omega
              have n3 : (q' : Int) < m := by omega
              have n4 : (0 : Int) ≤ q' := by omega
              have hbw2 : bk < wr.heap.size := by omega
              have hgw2 : g < wr.heap.size := by omega
              have hq1 : q' + 1 ≤ m := by omega
              have HPQ := Lib.hid hpq
              clear hpq
              rcases sp1 (decide (yp < x4)) with t1 | t1
              · have HPOS := Lib.hid (show posDown (fun j => decide (S[j]!.price < x4)) m = p by rw [← HPD.out, HPD2.out, t1]; rfl)
                go_wp2
                refine wp_region_gw (by kernel_rfl) (by kernel_rfl) ?_
                repeat (first | go_big_quiet_step ((fail)) | quiet_step ((fail)))
                refine wpQuiet_nil ?_
                rintro _ ⟨pq, rfl⟩
                go_wp2
                refine wp_name (fun W0 hW0 => ?_)
                have hB0 : Below wo.heap.size wo W0 := by rw [hW0]; exact (by repeat (first | assumption | exact Below.refl _ _ | apply bl_gw | apply bl_alloc | apply bl_drewN | apply bl_drew))
                have HOW := Lib.hid (HO.out.past hB0 (Nat.le_refl _))
                have HBW := Lib.hid (HBB.out.trans (hB0.mono hzB))
                have hz0' := HBW.out.size
                have hzW := hB0.size
                have hbW : bk < W0.heap.size := by omega
                have e0 : W0.cell? ⟨bk, off + k * 7, none⟩ = some (.int .i64 x1) := (hB0.cell (p := ⟨bk, off + k * 7, none⟩) hbw).trans E0.out
                have e1 : W0.cell? ⟨bk, off + k * 7 + 1, none⟩ = some (.int .i64 x2) := (hB0.cell (p := ⟨bk, off + k * 7 + 1, none⟩) hbw).trans E1.out
                have e2 : W0.cell? ⟨bk, off + k * 7 + 2, none⟩ = some (.int .i64 x3) := (hB0.cell (p := ⟨bk, off + k * 7 + 2, none⟩) hbw).trans E2.out
                have e3 : W0.cell? ⟨bk, off + k * 7 + 3, none⟩ = some (.int .i64 x4) := (hB0.cell (p := ⟨bk, off + k * 7 + 3, none⟩) hbw).trans E3.out
                have e4 : W0.cell? ⟨bk, off + k * 7 + 4, none⟩ = some (.int .i64 x5) := (hB0.cell (p := ⟨bk, off + k * 7 + 4, none⟩) hbw).trans E4.out
                have e5 : W0.cell? ⟨bk, off + k * 7 + 5, none⟩ = some (.int .i64 x6) := (hB0.cell (p := ⟨bk, off + k * 7 + 5, none⟩) hbw).trans E5.out
                have e6 : W0.cell? ⟨bk, off + k * 7 + 6, none⟩ = some (.int .i64 x7) := (hB0.cell (p := ⟨bk, off + k * 7 + 6, none⟩) hbw).trans E6.out
                clear hW0 hB0
                have g1 : (p : Int) ≤ cu := by omega
                have g2 : (0 : Int) ≤ (p : Int) := by omega
                have g3 : (p : Int) ≤ m := by omega
                have g4 : ((p : Nat) : Int).toNat = p := by omega
                have HTk := Lib.hid (show (S.take p).length = p by rw [List.length_take, HSn.out]; omega)
                have HTd := Lib.hid (show (S.drop p).length = m - p by rw [List.length_drop, HSn.out])
                have HST := Lib.hid (HOW.out.rd.take p)
                have BA1 := Lib.hid (show Below W0.heap.size W0 (W0.alloc (.cells #[] 26)).drew from (by repeat (first | assumption | exact Below.refl _ _ | apply bl_gw | apply bl_alloc | apply bl_drewN | apply bl_drew)))
                have OA1 := Lib.hid (show Own encContract (W0.alloc (.cells #[] 26)).drew W0.heap.size 26 (.slice (some ⟨W0.heap.size, 0, none⟩) 0 0) [] from by exact (Own.nil_ (w := W0) (Nat.le_refl _) _).past (bl_drew (Below.refl _ _)) (Nat.le_refl _))
                have BA2 := Lib.hid (show Below W0.heap.size W0 ((W0.alloc (.cells #[] 26)).alloc (.cells #[.int .i64 x1, .int .i64 x2, .int .i64 x3, .int .i64 x4, .int .i64 x5, .int .i64 x6, .int .i64 x7] 26)).drew from (by repeat (first | assumption | exact Below.refl _ _ | apply bl_gw | apply bl_alloc | apply bl_drewN | apply bl_drew)))
                have OA2 := Lib.hid (show Own encContract ((W0.alloc (.cells #[] 26)).alloc (.cells #[.int .i64 x1, .int .i64 x2, .int .i64 x3, .int .i64 x4, .int .i64 x5, .int .i64 x6, .int .i64 x7] 26)).drew W0.heap.size 26 (.slice (some ⟨W0.heap.size, 0, none⟩) 0 0) [] from by exact (Own.nil_ (w := W0) (Nat.le_refl _) _).past (bl_drew (bl_alloc (Below.refl _ _) _)) (Nat.le_refl _))
                have BB := Lib.hid (show Below W0.heap.size W0 ((W0.alloc (.cells #[.int .i64 x1, .int .i64 x2, .int .i64 x3, .int .i64 x4, .int .i64 x5, .int .i64 x6, .int .i64 x7] 26)).alloc (.cells #[] 26)).drew from (by repeat (first | assumption | exact Below.refl _ _ | apply bl_gw | apply bl_alloc | apply bl_drewN | apply bl_drew)))
                have OB := Lib.hid (show Own encContract ((W0.alloc (.cells #[.int .i64 x1, .int .i64 x2, .int .i64 x3, .int .i64 x4, .int .i64 x5, .int .i64 x6, .int .i64 x7] 26)).alloc (.cells #[] 26)).drew W0.heap.size 26 (.slice (some ⟨W0.heap.size + 1, 0, none⟩) 0 0) [] from by have q := (Own.nil_ (E := encContract) (w := W0.alloc (.cells #[.int .i64 x1, .int .i64 x2, .int .i64 x3, .int .i64 x4, .int .i64 x5, .int .i64 x6, .int .i64 x7] 26)) (base := W0.heap.size) (by simp) 26).past (bl_drew (Below.refl _ _)) (Nat.le_refl _); rw [alloc_size] at q; exact q)
                have KA2 := Lib.hid (show Blk ((W0.alloc (.cells #[] 26)).alloc (.cells #[.int .i64 x1, .int .i64 x2, .int .i64 x3, .int .i64 x4, .int .i64 x5, .int .i64 x6, .int .i64 x7] 26)).drew (W0.heap.size + 1) 26 #[.int .i64 x1, .int .i64 x2, .int .i64 x3, .int .i64 x4, .int .i64 x5, .int .i64 x6, .int .i64 x7] from by have q := (Blk.new (W0.alloc (.cells #[] 26)) 26 #[.int .i64 x1, .int .i64 x2, .int .i64 x3, .int .i64 x4, .int .i64 x5, .int .i64 x6, .int .i64 x7]).past (bl_drew (Below.refl _ _)); rw [alloc_size] at q; exact q)
                have KB := Lib.hid (show Blk ((W0.alloc (.cells #[.int .i64 x1, .int .i64 x2, .int .i64 x3, .int .i64 x4, .int .i64 x5, .int .i64 x6, .int .i64 x7] 26)).alloc (.cells #[] 26)).drew (W0.heap.size) 26 #[.int .i64 x1, .int .i64 x2, .int .i64 x3, .int .i64 x4, .int .i64 x5, .int .i64 x6, .int .i64 x7] from (Blk.new W0 26 #[.int .i64 x1, .int .i64 x2, .int .i64 x3, .int .i64 x4, .int .i64 x5, .int .i64 x6, .int .i64 x7]).past (bl_drew (bl_alloc (Below.refl _ _) _)))
                go_region_law (first | (refine step_app (E := encContract) rfl (.tmp 61) (.tmp 64) 31 rfl W0.heap.size 26 j0 _ 56 Tryd.underlying31 hinf' hy0 hy1 hy2 rfl (by decide) (.slice (some ⟨W0.heap.size, 0, none⟩) 0 0) [] rfl OA1.out W0.heap.size (some ⟨g, 0, none⟩) p cu (S.take p) rfl HTk.out (HST.out.below BA1.out) (by simp [maxLen]; omega) (by simp; omega) BA1.out.size ?_; intro v1 w1' o1 g1' d1; have O1 := Lib.hid o1; have B1' := Lib.hid (below_grownB BA1.out g1' BA1.out.size OA1.out.row); have e0' : w1'.cell? ⟨bk, off + k * 7, none⟩ = some (.int .i64 x1) := (B1'.out.cell (p := ⟨bk, off + k * 7, none⟩) hbW).trans e0; have e1' : w1'.cell? ⟨bk, off + k * 7 + 1, none⟩ = some (.int .i64 x2) := (B1'.out.cell (p := ⟨bk, off + k * 7 + 1, none⟩) hbW).trans e1; have e2' : w1'.cell? ⟨bk, off + k * 7 + 2, none⟩ = some (.int .i64 x3) := (B1'.out.cell (p := ⟨bk, off + k * 7 + 2, none⟩) hbW).trans e2; have e3' : w1'.cell? ⟨bk, off + k * 7 + 3, none⟩ = some (.int .i64 x4) := (B1'.out.cell (p := ⟨bk, off + k * 7 + 3, none⟩) hbW).trans e3; have e4' : w1'.cell? ⟨bk, off + k * 7 + 4, none⟩ = some (.int .i64 x5) := (B1'.out.cell (p := ⟨bk, off + k * 7 + 4, none⟩) hbW).trans e4; have e5' : w1'.cell? ⟨bk, off + k * 7 + 5, none⟩ = some (.int .i64 x6) := (B1'.out.cell (p := ⟨bk, off + k * 7 + 5, none⟩) hbW).trans e5; have e6' : w1'.cell? ⟨bk, off + k * 7 + 6, none⟩ = some (.int .i64 x7) := (B1'.out.cell (p := ⟨bk, off + k * 7 + 6, none⟩) hbW).trans e6; clear o1 g1' d1) | (refine step_app (E := encContract) rfl (.tmp 61) (.tmp 64) 31 rfl W0.heap.size 26 j0 _ 56 Tryd.underlying31 hinf' hy0 hy1 hy2 rfl (by decide) (.slice (some ⟨W0.heap.size, 0, none⟩) 0 0) [] rfl OA2.out W0.heap.size (some ⟨g, 0, none⟩) p cu (S.take p) rfl HTk.out (HST.out.below BA2.out) (by simp [maxLen]; omega) (by simp; omega) BA2.out.size ?_; intro v1 w1' o1 g1' d1; have O1 := Lib.hid o1; have B1' := Lib.hid (below_grownB BA2.out g1' BA2.out.size OA2.out.row); have K1 := Lib.hid (show Blk w1' (W0.heap.size + 1) 26 #[.int .i64 x1, .int .i64 x2, .int .i64 x3, .int .i64 x4, .int .i64 x5, .int .i64 x6, .int .i64 x7] from (g1'.block _ KA2.out.lt (by simp [Value.ownBlock])).trans KA2.out); have e0' : w1'.cell? ⟨bk, off + k * 7, none⟩ = some (.int .i64 x1) := (B1'.out.cell (p := ⟨bk, off + k * 7, none⟩) hbW).trans e0; have e1' : w1'.cell? ⟨bk, off + k * 7 + 1, none⟩ = some (.int .i64 x2) := (B1'.out.cell (p := ⟨bk, off + k * 7 + 1, none⟩) hbW).trans e1; have e2' : w1'.cell? ⟨bk, off + k * 7 + 2, none⟩ = some (.int .i64 x3) := (B1'.out.cell (p := ⟨bk, off + k * 7 + 2, none⟩) hbW).trans e2; have e3' : w1'.cell? ⟨bk, off + k * 7 + 3, none⟩ = some (.int .i64 x4) := (B1'.out.cell (p := ⟨bk, off + k * 7 + 3, none⟩) hbW).trans e3; have e4' : w1'.cell? ⟨bk, off + k * 7 + 4, none⟩ = some (.int .i64 x5) := (B1'.out.cell (p := ⟨bk, off + k * 7 + 4, none⟩) hbW).trans e4; have e5' : w1'.cell? ⟨bk, off + k * 7 + 5, none⟩ = some (.int .i64 x6) := (B1'.out.cell (p := ⟨bk, off + k * 7 + 5, none⟩) hbW).trans e5; have e6' : w1'.cell? ⟨bk, off + k * 7 + 6, none⟩ = some (.int .i64 x7) := (B1'.out.cell (p := ⟨bk, off + k * 7 + 6, none⟩) hbW).trans e6; clear o1 g1' d1) | (refine step_app (E := encContract) rfl (.tmp 61) (.tmp 64) 31 rfl W0.heap.size 26 j0 _ 56 Tryd.underlying31 hinf' hy0 hy1 hy2 rfl (by decide) (.slice (some ⟨W0.heap.size + 1, 0, none⟩) 0 0) [] rfl OB.out W0.heap.size (some ⟨g, 0, none⟩) p cu (S.take p) rfl HTk.out (HST.out.below BB.out) (by simp [maxLen]; omega) (by simp; omega) BB.out.size ?_; intro v1 w1' o1 g1' d1; have O1 := Lib.hid o1; have B1' := Lib.hid (below_grownB BB.out g1' BB.out.size OB.out.row); have K1 := Lib.hid (show Blk w1' (W0.heap.size) 26 #[.int .i64 x1, .int .i64 x2, .int .i64 x3, .int .i64 x4, .int .i64 x5, .int .i64 x6, .int .i64 x7] from (g1'.block _ KB.out.lt (by simp [Value.ownBlock])).trans KB.out); have e0' : w1'.cell? ⟨bk, off + k * 7, none⟩ = some (.int .i64 x1) := (B1'.out.cell (p := ⟨bk, off + k * 7, none⟩) hbW).trans e0; have e1' : w1'.cell? ⟨bk, off + k * 7 + 1, none⟩ = some (.int .i64 x2) := (B1'.out.cell (p := ⟨bk, off + k * 7 + 1, none⟩) hbW).trans e1; have e2' : w1'.cell? ⟨bk, off + k * 7 + 2, none⟩ = some (.int .i64 x3) := (B1'.out.cell (p := ⟨bk, off + k * 7 + 2, none⟩) hbW).trans e2; have e3' : w1'.cell? ⟨bk, off + k * 7 + 3, none⟩ = some (.int .i64 x4) := (B1'.out.cell (p := ⟨bk, off + k * 7 + 3, none⟩) hbW).trans e3; have e4' : w1'.cell? ⟨bk, off + k * 7 + 4, none⟩ = some (.int .i64 x5) := (B1'.out.cell (p := ⟨bk, off + k * 7 + 4, none⟩) hbW).trans e4; have e5' : w1'.cell? ⟨bk, off + k * 7 + 5, none⟩ = some (.int .i64 x6) := (B1'.out.cell (p := ⟨bk, off + k * 7 + 5, none⟩) hbW).trans e5; have e6' : w1'.cell? ⟨bk, off + k * 7 + 6, none⟩ = some (.int .i64 x7) := (B1'.out.cell (p := ⟨bk, off + k * 7 + 6, none⟩) hbW).trans e6; clear o1 g1' d1) | (refine step_app (E := encContract) rfl (.tmp 71) (.tmp 74) 31 rfl W0.heap.size 26 j0 _ 56 Tryd.underlying31 hinf' hy0 hy1 hy2 rfl (by decide) v2 _ rfl O2.out W0.heap.size _ (m - p) (cu - p) (S.drop p) rfl HTd.out (sl_tailC HOW.out.rd HSn.out hcu p B2'.out) (by simp [maxLen, HTk.out]; omega) (by simp [HTk.out]; omega) B2'.out.size ?_; intro v3 w3' o3 g3' d3; have O3 := Lib.hid o3; have B3' := Lib.hid (below_grownB B2'.out g3' B2'.out.size O2.out.row); clear o3 g3' d3) | (refine step_app (E := encContract) rfl (.tmp 65) (.tmp 70) 31 rfl W0.heap.size 26 j0 _ 56 Tryd.underlying31 hinf' hy0 hy1 hy2 rfl (by decide) v1 _ rfl O1.out _ _ 1 1 [(⟨x1, x2, x3, x4, x5, x6, x7⟩ : Contract)] rfl rfl (Own.sl (Own.build (n := 1) (base := 0) (Nat.zero_le _) K1.out rfl rfl (by decide))).2 (by simp [maxLen, HTk.out]; omega) (by simp [HTk.out]; omega) B1'.out.size ?_; intro v2 w2' o2 g2' d2; have O2 := Lib.hid o2; have B2' := Lib.hid (below_grownB B1'.out g2' B1'.out.size O1.out.row); clear o2 g2' d2) | (refine step_app (E := encContract) rfl (.tmp 65) (.tmp 70) 31 rfl W0.heap.size 26 j0 _ 56 Tryd.underlying31 hinf' hy0 hy1 hy2 rfl (by decide) v1 _ rfl (O1.out.past (bl_alloc (Below.refl _ _) _) (Nat.le_refl _)) _ _ 1 1 [(⟨x1, x2, x3, x4, x5, x6, x7⟩ : Contract)] rfl rfl (Own.sl (Own.build (n := 1) (base := 0) (Nat.zero_le _) (Blk.new _ _ _) rfl rfl (by decide))).2 (by simp [maxLen, HTk.out]; omega) (by simp [HTk.out]; omega) (B1'.out.alloc B1'.out.size _).size ?_; intro v2 w2' o2 g2' d2; have O2 := Lib.hid o2; have B2' := Lib.hid (below_grownB (B1'.out.alloc B1'.out.size _) g2' (B1'.out.alloc B1'.out.size _).size O1.out.row); clear o2 g2' d2))
                all_goals
                  have o3 := O3.out
                  rw [List.nil_append] at o3
                  have hE : insTo (openTo l day (k + 1)) (m + 1) = (S.take p ++ [(⟨x1, x2, x3, x4, x5, x6, x7⟩ : Contract)]) ++ S.drop p := by rw [HNX.out, HPOS.out]; rfl
                  rw [← hE] at o3
                  obtain ⟨A3, c3, rfl, _, _, _⟩ := o3.slice
                  rw [insTo_length] at o3 ⊢
                  obtain ⟨g3, rfl⟩ := o3.some_ (by omega)
                  have O4 := Lib.hid (o3.lower (b := w1.heap.size) hz0')
                  have B4 := Lib.hid (HBW.out.trans (B3'.out.mono hz0'))
                  clear o3 hE
                  go_wp2
                  go_roundw
                  case rel => exact ⟨k + 1, g3, m + 1, c3, by omega, by go_num, rfl, HM1.out, O4.out, B4.out⟩
                  case measure => simp [intOf]; omega
              · have HPD3 := Lib.hid (show posDown (fun j => decide (S[j]!.price < x4)) q' = posDown (fun j => decide (S[j]!.price < x4)) m by rw [← HPD.out, HPD2.out, t1]; rfl)
                go_wp2
                refine wp_region_gw (by kernel_rfl) (by kernel_rfl) ?_
                repeat (first | go_big_quiet_step ((fail)) | quiet_step ((fail)))
                refine wpQuiet_nil ?_
                rintro _ ⟨pq, rfl⟩
                go_wp2
                go_roundw
                case rel => exact ⟨q', by omega, by go_num, HPD3.out, (by repeat (first | assumption | exact Below.refl _ _ | apply bl_gw | apply bl_alloc | apply bl_drewN | apply bl_drew))⟩
                case measure => simp [intOf, HPQ.out]
      · obtain rfl : k = n := by omega
        have OO2 := Lib.hid (OO1.out.past hbel (Nat.le_refl _))
        obtain ⟨S, hS⟩ : ∃ S, insTo (openTo l day k) m = S := ⟨_, rfl⟩
        have HP := Lib.hid (show openP l day = idsTo S m by rw [HPd.out, HM.out, hS])
        have HSl := Lib.hid (show S.length = m by rw [← hS]; exact insTo_length _ _)
        rw [hS] at ho
        have hl1 := hbel.size
        have O3 := Lib.hid (ho.lower (b := w.heap.size) (by omega))
        have hap0 : ∀ q, (Value.slice (some ⟨g, 0, none⟩) m cu).ownBlock = some q → (Value.slice (some ⟨w.heap.size, 0, none⟩) 0 0).ownBlock ≠ some q := fun q hq => by
          have := ho.row q hq
          intro h
          injection h with h
          have h2 : w.heap.size = q := h
          omega
        have HAP := Lib.hid hap0
        obtain ⟨n1, hn1⟩ : ∃ n1, m = n1 := ⟨_, rfl⟩
        subst hn1
        obtain ⟨A2, hA2⟩ : ∃ A2 : Option Addr, A2 = some ⟨g, 0, none⟩ := ⟨_, rfl⟩
        rw [← hA2] at O3 HAP ⊢
        clear hS ho hbel hap0 hA2 HO HBB HM hm
        go_wp2
        go_loopw [6, 10] (fun u j wr => ∃ i : Nat, i ≤ m ∧ j = .int .i64 i ∧ Own encInt wr w.heap.size 3 u (idsTo S i) ∧ Own encContract wr w.heap.size 26 (.slice A2 m cu) S ∧ (∀ q, (Value.slice A2 m cu).ownBlock = some q → u.ownBlock ≠ some q) ∧ Below w.heap.size w wr) (fun _ j _ => m - (intOf j).toNat)
        case atStart => exact ⟨0, Nat.zero_le _, rfl, OO2.out, O3.out, HAP.out, HB.out⟩
        case round =>
          obtain ⟨i, hi, rfl, hu, hs, hap, hbel⟩ := hrel
          have HU := Lib.hid hu
          have HS := Lib.hid hs
          have HA := Lib.hid hap
          have HB4 := Lib.hid hbel
          have hz4 := hbel.size
          have HL := Lib.hid (idsTo_length S i)
          clear hu hs hap hbel
          by_cases hlt : i < m
          · obtain ⟨g, rfl⟩ := HS.out.some_ (show 0 < m by omega)
            have hx : S[i]? = some (S[i]'(by rw [HSl.out]; exact hlt)) := List.getElem?_eq_getElem _
            generalize S[i]'(by rw [HSl.out]; exact hlt) = x at hx
            obtain ⟨hgw, c0, c1, c2, c3, c4, c5, c6⟩ := HS.out.contract hx
            have HST := Lib.hid (show idsTo S (i + 1) = idsTo S i ++ [x.id] by rw [idsTo_succ, List.getElem!_of_getElem? hx])
            clear hx
            obtain ⟨x1, x2, x3, x4, x5, x6, x7⟩ := x
            dsimp only at c0 c1 c2 c3 c4 c5 c6 HST
            have k1 : (i : Int) < m := by omega
            have k2 : (0 : Int) ≤ i := by omega
            go_wp2_with (at_builtin; refine halt ?_)
            unfold Halt
            refine wpList_app3 (E := encInt) rfl (.tmp 82) (.tmp 88) 34 rfl w.heap.size 3 i0 _ 8 Tryd.underlying34 hinf hz0 hz1 hz2 rfl (by decide) _ _ rfl (HU.out.past (by repeat (first | assumption | exact Below.refl _ _ | apply bl_gw | apply bl_alloc | apply bl_drewN | apply bl_drew)) (Nat.le_refl _)) x1 _ rfl (by first | rfl | (rw [alloc_size]; rfl) | (rw [gw_size]; rfl)) (by have := HL.out; unfold maxLen; omega) (by have := HL.out; omega) (by first | omega | (simp; omega)) ?_
            intro v5 w5 ho5 hb5 hap5
            have O5 := Lib.hid ho5
            have Q5 := Lib.hid (hap5 (HS.out.past (by repeat (first | assumption | exact Below.refl _ _ | apply bl_gw | apply bl_alloc | apply bl_drewN | apply bl_drew)) (Nat.le_refl _)) HA.out)
            have B5 := Lib.hid ((show Below w.heap.size w _ from (HB4.out.trans ((show Below wr.heap.size wr _ from (by repeat (first | assumption | exact Below.refl _ _ | apply bl_gw | apply bl_alloc | apply bl_drewN | apply bl_drew))).mono hz4))).trans (hb5 w.heap.size (Nat.le_refl _)))
            clear ho5 hb5 hap5
            go_wp2
            go_roundw
            case rel => exact ⟨i + 1, by omega, by go_num, by rw [HST.out]; exact O5.out, Q5.out.1, Q5.out.2, B5.out⟩
            case measure => simp [intOf]; omega
          · go_wp2
            go_ret2
            obtain rfl : i = m := by omega
            rw [HQ.out, HP.out]
            exact ⟨_, rfl, HU.out, HB4.out⟩
end Go.Proofs.YtcljfdpjlkaagaaDoor
