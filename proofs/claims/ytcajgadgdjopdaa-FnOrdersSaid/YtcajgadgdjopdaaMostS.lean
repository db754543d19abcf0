/- Orders of bittern: the reference's MostWith. -/
import Derived.Test.YtcajgadgdjopdaaMostM
import Derived.Test.YtcajgadgdjopdaaFillO
namespace Go.Proofs.Ytcajgadgdjopdaa
open Go.RowKit
/-- One step of the greedy filling, with its bounds. -/
theorem most_step {h : Int} (h0 : 0 ≤ h) (h1 : h ≤ 1000) {b : Bittern} {T : List Bittern} (hT : OkT (b :: T)) (hl : T.length + 1 ≤ 8) (hp : List.Pairwise (fun a b => a.bitter ≤ b.bitter) T) {K S : Int} (hKS : foldM h T = (K, S)) :
    (0 ≤ K ∧ K ≤ 80000) ∧ (0 ≤ S ∧ S ≤ 80000000) ∧ ((0 ≤ b.kilos ∧ b.kilos ≤ 10000) ∧ (0 ≤ b.bitter ∧ b.bitter ≤ 1000)) ∧
    ∃ n q Z : Int, (0 ≤ n ∧ n ≤ 10000) ∧ (b.bitter < h → S.tdiv (h - b.bitter) = q ∧ 0 ≤ q ∧ q ≤ 80000000 ∧ min b.kilos q = n) ∧ (h ≤ b.bitter → b.kilos = n) ∧ n * (b.bitter - h) = Z ∧ (-80000000 ≤ Z ∧ Z ≤ 10000000) ∧ foldM h (b :: T) = (K + n, S + Z) := by
  obtain ⟨o1, o2⟩ := okT_cons hT
  obtain ⟨k0, kr, s0, se, hiff, hst⟩ := most_fold h0 h1 o2 (by omega) hp
  have hr := room_rng o2
  rw [foldM_cons]
  rw [hKS] at k0 kr s0 se ⊢
  dsimp only at k0 kr s0 se
  clear hiff hst hKS
  have hg := gain_rng o2 k0
  have hlr := left_room o2 k0
  have mk := Int.mul_nonneg h0 k0
  have hK8 : K ≤ 80000 := by omega
  have hSb : S ≤ 80000000 := by omega
  clear se hg hlr mk kr hr
  refine ⟨⟨k0, hK8⟩, ⟨s0, hSb⟩, o1, ?_⟩
  obtain ⟨n, hn⟩ : ∃ n, numM h (K, S) b = n := ⟨_, rfl⟩
  have key : ∃ q : Int, (0 ≤ n ∧ n ≤ 10000) ∧ (b.bitter < h → S.tdiv (h - b.bitter) = q ∧ 0 ≤ q ∧ q ≤ 80000000 ∧ min b.kilos q = n ∧ n * (h - b.bitter) ≤ S) ∧ (h ≤ b.bitter → b.kilos = n) := by
    unfold numM at hn
    by_cases c : b.bitter < h
    · rw [if_pos c] at hn
      dsimp only at hn
      have hd : 0 < h - b.bitter := by omega
      obtain ⟨d, hd'⟩ : ∃ d, h - b.bitter = d := ⟨_, rfl⟩
      rw [hd'] at hn hd ⊢
      rw [Int.tdiv_eq_ediv_of_nonneg s0] at hn ⊢
      have q0 : 0 ≤ S / d := Int.ediv_nonneg s0 (by omega)
      have q1 : S / d ≤ S := Int.ediv_le_self _ s0
      have e1 := Int.mul_ediv_add_emod S d
      have e2 := Int.emod_nonneg S (show d ≠ 0 by omega)
      obtain ⟨q, hq⟩ : ∃ q, S / d = q := ⟨_, rfl⟩
      rw [hq] at hn q0 q1 e1 ⊢
      have w : wrap64 q = q := by unfold wrap64; omega
      rw [w] at hn
      refine ⟨q, by omega, fun _ => ⟨rfl, q0, by omega, hn, ?_⟩, fun hh => by omega⟩
      have : n * d ≤ q * d := Int.mul_le_mul_of_nonneg_right (by omega) (by omega)
      rw [Int.mul_comm q d] at this
      omega
    · rw [if_neg c] at hn
      exact ⟨0, by omega, fun q => absurd q c, fun _ => hn⟩
  obtain ⟨q, n0, n1, n2⟩ := key
  have mb : n * (b.bitter - h) = - (n * (h - b.bitter)) := by rw [← Int.mul_neg]; congr 1; omega
  have hm1 : -80000000 ≤ n * (b.bitter - h) ∧ n * (b.bitter - h) ≤ 10000000 := by
    rcases Int.lt_or_le b.bitter h with c | c
    · have m0 := Int.mul_nonneg n0.1 (show 0 ≤ h - b.bitter by omega)
      have := (n1 c).2.2.2.2
      omega
    · have m0 := Int.mul_nonneg n0.1 (show 0 ≤ b.bitter - h by omega)
      have m1 : n * (b.bitter - h) ≤ 10000 * 1000 := Int.mul_le_mul (by omega) (by omega) (by omega) (by omega)
      omega
  refine ⟨n, q, _, n0, fun c => ⟨(n1 c).1, (n1 c).2.1, (n1 c).2.2.1, (n1 c).2.2.2.1⟩, n2, rfl, hm1, ?_⟩
  unfold stepM
  rw [hn]
  generalize n * (b.bitter - h) = z at hm1 ⊢
  dsimp only
  have w1 : wrap64 (K + n) = K + n := by unfold wrap64; omega
  have w2 : wrap64 z = z := by unfold wrap64; omega
  have w3 : wrap64 (S + z) = S + z := by unfold wrap64; omega
  rw [w1, w2, w3]
theorem pw_drop {S : List Bittern} (h : List.Pairwise (fun a b => a.bitter ≤ b.bitter) S) (i : Nat) : List.Pairwise (fun a b => a.bitter ≤ b.bitter) (S.drop i) := h.sublist (List.drop_sublist i S)
set_option maxRecDepth 4000 in
set_option maxHeartbeats 8000000 in
theorem spec_MostWith_any (l : List Bittern) (n : Nat) (hn : l.length = n) (A : Option Addr) (cap : Nat) (h : Int) (w : World) (hl : n ≤ 1048576) (hc : Sl encBittern w w.heap.size A l) :
    Calls Try.prog 16 #[.slice A n cap, .int .i64 h] w fun e w' => e = .returned (.tuple #[.int .i64 (mostP l h), .bool (mostOK l h)]) ∧ Below w.heap.size w w' := by
  have HC := Lib.hid hc; clear hc
  have HN := Lib.hid hn; clear hn
  cases t1 : areBitterns l with
  | false =>
    have hq : mostOK l h = false := by simp [mostOK, t1]
    have hp := most_no hq
    rw [hq, hp]
    have HA := Lib.hid t1
    clear t1 hq hp
    go_enter Try.func16, Try.ntmps16
    go_wp2_with (go_at_call 51; refine (l15Good_any l n HN.out _ _ _ hl HC.out).mono ?_; rintro e w1 ⟨rfl, hb⟩; rw [HA.out]; obtain ⟨p, rfl⟩ := below_gw hb; clear hb)
    go_ret2
    exact ⟨rfl, (by repeat (first | assumption | exact Below.refl _ _ | apply bl_gw | apply bl_alloc | apply bl_drewN | apply bl_drew))⟩
  | true =>
    cases t2 : inB h 0 1000 with
    | false =>
      have hq : mostOK l h = false := by simp [mostOK, t2]
      have hp := most_no hq
      rw [hq, hp]
      have HA := Lib.hid t1
      have HT2 := Lib.hid t2
      clear t1 t2 hq hp
      go_enter Try.func16, Try.ntmps16
      go_wp2_with (first | (go_at_call 51; refine (l15Good_any l n HN.out _ _ _ hl HC.out).mono ?_; rintro e w1 ⟨rfl, hb⟩; rw [HA.out]; obtain ⟨p, rfl⟩ := below_gw hb; clear hb) | (go_at_call 53; refine (l1In_q HT2.out _).mono ?_; rintro e w1 ⟨rfl, rfl⟩))
      go_ret2
      exact ⟨rfl, (by repeat (first | assumption | exact Below.refl _ _ | apply bl_gw | apply bl_alloc | apply bl_drewN | apply bl_drew))⟩
    | true =>
      have hn8 : n ≤ 8 := by have := areBitterns_len t1; rw [HN.out] at this; exact this
      obtain ⟨h0, h1⟩ : 0 ≤ h ∧ h ≤ 1000 := by simpa [inB] using t2
      obtain ⟨S, hS⟩ : ∃ S, sorted l = S := ⟨_, rfl⟩
      have hoS : OkT S := by rw [← hS]; exact sorted_ok t1
      have hSn : S.length = n := by rw [← hS, sorted_length]; exact HN.out
      have hpw : List.Pairwise (fun a b => a.bitter ≤ b.bitter) S := by rw [← hS]; exact sorted_pw l
      have hRB : readBy l (ordTo l n) = S := by
        rw [← hS, sorted, ← HN.out, ins_ord l l.length (Nat.le_refl _)]
        rfl
      have hv : mostOK l h = true := by simp [mostOK, t1, t2]
      have hp : mostP l h = (foldM h S).1 := by unfold mostP; rw [hv, if_pos rfl, hS]
      rw [hv, hp]
      have HA := Lib.hid t1
      have HT2 := Lib.hid t2
      have HOS := Lib.hid hoS
      have HSN := Lib.hid hSn
      have HPW := Lib.hid hpw
      have HRB := Lib.hid hRB
      clear t1 t2 hS hoS hSn hpw hRB hv hp
      go_enter Try.func16, Try.ntmps16
      go_wp2_with (first | (go_at_call 51; refine (l15Good_any l n HN.out _ _ _ hl HC.out).mono ?_; rintro e w1 ⟨rfl, hb⟩; rw [HA.out]; obtain ⟨p, rfl⟩ := below_gw hb; clear hb) | (go_at_call 53; refine (l1In_q HT2.out _).mono ?_; rintro e w1 ⟨rfl, rfl⟩))
      refine (l15Order_any l n HN.out _ _ _ (by omega) (HC.out.past (by repeat (first | assumption | exact Below.refl _ _ | apply bl_gw | apply bl_alloc | apply bl_drewN | apply bl_drew)))).mono ?_
      rintro e w3 ⟨v3, rfl, o3, bb3⟩
      obtain ⟨A3, c3, rfl, hc3, _, _⟩ := o3.slice
      rw [ordTo_length] at o3 hc3 ⊢
      have O3 := Lib.hid o3
      have B3 := Lib.hid (below_step (show Below w.heap.size w _ from (by repeat (first | assumption | exact Below.refl _ _ | apply bl_gw | apply bl_alloc | apply bl_drewN | apply bl_drew))) bb3)
      have hz3 := B3.out.size
      clear o3 bb3
      go_wp2
      go_loopw [7, 8, 9] (fun kv sv jv wr => ∃ j : Nat, j ≤ n ∧ jv = .int .i64 ((j : Int) - 1) ∧ kv = .int .i64 (foldM h (S.drop j)).1 ∧ sv = .int .i64 (foldM h (S.drop j)).2 ∧ Below w3.heap.size w3 wr) (fun _ _ jv _ => (intOf jv + 1).toNat)
      case atStart =>
        refine ⟨n, Nat.le_refl _, ?_, ?_, ?_, Below.refl _ _⟩
        · first | rfl | go_num
        · rw [List.drop_eq_nil_of_le (by rw [HSN.out]; exact Nat.le_refl _)]; rfl
        · rw [List.drop_eq_nil_of_le (by rw [HSN.out]; exact Nat.le_refl _)]; rfl
      case round =>
        obtain ⟨j, hj, rfl, rfl, rfl, hbel⟩ := hrel
        have HB := Lib.hid hbel
        have hz := hbel.size
        by_cases hlt : 0 < j
        · obtain ⟨q, rfl⟩ : ∃ q, j = q + 1 := ⟨j - 1, by omega⟩
          obtain ⟨g6, rfl⟩ := O3.out.some_ (by omega)
          obtain ⟨z, hzn, hoz⟩ := ordTo_at (l := l) (k := n) (j := q) (by omega)
          have d0 := (O3.out.int hoz).2
          have hg6 := (O3.out.int hoz).1
          obtain ⟨bk, off, rfl, hbk, hcs⟩ := HC.out.bittern (by rw [HN.out]; omega)
          have hlz : l[z]? = some l[z]! := by rw [getElem!_pos l z (by rw [HN.out]; omega)]; exact List.getElem?_eq_getElem _
          obtain ⟨c0, c1, c2⟩ := hcs z _ hlz
          have hSz : S[q]! = l[z]! := List.getElem!_of_getElem? (by rw [← HRB.out]; have := readBy_at (l := l) hoz; rwa [Int.toNat_natCast] at this)
          have hdr := drop_at (show q < S.length by rw [HSN.out]; omega)
          have hoi := okT_drop HOS.out q
          rw [hSz] at hdr
          rw [hdr] at hoi
          obtain ⟨⟨K, G⟩, hKG⟩ : ∃ s, foldM h (S.drop (q + 1)) = s := ⟨_, rfl⟩
          have hst := most_step h0 h1 hoi (by rw [List.length_drop, HSN.out]; omega) (pw_drop HPW.out (q + 1)) hKG
          rw [hKG]
          rw [← hdr] at hst
          generalize l[z]! = x at *
          obtain ⟨x1, x2, x3⟩ := x
          dsimp only at c0 c1 c2 hst ⊢
          obtain ⟨⟨K0, K1⟩, ⟨G0, G1⟩, ⟨⟨x20, x21⟩, ⟨x30, x31⟩⟩, N, D, Z, ⟨N0, N1⟩, hlow, hhigh, hZ, ⟨Z0, Z1⟩, hnext⟩ := hst
          have HNX := Lib.hid hnext
          rw [← HB.out.cell hg6] at d0
          rw [← B3.out.cell hbk, ← HB.out.cell (show bk < w3.heap.size by omega)] at c0 c1 c2
          have hbw : bk < wr.heap.size := by omega
          have hgw : g6 < wr.heap.size := by omega
          have q1 : (q : Int) < n := by omega
          have q2 : (0 : Int) ≤ q := by omega
          have z1 : (z : Int) < n := by omega
          have z2 : (0 : Int) ≤ z := by omega
          have w1 : wrap64 (K + N) = K + N := by unfold wrap64; omega
          have w2 : wrap64 (G + Z) = G + Z := by unfold wrap64; omega
          have w3' : wrap64 (x3 - h) = x3 - h := by unfold wrap64; omega
          have w4 : wrap64 (N * (x3 - h)) = Z := by rw [hZ]; unfold wrap64; omega
          have w5 : wrap64 ((q : Int) - 1) = (q : Int) - 1 := by unfold wrap64; omega
          rw [show ((q + 1 : Nat) : Int) - 1 = (q : Int) by omega]
          have W1 := Lib.hid w1; have W2 := Lib.hid w2; have W3 := Lib.hid w3'; have W4 := Lib.hid w4; have W5 := Lib.hid w5
          clear hcs hlz hoz hdr hoi hKG hSz hnext hZ w1 w2 w3' w4 w5
          rcases Int.lt_or_le x3 h with c | c
          · obtain ⟨e1, e2, e3, e4⟩ := hlow c
            have c' : decide (x3 < h) = true := decide_eq_true c
            have u0 : h - x3 ≠ 0 := by omega
            have E1 := Lib.hid (show G / (h - x3) = D by rw [← Int.tdiv_eq_ediv_of_nonneg G0]; exact e1)
            have E4 := Lib.hid e4
            clear hlow hhigh e1 e2 e3 e4
            go_wp2_with fail
            refine (l1Least_any _ _ _).mono ?_
            rintro e w9 ⟨rfl, rfl⟩
            rw [E1.out, E4.out]
            have w1 := W1.out; have w2 := W2.out; have w3' := W3.out; have w4 := W4.out; have w5 := W5.out
            go_wp2
            clear w1 w2 w3' w4 w5
            go_roundw
            case rel => exact ⟨q, by omega, rfl, by rw [HNX.out], by rw [HNX.out], (by repeat (first | assumption | exact Below.refl _ _ | apply bl_gw | apply bl_alloc | apply bl_drewN | apply bl_drew))⟩
            case measure => simp [intOf] <;> omega
          · have hN := hhigh c
            obtain rfl : x2 = N := hN
            have c' : decide (x3 < h) = false := decide_eq_false (by omega)
            have c'' : ¬ x3 < h := by omega
            clear hlow hhigh
            have w1 := W1.out; have w2 := W2.out; have w3' := W3.out; have w4 := W4.out; have w5 := W5.out
            go_wp2
            clear w1 w2 w3' w4 w5
            go_roundw
            case rel => exact ⟨q, by omega, rfl, by rw [HNX.out], by rw [HNX.out], (by repeat (first | assumption | exact Below.refl _ _ | apply bl_gw | apply bl_alloc | apply bl_drewN | apply bl_drew))⟩
            case measure => simp [intOf] <;> omega
        · obtain rfl : j = 0 := by omega
          rw [List.drop_zero]
          go_wp2
          go_ret2
          exact ⟨rfl, B3.out.trans (hbel.mono hz3)⟩
end Go.Proofs.Ytcajgadgdjopdaa
