/- Orders of bittern: the reference's order of casks, its best grams, its room. -/
import Derived.Test.YtcajgadgdjopdaaFillN
import Derived.Test.YtcajgadgdjopdaaIntB
namespace Go.Proofs.Ytcajgadgdjopdaa
open Go.RowKit
set_option maxHeartbeats 400000 in
theorem l1Least_any (a b : Int) (w : World) :
    Calls Try.prog 55 #[.int .i64 a, .int .i64 b] w fun e w' => e = .returned (.int .i64 (min a b)) ∧ w = w' := by
  go_enter Try.func55, Try.ntmps55
  go_wp2
  all_goals go_ret
  all_goals exact ⟨ret_int (by first | omega | (simp; omega)), rfl⟩
set_option maxHeartbeats 400000 in
theorem l1Most_any (a b : Int) (w : World) :
    Calls Try.prog 78 #[.int .i64 a, .int .i64 b] w fun e w' => e = .returned (.int .i64 (max a b)) ∧ w = w' := by
  go_enter Try.func78, Try.ntmps78
  go_wp2
  all_goals go_ret
  all_goals exact ⟨ret_int (by first | omega | (simp; omega)), rfl⟩
/-- The casks read in an order. -/
def readBy (l : List Bittern) (o : List Int) : List Bittern := o.map fun z => l[z.toNat]!
theorem readBy_at {l : List Bittern} {o : List Int} {j : Nat} {z : Int} (h : o[j]? = some z) : (readBy l o)[j]? = some l[z.toNat]! := by rw [readBy, List.getElem?_map, h]; rfl
def bestV (T : List Bittern) (k : Int) : Int := if 0 < leftT T k then -1 else gainT T k
set_option maxRecDepth 4000 in
set_option maxHeartbeats 4000000 in
theorem l15Best_any (l : List Bittern) (o : List Int) (n m : Nat) (hn : l.length = n) (hm : o.length = m) (ho : ∀ z ∈ o, 0 ≤ z ∧ z < n) (hok : OkT (readBy l o)) (hm8 : m ≤ 8) (A A' : Option Addr) (cap cap' : Nat) (f : Nat) (k : Int) (hf : f ≤ m) (k0 : 0 ≤ k) (k1 : k ≤ 100000) (w : World) (hc : Sl encBittern w w.heap.size A l) (hd : Sl encInt w w.heap.size A' o) :
    Calls Try.prog 77 #[.slice A n cap, .slice A' m cap', .int .i64 f, .int .i64 k] w fun e w' => e = .returned (.int .i64 (bestV ((readBy l o).drop f) k)) ∧ Below w.heap.size w w' := by
  have HC := Lib.hid hc; clear hc
  have HD := Lib.hid hd; clear hd
  have HN := Lib.hid hn; clear hn
  have HM := Lib.hid hm; clear hm
  have HO := Lib.hid ho; clear ho
  obtain ⟨S, hS⟩ : ∃ S, readBy l o = S := ⟨_, rfl⟩
  have HR := Lib.hid (show ∀ (j : Nat) (z : Int), o[j]? = some z → S[j]? = some l[z.toNat]! from fun j z h => by rw [← hS]; exact readBy_at h)
  have hSl : S.length = m := by rw [← hS, readBy, List.length_map]; exact HM.out
  rw [hS] at hok ⊢
  have HOK := Lib.hid hok
  have HSL := Lib.hid hSl
  clear hok hS hSl
  go_enter Try.func77, Try.ntmps77
  go_wp2
  go_loopw [3, 9, 10] (fun kv sv jv wr => ∃ j : Nat, f ≤ j ∧ j ≤ m ∧ jv = .int .i64 ((j : Int) - 1) ∧ kv = .int .i64 (leftT (S.drop j) k) ∧ sv = .int .i64 (gainT (S.drop j) k) ∧ Below w.heap.size w wr) (fun _ _ jv _ => (intOf jv + 1).toNat)
  case atStart =>
    refine ⟨m, hf, Nat.le_refl _, ?_, ?_, ?_, Below.refl _ _⟩
    · first | rfl | go_num
    · rw [List.drop_eq_nil_of_le (by rw [HSL.out]; exact Nat.le_refl _)]; rfl
    · rw [List.drop_eq_nil_of_le (by rw [HSL.out]; exact Nat.le_refl _)]; rfl
  case round =>
    obtain ⟨j, hj1, hj2, rfl, rfl, rfl, hbel⟩ := hrel
    have hsz := hbel.size
    by_cases hlt : f < j
    · obtain ⟨q, rfl⟩ : ∃ q, j = q + 1 := ⟨j - 1, by omega⟩
      have hoq : o[q]? = some (o[q]'(by rw [HM.out]; omega)) := List.getElem?_eq_getElem _
      have hz := HO.out _ (List.getElem_mem (show q < o.length by rw [HM.out]; omega))
      obtain ⟨z, hzz⟩ : ∃ z : Nat, o[q]'(by rw [HM.out]; omega) = z := ⟨(o[q]'(by rw [HM.out]; omega)).toNat, by omega⟩
      rw [hzz] at hoq hz
      have hSq := HR.out q z hoq
      rw [Int.toNat_natCast] at hSq
      have hlz : l[z]? = some l[z]! := by rw [getElem!_pos l z (by rw [HN.out]; omega)]; exact List.getElem?_eq_getElem _
      obtain ⟨bk, off, rfl, hb, hcs⟩ := HC.out.bittern (by rw [HN.out]; omega)
      obtain ⟨bo, offo, rfl, hbo, hco⟩ := HD.out.int_ (by rw [HM.out]; omega)
      obtain ⟨_, c1, c2⟩ := hcs z _ hlz
      have d0 := hco q _ hoq
      have hdr := drop_at (show q < S.length by rw [HSL.out]; omega)
      rw [List.getElem!_of_getElem? hSq] at hdr
      have hoks := okT_drop HOK.out q
      rw [hdr] at hoks
      obtain ⟨ox, oT⟩ := okT_cons hoks
      have hl := left_room oT k0
      have hrr := room_rng oT
      have hg := gain_rng oT k0
      have hl2 : leftT (S.drop q) k = leftT (S.drop (q + 1)) k - min (leftT (S.drop (q + 1)) k) l[z]!.kilos := by rw [hdr]; rfl
      have hg2 : gainT (S.drop q) k = gainT (S.drop (q + 1)) k + min (leftT (S.drop (q + 1)) k) l[z]!.kilos * l[z]!.bitter := by rw [hdr]; rfl
      generalize l[z]! = x at c1 c2 ox hl2 hg2
      obtain ⟨L, hL⟩ : ∃ L, leftT (S.drop (q + 1)) k = L := ⟨_, rfl⟩
      obtain ⟨G, hG⟩ : ∃ L, gainT (S.drop (q + 1)) k = L := ⟨_, rfl⟩
      rw [hL] at hl hg hl2 hg2 ⊢
      rw [hG] at hg hg2 ⊢
      obtain ⟨x1, x2, x3⟩ := x
      dsimp only at c1 c2 ox hl2 hg2
      obtain ⟨t, ht⟩ : ∃ t, min L x2 = t := ⟨_, rfl⟩
      rw [ht] at hl2 hg2
      have t0 : 0 ≤ t := by omega
      have m1 := Int.mul_nonneg t0 ox.2.1
      have m2 := Int.mul_le_mul_of_nonneg_left ox.2.2 t0
      obtain ⟨Z, hZ⟩ : ∃ Z, t * x3 = Z := ⟨_, rfl⟩
      rw [hZ] at hg2 m1 m2
      rw [← hbel.cell hb] at c1 c2
      rw [← hbel.cell hbo] at d0
      have hbw : bk < wr.heap.size := by omega
      have hbw2 : bo < wr.heap.size := by omega
      have q1 : (q : Int) < m := by omega
      have q2 : (0 : Int) ≤ q := by omega
      have q3 : (f : Int) ≤ q := by omega
      have z1 : (z : Int) < n := by omega
      have z2 : (0 : Int) ≤ z := by omega
      have hq0 : q < m := by omega
      have hfq : f ≤ q := by omega
      have HL2 := Lib.hid hl2; have HG2 := Lib.hid hg2; have HT := Lib.hid ht
      have w1 : wrap64 (t * x3) = Z := by rw [hZ]; unfold wrap64; omega
      have W1 := Lib.hid w1
      clear w1
      have w2 : wrap64 (G + Z) = G + Z := by unfold wrap64; omega
      have W2 := Lib.hid w2
      clear w2
      have w3 : wrap64 (L - t) = L - t := by unfold wrap64; omega
      have W3 := Lib.hid w3
      clear w3
      have w4 : wrap64 ((q : Int) - 1) = (q : Int) - 1 := by unfold wrap64; omega
      rw [show ((q + 1 : Nat) : Int) - 1 = (q : Int) by omega]
      clear hcs hco hdr hoks oT hl hrr hg hL hG hl2 hg2 ht hZ m1 m2 hoq hSq hlz hzz ox hz
      go_wp2_with fail
      refine (l1Least_any _ _ _).mono ?_
      rintro e wx ⟨rfl, rfl⟩
      rw [HT.out]
      have w1 := W1.out; have w2 := W2.out; have w3 := W3.out
      go_wp2
      clear w1 w2 w3 w4
      go_roundw
      case rel => exact ⟨q, hfq, by omega, rfl, by rw [HL2.out, W3.out], by rw [HG2.out, W2.out], hbel⟩
      case measure => simp [intOf] <;> omega
    · obtain rfl : j = f := by omega
      have k3 : ¬ (j : Int) ≤ (j : Int) - 1 := by omega
      by_cases hp : 0 < leftT (S.drop j) k
      · have HV := Lib.hid (show bestV (S.drop j) k = -1 by unfold bestV; rw [if_pos hp])
        go_wp2
        go_ret
        rw [HV.out]
        exact ⟨rfl, hbel⟩
      · have HV := Lib.hid (show bestV (S.drop j) k = gainT (S.drop j) k by unfold bestV; rw [if_neg hp])
        go_wp2
        go_ret
        rw [HV.out]
        exact ⟨rfl, hbel⟩
/-- Kilograms of the first casks. -/
def kilT (S : List Bittern) (t : Nat) : Int := loopTo (fun i s => s + S[i]!.kilos) 0 t
theorem kilT_room : ∀ (S : List Bittern) (i : Nat), i ≤ S.length → kilT S i + roomT (S.drop i) = roomT S
  | S, 0, _ => by simp [kilT, loopTo]
  | S, i + 1, h => by
    have ih := kilT_room S i (by omega)
    rw [drop_at (show i < S.length by omega), roomT] at ih
    have e : kilT S (i + 1) = kilT S i + S[i]!.kilos := rfl
    rw [e]; omega
set_option maxRecDepth 4000 in
set_option maxHeartbeats 4000000 in
theorem l15Room_any (l : List Bittern) (o : List Int) (n m : Nat) (hn : l.length = n) (hm : o.length = m) (ho : ∀ z ∈ o, 0 ≤ z ∧ z < n) (hok : OkT (readBy l o)) (hm8 : m ≤ 8) (A A' : Option Addr) (cap cap' : Nat) (f : Nat) (hf : f ≤ m) (w : World) (hc : Sl encBittern w w.heap.size A l) (hd : Sl encInt w w.heap.size A' o) :
    Calls Try.prog 79 #[.slice A n cap, .slice A' m cap', .int .i64 f] w fun e w' => e = .returned (.int .i64 (roomT ((readBy l o).drop f))) ∧ Below w.heap.size w w' := by
  have HC := Lib.hid hc; clear hc
  have HD := Lib.hid hd; clear hd
  have HN := Lib.hid hn; clear hn
  have HM := Lib.hid hm; clear hm
  have HO := Lib.hid ho; clear ho
  obtain ⟨S, hS⟩ : ∃ S, readBy l o = S := ⟨_, rfl⟩
  have HR := Lib.hid (show ∀ (j : Nat) (z : Int), o[j]? = some z → S[j]? = some l[z.toNat]! from fun j z h => by rw [← hS]; exact readBy_at h)
  have hSl : S.length = m := by rw [← hS, readBy, List.length_map]; exact HM.out
  rw [hS] at hok ⊢
  have HOK := Lib.hid hok
  have HSL := Lib.hid hSl
  obtain ⟨R, hR⟩ : ∃ R, roomT (S.drop f) = R := ⟨_, rfl⟩
  rw [hR]
  have hRr := room_rng (okT_drop hok f)
  rw [hR, List.length_drop, hSl] at hRr
  have HRR := Lib.hid hR
  clear hok hS hSl hR
  go_enter Try.func79, Try.ntmps79
  go_wp2
  go_loopw [7, 8] (fun sv jv wr => ∃ j : Nat, f ≤ j ∧ j ≤ m ∧ jv = .int .i64 j ∧ sv = .int .i64 (R - roomT (S.drop j)) ∧ Below w.heap.size w wr) (fun _ jv _ => m - (intOf jv).toNat)
  case atStart => exact ⟨f, Nat.le_refl _, hf, rfl, by rw [HRR.out, Int.sub_self], Below.refl _ _⟩
  case round =>
    obtain ⟨q, hj1, hj2, rfl, rfl, hbel⟩ := hrel
    have hsz := hbel.size
    by_cases hlt : q < m
    · have hoq : o[q]? = some (o[q]'(by rw [HM.out]; omega)) := List.getElem?_eq_getElem _
      have hz := HO.out _ (List.getElem_mem (show q < o.length by rw [HM.out]; omega))
      obtain ⟨z, hzz⟩ : ∃ z : Nat, o[q]'(by rw [HM.out]; omega) = z := ⟨(o[q]'(by rw [HM.out]; omega)).toNat, by omega⟩
      rw [hzz] at hoq hz
      have hSq := HR.out q z hoq
      rw [Int.toNat_natCast] at hSq
      have hlz : l[z]? = some l[z]! := by rw [getElem!_pos l z (by rw [HN.out]; omega)]; exact List.getElem?_eq_getElem _
      obtain ⟨bk, off, rfl, hb, hcs⟩ := HC.out.bittern (by rw [HN.out]; omega)
      obtain ⟨bo, offo, rfl, hbo, hco⟩ := HD.out.int_ (by rw [HM.out]; omega)
      obtain ⟨_, c1, c2⟩ := hcs z _ hlz
      have d0 := hco q _ hoq
      have hdr := drop_at (show q < S.length by rw [HSL.out]; omega)
      rw [List.getElem!_of_getElem? hSq] at hdr
      have hoks := okT_drop HOK.out q
      rw [hdr] at hoks
      obtain ⟨ox, oT⟩ := okT_cons hoks
      have hrr := room_rng oT
      rw [List.length_drop, HSL.out] at hrr
      have hl2 : roomT (S.drop q) = roomT (S.drop (q + 1)) + l[z]!.kilos := by rw [hdr]; rfl
      generalize l[z]! = x at c1 c2 ox hl2
      obtain ⟨L, hL⟩ : ∃ L, roomT (S.drop (q + 1)) = L := ⟨_, rfl⟩
      rw [hL] at hrr hl2
      rw [hl2]
      obtain ⟨x1, x2, x3⟩ := x
      dsimp only at c1 c2 ox hl2 ⊢
      rw [← hbel.cell hb] at c1 c2
      rw [← hbel.cell hbo] at d0
      have hbw : bk < wr.heap.size := by omega
      have hbw2 : bo < wr.heap.size := by omega
      have q1 : (q : Int) < m := by omega
      have q2 : (0 : Int) ≤ q := by omega
      have z1 : (z : Int) < n := by omega
      have z2 : (0 : Int) ≤ z := by omega
      have hfq : f ≤ q + 1 := by omega
      have hq1 : q + 1 ≤ m := by omega
      have HL := Lib.hid hL
      have w1 : wrap64 (R - (L + x2) + x2) = R - L := by unfold wrap64; omega
      have W1 := Lib.hid w1
      clear hcs hco hdr hoks oT hrr hL hl2 hoq hSq hlz hzz ox hz w1
      go_wp2
      go_roundw
      case rel => exact ⟨q + 1, hfq, hq1, by go_num, by rw [HL.out, W1.out], hbel⟩
      case measure => simp [intOf] <;> omega
    · obtain rfl : q = m := by omega
      rw [show S.drop q = [] from List.drop_eq_nil_of_le (by rw [HSL.out]; exact Nat.le_refl _)]
      go_wp2
      go_ret
      exact ⟨by simp [roomT], hbel⟩
end Go.Proofs.Ytcajgadgdjopdaa
