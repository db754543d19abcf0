/- Orders of bittern: the program's FillOrder. -/
import Derived.Test.YtcajgadgdjopdaaFillN
import Derived.Test.YtcajgadgdjopdaaByBit
import Derived.Test.YtcajgadgdjopdaaSortQ
import Derived.Deep.Cut
import Derived.Deep.CutRange
namespace Go.Proofs.Ytcajgadgdjopdaa
open Go.RowKit
def askedB (l : List Bittern) (k b : Int) : Bool := areBitterns l && (inB k 1 100000 && inB b 0 1000)
def fillOK (l : List Bittern) (k b : Int) : Bool := askedB l k b && (decide (leftT (sorted l) k = 0) && decide (k * b ≤ gainT (sorted l) k))
def fillP (l : List Bittern) (k b : Int) : List Ditch := if fillOK l k b then pairsS l (outTo l k (k * b) l.length) l.length else []
theorem fill_no {l : List Bittern} {k b : Int} (h : fillOK l k b = false) : fillP l k b = [] := by simp [fillP, h]
theorem pairsS_len (l : List Bittern) (out : List Int) : ∀ t, (pairsS l out t).length ≤ t
  | 0 => by simp [pairsS, loopTo]
  | t + 1 => by
    have := pairsS_len l out t
    have e : pairsS l out (t + 1) = if 0 < out[t]! then pairsS l out t ++ [⟨l[t]!.id, out[t]!⟩] else pairsS l out t := rfl
    rw [e]
    split
    · simp; omega
    · omega
theorem fillP_length (l : List Bittern) (k b : Int) : (fillP l k b).length ≤ 8 := by
  unfold fillP
  split
  · rename_i h
    simp only [fillOK, askedB, Bool.and_eq_true] at h
    have := areBitterns_len h.1.1
    have := pairsS_len l (outTo l k (k * b) l.length) l.length
    omega
  · simp
theorem sl_tailB {w : World} {B g off k c : Nat} {S : List Bittern} (h : Sl encBittern w B (some ⟨g, off, none⟩) S) (hS : S.length = k) (hk : k ≤ c) (p : Nat) : Sl encBittern w B (if c = p then some ⟨g, off, none⟩ else some ⟨g, off + p * 3, none⟩) (S.drop p) := by
  split
  · exact Sl.nil_' (List.drop_eq_nil_of_le (by omega))
  · exact h.drop_ p
theorem stA_rng {S : List Bittern} {k g : Int} (h : OkT S) (hf : FeasS S (k, g)) : ∀ i, i ≤ S.length → (stA S k g i).1 ≤ k ∧ g - 1000 * (k - (stA S k g i).1) ≤ (stA S k g i).2
  | 0, _ => by simp [stA]
  | i + 1, hi => by
    have ih := stA_rng h hf i (by omega)
    have hb := h S[i]! (by rw [getElem!_pos S i (by omega)]; exact List.getElem_mem _)
    rw [stA]
    dsimp only
    generalize pickN (S.drop (i + 1)) S[i]! (stA S k g i).1 (stA S k g i).2 = n
    have m1 := Int.mul_le_mul_of_nonneg_left hb.2.2 (show (0 : Int) ≤ n by omega)
    generalize (n : Int) * S[i]!.bitter = z at *
    omega
set_option maxRecDepth 4000 in
set_option maxHeartbeats 8000000 in
theorem impl_FillOrder_any (l : List Bittern) (n : Nat) (hn : l.length = n) (A : Option Addr) (cap : Nat) (k b : Int) (w : World) (hl : n ≤ 1048576) (hc : Sl encBittern w w.heap.size A l) :
    Calls Try.prog 10 #[.slice A n cap, .int .i64 k, .int .i64 b] w fun e w' => ∃ v, e = .returned (.tuple #[v, .bool (fillOK l k b)]) ∧ Own encDitch w' w.heap.size 37 v (fillP l k b) ∧ Below w.heap.size w w' := by
  have HC := Lib.hid hc; clear hc
  have HN := Lib.hid hn; clear hn
  rcases sp3 (areBitterns l) (inB k 1 100000) (inB b 0 1000) with t1 | ⟨t1, t2⟩ | ⟨t1, t2, t3⟩ | ⟨t1, t2, t3⟩
  · have hq : fillOK l k b = false := by simp [fillOK, askedB, t1]
    have HA := Lib.hid t1
    have hp := fill_no hq
    rw [hq, hp]
    clear hq hp
    clear t1
    go_enter Try.func10, Try.ntmps10
    go_wp2_with (first | (go_at_call 13; refine (impl_AreBitterns_any l n HN.out _ _ _ hl HC.out).mono ?_; rintro e w1 ⟨rfl, hb⟩; rw [HA.out]; obtain ⟨p, rfl⟩ := below_gw hb; clear hb))
    go_ret2
    exact ⟨_, rfl, Own.none_, (by repeat (first | assumption | exact Below.refl _ _ | apply bl_gw | apply bl_alloc | apply bl_drewN | apply bl_drew))⟩
  · have hq : fillOK l k b = false := by simp [fillOK, askedB, t1, t2]
    have HA := Lib.hid t1
    have HT2 := Lib.hid t2
    have hp := fill_no hq
    rw [hq, hp]
    clear hq hp
    clear t1 t2
    go_enter Try.func10, Try.ntmps10
    go_wp2_with (first | (go_at_call 13; refine (impl_AreBitterns_any l n HN.out _ _ _ hl HC.out).mono ?_; rintro e w1 ⟨rfl, hb⟩; rw [HA.out]; obtain ⟨p, rfl⟩ := below_gw hb; clear hb) | (go_at_call 41; refine (within_q HT2.out _).mono ?_; rintro e w1 ⟨rfl, rfl⟩))
    go_ret2
    exact ⟨_, rfl, Own.none_, (by repeat (first | assumption | exact Below.refl _ _ | apply bl_gw | apply bl_alloc | apply bl_drewN | apply bl_drew))⟩
  · have hq : fillOK l k b = false := by simp [fillOK, askedB, t1, t2, t3]
    have HA := Lib.hid t1
    have HT2 := Lib.hid t2
    have HT3 := Lib.hid t3
    have hp := fill_no hq
    rw [hq, hp]
    clear hq hp
    clear t1 t2 t3
    go_enter Try.func10, Try.ntmps10
    go_wp2_with (first | (go_at_call 13; refine (impl_AreBitterns_any l n HN.out _ _ _ hl HC.out).mono ?_; rintro e w1 ⟨rfl, hb⟩; rw [HA.out]; obtain ⟨p, rfl⟩ := below_gw hb; clear hb) | (go_at_call 41; refine (within_q HT2.out _).mono ?_; rintro e w1 ⟨rfl, rfl⟩) | (go_at_call 42; refine (isBitter_q HT3.out _).mono ?_; rintro e w1 ⟨rfl, rfl⟩))
    go_ret2
    exact ⟨_, rfl, Own.none_, (by repeat (first | assumption | exact Below.refl _ _ | apply bl_gw | apply bl_alloc | apply bl_drewN | apply bl_drew))⟩
  · have hn8 : n ≤ 8 := by have := areBitterns_len t1; rw [HN.out] at this; exact this
    obtain ⟨k0, k1⟩ : 1 ≤ k ∧ k ≤ 100000 := by simpa [inB] using t2
    obtain ⟨b0, b1⟩ : 0 ≤ b ∧ b ≤ 1000 := by simpa [inB] using t3
    have g0 : 0 ≤ k * b := Int.mul_nonneg (by omega) b0
    have g1 : k * b ≤ 100000 * 1000 := Int.mul_le_mul k1 b1 b0 (by omega)
    obtain ⟨S, hS⟩ : ∃ S, sorted l = S := ⟨_, rfl⟩
    have hoS : OkT S := by rw [← hS]; exact sorted_ok t1
    have hSn : S.length = n := by rw [← hS, sorted_length]; exact HN.out
    have hup : ∀ i, ∀ x ∈ S.drop (i + 1), S[i]!.bitter ≤ x.bitter := by rw [← hS]; exact fun i => sorted_up l
    have hG : fillOK l k b = (decide (leftT S k = 0) && decide (k * b ≤ gainT S k)) := by unfold fillOK askedB; rw [t1, t2, t3, hS]; rfl
    have hP : fillOK l k b = true → fillP l k b = insToP (pairsTo S k (k * b) n) (pairsTo S k (k * b) n).length := fun h => by
      unfold fillP
      rw [if_pos h, ← pairs_eq t1, hS, HN.out]
    have hSe : insToB l n = S := by rw [← hS, sorted, HN.out]
    obtain ⟨g, hg⟩ : ∃ g, k * b = g := ⟨_, rfl⟩
    rw [hg] at g0 g1 hG hP
    have e1 : wrap64 (k * b) = g := by rw [hg]; unfold wrap64; omega
    have e1' : IntKind.i64.wrap (k * b) = g := by rw [hg]; exact IntWalk.i64_in _ (by omega)
    have HA := Lib.hid t1
    have HT2 := Lib.hid t2
    have HT3 := Lib.hid t3
    have HOS := Lib.hid hoS
    have HSN := Lib.hid hSn
    have HUP := Lib.hid hup
    have HG := Lib.hid hG
    have HP := Lib.hid hP
    have HSE := Lib.hid hSe
    have hcf : canFillW S k g = (decide (leftT S k = 0) && decide (g ≤ gainT S k)) := canFill_eq hoS (by omega) k1 (by omega) (by omega) (by omega)
    have HCF := Lib.hid (hcf.trans hG.symm)
    clear t1 t2 t3 hS hoS hSn hup hG hP hg hcf hSe
    go_enter Try.func10, Try.ntmps10
    go_wp2_with (first | (go_at_call 13; refine (impl_AreBitterns_any l n HN.out _ _ _ hl HC.out).mono ?_; rintro e w1 ⟨rfl, hb⟩; rw [HA.out]; obtain ⟨p, rfl⟩ := below_gw hb; clear hb) | (go_at_call 41; refine (within_q HT2.out _).mono ?_; rintro e w1 ⟨rfl, rfl⟩) | (go_at_call 42; refine (isBitter_q HT3.out _).mono ?_; rintro e w1 ⟨rfl, rfl⟩))
    refine (byBitter_any l n HN.out _ _ _ (by omega) (HC.out.past (by repeat (first | assumption | exact Below.refl _ _ | apply bl_gw | apply bl_alloc | apply bl_drewN | apply bl_drew)))).mono ?_
    rintro e w3 ⟨v3, rfl, o3, bb3⟩
    rw [HSE.out] at o3
    obtain ⟨A8, c8, rfl, hc8, _, _⟩ := o3.slice
    rw [HSN.out] at o3 hc8 ⊢
    have S3 := Lib.hid o3.rd
    have B3 := Lib.hid (below_step (show Below w.heap.size w _ from (by repeat (first | assumption | exact Below.refl _ _ | apply bl_gw | apply bl_alloc | apply bl_drewN | apply bl_drew))) bb3)
    have hz3 := B3.out.size
    clear o3 bb3
    go_wp2_with fail
    refine (canFill_any S n HSN.out _ _ _ _ _ (by omega) S3.out).mono ?_
    rintro e w4 ⟨rfl, bb⟩
    rw [HCF.out]
    have S4 := Lib.hid ((S3.out.below bb).more bb.size)
    have B4 := Lib.hid (B3.out.trans (bb.mono hz3))
    have hz4 := B4.out.size
    clear bb
    cases hok : fillOK l k b with
    | false =>
      have HPE := Lib.hid (fill_no hok)
      have HOK := Lib.hid hok
      clear hok
      go_wp2
      go_ret2
      rw [HOK.out, HPE.out]
      exact ⟨_, rfl, Own.none_, B4.out⟩
    | true =>
      have hfe : FeasS S (k, g) := by
        have := HG.out
        rw [hok] at this
        have := this.symm
        simp only [Bool.and_eq_true, decide_eq_true_eq] at this
        exact ⟨by show 0 ≤ k; omega, this.1, this.2⟩
      have HFE := Lib.hid (fun i (hi : i ≤ n) => (show FeasS (S.drop i) (stA S k g i) from stA_feas HOS.out hfe i (by rw [HSN.out]; exact hi)))
      have HSR := Lib.hid (fun i (hi : i ≤ n) => stA_rng HOS.out hfe i (by rw [HSN.out]; exact hi))
      have hp := HP.out hok
      obtain ⟨m, hm⟩ : ∃ m, (pairsTo S k g n).length = m := ⟨_, rfl⟩
      have hm8 : m ≤ 8 := by have := pairsTo_len S k g n; omega
      rw [hm] at hp
      have HPE := Lib.hid hp
      have HOK := Lib.hid hok
      have HMM := Lib.hid hm
      obtain ⟨i0, hinf, hz0, hz1, hz2⟩ := info_parts info_Ditch
      clear hfe hp hok hm
      go_wp2
      go_loopw [1, 9, 10, 39] (fun kv gv u iv wr => ∃ i : Nat, i ≤ n ∧ iv = .int .i64 i ∧ kv = .int .i64 (stA S k g i).1 ∧ gv = .int .i64 (stA S k g i).2 ∧ Own encDitch wr w4.heap.size 37 u (pairsTo S k g i) ∧ Below w4.heap.size w4 wr) (fun _ _ _ iv _ => n - (intOf iv).toNat)
      case atStart => exact ⟨0, Nat.zero_le _, rfl, rfl, rfl, Own.none_, Below.refl _ _⟩
      case round =>
        obtain ⟨i, hi, rfl, rfl, rfl, ho, hbel⟩ := hrel
        have HO := Lib.hid ho
        have HB := Lib.hid hbel
        have hz := hbel.size
        clear ho hbel
        by_cases hlt : i < n
        · have hx : S[i]? = some S[i]! := by rw [getElem!_pos S i (by rw [HSN.out]; exact hlt)]; exact List.getElem?_eq_getElem _
          obtain ⟨g8, off, rfl, hb8, hcs⟩ := S4.out.bittern (by rw [HSN.out]; omega)
          obtain ⟨f0, f1, f2⟩ := HFE.out i (by omega)
          obtain ⟨r1, r2⟩ := HSR.out i (by omega)
          have hdr := drop_at (show i < S.length by rw [HSN.out]; exact hlt)
          have hoi := okT_drop HOS.out i
          have hpp := pairsTo_succ S k g i
          have hup := HUP.out i
          have hs1 : stA S k g (i + 1) = ((stA S k g i).1 - (amtA S k g i : Nat), (stA S k g i).2 - (amtA S k g i : Nat) * S[i]!.bitter) := rfl
          have hpi : amtA S k g i = pickN (S.drop (i + 1)) S[i]! (stA S k g i).1 (stA S k g i).2 := rfl
          unfold pairOf at hpp
          obtain ⟨c0, c1, c2⟩ := hcs i _ hx
          obtain ⟨⟨ki, gi⟩, hst⟩ : ∃ s, stA S k g i = s := ⟨_, rfl⟩
          obtain ⟨a, ha⟩ : ∃ a, amtA S k g i = a := ⟨_, rfl⟩
          rw [hst] at f0 f1 f2 r1 r2 hs1 hpi ⊢
          rw [ha] at hs1 hpi hpp
          rw [hdr] at hoi f1 f2
          dsimp only at f0 f1 f2 r1 r2 hs1 hpi ⊢
          generalize S[i]! = x at *
          obtain ⟨hxo, hTo⟩ := okT_cons hoi
          obtain ⟨pk1, pk2⟩ := pick_feas hoi (show FeasS (x :: S.drop (i + 1)) (ki, gi) from ⟨f0, f1, f2⟩)
          rw [← hpi] at pk1 pk2
          have hgr := gain_rng hoi f0
          have hTl : (S.drop (i + 1)).length = n - (i + 1) := by rw [List.length_drop, HSN.out]
          have HTS := Lib.hid (show ∀ W : World, Below w4.heap.size w4 W → Sl encBittern W W.heap.size (if c8 = i + 1 then some ⟨g8, off, none⟩ else some ⟨g8, off + (i + 1) * 3, none⟩) (S.drop (i + 1)) from fun W hW => sl_tailB ((S4.out.below hW).more hW.size) HSN.out (by omega) (i + 1))
          obtain ⟨M, hM⟩ : ∃ M : Nat, min ki x.kilos = M := ⟨(min ki x.kilos).toNat, by omega⟩
          have hq : posDown (fun j => !feasB (S.drop (i + 1)) x ki gi (j + 1)) M = a := by rw [hpi, pickN, hM]; rfl
          have HS1 := Lib.hid hs1
          have HPP := Lib.hid hpp
          have HQ := Lib.hid hq
          have HPK := Lib.hid pk2
          have HTO := Lib.hid hTo
          have HTL := Lib.hid hTl
          generalize S.drop (i + 1) = T at *
          rw [← HB.out.cell hb8] at c0 c1 c2
          obtain ⟨x1, x2, x3⟩ := x
          dsimp only at c0 c1 c2 hxo pk1 hM
          have hbw : g8 < wr.heap.size := by omega
          have i1 : (i : Int) < n := by omega
          have i2 : (0 : Int) ≤ i := by omega
          have gi1 : gi ≤ 100000000 := by omega
          have gi0 : -100000000 ≤ gi := by omega
          have ki1 : ki ≤ 100000 := by omega
          have hM1 : (M : Int) ≤ ki := by omega
          have hM2 : (M : Int) ≤ 10000 := by omega
          have hc81 : n ≤ c8 := by omega
          clear hcs hx hdr hoi f1 f2 hs1 hpp hq hpi pk2 hTo hgr hTl hst ha hup r1 r2
          go_upto_region 11 with (fail)
          refine wp_name (fun W1 hW1 => ?_)
          have HKB := Lib.hid (show Blk W1 wr.heap.size 69 #[.int .i64 x1, .int .i64 x2, .int .i64 x3] by rw [hW1]; exact (by first | exact Blk.new _ _ _ | exact Blk.new_ _ _ _ _ (by simp) | exact (Blk.new _ _ _).drewN _ | exact (Blk.new _ _ _).gw _))
          have HB1 := Lib.hid (show Below wr.heap.size wr W1 by rw [hW1]; exact (by repeat (first | assumption | exact Below.refl _ _ | apply bl_gw | apply bl_alloc | apply bl_drewN | apply bl_drew)))
          clear hW1 c0 c1 c2
          have d0 : W1.cell? ⟨wr.heap.size, 0, none⟩ = some (.int .i64 x1) := HKB.out.cell 0
          have d1 : W1.cell? ⟨wr.heap.size, 1, none⟩ = some (.int .i64 x2) := HKB.out.cell 1
          have d2 : W1.cell? ⟨wr.heap.size, 2, none⟩ = some (.int .i64 x3) := HKB.out.cell 2
          have hk1 := HKB.out.lt
          go_cut [13] from 40 to 83 (fun u wx => u = .int .i64 M ∧ wx = W1)
          case first => as_aux_lemma =>
            go_wp2
            all_goals
              go_meet
              exact ⟨by first | rw [show ki = (M : Int) by omega] | rw [show x2 = (M : Int) by omega], rfl⟩
          case rest => as_aux_lemma =>
            obtain ⟨rfl, rfl⟩ := hcut
            have hzc := HB1.out.size
            go_wp2
            go_loopw [13] (fun nv w' => ∃ p : Nat, p ≤ M ∧ nv = .int .i64 p ∧ posDown (fun j => !feasB T ⟨x1, x2, x3⟩ ki gi (j + 1)) p = a ∧ Below wc.heap.size wc w') (fun nv _ => (intOf nv).toNat)
            case atStart => exact ⟨M, Nat.le_refl _, rfl, HQ.out, Below.refl _ _⟩
            case round =>
              obtain ⟨p, hp, rfl, hpd, hb2⟩ := hrel
              rename World => w'
              have HPD := Lib.hid hpd
              have HB2 := Lib.hid hb2
              clear hpd
              have m1 := Int.mul_nonneg (show (0 : Int) ≤ p by omega) hxo.2.1
              have m2 := Int.mul_le_mul_of_nonneg_left hxo.2.2 (show (0 : Int) ≤ p by omega)
              obtain ⟨Z, hZ⟩ : ∃ Z, (p : Int) * x3 = Z := ⟨_, rfl⟩
              have hcf : canFillW T (ki - p) (gi - p * x3) = feasB T ⟨x1, x2, x3⟩ ki gi p := canFill_eq HTO.out (by omega) (by omega) (by omega) (by omega) (by rw [HTL.out]; omega)
              rw [hZ] at hcf m1 m2
              have HCAN := Lib.hid (show ∀ (W : World) (A' : Option Addr) (c' : Nat), Sl encBittern W W.heap.size A' T → Calls Try.prog 44 #[.slice A' (n - (i + 1)) c', .int .i64 (ki - p), .int .i64 (gi - Z)] W fun e w' => e = .returned (.bool (feasB T ⟨x1, x2, x3⟩ ki gi p)) ∧ Below W.heap.size W w' from fun W A' c' h => by
                have := canFill_any T (n - (i + 1)) HTL.out A' c' (ki - p) (gi - Z) W (by omega) h
                rw [hcf] at this
                exact this)
              have e2 : IntKind.i64.wrap ((p : Int) * x3) = Z := by rw [hZ]; exact IntWalk.i64_in _ (by omega)
              have e2' : wrap64 ((p : Int) * x3) = Z := by rw [hZ]; unfold wrap64; omega
              have e3 : IntKind.i64.wrap (gi - Z) = gi - Z := IntWalk.i64_in _ (by omega)
              have e3' : wrap64 (gi - Z) = gi - Z := by unfold wrap64; omega
              have e4 : IntKind.i64.wrap (ki - (p : Int)) = ki - p := IntWalk.i64_in _ (by omega)
              have e4' : wrap64 (ki - (p : Int)) = ki - p := by unfold wrap64; omega
              obtain ⟨j, hj⟩ : ∃ j, i + 1 = j := ⟨_, rfl⟩
              have HTSj := Lib.hid (show ∀ W : World, Below w4.heap.size w4 W → Sl encBittern W W.heap.size (if c8 = j then some ⟨g8, off, none⟩ else some ⟨g8, off + j * 3, none⟩) T from by subst hj; exact HTS.out)
              rw [hj] at HCAN
              have e6 : (j : Int) ≤ n := by omega
              have e7 : (j : Int) ≤ c8 := by omega
              have e8 : (0 : Int) ≤ (j : Int) := by omega
              have e9 : ((j : Int)).toNat = j := by omega
              have e10 : j ≤ n := by omega
              have e11 : j ≤ c8 := by omega
              have e5 : IntKind.i64.wrap ((i : Int) + 1) = (j : Int) := by rw [IntWalk.i64_in _ (by omega)]; omega
              have e5' : wrap64 ((i : Int) + 1) = (j : Int) := by unfold wrap64; omega
              have HJ := Lib.hid hj
              clear hj
              have HZ := Lib.hid hZ
              rw [← hb2.cell (p := ⟨wr.heap.size, 0, none⟩) hk1] at d0
              rw [← hb2.cell (p := ⟨wr.heap.size, 1, none⟩) hk1] at d1
              rw [← hb2.cell (p := ⟨wr.heap.size, 2, none⟩) hk1] at d2
              have hk2 : wr.heap.size < w'.heap.size := by have := hb2.size; omega
              have HTW := Lib.hid (show Below w4.heap.size w4 w' from (HB.out.trans (HB1.out.mono hz)).trans (hb2.mono (by omega)))
              have hzw := HTW.out.size
              clear hcf hZ m1 m2 hb2
              obtain ⟨F, hF⟩ : ∃ F, feasB T ⟨x1, x2, x3⟩ ki gi p = F := ⟨_, rfl⟩
              rw [hF] at HCAN
              have HF := Lib.hid hF
              clear hF
              go_upto_region 12 with (fail)
              go_cut [62, 8, 13, 28, 32, 37] from 48 to 64 (fun t s8 u s28 s32 s wx => t = .bool (!F) ∧ s8 = .slice (some ⟨g8, off, none⟩) n c8 ∧ u = .int .i64 p ∧ s28 = .slice (some ⟨g8, off, none⟩) n c8 ∧ s32 = .slice (some ⟨g8, off, none⟩) n c8 ∧ s = .slice (some ⟨g8, off, none⟩) n c8 ∧ Below w'.heap.size w' wx)
              case first => as_aux_lemma =>
                by_cases hcj : c8 = j
                · have HSL := Lib.hid (show ∀ W : World, Below w4.heap.size w4 W → Sl encBittern W W.heap.size (some ⟨g8, off, none⟩) T from fun W hW => by
                    have h := HTSj.out W hW
                    rw [if_pos hcj] at h
                    exact h)
                  refine wp_region_tail 13 (by kernel_rfl) (by kernel_rfl) (fun W hW hWc hWf hWs => ?_)
                  have HW := Lib.hid hW; clear hW
                  simp only [List.take_succ_cons, List.take_zero, List.drop_succ_cons, List.drop_zero]
                  repeat still_step
                  refine wpStill_nil ?_
                  go_wp2_with fail
                  refine (HCAN.out _ _ _ (HSL.out _ (HTW.out.trans ((show Below w'.heap.size w' W by rw [HW.out]; exact (by repeat (first | assumption | exact Below.refl _ _ | apply bl_gw | apply bl_alloc | apply bl_drewN | apply bl_drew))).mono HTW.out.size)))).mono ?_
                  rintro e w9 ⟨rfl, bb⟩
                  have BB := Lib.hid (below_step (show Below w'.heap.size w' W by rw [HW.out]; exact (by repeat (first | assumption | exact Below.refl _ _ | apply bl_gw | apply bl_alloc | apply bl_drewN | apply bl_drew))) bb)
                  clear bb
                  go_wp2
                  go_meet
                  exact ⟨by first | rfl | (cases F <;> rfl), by first | rfl | rw [hcj], rfl, by first | rfl | rw [hcj], by first | rfl | rw [hcj], by first | rfl | rw [hcj], BB.out⟩
                · have HSL := Lib.hid (show ∀ W : World, Below w4.heap.size w4 W → Sl encBittern W W.heap.size (some ⟨g8, off + j * 3, none⟩) T from fun W hW => by
                    have h := HTSj.out W hW
                    rw [if_neg hcj] at h
                    exact h)
                  refine wp_region_tail 13 (by kernel_rfl) (by kernel_rfl) (fun W hW hWc hWf hWs => ?_)
                  have HW := Lib.hid hW; clear hW
                  simp only [List.take_succ_cons, List.take_zero, List.drop_succ_cons, List.drop_zero]
                  repeat still_step
                  refine wpStill_nil ?_
                  go_wp2_with fail
                  refine (HCAN.out _ _ _ (HSL.out _ (HTW.out.trans ((show Below w'.heap.size w' W by rw [HW.out]; exact (by repeat (first | assumption | exact Below.refl _ _ | apply bl_gw | apply bl_alloc | apply bl_drewN | apply bl_drew))).mono HTW.out.size)))).mono ?_
                  rintro e w9 ⟨rfl, bb⟩
                  have BB := Lib.hid (below_step (show Below w'.heap.size w' W by rw [HW.out]; exact (by repeat (first | assumption | exact Below.refl _ _ | apply bl_gw | apply bl_alloc | apply bl_drewN | apply bl_drew))) bb)
                  clear bb
                  go_wp2
                  go_meet
                  exact ⟨by first | rfl | (cases F <;> rfl), by first | rfl | rw [hcj], rfl, by first | rfl | rw [hcj], by first | rfl | rw [hcj], by first | rfl | rw [hcj], BB.out⟩
              case rest => as_aux_lemma =>
                obtain ⟨rfl, rfl, rfl, rfl, rfl, rfl, bb⟩ := hcut
                have HBC := Lib.hid bb
                rw [← bb.cell (p := ⟨wr.heap.size, 0, none⟩) hk2] at d0
                rw [← bb.cell (p := ⟨wr.heap.size, 1, none⟩) hk2] at d1
                rw [← bb.cell (p := ⟨wr.heap.size, 2, none⟩) hk2] at d2
                have hk3 : wr.heap.size < wc.heap.size := by have := bb.size; omega
                clear bb
                have E2 := Lib.hid e2; have E2' := Lib.hid e2'; have E3 := Lib.hid e3; have E3' := Lib.hid e3'; have E4 := Lib.hid e4; have E4' := Lib.hid e4'
                clear e2 e2' e3 e3' e4 e4' e5 e5'
                cases F with
                | true =>
                  have hap : p = a := by
                    rw [← HPD.out]
                    cases p with
                    | zero => rfl
                    | succ p' => rw [posDown, if_neg (by simp [HF.out])]
                  subst hap
                  have HBW := Lib.hid (HB1.out.trans ((HB2.out.trans (HBC.out.mono HB2.out.size)).mono HB1.out.size))
                  have hpl := pairsTo_len S k g i
                  have hzz := HBW.out.size
                  by_cases hpos : 0 < p
                  · have hpos1 : (0 : Int) < p := by omega
                    have hpos2 : decide ((0 : Int) < p) = true := decide_eq_true hpos1
                    have HOc := Lib.hid (HO.out.past HBW.out (Nat.le_refl _))
                    have HPQ := Lib.hid (show pairsTo S k g (i + 1) = pairsTo S k g i ++ [⟨x1, p⟩] by rw [HPP.out, if_pos hpos])
                    have hz5 : w4.heap.size ≤ wc.heap.size := by omega
                    have hi1 : i + 1 ≤ n := by omega
                    have hl1 : (pairsTo S k g i).length + 1 ≤ maxLen := by unfold maxLen; omega
                    have hl2 : ((pairsTo S k g i).length + 1) * 16 ≤ 140737488355328 := by omega
                    have w9 : IntKind.i64.wrap ((i : Int) + 1) = ((i + 1 : Nat) : Int) := by rw [IntWalk.i64_in _ (by omega)]; omega
                    have HMS := Lib.hid (show n - (i + 1) < n - i by omega)
                    clear w9
                    have e2 := E2.out; have e2' := E2'.out; have e3 := E3.out; have e3' := E3'.out; have e4 := E4.out; have e4' := E4'.out
                    go_wp2_with (at_builtin; refine halt ?_)
                    unfold Halt
                    refine wpList_app2 (E := encDitch) rfl (.tmp 76) (.tmp 81) 27 rfl w4.heap.size 37 i0 _ 16 Try.underlying27 hinf hz0 hz1 hz2 rfl (by decide) _ _ rfl HOc.out ⟨x1, (p : Int)⟩ _ rfl rfl hl1 hl2 hz5 ?_
                    intro v5 w5 ho5 hb5
                    rw [← HPQ.out] at ho5
                    have O5 := Lib.hid ho5
                    have B5 := Lib.hid (hb5 _ (Nat.le_refl _))
                    clear ho5 hb5
                    go_wp2
                    clear e2 e2' e3 e3' e4 e4'
                    go_roundw
                    case rel => exact ⟨i + 1, hi1, by go_num, by rw [HS1.out], by rw [HS1.out, ← HZ.out], O5.out, (HB.out.trans (HBW.out.mono hz)).trans B5.out⟩
                    case measure => simp [intOf]; omega
                  · have hp0 : p = 0 := by omega
                    have HPQ := Lib.hid (show pairsTo S k g (i + 1) = pairsTo S k g i by rw [HPP.out, if_neg hpos, List.append_nil])
                    have hpos2 : decide ((0 : Int) < p) = false := decide_eq_false (by omega)
                    have hpos3 : ¬ (0 : Int) < p := by omega
                    have HP0 := Lib.hid hp0
                    have hi1 : i + 1 ≤ n := by omega
                    clear hp0 hpos
                    have e2 := E2.out; have e2' := E2'.out; have e3 := E3.out; have e3' := E3'.out; have e4 := E4.out; have e4' := E4'.out
                    go_wp2
                    clear e2 e2' e3 e3' e4 e4'
                    go_roundw
                    case rel => exact ⟨i + 1, hi1, by go_num, by rw [HS1.out], by rw [HS1.out, ← HZ.out], by rw [HPQ.out]; exact HO.out.past HBW.out (Nat.le_refl _), HB.out.trans (HBW.out.mono hz)⟩
                    case measure => simp [intOf]; omega
                | false =>
                  rcases (show p = 0 ∨ ∃ q, p = q + 1 from by rcases p with _ | q; exact .inl rfl; exact .inr ⟨q, rfl⟩) with hp0 | ⟨q, hpq⟩
                  · exfalso
                    have h1 := HPD.out
                    rw [hp0] at h1
                    have h2 := HF.out
                    rw [hp0, show (0 : Nat) = a from h1, HPK.out] at h2
                    cases h2
                  · have hpd2 := HPD.out
                    rw [hpq, posDown, if_pos (by rw [← hpq, HF.out]; rfl)] at hpd2
                    have HPD2 := Lib.hid hpd2
                    have hqM : q ≤ M := by omega
                    have e21 : wrap64 ((p : Int) - 1) = (q : Int) := by unfold wrap64; omega
                    have HPQ := Lib.hid hpq
                    clear hpd2 hpq
                    go_wp2
                    go_roundw
                    case rel => exact ⟨q, hqM, by (have hh := HPQ.out; congr 1; omega), HPD2.out, (show Below _ _ _ from HB2.out.trans (HBC.out.mono HB2.out.size))⟩
                    case measure => simp [intOf, HPQ.out]
        · obtain rfl : i = n := by omega
          obtain ⟨Au, cu, rfl, _, _, _⟩ := HO.out.slice
          rw [HMM.out] at HO ⊢
          go_wp2_with fail
          refine (sortP_any (pairsTo S k g i) m HMM.out Au w4.heap.size cu _ (by omega) hz HO.out).mono ?_
          rintro e w9 ⟨⟨v, rfl⟩, o9, b9⟩
          have O9 := Lib.hid o9
          have B9 := Lib.hid (HB.out.trans b9)
          clear o9 b9
          go_wp2
          go_ret2
          rw [HOK.out, HPE.out]
          exact ⟨_, rfl, O9.out.lower (by omega), B4.out.trans (B9.out.mono hz4)⟩
end Go.Proofs.Ytcajgadgdjopdaa
