/- Orders of bittern: the reference's amounts. -/
import Derived.Test.YtcajgadgdjopdaaFillO
import Derived.Test.YtcajgadgdjopdaaFillB
import Derived.Test.YtcajgadgdjopdaaFillI
namespace Go.Proofs.Ytcajgadgdjopdaa
open Go.RowKit
theorem own_mk {base n : Nat} {w : World} (hb : base ≤ w.heap.size) (hn : n ≤ maxLen) : Own encInt (w.alloc (.cells (madeCells #[.int .i64 0] n) 3)) base 3 (.slice (some ⟨w.heap.size, 0, none⟩) n n) (List.replicate n 0) :=
  Own.build hb (Blk.new _ _ _) (by rw [toList_madeCells_one]; simp [flat, encInt, List.flatMap_replicate]) (by simp) hn
theorem Own.setInt {w : World} {base n c g i : Nat} {e : TypeId} {l : List Int} (h : Own encInt w base e (.slice (some ⟨g, 0, none⟩) n c) l) (hi : i < n) (z : Int) :
    Own encInt (w.setCell ⟨g, i, none⟩ (.int .i64 z)) base e (.slice (some ⟨g, 0, none⟩) n c) (l.set i z) := by
  have hlen := h.len
  exact h.setField hi (x := l[i]'(by omega)) (j := 0) (y := z) (z := z) (List.getElem?_eq_getElem _) (by decide) rfl (by simp [encInt])
theorem askedB_in {l : List Bittern} {k b : Int} (h : askedB l k b = true) : areBitterns l = true ∧ (1 ≤ k ∧ k ≤ 100000) ∧ (0 ≤ b ∧ b ≤ 1000) := by
  simp only [askedB, Bool.and_eq_true] at h
  obtain ⟨h1, h2, h3⟩ := h
  exact ⟨h1, by simpa [inB] using h2, by simpa [inB] using h3⟩
theorem Own.far {α : Type} {E : Enc α} {w : World} {base : Nat} {e : TypeId} {v : Value} {l : List α} (h : Own E w base e v l) {gg i : Nat} (hne : v.ownBlock ≠ some gg) (u : Value) : Own E (w.setCell ⟨gg, i, none⟩ u) base e v l := by
  obtain ⟨hl, h⟩ := h
  refine ⟨hl, ?_⟩
  rcases h with h | ⟨g, cap, cur, rfl, hg, hh, r⟩
  · exact .inl h
  · refine .inr ⟨g, cap, cur, rfl, hg, ?_, r⟩
    have : g ≠ gg := fun e => hne (by rw [← e]; rfl)
    exact (Below.heap_setCell w ⟨gg, i, none⟩ u g this).trans hh
set_option maxRecDepth 4000 in
set_option maxHeartbeats 8000000 in
theorem l15Fill_any (l : List Bittern) (n : Nat) (hn : l.length = n) (A : Option Addr) (cap : Nat) (k b : Int) (hask : askedB l k b = true) (w : World) (hc : Sl encBittern w w.heap.size A l) :
    Calls Try.prog 49 #[.slice A n cap, .int .i64 k, .int .i64 b] w fun e w' => ∃ v, e = .returned (.tuple #[v, .bool (fillOK l k b)]) ∧ Own encInt w' w.heap.size 3 v (if fillOK l k b then outTo l k (k * b) n else List.replicate n 0) ∧ Below w.heap.size w w' := by
  have HC := Lib.hid hc; clear hc
  have HN := Lib.hid hn; clear hn
  obtain ⟨hA, ⟨k0, k1⟩, b0, b1⟩ := askedB_in hask
  have hn8 : n ≤ 8 := by have := areBitterns_len hA; rw [HN.out] at this; exact this
  have g0 : 0 ≤ k * b := Int.mul_nonneg (by omega) b0
  have g1 : k * b ≤ 100000 * 1000 := Int.mul_le_mul k1 b1 b0 (by omega)
  obtain ⟨S, hS⟩ : ∃ S, sorted l = S := ⟨_, rfl⟩
  have hoS : OkT S := by rw [← hS]; exact sorted_ok hA
  have hSn : S.length = n := by rw [← hS, sorted_length]; exact HN.out
  have hup : ∀ i, ∀ x ∈ S.drop (i + 1), S[i]!.bitter ≤ x.bitter := by rw [← hS]; exact fun i => sorted_up l
  have hG : fillOK l k b = (decide (leftT S k = 0) && decide (k * b ≤ gainT S k)) := by unfold fillOK; rw [hask, hS]; rfl
  have hRB : readBy l (ordTo l n) = S := by
    rw [← hS, sorted, ← HN.out, ins_ord l l.length (Nat.le_refl _)]
    rfl
  obtain ⟨g, hg⟩ : ∃ g, k * b = g := ⟨_, rfl⟩
  rw [hg] at g0 g1 hG
  have hO0 : outTo l k g 0 = List.replicate n 0 := by rw [← HN.out]; rfl
  have hO1 : ∀ i z a : Nat, (ordTo l n)[i]? = some (z : Int) → amtA S k g i = a → outTo l k g (i + 1) = (outTo l k g i).set z a := fun i z a h1 h2 => by
    rw [outTo_succ, HN.out, List.getElem!_of_getElem? h1, hS, h2]; rfl
  have hlt : decide (bestV S k < g) = !fillOK l k b := by rw [best_lt hoS (by omega) g0, hG]
  rw [hg]
  have HOS := Lib.hid hoS
  have HSN := Lib.hid hSn
  have HUP := Lib.hid hup
  have HG := Lib.hid hG
  have HRB := Lib.hid hRB
  have HO0 := Lib.hid hO0
  have HO1 := Lib.hid hO1
  have HLT := Lib.hid hlt
  obtain ⟨U, hU⟩ : ∃ U, (if fillOK l k b = true then outTo l k g n else List.replicate n 0) = U := ⟨_, rfl⟩
  rw [hU]
  have HU0 := Lib.hid (show fillOK l k b = false → U = List.replicate n 0 from fun h => by rw [← hU, h]; rfl)
  have HU1 := Lib.hid (show fillOK l k b = true → U = outTo l k g n from fun h => by rw [← hU, h]; rfl)
  clear hU
  have e1 : wrap64 (k * b) = g := by rw [hg]; unfold wrap64; omega
  have e1' : IntKind.i64.wrap (k * b) = g := by rw [hg]; exact IntWalk.i64_in _ (by omega)
  clear hask hS hoS hSn hup hG hRB hg hO0 hO1 hlt hA
  obtain ⟨i0, hinf, hz0, hz1, hz2⟩ := info_parts info_Int
  have hmk : ∀ w, (Instr.makeSlice 63 (.int .i64 n) (.int .i64 n)).run Try.prog w = .ok (.slice (some ⟨w.heap.size, 0, none⟩) n n) (w.alloc (.cells (madeCells #[.int .i64 0] n) 3)) := fun w => by
    have := run_make (P := Try.prog) w 63 3 i0 _ Try.underlying63 hinf hz0 .i64 .i64 n n (by omega) (Int.le_refl _) (by rw [hz2]; omega) (by omega)
    rw [hz1, Nat.mul_one, Int.toNat_natCast] at this
    exact this
  go_enter Try.func49, Try.ntmps49
  go_wp2
  go_cut [8, 9] from 17 to 21 (fun s t wx => ∃ (A6 : Option Addr) (c6 gg : Nat), s = .slice A6 n c6 ∧ t = .slice (some ⟨gg, 0, none⟩) n n ∧ Own encInt wx w.heap.size 3 (.slice A6 n c6) (ordTo l n) ∧ Own encInt wx w.heap.size 3 (.slice (some ⟨gg, 0, none⟩) n n) (List.replicate n 0) ∧ (Value.slice A6 n c6).ownBlock ≠ some gg ∧ Below w.heap.size w wx)
  case first => as_aux_lemma =>
    have HW := Lib.hid (fun W (h : Below w.heap.size w W) => l15Order_any l n HN.out A cap W (by omega) (HC.out.past h))
    go_region_with (go_at_call 54; refine (HW.out _ (by repeat (first | assumption | exact Below.refl _ _ | apply bl_gw | apply bl_alloc | apply bl_drewN | apply bl_drew))).mono ?_; rintro e w3 ⟨v3, rfl, o3, b3⟩; have O3 := Lib.hid o3; have B3 := Lib.hid b3; clear o3 b3)
    · have o3 := O3.out
      have b3 := B3.out
      have hn0 := B3.out.size
      obtain ⟨A3, c3, rfl, _, _, _⟩ := o3.slice
      rw [ordTo_length] at o3 ⊢
      go_wp2
      go_meet
      refine ⟨A3, c3, w3.heap.size, rfl, rfl, (o3.lower (b := w.heap.size) (Nat.le_refl _)).past (bl_alloc (Below.refl _ _) _) (Nat.le_refl _), own_mk (by simpa using hn0) (by unfold maxLen; omega), fun h => ?_, bl_alloc ((bl_drew (Below.refl w.heap.size w)).trans b3) _⟩
      have := o3.blkLt h
      omega
    · have o3 := O3.out
      have b3 := B3.out
      have hn0 := B3.out.size
      obtain ⟨A3, c3, rfl, _, _, _⟩ := o3.slice
      rw [ordTo_length] at o3 ⊢
      go_wp2
      go_meet
      refine ⟨A3, c3, w.heap.size, rfl, rfl, o3.lower (b := w.heap.size) (by simp), ((own_mk (Nat.le_refl _) (by unfold maxLen; omega)).past (bl_drew (Below.refl _ _)) (Nat.le_refl _)).past b3 (Nat.le_refl _), fun h => ?_, (bl_drew (bl_alloc (Below.refl w.heap.size w) _)).trans (b3.mono (by simp))⟩
      have := o3.row _ h
      simp at this
      omega
  case rest => as_aux_lemma =>
    obtain ⟨A6, c6, gg, rfl, rfl, ho, hq, hne, hb⟩ := hcut
    have O6 := Lib.hid ho
    have Q6 := Lib.hid hq
    have NE := Lib.hid hne
    have B6 := Lib.hid hb
    have hz6 := hb.size
    have hgg0 : w.heap.size ≤ gg := hq.lo ⟨gg, 0, none⟩ rfl
    have HRG := Lib.hid (fun z (h : z ∈ ordTo l n) => ordTo_rng h)
    have HOR := Lib.hid (show OkT (readBy l (ordTo l n)) by rw [HRB.out]; exact HOS.out)
    clear ho hq hne hb hmk
    go_wp2_with fail
    refine (l15Best_any l (ordTo l n) n n HN.out (ordTo_length _ _) HRG.out HOR.out hn8 A _ cap _ 0 k (Nat.zero_le _) (by omega) (by omega) _ ((HC.out.below B6.out).more B6.out.size) O6.out.rd).mono ?_
    rintro e w7 ⟨rfl, b7⟩
    rw [HRB.out, List.drop_zero]
    have O7 := Lib.hid (O6.out.past b7 (Nat.le_refl _))
    have Q7 := Lib.hid (Q6.out.past b7 (Nat.le_refl _))
    have B7 := Lib.hid (below_step B6.out b7)
    have hlt := HLT.out
    clear b7
    obtain ⟨B, hB⟩ : ∃ B, bestV S k = B := ⟨_, rfl⟩
    rw [hB] at hlt ⊢
    clear hB
    cases hF : fillOK l k b with
    | false =>
      have HF := Lib.hid hF
      rw [hF] at hlt
      have hlt2 : decide (B < g) = true := hlt
      have hlt3 : B < g := of_decide_eq_true hlt2
      clear hF hlt
      go_wp2
      go_ret2
      rw [HF.out, HU0.out HF.out]
      exact ⟨_, rfl, Q7.out, B7.out⟩
    | true =>
      have HF := Lib.hid hF
      rw [hF] at hlt
      have hlt2 : decide (B < g) = false := hlt
      have hlt3 : ¬ B < g := of_decide_eq_false hlt2
      have hfe : FeasS S (k, g) := by
        have := HG.out
        rw [hF] at this
        have := this.symm
        simp only [Bool.and_eq_true, decide_eq_true_eq] at this
        exact ⟨by show 0 ≤ k; omega, this.1, this.2⟩
      have HFE := Lib.hid (fun i (hi : i ≤ n) => (show FeasS (S.drop i) (stA S k g i) from stA_feas HOS.out hfe i (by rw [HSN.out]; exact hi)))
      have HSR := Lib.hid (fun i (hi : i ≤ n) => stA_rng HOS.out hfe i (by rw [HSN.out]; exact hi))
      have hz7 := B7.out.size
      clear hF hlt hfe
      go_wp2
      clear hlt2 hlt3 e1 e1'
      go_loopw [1, 10, 12] (fun kv gv iv wr => ∃ i : Nat, i ≤ n ∧ iv = .int .i64 i ∧ kv = .int .i64 (stA S k g i).1 ∧ gv = .int .i64 (stA S k g i).2 ∧ Own encInt wr w.heap.size 3 (.slice (some ⟨gg, 0, none⟩) n n) (outTo l k g i) ∧ Own encInt wr w.heap.size 3 (.slice A6 n c6) (ordTo l n) ∧ Below w.heap.size w wr) (fun _ _ iv _ => n - (intOf iv).toNat)
      case atStart => exact ⟨0, Nat.zero_le _, rfl, rfl, rfl, by rw [HO0.out]; exact Q7.out, O7.out, B7.out⟩
      case round =>
        obtain ⟨i, hi, rfl, rfl, rfl, hq, ho, hbel⟩ := hrel
        have HB := Lib.hid hbel
        have hz := hbel.size
        have HQ := Lib.hid hq
        by_cases hlt : i < n
        · obtain ⟨g6, rfl⟩ := ho.some_ (by omega)
          have HO := Lib.hid ho
          obtain ⟨z, hzn, hoz⟩ := ordTo_at (l := l) hlt
          have d0 := (ho.int hoz).2
          have hg6 := (ho.int hoz).1
          obtain ⟨bk, off, rfl, hbk, hcs⟩ := HC.out.bittern (by rw [HN.out]; omega)
          have hlz : l[z]? = some l[z]! := by rw [getElem!_pos l z (by rw [HN.out]; omega)]; exact List.getElem?_eq_getElem _
          obtain ⟨c0, c1, c2⟩ := hcs z _ hlz
          have hSz : S[i]! = l[z]! := List.getElem!_of_getElem? (by rw [← HRB.out]; have := readBy_at (l := l) hoz; rwa [Int.toNat_natCast] at this)
          obtain ⟨f0, f1, f2⟩ := HFE.out i (by omega)
          obtain ⟨r1, r2⟩ := HSR.out i (by omega)
          have hdr := drop_at (show i < S.length by rw [HSN.out]; exact hlt)
          have hoi := okT_drop HOS.out i
          have hup := HUP.out i
          have hs1 : stA S k g (i + 1) = ((stA S k g i).1 - (amtA S k g i : Nat), (stA S k g i).2 - (amtA S k g i : Nat) * S[i]!.bitter) := rfl
          have hpi : amtA S k g i = pickN (S.drop (i + 1)) S[i]! (stA S k g i).1 (stA S k g i).2 := rfl
          have hou := HO1.out i z _ hoz rfl
          obtain ⟨⟨ki, gi⟩, hst⟩ : ∃ s, stA S k g i = s := ⟨_, rfl⟩
          obtain ⟨a, ha⟩ : ∃ a, amtA S k g i = a := ⟨_, rfl⟩
          rw [hst] at f0 f1 f2 r1 r2 hs1 hpi ⊢
          rw [ha] at hs1 hpi hou
          rw [hdr] at hoi f1 f2
          rw [hSz] at hoi f1 f2 hs1 hpi hup
          dsimp only at f0 f1 f2 r1 r2 hs1 hpi ⊢
          generalize l[z]! = x at *
          obtain ⟨hxo, hTo⟩ := okT_cons hoi
          have hfs : FeasS (x :: S.drop (i + 1)) (ki, gi) := ⟨f0, f1, f2⟩
          have hgr := gain_rng hoi f0
          have hrr := room_rng hTo
          have hTl : (S.drop (i + 1)).length = n - (i + 1) := by rw [List.length_drop, HSN.out]
          rw [hTl] at hrr
          obtain ⟨R, hR⟩ : ∃ R, roomT (S.drop (i + 1)) = R := ⟨_, rfl⟩
          obtain ⟨j, hj⟩ : ∃ j, i + 1 = j := ⟨_, rfl⟩
          have hj1 : j ≤ n := by omega
          have HROOM := Lib.hid (show ∀ W : World, Below wr.heap.size wr W → Calls Try.prog 79 #[.slice (some ⟨bk, off, none⟩) n cap, .slice (some ⟨g6, 0, none⟩) n c6, .int .i64 j] W fun e w' => e = .returned (.int .i64 R) ∧ Below W.heap.size W w' from fun W hW => by
            have := l15Room_any l (ordTo l n) n n HN.out (ordTo_length _ _) HRG.out HOR.out hn8 (some ⟨bk, off, none⟩) (some ⟨g6, 0, none⟩) cap c6 j hj1 W (HC.out.past (HB.out.trans (hW.mono hz))) (HO.out.past hW (Nat.le_refl _)).rd
            rw [HRB.out, ← hj, hR, hj] at this
            exact this)
          have HBEST := Lib.hid (show ∀ (W : World) (m : Int) (V : Int), Below wr.heap.size wr W → 0 ≤ m → m ≤ 100000 → bestV (S.drop (i + 1)) m = V → Calls Try.prog 77 #[.slice (some ⟨bk, off, none⟩) n cap, .slice (some ⟨g6, 0, none⟩) n c6, .int .i64 j, .int .i64 m] W fun e w' => e = .returned (.int .i64 V) ∧ Below W.heap.size W w' from fun W m V hW h1 h2 hV => by
            have := l15Best_any l (ordTo l n) n n HN.out (ordTo_length _ _) HRG.out HOR.out hn8 (some ⟨bk, off, none⟩) (some ⟨g6, 0, none⟩) cap c6 j m hj1 h1 h2 W (HC.out.past (HB.out.trans (hW.mono hz))) (HO.out.past hW (Nat.le_refl _)).rd
            rw [HRB.out, ← hj, hV, hj] at this
            exact this)
          obtain ⟨M, hM⟩ : ∃ M : Nat, min ki x.kilos = M := ⟨(min ki x.kilos).toNat, by omega⟩
          obtain ⟨p0, hp0⟩ : ∃ p0 : Nat, (p0 : Int) = max 0 (ki - R) := ⟨(max 0 (ki - R)).toNat, by omega⟩
          rw [← hR] at hp0
          obtain ⟨hs0, hs2⟩ := bin_start hoi hup hfs hp0
          rw [hR] at hp0
          have HS0 := Lib.hid hs0
          have HUPX := Lib.hid hup
          have HS1 := Lib.hid hs1
          have HPI := Lib.hid hpi
          have HTO := Lib.hid hTo
          have HOU := Lib.hid hou
          rw [hj] at HOU HS1
          have hgi1 : gi ≤ 100000000 := by omega
          have hgi0 : -100000000 ≤ gi := by omega
          have hki1 : ki ≤ 100000 := by omega
          have hp0M : p0 ≤ M := by omega
          have hRR0 : 0 ≤ R := by omega
          have hRR1 : R ≤ 100000 := by omega
          have HT := Lib.hid (show ∃ T, S.drop (i + 1) = T from ⟨_, rfl⟩)
          generalize S.drop (i + 1) = T at *
          rw [← HB.out.cell hbk] at c0 c1 c2
          obtain ⟨x1, x2, x3⟩ := x
          dsimp only at c0 c1 c2 hxo hM
          have hbw : bk < wr.heap.size := by omega
          have hMk : (M : Int) ≤ ki := by omega
          have hM2 : (M : Int) ≤ 10000 := by omega
          have i1 : (i : Int) < n := by omega
          have i2 : (0 : Int) ≤ i := by omega
          have z1 : (z : Int) < n := by omega
          have z2 : (0 : Int) ≤ z := by omega
          have hzn' : z < n := hzn
          have hgw : gg < wr.heap.size := hq.hi ⟨gg, 0, none⟩ rfl
          clear hcs hdr hoi f1 f2 hs1 hpi hTo hgr hTl hst ha hup r1 r2 hou hfs hSz hlz hoz ho hq hbel hs0 hrr hR HT
          go_upto_region 10 with (fail)
          refine wp_name (fun W1 hW1 => ?_)
          have HKB := Lib.hid (show Blk W1 wr.heap.size 69 #[.int .i64 x1, .int .i64 x2, .int .i64 x3] by rw [hW1]; exact (by first | exact Blk.new _ _ _ | exact Blk.new_ _ _ _ _ (by simp) | exact (Blk.new _ _ _).drewN _ | exact (Blk.new _ _ _).gw _))
          have HB1 := Lib.hid (show Below wr.heap.size wr W1 by rw [hW1]; exact (by repeat (first | assumption | exact Below.refl _ _ | apply bl_gw | apply bl_alloc | apply bl_drewN | apply bl_drew)))
          clear hW1 c0 c1 c2
          have d1 : W1.cell? ⟨wr.heap.size, 1, none⟩ = some (.int .i64 x2) := HKB.out.cell 1
          have d2 : W1.cell? ⟨wr.heap.size, 2, none⟩ = some (.int .i64 x3) := HKB.out.cell 2
          have hk1 := HKB.out.lt
          have hzc := HB1.out.size
          rw [← HB1.out.cell (p := ⟨g6, i, none⟩) hg6] at d0
          have HJ := Lib.hid hj
          have hgg6 : g6 < W1.heap.size := by omega
          have hggw : gg < W1.heap.size := by omega
          have HQ1 := Lib.hid (HQ.out.past HB1.out (Nat.le_refl _))
          have HO1' := Lib.hid (HO.out.past HB1.out (Nat.le_refl _))
          have HBW1 := Lib.hid (HB.out.trans (HB1.out.mono hz))
          have e5 : IntKind.i64.wrap ((i : Int) + 1) = (j : Int) := by rw [IntWalk.i64_in _ (by omega)]; omega
          have e5' : wrap64 ((i : Int) + 1) = (j : Int) := by unfold wrap64; omega
          have e6 : IntKind.i64.wrap (ki - R) = ki - R := IntWalk.i64_in _ (by omega)
          have e6' : wrap64 (ki - R) = ki - R := by unfold wrap64; omega
          clear hj
          refine wp_region_gw (by kernel_rfl) (by kernel_rfl) ?_
          repeat (first | go_big_quiet_step ((first | (go_at_call 79; exact quiet_gw (HROOM.out _ (bl_gw HB1.out _))) | (go_at_call 78; exact quiet_gw_same (l1Most_any _ _ _)) | (go_at_call 55; exact quiet_gw_same (l1Least_any _ _ _)))) | quiet_step ((first | (go_at_call 79; exact quiet_gw (HROOM.out _ (bl_gw HB1.out _))) | (go_at_call 78; exact quiet_gw_same (l1Most_any _ _ _)) | (go_at_call 55; exact quiet_gw_same (l1Least_any _ _ _)))))
          refine wpQuiet_nil ?_
          rintro _ ⟨pq, rfl⟩
          rw [← hp0, hM]
          have E5 := Lib.hid e5; have E5' := Lib.hid e5'
          clear e6 e6' hp0 hs2 e5 e5'
          go_wp2
          go_loopw [14, 15] (fun pv qv w' => ∃ p q : Nat, p ≤ q ∧ q ≤ M ∧ pv = .int .i64 p ∧ qv = .int .i64 q ∧ feasB T ⟨x1, x2, x3⟩ ki gi p = true ∧ (∀ m, q ≤ m → m < M → feasB T ⟨x1, x2, x3⟩ ki gi (m + 1) = false) ∧ Below W1.heap.size W1 w') (fun pv qv _ => (intOf qv - intOf pv).toNat)
          case atStart => exact ⟨p0, M, hp0M, Nat.le_refl _, rfl, rfl, HS0.out, fun m h1 h2 => by omega, gw_below _ _ (Nat.le_refl _)⟩
          case round =>
            obtain ⟨p, q, hpq, hqM, rfl, rfl, hfp, hab, hb2⟩ := hrel
            rename World => w'
            have HFP := Lib.hid hfp
            have HAB := Lib.hid hab
            have HB2 := Lib.hid hb2
            have hz2w := hb2.size
            have hkb2 : wr.heap.size < w'.heap.size := by omega
            rw [← hb2.cell (p := ⟨wr.heap.size, 2, none⟩) hk1] at d2
            rw [← hb2.cell (p := ⟨g6, i, none⟩) hgg6] at d0
            clear hfp hab hb2 d1
            by_cases hlq : p < q
            · obtain ⟨m, hm⟩ : ∃ m, (p + q + 1) / 2 = m := ⟨_, rfl⟩
              have hpm : p < m := by omega
              have hmq : m ≤ q := by omega
              have q5 : (p : Int) < q := by omega
              have hmk : (m : Int) ≤ ki := by omega
              have hms : (q : Int) - m < q - p := by omega
              obtain ⟨s1, hs1⟩ : ∃ s1 : Nat, p + q = s1 := ⟨_, rfl⟩
              have Q1 := Lib.hid (show IntKind.i64.wrap ((p : Int) + (q : Int)) = (s1 : Int) by rw [IntWalk.i64_in _ (by omega)]; omega)
              have Q2 := Lib.hid (show IntKind.i64.wrap ((s1 : Int) + 1) = ((s1 + 1 : Nat) : Int) by rw [IntWalk.i64_in _ (by omega)]; omega)
              have Q3 := Lib.hid (show (((s1 + 1 : Nat) : Int)).tdiv 2 = (m : Int) by rw [Int.tdiv_eq_ediv_of_nonneg (by omega)]; omega)
              have Q4 := Lib.hid (show IntKind.i64.wrap (m : Int) = m from IntWalk.i64_in _ (by omega))
              have Q1' := Lib.hid (show wrap64 ((p : Int) + (q : Int)) = (s1 : Int) by unfold wrap64; omega)
              have Q2' := Lib.hid (show wrap64 ((s1 : Int) + 1) = ((s1 + 1 : Nat) : Int) by unfold wrap64; omega)
              have Q4' := Lib.hid (show wrap64 (m : Int) = m by unfold wrap64; omega)
              obtain ⟨s2, hs2⟩ : ∃ s2 : Nat, s1 + 1 = s2 := ⟨_, rfl⟩
              rw [hs2] at Q2 Q3 Q2'
              clear hs1 hs2 hm
              have q1 := Q1.out; have q2 := Q2.out; have q3 := Q3.out; have q4 := Q4.out
              have q1' := Q1'.out; have q2' := Q2'.out; have q4' := Q4'.out
              go_upto_region 13 with (fail)
              clear q1 q2 q3 q4 q1' q2' q4'
              obtain ⟨V, hV⟩ : ∃ V, bestV T (ki - m) = V := ⟨_, rfl⟩
              obtain ⟨F, hF⟩ : ∃ F, feasB T ⟨x1, x2, x3⟩ ki gi m = F := ⟨_, rfl⟩
              have ht := bin_test (x := ⟨x1, x2, x3⟩) HTO.out HFP.out (show p ≤ m by omega) hmk
              obtain ⟨v0, v1⟩ := bestV_rng (k := ki - m) HTO.out (by omega)
              rw [hV] at ht v0 v1
              rw [hF] at ht
              dsimp only at ht
              have m1 := Int.mul_nonneg (show (0 : Int) ≤ m by omega) hxo.2.1
              have m2 := Int.mul_le_mul_of_nonneg_left hxo.2.2 (show (0 : Int) ≤ m by omega)
              obtain ⟨Z, hZ⟩ : ∃ Z, (m : Int) * x3 = Z := ⟨_, rfl⟩
              rw [hZ] at ht m1 m2
              have HCB := Lib.hid (show ∀ W : World, Below wr.heap.size wr W → Calls Try.prog 77 #[.slice (some ⟨bk, off, none⟩) n cap, .slice (some ⟨g6, 0, none⟩) n c6, .int .i64 j, .int .i64 (ki - m)] W fun e w' => e = .returned (.int .i64 V) ∧ Below W.heap.size W w' from fun W hW => HBEST.out W _ V hW (by omega) (by omega) hV)
              have Z1 := Lib.hid (show wrap64 ((m : Int) * x3) = Z by rw [hZ]; unfold wrap64; omega)
              have Z1' := Lib.hid (show IntKind.i64.wrap ((m : Int) * x3) = Z by rw [hZ]; exact IntWalk.i64_in _ (by omega))
              have Z2 := Lib.hid (show wrap64 (V + Z) = V + Z by unfold wrap64; omega)
              have Z2' := Lib.hid (show IntKind.i64.wrap (V + Z) = V + Z from IntWalk.i64_in _ (by omega))
              have Z3 := Lib.hid (show wrap64 (ki - (m : Int)) = ki - m by unfold wrap64; omega)
              have Z3' := Lib.hid (show IntKind.i64.wrap (ki - (m : Int)) = ki - m from IntWalk.i64_in _ (by omega))
              have HTF := Lib.hid ht
              have HFF := Lib.hid hF
              clear hV ht v0 v1 m1 m2 hZ hF
              have z1 := Z1.out; have z1' := Z1'.out; have z2 := Z2.out; have z2' := Z2'.out; have z3 := Z3.out; have z3' := Z3'.out; have z5 := E5.out; have z5' := E5'.out
              have HBW := Lib.hid (show Below wr.heap.size wr w' from HB1.out.trans (HB2.out.mono hzc))
              refine wp_region_gw (by kernel_rfl) (by kernel_rfl) ?_
              repeat (first | go_big_quiet_step ((go_at_call 77; exact quiet_gw (HCB.out _ (bl_gw HBW.out _)))) | quiet_step ((go_at_call 77; exact quiet_gw (HCB.out _ (bl_gw HBW.out _)))))
              refine wpQuiet_nil ?_
              rintro _ ⟨pq, rfl⟩
              clear z1 z1' z2 z2' z3 z3' z5 z5'
              have HBN := Lib.hid (show Below W1.heap.size W1 (gw w' pq) from HB2.out.trans ((gw_below _ pq (Nat.le_refl _)).mono hz2w))
              cases F with
              | true =>
                have t1 : decide (gi ≤ V + Z) = true := HTF.out
                have t2 : gi ≤ V + Z := of_decide_eq_true t1
                go_wp2
                go_roundw
                case rel => exact ⟨m, q, hmq, hqM, rfl, rfl, HFF.out, HAB.out, HBN.out⟩
                case measure => simp [intOf]; omega
              | false =>
                have t1 : decide (gi ≤ V + Z) = false := HTF.out
                have t2 : ¬ gi ≤ V + Z := of_decide_eq_false t1
                have HA2 := Lib.hid (bin_above HTO.out HUPX.out HFP.out hpm hMk HFF.out)
                have hm1 : p ≤ m - 1 := by omega
                have hm2 : m - 1 ≤ M := by omega
                have hm3 : IntKind.i64.wrap ((m : Int) - 1) = ((m - 1 : Nat) : Int) := by rw [IntWalk.i64_in _ (by omega)]; omega
                have hm4 : ((m - 1 : Nat) : Int) - p < q - p := by omega
                have HM3 := Lib.hid hm3
                clear hm3
                go_wp2
                go_roundw
                case rel => exact ⟨p, m - 1, hm1, hm2, rfl, (by first | rfl | (congr 1; omega)), HFP.out, HA2.out, HBN.out⟩
                case measure => simp [intOf]; omega
            · obtain rfl : p = q := by omega
              have q5 : ¬ (p : Int) < p := by omega
              have hap : a = p := by rw [HPI.out]; exact bin_end hM HFP.out hqM HAB.out
              obtain rfl : a = p := hap
              have HQ2 := Lib.hid (HQ1.out.past HB2.out (Nat.le_refl _))
              have HO2 := Lib.hid (HO1'.out.past HB2.out (Nat.le_refl _))
              have HBW2 := Lib.hid (HBW1.out.trans (HB2.out.mono (by omega)))
              have hln : (outTo l k g i).length = n := by rw [outTo_length, HN.out]
              obtain ⟨y0, u0⟩ : ∃ y0, w'.cell? ⟨gg, z, none⟩ = some (.int .i64 y0) := ⟨_, (HQ2.out.int (List.getElem?_eq_getElem (show z < (outTo l k g i).length by rw [hln]; exact hzn))).2⟩
              clear hln
              have u1 := HQ2.out.thaw z
              have u2 : wr.heap.size ≠ gg := by omega
              have u3 : gg ≠ wr.heap.size := by omega
              have u4 : gg < w'.heap.size := by omega
              have HST := Lib.hid (HQ2.out.setInt hzn (a : Int))
              have HFA := Lib.hid (HO2.out.far (i := z) NE.out (.int .i64 a))
              have HBE := Lib.hid (show Below w.heap.size w (w'.setCell ⟨gg, z, none⟩ (.int .i64 a)) from HBW2.out.setCell hgg0 _)
              rw [← HOU.out] at HST
              have m1 := Int.mul_nonneg (show (0 : Int) ≤ a by omega) hxo.2.1
              have m2 := Int.mul_le_mul_of_nonneg_left hxo.2.2 (show (0 : Int) ≤ a by omega)
              have hs1 := HS1.out
              obtain ⟨Z, hZ⟩ : ∃ Z, (a : Int) * x3 = Z := ⟨_, rfl⟩
              rw [hZ] at hs1 m1 m2
              have HS2 := Lib.hid hs1
              have Z1 := Lib.hid (show wrap64 ((a : Int) * x3) = Z by rw [hZ]; unfold wrap64; omega)
              have Z1' := Lib.hid (show IntKind.i64.wrap ((a : Int) * x3) = Z by rw [hZ]; exact IntWalk.i64_in _ (by omega))
              have Z2 := Lib.hid (show wrap64 (gi - Z) = gi - Z by unfold wrap64; omega)
              have Z2' := Lib.hid (show IntKind.i64.wrap (gi - Z) = gi - Z from IntWalk.i64_in _ (by omega))
              have Z3 := Lib.hid (show wrap64 (ki - (a : Int)) = ki - a by unfold wrap64; omega)
              have Z3' := Lib.hid (show IntKind.i64.wrap (ki - (a : Int)) = ki - a from IntWalk.i64_in _ (by omega))
              have hij : n - j < n - i := by have := HJ.out; omega
              clear hZ m1 m2 hs1
              have z1 := Z1.out; have z1' := Z1'.out; have z2 := Z2.out; have z2' := Z2'.out; have z3 := Z3.out; have z3' := Z3'.out; have z5 := E5.out; have z5' := E5'.out
              go_wp2
              clear z1 z1' z2 z2' z3 z3' z5 z5'
              go_roundw
              case rel => exact ⟨j, hj1, rfl, by rw [HS2.out], by rw [HS2.out], HST.out, HFA.out, HBE.out⟩
              case measure => simp [intOf]; omega
        · obtain rfl : i = n := by omega
          go_wp2
          go_ret2
          rw [HF.out, HU1.out HF.out]
          exact ⟨_, rfl, HQ.out, HB.out⟩
end Go.Proofs.Ytcajgadgdjopdaa
