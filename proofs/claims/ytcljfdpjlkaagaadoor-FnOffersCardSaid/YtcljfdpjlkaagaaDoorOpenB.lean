/- Contracts: which are open on a day, by the program. -/
import Derived.Test.YtcljfdpjlkaagaaDoorOpenA
import Derived.Test.YtcljfdpjlkaagaaDoorApp1
namespace Go.Proofs.YtcljfdpjlkaagaaDoor
open Go.RowKit
set_option maxHeartbeats 400000 in
theorem isDayO_any (n : Int) (w : World) :
    Calls Tryd.prog 27 #[.int .i64 n] w fun e w' => e = .returned (.bool (inB n 0 4000)) ∧ w = w' := by
  go_enter Tryd.func27, Tryd.ntmps27
  go_wp2_with (go_at_call 28; refine (within_any _ _ _ _).mono ?_; rintro e w' ⟨rfl, rfl⟩)
  go_ret
  exact ⟨rfl, rfl⟩
theorem isDayO_q {n : Int} {v : Bool} (h : inB n 0 4000 = v) (w : World) :
    Calls Tryd.prog 27 #[.int .i64 n] w fun e w' => e = .returned (.bool v) ∧ w = w' := h ▸ isDayO_any n w
def openTo (l : List Contract) (day : Int) (k : Nat) : List Contract := loopTo (fun i acc => if inB day l[i]!.first l[i]!.last then acc ++ [l[i]!] else acc) [] k
theorem openTo_succ (l : List Contract) (day : Int) (k : Nat) : openTo l day (k + 1) = if inB day l[k]!.first l[k]!.last then openTo l day k ++ [l[k]!] else openTo l day k := rfl
theorem openTo_length (l : List Contract) (day : Int) : ∀ k, (openTo l day k).length ≤ k
  | 0 => Nat.le_refl _
  | k + 1 => by have := openTo_length l day k; rw [openTo_succ]; split <;> simp <;> omega
def idsTo (S : List Contract) (k : Nat) : List Int := loopTo (fun i acc => acc ++ [S[i]!.id]) [] k
theorem idsTo_succ (S : List Contract) (k : Nat) : idsTo S (k + 1) = idsTo S k ++ [S[k]!.id] := rfl
theorem idsTo_length (S : List Contract) : ∀ k, (idsTo S k).length = k
  | 0 => rfl
  | k + 1 => by rw [idsTo_succ, List.length_append, idsTo_length S k]; rfl
def openOK (l : List Contract) (day : Int) : Bool := areContracts l && inB day 0 4000
def openP (l : List Contract) (day : Int) : List Int := if openOK l day then idsTo (insTo (openTo l day l.length) (openTo l day l.length).length) (openTo l day l.length).length else []
theorem openP_length (l : List Contract) (day : Int) : (openP l day).length ≤ 1000000 := by
  unfold openP
  split
  · rename_i h
    simp only [openOK, Bool.and_eq_true] at h
    have := areContracts_len h.1
    have := openTo_length l day l.length
    rw [idsTo_length]; omega
  · simp
set_option maxRecDepth 4000 in
set_option maxHeartbeats 8000000 in
theorem impl_OpenOn_any (l : List Contract) (n : Nat) (hn : l.length = n) (A : Option Addr) (cap : Nat) (day : Int) (w : World) (hl : n ≤ 1048576) (hc : Sl encContract w w.heap.size A l) :
    Calls Tryd.prog 10 #[.slice A n cap, .int .i64 day] w fun e w' => ∃ v, e = .returned (.tuple #[v, .bool (openOK l day)]) ∧ Own encInt w' w.heap.size 3 v (openP l day) ∧ Below w.heap.size w w' := by
  have HC := Lib.hid hc; clear hc
  have HN := Lib.hid hn; clear hn
  rcases sp2 (areContracts l) (inB day 0 4000) with t1 | ⟨t1, t2⟩ | ⟨t1, t2⟩
  · have hq : openOK l day = false := by simp [openOK, t1]
    have hp : openP l day = [] := by simp [openP, hq]
    rw [hq, hp]
    clear hq hp
    go_enter Tryd.func10, Tryd.ntmps10
    go_wp2_with fail
    refine (impl_AreContracts_any l n HN.out _ _ _ hl (HC.out.past (Below.refl _ _))).mono ?_
    rintro e w1 ⟨rfl, b1⟩
    rw [t1]
    have B1 := Lib.hid (below_step (Below.refl _ _) b1)
    have BB1 := Lib.hid b1
    clear b1
    go_wp2
    go_ret2
    exact ⟨_, rfl, Own.none_, B1.out⟩
  · have hq : openOK l day = false := by simp [openOK, t2]
    have hp : openP l day = [] := by simp [openP, hq]
    rw [hq, hp]
    clear hq hp
    go_enter Tryd.func10, Tryd.ntmps10
    go_wp2_with fail
    refine (impl_AreContracts_any l n HN.out _ _ _ hl (HC.out.past (Below.refl _ _))).mono ?_
    rintro e w1 ⟨rfl, b1⟩
    rw [t1]
    have B1 := Lib.hid (below_step (Below.refl _ _) b1)
    have BB1 := Lib.hid b1
    clear b1
    go_wp2_with fail
    refine (isDayO_any _ _).mono ?_
    rintro e w1' ⟨rfl, rfl⟩
    rw [t2]
    go_wp2
    go_ret2
    exact ⟨_, rfl, Own.none_, B1.out⟩
  · have hq : openOK l day = true := by simp [openOK, t1, t2]
    obtain ⟨P, hP⟩ : ∃ P, openTo l day n = P := ⟨_, rfl⟩
    obtain ⟨n1, hn1⟩ : ∃ n1, P.length = n1 := ⟨_, rfl⟩
    have HQ := Lib.hid hq
    have HP := Lib.hid (show openP l day = idsTo (insTo P n1) n1 by rw [openP, if_pos hq, HN.out, hP, hn1])
    have HPe := Lib.hid hP
    have HN1 := Lib.hid hn1
    have hn10 : n ≤ 10 := by have := areContracts_len t1; rw [HN.out] at this; exact this
    have hn110 : n1 ≤ 10 := by have := openTo_length l day n; rw [hP, hn1] at this; omega
    clear hq hP hn1
    obtain ⟨i0, hinf, hz0, hz1, hz2⟩ := info_parts info_Int
    obtain ⟨j0, hinf', hy0, hy1, hy2⟩ := info_parts info_Contract
    go_enter Tryd.func10, Tryd.ntmps10
    go_wp2_with fail
    refine (impl_AreContracts_any l n HN.out _ _ _ hl (HC.out.past (Below.refl _ _))).mono ?_
    rintro e w1 ⟨rfl, b1⟩
    rw [t1]
    have B1 := Lib.hid (below_step (Below.refl _ _) b1)
    have BB1 := Lib.hid b1
    clear b1
    go_wp2_with fail
    refine (isDayO_any _ _).mono ?_
    rintro e w1' ⟨rfl, rfl⟩
    rw [t2]
    clear t1 t2
    go_wp2
    go_loopw [6, 22] (fun u j wr => ∃ k : Nat, k ≤ n ∧ j = .int .i64 k ∧ Own encContract wr w.heap.size 26 u (openTo l day k) ∧ Below w.heap.size w wr) (fun _ j _ => n - (intOf j).toNat)
    case atStart => exact ⟨0, Nat.zero_le _, rfl, Own.none_, B1.out⟩
    case round =>
      obtain ⟨k, hk, rfl, ho, hbel⟩ := hrel
      have HO := Lib.hid ho
      have HB := Lib.hid hbel
      have hz := hbel.size
      by_cases hlt : k < n
      · obtain ⟨bk, off, rfl, hb, hcs⟩ := HC.out.contract (by rw [HN.out]; omega)
        have hx : l[k]? = some (l[k]'(by rw [HN.out]; exact hlt)) := List.getElem?_eq_getElem _
        generalize l[k]'(by rw [HN.out]; exact hlt) = x at hx
        obtain ⟨c0, c1, c2, c3, c4, c5, c6⟩ := hcs k x hx
        have HST := Lib.hid (show openTo l day (k + 1) = if inB day x.first x.last then openTo l day k ++ [x] else openTo l day k by rw [openTo_succ, List.getElem!_of_getElem? hx])
        have HL := Lib.hid (openTo_length l day k)
        clear hcs hx ho
        rw [← hbel.cell hb] at c0 c1 c2 c3 c4 c5 c6
        clear hbel
        have hbw : bk < wr.heap.size := by omega
        obtain ⟨x1, x2, x3, x4, x5, x6, x7⟩ := x
        dsimp only at c0 c1 c2 c3 c4 c5 c6 HST
        have k1 : (k : Int) < n := by omega
        have k2 : (0 : Int) ≤ k := by omega
        rcases sp1 (inB day x5 x6) with q | q
        · go_wp2_with (go_at_call 28; refine (within_q q _).mono ?_; rintro e w5 ⟨rfl, rfl⟩)
          go_roundw
          case rel => exact ⟨k + 1, by omega, by go_num, by rw [HST.out, q]; exact HO.out.past (by repeat (first | assumption | exact Below.refl _ _ | apply bl_gw | apply bl_alloc | apply bl_drewN | apply bl_drew)) (Nat.le_refl _), (HB.out.trans ((show Below wr.heap.size wr _ from (by repeat (first | assumption | exact Below.refl _ _ | apply bl_gw | apply bl_alloc | apply bl_drewN | apply bl_drew))).mono hz))⟩
          case measure => simp [intOf]; omega
        · go_wp2_with (first | (go_at_call 28; refine (within_q q _).mono ?_; rintro e w5 ⟨rfl, rfl⟩) | (at_builtin; refine halt ?_))
          unfold Halt
          refine wpList_app2 (E := encContract) rfl (.tmp 32) (.tmp 34) 31 rfl w.heap.size 26 j0 _ 56 Tryd.underlying31 hinf' hy0 hy1 hy2 rfl (by decide) _ _ rfl (HO.out.past (by repeat (first | assumption | exact Below.refl _ _ | apply bl_gw | apply bl_alloc | apply bl_drewN | apply bl_drew)) (Nat.le_refl _)) ⟨x1, x2, x3, x4, x5, x6, x7⟩ _ rfl (by first | rfl | (rw [alloc_size]; rfl)) (by have := HL.out; unfold maxLen; omega) (by have := HL.out; omega) (by simp; omega) ?_
          intro v5 w5 ho5 hb5
          have O5 := Lib.hid ho5
          have B5 := Lib.hid ((show Below w.heap.size w _ from (HB.out.trans ((show Below wr.heap.size wr _ from (by repeat (first | assumption | exact Below.refl _ _ | apply bl_gw | apply bl_alloc | apply bl_drewN | apply bl_drew))).mono hz))).trans (hb5 w.heap.size (Nat.le_refl _)))
          clear ho5 hb5
          go_wp2
          go_roundw
          case rel => exact ⟨k + 1, by omega, by go_num, by rw [HST.out, q]; exact O5.out, B5.out⟩
          case measure => simp [intOf]; omega
      · obtain rfl : k = n := by omega
        obtain ⟨A2, c2, rfl, _, _, _⟩ := ho.slice
        rw [HPe.out, HN1.out] at ho ⊢
        have O2 := Lib.hid ho
        clear ho hbel HO
        go_wp2_with fail
        refine (sortStableC_any P n1 HN1.out A2 w.heap.size c2 _ hn110 hz O2.out).mono ?_
        rintro e w3 ⟨⟨v3, rfl⟩, o3, b3⟩
        have O3 := Lib.hid o3
        have B3 := Lib.hid (HB.out.trans b3)
        clear o3 b3
        have HSl := Lib.hid (show (insTo P n1).length = n1 from insTo_length P n1)
        generalize hS : insTo P n1 = S at *
        clear hS
        go_wp2
        go_loopw [9, 41] (fun u j wr => ∃ i : Nat, i ≤ n1 ∧ j = .int .i64 i ∧ Own encInt wr w.heap.size 3 u (idsTo S i) ∧ Own encContract wr w.heap.size 26 (.slice A2 n1 c2) S ∧ (∀ q, (Value.slice A2 n1 c2).ownBlock = some q → u.ownBlock ≠ some q) ∧ Below w.heap.size w wr) (fun _ j _ => n1 - (intOf j).toNat)
        case atStart => exact ⟨0, Nat.zero_le _, rfl, Own.none_, O3.out, (fun q _ (h : (none : Option Nat) = some q) => by cases h), B3.out⟩
        case round =>
          obtain ⟨i, hi, rfl, hu, hs, hap, hbel⟩ := hrel
          have HU := Lib.hid hu
          have HS := Lib.hid hs
          have HA := Lib.hid hap
          have HB4 := Lib.hid hbel
          have hz4 := hbel.size
          have HL := Lib.hid (idsTo_length S i)
          clear hu hs hap hbel
          by_cases hlt : i < n1
          · obtain ⟨g, rfl⟩ := HS.out.some_ (show 0 < n1 by omega)
            have hx : S[i]? = some (S[i]'(by rw [HSl.out]; exact hlt)) := List.getElem?_eq_getElem _
            generalize S[i]'(by rw [HSl.out]; exact hlt) = x at hx
            obtain ⟨hgw, c0, c1, c2, c3, c4, c5, c6⟩ := HS.out.contract hx
            have HST := Lib.hid (show idsTo S (i + 1) = idsTo S i ++ [x.id] by rw [idsTo_succ, List.getElem!_of_getElem? hx])
            clear hx
            obtain ⟨x1, x2, x3, x4, x5, x6, x7⟩ := x
            dsimp only at c0 c1 c2 c3 c4 c5 c6 HST
            have k1 : (i : Int) < n1 := by omega
            have k2 : (0 : Int) ≤ i := by omega
            go_wp2_with (at_builtin; refine halt ?_)
            unfold Halt
            refine wpList_app3 (E := encInt) rfl (.tmp 45) (.tmp 48) 34 rfl w.heap.size 3 i0 _ 8 Tryd.underlying34 hinf hz0 hz1 hz2 rfl (by decide) _ _ rfl (HU.out.past (by repeat (first | assumption | exact Below.refl _ _ | apply bl_gw | apply bl_alloc | apply bl_drewN | apply bl_drew)) (Nat.le_refl _)) x1 _ rfl (by first | rfl | (rw [alloc_size]; rfl) | (rw [gw_size]; rfl)) (by have := HL.out; unfold maxLen; omega) (by have := HL.out; omega) (by first | omega | (simp; omega)) ?_
            intro v5 w5 ho5 hb5 hap5
            have O5 := Lib.hid ho5
            have Q5 := Lib.hid (hap5 (HS.out.past (by repeat (first | assumption | exact Below.refl _ _ | apply bl_gw | apply bl_alloc | apply bl_drewN | apply bl_drew)) (Nat.le_refl _)) HA.out)
            have B5 := Lib.hid ((show Below w.heap.size w _ from (HB4.out.trans ((show Below wr.heap.size wr _ from (by repeat (first | assumption | exact Below.refl _ _ | apply bl_gw | apply bl_alloc | apply bl_drewN | apply bl_drew))).mono hz4))).trans (hb5 w.heap.size (Nat.le_refl _)))
            clear ho5 hb5 hap5
            go_wp2
            go_roundw
            case rel => exact ⟨i + 1, by omega, by go_num, by rw [HST.out]; exact O5.out, Q5.out.1, Q5.out.2, B5.out⟩
            case measure => simp [intOf]; omega
          · go_wp2
            go_ret2
            obtain rfl : i = n1 := by omega
            rw [HQ.out, HP.out]
            exact ⟨_, rfl, HU.out, HB4.out⟩
end Go.Proofs.YtcljfdpjlkaagaaDoor
