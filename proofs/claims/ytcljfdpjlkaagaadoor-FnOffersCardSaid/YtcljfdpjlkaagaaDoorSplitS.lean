/- Contracts: dividing one into two, by the reference. -/
import Derived.Test.YtcljfdpjlkaagaaDoorSplit
namespace Go.Proofs.YtcljfdpjlkaagaaDoor
open Go.RowKit
theorem ids_inc {l : List Contract} (h : areContracts l = true) {i : Nat} : ∀ {j : Nat}, i < j → j < l.length → l[i]!.id < l[j]!.id
  | 0, hi, _ => by omega
  | j + 1, hi, hj => by
    simp only [areContracts, Bool.and_eq_true, Option.isNone_iff_eq_none] at h
    have h1 := firstTo_none h.1 (j + 1) hj
    simp only [badContract, Bool.not_eq_false', Bool.and_eq_true, Bool.or_eq_true, decide_eq_true_eq, Nat.add_sub_cancel] at h1
    have h2 : l[j]!.id < l[j + 1]!.id := by rcases h1.2 with h | h <;> omega
    by_cases e : i = j
    · subst e; exact h2
    · have := ids_inc (l := l) (by simp only [areContracts, Bool.and_eq_true, Option.isNone_iff_eq_none]; exact h) (i := i) (j := j) (by omega) (by omega)
      omega
theorem Own.farC {α : Type} {E : Enc α} {w : World} {base : Nat} {e : TypeId} {v : Value} {l : List α} (h : Own E w base e v l) {gg i : Nat} (hne : v.ownBlock ≠ some gg) (u : Value) : Own E (w.setCell ⟨gg, i, none⟩ u) base e v l := by
  obtain ⟨hl, h⟩ := h
  refine ⟨hl, ?_⟩
  rcases h with h | ⟨g, cap, cur, rfl, hg, hh, r⟩
  · exact .inl h
  · refine .inr ⟨g, cap, cur, rfl, hg, ?_, r⟩
    have : g ≠ gg := fun e => hne (by rw [← e]; rfl)
    exact (Below.heap_setCell w ⟨gg, i, none⟩ u g this).trans hh
theorem oneBlock {w : World} {g : Nat} {x : Contract} (h : Own encContract w 0 26 (.slice (some ⟨g, 0, none⟩) 1 1) [x]) :
    g < w.heap.size ∧ w.cell? ⟨g, 0, none⟩ = some (.int .i64 x.id) ∧ w.cell? ⟨g, 1, none⟩ = some (.int .i64 x.grade) ∧ w.cell? ⟨g, 2, none⟩ = some (.int .i64 x.tons) ∧ w.cell? ⟨g, 3, none⟩ = some (.int .i64 x.price) ∧ w.cell? ⟨g, 4, none⟩ = some (.int .i64 x.first) ∧ w.cell? ⟨g, 5, none⟩ = some (.int .i64 x.last) ∧ w.cell? ⟨g, 6, none⟩ = some (.int .i64 x.fine) := by
  have := h.contract (i := 0) rfl
  simpa using this
set_option maxRecDepth 4000 in
set_option maxHeartbeats 8000000 in
theorem spec_SplitContract_any (l : List Contract) (n : Nat) (hn : l.length = n) (A : Option Addr) (cap : Nat) (id t : Int) (w : World) (hl : n ≤ 1048576) (hc : Sl encContract w w.heap.size A l) :
    Calls Tryd.prog 15 #[.slice A n cap, .int .i64 id, .int .i64 t] w fun e w' => ∃ v, e = .returned (.tuple #[v, .int .i64 (splitI l id t), .bool (splitOK l id t)]) ∧ Own encContract w' w.heap.size 26 v (splitP l id t) ∧ Below w.heap.size w w' := by
  have HC := Lib.hid hc; clear hc
  have HN := Lib.hid hn; clear hn
  rcases sp1 (areContracts l) with t1 | t1
  · have hq : splitOK l id t = false := by simp [splitOK, splitG, t1]
    obtain ⟨hsp, hsi⟩ := split_no hq
    rw [hq, hsp, hsi]
    clear hq hsp hsi
    go_enter Tryd.func15, Tryd.ntmps15
    go_wp2_with fail
    refine (l18Good_any l n HN.out _ _ _ hl HC.out).mono ?_
    rintro e w2 ⟨rfl, b2⟩
    rw [t1]
    have B2 := Lib.hid b2
    clear b2
    go_wp2
    go_ret3
    exact ⟨_, rfl, Own.nil_ B2.out.size _, bl_alloc B2.out _⟩
  · have HT1 := Lib.hid t1
    have hn10 : n ≤ 10 := by have := areContracts_len t1; rw [HN.out] at this; exact this
    obtain ⟨j0, hinf', hy0, hy1, hy2⟩ := info_parts info_Contract
    go_enter Tryd.func15, Tryd.ntmps15
    go_wp2_with fail
    refine (l18Good_any l n HN.out _ _ _ hl HC.out).mono ?_
    rintro e w2 ⟨rfl, b2⟩
    rw [t1]
    have B2 := Lib.hid b2
    clear b2 t1
    go_wp2
    go_loopw [9] (fun j wr => ∃ k : Nat, k ≤ n ∧ j = .int .i64 k ∧ (firstTo (isAtC l id) k = none ∨ (splitOK l id t = false ∧ ∃ p, p < k ∧ l[p]!.id = id)) ∧ Below w.heap.size w wr) (fun j _ => n - (intOf j).toNat)
    case atStart => exact ⟨0, Nat.zero_le _, rfl, .inl rfl, B2.out⟩
    case round =>
      obtain ⟨k, hk, rfl, hor, hbel⟩ := hrel
      have HOR := Lib.hid hor
      have HB := Lib.hid hbel
      have hz := hbel.size
      clear hor
      by_cases hlt : k < n
      · obtain ⟨bk, off, rfl, hb, hcs⟩ := HC.out.contract (by rw [HN.out]; omega)
        have hx : l[k]? = some (l[k]'(by rw [HN.out]; exact hlt)) := List.getElem?_eq_getElem _
        have hzl : l[n - 1]? = some (l[n - 1]'(by rw [HN.out]; omega)) := List.getElem?_eq_getElem _
        generalize l[k]'(by rw [HN.out]; exact hlt) = x at hx
        generalize l[n - 1]'(by rw [HN.out]; omega) = z at hzl
        obtain ⟨c0, c1, c2, c3, c4, c5, c6⟩ := hcs k x hx
        have z0 := (hcs (n - 1) z hzl).1
        obtain ⟨_, _, ⟨xt0, xt1⟩, _⟩ := contractOK_at (areContracts_ok HT1.out hx)
        obtain ⟨⟨zi0, zi1⟩, _⟩ := contractOK_at (areContracts_ok HT1.out hzl)
        have hxk : l[k]! = x := List.getElem!_of_getElem? hx
        have HMISS := Lib.hid (show ¬ x.id = id → (firstTo (isAtC l id) (k + 1) = none ∨ (splitOK l id t = false ∧ ∃ p, p < k + 1 ∧ l[p]!.id = id)) from fun h => by
          rcases HOR.out with h0 | ⟨h0, p, hp, hpe⟩
          · exact .inl (firstTo_miss h0 (by rw [isAtC, hxk]; exact decide_eq_false h))
          · exact .inr ⟨h0, p, by omega, hpe⟩)
        have HHIT := Lib.hid (show x.id = id → conPlace l id = k from fun h => by
          rcases HOR.out with h0 | ⟨h0, p, hp, hpe⟩
          · rw [conPlace, firstTo_hit h0 (by rw [isAtC, hxk]; exact decide_eq_true h) l.length (by rw [HN.out]; exact hlt)]
            rfl
          · have := ids_inc HT1.out hp (by rw [HN.out]; exact hlt)
            rw [hxk] at this
            omega)
        have HG := Lib.hid (show x.id = id → splitOK l id t = (inB t 1 (x.tons - 1) && areContracts (splitAt l k t)) from fun h => by
          rw [splitOK, splitG, HT1.out, HHIT.out h, Int.toNat_natCast, hxk]
          simp)
        have HS := Lib.hid (show splitAt l k t = l.set k (withTons x t) ++ [secondOf x z.id t] by
          rw [splitAt, hxk, HN.out, List.getElem!_of_getElem? hzl])
        have HI := Lib.hid (show splitOK l id t = true → splitI l id t = z.id + 1 from fun h => by rw [splitI, if_pos h, HN.out, List.getElem!_of_getElem? hzl])
        have HP := Lib.hid (show x.id = id → splitOK l id t = true → splitP l id t = splitAt l k t from fun h0 h => by rw [splitP, if_pos h, HHIT.out h0, Int.toNat_natCast])
        have HX := Lib.hid hx
        have HXK := Lib.hid hxk
        rw [← hbel.cell hb] at c0 c1 c2 c3 c4 c5 c6 z0
        generalize hzi : z.id = zi at *
        clear hcs hx hzl hxk hzi
        obtain ⟨x1, x2, x3, x4, x5, x6, x7⟩ := x
        dsimp only at c0 c1 c2 c3 c4 c5 c6 xt0 xt1 HMISS HHIT HG HP
        have hbw : bk < wr.heap.size := by omega
        have k1 : (k : Int) < n := by omega
        have k2 : (0 : Int) ≤ k := by omega
        have k4 : IntKind.i64.wrap (x3 - 1) = x3 - 1 := IntWalk.i64_in _ (by omega)
        have hcap9 : n ≤ n := Nat.le_refl _
        rcases sp1 (decide (x1 = id)) with q1 | q1
        · have hne : ¬ x1 = id := by simpa using q1
          have HM2 := Lib.hid (HMISS.out hne)
          have q2 : (x1 == id) = false := by simpa using q1
          clear hbel
          go_wp2
          go_roundw
          case rel => exact ⟨k + 1, by omega, by go_num, HM2.out, HB.out.trans ((show Below wr.heap.size wr _ from (by repeat (first | assumption | exact Below.refl _ _ | apply bl_gw | apply bl_alloc | apply bl_drewN | apply bl_drew))).mono hz)⟩
          case measure => simp [intOf]; omega
        · have hid1 : x1 = id := by simpa using q1
          have HG1 := Lib.hid (HG.out hid1)
          have HP1 := Lib.hid (HP.out hid1)
          have HID := Lib.hid (show l[k]!.id = id by rw [HXK.out]; exact hid1)
          subst hid1
          clear hbel q1
          rcases sp1 (inB t 1 (x3 - 1)) with q3 | q3
          · have HF := Lib.hid (show splitOK l x1 t = false by rw [HG1.out, q3]; rfl)
            go_wp2_with (go_at_call 34; refine (l1In_q q3 _).mono ?_; rintro e w5 ⟨rfl, rfl⟩)
            go_roundw
            case rel => exact ⟨k + 1, by omega, by go_num, .inr ⟨HF.out, k, by omega, HID.out⟩, HB.out.trans ((show Below wr.heap.size wr _ from (by repeat (first | assumption | exact Below.refl _ _ | apply bl_gw | apply bl_alloc | apply bl_drewN | apply bl_drew))).mono hz)⟩
            case measure => simp [intOf]; omega
          · have ht := inB_true q3
            go_wp2_with (first | (go_at_call 34; refine (l1In_q q3 _).mono ?_; rintro e w5 ⟨rfl, rfl⟩) | (at_builtin; refine halt ?_))
            unfold Halt
            have hcw : Sl encContract wr wr.heap.size (some ⟨bk, off, none⟩) l := (HC.out.below HB.out).more hz
            have HZ0 := Lib.hid z0
            refine wpList_app (E := encContract) _ rfl (.tmp 38) (.tmp 39) 31 rfl (wr.heap.size + 1) 26 j0 _ 56 Tryd.underlying31 hinf' hy0 hy1 hy2 rfl (by decide) (.slice (some ⟨wr.heap.size + 1, 0, none⟩) 0 0) [] rfl (by have q := Own.nil_ (E := encContract) (w := wr.alloc (.cells #[.int .i64 x1, .int .i64 x2, .int .i64 x3, .int .i64 x4, .int .i64 x5, .int .i64 x6, .int .i64 x7] 26)) (base := wr.heap.size + 1) (by simp) 26; rw [alloc_size] at q; exact q) _ (some ⟨bk, off, none⟩) n cap l rfl HN.out (hcw.past (by repeat (first | assumption | exact Below.refl _ _ | apply bl_gw | apply bl_alloc | apply bl_drewN | apply bl_drew))) (by simp [maxLen]; omega) (by simp; omega) (by simp) ?_
            intro v4 w4 o4 g4' _
            rw [List.nil_append] at o4
            have bX := below_grownB (((Below.refl (wr.heap.size + 1) (wr.alloc (.cells #[.int .i64 x1, .int .i64 x2, .int .i64 x3, .int .i64 x4, .int .i64 x5, .int .i64 x6, .int .i64 x7] 26))).alloc (by simp) (.cells #[] 26))) g4' (by simp) (by intro q hq; injection hq with hq; have h2 : wr.heap.size + 1 = q := hq; omega)
            have KX : Blk w4 wr.heap.size 26 #[.int .i64 x1, .int .i64 x2, .int .i64 x3, .int .i64 x4, .int .i64 x5, .int .i64 x6, .int .i64 x7] := (bX.block _ (by omega)).trans (Blk.new wr _ _)
            have b4 : Below wr.heap.size wr w4 := (bl_alloc (Below.refl _ _) _).trans (bX.mono (by omega))
            have hz4 := bX.size
            simp only [alloc_size] at hz4
            obtain ⟨A4, cp4, rfl, _, _, _⟩ := o4.slice
            rw [HN.out] at o4 ⊢
            obtain ⟨g, rfl⟩ := o4.some_ (show 0 < n by omega)
            have hgX : wr.heap.size + 1 ≤ g := o4.lo ⟨g, 0, none⟩ rfl
            have hgw : g < w4.heap.size := o4.hi ⟨g, 0, none⟩ rfl
            have e0 := KX.cell 0; have e1 := KX.cell 1; have e2 := KX.cell 2; have e3 := KX.cell 3; have e4 := KX.cell 4; have e5 := KX.cell 5; have e6 := KX.cell 6
            have f2 := KX.frozen 2
            have m0 := o4.thaw (k * 7); have m1 := o4.thaw (k * 7 + 1); have m2 := o4.thaw (k * 7 + 2); have m3 := o4.thaw (k * 7 + 3); have m4 := o4.thaw (k * 7 + 4); have m5 := o4.thaw (k * 7 + 5); have m6 := o4.thaw (k * 7 + 6)
            obtain ⟨_, d0, d1, d2, d3, d4, d5, d6⟩ := o4.contract HX.out
            have z4 := HZ0.out
            rw [← b4.cell (by exact hbw)] at z4
            simp at e0 e1 e2 e3 e4 e5 e6
            have O4 := Lib.hid o4
            have B4 := Lib.hid (HB.out.trans (b4.mono hz))
            have hbw4 : bk < w4.heap.size := by omega
            have hxw4 : wr.heap.size < w4.heap.size := by omega
            clear o4 g4' bX KX b4 z0 hcw
            have n1 : ((n : Int) - 1).toNat = n - 1 := by omega
            have n2 : IntKind.i64.wrap ((n : Int) - 1) = (n : Int) - 1 := IntWalk.i64_in _ (by omega)
            have n3 : (n : Int) - 1 < n := by omega
            have n4 : (0 : Int) ≤ (n : Int) - 1 := by omega
            have n5 : IntKind.i64.wrap (zi + 1) = zi + 1 := IntWalk.i64_in _ (by omega)
            have n6 : IntKind.i64.wrap (x3 - t) = x3 - t := IntWalk.i64_in _ (by omega)
            have hgne : g ≠ wr.heap.size := by omega
            go_wp2_with (at_builtin; refine halt ?_)
            unfold Halt
            rw [put7]
            have b5 := B4.out.setCell (p := ⟨wr.heap.size, 2, none⟩) hz (.int .i64 t)
            have o5 := O4.out.farC (gg := wr.heap.size) (i := 2) (fun h => hgne (by injection h)) (.int .i64 t)
            have hs5 : (w4.setCell ⟨wr.heap.size, 2, none⟩ (.int .i64 t)).heap.size = w4.heap.size := by simp [World.setCell]
            generalize w4.setCell ⟨wr.heap.size, 2, none⟩ (.int .i64 t) = W5 at *
            have O6 := contract_put o5 hlt (⟨x1, x2, t, x4, x5, x6, x7⟩ : Contract)
            have b6 := putC_below (show w.heap.size ≤ g by omega) (vals ⟨x1, x2, t, x4, x5, x6, x7⟩) (k * 7) b5
            have hs6 : (putC W5 g (k * 7) (vals ⟨x1, x2, t, x4, x5, x6, x7⟩)).heap.size = w4.heap.size := by rw [putC_size, hs5]
            simp only [vals] at O6 b6 hs6
            generalize putC W5 g (k * 7) [.int .i64 x1, .int .i64 x2, .int .i64 t, .int .i64 x4, .int .i64 x5, .int .i64 x6, .int .i64 x7] = W6 at *
            have K7 : Blk (W6.alloc (.cells #[.int .i64 (zi + 1), .int .i64 x2, .int .i64 (x3 - t), .int .i64 x4, .int .i64 x5, .int .i64 x6, .int .i64 x7] 26)) w4.heap.size 26 #[.int .i64 (zi + 1), .int .i64 x2, .int .i64 (x3 - t), .int .i64 x4, .int .i64 x5, .int .i64 x6, .int .i64 x7] := hs6 ▸ Blk.new W6 _ _
            have S7 : Own encContract (W6.alloc (.cells #[.int .i64 (zi + 1), .int .i64 x2, .int .i64 (x3 - t), .int .i64 x4, .int .i64 x5, .int .i64 x6, .int .i64 x7] 26)) 0 26 (.slice (some ⟨w4.heap.size, 0, none⟩) 1 1) [(⟨zi + 1, x2, x3 - t, x4, x5, x6, x7⟩ : Contract)] := Own.build (n := 1) (Nat.zero_le _) K7 rfl rfl (by decide)
            have hln := O6.len
            refine wpList_app3 (E := encContract) rfl (.tmp 62) (.tmp 64) 31 rfl (wr.heap.size + 1) 26 j0 _ 56 Tryd.underlying31 hinf' hy0 hy1 hy2 rfl (by decide) (.slice (some ⟨g, 0, none⟩) n cp4) _ rfl (O6.past (bl_alloc (Below.refl _ _) _) (Nat.le_refl _)) ⟨zi + 1, x2, x3 - t, x4, x5, x6, x7⟩ _ rfl (by rw [alloc_size, hs6]; rfl) (by rw [hln]; unfold maxLen; omega) (by rw [hln]; omega) (by rw [alloc_size, hs6]; omega) ?_
            intro v5 w5 o7 hb5 hap5
            have q5 := (hap5 S7 (fun q hq => by
              injection hq with hq
              have hk2 : w4.heap.size = q := hq
              intro h
              injection h with h
              have h2 : g = q := h
              omega)).1
            have B5 := Lib.hid ((bl_alloc b6 _).trans (hb5 w.heap.size (by omega)))
            obtain ⟨A5, c5', rfl, _, _, _⟩ := o7.slice
            have hE : splitAt l k t = l.set k ⟨x1, x2, t, x4, x5, x6, x7⟩ ++ [(⟨zi + 1, x2, x3 - t, x4, x5, x6, x7⟩ : Contract)] := by rw [HS.out]; rfl
            rw [← hE] at o7 ⊢
            have hlen : (splitAt l k t).length = n + 1 := by rw [hE, List.length_append, hln]; rfl
            rw [hlen] at o7 ⊢
            have O5 := Lib.hid (o7.lower (b := w.heap.size) (by omega))
            have Q5 := Lib.hid q5
            have HLN := Lib.hid hlen
            clear O6 b6 b5 o5 hs5 hs6 K7 S7 hln o7 q5 hb5 hap5 hE hlen O4 B4 e0 e1 e2 e3 e4 e5 e6 f2 m0 m1 m2 m3 m4 m5 m6 d0 d1 d2 d3 d4 d5 d6 z4 c0 c1 c2 c3 c4 c5 c6 hgw hxw4 hbw4
            go_wp2_with fail
            refine (l18Good_any (splitAt l k t) (n + 1) HLN.out _ _ _ (by omega) O5.out.rd).mono ?_
            rintro e w8 ⟨rfl, b8⟩
            have O8 := Lib.hid (O5.out.past b8 (Nat.le_refl _))
            have B8 := Lib.hid (below_step B5.out b8)
            obtain ⟨hz8, z9, _⟩ := oneBlock (Q5.out.past b8 (Nat.le_refl _))
            clear b8
            rcases sp1 (areContracts (splitAt l k t)) with t5 | t5
            · have HF := Lib.hid (show splitOK l x1 t = false by rw [HG1.out, t5, Bool.and_false])
              rw [t5]
              clear t5
              go_wp2
              go_roundw
              case rel => exact ⟨k + 1, by omega, by go_num, .inr ⟨HF.out, k, by omega, HID.out⟩, B8.out⟩
              case measure => simp [intOf]; omega
            · have hq : splitOK l x1 t = true := by rw [HG1.out, q3, t5]; rfl
              have HQ := Lib.hid hq; have HSP := Lib.hid (HP1.out hq); have HSI := Lib.hid (HI.out hq)
              rw [t5]
              clear hq t5
              go_wp2
              refine wp_region_gw (by kernel_rfl) (by kernel_rfl) ?_
              repeat (first | go_big_quiet_step ((fail)) | quiet_step ((fail)))
              refine wpQuiet_nil ?_
              rintro _ ⟨pq, rfl⟩
              go_wp2
              go_ret3
              rw [HQ.out, HSP.out, HSI.out]
              exact ⟨_, rfl, O8.out.past (gw_below _ _ (Nat.le_refl _)) (Nat.le_refl _), bl_gw B8.out pq⟩
      · obtain rfl : k = n := by omega
        have hq : splitOK l id t = false := by
          rcases HOR.out with h0 | ⟨h0, _⟩
          · rw [splitOK, splitG, conPlace, HN.out, h0]
            simp [placeC]
          · exact h0
        obtain ⟨hsp, hsi⟩ := split_no hq
        have HQ := Lib.hid hq; have HSP := Lib.hid hsp; have HSI := Lib.hid hsi
        clear hq hsp hsi
        go_wp2
        go_ret3
        rw [HQ.out, HSP.out, HSI.out]
        exact ⟨_, rfl, Own.nil_ hz _, bl_alloc hbel _⟩
end Go.Proofs.YtcljfdpjlkaagaaDoor
