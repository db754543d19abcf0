/- Contracts: dividing one into two, by the program. -/
import Derived.Test.YtcljfdpjlkaagaaDoorOpenA
import Derived.Test.YtcljfdpjlkaagaaDoorApp1
namespace Go.Proofs.YtcljfdpjlkaagaaDoor
open Go.RowKit
set_option maxHeartbeats 2000000 in
theorem cloneContract_any (l : List Contract) (n : Nat) (hn : l.length = n) (A : Option Addr) (cap : Nat) (w : World) (hl : n ≤ 1048576) (hc : Sl encContract w w.heap.size A l) :
    Calls Tryd.prog 38 #[.slice A n cap] w fun e w' => ∃ v, e = .returned v ∧ Own encContract w' w.heap.size 26 v l ∧ Below w.heap.size w w' := by
  have q : ∀ (w : World) (a : Option Addr) (n c n' c' : Nat), (binOp .eql 31 (.slice a n c) (.slice none n' c')).run Tryd.prog w = .ok (.bool a.isNone) w := fun w a n c n' c' => Lib.run_eql_slice_nil w _ _ a n c n' c' Tryd.underlying31
  have HC := Lib.hid hc; clear hc
  obtain ⟨i0, hi, hz0, hz1, hz2⟩ := info_parts info_Contract
  rcases A with _ | ad
  · have h0 : l = [] := by
      rcases l with _ | ⟨x, r⟩
      · rfl
      · obtain ⟨_, _, h, _⟩ := HC.out (by simp)
        cases h
    subst h0
    go_enter Tryd.func38, Tryd.ntmps38
    go_wp2
    go_ret
    exact ⟨_, rfl, Own.none_, Below.refl _ _⟩
  · have HN := Lib.hid hn; clear hn
    go_enter Tryd.func38, Tryd.ntmps38
    go_wp2_with (at_builtin; refine wpList_app (E := encContract) _ rfl (.tmp 5) (.tmp 6) 31 rfl w.heap.size 26 i0 _ 56 Tryd.underlying31 hi hz0 hz1 hz2 rfl (by decide) (.slice (some ⟨w.heap.size, 0, none⟩) 0 0) [] rfl (Own.nil_ (Nat.le_refl _) _) _ (some ad) n cap l rfl HN.out (HC.out.past (bl_alloc (Below.refl _ _) _)) (by simp [maxLen]; omega) (by simp; omega) (by simp) ?_; intro v' w' ho hg _; have HO := Lib.hid ho; have HG := Lib.hid hg; clear ho hg)
    go_ret
    exact ⟨_, rfl, by simpa using HO.out, below_grown (bl_alloc (Below.refl _ _) _) HG.out (by intro k hk; simp [Value.ownBlock] at hk; omega)⟩
def isAtC (l : List Contract) (id : Int) (i : Nat) : Bool := decide (l[i]!.id = id)
def placeC (o : Option Nat) : Int := match o with | some k => k | none => -1
def conPlace (l : List Contract) (id : Int) : Int := placeC (firstTo (isAtC l id) l.length)
set_option maxHeartbeats 1000000 in
theorem split1_any (a b c d e f g id : Int) (B : Nat) (w : World) (hB : B < w.heap.size) (hid : w.cell? ⟨B, 0, none⟩ = some (.int .i64 id)) :
    Calls Tryd.prog 37 #[.agg #[.int .i64 a, .int .i64 b, .int .i64 c, .int .i64 d, .int .i64 e, .int .i64 f, .int .i64 g], .pointer (some ⟨B, 0, none⟩)] w fun x w' => x = .returned (.bool (decide (a = id))) ∧ Below w.heap.size w w' := by
  go_enter Tryd.func37, Tryd.ntmps37
  go_wp2
  go_ret
  exact ⟨rfl, (by repeat (first | assumption | exact Below.refl _ _ | apply bl_gw | apply bl_alloc | apply bl_drewN | apply bl_drew))⟩
set_option maxHeartbeats 4000000 in
theorem indexCon_any (l : List Contract) (n : Nat) (hn : l.length = n) (A : Option Addr) (cap : Nat) (id : Int) (B : Nat) (w : World) (hB : B < w.heap.size) (hid : w.cell? ⟨B, 0, none⟩ = some (.int .i64 id)) (hl : n ≤ 1048576) (hc : Sl encContract w w.heap.size A l) :
    Calls Tryd.prog 36 #[.slice A n cap, .func (.func 37) #[] #[.pointer (some ⟨B, 0, none⟩)]] w fun e w' => e = .returned (.int .i64 (conPlace l id)) ∧ Below w.heap.size w w' := by
  have HC := Lib.hid hc; clear hc
  have HN := Lib.hid hn; clear hn
  go_enter Tryd.func36, Tryd.ntmps36
  go_wp2
  go_loopw [8] (fun i wr => ∃ k : Nat, k ≤ n ∧ i = .int .i64 k ∧ firstTo (isAtC l id) k = none ∧ Below w.heap.size w wr) (fun i _ => n - (intOf i).toNat)
  case atStart => exact ⟨0, Nat.zero_le _, rfl, rfl, Below.refl _ _⟩
  case round =>
    obtain ⟨k, hk, rfl, hall, hbel⟩ := hrel
    have HA := Lib.hid hall; clear hall
    have hsz := hbel.size
    by_cases hlt : k < n
    · obtain ⟨b, off, rfl, hb, hcs⟩ := HC.out.contract (by rw [HN.out]; omega)
      have hx : l[k]? = some (l[k]'(by rw [HN.out]; exact hlt)) := List.getElem?_eq_getElem _
      generalize l[k]'(by rw [HN.out]; exact hlt) = x at hx
      obtain ⟨c0, c1, c2, c3, c4, c5, c6⟩ := hcs k x hx
      clear hcs
      have hbad : isAtC l id k = decide (x.id = id) := by simp [isAtC, hx]
      clear hx
      rw [← hbel.cell hb] at c0 c1 c2 c3 c4 c5 c6
      rw [← hbel.cell (p := ⟨B, 0, none⟩) hB] at hid
      have hbw : b < wr.heap.size := by omega
      have hBw : B < wr.heap.size := by omega
      have HX := Lib.hid (show isAtC l id k = true → conPlace l id = k from fun h => by
        simp [conPlace, firstTo_hit HA.out h l.length (by rw [HN.out]; exact hlt), placeC])
      have HY := Lib.hid (show isAtC l id k = false → firstTo (isAtC l id) (k + 1) = none from fun h => firstTo_miss HA.out h)
      have HB := Lib.hid hbad
      clear hbad
      have k1 : (k : Int) < n := by omega
      have k2 : (0 : Int) ≤ (k : Int) := by omega
      rcases Bool.eq_false_or_eq_true (decide (x.id = id)) with hq | hq
      · have HQ := Lib.hid hq; clear hq
        go_wp2_with (go_at_call 37; refine (split1_any _ _ _ _ _ _ _ _ _ _ hBw hid).mono ?_; rintro e w1 ⟨rfl, hb1⟩; obtain ⟨p, rfl⟩ := below_gw hb1; clear hb1; rw [HQ.out])
        go_ret
        rw [HX.out (by rw [HB.out]; exact HQ.out)]
        exact ⟨rfl, (by repeat (first | assumption | exact Below.refl _ _ | apply bl_gw | apply bl_alloc | apply bl_drewN | apply bl_drew))⟩
      · have HQ := Lib.hid hq; clear hq
        go_wp2_with (go_at_call 37; refine (split1_any _ _ _ _ _ _ _ _ _ _ hBw hid).mono ?_; rintro e w1 ⟨rfl, hb1⟩; obtain ⟨p, rfl⟩ := below_gw hb1; clear hb1; rw [HQ.out])
        go_roundw
        case rel => exact ⟨k + 1, by omega, by go_num, HY.out (by rw [HB.out]; exact HQ.out), (by repeat (first | assumption | exact Below.refl _ _ | apply bl_gw | apply bl_alloc | apply bl_drewN | apply bl_drew))⟩
        case measure => simp [intOf]; omega
    · go_wp2
      go_ret
      obtain rfl : k = n := by omega
      refine ⟨?_, hbel⟩
      rw [conPlace, HN.out, HA.out]
      rfl
theorem conPlace_lt {l : List Contract} {id v : Int} (h : conPlace l id = v) (h0 : 0 ≤ v) : ∃ p : Nat, v = p ∧ p < l.length := by
  subst h
  unfold conPlace at *
  cases hf : firstTo (isAtC l id) l.length with
  | none => rw [hf] at h0; simp [placeC] at h0
  | some k => exact ⟨k, by simp [placeC], (firstTo_some hf).1⟩
def withTons (x : Contract) (t : Int) : Contract := ⟨x.id, x.grade, t, x.price, x.first, x.last, x.fine⟩
def secondOf (x : Contract) (i t : Int) : Contract := ⟨i + 1, x.grade, x.tons - t, x.price, x.first, x.last, x.fine⟩
def splitAt (l : List Contract) (p : Nat) (t : Int) : List Contract := l.set p (withTons l[p]! t) ++ [secondOf l[p]! l[l.length - 1]!.id t]
def splitG (l : List Contract) (id t : Int) : Bool := areContracts l && (decide (0 ≤ conPlace l id) && inB t 1 (l[(conPlace l id).toNat]!.tons - 1))
def splitOK (l : List Contract) (id t : Int) : Bool := splitG l id t && areContracts (splitAt l (conPlace l id).toNat t)
def splitP (l : List Contract) (id t : Int) : List Contract := if splitOK l id t then splitAt l (conPlace l id).toNat t else []
def splitI (l : List Contract) (id t : Int) : Int := if splitOK l id t then l[l.length - 1]!.id + 1 else 0
theorem splitP_length (l : List Contract) (id t : Int) : (splitP l id t).length ≤ 1000000 := by
  unfold splitP
  split
  · rename_i h
    simp only [splitOK, Bool.and_eq_true] at h
    have := areContracts_len h.2
    omega
  · simp
theorem split_no {l : List Contract} {id t : Int} (h : splitOK l id t = false) : splitP l id t = [] ∧ splitI l id t = 0 := by
  simp [splitP, splitI, h]
set_option maxRecDepth 4000 in
set_option maxHeartbeats 8000000 in
theorem impl_SplitContract_any (l : List Contract) (n : Nat) (hn : l.length = n) (A : Option Addr) (cap : Nat) (id t : Int) (w : World) (hl : n ≤ 1048576) (hc : Sl encContract w w.heap.size A l) :
    Calls Tryd.prog 14 #[.slice A n cap, .int .i64 id, .int .i64 t] w fun e w' => ∃ v, e = .returned (.tuple #[v, .int .i64 (splitI l id t), .bool (splitOK l id t)]) ∧ Own encContract w' w.heap.size 26 v (splitP l id t) ∧ Below w.heap.size w w' := by
  have HC := Lib.hid hc; clear hc
  have HN := Lib.hid hn; clear hn
  obtain ⟨at_, hat⟩ : ∃ v, conPlace l id = v := ⟨_, rfl⟩
  have HAT := Lib.hid hat
  rcases sp2 (areContracts l) (decide (0 ≤ at_)) with t1 | ⟨t1, t2⟩ | ⟨t1, t2⟩
  · have hq : splitOK l id t = false := by simp [splitOK, splitG, t1]
    obtain ⟨hsp, hsi⟩ := split_no hq
    rw [hq, hsp, hsi]
    clear hq hsp hsi
    clear hat
    go_enter Tryd.func14, Tryd.ntmps14
    go_wp2_with fail
    refine (indexCon_any l n HN.out _ _ id w.heap.size _ (by simp) (by simp [go_sem]) hl (HC.out.past (bl_alloc (Below.refl _ _) _))).mono ?_
    rintro e w1 ⟨rfl, b1⟩
    rw [HAT.out]
    have B1 := Lib.hid (below_step (bl_alloc (Below.refl w.heap.size w) _) b1)
    clear b1
    go_wp2_with fail
    refine (impl_AreContracts_any l n HN.out _ _ _ hl (HC.out.past B1.out)).mono ?_
    rintro e w2 ⟨rfl, b2⟩
    rw [t1]
    have B2 := Lib.hid (below_step B1.out b2)
    clear b2
    go_wp2
    go_ret3
    exact ⟨_, rfl, Own.none_, B2.out⟩
  · have t3 : ¬ 0 ≤ at_ := by simpa using t2
    have t4 : at_ < 0 := by omega
    have hq : splitOK l id t = false := by simp [splitOK, splitG, hat, t3]
    obtain ⟨hsp, hsi⟩ := split_no hq
    rw [hq, hsp, hsi]
    clear hq hsp hsi
    clear hat t2 t3
    go_enter Tryd.func14, Tryd.ntmps14
    go_wp2_with fail
    refine (indexCon_any l n HN.out _ _ id w.heap.size _ (by simp) (by simp [go_sem]) hl (HC.out.past (bl_alloc (Below.refl _ _) _))).mono ?_
    rintro e w1 ⟨rfl, b1⟩
    rw [HAT.out]
    have B1 := Lib.hid (below_step (bl_alloc (Below.refl w.heap.size w) _) b1)
    clear b1
    go_wp2_with fail
    refine (impl_AreContracts_any l n HN.out _ _ _ hl (HC.out.past B1.out)).mono ?_
    rintro e w2 ⟨rfl, b2⟩
    rw [t1]
    have B2 := Lib.hid (below_step B1.out b2)
    clear b2
    go_wp2
    go_ret3
    exact ⟨_, rfl, Own.none_, B2.out⟩
  · obtain ⟨p, rfl, hp⟩ := conPlace_lt hat (of_decide_eq_true t2)
    rw [HN.out] at hp
    obtain ⟨bk, off, rfl, hb, hcs⟩ := HC.out.contract (by rw [HN.out]; omega)
    have hx : l[p]? = some (l[p]'(by rw [HN.out]; exact hp)) := List.getElem?_eq_getElem _
    have hz : l[n - 1]? = some (l[n - 1]'(by rw [HN.out]; omega)) := List.getElem?_eq_getElem _
    generalize l[p]'(by rw [HN.out]; exact hp) = x at hx
    generalize l[n - 1]'(by rw [HN.out]; omega) = z at hz
    have c2 := (hcs p x hx).2.2.1
    have hn10 : n ≤ 10 := by have := areContracts_len t1; rw [HN.out] at this; exact this
    obtain ⟨_, _, ⟨xt0, xt1⟩, _⟩ := contractOK_at (areContracts_ok t1 hx)
    obtain ⟨⟨zi0, zi1⟩, _⟩ := contractOK_at (areContracts_ok t1 hz)
    have hG : splitOK l id t = (inB t 1 (x.tons - 1) && areContracts (splitAt l p t)) := by
      rw [splitOK, splitG, t1, hat, t2, Int.toNat_natCast, List.getElem!_of_getElem? hx]; rfl
    have hS : splitAt l p t = l.set p (withTons x t) ++ [secondOf x z.id t] := by
      rw [splitAt, List.getElem!_of_getElem? hx, HN.out, List.getElem!_of_getElem? hz]
    have hI : splitOK l id t = true → splitI l id t = z.id + 1 := fun h => by rw [splitI, if_pos h, HN.out, List.getElem!_of_getElem? hz]
    have hP : splitOK l id t = true → splitP l id t = splitAt l p t := fun h => by rw [splitP, if_pos h, hat, Int.toNat_natCast]
    have HG := Lib.hid hG; have HS := Lib.hid hS; have HI := Lib.hid hI; have HP := Lib.hid hP
    have HX := Lib.hid hx; have HZ := Lib.hid hz
    clear hcs hx hz hG hS hI hP hat t2
    obtain ⟨x1, x2, x3, x4, x5, x6, x7⟩ := x
    dsimp only at c2 xt0 xt1 HG
    generalize hzi : z.id = zi at *
    have HZI := Lib.hid hzi
    clear hzi
    have k1 : (p : Int) < n := by omega
    have k2 : (0 : Int) ≤ p := by omega
    have k3 : ¬ (p : Int) < 0 := by omega
    have k4 : IntKind.i64.wrap (x3 - 1) = x3 - 1 := IntWalk.i64_in _ (by omega)
    have HB0 := Lib.hid c2
    rcases sp1 (inB t 1 (x3 - 1)) with t3 | t3
    · have hq : splitOK l id t = false := by rw [HG.out, t3]; rfl
      obtain ⟨hsp, hsi⟩ := split_no hq
      rw [hq, hsp, hsi]
      clear hq hsp hsi
      go_enter Tryd.func14, Tryd.ntmps14
      go_wp2_with fail
      refine (indexCon_any l n HN.out _ _ id w.heap.size _ (by simp) (by simp [go_sem]) hl (HC.out.past (bl_alloc (Below.refl _ _) _))).mono ?_
      rintro e w1 ⟨rfl, b1⟩
      rw [HAT.out]
      have B1 := Lib.hid (below_step (bl_alloc (Below.refl w.heap.size w) _) b1)
      clear b1
      go_wp2_with fail
      refine (impl_AreContracts_any l n HN.out _ _ _ hl (HC.out.past B1.out)).mono ?_
      rintro e w2 ⟨rfl, b2⟩
      rw [t1]
      have B2 := Lib.hid (below_step B1.out b2)
      clear b2
      have c2 := HB0.out
      rw [← B2.out.cell hb] at c2
      have hbw : bk < w2.heap.size := by have := B2.out.size; omega
      go_wp2_with (go_at_call 28; refine (within_q t3 _).mono ?_; rintro e w5 ⟨rfl, rfl⟩)
      go_ret3
      exact ⟨_, rfl, Own.none_, B2.out⟩
    · have ht := inB_true t3
      have hn1 : 0 < n := by omega
      go_enter Tryd.func14, Tryd.ntmps14
      go_wp2_with fail
      refine (indexCon_any l n HN.out _ _ id w.heap.size _ (by simp) (by simp [go_sem]) hl (HC.out.past (bl_alloc (Below.refl _ _) _))).mono ?_
      rintro e w1 ⟨rfl, b1⟩
      rw [HAT.out]
      have B1 := Lib.hid (below_step (bl_alloc (Below.refl w.heap.size w) _) b1)
      clear b1
      go_wp2_with fail
      refine (impl_AreContracts_any l n HN.out _ _ _ hl (HC.out.past B1.out)).mono ?_
      rintro e w2 ⟨rfl, b2⟩
      rw [t1]
      have B2 := Lib.hid (below_step B1.out b2)
      clear b2
      have c2 := HB0.out
      rw [← B2.out.cell hb] at c2
      have hbw : bk < w2.heap.size := by have := B2.out.size; omega
      go_wp2_with (go_at_call 28; refine (within_q t3 _).mono ?_; rintro e w5 ⟨rfl, rfl⟩)
      refine (cloneContract_any l n HN.out _ _ _ hl (HC.out.past B2.out)).mono ?_
      rintro e w3 ⟨v3, rfl, o3, b3⟩
      obtain ⟨A3, c3, rfl, _, _, _⟩ := o3.slice
      rw [HN.out] at o3 ⊢
      obtain ⟨g, rfl⟩ := o3.some_ hn1
      have B3 := Lib.hid (below_step B2.out b3)
      have O3 := Lib.hid (o3.lower B2.out.size)
      obtain ⟨hgw, d0, d1, d2, d3, d4, d5, d6⟩ := o3.contract HX.out
      have z0 := (o3.contract HZ.out).2.1
      rw [HZI.out] at z0
      have f2 := o3.thaw (p * 7 + 2)
      have hgl : w.heap.size ≤ g := O3.out.lo ⟨g, 0, none⟩ rfl
      dsimp only at d0 d1 d2 d3 d4 d5 d6
      clear o3 b3 c2
      have n1 : ((n : Int) - 1).toNat = n - 1 := by omega
      have n2 : IntKind.i64.wrap ((n : Int) - 1) = (n : Int) - 1 := IntWalk.i64_in _ (by omega)
      have n3 : (n : Int) - 1 < n := by omega
      have n4 : (0 : Int) ≤ (n : Int) - 1 := by omega
      have n5 : IntKind.i64.wrap (zi + 1) = zi + 1 := IntWalk.i64_in _ (by omega)
      have n6 : IntKind.i64.wrap (x3 - t) = x3 - t := IntWalk.i64_in _ (by omega)
      have hz3 := B3.out.size
      obtain ⟨j0, hinf', hy0, hy1, hy2⟩ := info_parts info_Contract
      go_wp2_with (at_builtin; refine halt ?_)
      unfold Halt
      have O6 := O3.out.setField (i := p) (j := 2) (y := ⟨x1, x2, t, x4, x5, x6, x7⟩) (z := t) hp HX.out (by decide) rfl (o := p * 7 + 2) rfl
      have b6 := B3.out.setCell (p := ⟨g, p * 7 + 2, none⟩) hgl (.int .i64 t)
      have hs6 : (w3.setCell ⟨g, p * 7 + 2, none⟩ (.int .i64 t)).heap.size = w3.heap.size := by simp [World.setCell]
      generalize w3.setCell ⟨g, p * 7 + 2, none⟩ (.int .i64 t) = W6 at *
      have K7 : Blk (W6.alloc (.cells #[.int .i64 (zi + 1), .int .i64 x2, .int .i64 (x3 - t), .int .i64 x4, .int .i64 x5, .int .i64 x6, .int .i64 x7] 26)) w3.heap.size 26 #[.int .i64 (zi + 1), .int .i64 x2, .int .i64 (x3 - t), .int .i64 x4, .int .i64 x5, .int .i64 x6, .int .i64 x7] := hs6 ▸ Blk.new W6 _ _
      have S7 : Own encContract (W6.alloc (.cells #[.int .i64 (zi + 1), .int .i64 x2, .int .i64 (x3 - t), .int .i64 x4, .int .i64 x5, .int .i64 x6, .int .i64 x7] 26)) w.heap.size 26 (.slice (some ⟨w3.heap.size, 0, none⟩) 1 1) [(⟨zi + 1, x2, x3 - t, x4, x5, x6, x7⟩ : Contract)] := Own.build (n := 1) hz3 K7 rfl rfl (by decide)
      have hln := O6.len
      refine wpList_app3 (E := encContract) rfl (.tmp 58) (.tmp 60) 31 rfl w.heap.size 26 j0 _ 56 Tryd.underlying31 hinf' hy0 hy1 hy2 rfl (by decide) (.slice (some ⟨g, 0, none⟩) n c3) _ rfl (O6.past (bl_alloc (Below.refl _ _) _) (Nat.le_refl _)) ⟨zi + 1, x2, x3 - t, x4, x5, x6, x7⟩ _ rfl (by rw [alloc_size, hs6]; rfl) (by rw [hln]; unfold maxLen; omega) (by rw [hln]; omega) (by rw [alloc_size, hs6]; omega) ?_
      intro v5 w5 o5 hb5 hap5
      have q5 := (hap5 S7 (fun k hk => by
        injection hk with hk
        have hk2 : w3.heap.size = k := hk
        intro h
        injection h with h
        have h2 : g = k := h
        omega)).1
      have B5 := Lib.hid ((bl_alloc b6 _).trans (hb5 w.heap.size (Nat.le_refl _)))
      obtain ⟨A5, c5, rfl, _, _, _⟩ := o5.slice
      have hE : splitAt l p t = l.set p ⟨x1, x2, t, x4, x5, x6, x7⟩ ++ [(⟨zi + 1, x2, x3 - t, x4, x5, x6, x7⟩ : Contract)] := by rw [HS.out]; rfl
      rw [← hE] at o5 ⊢
      have hlen : (splitAt l p t).length = n + 1 := by rw [hE, List.length_append, hln]; rfl
      rw [hlen] at o5 ⊢
      have O5 := Lib.hid o5
      have Q5 := Lib.hid q5
      have HLN := Lib.hid hlen
      clear O6 b6 hs6 K7 S7 hln o5 q5 hb5 hap5 hE hlen HX HZ O3 f2 d0 d1 d2 d3 d4 d5 d6 z0
      go_wp2_with fail
      refine (impl_AreContracts_any (splitAt l p t) (n + 1) HLN.out _ _ _ (by omega) O5.out.rd).mono ?_
      rintro e w8 ⟨rfl, b8⟩
      have O8 := Lib.hid (O5.out.past b8 (Nat.le_refl _))
      have B8 := Lib.hid (below_step B5.out b8)
      have z8 := ((Q5.out.past b8 (Nat.le_refl _)).contract (i := 0) rfl)
      obtain ⟨hz8, z9, _⟩ := z8
      simp only [Nat.zero_mul] at z9
      clear b8
      rcases sp1 (areContracts (splitAt l p t)) with t5 | t5
      · have hq : splitOK l id t = false := by rw [HG.out, t5, Bool.and_false]
        obtain ⟨hsp, hsi⟩ := split_no hq
        have HQ := Lib.hid hq; have HSP := Lib.hid hsp; have HSI := Lib.hid hsi
        rw [t5]
        clear hq hsp hsi t5
        go_wp2
        go_ret3
        rw [HQ.out, HSP.out, HSI.out]
        exact ⟨_, rfl, Own.none_, B8.out⟩
      · have hq : splitOK l id t = true := by rw [HG.out, t3, t5]; rfl
        have HQ := Lib.hid hq; have HSP := Lib.hid (HP.out hq); have HSI := Lib.hid (HI.out hq)
        rw [t5]
        clear hq t5
        go_wp2
        refine wp_region_gw (by kernel_rfl) (by kernel_rfl) ?_
        repeat (first | go_big_quiet_step ((fail)) | quiet_step ((fail)))
        refine wpQuiet_nil ?_
        rintro _ ⟨pq, rfl⟩
        go_wp2
        go_ret3
        rw [HQ.out, HSP.out, HSI.out]
        exact ⟨_, rfl, O8.out.past (gw_below _ _ (Nat.le_refl _)) (Nat.le_refl _), bl_gw B8.out pq⟩
end Go.Proofs.YtcljfdpjlkaagaaDoor
