/- Contracts: serving one, by the reference; stocks; both programs' ServeOne. -/
import Derived.Test.YtcljfdpjlkaagaaServe
namespace Go.Proofs.Ytcljfdpjlkaagaa
open Go.RowKit
set_option maxHeartbeats 400000 in
theorem l1Least_any (a b : Int) (w : World) :
    Calls Try.prog 78 #[.int .i64 a, .int .i64 b] w fun e w' => e = .returned (.int .i64 (min a b)) ∧ w = w' := by
  go_enter Try.func78, Try.ntmps78
  go_wp2
  all_goals go_ret
  all_goals exact ⟨ret_int (by first | omega | (simp; omega)), rfl⟩
set_option maxRecDepth 4000 in
set_option maxHeartbeats 8000000 in
theorem l18Serve_any (s : List Int) (hs : StockIn s) (A : Option Addr) (cap : Nat) (id t pr fr un fi : Int) (g : Nat) (w : World) (hg1 : 1 ≤ g) (hg4 : g ≤ 4) (ht : 0 ≤ t ∧ t ≤ 5000) (hc : Sl encInt w w.heap.size A s) :
    Calls Try.prog 57 #[.slice A 4 cap, .agg #[.int .i64 id, .int .i64 g, .int .i64 t, .int .i64 pr, .int .i64 fr, .int .i64 un, .int .i64 fi]] w fun e w' => ∃ v, e = .returned (.tuple #[v, .int .i64 (serveTo t g s g).2]) ∧ Own encInt w' w.heap.size 3 v (serveTo t g s g).1 ∧ Below w.heap.size w w' := by
  have HC := Lib.hid hc; clear hc
  have HST := Lib.hid hs
  have HN := Lib.hid hs.1
  clear hs
  have HW := Lib.hid (show Below w.heap.size w (w.alloc (.cells #[.int .i64 id, .int .i64 g, .int .i64 t, .int .i64 pr, .int .i64 fr, .int .i64 un, .int .i64 fi] 25)).drew from bl_drew (bl_alloc (Below.refl _ _) _))
  have HC' := Lib.hid (HC.out.past HW.out)
  go_enter Try.func57, Try.ntmps57
  go_wp2
  go_region_held3 (fun w' => w'.cell? ⟨w.heap.size, 1, none⟩ = some (.int .i64 g) ∧ w'.cell? ⟨w.heap.size, 2, none⟩ = some (.int .i64 t)) (go_keep)
    (first | (go_at_call 72; refine (l1Own_any s 4 HN.out _ _ _ (by omega) HC'.out).mono ?_; rintro e w1 ⟨v1, rfl, o1, b1⟩; have O1 := Lib.hid o1; have B1 := Lib.hid b1; clear o1; obtain ⟨hcb, _⟩ := bcell b1; have z1 := below_lt (show w.heap.size < (w.alloc _).drew.heap.size by simp) b1; clear b1))
  have o1 := O1.out
  have b1 := B1.out
  obtain ⟨A1, c1, rfl, _, _, _⟩ := o1.slice
  rw [HN.out] at o1 ⊢
  have e1 : w1.cell? ⟨w.heap.size, 1, none⟩ = some (.int .i64 g) := by rw [b1.cell (p := ⟨w.heap.size, 1, none⟩) (by simp)]; simp [go_sem]
  have e2 : w1.cell? ⟨w.heap.size, 2, none⟩ = some (.int .i64 t) := by rw [b1.cell (p := ⟨w.heap.size, 2, none⟩) (by simp)]; simp [go_sem]
  have B2 := Lib.hid (below_step HW.out b1)
  rw [show (w.alloc (.cells #[.int .i64 id, .int .i64 g, .int .i64 t, .int .i64 pr, .int .i64 fr, .int .i64 un, .int .i64 fi] 25)).drew.heap.size = w.heap.size + 1 by simp] at o1
  have hz1 : w.heap.size + 1 ≤ w1.heap.size := by have := b1.size; simp at this; omega
  obtain ⟨gb, rfl⟩ := o1.some_ (by omega)
  have hgb : w.heap.size + 1 ≤ gb := o1.lo ⟨gb, 0, none⟩ rfl
  clear O1
  have O1 := Lib.hid o1
  have k0 : IntKind.i64.wrap ((g : Int) - 1) = (g : Int) - 1 := IntWalk.i64_in _ (by omega)
  clear o1 b1 hcb
  go_wp2
  have E2 := Lib.hid e2
  clear e1 e2
  go_loopw [7, 8] (fun u j wr => ∃ r : Nat, r ≤ g ∧ j = .int .i64 ((r : Int) - 1) ∧ u = .int .i64 (t - (serveTo t g s (g - r)).2) ∧ Own encInt wr (w.heap.size + 1) 3 (.slice (some ⟨gb, 0, none⟩) 4 c1) (serveTo t g s (g - r)).1 ∧ Below (w.heap.size + 1) w1 wr) (fun _ j _ => (intOf j + 1).toNat)
  case atStart => exact ⟨g, Nat.le_refl _, rfl, by rw [Nat.sub_self]; simp [serveTo], by rw [Nat.sub_self]; exact O1.out, Below.refl _ _⟩
  case round =>
    obtain ⟨r, hr, rfl, rfl, hu, hbel⟩ := hrel
    have hsz := hbel.size
    have HB := Lib.hid hbel
    have e2 := E2.out
    rw [← hbel.cell (p := ⟨w.heap.size, 2, none⟩) (show w.heap.size < w.heap.size + 1 by omega)] at e2
    have hwr : w.heap.size < wr.heap.size := by omega
    by_cases hr0 : 0 < r
    · obtain ⟨S, d, hsd⟩ : ∃ S d, serveTo t g s (g - r) = (S, d) := ⟨_, _, rfl⟩
      obtain ⟨hS, hd0, hd1⟩ : StockIn S ∧ 0 ≤ d ∧ d ≤ t := by have := serveTo_in ht.1 hg4 HST.out (g - r) (by omega); rw [hsd] at this; exact this
      rw [hsd] at hu ⊢
      obtain ⟨q, rfl⟩ : ∃ q, r = q + 1 := ⟨r - 1, by omega⟩
      obtain ⟨hx, h5, h6⟩ := hS.at_ (i := q) (by omega)
      generalize S[q]! = x at hx h5 h6
      have HSD := Lib.hid (serveTo_step (by omega) hsd hx)
      obtain ⟨hgw, c0⟩ := hu.int hx
      have f0 := hu.thaw q
      have HU := Lib.hid hu
      clear hu hsd hx hbel
      rw [show ((q + 1 : Nat) : Int) - 1 = q by omega]
      have k5 : (q : Int) < 4 := by omega
      have k6 : (0 : Int) ≤ q := by omega
      have k7 : IntKind.i64.wrap (x - min x (t - d)) = x - min x (t - d) := IntWalk.i64_in _ (by omega)
      have k8 : IntKind.i64.wrap (t - d - min x (t - d)) = t - d - min x (t - d) := IntWalk.i64_in _ (by omega)
      have k9 : IntKind.i64.wrap ((q : Int) - 1) = (q : Int) - 1 := IntWalk.i64_in _ (by omega)
      go_wp2_with (first | (go_at_call 78; refine (l1Least_any _ _ _).mono ?_; rintro e w1 ⟨rfl, rfl⟩))
      go_roundw
      case rel =>
        have hM : min x (t - d) = min (t - d) x := by omega
        rw [hM]
        refine ⟨q, by omega, by go_num, by rw [HSD.out]; go_num, ?_, ?_⟩
        · rw [HSD.out]
          exact HU.out.setInt (by omega) _
        · exact HB.out.setCell (p := ⟨gb, q, none⟩) hgb _
      case measure => simp [intOf]
    · obtain rfl : r = 0 := by omega
      rw [Nat.sub_zero] at hu ⊢
      have k9 : ¬ (0 : Int) ≤ ((0 : Nat) : Int) - 1 := by omega
      have HU := Lib.hid hu
      have hin := (serveTo_in ht.1 hg4 HST.out g (Nat.le_refl _)).2
      generalize hS : (serveTo t g s g).2 = d at *
      have k10 : IntKind.i64.wrap (t - (t - d)) = d := by rw [IntWalk.i64_in _ (by omega)]; omega
      clear hu
      go_wp2
      refine wp_region_gw (by kernel_rfl) (by kernel_rfl) ?_
      repeat (first | go_big_quiet_step ((fail)) | quiet_step ((fail)))
      refine wpQuiet_nil ?_
      rintro _ ⟨pq, rfl⟩
      go_wp2
      go_ret2
      exact ⟨_, by rw [hS]; rfl, (HU.out.lower (b := w.heap.size) (by omega)).past (gw_below _ _ (Nat.le_refl _)) (Nat.le_refl _), bl_gw (B2.out.trans (HB.out.mono (by omega))) pq⟩
def badTons (l : List Int) (i : Nat) : Bool := !(inB l[i]! 0 50000)
def placeI (o : Option Nat) : Int := match o with | some k => k | none => -1
theorem placeI_neg (o : Option Nat) : decide (0 ≤ placeI o) = !o.isNone := by
  cases o with
  | none => rfl
  | some k => simp [placeI]
set_option maxHeartbeats 1000000 in
theorem closTons_any (a : Int) (w : World) :
    Calls Try.prog 80 #[.int .i64 a] w fun x w' => x = .returned (.bool (!(inB a 0 50000))) ∧ w = w' := by
  go_enter Try.func80, Try.ntmps80
  go_wp2_with (first | (go_at_call 52; refine (within_any _ _ _ _).mono ?_; rintro e w1 ⟨rfl, rfl⟩))
  go_ret
  exact ⟨rfl, rfl⟩
set_option maxHeartbeats 4000000 in
theorem indexTons_any (l : List Int) (n : Nat) (hn : l.length = n) (A : Option Addr) (cap : Nat) (w : World) (hl : n ≤ 1048576) (hc : Sl encInt w w.heap.size A l) :
    Calls Try.prog 88 #[.slice A n cap, .func (.func 80) #[] #[]] w fun e w' => e = .returned (.int .i64 (placeI (firstTo (badTons l) l.length))) ∧ Below w.heap.size w w' := by
  have HC := Lib.hid hc; clear hc
  have HN := Lib.hid hn; clear hn
  go_enter Try.func88, Try.ntmps88
  go_wp2
  go_loopw [8] (fun i wr => ∃ k : Nat, k ≤ n ∧ i = .int .i64 k ∧ firstTo (badTons l) k = none ∧ Below w.heap.size w wr) (fun i _ => n - (intOf i).toNat)
  case atStart => exact ⟨0, Nat.zero_le _, rfl, rfl, Below.refl _ _⟩
  case round =>
    obtain ⟨k, hk, rfl, hall, hbel⟩ := hrel
    have HA := Lib.hid hall; clear hall
    have hsz := hbel.size
    by_cases hlt : k < n
    · obtain ⟨b, off, rfl, hb, hcs⟩ := HC.out.int_ (by rw [HN.out]; omega)
      have hx : l[k]? = some (l[k]'(by rw [HN.out]; exact hlt)) := List.getElem?_eq_getElem _
      generalize l[k]'(by rw [HN.out]; exact hlt) = x at hx
      have c0 := hcs k x hx
      clear hcs
      have hbad : badTons l k = !(inB x 0 50000) := by simp [badTons, hx]
      clear hx
      rw [← hbel.cell hb] at c0
      have hbw : b < wr.heap.size := by omega
      have HX := Lib.hid (show badTons l k = true → placeI (firstTo (badTons l) l.length) = k from fun h => by
        simp [firstTo_hit HA.out h l.length (by rw [HN.out]; exact hlt), placeI])
      have HY := Lib.hid (show badTons l k = false → firstTo (badTons l) (k + 1) = none from fun h => firstTo_miss HA.out h)
      have HB := Lib.hid hbad
      clear hbad
      have k1 : (k : Int) < n := by omega
      have k2 : (0 : Int) ≤ (k : Int) := by omega
      rcases Bool.eq_false_or_eq_true (!(inB x 0 50000)) with hq | hq
      · have HQ := Lib.hid hq; clear hq
        go_wp2_with (go_at_call 80; refine (closTons_any _ _).mono ?_; rintro e w1 ⟨rfl, rfl⟩; rw [HQ.out])
        go_ret
        rw [HX.out (by rw [HB.out]; exact HQ.out)]
        exact ⟨rfl, (by repeat (first | assumption | exact Below.refl _ _ | apply bl_gw | apply bl_alloc | apply bl_drewN | apply bl_drew))⟩
      · have HQ := Lib.hid hq; clear hq
        go_wp2_with (go_at_call 80; refine (closTons_any _ _).mono ?_; rintro e w1 ⟨rfl, rfl⟩; rw [HQ.out])
        go_roundw
        case rel => exact ⟨k + 1, by omega, by go_num, HY.out (by rw [HB.out]; exact HQ.out), (by repeat (first | assumption | exact Below.refl _ _ | apply bl_gw | apply bl_alloc | apply bl_drewN | apply bl_drew))⟩
        case measure => simp [intOf]; omega
    · go_wp2
      go_ret
      obtain rfl : k = n := by omega
      refine ⟨?_, hbel⟩
      rw [HN.out, HA.out]
      rfl
set_option maxHeartbeats 1000000 in
theorem containsTons_any (l : List Int) (n : Nat) (hn : l.length = n) (A : Option Addr) (cap : Nat) (w : World) (hl : n ≤ 1048576) (hc : Sl encInt w w.heap.size A l) :
    Calls Try.prog 79 #[.slice A n cap, .func (.func 80) #[] #[]] w fun e w' => e = .returned (.bool (!(firstTo (badTons l) l.length).isNone)) ∧ Below w.heap.size w w' := by
  have HC := Lib.hid hc; clear hc
  have HN := Lib.hid hn; clear hn
  rw [← placeI_neg]
  go_enter Try.func79, Try.ntmps79
  go_wp2_with (go_at_call 88; refine (indexTons_any l n HN.out _ _ _ hl HC.out).mono ?_; rintro e w1 ⟨rfl, hb⟩)
  go_ret
  exact ⟨ret_bool (by simp), hb⟩
def stockOK (s : List Int) : Bool := decide (s.length = 4) && (firstTo (badTons s) s.length).isNone
theorem stockOK_in {s : List Int} (h : stockOK s = true) : StockIn s := by
  simp only [stockOK, Bool.and_eq_true, decide_eq_true_eq, Option.isNone_iff_eq_none] at h
  refine ⟨h.1, fun i x hx => ?_⟩
  have := firstTo_none h.2 i (List.getElem?_eq_some_iff.1 hx).1
  simp only [badTons, List.getElem!_of_getElem? hx, Bool.not_eq_false'] at this
  exact inB_true this
set_option maxRecDepth 4000 in
set_option maxHeartbeats 1000000 in
theorem isStock_any (l : List Int) (n : Nat) (hn : l.length = n) (A : Option Addr) (cap : Nat) (w : World) (hl : n ≤ 1048576) (hc : Sl encInt w w.heap.size A l) :
    Calls Try.prog 58 #[.slice A n cap] w fun e w' => e = .returned (.bool (stockOK l)) ∧ Below w.heap.size w w' := by
  have HC := Lib.hid hc; clear hc
  have HN := Lib.hid hn; clear hn
  by_cases h4 : n = 4
  · have he : stockOK l = (firstTo (badTons l) l.length).isNone := by unfold stockOK; rw [HN.out, decide_eq_true h4]; rfl
    rw [he]
    clear he
    have H4 := Lib.hid h4
    have h5 : ((n : Int) == 4) = true := by rw [h4]; rfl
    clear h4
    go_enter Try.func58, Try.ntmps58
    go_wp2_with (go_at_call 79; refine (containsTons_any l n HN.out _ _ _ hl HC.out).mono ?_; rintro e w1 ⟨rfl, b1⟩)
    go_ret
    exact ⟨ret_bool (by simp), b1⟩
  · have he : stockOK l = false := by unfold stockOK; rw [HN.out, decide_eq_false h4]; rfl
    rw [he]
    clear he
    have h5 : ((n : Int) == 4) = false := by simp; omega
    clear h4
    go_enter Try.func58, Try.ntmps58
    go_wp2
    go_ret
    exact ⟨rfl, Below.refl _ _⟩
set_option maxRecDepth 4000 in
set_option maxHeartbeats 4000000 in
theorem l18Stock_any (l : List Int) (n : Nat) (hn : l.length = n) (A : Option Addr) (cap : Nat) (w : World) (hl : n ≤ 1048576) (hc : Sl encInt w w.heap.size A l) :
    Calls Try.prog 56 #[.slice A n cap] w fun e w' => e = .returned (.bool (stockOK l)) ∧ Below w.heap.size w w' := by
  have HC := Lib.hid hc; clear hc
  have HN := Lib.hid hn; clear hn
  go_enter Try.func56, Try.ntmps56
  go_wp2
  go_loopw [3] (fun i wr => ∃ k : Nat, k ≤ n ∧ i = .int .i64 k ∧ firstTo (badTons l) k = none ∧ Below w.heap.size w wr) (fun i _ => n - (intOf i).toNat)
  case atStart => exact ⟨0, Nat.zero_le _, rfl, rfl, Below.refl _ _⟩
  case round =>
    obtain ⟨k, hk, rfl, hall, hbel⟩ := hrel
    have HA := Lib.hid hall; clear hall
    have hsz := hbel.size
    by_cases hlt : k < n
    · obtain ⟨b, off, rfl, hb, hcs⟩ := HC.out.int_ (by rw [HN.out]; omega)
      have hx : l[k]? = some (l[k]'(by rw [HN.out]; exact hlt)) := List.getElem?_eq_getElem _
      generalize l[k]'(by rw [HN.out]; exact hlt) = x at hx
      have c0 := hcs k x hx
      clear hcs
      have hbad : badTons l k = !(inB x 0 50000) := by simp [badTons, hx]
      clear hx
      rw [← hbel.cell hb] at c0
      have hbw : b < wr.heap.size := by omega
      have HX := Lib.hid (show badTons l k = true → stockOK l = false from fun h => by
        simp [stockOK, firstTo_hit HA.out h l.length (by rw [HN.out]; exact hlt)])
      have HY := Lib.hid (show badTons l k = false → firstTo (badTons l) (k + 1) = none from fun h => firstTo_miss HA.out h)
      have HB := Lib.hid hbad
      clear hbad
      have k1 : (k : Int) < n := by omega
      have k2 : (0 : Int) ≤ (k : Int) := by omega
      rcases sp1 (inB x 0 50000) with hq | hq
      · go_wp2_with (go_at_call 60; refine (l1In_q hq _).mono ?_; rintro e w1 ⟨rfl, rfl⟩)
        go_ret
        rw [HX.out (by rw [HB.out, hq]; rfl)]
        exact ⟨rfl, hbel⟩
      · go_wp2_with (go_at_call 60; refine (l1In_q hq _).mono ?_; rintro e w1 ⟨rfl, rfl⟩)
        go_roundw
        case rel => exact ⟨k + 1, by omega, by go_num, HY.out (by rw [HB.out, hq]; rfl), hbel⟩
        case measure => simp [intOf]; omega
    · go_wp2
      go_ret
      obtain rfl : k = n := by omega
      refine ⟨ret_bool ?_, hbel⟩
      have : stockOK l = decide (k = 4) := by unfold stockOK; rw [HN.out, HA.out]; simp
      rw [this, Bool.eq_iff_iff]
      simp
      omega
def oneOK (s : List Int) (x : Contract) : Bool := stockOK s && contractOK x
def oneS (s : List Int) (x : Contract) : List Int := if oneOK s x then (serveP s x).1 else []
def oneN (s : List Int) (x : Contract) : Int := if oneOK s x then (serveP s x).2 else 0
theorem oneS_length (s : List Int) (x : Contract) : (oneS s x).length ≤ 1000000 := by
  unfold oneS
  split
  · rename_i h
    simp only [oneOK, Bool.and_eq_true] at h
    obtain ⟨_, h2, h3, _⟩ := contractOK_at h.2
    have := (serveTo_in (t := x.tons) (g := x.grade.toNat) (by omega) (by omega) (stockOK_in h.1) x.grade.toNat (Nat.le_refl _)).1.1
    unfold serveP
    omega
  · simp
set_option maxRecDepth 4000 in
set_option maxHeartbeats 4000000 in
theorem impl_ServeOne_any (s : List Int) (n : Nat) (hn : s.length = n) (A : Option Addr) (cap : Nat) (id g t pr fr un fi : Int) (w : World) (hl : n ≤ 1048576) (hc : Sl encInt w w.heap.size A s) :
    Calls Try.prog 24 #[.slice A n cap, .agg #[.int .i64 id, .int .i64 g, .int .i64 t, .int .i64 pr, .int .i64 fr, .int .i64 un, .int .i64 fi]] w fun e w' => ∃ v, e = .returned (.tuple #[v, .int .i64 (oneN s ⟨id, g, t, pr, fr, un, fi⟩), .bool (oneOK s ⟨id, g, t, pr, fr, un, fi⟩)]) ∧ Own encInt w' w.heap.size 3 v (oneS s ⟨id, g, t, pr, fr, un, fi⟩) ∧ Below w.heap.size w w' := by
  have HC := Lib.hid hc; clear hc
  have HN := Lib.hid hn; clear hn
  rcases sp2 (stockOK s) (contractOK ⟨id, g, t, pr, fr, un, fi⟩) with t1 | ⟨t1, t2⟩ | ⟨t1, t2⟩
  · have hq : oneOK s ⟨id, g, t, pr, fr, un, fi⟩ = false := by simp [oneOK, t1]
    rw [oneS, oneN, hq]
    clear hq
    go_enter Try.func24, Try.ntmps24
    go_wp2_with fail
    refine (isStock_any s n HN.out _ _ _ hl (HC.out.past (bl_alloc (Below.refl _ _) _))).mono ?_
    rintro e w1 ⟨rfl, b1⟩
    rw [t1]
    have L0 : w1.cell? ⟨w.heap.size, 0, none⟩ = some (.int .i64 id) := by rw [b1.cell (p := ⟨w.heap.size, 0, none⟩) (by simp)]; simp [go_sem]
    have L1 : w1.cell? ⟨w.heap.size, 1, none⟩ = some (.int .i64 g) := by rw [b1.cell (p := ⟨w.heap.size, 1, none⟩) (by simp)]; simp [go_sem]
    have L2 : w1.cell? ⟨w.heap.size, 2, none⟩ = some (.int .i64 t) := by rw [b1.cell (p := ⟨w.heap.size, 2, none⟩) (by simp)]; simp [go_sem]
    have L3 : w1.cell? ⟨w.heap.size, 3, none⟩ = some (.int .i64 pr) := by rw [b1.cell (p := ⟨w.heap.size, 3, none⟩) (by simp)]; simp [go_sem]
    have L4 : w1.cell? ⟨w.heap.size, 4, none⟩ = some (.int .i64 fr) := by rw [b1.cell (p := ⟨w.heap.size, 4, none⟩) (by simp)]; simp [go_sem]
    have L5 : w1.cell? ⟨w.heap.size, 5, none⟩ = some (.int .i64 un) := by rw [b1.cell (p := ⟨w.heap.size, 5, none⟩) (by simp)]; simp [go_sem]
    have L6 : w1.cell? ⟨w.heap.size, 6, none⟩ = some (.int .i64 fi) := by rw [b1.cell (p := ⟨w.heap.size, 6, none⟩) (by simp)]; simp [go_sem]
    have B1 := Lib.hid (below_step (bl_alloc (Below.refl w.heap.size w) _) b1)
    clear b1
    go_wp2
    go_ret3
    exact ⟨_, rfl, Own.none_, B1.out⟩
  · have hq : oneOK s ⟨id, g, t, pr, fr, un, fi⟩ = false := by simp [oneOK, t2]
    rw [oneS, oneN, hq]
    clear hq
    go_enter Try.func24, Try.ntmps24
    go_wp2_with fail
    refine (isStock_any s n HN.out _ _ _ hl (HC.out.past (bl_alloc (Below.refl _ _) _))).mono ?_
    rintro e w1 ⟨rfl, b1⟩
    rw [t1]
    have L0 : w1.cell? ⟨w.heap.size, 0, none⟩ = some (.int .i64 id) := by rw [b1.cell (p := ⟨w.heap.size, 0, none⟩) (by simp)]; simp [go_sem]
    have L1 : w1.cell? ⟨w.heap.size, 1, none⟩ = some (.int .i64 g) := by rw [b1.cell (p := ⟨w.heap.size, 1, none⟩) (by simp)]; simp [go_sem]
    have L2 : w1.cell? ⟨w.heap.size, 2, none⟩ = some (.int .i64 t) := by rw [b1.cell (p := ⟨w.heap.size, 2, none⟩) (by simp)]; simp [go_sem]
    have L3 : w1.cell? ⟨w.heap.size, 3, none⟩ = some (.int .i64 pr) := by rw [b1.cell (p := ⟨w.heap.size, 3, none⟩) (by simp)]; simp [go_sem]
    have L4 : w1.cell? ⟨w.heap.size, 4, none⟩ = some (.int .i64 fr) := by rw [b1.cell (p := ⟨w.heap.size, 4, none⟩) (by simp)]; simp [go_sem]
    have L5 : w1.cell? ⟨w.heap.size, 5, none⟩ = some (.int .i64 un) := by rw [b1.cell (p := ⟨w.heap.size, 5, none⟩) (by simp)]; simp [go_sem]
    have L6 : w1.cell? ⟨w.heap.size, 6, none⟩ = some (.int .i64 fi) := by rw [b1.cell (p := ⟨w.heap.size, 6, none⟩) (by simp)]; simp [go_sem]
    have B1 := Lib.hid (below_step (bl_alloc (Below.refl w.heap.size w) _) b1)
    clear b1
    go_wp2_with fail
    refine (IsContract_any id g t pr fr un fi _).mono ?_
    rintro e w2 ⟨rfl, b2⟩
    rw [t2]
    have B2 := Lib.hid (below_step B1.out b2)
    clear b2
    go_wp2
    go_ret3
    exact ⟨_, rfl, Own.none_, B2.out⟩
  · have hq : oneOK s ⟨id, g, t, pr, fr, un, fi⟩ = true := by simp [oneOK, t1, t2]
    have HS := stockOK_in t1
    have h4 : n = 4 := by rw [← HN.out]; exact HS.1
    subst h4
    obtain ⟨_, ⟨g1, g4⟩, ht, _⟩ := contractOK_at t2
    dsimp only at g1 g4 ht
    obtain ⟨gg, rfl⟩ : ∃ gg : Nat, g = gg := ⟨g.toNat, by omega⟩
    have hS : oneS s ⟨id, gg, t, pr, fr, un, fi⟩ = (serveTo t gg s gg).1 := by rw [oneS, hq]; rfl
    have hN : oneN s ⟨id, gg, t, pr, fr, un, fi⟩ = (serveTo t gg s gg).2 := by rw [oneN, hq]; rfl
    rw [hS, hN, hq]
    clear hS hN hq
    go_enter Try.func24, Try.ntmps24
    go_wp2_with fail
    refine (isStock_any s 4 HN.out _ _ _ hl (HC.out.past (bl_alloc (Below.refl _ _) _))).mono ?_
    rintro e w1 ⟨rfl, b1⟩
    rw [t1]
    have L0 : w1.cell? ⟨w.heap.size, 0, none⟩ = some (.int .i64 id) := by rw [b1.cell (p := ⟨w.heap.size, 0, none⟩) (by simp)]; simp [go_sem]
    have L1 : w1.cell? ⟨w.heap.size, 1, none⟩ = some (.int .i64 gg) := by rw [b1.cell (p := ⟨w.heap.size, 1, none⟩) (by simp)]; simp [go_sem]
    have L2 : w1.cell? ⟨w.heap.size, 2, none⟩ = some (.int .i64 t) := by rw [b1.cell (p := ⟨w.heap.size, 2, none⟩) (by simp)]; simp [go_sem]
    have L3 : w1.cell? ⟨w.heap.size, 3, none⟩ = some (.int .i64 pr) := by rw [b1.cell (p := ⟨w.heap.size, 3, none⟩) (by simp)]; simp [go_sem]
    have L4 : w1.cell? ⟨w.heap.size, 4, none⟩ = some (.int .i64 fr) := by rw [b1.cell (p := ⟨w.heap.size, 4, none⟩) (by simp)]; simp [go_sem]
    have L5 : w1.cell? ⟨w.heap.size, 5, none⟩ = some (.int .i64 un) := by rw [b1.cell (p := ⟨w.heap.size, 5, none⟩) (by simp)]; simp [go_sem]
    have L6 : w1.cell? ⟨w.heap.size, 6, none⟩ = some (.int .i64 fi) := by rw [b1.cell (p := ⟨w.heap.size, 6, none⟩) (by simp)]; simp [go_sem]
    have B1 := Lib.hid (below_step (bl_alloc (Below.refl w.heap.size w) _) b1)
    have B01 := Lib.hid b1
    clear b1
    go_wp2_with fail
    refine (IsContract_any id gg t pr fr un fi _).mono ?_
    rintro e w2 ⟨rfl, b2⟩
    rw [t2]
    clear L0 L1 L2 L3 L4 L5 L6
    have b02 := below_step B01.out b2
    have L0 : w2.cell? ⟨w.heap.size, 0, none⟩ = some (.int .i64 id) := by rw [b02.cell (p := ⟨w.heap.size, 0, none⟩) (by simp)]; simp [go_sem]
    have L1 : w2.cell? ⟨w.heap.size, 1, none⟩ = some (.int .i64 gg) := by rw [b02.cell (p := ⟨w.heap.size, 1, none⟩) (by simp)]; simp [go_sem]
    have L2 : w2.cell? ⟨w.heap.size, 2, none⟩ = some (.int .i64 t) := by rw [b02.cell (p := ⟨w.heap.size, 2, none⟩) (by simp)]; simp [go_sem]
    have L3 : w2.cell? ⟨w.heap.size, 3, none⟩ = some (.int .i64 pr) := by rw [b02.cell (p := ⟨w.heap.size, 3, none⟩) (by simp)]; simp [go_sem]
    have L4 : w2.cell? ⟨w.heap.size, 4, none⟩ = some (.int .i64 fr) := by rw [b02.cell (p := ⟨w.heap.size, 4, none⟩) (by simp)]; simp [go_sem]
    have L5 : w2.cell? ⟨w.heap.size, 5, none⟩ = some (.int .i64 un) := by rw [b02.cell (p := ⟨w.heap.size, 5, none⟩) (by simp)]; simp [go_sem]
    have L6 : w2.cell? ⟨w.heap.size, 6, none⟩ = some (.int .i64 fi) := by rw [b02.cell (p := ⟨w.heap.size, 6, none⟩) (by simp)]; simp [go_sem]
    have B2 := Lib.hid (below_step B1.out b2)
    clear b2 b02
    go_wp2_with fail
    refine (serve_any s HS _ _ id t pr fr un fi gg _ (by omega) (by omega) (by omega) (HC.out.past B2.out)).mono ?_
    rintro e w3 ⟨v3, rfl, o3, b3⟩
    have B3 := Lib.hid (below_step B2.out b3)
    have O3 := Lib.hid (o3.lower B2.out.size)
    clear o3 b3
    go_wp2
    go_ret3
    exact ⟨_, rfl, O3.out, B3.out⟩
set_option maxRecDepth 4000 in
set_option maxHeartbeats 4000000 in
theorem spec_ServeOne_any (s : List Int) (n : Nat) (hn : s.length = n) (A : Option Addr) (cap : Nat) (id g t pr fr un fi : Int) (w : World) (hl : n ≤ 1048576) (hc : Sl encInt w w.heap.size A s) :
    Calls Try.prog 22 #[.slice A n cap, .agg #[.int .i64 id, .int .i64 g, .int .i64 t, .int .i64 pr, .int .i64 fr, .int .i64 un, .int .i64 fi]] w fun e w' => ∃ v, e = .returned (.tuple #[v, .int .i64 (oneN s ⟨id, g, t, pr, fr, un, fi⟩), .bool (oneOK s ⟨id, g, t, pr, fr, un, fi⟩)]) ∧ Own encInt w' w.heap.size 3 v (oneS s ⟨id, g, t, pr, fr, un, fi⟩) ∧ Below w.heap.size w w' := by
  have HC := Lib.hid hc; clear hc
  have HN := Lib.hid hn; clear hn
  rcases sp2 (stockOK s) (contractOK ⟨id, g, t, pr, fr, un, fi⟩) with t1 | ⟨t1, t2⟩ | ⟨t1, t2⟩
  · have hq : oneOK s ⟨id, g, t, pr, fr, un, fi⟩ = false := by simp [oneOK, t1]
    rw [oneS, oneN, hq]
    clear hq
    go_enter Try.func22, Try.ntmps22
    go_wp2_with fail
    refine (l18Stock_any s n HN.out _ _ _ hl (HC.out.past (bl_alloc (Below.refl _ _) _))).mono ?_
    rintro e w1 ⟨rfl, b1⟩
    rw [t1]
    have L0 : w1.cell? ⟨w.heap.size, 0, none⟩ = some (.int .i64 id) := by rw [b1.cell (p := ⟨w.heap.size, 0, none⟩) (by simp)]; simp [go_sem]
    have L1 : w1.cell? ⟨w.heap.size, 1, none⟩ = some (.int .i64 g) := by rw [b1.cell (p := ⟨w.heap.size, 1, none⟩) (by simp)]; simp [go_sem]
    have L2 : w1.cell? ⟨w.heap.size, 2, none⟩ = some (.int .i64 t) := by rw [b1.cell (p := ⟨w.heap.size, 2, none⟩) (by simp)]; simp [go_sem]
    have L3 : w1.cell? ⟨w.heap.size, 3, none⟩ = some (.int .i64 pr) := by rw [b1.cell (p := ⟨w.heap.size, 3, none⟩) (by simp)]; simp [go_sem]
    have L4 : w1.cell? ⟨w.heap.size, 4, none⟩ = some (.int .i64 fr) := by rw [b1.cell (p := ⟨w.heap.size, 4, none⟩) (by simp)]; simp [go_sem]
    have L5 : w1.cell? ⟨w.heap.size, 5, none⟩ = some (.int .i64 un) := by rw [b1.cell (p := ⟨w.heap.size, 5, none⟩) (by simp)]; simp [go_sem]
    have L6 : w1.cell? ⟨w.heap.size, 6, none⟩ = some (.int .i64 fi) := by rw [b1.cell (p := ⟨w.heap.size, 6, none⟩) (by simp)]; simp [go_sem]
    have B1 := Lib.hid (below_step (bl_alloc (Below.refl w.heap.size w) _) b1)
    clear b1
    go_wp2
    go_ret3
    exact ⟨_, rfl, own0 B1.out.size _, bl_alloc B1.out _⟩
  · have hq : oneOK s ⟨id, g, t, pr, fr, un, fi⟩ = false := by simp [oneOK, t2]
    rw [oneS, oneN, hq]
    clear hq
    go_enter Try.func22, Try.ntmps22
    go_wp2_with fail
    refine (l18Stock_any s n HN.out _ _ _ hl (HC.out.past (bl_alloc (Below.refl _ _) _))).mono ?_
    rintro e w1 ⟨rfl, b1⟩
    rw [t1]
    have L0 : w1.cell? ⟨w.heap.size, 0, none⟩ = some (.int .i64 id) := by rw [b1.cell (p := ⟨w.heap.size, 0, none⟩) (by simp)]; simp [go_sem]
    have L1 : w1.cell? ⟨w.heap.size, 1, none⟩ = some (.int .i64 g) := by rw [b1.cell (p := ⟨w.heap.size, 1, none⟩) (by simp)]; simp [go_sem]
    have L2 : w1.cell? ⟨w.heap.size, 2, none⟩ = some (.int .i64 t) := by rw [b1.cell (p := ⟨w.heap.size, 2, none⟩) (by simp)]; simp [go_sem]
    have L3 : w1.cell? ⟨w.heap.size, 3, none⟩ = some (.int .i64 pr) := by rw [b1.cell (p := ⟨w.heap.size, 3, none⟩) (by simp)]; simp [go_sem]
    have L4 : w1.cell? ⟨w.heap.size, 4, none⟩ = some (.int .i64 fr) := by rw [b1.cell (p := ⟨w.heap.size, 4, none⟩) (by simp)]; simp [go_sem]
    have L5 : w1.cell? ⟨w.heap.size, 5, none⟩ = some (.int .i64 un) := by rw [b1.cell (p := ⟨w.heap.size, 5, none⟩) (by simp)]; simp [go_sem]
    have L6 : w1.cell? ⟨w.heap.size, 6, none⟩ = some (.int .i64 fi) := by rw [b1.cell (p := ⟨w.heap.size, 6, none⟩) (by simp)]; simp [go_sem]
    have B1 := Lib.hid (below_step (bl_alloc (Below.refl w.heap.size w) _) b1)
    clear b1
    go_wp2_with fail
    refine (l18One_any id g t pr fr un fi _).mono ?_
    rintro e w2 ⟨rfl, b2⟩
    rw [t2]
    have B2 := Lib.hid (below_step B1.out b2)
    clear b2
    go_wp2
    go_ret3
    exact ⟨_, rfl, own0 B2.out.size _, bl_alloc B2.out _⟩
  · have hq : oneOK s ⟨id, g, t, pr, fr, un, fi⟩ = true := by simp [oneOK, t1, t2]
    have HS := stockOK_in t1
    have h4 : n = 4 := by rw [← HN.out]; exact HS.1
    subst h4
    obtain ⟨_, ⟨g1, g4⟩, ht, _⟩ := contractOK_at t2
    dsimp only at g1 g4 ht
    obtain ⟨gg, rfl⟩ : ∃ gg : Nat, g = gg := ⟨g.toNat, by omega⟩
    have hS : oneS s ⟨id, gg, t, pr, fr, un, fi⟩ = (serveTo t gg s gg).1 := by rw [oneS, hq]; rfl
    have hN : oneN s ⟨id, gg, t, pr, fr, un, fi⟩ = (serveTo t gg s gg).2 := by rw [oneN, hq]; rfl
    rw [hS, hN, hq]
    clear hS hN hq
    go_enter Try.func22, Try.ntmps22
    go_wp2_with fail
    refine (l18Stock_any s 4 HN.out _ _ _ hl (HC.out.past (bl_alloc (Below.refl _ _) _))).mono ?_
    rintro e w1 ⟨rfl, b1⟩
    rw [t1]
    have L0 : w1.cell? ⟨w.heap.size, 0, none⟩ = some (.int .i64 id) := by rw [b1.cell (p := ⟨w.heap.size, 0, none⟩) (by simp)]; simp [go_sem]
    have L1 : w1.cell? ⟨w.heap.size, 1, none⟩ = some (.int .i64 gg) := by rw [b1.cell (p := ⟨w.heap.size, 1, none⟩) (by simp)]; simp [go_sem]
    have L2 : w1.cell? ⟨w.heap.size, 2, none⟩ = some (.int .i64 t) := by rw [b1.cell (p := ⟨w.heap.size, 2, none⟩) (by simp)]; simp [go_sem]
    have L3 : w1.cell? ⟨w.heap.size, 3, none⟩ = some (.int .i64 pr) := by rw [b1.cell (p := ⟨w.heap.size, 3, none⟩) (by simp)]; simp [go_sem]
    have L4 : w1.cell? ⟨w.heap.size, 4, none⟩ = some (.int .i64 fr) := by rw [b1.cell (p := ⟨w.heap.size, 4, none⟩) (by simp)]; simp [go_sem]
    have L5 : w1.cell? ⟨w.heap.size, 5, none⟩ = some (.int .i64 un) := by rw [b1.cell (p := ⟨w.heap.size, 5, none⟩) (by simp)]; simp [go_sem]
    have L6 : w1.cell? ⟨w.heap.size, 6, none⟩ = some (.int .i64 fi) := by rw [b1.cell (p := ⟨w.heap.size, 6, none⟩) (by simp)]; simp [go_sem]
    have B1 := Lib.hid (below_step (bl_alloc (Below.refl w.heap.size w) _) b1)
    have B01 := Lib.hid b1
    clear b1
    go_wp2_with fail
    refine (l18One_any id gg t pr fr un fi _).mono ?_
    rintro e w2 ⟨rfl, b2⟩
    rw [t2]
    clear L0 L1 L2 L3 L4 L5 L6
    have b02 := below_step B01.out b2
    have L0 : w2.cell? ⟨w.heap.size, 0, none⟩ = some (.int .i64 id) := by rw [b02.cell (p := ⟨w.heap.size, 0, none⟩) (by simp)]; simp [go_sem]
    have L1 : w2.cell? ⟨w.heap.size, 1, none⟩ = some (.int .i64 gg) := by rw [b02.cell (p := ⟨w.heap.size, 1, none⟩) (by simp)]; simp [go_sem]
    have L2 : w2.cell? ⟨w.heap.size, 2, none⟩ = some (.int .i64 t) := by rw [b02.cell (p := ⟨w.heap.size, 2, none⟩) (by simp)]; simp [go_sem]
    have L3 : w2.cell? ⟨w.heap.size, 3, none⟩ = some (.int .i64 pr) := by rw [b02.cell (p := ⟨w.heap.size, 3, none⟩) (by simp)]; simp [go_sem]
    have L4 : w2.cell? ⟨w.heap.size, 4, none⟩ = some (.int .i64 fr) := by rw [b02.cell (p := ⟨w.heap.size, 4, none⟩) (by simp)]; simp [go_sem]
    have L5 : w2.cell? ⟨w.heap.size, 5, none⟩ = some (.int .i64 un) := by rw [b02.cell (p := ⟨w.heap.size, 5, none⟩) (by simp)]; simp [go_sem]
    have L6 : w2.cell? ⟨w.heap.size, 6, none⟩ = some (.int .i64 fi) := by rw [b02.cell (p := ⟨w.heap.size, 6, none⟩) (by simp)]; simp [go_sem]
    have B2 := Lib.hid (below_step B1.out b2)
    clear b2 b02
    go_wp2_with fail
    refine (l18Serve_any s HS _ _ id t pr fr un fi gg _ (by omega) (by omega) (by omega) (HC.out.past B2.out)).mono ?_
    rintro e w3 ⟨v3, rfl, o3, b3⟩
    have B3 := Lib.hid (below_step B2.out b3)
    have O3 := Lib.hid (o3.lower B2.out.size)
    clear o3 b3
    go_wp2
    go_ret3
    exact ⟨_, rfl, O3.out, B3.out⟩
end Go.Proofs.Ytcljfdpjlkaagaa
