/- Contracts: the program's sort of the indices comes to the reference's order. -/
import Derived.Test.YtcljfdpjlkaagaaOrder
import Derived.Laws.OwnMore
namespace Go.Proofs.Ytcljfdpjlkaagaa
open Go.RowKit
theorem bl_lower {B : Nat} {w wr w' : World} (_ : w.heap.size ≤ wr.heap.size) (hB : B < w.heap.size) (h : Below wr.heap.size wr w') : Below B wr w' := h.mono (by omega)
def cmpI (a b : Int) : Int := if a < b then -1 else if b < a then 1 else 0
set_option maxHeartbeats 1000000 in
theorem cmpInt_any (a b : Int) (w : World) :
    Calls Try.prog 68 #[.int .i64 a, .int .i64 b] w fun e w' => e = .returned (.int .i64 (cmpI a b)) ∧ w = w' := by
  rcases Int.lt_trichotomy a b with h | h | h
  · have e : cmpI a b = -1 := by simp [cmpI, h]
    rw [e]
    go_enter Try.func68, Try.ntmps68
    go_wp2
    go_ret
    exact ⟨rfl, rfl⟩
  · have e : cmpI a b = 0 := by simp [cmpI, h]
    rw [e]
    subst h
    have h1 : ¬ a < a := by omega
    go_enter Try.func68, Try.ntmps68
    go_wp2
    go_ret
    exact ⟨rfl, rfl⟩
  · have h1 : ¬ a < b := by omega
    have e : cmpI a b = 1 := by simp [cmpI, h, h1]
    rw [e]
    go_enter Try.func68, Try.ntmps68
    go_wp2
    go_ret
    exact ⟨rfl, rfl⟩
theorem cmpI_neg (a b : Int) : decide (cmpI a b < 0) = decide (a < b) := by
  unfold cmpI
  split
  · rename_i h; simp [h]
  · rename_i h
    split <;> simp [h]
set_option maxHeartbeats 2000000 in
theorem untilC_q {l : List Contract} {n : Nat} (hn : l.length = n) {A : Option Addr} {cap pb s t : Nat} (hs : s < n) (ht : t < n) {v : Int} (hv : cmpI l[s]!.last l[t]!.last = v) (w : World) (hp : w.cell? ⟨pb, 0, none⟩ = some (.slice A n cap)) (hpb : pb < w.heap.size) (hc : Sl encContract w w.heap.size A l) :
    Calls Try.prog 84 #[.int .i64 s, .int .i64 t, .pointer (some ⟨pb, 0, none⟩)] w fun e w' => e = .returned (.int .i64 v) ∧ Below w.heap.size w w' := by
  obtain ⟨bk, off, rfl, hb, hcs⟩ := hc.contract (by omega)
  have hx : l[s]? = some (l[s]'(by omega)) := List.getElem?_eq_getElem _
  have hy : l[t]? = some (l[t]'(by omega)) := List.getElem?_eq_getElem _
  rw [List.getElem!_of_getElem? hx, List.getElem!_of_getElem? hy] at hv
  have c1 := (hcs s _ hx).2.2.2.2.2.1
  have c2 := (hcs t _ hy).2.2.2.2.2.1
  generalize (l[s]'(by omega)).last = u1 at *
  generalize (l[t]'(by omega)).last = u2 at *
  clear hcs hc hx hy hn
  have k1 : (s : Int) < n := by omega
  have k2 : (0 : Int) ≤ s := by omega
  have k3 : (t : Int) < n := by omega
  have k4 : (0 : Int) ≤ t := by omega
  subst hv
  go_enter Try.func84, Try.ntmps84
  go_wp2
  refine wp_region_gw (by kernel_rfl) (by kernel_rfl) ?_
  repeat (first | go_big_quiet_step ((go_at_call 68; exact quiet_gw_same (cmpInt_any _ _ _))) | quiet_step ((go_at_call 68; exact quiet_gw_same (cmpInt_any _ _ _))))
  refine wpQuiet_nil ?_
  rintro _ ⟨pq, rfl⟩
  go_wp2
  go_ret
  exact ⟨rfl, (by repeat (first | assumption | exact Below.refl _ _ | apply bl_gw | apply bl_alloc | apply bl_drewN | apply bl_drew))⟩
def iota (n : Nat) : List Int := (List.range n).map fun (i : Nat) => (i : Int)
theorem iota_length (n : Nat) : (iota n).length = n := by simp [iota]
theorem iota_get {n i : Nat} (h : i < n) : (iota n)[i]? = some (i : Int) := by simp [iota, List.getElem?_range h]
theorem iota_drop {n i : Nat} (h : i < n) : (iota n).drop i = (i : Int) :: (iota n).drop (i + 1) := by
  rw [List.drop_eq_getElem_cons (by rw [iota_length]; exact h)]
  congr 1
  have := iota_get h
  rw [List.getElem?_eq_getElem (by rw [iota_length]; exact h)] at this
  exact Option.some.inj this
def dataTo (l : List Contract) (n i : Nat) : List Int := (ordTo l i).take n ++ (iota n).drop i
def midD (l : List Contract) (n i j : Nat) : List Int := insAt (ordTo l i) j (i : Int) ++ (iota n).drop (i + 1)
theorem dataTo_start (l : List Contract) (n : Nat) : dataTo l n 1 = iota n := by
  have e : ordTo l 1 = [0] := rfl
  unfold dataTo
  rw [e]
  rcases n with _ | n
  · rfl
  · rw [List.take_of_length_le (by simp)]
    have := iota_drop (n := n + 1) (i := 0) (by omega)
    rw [List.drop_zero] at this
    rw [this]
    rfl
theorem dataTo_end (l : List Contract) {n i : Nat} (h : n ≤ i) (h1 : i = n ∨ n = 0) : dataTo l n i = ordTo l n := by
  unfold dataTo
  rw [List.drop_eq_nil_of_le (by rw [iota_length]; exact h), List.append_nil]
  rcases h1 with rfl | rfl
  · rw [List.take_of_length_le (by rw [ordTo_length]; exact Nat.le_refl _)]
  · rfl
theorem midD_start (l : List Contract) {n i : Nat} (h : i < n) : midD l n i i = dataTo l n i := by
  unfold midD dataTo insAt
  rw [List.take_of_length_le (by rw [ordTo_length]; exact Nat.le_refl _), List.drop_eq_nil_of_le (by rw [ordTo_length]; exact Nat.le_refl _), List.take_of_length_le (by rw [ordTo_length]; omega), iota_drop h]
  simp
theorem midD_end (l : List Contract) {n i j : Nat} (h : i < n) (hj : posDown (laterP l (ordTo l i) i) i = j) : midD l n i j = dataTo l n (i + 1) := by
  unfold midD dataTo
  rw [List.take_of_length_le (by rw [ordTo_length]; omega), ordTo, hj]
theorem midD_length (l : List Contract) {n i j : Nat} (h : i < n) : (midD l n i j).length = n := by
  unfold midD
  rw [List.length_append, insAt_length, ordTo_length, List.length_drop, iota_length]
  omega
theorem midD_get (l : List Contract) (n : Nat) {i q : Nat} {s : Int} (hq : q < i) (hs : (ordTo l i)[q]? = some s) :
    (midD l n i (q + 1))[q + 1]? = some (i : Int) ∧ (midD l n i (q + 1))[q]? = some s ∧ ((midD l n i (q + 1)).set (q + 1) s).set q (i : Int) = midD l n i q := by
  have hl := ordTo_length l i
  have ht : (ordTo l i).take (q + 1) = (ordTo l i).take q ++ [s] := by
    rw [List.take_add_one, hs]; rfl
  have hd : (ordTo l i).drop q = s :: (ordTo l i).drop (q + 1) := by
    rw [List.drop_eq_getElem_cons (by omega)]
    congr 1
    rw [List.getElem?_eq_getElem (by omega)] at hs
    exact Option.some.inj hs
  have hlt : ((ordTo l i).take q).length = q := by rw [List.length_take]; omega
  have e1 : midD l n i (q + 1) = (ordTo l i).take q ++ (s :: (i : Int) :: ((ordTo l i).drop (q + 1) ++ (iota n).drop (i + 1))) := by
    unfold midD insAt; rw [ht]; simp
  have e2 : midD l n i q = (ordTo l i).take q ++ ((i : Int) :: s :: ((ordTo l i).drop (q + 1) ++ (iota n).drop (i + 1))) := by
    unfold midD insAt; rw [hd]; simp
  rw [e1, e2]
  refine ⟨?_, ?_, ?_⟩
  · rw [List.getElem?_append_right (by omega), hlt]; simp
  · rw [List.getElem?_append_right (by omega), hlt]; simp
  · rw [List.set_append_right _ _ (by omega), hlt, show q + 1 - q = 1 by omega, List.set_append_right _ _ (by omega), hlt, Nat.sub_self]
    rfl
set_option maxRecDepth 4000 in
set_option maxHeartbeats 8000000 in
theorem insSortI_any (l : List Contract) (n : Nat) (hn : l.length = n) (A : Option Addr) (cap pb g c : Nat) (w : World) (hl : n ≤ 1000) (hpb : pb < g) (hp : w.cell? ⟨pb, 0, none⟩ = some (.slice A n cap)) (hc : Sl encContract w g A l)
    (ho : Own encInt w g 3 (.slice (some ⟨g, 0, none⟩) n c) (iota n)) :
    Calls Try.prog 94 #[.slice (some ⟨g, 0, none⟩) n c, .int .i64 0, .int .i64 n, .func (.func 84) #[] #[.pointer (some ⟨pb, 0, none⟩)]] w fun e w' => (∃ v, e = .returned v) ∧ Own encInt w' g 3 (.slice (some ⟨g, 0, none⟩) n c) (ordTo l n) ∧ Below g w w' := by
  have HC := Lib.hid hc; clear hc
  have HN := Lib.hid hn; clear hn
  have HP := Lib.hid hp; clear hp
  have hgw : g < w.heap.size := ho.hi ⟨g, 0, none⟩ rfl
  rw [← dataTo_start l] at ho
  have HO := Lib.hid ho; clear ho
  go_enter Try.func94, Try.ntmps94
  go_wp2
  go_loopw [8] (fun j wr => ∃ i : Nat, 1 ≤ i ∧ (i ≤ n ∨ n = 0 ∧ i = 1) ∧ j = .int .i64 i ∧ Own encInt wr g 3 (.slice (some ⟨g, 0, none⟩) n c) (dataTo l n i) ∧ Below g w wr ∧ w.heap.size ≤ wr.heap.size) (fun j _ => n - (intOf j).toNat)
  case atStart => exact ⟨1, Nat.le_refl _, by omega, rfl, HO.out, Below.refl _ _, Nat.le_refl _⟩
  case round =>
    obtain ⟨i, hi1, hi2, rfl, ho, hbel, hz⟩ := hrel
    have HO1 := Lib.hid ho
    have HB1 := Lib.hid hbel
    clear ho
    by_cases hlt : i < n
    · have k1 : (i : Int) < n := by omega
      have HOi := Lib.hid ((midD_start l hlt).symm ▸ HO1.out)
      have HSS := Lib.hid (show ∀ j : Nat, j < i → ∃ q : Nat, q < i ∧ (ordTo l i)[j]? = some (q : Int) from fun j hj => ordTo_at hj)
      go_wp2
      go_loopw [9] (fun j wr => ∃ p : Nat, p ≤ i ∧ j = .int .i64 p ∧ posDown (laterP l (ordTo l i) i) p = posDown (laterP l (ordTo l i) i) i ∧ Own encInt wr g 3 (.slice (some ⟨g, 0, none⟩) n c) (midD l n i p) ∧ Below g w wr ∧ w.heap.size ≤ wr.heap.size) (fun j _ => (intOf j).toNat)
      case atStart => exact ⟨i, Nat.le_refl _, rfl, rfl, HOi.out, hbel, hz⟩
      case round =>
        obtain ⟨p, hp, rfl, hpd, ho2, hb2, hz2⟩ := hrel
        have HPD := Lib.hid hpd
        have HO2 := Lib.hid ho2
        have HB2 := Lib.hid hb2
        clear hpd
        rcases (show p = 0 ∨ ∃ q, p = q + 1 from by rcases p with _ | q; exact .inl rfl; exact .inr ⟨q, rfl⟩) with hp0 | ⟨q, hpq⟩
        · have hn0 : decide ((0 : Int) < (p : Int)) = false := decide_eq_false (by omega)
          have hn1 : decide (0 < p) = false := decide_eq_false (by omega)
          have hn2 : ¬ (0 : Int) < p := by omega
          have hn3 : ¬ 0 < p := by omega
          have HE := Lib.hid (midD_end l hlt (show posDown (laterP l (ordTo l i) i) i = p by rw [← HPD.out, hp0]; rfl))
          clear hp0
          go_wp2
          refine wp_region_gw (by kernel_rfl) (by kernel_rfl) ?_
          repeat (first | go_big_quiet_step ((fail)) | quiet_step ((fail)))
          refine wpQuiet_nil ?_
          rintro _ ⟨pq, rfl⟩
          go_wp2
          go_roundw
          case rel => exact ⟨i + 1, by omega, by omega, by go_num, by rw [← HE.out]; exact HO2.out.past (by repeat (first | assumption | exact Below.refl _ _ | apply bl_gw | apply bl_alloc | apply bl_drewN | apply bl_drew)) (Nat.le_refl _), HB2.out.trans (show Below g _ _ from bl_lower hz2 hgw (by repeat (first | assumption | exact Below.refl _ _ | apply bl_gw | apply bl_alloc | apply bl_drewN | apply bl_drew))), by simp; omega⟩
          case measure => simp [intOf]; omega
        · obtain ⟨s, hs1, hs2⟩ := HSS.out q (by omega)
          obtain ⟨m1, m2, m3⟩ := midD_get l n (i := i) (q := q) (by omega) hs2
          rw [← hpq] at m1 m3
          have m2' : (midD l n i p)[q]? = some (s : Int) := by rw [hpq]; exact m2
          obtain ⟨hgr, c1⟩ := HO2.out.int m1
          obtain ⟨_, c2⟩ := HO2.out.int m2'
          have f1 := HO2.out.thaw p
          have f2 := HO2.out.thaw q
          have hla : laterP l (ordTo l i) i q = decide (l[i]!.last < l[s]!.last) := by
            rw [laterP, List.getElem!_of_getElem? hs2, Int.toNat_natCast]
          have hpd2 : posDown (laterP l (ordTo l i) i) p = if decide (l[i]!.last < l[s]!.last) then posDown (laterP l (ordTo l i) i) q else p := by
            rw [hpq, posDown, hla]
          obtain ⟨v, hv⟩ : ∃ v, cmpI l[i]!.last l[s]!.last = v := ⟨_, rfl⟩
          have hvd := cmpI_neg l[i]!.last l[s]!.last
          rw [hv] at hvd
          rw [← hvd] at hpd2
          have HPD2 := Lib.hid hpd2
          have HV := Lib.hid hv
          have HM3 := Lib.hid m3
          have hcp := HP.out
          rw [← hb2.cell (p := ⟨pb, 0, none⟩) hpb] at hcp
          have HCP := Lib.hid hcp
          have HCw := Lib.hid ((HC.out.below hb2).more (show g ≤ wr.heap.size by omega))
          have hpbw : pb < wr.heap.size := by omega
          have hsn : s < n := by omega
          clear hla hs2 hpd2 hv hvd m1 m2 m2' m3 hcp
          have n0 : decide ((0 : Int) < (p : Int)) = true := decide_eq_true (by omega)
          have n00 : decide (0 < p) = true := decide_eq_true (by omega)
          have n000 : 0 < p := by omega
          have n1 : IntKind.i64.wrap ((p : Int) - 1) = q := by rw [IntWalk.i64_in _ (by omega)]; omega
          have n3 : (q : Int) < n := by omega
          have n4 : (0 : Int) ≤ q := by omega
          have n5 : (p : Int) < n := by omega
          have n6 : (0 : Int) ≤ p := by omega
          have hqi : q + 1 ≤ i := by omega
          have hpqn : ¬ p = q := by omega
          have hqpn : ¬ q = p := by omega
          have HPQ := Lib.hid hpq
          clear hpq
          rcases sp1 (decide (v < 0)) with t1 | t1
          · have HE := Lib.hid (midD_end l hlt (show posDown (laterP l (ordTo l i) i) i = p by rw [← HPD.out, HPD2.out, t1]; rfl))
            go_wp2
            refine wp_region_gw (by kernel_rfl) (by kernel_rfl) ?_
            repeat (first | go_big_quiet_step ((go_at_call 84; exact quiet_gw (untilC_q HN.out hlt hsn HV.out _ (((show Below wr.heap.size wr _ from (by repeat (first | assumption | exact Below.refl _ _ | apply bl_gw | apply bl_alloc | apply bl_drewN | apply bl_drew))).cell (p := ⟨pb, 0, none⟩) hpbw).trans HCP.out) (by simp; omega) (HCw.out.past (by repeat (first | assumption | exact Below.refl _ _ | apply bl_gw | apply bl_alloc | apply bl_drewN | apply bl_drew)))))) | quiet_step ((go_at_call 84; exact quiet_gw (untilC_q HN.out hlt hsn HV.out _ (((show Below wr.heap.size wr _ from (by repeat (first | assumption | exact Below.refl _ _ | apply bl_gw | apply bl_alloc | apply bl_drewN | apply bl_drew))).cell (p := ⟨pb, 0, none⟩) hpbw).trans HCP.out) (by simp; omega) (HCw.out.past (by repeat (first | assumption | exact Below.refl _ _ | apply bl_gw | apply bl_alloc | apply bl_drewN | apply bl_drew)))))))
            refine wpQuiet_nil ?_
            rintro _ ⟨pq, rfl⟩
            go_wp2
            go_roundw
            case rel => exact ⟨i + 1, by omega, by omega, by go_num, by rw [← HE.out]; exact HO2.out.past (by repeat (first | assumption | exact Below.refl _ _ | apply bl_gw | apply bl_alloc | apply bl_drewN | apply bl_drew)) (Nat.le_refl _), HB2.out.trans (show Below g _ _ from bl_lower hz2 hgw (by repeat (first | assumption | exact Below.refl _ _ | apply bl_gw | apply bl_alloc | apply bl_drewN | apply bl_drew))), by simp; omega⟩
            case measure => simp [intOf]; omega
          · have HPD3 := Lib.hid (show posDown (laterP l (ordTo l i) i) q = posDown (laterP l (ordTo l i) i) i by rw [← HPD.out, HPD2.out, t1]; rfl)
            go_wp2
            refine wp_region_gw (by kernel_rfl) (by kernel_rfl) ?_
            repeat (first | go_big_quiet_step ((go_at_call 84; exact quiet_gw (untilC_q HN.out hlt hsn HV.out _ (((show Below wr.heap.size wr _ from (by repeat (first | assumption | exact Below.refl _ _ | apply bl_gw | apply bl_alloc | apply bl_drewN | apply bl_drew))).cell (p := ⟨pb, 0, none⟩) hpbw).trans HCP.out) (by simp; omega) (HCw.out.past (by repeat (first | assumption | exact Below.refl _ _ | apply bl_gw | apply bl_alloc | apply bl_drewN | apply bl_drew)))))) | quiet_step ((go_at_call 84; exact quiet_gw (untilC_q HN.out hlt hsn HV.out _ (((show Below wr.heap.size wr _ from (by repeat (first | assumption | exact Below.refl _ _ | apply bl_gw | apply bl_alloc | apply bl_drewN | apply bl_drew))).cell (p := ⟨pb, 0, none⟩) hpbw).trans HCP.out) (by simp; omega) (HCw.out.past (by repeat (first | assumption | exact Below.refl _ _ | apply bl_gw | apply bl_alloc | apply bl_drewN | apply bl_drew)))))))
            refine wpQuiet_nil ?_
            rintro _ ⟨pq, rfl⟩
            go_wp2
            go_region
            go_wp2
            refine ⟨⟨q, by omega, rfl, HPD3.out, ?_, ?_, ?_⟩, by simp [intOf, HPQ.out]⟩
            · have q1 := (HO2.out.setInt (i := p) (by omega) (s : Int)).setInt (i := q) (by omega) (i : Int)
              rw [HM3.out] at q1
              exact q1.past (gw_below _ _ (Nat.le_refl _)) (Nat.le_refl _)
            · exact ((HB2.out.setCell (p := ⟨g, p, none⟩) (Nat.le_refl _) _).setCell (p := ⟨g, q, none⟩) (Nat.le_refl _) _).trans (gw_below _ _ (by simp [World.setCell]; omega))
            · simp [World.setCell]; omega
    · go_wp2
      go_end0
      exact ⟨⟨_, rfl⟩, by rw [← dataTo_end l (show n ≤ i by omega) (by omega)]; exact HO1.out, hbel⟩
set_option maxRecDepth 4000 in
set_option maxHeartbeats 8000000 in
theorem stableI_any (l : List Contract) (n : Nat) (hn : l.length = n) (A : Option Addr) (cap pb g c : Nat) (w : World) (hl : n ≤ 10) (hpb : pb < g) (hp : w.cell? ⟨pb, 0, none⟩ = some (.slice A n cap)) (hc : Sl encContract w g A l)
    (ho : Own encInt w g 3 (.slice (some ⟨g, 0, none⟩) n c) (iota n)) :
    Calls Try.prog 91 #[.slice (some ⟨g, 0, none⟩) n c, .int .i64 n, .func (.func 84) #[] #[.pointer (some ⟨pb, 0, none⟩)]] w fun e w' => (∃ v, e = .returned v) ∧ Own encInt w' g 3 (.slice (some ⟨g, 0, none⟩) n c) (ordTo l n) ∧ Below g w w' := by
  have h20 : ¬ (20 : Int) ≤ n := by omega
  have h21 : ¬ (20 : Int) < n := by omega
  have HC := Lib.hid hc; clear hc
  have HN := Lib.hid hn; clear hn
  have HP := Lib.hid hp; clear hp
  have HO := Lib.hid ho; clear ho
  go_enter Try.func91, Try.ntmps91
  go_wp2
  go_loopw [7, 8] (fun a b wr => a = .int .i64 0 ∧ b = .int .i64 20 ∧ wr = w) (fun _ _ _ => 0)
  case atStart => exact ⟨rfl, rfl, rfl⟩
  case round =>
    obtain ⟨rfl, rfl, rfl⟩ := hrel
    go_wp2_with fail
    refine (insSortI_any l n HN.out A cap pb g c _ (by omega) hpb HP.out HC.out HO.out).mono ?_
    rintro e w1 ⟨⟨v, rfl⟩, o1, b1⟩
    have O1 := Lib.hid o1
    have B1 := Lib.hid b1
    clear o1 b1
    go_wp2
    go_loopw [6] (fun a wr => a = .int .i64 20 ∧ wr = w1) (fun _ _ => 0)
    case atStart => exact ⟨rfl, rfl⟩
    case round =>
      obtain ⟨rfl, rfl⟩ := hrel
      go_wp2
      go_end0
      exact ⟨⟨_, rfl⟩, O1.out, B1.out⟩
set_option maxRecDepth 4000 in
set_option maxHeartbeats 8000000 in
theorem sortStableI_any (l : List Contract) (n : Nat) (hn : l.length = n) (A : Option Addr) (cap pb g c : Nat) (w : World) (hl : n ≤ 10) (hpb : pb < g) (hp : w.cell? ⟨pb, 0, none⟩ = some (.slice A n cap)) (hc : Sl encContract w g A l)
    (ho : Own encInt w g 3 (.slice (some ⟨g, 0, none⟩) n c) (iota n)) :
    Calls Try.prog 83 #[.slice (some ⟨g, 0, none⟩) n c, .func (.func 84) #[] #[.pointer (some ⟨pb, 0, none⟩)]] w fun e w' => (∃ v, e = .returned v) ∧ Own encInt w' g 3 (.slice (some ⟨g, 0, none⟩) n c) (ordTo l n) ∧ Below g w w' := by
  go_enter Try.func83, Try.ntmps83
  go_wp2_with fail
  refine (stableI_any l n hn A cap pb g c _ hl hpb hp hc ho).mono ?_
  rintro e w1 ⟨⟨v, rfl⟩, o1, b1⟩
  go_wp2
  go_end0
  exact ⟨⟨_, rfl⟩, o1, b1⟩
theorem own_made {w : World} {base g n : Nat} {e : TypeId} (h : w.ownsRow base e 1 (.slice (some ⟨g, 0, none⟩) n n) n (madeCells (Value.int .i64 0).cells (n * 1)).toList) : Own encInt w base e (.slice (some ⟨g, 0, none⟩) n n) (List.replicate n 0) := by
  unfold Own
  have e1 : flat encInt (List.replicate n 0) = (madeCells (Value.int .i64 0).cells (n * 1)).toList := by
    rw [show (Value.int .i64 0).cells = #[.int .i64 0] from rfl, toList_madeCells_one]
    simp [flat, encInt, List.flatMap_replicate]
  rw [e1, List.length_replicate]
  exact h
def fillI (n k : Nat) : List Int := (iota n).take k ++ List.replicate (n - k) 0
theorem fillI_zero (n : Nat) : fillI n 0 = List.replicate n 0 := by simp [fillI]
theorem fillI_end (n : Nat) : fillI n n = iota n := by
  unfold fillI
  rw [List.take_of_length_le (by rw [iota_length]; exact Nat.le_refl _), Nat.sub_self]
  simp
theorem fillI_set {n k : Nat} (h : k < n) : (fillI n k).set k (k : Int) = fillI n (k + 1) := by
  have ht : (iota n).take (k + 1) = (iota n).take k ++ [(k : Int)] := by
    rw [List.take_add_one, iota_get h]; rfl
  have hlt : ((iota n).take k).length = k := by rw [List.length_take, iota_length]; omega
  unfold fillI
  rw [ht, List.set_append_right _ _ (by omega), hlt, Nat.sub_self, show n - k = (n - (k + 1)) + 1 by omega, List.replicate_succ]
  simp
theorem fillI_length {n k : Nat} (h : k ≤ n) : (fillI n k).length = n := by
  unfold fillI
  rw [List.length_append, List.length_take, iota_length, List.length_replicate]; omega
set_option maxRecDepth 4000 in
set_option maxHeartbeats 8000000 in
theorem byUntil_any (l : List Contract) (n : Nat) (hn : l.length = n) (A : Option Addr) (cap : Nat) (w : World) (hl : n ≤ 10) (hc : Sl encContract w w.heap.size A l) :
    Calls Try.prog 71 #[.slice A n cap] w fun e w' => ∃ v, e = .returned v ∧ Own encInt w' w.heap.size 3 v (ordTo l n) ∧ Below w.heap.size w w' := by
  have HC := Lib.hid hc; clear hc
  obtain ⟨i0, hinf, hz0, hz1, hz2⟩ := info_parts info_Int
  go_enter Try.func71, Try.ntmps71
  go_wp2_with (at_make; refine halt ?_)
  unfold Halt
  obtain ⟨W0, hW0⟩ : ∃ W0, w.alloc (.cells #[.slice A n cap] 31) = W0 := ⟨_, rfl⟩
  have hz : W0.heap.size = w.heap.size + 1 := by rw [← hW0]; simp
  have hb0 : Below w.heap.size w W0 := by rw [← hW0]; exact (by repeat (first | assumption | exact Below.refl _ _ | apply bl_gw | apply bl_alloc | apply bl_drewN | apply bl_drew))
  have hp0 : W0.cell? ⟨w.heap.size, 0, none⟩ = some (.slice A n cap) := by rw [← hW0]; simp [go_sem]
  rw [hW0]
  clear hW0
  refine wpList_make_full _ rfl (.tmp 6) (.tmp 6) 35 rfl W0.heap.size 3 i0 _ 1 Try.underlying35 hinf hz0 hz1 .i64 .i64 _ _ n rfl rfl rfl rfl (by rw [hz2]; omega) (by unfold maxLen; omega) (Nat.le_refl _) ?_
  intro w2 hown hg1
  have hb2 : Below W0.heap.size W0 w2 := (Below.refl _ _).grown hg1 (Nat.le_refl _) (by intro k hk; cases hk)
  have o2 := own_made hown
  rw [← fillI_zero] at o2
  rw [hz] at o2 ⊢
  have O2 := Lib.hid o2
  have HB2 := Lib.hid (hz ▸ hb2)
  have HB0 := Lib.hid hb0
  have HP0 := Lib.hid hp0
  clear o2 hown hg1 hb2 hp0
  go_wp2
  go_loopw [10] (fun j wr => ∃ k : Nat, k ≤ n ∧ j = .int .i64 k ∧ Own encInt wr (w.heap.size + 1) 3 (.slice (some ⟨w.heap.size + 1, 0, none⟩) n n) (fillI n k) ∧ Below (w.heap.size + 1) W0 wr) (fun j _ => n - (intOf j).toNat)
  case atStart => exact ⟨0, Nat.zero_le _, rfl, O2.out, HB2.out⟩
  case round =>
    obtain ⟨k, hk, rfl, ho, hbel⟩ := hrel
    have HO := Lib.hid ho
    have HB := Lib.hid hbel
    by_cases hlt : k < n
    · have k1 : (k : Int) < n := by omega
      have k2 : (0 : Int) ≤ k := by omega
      have hx : (fillI n k)[k]? = some ((fillI n k)[k]'(by rw [fillI_length hk]; exact hlt)) := List.getElem?_eq_getElem _
      obtain ⟨hgw, c0⟩ := ho.int hx
      have f0 := ho.thaw k
      clear ho hx
      go_wp2
      go_roundw
      case rel => exact ⟨k + 1, by omega, by go_num, by rw [← fillI_set hlt]; exact HO.out.setInt hlt _, HB.out.setCell (p := ⟨w.heap.size + 1, k, none⟩) (Nat.le_refl _) _⟩
      case measure => simp [intOf]; omega
    · obtain rfl : k = n := by omega
      rw [fillI_end] at ho
      go_wp2_with fail
      refine (sortStableI_any l k hn A cap w.heap.size (w.heap.size + 1) k _ hl (by omega) ((hbel.cell (p := ⟨w.heap.size, 0, none⟩) (by simp)).trans HP0.out) ((HC.out.below HB0.out).below (hbel.mono (by omega)) |>.more (by omega)) ho).mono ?_
      rintro e w3 ⟨⟨v, rfl⟩, o3, b3⟩
      have O3 := Lib.hid o3
      have B3 := Lib.hid (HB.out.trans b3)
      clear o3 b3
      go_wp2
      go_ret
      exact ⟨_, rfl, O3.out.lower (by omega), HB0.out.trans (B3.out.mono (by omega))⟩
end Go.Proofs.Ytcljfdpjlkaagaa
