/- Pairs by their first number: the program's insertion sort. -/
import Derived.Test.YtcajgadgdjopdaaPos
import Derived.Test.YtcajgadgdjopdaaSet
import Derived.Test.YtcajgadgdjopdaaPair
namespace Go.Proofs.Ytcajgadgdjopdaa
open Go.RowKit
def cheapPP (P S : List Ditch) (k : Nat) (j : Nat) : Bool := decide (P[k]!.src < S[j]!.src)
def insToP (P : List Ditch) : Nat → List Ditch
  | 0 => []
  | k + 1 => insAt (insToP P k) (posDown (cheapPP P (insToP P k) k) k) P[k]!
theorem insToP_length (P : List Ditch) : ∀ k, (insToP P k).length = k
  | 0 => rfl
  | k + 1 => by rw [insToP, insAt_length, insToP_length P k]
def dataCP (P : List Ditch) (i : Nat) : List Ditch := (insToP P i).take P.length ++ P.drop i
def midCP (P : List Ditch) (i j : Nat) : List Ditch := insAt (insToP P i) j P[i]! ++ P.drop (i + 1)
theorem dropCP {P : List Ditch} {i : Nat} (h : i < P.length) : P.drop i = P[i]! :: P.drop (i + 1) := by
  rw [List.drop_eq_getElem_cons h, getElem!_pos P i h]
theorem dataCP_start (P : List Ditch) : dataCP P 1 = P := by
  rcases P with _ | ⟨x, r⟩
  · rfl
  · have e : insToP (x :: r) 1 = [x] := rfl
    unfold dataCP
    rw [e, List.take_of_length_le (by simp)]
    rfl
theorem dataCP_end {P : List Ditch} {i : Nat} (h : P.length ≤ i) (h1 : i = P.length ∨ P.length = 0) : dataCP P i = insToP P P.length := by
  unfold dataCP
  rw [List.drop_eq_nil_of_le h, List.append_nil]
  rcases h1 with rfl | h1
  · rw [List.take_of_length_le (by rw [insToP_length]; exact Nat.le_refl _)]
  · rw [h1]; rfl
theorem dataCP_length {P : List Ditch} {i : Nat} (h : i ≤ P.length) : (dataCP P i).length = P.length := by
  unfold dataCP
  rw [List.length_append, List.length_take, insToP_length, List.length_drop]; omega
theorem midCP_start {P : List Ditch} {i : Nat} (h : i < P.length) : midCP P i i = dataCP P i := by
  unfold midCP dataCP insAt
  rw [List.take_of_length_le (by rw [insToP_length]; exact Nat.le_refl _), List.drop_eq_nil_of_le (by rw [insToP_length]; exact Nat.le_refl _), List.take_of_length_le (by rw [insToP_length]; omega), dropCP h]
  simp
theorem midCP_end {P : List Ditch} {i j : Nat} (h : i < P.length) (hj : posDown (cheapPP P (insToP P i) i) i = j) : midCP P i j = dataCP P (i + 1) := by
  unfold midCP dataCP
  rw [List.take_of_length_le (by rw [insToP_length]; omega), insToP, hj]
theorem midCP_get {P : List Ditch} {i q : Nat} {s : Ditch} (hq : q < i) (hs : (insToP P i)[q]? = some s) :
    (midCP P i (q + 1))[q + 1]? = some P[i]! ∧ (midCP P i (q + 1))[q]? = some s ∧ ((midCP P i (q + 1)).set (q + 1) s).set q P[i]! = midCP P i q := by
  have hl := insToP_length P i
  have ht : (insToP P i).take (q + 1) = (insToP P i).take q ++ [s] := by
    rw [List.take_add_one, hs]; rfl
  have hd : (insToP P i).drop q = s :: (insToP P i).drop (q + 1) := by
    rw [List.drop_eq_getElem_cons (by omega)]
    congr 1
    rw [List.getElem?_eq_getElem (by omega)] at hs
    exact Option.some.inj hs
  have hlt : ((insToP P i).take q).length = q := by rw [List.length_take]; omega
  have e1 : midCP P i (q + 1) = (insToP P i).take q ++ (s :: P[i]! :: ((insToP P i).drop (q + 1) ++ P.drop (i + 1))) := by
    unfold midCP insAt; rw [ht]; simp
  have e2 : midCP P i q = (insToP P i).take q ++ (P[i]! :: s :: ((insToP P i).drop (q + 1) ++ P.drop (i + 1))) := by
    unfold midCP insAt; rw [hd]; simp
  rw [e1, e2]
  refine ⟨?_, ?_, ?_⟩
  · rw [List.getElem?_append_right (by omega), hlt]; simp
  · rw [List.getElem?_append_right (by omega), hlt]; simp
  · rw [List.set_append_right _ _ (by omega), hlt, show q + 1 - q = 1 by omega, List.set_append_right _ _ (by omega), hlt, Nat.sub_self]
    rfl
theorem Own.ditch {w : World} {base g n c i : Nat} {e : TypeId} {l : List Ditch} {x : Ditch} (h : Own encDitch w base e (.slice (some ⟨g, 0, none⟩) n c) l) (hx : l[i]? = some x) :
    g < w.heap.size ∧ w.cell? ⟨g, i * 2, none⟩ = some (.int .i64 x.src) ∧ w.cell? ⟨g, i * 2 + 1, none⟩ = some (.int .i64 x.dst) := by
  obtain ⟨b, off, e', hb, hc⟩ := h.rd.ditch (by have := (List.getElem?_eq_some_iff.1 hx).1; omega)
  injection e' with e'
  injection e' with e1 e2
  subst e1 e2
  have := hc i x hx
  simp only [Nat.zero_add] at this
  exact ⟨hb, this⟩
theorem putP (w : World) (g p : Nat) (a0 a1 : Value) : (w.setCell ⟨g, p * 2, none⟩ a0).setCell ⟨g, p * 2 + 1, none⟩ a1 = putC w g (p * 2) [a0, a1] := rfl
def valsP (y : Ditch) : List Value := [.int .i64 y.src, .int .i64 y.dst]
theorem pair_put {w : World} {base g n c p : Nat} {e : TypeId} {l : List Ditch} (h : Own encDitch w base e (.slice (some ⟨g, 0, none⟩) n c) l) (hp : p < n) (y : Ditch) :
    Own encDitch (putC w g (p * 2) (valsP y)) base e (.slice (some ⟨g, 0, none⟩) n c) (l.set p y) := h.setElem hp y
set_option maxHeartbeats 2000000 in
theorem keyP_q {a b : Ditch} {v : Int} (hv : cmpI a.src b.src = v) (w : World) :
    Calls Try.prog 46 #[.agg #[.int .i64 a.src, .int .i64 a.dst], .agg #[.int .i64 b.src, .int .i64 b.dst]] w fun e w' => e = .returned (.int .i64 v) ∧ Below w.heap.size w w' := by
  subst hv
  go_enter Try.func46, Try.ntmps46
  go_wp2_with (first | (go_at_call 47; refine (cmpInt_any _ _ _).mono ?_; rintro e w1 ⟨rfl, rfl⟩))
  go_ret
  exact ⟨rfl, (by repeat (first | assumption | exact Below.refl _ _ | apply bl_gw | apply bl_alloc | apply bl_drewN | apply bl_drew))⟩
set_option maxRecDepth 4000 in
set_option maxHeartbeats 8000000 in
theorem insSortCP_any (P : List Ditch) (n : Nat) (hn : P.length = n) (A : Option Addr) (B c : Nat) (w : World) (hl : n ≤ 1000) (hB : B ≤ w.heap.size)
    (ho : Own encDitch w B 37 (.slice A n c) P) :
    Calls Try.prog 88 #[.slice A n c, .int .i64 0, .int .i64 n, .func (.func 46) #[] #[]] w fun e w' => (∃ v, e = .returned v) ∧ Own encDitch w' B 37 (.slice A n c) (insToP P n) ∧ Below B w w' := by
  have HN := Lib.hid hn; clear hn
  have ho' : Own encDitch w B 37 (.slice A n c) (dataCP P 1) := by rw [dataCP_start]; exact ho
  clear ho
  have HO := Lib.hid ho'; clear ho'
  go_enter Try.func88, Try.ntmps88
  go_wp2
  go_loopw [8] (fun j wr => ∃ i : Nat, 1 ≤ i ∧ (i ≤ n ∨ n = 0 ∧ i = 1) ∧ j = .int .i64 i ∧ Own encDitch wr B 37 (.slice A n c) (dataCP P i) ∧ Below B w wr ∧ w.heap.size ≤ wr.heap.size) (fun j _ => n - (intOf j).toNat)
  case atStart => exact ⟨1, Nat.le_refl _, by omega, rfl, HO.out, Below.refl _ _, Nat.le_refl _⟩
  case round =>
    obtain ⟨i, hi1, hi2, rfl, ho, hbel, hz⟩ := hrel
    have HO1 := Lib.hid ho
    have HB1 := Lib.hid hbel
    clear ho
    by_cases hlt : i < n
    · have k1 : (i : Int) < n := by omega
      have HLt := Lib.hid (show i < P.length by rw [HN.out]; exact hlt)
      have HOi := Lib.hid ((midCP_start HLt.out).symm ▸ HO1.out)
      obtain ⟨g, rfl⟩ := HO1.out.some_ (show 0 < n by omega)
      have hBg : B ≤ g := HO1.out.lo ⟨g, 0, none⟩ rfl
      go_wp2
      go_loopw [9] (fun j wr => ∃ p : Nat, p ≤ i ∧ j = .int .i64 p ∧ posDown (cheapPP P (insToP P i) i) p = posDown (cheapPP P (insToP P i) i) i ∧ Own encDitch wr B 37 (.slice (some ⟨g, 0, none⟩) n c) (midCP P i p) ∧ Below B w wr ∧ w.heap.size ≤ wr.heap.size) (fun j _ => (intOf j).toNat)
      case atStart => exact ⟨i, Nat.le_refl _, rfl, rfl, HOi.out, hbel, hz⟩
      case round =>
        obtain ⟨p, hp, rfl, hpd, ho2, hb2, hz2⟩ := hrel
        have HPD := Lib.hid hpd
        have HO2 := Lib.hid ho2
        have HB2 := Lib.hid hb2
        have hBw : B ≤ wr.heap.size := by omega
        clear hpd
        rcases (show p = 0 ∨ ∃ q, p = q + 1 from by rcases p with _ | q; exact .inl rfl; exact .inr ⟨q, rfl⟩) with hp0 | ⟨q, hpq⟩
        · have hn0 : decide ((0 : Int) < (p : Int)) = false := decide_eq_false (by omega)
          have hn1 : decide (0 < p) = false := decide_eq_false (by omega)
          have hn2 : ¬ (0 : Int) < p := by omega
          have hn3 : ¬ 0 < p := by omega
          have HE := Lib.hid (midCP_end HLt.out (show posDown (cheapPP P (insToP P i) i) i = p by rw [← HPD.out, hp0]; rfl))
          clear hp0
          go_wp2
          refine wp_region_gw (by kernel_rfl) (by kernel_rfl) ?_
          repeat (first | go_big_quiet_step ((fail)) | quiet_step ((fail)))
          refine wpQuiet_nil ?_
          rintro _ ⟨pq, rfl⟩
          go_wp2
          go_roundw
          case rel => exact ⟨i + 1, by omega, by omega, by go_num, by rw [← HE.out]; exact HO2.out.past (by repeat (first | assumption | exact Below.refl _ _ | apply bl_gw | apply bl_alloc | apply bl_drewN | apply bl_drew)) (Nat.le_refl _), HB2.out.trans ((show Below wr.heap.size wr _ from (by repeat (first | assumption | exact Below.refl _ _ | apply bl_gw | apply bl_alloc | apply bl_drewN | apply bl_drew))).mono hBw), by simp; omega⟩
          case measure => simp [intOf]; omega
        · have hs2 : (insToP P i)[q]? = some ((insToP P i)[q]'(by rw [insToP_length]; omega)) := List.getElem?_eq_getElem _
          generalize (insToP P i)[q]'(by rw [insToP_length]; omega) = s at hs2
          obtain ⟨m1, m2, m3⟩ := midCP_get (P := P) (i := i) (q := q) (by omega) hs2
          rw [← hpq] at m1 m3
          have m2' : (midCP P i p)[q]? = some s := by rw [hpq]; exact m2
          have hla : cheapPP P (insToP P i) i q = decide (P[i]!.src < s.src) := by
            rw [cheapPP, List.getElem!_of_getElem? hs2]
          have hpd2 : posDown (cheapPP P (insToP P i) i) p = if decide (P[i]!.src < s.src) then posDown (cheapPP P (insToP P i) i) q else p := by
            rw [hpq, posDown, hla]
          obtain ⟨x, hxe⟩ : ∃ x, P[i]! = x := ⟨_, rfl⟩
          rw [hxe] at m1 m3 hpd2
          obtain ⟨v, hv⟩ : ∃ v, cmpI x.src s.src = v := ⟨_, rfl⟩
          have hvd := cmpI_neg x.src s.src
          rw [hv] at hvd
          rw [← hvd] at hpd2
          obtain ⟨hgr, c0, c1⟩ := HO2.out.ditch m1
          obtain ⟨_, d0, d1⟩ := HO2.out.ditch m2'
          have e0 := HO2.out.thaw (p * 2); have e1 := HO2.out.thaw (p * 2 + 1)
          have f0 := HO2.out.thaw (q * 2); have f1 := HO2.out.thaw (q * 2 + 1)
          have HPD2 := Lib.hid hpd2
          have HV := Lib.hid hv
          have HM3 := Lib.hid m3
          have HQ1 := Lib.hid (pair_put HO2.out (show p < n by omega) s)
          clear hla hs2 hpd2 hv hvd m1 m2 m2' m3 hxe
          have n0 : decide ((0 : Int) < (p : Int)) = true := decide_eq_true (by omega)
          have n00 : decide (0 < p) = true := decide_eq_true (by omega)
          have n000 : 0 < p := by omega
          have n1 : IntKind.i64.wrap ((p : Int) - 1) = q := by rw [IntWalk.i64_in _ (by omega)]; omega
          have n3 : (q : Int) < n := by omega
          have n4 : (0 : Int) ≤ q := by omega
          have n5 : (p : Int) < n := by omega
          have n6 : (0 : Int) ≤ p := by omega
          have hqi : q + 1 ≤ i := by omega
          have hqn : q < n := by omega
          have HPQ := Lib.hid hpq
          have hpq7 : q * 2 + 2 ≤ p * 2 := by omega
          clear hpq
          rcases sp1 (decide (v < 0)) with t1 | t1
          · have HE := Lib.hid (midCP_end HLt.out (show posDown (cheapPP P (insToP P i) i) i = p by rw [← HPD.out, HPD2.out, t1]; rfl))
            go_wp2
            refine wp_region_gw (by kernel_rfl) (by kernel_rfl) ?_
            repeat (first | go_big_quiet_step ((go_at_call 46; exact quiet_gw (keyP_q (a := x) (b := s) HV.out _))) | quiet_step ((go_at_call 46; exact quiet_gw (keyP_q (a := x) (b := s) HV.out _))))
            refine wpQuiet_nil ?_
            rintro _ ⟨pq, rfl⟩
            go_wp2
            go_roundw
            case rel => exact ⟨i + 1, by omega, by omega, by go_num, by rw [← HE.out]; exact HO2.out.past (by repeat (first | assumption | exact Below.refl _ _ | apply bl_gw | apply bl_alloc | apply bl_drewN | apply bl_drew)) (Nat.le_refl _), HB2.out.trans ((show Below wr.heap.size wr _ from (by repeat (first | assumption | exact Below.refl _ _ | apply bl_gw | apply bl_alloc | apply bl_drewN | apply bl_drew))).mono hBw), by simp; omega⟩
            case measure => simp [intOf]; omega
          · have HPD3 := Lib.hid (show posDown (cheapPP P (insToP P i) i) q = posDown (cheapPP P (insToP P i) i) i by rw [← HPD.out, HPD2.out, t1]; rfl)
            go_wp2
            refine wp_region_gw (by kernel_rfl) (by kernel_rfl) ?_
            repeat (first | go_big_quiet_step ((go_at_call 46; exact quiet_gw (keyP_q (a := x) (b := s) HV.out _))) | quiet_step ((go_at_call 46; exact quiet_gw (keyP_q (a := x) (b := s) HV.out _))))
            refine wpQuiet_nil ?_
            rintro _ ⟨pq, rfl⟩
            go_wp2
            go_region
            go_wp2
            have q2 := pair_put HQ1.out hqn x
            rw [HM3.out] at q2
            have bb := putC_below hBg (valsP x) (q * 2) (putC_below hBg (valsP s) (p * 2) HB2.out)
            have sz : (putC (putC wr g (p * 2) (valsP s)) g (q * 2) (valsP x)).heap.size = wr.heap.size := by rw [putC_size, putC_size]
            simp only [valsP] at q2 bb sz
            rw [putP, putP]
            exact ⟨⟨q, by omega, rfl, HPD3.out, q2.past (gw_below _ _ (Nat.le_refl _)) (Nat.le_refl _), bb.trans (gw_below _ _ (by rw [sz]; exact hBw)), by rw [gw_size, sz]; omega⟩, by simp [intOf, HPQ.out]⟩
    · go_wp2
      go_end0
      exact ⟨⟨_, rfl⟩, by rw [← HN.out, ← dataCP_end (P := P) (show P.length ≤ i by rw [HN.out]; omega) (by rw [HN.out]; omega)]; have := HO1.out; rw [← HN.out] at this; exact this, hbel⟩
end Go.Proofs.Ytcajgadgdjopdaa
