/- Contracts: the order by price, and its sort in the program. -/
import Derived.Test.YtcljfdpjlkaagaaDoorSortI
namespace Go.Proofs.YtcljfdpjlkaagaaDoor
open Go.RowKit
def cheapP (P S : List Contract) (k : Nat) (j : Nat) : Bool := decide (S[j]!.price < P[k]!.price)
def insTo (P : List Contract) : Nat → List Contract
  | 0 => []
  | k + 1 => insAt (insTo P k) (posDown (cheapP P (insTo P k) k) k) P[k]!
theorem insTo_length (P : List Contract) : ∀ k, (insTo P k).length = k
  | 0 => rfl
  | k + 1 => by rw [insTo, insAt_length, insTo_length P k]
theorem posDown_congr {p q : Nat → Bool} : ∀ {k : Nat}, (∀ j, j < k → p j = q j) → posDown p k = posDown q k
  | 0, _ => rfl
  | k + 1, h => by
    unfold posDown
    rw [h k (by omega), posDown_congr (fun j hj => h j (by omega))]
theorem insTo_app (P : List Contract) (x : Contract) : ∀ k, k ≤ P.length → insTo (P ++ [x]) k = insTo P k
  | 0, _ => rfl
  | k + 1, hk => by
    have e : (P ++ [x])[k]! = P[k]! := by
      rw [List.getElem!_eq_getElem?_getD, List.getElem!_eq_getElem?_getD, List.getElem?_append_left (by omega)]
    rw [insTo, insTo, insTo_app P x k (by omega)]
    unfold cheapP
    rw [e]
theorem insTo_snoc (P : List Contract) (x : Contract) : insTo (P ++ [x]) (P.length + 1) = insAt (insTo P P.length) (posDown (fun j => decide ((insTo P P.length)[j]!.price < x.price)) P.length) x := by
  have e : (P ++ [x])[P.length]! = x := by
    rw [List.getElem!_eq_getElem?_getD, List.getElem?_append_right (Nat.le_refl _)]; simp
  rw [insTo, insTo_app P x _ (Nat.le_refl _)]
  unfold cheapP
  rw [e]
def dataC (P : List Contract) (i : Nat) : List Contract := (insTo P i).take P.length ++ P.drop i
def midC (P : List Contract) (i j : Nat) : List Contract := insAt (insTo P i) j P[i]! ++ P.drop (i + 1)
theorem dropC {P : List Contract} {i : Nat} (h : i < P.length) : P.drop i = P[i]! :: P.drop (i + 1) := by
  rw [List.drop_eq_getElem_cons h, getElem!_pos P i h]
theorem dataC_start (P : List Contract) : dataC P 1 = P := by
  rcases P with _ | ⟨x, r⟩
  · rfl
  · have e : insTo (x :: r) 1 = [x] := rfl
    unfold dataC
    rw [e, List.take_of_length_le (by simp)]
    rfl
theorem dataC_end {P : List Contract} {i : Nat} (h : P.length ≤ i) (h1 : i = P.length ∨ P.length = 0) : dataC P i = insTo P P.length := by
  unfold dataC
  rw [List.drop_eq_nil_of_le h, List.append_nil]
  rcases h1 with rfl | h1
  · rw [List.take_of_length_le (by rw [insTo_length]; exact Nat.le_refl _)]
  · rw [h1]; rfl
theorem dataC_length {P : List Contract} {i : Nat} (h : i ≤ P.length) : (dataC P i).length = P.length := by
  unfold dataC
  rw [List.length_append, List.length_take, insTo_length, List.length_drop]; omega
theorem midC_start {P : List Contract} {i : Nat} (h : i < P.length) : midC P i i = dataC P i := by
  unfold midC dataC insAt
  rw [List.take_of_length_le (by rw [insTo_length]; exact Nat.le_refl _), List.drop_eq_nil_of_le (by rw [insTo_length]; exact Nat.le_refl _), List.take_of_length_le (by rw [insTo_length]; omega), dropC h]
  simp
theorem midC_end {P : List Contract} {i j : Nat} (h : i < P.length) (hj : posDown (cheapP P (insTo P i) i) i = j) : midC P i j = dataC P (i + 1) := by
  unfold midC dataC
  rw [List.take_of_length_le (by rw [insTo_length]; omega), insTo, hj]
theorem midC_get {P : List Contract} {i q : Nat} {s : Contract} (hq : q < i) (hs : (insTo P i)[q]? = some s) :
    (midC P i (q + 1))[q + 1]? = some P[i]! ∧ (midC P i (q + 1))[q]? = some s ∧ ((midC P i (q + 1)).set (q + 1) s).set q P[i]! = midC P i q := by
  have hl := insTo_length P i
  have ht : (insTo P i).take (q + 1) = (insTo P i).take q ++ [s] := by
    rw [List.take_add_one, hs]; rfl
  have hd : (insTo P i).drop q = s :: (insTo P i).drop (q + 1) := by
    rw [List.drop_eq_getElem_cons (by omega)]
    congr 1
    rw [List.getElem?_eq_getElem (by omega)] at hs
    exact Option.some.inj hs
  have hlt : ((insTo P i).take q).length = q := by rw [List.length_take]; omega
  have e1 : midC P i (q + 1) = (insTo P i).take q ++ (s :: P[i]! :: ((insTo P i).drop (q + 1) ++ P.drop (i + 1))) := by
    unfold midC insAt; rw [ht]; simp
  have e2 : midC P i q = (insTo P i).take q ++ (P[i]! :: s :: ((insTo P i).drop (q + 1) ++ P.drop (i + 1))) := by
    unfold midC insAt; rw [hd]; simp
  rw [e1, e2]
  refine ⟨?_, ?_, ?_⟩
  · rw [List.getElem?_append_right (by omega), hlt]; simp
  · rw [List.getElem?_append_right (by omega), hlt]; simp
  · rw [List.set_append_right _ _ (by omega), hlt, show q + 1 - q = 1 by omega, List.set_append_right _ _ (by omega), hlt, Nat.sub_self]
    rfl
theorem Own.contract {w : World} {base g n c i : Nat} {e : TypeId} {l : List Contract} {x : Contract} (h : Own encContract w base e (.slice (some ⟨g, 0, none⟩) n c) l) (hx : l[i]? = some x) :
    g < w.heap.size ∧ w.cell? ⟨g, i * 7, none⟩ = some (.int .i64 x.id) ∧ w.cell? ⟨g, i * 7 + 1, none⟩ = some (.int .i64 x.grade) ∧ w.cell? ⟨g, i * 7 + 2, none⟩ = some (.int .i64 x.tons) ∧ w.cell? ⟨g, i * 7 + 3, none⟩ = some (.int .i64 x.price) ∧ w.cell? ⟨g, i * 7 + 4, none⟩ = some (.int .i64 x.first) ∧ w.cell? ⟨g, i * 7 + 5, none⟩ = some (.int .i64 x.last) ∧ w.cell? ⟨g, i * 7 + 6, none⟩ = some (.int .i64 x.fine) := by
  obtain ⟨b, off, e', hb, hc⟩ := h.rd.contract (by have := (List.getElem?_eq_some_iff.1 hx).1; omega)
  injection e' with e'
  injection e' with e1 e2
  subst e1 e2
  have := hc i x hx
  simp only [Nat.zero_add] at this
  exact ⟨hb, this⟩
theorem put7 (w : World) (g p : Nat) (a b c d e f h : Value) : ((((((w.setCell ⟨g, p * 7, none⟩ a).setCell ⟨g, p * 7 + 1, none⟩ b).setCell ⟨g, p * 7 + 2, none⟩ c).setCell ⟨g, p * 7 + 3, none⟩ d).setCell ⟨g, p * 7 + 4, none⟩ e).setCell ⟨g, p * 7 + 5, none⟩ f).setCell ⟨g, p * 7 + 6, none⟩ h = putC w g (p * 7) [a, b, c, d, e, f, h] := rfl
def vals (y : Contract) : List Value := [.int .i64 y.id, .int .i64 y.grade, .int .i64 y.tons, .int .i64 y.price, .int .i64 y.first, .int .i64 y.last, .int .i64 y.fine]
theorem contract_put {w : World} {base g n c p : Nat} {e : TypeId} {l : List Contract} (h : Own encContract w base e (.slice (some ⟨g, 0, none⟩) n c) l) (hp : p < n) (y : Contract) :
    Own encContract (putC w g (p * 7) (vals y)) base e (.slice (some ⟨g, 0, none⟩) n c) (l.set p y) := h.setElem hp y
set_option maxHeartbeats 2000000 in
theorem priceC_q {a b : Contract} {v : Int} (hv : cmpI b.price a.price = v) (w : World) :
    Calls Tryd.prog 30 #[.agg #[.int .i64 a.id, .int .i64 a.grade, .int .i64 a.tons, .int .i64 a.price, .int .i64 a.first, .int .i64 a.last, .int .i64 a.fine], .agg #[.int .i64 b.id, .int .i64 b.grade, .int .i64 b.tons, .int .i64 b.price, .int .i64 b.first, .int .i64 b.last, .int .i64 b.fine]] w fun e w' => e = .returned (.int .i64 v) ∧ Below w.heap.size w w' := by
  subst hv
  go_enter Tryd.func30, Tryd.ntmps30
  go_wp2_with (first | (go_at_call 31; refine (cmpInt_any _ _ _).mono ?_; rintro e w1 ⟨rfl, rfl⟩))
  go_ret
  exact ⟨rfl, (by repeat (first | assumption | exact Below.refl _ _ | apply bl_gw | apply bl_alloc | apply bl_drewN | apply bl_drew))⟩
set_option maxRecDepth 4000 in
set_option maxHeartbeats 8000000 in
theorem insSortC_any (P : List Contract) (n : Nat) (hn : P.length = n) (A : Option Addr) (B c : Nat) (w : World) (hl : n ≤ 1000) (hB : B ≤ w.heap.size)
    (ho : Own encContract w B 26 (.slice A n c) P) :
    Calls Tryd.prog 50 #[.slice A n c, .int .i64 0, .int .i64 n, .func (.func 30) #[] #[]] w fun e w' => (∃ v, e = .returned v) ∧ Own encContract w' B 26 (.slice A n c) (insTo P n) ∧ Below B w w' := by
  have HN := Lib.hid hn; clear hn
  have ho' : Own encContract w B 26 (.slice A n c) (dataC P 1) := by rw [dataC_start]; exact ho
  clear ho
  have HO := Lib.hid ho'; clear ho'
  go_enter Tryd.func50, Tryd.ntmps50
  go_wp2
  go_loopw [8] (fun j wr => ∃ i : Nat, 1 ≤ i ∧ (i ≤ n ∨ n = 0 ∧ i = 1) ∧ j = .int .i64 i ∧ Own encContract wr B 26 (.slice A n c) (dataC P i) ∧ Below B w wr ∧ w.heap.size ≤ wr.heap.size) (fun j _ => n - (intOf j).toNat)
  case atStart => exact ⟨1, Nat.le_refl _, by omega, rfl, HO.out, Below.refl _ _, Nat.le_refl _⟩
  case round =>
    obtain ⟨i, hi1, hi2, rfl, ho, hbel, hz⟩ := hrel
    have HO1 := Lib.hid ho
    have HB1 := Lib.hid hbel
    clear ho
    by_cases hlt : i < n
    · have k1 : (i : Int) < n := by omega
      have HLt := Lib.hid (show i < P.length by rw [HN.out]; exact hlt)
      have HOi := Lib.hid ((midC_start HLt.out).symm ▸ HO1.out)
      obtain ⟨g, rfl⟩ := HO1.out.some_ (show 0 < n by omega)
      have hBg : B ≤ g := HO1.out.lo ⟨g, 0, none⟩ rfl
      go_wp2
      go_loopw [9] (fun j wr => ∃ p : Nat, p ≤ i ∧ j = .int .i64 p ∧ posDown (cheapP P (insTo P i) i) p = posDown (cheapP P (insTo P i) i) i ∧ Own encContract wr B 26 (.slice (some ⟨g, 0, none⟩) n c) (midC P i p) ∧ Below B w wr ∧ w.heap.size ≤ wr.heap.size) (fun j _ => (intOf j).toNat)
      case atStart => exact ⟨i, Nat.le_refl _, rfl, rfl, HOi.out, hbel, hz⟩
      case round =>
        obtain ⟨p, hp, rfl, hpd, ho2, hb2, hz2⟩ := hrel
        have HPD := Lib.hid hpd
        have HO2 := Lib.hid ho2
        have HB2 := Lib.hid hb2
        have hBw : B ≤ wr.heap.size := by omega
        clear hpd
        rcases (show p = 0 ∨ ∃ q, p = q + 1 from by rcases p with _ | q; exact .inl rfl; exact .inr ⟨q, rfl⟩) with hp0 | ⟨q, hpq⟩
        · have hn0 : decide ((0 : Int) < (p : Int)) = false := decide_eq_false (by omega)
          have hn1 : decide (0 < p) = false := decide_eq_false (by omega)
          have hn2 : ¬ (0 : Int) < p := by omega
          have hn3 : ¬ 0 < p := by omega
          have HE := Lib.hid (midC_end HLt.out (show posDown (cheapP P (insTo P i) i) i = p by rw [← HPD.out, hp0]; rfl))
          clear hp0
          go_wp2
          refine wp_region_gw (by kernel_rfl) (by kernel_rfl) ?_
          repeat (first | go_big_quiet_step ((fail)) | quiet_step ((fail)))
          refine wpQuiet_nil ?_
          rintro _ ⟨pq, rfl⟩
          go_wp2
          go_roundw
          case rel => exact ⟨i + 1, by omega, by omega, by go_num, by rw [← HE.out]; exact HO2.out.past (by repeat (first | assumption | exact Below.refl _ _ | apply bl_gw | apply bl_alloc | apply bl_drewN | apply bl_drew)) (Nat.le_refl _), HB2.out.trans ((show Below wr.heap.size wr _ from (by repeat (first | assumption | exact Below.refl _ _ | apply bl_gw | apply bl_alloc | apply bl_drewN | apply bl_drew))).mono hBw), by simp; omega⟩
          case measure => simp [intOf]; omega
        · have hs2 : (insTo P i)[q]? = some ((insTo P i)[q]'(by rw [insTo_length]; omega)) := List.getElem?_eq_getElem _
          generalize (insTo P i)[q]'(by rw [insTo_length]; omega) = s at hs2
          obtain ⟨m1, m2, m3⟩ := midC_get (P := P) (i := i) (q := q) (by omega) hs2
          rw [← hpq] at m1 m3
          have m2' : (midC P i p)[q]? = some s := by rw [hpq]; exact m2
          have hla : cheapP P (insTo P i) i q = decide (s.price < P[i]!.price) := by
            rw [cheapP, List.getElem!_of_getElem? hs2]
          have hpd2 : posDown (cheapP P (insTo P i) i) p = if decide (s.price < P[i]!.price) then posDown (cheapP P (insTo P i) i) q else p := by
            rw [hpq, posDown, hla]
          obtain ⟨x, hxe⟩ : ∃ x, P[i]! = x := ⟨_, rfl⟩
          rw [hxe] at m1 m3 hpd2
          obtain ⟨v, hv⟩ : ∃ v, cmpI s.price x.price = v := ⟨_, rfl⟩
          have hvd := cmpI_neg s.price x.price
          rw [hv] at hvd
          rw [← hvd] at hpd2
          obtain ⟨hgr, c0, c1, c2, c3, c4, c5, c6⟩ := HO2.out.contract m1
          obtain ⟨_, d0, d1, d2, d3, d4, d5, d6⟩ := HO2.out.contract m2'
          have e0 := HO2.out.thaw (p * 7); have e1 := HO2.out.thaw (p * 7 + 1); have e2 := HO2.out.thaw (p * 7 + 2); have e3 := HO2.out.thaw (p * 7 + 3); have e4 := HO2.out.thaw (p * 7 + 4); have e5 := HO2.out.thaw (p * 7 + 5); have e6 := HO2.out.thaw (p * 7 + 6)
          have f0 := HO2.out.thaw (q * 7); have f1 := HO2.out.thaw (q * 7 + 1); have f2 := HO2.out.thaw (q * 7 + 2); have f3 := HO2.out.thaw (q * 7 + 3); have f4 := HO2.out.thaw (q * 7 + 4); have f5 := HO2.out.thaw (q * 7 + 5); have f6 := HO2.out.thaw (q * 7 + 6)
          have HPD2 := Lib.hid hpd2
          have HV := Lib.hid hv
          have HM3 := Lib.hid m3
          have HQ1 := Lib.hid (contract_put HO2.out (show p < n by omega) s)
          clear hla hs2 hpd2 hv hvd m1 m2 m2' m3 hxe
          have n0 : decide ((0 : Int) < (p : Int)) = true := decide_eq_true (by omega)
          have n00 : decide (0 < p) = true := decide_eq_true (by omega)
          have n000 : 0 < p := by omega
          have n1 : IntKind.i64.wrap ((p : Int) - 1) = q := by rw [IntWalk.i64_in _ (by omega)]; omega
          have n3 : (q : Int) < n := by omega
          have n4 : (0 : Int) ≤ q := by omega
          have n5 : (p : Int) < n := by omega
          have n6 : (0 : Int) ≤ p := by omega
          have hqi : q + 1 ≤ i := by omega
          have hqn : q < n := by omega
          have HPQ := Lib.hid hpq
          have hpq7 : q * 7 + 7 ≤ p * 7 := by omega
          clear hpq
          rcases sp1 (decide (v < 0)) with t1 | t1
          · have HE := Lib.hid (midC_end HLt.out (show posDown (cheapP P (insTo P i) i) i = p by rw [← HPD.out, HPD2.out, t1]; rfl))
            go_wp2
            refine wp_region_gw (by kernel_rfl) (by kernel_rfl) ?_
            repeat (first | go_big_quiet_step ((go_at_call 30; exact quiet_gw (priceC_q (a := x) (b := s) HV.out _))) | quiet_step ((go_at_call 30; exact quiet_gw (priceC_q (a := x) (b := s) HV.out _))))
            refine wpQuiet_nil ?_
            rintro _ ⟨pq, rfl⟩
            go_wp2
            go_roundw
            case rel => exact ⟨i + 1, by omega, by omega, by go_num, by rw [← HE.out]; exact HO2.out.past (by repeat (first | assumption | exact Below.refl _ _ | apply bl_gw | apply bl_alloc | apply bl_drewN | apply bl_drew)) (Nat.le_refl _), HB2.out.trans ((show Below wr.heap.size wr _ from (by repeat (first | assumption | exact Below.refl _ _ | apply bl_gw | apply bl_alloc | apply bl_drewN | apply bl_drew))).mono hBw), by simp; omega⟩
            case measure => simp [intOf]; omega
          · have HPD3 := Lib.hid (show posDown (cheapP P (insTo P i) i) q = posDown (cheapP P (insTo P i) i) i by rw [← HPD.out, HPD2.out, t1]; rfl)
            go_wp2
            refine wp_region_gw (by kernel_rfl) (by kernel_rfl) ?_
            repeat (first | go_big_quiet_step ((go_at_call 30; exact quiet_gw (priceC_q (a := x) (b := s) HV.out _))) | quiet_step ((go_at_call 30; exact quiet_gw (priceC_q (a := x) (b := s) HV.out _))))
            refine wpQuiet_nil ?_
            rintro _ ⟨pq, rfl⟩
            go_wp2
            go_region
            go_wp2
            have q2 := contract_put HQ1.out hqn x
            rw [HM3.out] at q2
            have bb := putC_below hBg (vals x) (q * 7) (putC_below hBg (vals s) (p * 7) HB2.out)
            have sz : (putC (putC wr g (p * 7) (vals s)) g (q * 7) (vals x)).heap.size = wr.heap.size := by rw [putC_size, putC_size]
            simp only [vals] at q2 bb sz
            rw [put7, put7]
            exact ⟨⟨q, by omega, rfl, HPD3.out, q2.past (gw_below _ _ (Nat.le_refl _)) (Nat.le_refl _), bb.trans (gw_below _ _ (by rw [sz]; exact hBw)), by rw [gw_size, sz]; omega⟩, by simp [intOf, HPQ.out]⟩
    · go_wp2
      go_end0
      exact ⟨⟨_, rfl⟩, by rw [← HN.out, ← dataC_end (P := P) (show P.length ≤ i by rw [HN.out]; omega) (by rw [HN.out]; omega)]; have := HO1.out; rw [← HN.out] at this; exact this, hbel⟩
set_option maxRecDepth 4000 in
set_option maxHeartbeats 8000000 in
theorem stableC_any (P : List Contract) (n : Nat) (hn : P.length = n) (A : Option Addr) (B c : Nat) (w : World) (hl : n ≤ 10) (hB : B ≤ w.heap.size)
    (ho : Own encContract w B 26 (.slice A n c) P) :
    Calls Tryd.prog 47 #[.slice A n c, .int .i64 n, .func (.func 30) #[] #[]] w fun e w' => (∃ v, e = .returned v) ∧ Own encContract w' B 26 (.slice A n c) (insTo P n) ∧ Below B w w' := by
  have h20 : ¬ (20 : Int) ≤ n := by omega
  have h21 : ¬ (20 : Int) < n := by omega
  have HN := Lib.hid hn; clear hn
  have HO := Lib.hid ho; clear ho
  go_enter Tryd.func47, Tryd.ntmps47
  go_wp2
  go_loopw [7, 8] (fun a b wr => a = .int .i64 0 ∧ b = .int .i64 20 ∧ wr = w) (fun _ _ _ => 0)
  case atStart => exact ⟨rfl, rfl, rfl⟩
  case round =>
    obtain ⟨rfl, rfl, rfl⟩ := hrel
    go_wp2_with fail
    refine (insSortC_any P n HN.out A B c _ (by omega) hB HO.out).mono ?_
    rintro e w1 ⟨⟨v, rfl⟩, o1, b1⟩
    have O1 := Lib.hid o1
    have B1 := Lib.hid b1
    clear o1 b1
    go_wp2
    go_loopw [6] (fun a wr => a = .int .i64 20 ∧ wr = w1) (fun _ _ => 0)
    case atStart => exact ⟨rfl, rfl⟩
    case round =>
      obtain ⟨rfl, rfl⟩ := hrel
      go_wp2
      go_end0
      exact ⟨⟨_, rfl⟩, O1.out, B1.out⟩
set_option maxRecDepth 4000 in
set_option maxHeartbeats 8000000 in
theorem sortStableC_any (P : List Contract) (n : Nat) (hn : P.length = n) (A : Option Addr) (B c : Nat) (w : World) (hl : n ≤ 10) (hB : B ≤ w.heap.size)
    (ho : Own encContract w B 26 (.slice A n c) P) :
    Calls Tryd.prog 29 #[.slice A n c, .func (.func 30) #[] #[]] w fun e w' => (∃ v, e = .returned v) ∧ Own encContract w' B 26 (.slice A n c) (insTo P n) ∧ Below B w w' := by
  go_enter Tryd.func29, Tryd.ntmps29
  go_wp2_with fail
  refine (stableC_any P n hn A B c _ hl hB ho).mono ?_
  rintro e w1 ⟨⟨v, rfl⟩, o1, b1⟩
  go_wp2
  go_end0
  exact ⟨⟨_, rfl⟩, o1, b1⟩
end Go.Proofs.YtcljfdpjlkaagaaDoor
