/- Casks by bitterness: the program's stable sort. -/
import Derived.Test.YtcajgadgdjopdaaPos
import Derived.Test.YtcajgadgdjopdaaSet
import Derived.Test.YtcajgadgdjopdaaBittern
namespace Go.Proofs.Ytcajgadgdjopdaa
open Go.RowKit
def cheapPB (P S : List Bittern) (k : Nat) (j : Nat) : Bool := decide (P[k]!.bitter < S[j]!.bitter)
def insToB (P : List Bittern) : Nat → List Bittern
  | 0 => []
  | k + 1 => insAt (insToB P k) (posDown (cheapPB P (insToB P k) k) k) P[k]!
theorem insToB_length (P : List Bittern) : ∀ k, (insToB P k).length = k
  | 0 => rfl
  | k + 1 => by rw [insToB, insAt_length, insToB_length P k]
def dataCB (P : List Bittern) (i : Nat) : List Bittern := (insToB P i).take P.length ++ P.drop i
def midCB (P : List Bittern) (i j : Nat) : List Bittern := insAt (insToB P i) j P[i]! ++ P.drop (i + 1)
theorem dropCB {P : List Bittern} {i : Nat} (h : i < P.length) : P.drop i = P[i]! :: P.drop (i + 1) := by
  rw [List.drop_eq_getElem_cons h, getElem!_pos P i h]
theorem dataCB_start (P : List Bittern) : dataCB P 1 = P := by
  rcases P with _ | ⟨x, r⟩
  · rfl
  · have e : insToB (x :: r) 1 = [x] := rfl
    unfold dataCB
    rw [e, List.take_of_length_le (by simp)]
    rfl
theorem dataCB_end {P : List Bittern} {i : Nat} (h : P.length ≤ i) (h1 : i = P.length ∨ P.length = 0) : dataCB P i = insToB P P.length := by
  unfold dataCB
  rw [List.drop_eq_nil_of_le h, List.append_nil]
  rcases h1 with rfl | h1
  · rw [List.take_of_length_le (by rw [insToB_length]; exact Nat.le_refl _)]
  · rw [h1]; rfl
theorem dataCB_length {P : List Bittern} {i : Nat} (h : i ≤ P.length) : (dataCB P i).length = P.length := by
  unfold dataCB
  rw [List.length_append, List.length_take, insToB_length, List.length_drop]; omega
theorem midCB_start {P : List Bittern} {i : Nat} (h : i < P.length) : midCB P i i = dataCB P i := by
  unfold midCB dataCB insAt
  rw [List.take_of_length_le (by rw [insToB_length]; exact Nat.le_refl _), List.drop_eq_nil_of_le (by rw [insToB_length]; exact Nat.le_refl _), List.take_of_length_le (by rw [insToB_length]; omega), dropCB h]
  simp
theorem midCB_end {P : List Bittern} {i j : Nat} (h : i < P.length) (hj : posDown (cheapPB P (insToB P i) i) i = j) : midCB P i j = dataCB P (i + 1) := by
  unfold midCB dataCB
  rw [List.take_of_length_le (by rw [insToB_length]; omega), insToB, hj]
theorem midCB_get {P : List Bittern} {i q : Nat} {s : Bittern} (hq : q < i) (hs : (insToB P i)[q]? = some s) :
    (midCB P i (q + 1))[q + 1]? = some P[i]! ∧ (midCB P i (q + 1))[q]? = some s ∧ ((midCB P i (q + 1)).set (q + 1) s).set q P[i]! = midCB P i q := by
  have hl := insToB_length P i
  have ht : (insToB P i).take (q + 1) = (insToB P i).take q ++ [s] := by
    rw [List.take_add_one, hs]; rfl
  have hd : (insToB P i).drop q = s :: (insToB P i).drop (q + 1) := by
    rw [List.drop_eq_getElem_cons (by omega)]
    congr 1
    rw [List.getElem?_eq_getElem (by omega)] at hs
    exact Option.some.inj hs
  have hlt : ((insToB P i).take q).length = q := by rw [List.length_take]; omega
  have e1 : midCB P i (q + 1) = (insToB P i).take q ++ (s :: P[i]! :: ((insToB P i).drop (q + 1) ++ P.drop (i + 1))) := by
    unfold midCB insAt; rw [ht]; simp
  have e2 : midCB P i q = (insToB P i).take q ++ (P[i]! :: s :: ((insToB P i).drop (q + 1) ++ P.drop (i + 1))) := by
    unfold midCB insAt; rw [hd]; simp
  rw [e1, e2]
  refine ⟨?_, ?_, ?_⟩
  · rw [List.getElem?_append_right (by omega), hlt]; simp
  · rw [List.getElem?_append_right (by omega), hlt]; simp
  · rw [List.set_append_right _ _ (by omega), hlt, show q + 1 - q = 1 by omega, List.set_append_right _ _ (by omega), hlt, Nat.sub_self]
    rfl
theorem Own.bittern {w : World} {base g n c i : Nat} {e : TypeId} {l : List Bittern} {x : Bittern} (h : Own encBittern w base e (.slice (some ⟨g, 0, none⟩) n c) l) (hx : l[i]? = some x) :
    g < w.heap.size ∧ w.cell? ⟨g, i * 3, none⟩ = some (.int .i64 x.id) ∧ w.cell? ⟨g, i * 3 + 1, none⟩ = some (.int .i64 x.kilos) ∧ w.cell? ⟨g, i * 3 + 2, none⟩ = some (.int .i64 x.bitter) := by
  obtain ⟨b, off, e', hb, hc⟩ := h.rd.bittern (by have := (List.getElem?_eq_some_iff.1 hx).1; omega)
  injection e' with e'
  injection e' with e1 e2
  subst e1 e2
  have := hc i x hx
  simp only [Nat.zero_add] at this
  exact ⟨hb, this⟩
theorem putB (w : World) (g p : Nat) (a0 a1 a2 : Value) : ((w.setCell ⟨g, p * 3, none⟩ a0).setCell ⟨g, p * 3 + 1, none⟩ a1).setCell ⟨g, p * 3 + 2, none⟩ a2 = putC w g (p * 3) [a0, a1, a2] := rfl
def valsB (y : Bittern) : List Value := [.int .i64 y.id, .int .i64 y.kilos, .int .i64 y.bitter]
theorem bit_put {w : World} {base g n c p : Nat} {e : TypeId} {l : List Bittern} (h : Own encBittern w base e (.slice (some ⟨g, 0, none⟩) n c) l) (hp : p < n) (y : Bittern) :
    Own encBittern (putC w g (p * 3) (valsB y)) base e (.slice (some ⟨g, 0, none⟩) n c) (l.set p y) := h.setElem hp y
set_option maxHeartbeats 2000000 in
theorem keyB_q {a b : Bittern} {v : Int} (hv : cmpI a.bitter b.bitter = v) (w : World) :
    Calls Try.prog 73 #[.agg #[.int .i64 a.id, .int .i64 a.kilos, .int .i64 a.bitter], .agg #[.int .i64 b.id, .int .i64 b.kilos, .int .i64 b.bitter]] w fun e w' => e = .returned (.int .i64 v) ∧ Below w.heap.size w w' := by
  subst hv
  go_enter Try.func73, Try.ntmps73
  go_wp2_with (first | (go_at_call 47; refine (cmpInt_any _ _ _).mono ?_; rintro e w1 ⟨rfl, rfl⟩))
  go_ret
  exact ⟨rfl, (by repeat (first | assumption | exact Below.refl _ _ | apply bl_gw | apply bl_alloc | apply bl_drewN | apply bl_drew))⟩
set_option maxRecDepth 4000 in
set_option maxHeartbeats 8000000 in
theorem insSortCB_any (P : List Bittern) (n : Nat) (hn : P.length = n) (A : Option Addr) (B c : Nat) (w : World) (hl : n ≤ 1000) (hB : B ≤ w.heap.size)
    (ho : Own encBittern w B 69 (.slice A n c) P) :
    Calls Try.prog 98 #[.slice A n c, .int .i64 0, .int .i64 n, .func (.func 73) #[] #[]] w fun e w' => (∃ v, e = .returned v) ∧ Own encBittern w' B 69 (.slice A n c) (insToB P n) ∧ Below B w w' := by
  have HN := Lib.hid hn; clear hn
  have ho' : Own encBittern w B 69 (.slice A n c) (dataCB P 1) := by rw [dataCB_start]; exact ho
  clear ho
  have HO := Lib.hid ho'; clear ho'
  go_enter Try.func98, Try.ntmps98
  go_wp2
  go_loopw [8] (fun j wr => ∃ i : Nat, 1 ≤ i ∧ (i ≤ n ∨ n = 0 ∧ i = 1) ∧ j = .int .i64 i ∧ Own encBittern wr B 69 (.slice A n c) (dataCB P i) ∧ Below B w wr ∧ w.heap.size ≤ wr.heap.size) (fun j _ => n - (intOf j).toNat)
  case atStart => exact ⟨1, Nat.le_refl _, by omega, rfl, HO.out, Below.refl _ _, Nat.le_refl _⟩
  case round =>
    obtain ⟨i, hi1, hi2, rfl, ho, hbel, hz⟩ := hrel
    have HO1 := Lib.hid ho
    have HB1 := Lib.hid hbel
    clear ho
    by_cases hlt : i < n
    · have k1 : (i : Int) < n := by omega
      have HLt := Lib.hid (show i < P.length by rw [HN.out]; exact hlt)
      have HOi := Lib.hid ((midCB_start HLt.out).symm ▸ HO1.out)
      obtain ⟨g, rfl⟩ := HO1.out.some_ (show 0 < n by omega)
      have hBg : B ≤ g := HO1.out.lo ⟨g, 0, none⟩ rfl
      go_wp2
      go_loopw [9] (fun j wr => ∃ p : Nat, p ≤ i ∧ j = .int .i64 p ∧ posDown (cheapPB P (insToB P i) i) p = posDown (cheapPB P (insToB P i) i) i ∧ Own encBittern wr B 69 (.slice (some ⟨g, 0, none⟩) n c) (midCB P i p) ∧ Below B w wr ∧ w.heap.size ≤ wr.heap.size) (fun j _ => (intOf j).toNat)
      case atStart => exact ⟨i, Nat.le_refl _, rfl, rfl, HOi.out, hbel, hz⟩
      case round =>
        obtain ⟨p, hp, rfl, hpd, ho2, hb2, hz2⟩ := hrel
        have HPD := Lib.hid hpd
        have HO2 := Lib.hid ho2
        have HB2 := Lib.hid hb2
        have hBw : B ≤ wr.heap.size := by omega
        clear hpd
        rcases (show p = 0 ∨ ∃ q, p = q + 1 from by rcases p with _ | q; exact .inl rfl; exact .inr ⟨q, rfl⟩) with hp0 | ⟨q, hpq⟩
        · have hn0 : decide ((0 : Int) < (p : Int)) = false := decide_eq_false (by omega)
          have hn1 : decide (0 < p) = false := decide_eq_false (by omega)
          have hn2 : ¬ (0 : Int) < p := by omega
          have hn3 : ¬ 0 < p := by omega
          have HE := Lib.hid (midCB_end HLt.out (show posDown (cheapPB P (insToB P i) i) i = p by rw [← HPD.out, hp0]; rfl))
          clear hp0
          go_wp2
          refine wp_region_gw (by kernel_rfl) (by kernel_rfl) ?_
          repeat (first | go_big_quiet_step ((fail)) | quiet_step ((fail)))
          refine wpQuiet_nil ?_
          rintro _ ⟨pq, rfl⟩
          go_wp2
          go_roundw
          case rel => exact ⟨i + 1, by omega, by omega, by go_num, by rw [← HE.out]; exact HO2.out.past (by repeat (first | assumption | exact Below.refl _ _ | apply bl_gw | apply bl_alloc | apply bl_drewN | apply bl_drew)) (Nat.le_refl _), HB2.out.trans ((show Below wr.heap.size wr _ from (by repeat (first | assumption | exact Below.refl _ _ | apply bl_gw | apply bl_alloc | apply bl_drewN | apply bl_drew))).mono hBw), by simp; omega⟩
          case measure => simp [intOf]; omega
        · have hs2 : (insToB P i)[q]? = some ((insToB P i)[q]'(by rw [insToB_length]; omega)) := List.getElem?_eq_getElem _
          generalize (insToB P i)[q]'(by rw [insToB_length]; omega) = s at hs2
          obtain ⟨m1, m2, m3⟩ := midCB_get (P := P) (i := i) (q := q) (by omega) hs2
          rw [← hpq] at m1 m3
          have m2' : (midCB P i p)[q]? = some s := by rw [hpq]; exact m2
          have hla : cheapPB P (insToB P i) i q = decide (P[i]!.bitter < s.bitter) := by
            rw [cheapPB, List.getElem!_of_getElem? hs2]
          have hpd2 : posDown (cheapPB P (insToB P i) i) p = if decide (P[i]!.bitter < s.bitter) then posDown (cheapPB P (insToB P i) i) q else p := by
            rw [hpq, posDown, hla]
          obtain ⟨x, hxe⟩ : ∃ x, P[i]! = x := ⟨_, rfl⟩
          rw [hxe] at m1 m3 hpd2
          obtain ⟨v, hv⟩ : ∃ v, cmpI x.bitter s.bitter = v := ⟨_, rfl⟩
          have hvd := cmpI_neg x.bitter s.bitter
          rw [hv] at hvd
          rw [← hvd] at hpd2
          obtain ⟨hgr, c0, c1, c2⟩ := HO2.out.bittern m1
          obtain ⟨_, d0, d1, d2⟩ := HO2.out.bittern m2'
          have e0 := HO2.out.thaw (p * 3); have e1 := HO2.out.thaw (p * 3 + 1); have e2 := HO2.out.thaw (p * 3 + 2)
          have f0 := HO2.out.thaw (q * 3); have f1 := HO2.out.thaw (q * 3 + 1); have f2 := HO2.out.thaw (q * 3 + 2)
          have HPD2 := Lib.hid hpd2
          have HV := Lib.hid hv
          have HM3 := Lib.hid m3
          have HQ1 := Lib.hid (bit_put HO2.out (show p < n by omega) s)
          clear hla hs2 hpd2 hv hvd m1 m2 m2' m3 hxe
          have n0 : decide ((0 : Int) < (p : Int)) = true := decide_eq_true (by omega)
          have n00 : decide (0 < p) = true := decide_eq_true (by omega)
          have n000 : 0 < p := by omega
          have n1 : IntKind.i64.wrap ((p : Int) - 1) = q := by rw [IntWalk.i64_in _ (by omega)]; omega
          have n3 : (q : Int) < n := by omega
          have n4 : (0 : Int) ≤ q := by omega
          have n5 : (p : Int) < n := by omega
          have n6 : (0 : Int) ≤ p := by omega
          have hqi : q + 1 ≤ i := by omega
          have hqn : q < n := by omega
          have HPQ := Lib.hid hpq
          have hpq7 : q * 3 + 3 ≤ p * 3 := by omega
          clear hpq
          rcases sp1 (decide (v < 0)) with t1 | t1
          · have HE := Lib.hid (midCB_end HLt.out (show posDown (cheapPB P (insToB P i) i) i = p by rw [← HPD.out, HPD2.out, t1]; rfl))
            go_wp2
            refine wp_region_gw (by kernel_rfl) (by kernel_rfl) ?_
            repeat (first | go_big_quiet_step ((go_at_call 73; exact quiet_gw (keyB_q (a := x) (b := s) HV.out _))) | quiet_step ((go_at_call 73; exact quiet_gw (keyB_q (a := x) (b := s) HV.out _))))
            refine wpQuiet_nil ?_
            rintro _ ⟨pq, rfl⟩
            go_wp2
            go_roundw
            case rel => exact ⟨i + 1, by omega, by omega, by go_num, by rw [← HE.out]; exact HO2.out.past (by repeat (first | assumption | exact Below.refl _ _ | apply bl_gw | apply bl_alloc | apply bl_drewN | apply bl_drew)) (Nat.le_refl _), HB2.out.trans ((show Below wr.heap.size wr _ from (by repeat (first | assumption | exact Below.refl _ _ | apply bl_gw | apply bl_alloc | apply bl_drewN | apply bl_drew))).mono hBw), by simp; omega⟩
            case measure => simp [intOf]; omega
          · have HPD3 := Lib.hid (show posDown (cheapPB P (insToB P i) i) q = posDown (cheapPB P (insToB P i) i) i by rw [← HPD.out, HPD2.out, t1]; rfl)
            go_wp2
            refine wp_region_gw (by kernel_rfl) (by kernel_rfl) ?_
            repeat (first | go_big_quiet_step ((go_at_call 73; exact quiet_gw (keyB_q (a := x) (b := s) HV.out _))) | quiet_step ((go_at_call 73; exact quiet_gw (keyB_q (a := x) (b := s) HV.out _))))
            refine wpQuiet_nil ?_
            rintro _ ⟨pq, rfl⟩
            go_wp2
            go_region
            go_wp2
            have q2 := bit_put HQ1.out hqn x
            rw [HM3.out] at q2
            have bb := putC_below hBg (valsB x) (q * 3) (putC_below hBg (valsB s) (p * 3) HB2.out)
            have sz : (putC (putC wr g (p * 3) (valsB s)) g (q * 3) (valsB x)).heap.size = wr.heap.size := by rw [putC_size, putC_size]
            simp only [valsB] at q2 bb sz
            rw [putB, putB]
            exact ⟨⟨q, by omega, rfl, HPD3.out, q2.past (gw_below _ _ (Nat.le_refl _)) (Nat.le_refl _), bb.trans (gw_below _ _ (by rw [sz]; exact hBw)), by rw [gw_size, sz]; omega⟩, by simp [intOf, HPQ.out]⟩
    · go_wp2
      go_end0
      exact ⟨⟨_, rfl⟩, by rw [← HN.out, ← dataCB_end (P := P) (show P.length ≤ i by rw [HN.out]; omega) (by rw [HN.out]; omega)]; have := HO1.out; rw [← HN.out] at this; exact this, hbel⟩
set_option maxRecDepth 4000 in
set_option maxHeartbeats 8000000 in
theorem stableCB_any (P : List Bittern) (n : Nat) (hn : P.length = n) (A : Option Addr) (B c : Nat) (w : World) (hl : n ≤ 10) (hB : B ≤ w.heap.size)
    (ho : Own encBittern w B 69 (.slice A n c) P) :
    Calls Try.prog 87 #[.slice A n c, .int .i64 n, .func (.func 73) #[] #[]] w fun e w' => (∃ v, e = .returned v) ∧ Own encBittern w' B 69 (.slice A n c) (insToB P n) ∧ Below B w w' := by
  have h20 : ¬ (20 : Int) ≤ n := by omega
  have h21 : ¬ (20 : Int) < n := by omega
  have HN := Lib.hid hn; clear hn
  have HO := Lib.hid ho; clear ho
  go_enter Try.func87, Try.ntmps87
  go_wp2
  go_loopw [7, 8] (fun a b wr => a = .int .i64 0 ∧ b = .int .i64 20 ∧ wr = w) (fun _ _ _ => 0)
  case atStart => exact ⟨rfl, rfl, rfl⟩
  case round =>
    obtain ⟨rfl, rfl, rfl⟩ := hrel
    go_wp2_with fail
    refine (insSortCB_any P n HN.out A B c _ (by omega) hB HO.out).mono ?_
    rintro e w1 ⟨⟨v, rfl⟩, o1, b1⟩
    have O1 := Lib.hid o1
    have B1 := Lib.hid b1
    clear o1 b1
    go_wp2
    go_loopw [6] (fun a wr => a = .int .i64 20 ∧ wr = w1) (fun _ _ => 0)
    case atStart => exact ⟨rfl, rfl⟩
    case round =>
      obtain ⟨rfl, rfl⟩ := hrel
      go_wp2
      go_end0
      exact ⟨⟨_, rfl⟩, O1.out, B1.out⟩
set_option maxRecDepth 4000 in
set_option maxHeartbeats 8000000 in
theorem sortStableCB_any (P : List Bittern) (n : Nat) (hn : P.length = n) (A : Option Addr) (B c : Nat) (w : World) (hl : n ≤ 10) (hB : B ≤ w.heap.size)
    (ho : Own encBittern w B 69 (.slice A n c) P) :
    Calls Try.prog 72 #[.slice A n c, .func (.func 73) #[] #[]] w fun e w' => (∃ v, e = .returned v) ∧ Own encBittern w' B 69 (.slice A n c) (insToB P n) ∧ Below B w w' := by
  go_enter Try.func72, Try.ntmps72
  go_wp2_with fail
  refine (stableCB_any P n hn A B c _ hl hB ho).mono ?_
  rintro e w1 ⟨⟨v, rfl⟩, o1, b1⟩
  go_wp2
  go_end0
  exact ⟨⟨_, rfl⟩, o1, b1⟩
end Go.Proofs.Ytcajgadgdjopdaa
