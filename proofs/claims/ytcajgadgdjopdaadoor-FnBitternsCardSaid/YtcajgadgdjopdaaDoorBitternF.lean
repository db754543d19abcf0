/- Casks of bittern: pouring one cask into another, by the program and by the reference. -/
import Derived.Test.YtcajgadgdjopdaaDoorBitternC
import Derived.Test.YtcajgadgdjopdaaDoorBitternD
import Derived.Test.YtcajgadgdjopdaaDoorSet
import Derived.Lib.SliceRun
import Derived.Deep.Cut
import Derived.Deep.RegionHeld3
import Derived.Test.YtcajgadgdjopdaaDoorTail
namespace Go.Proofs.YtcajgadgdjopdaaDoor
open Go.RowKit
set_option maxHeartbeats 2000000 in
theorem cloneBittern_any (l : List Bittern) (n : Nat) (hn : l.length = n) (A : Option Addr) (cap : Nat) (w : World) (hl : n ≤ 1048576) (hc : Sl encBittern w w.heap.size A l) :
    Calls Tryd.prog 24 #[.slice A n cap] w fun e w' => ∃ v, e = .returned v ∧ Own encBittern w' w.heap.size 33 v l ∧ Below w.heap.size w w' := by
  have q : ∀ (w : World) (a : Option Addr) (n c n' c' : Nat), (binOp .eql 24 (.slice a n c) (.slice none n' c')).run Tryd.prog w = .ok (.bool a.isNone) w := fun w a n c n' c' => Lib.run_eql_slice_nil w _ _ a n c n' c' Tryd.underlying24
  have HC := Lib.hid hc; clear hc
  obtain ⟨i0, hi, hz0, hz1, hz2⟩ := info_parts info_Bittern
  rcases A with _ | ad
  · have h0 : l = [] := by
      rcases l with _ | ⟨x, r⟩
      · rfl
      · obtain ⟨_, _, h, _⟩ := HC.out (by simp)
        cases h
    subst h0
    go_enter Tryd.func24, Tryd.ntmps24
    go_wp2
    go_ret
    exact ⟨_, rfl, Own.none_, Below.refl _ _⟩
  · have HN := Lib.hid hn; clear hn
    go_enter Tryd.func24, Tryd.ntmps24
    go_wp2_with (at_builtin; refine wpList_app (E := encBittern) _ rfl (.tmp 5) (.tmp 6) 24 rfl w.heap.size 33 i0 _ 24 Tryd.underlying24 hi hz0 hz1 hz2 rfl (by decide) (.slice (some ⟨w.heap.size, 0, none⟩) 0 0) [] rfl (Own.nil_ (Nat.le_refl _) _) _ (some ad) n cap l rfl HN.out (HC.out.past (bl_alloc (Below.refl _ _) _)) (by simp [maxLen]; omega) (by simp; omega) (by simp) ?_; intro v' w' ho hg _; have HO := Lib.hid ho; have HG := Lib.hid hg; clear ho hg)
    go_ret
    exact ⟨_, rfl, by simpa using HO.out, below_grown (bl_alloc (Below.refl _ _) _) HG.out (by intro k hk; simp [Value.ownBlock] at hk; omega)⟩
theorem Own.bittern {w : World} {base g n c i : Nat} {e : TypeId} {l : List Bittern} {x : Bittern} (h : Own encBittern w base e (.slice (some ⟨g, 0, none⟩) n c) l) (hx : l[i]? = some x) :
    g < w.heap.size ∧ w.cell? ⟨g, i * 3, none⟩ = some (.int .i64 x.id) ∧ w.cell? ⟨g, i * 3 + 1, none⟩ = some (.int .i64 x.kilos) ∧ w.cell? ⟨g, i * 3 + 2, none⟩ = some (.int .i64 x.bitter) := by
  obtain ⟨b, off, e', hb, hc⟩ := h.rd.bittern (by have := (List.getElem?_eq_some_iff.1 hx).1; omega)
  injection e' with e'
  injection e' with e1 e2
  subst e1 e2
  refine ⟨hb, ?_⟩
  simpa using hc i x hx
theorem bitPlace_lt {l : List Bittern} {id v : Int} (h : bitPlace l id = v) (h0 : 0 ≤ v) : ∃ p : Nat, v = p ∧ p < l.length ∧ l[p]!.id = id := by
  subst h
  unfold bitPlace at *
  cases hf : firstTo (isAt l id) l.length with
  | none => rw [hf] at h0; simp [placeOf] at h0
  | some k =>
    have h2 := firstTo_some hf
    exact ⟨k, by simp [placeOf], h2.1, by simpa [isAt] using h2.2.1⟩
def pourK (x y : Bittern) : Int := kilosTo [x, y] 2
def pourB (x y : Bittern) : Int := (gramsTo [x, y] 2).tdiv (kilosTo [x, y] 2)
def emptied (x : Bittern) : Bittern := ⟨x.id, 0, 0⟩
def filled (x y : Bittern) : Bittern := ⟨y.id, pourK x y, pourB x y⟩
def pourAt (l : List Bittern) (p q : Nat) : List Bittern := (l.set p (emptied l[p]!)).set q (filled l[p]! l[q]!)
def pourG (l : List Bittern) (f t : Int) : Bool := areBitterns l && (decide (0 ≤ bitPlace l f) && (decide (0 ≤ bitPlace l t) && (!(decide (bitPlace l f = bitPlace l t)) && (!(decide (l[(bitPlace l f).toNat]!.kilos = 0)) && !(decide (l[(bitPlace l t).toNat]!.kilos = 0))))))
def pourOK (l : List Bittern) (f t : Int) : Bool := pourG l f t && areBitterns (pourAt l (bitPlace l f).toNat (bitPlace l t).toNat)
def pourP (l : List Bittern) (f t : Int) : List Bittern := if pourOK l f t then pourAt l (bitPlace l f).toNat (bitPlace l t).toNat else []
theorem pour_no {l : List Bittern} {f t : Int} (h : pourOK l f t = false) : pourP l f t = [] := by simp [pourP, h]
theorem two_sums {x y : Bittern} (hx : bitternOK x = true) (hy : bitternOK y = true) :
    kilosTo [x, y] 2 = x.kilos + y.kilos ∧ gramsTo [x, y] 2 = x.kilos * x.bitter + y.kilos * y.bitter ∧ 0 ≤ gramsTo [x, y] 2 ∧ gramsTo [x, y] 2 ≤ 20000000 := by
  obtain ⟨_, ⟨h1, h2⟩, ⟨h3, h4⟩⟩ := bitternOK_at hx
  obtain ⟨_, ⟨h5, h6⟩, ⟨h7, h8⟩⟩ := bitternOK_at hy
  have m1 : 0 ≤ x.kilos * x.bitter := Int.mul_nonneg h1 h3
  have m2 : x.kilos * x.bitter ≤ 10000 * 1000 := Int.mul_le_mul h2 h4 h3 (by omega)
  have m3 : 0 ≤ y.kilos * y.bitter := Int.mul_nonneg h5 h7
  have m4 : y.kilos * y.bitter ≤ 10000 * 1000 := Int.mul_le_mul h6 h8 h7 (by omega)
  have e1 : kilosTo [x, y] 2 = wrap64 (wrap64 (0 + x.kilos) + y.kilos) := rfl
  have e2 : gramsTo [x, y] 2 = wrap64 (wrap64 (0 + wrap64 (x.kilos * x.bitter)) + wrap64 (y.kilos * y.bitter)) := rfl
  rw [e1, e2]
  generalize x.kilos * x.bitter = a at *
  generalize y.kilos * y.bitter = b at *
  have w1 : wrap64 (wrap64 (0 + x.kilos) + y.kilos) = x.kilos + y.kilos := by unfold wrap64; omega
  have w2 : wrap64 (wrap64 (0 + wrap64 a) + wrap64 b) = a + b := by unfold wrap64; omega
  rw [w1, w2]
  exact ⟨rfl, rfl, by omega, by omega⟩
theorem put3 (w : World) (g p : Nat) (a b c : Value) : ((w.setCell ⟨g, p * 3, none⟩ a).setCell ⟨g, p * 3 + 1, none⟩ b).setCell ⟨g, p * 3 + 2, none⟩ c = putC w g (p * 3) [a, b, c] := rfl
theorem bit_put {w : World} {base g n c p : Nat} {e : TypeId} {l : List Bittern} (h : Own encBittern w base e (.slice (some ⟨g, 0, none⟩) n c) l) (hp : p < n) (y : Bittern) :
    Own encBittern (putC w g (p * 3) [.int .i64 y.id, .int .i64 y.kilos, .int .i64 y.bitter]) base e (.slice (some ⟨g, 0, none⟩) n c) (l.set p y) := h.setElem hp y
set_option maxRecDepth 4000 in
set_option maxHeartbeats 8000000 in
theorem impl_PourCask_any (l : List Bittern) (n : Nat) (hn : l.length = n) (A : Option Addr) (cap : Nat) (f t : Int) (w : World) (hl : n ≤ 1048576) (hc : Sl encBittern w w.heap.size A l) :
    Calls Tryd.prog 6 #[.slice A n cap, .int .i64 f, .int .i64 t] w fun e w' => ∃ v, e = .returned (.tuple #[v, .bool (pourOK l f t)]) ∧ Own encBittern w' w.heap.size 33 v (pourP l f t) ∧ Below w.heap.size w w' := by
  have HC := Lib.hid hc; clear hc
  have HN := Lib.hid hn; clear hn
  obtain ⟨i, hi⟩ : ∃ v, bitPlace l f = v := ⟨_, rfl⟩
  obtain ⟨k, hk⟩ : ∃ v, bitPlace l t = v := ⟨_, rfl⟩
  have HF := Lib.hid hi
  have HT := Lib.hid hk
  rcases sp4 (areBitterns l) (decide (0 ≤ i)) (decide (0 ≤ k)) (!(decide (i = k))) with t1 | ⟨t1, t2⟩ | ⟨t1, t2, t3⟩ | ⟨t1, t2, t3, t4⟩ | ⟨t1, t2, t3, t4⟩
  · have hq : pourOK l f t = false := by simp [pourOK, pourG, t1]
    have HA := Lib.hid t1
    clear t1 hi hk
    have hp := pour_no hq
    rw [hq, hp]
    clear hq hp
    go_enter Tryd.func6, Tryd.ntmps6
    go_wp2_with fail
    refine (bitternAt_any l n HN.out _ _ _ _ hl HC.out).mono ?_
    rintro e w1 ⟨rfl, b1⟩
    rw [HF.out]
    have B1 := Lib.hid b1
    clear b1
    go_wp2_with fail
    refine (bitternAt_any l n HN.out _ _ _ _ hl (HC.out.past B1.out)).mono ?_
    rintro e w2 ⟨rfl, b2⟩
    rw [HT.out]
    have B2 := Lib.hid (below_step B1.out b2)
    clear b2
    go_wp2_with fail
    refine (impl_AreBitterns_any l n HN.out _ _ _ hl (HC.out.past B2.out)).mono ?_
    rintro e w3 ⟨rfl, b3⟩
    rw [HA.out]
    have B3 := Lib.hid (below_step B2.out b3)
    clear b3
    go_wp2
    go_ret2
    exact ⟨_, rfl, Own.none_, B3.out⟩
  · have hq : pourOK l f t = false := by rw [pourOK, pourG, hi, t2]; simp
    have HA := Lib.hid t1
    have u1 : i < 0 := by simpa using t2
    clear t1 hi hk
    have hp := pour_no hq
    rw [hq, hp]
    clear hq hp
    go_enter Tryd.func6, Tryd.ntmps6
    go_wp2_with fail
    refine (bitternAt_any l n HN.out _ _ _ _ hl HC.out).mono ?_
    rintro e w1 ⟨rfl, b1⟩
    rw [HF.out]
    have B1 := Lib.hid b1
    clear b1
    go_wp2_with fail
    refine (bitternAt_any l n HN.out _ _ _ _ hl (HC.out.past B1.out)).mono ?_
    rintro e w2 ⟨rfl, b2⟩
    rw [HT.out]
    have B2 := Lib.hid (below_step B1.out b2)
    clear b2
    go_wp2_with fail
    refine (impl_AreBitterns_any l n HN.out _ _ _ hl (HC.out.past B2.out)).mono ?_
    rintro e w3 ⟨rfl, b3⟩
    rw [HA.out]
    have B3 := Lib.hid (below_step B2.out b3)
    clear b3
    go_wp2
    go_ret2
    exact ⟨_, rfl, Own.none_, B3.out⟩
  · have hq : pourOK l f t = false := by rw [pourOK, pourG, hi, hk, t3]; simp
    have HA := Lib.hid t1
    have u1 : ¬ i < 0 := by simpa using t2
    have u2 : k < 0 := by simpa using t3
    clear t1 hi hk
    have hp := pour_no hq
    rw [hq, hp]
    clear hq hp
    go_enter Tryd.func6, Tryd.ntmps6
    go_wp2_with fail
    refine (bitternAt_any l n HN.out _ _ _ _ hl HC.out).mono ?_
    rintro e w1 ⟨rfl, b1⟩
    rw [HF.out]
    have B1 := Lib.hid b1
    clear b1
    go_wp2_with fail
    refine (bitternAt_any l n HN.out _ _ _ _ hl (HC.out.past B1.out)).mono ?_
    rintro e w2 ⟨rfl, b2⟩
    rw [HT.out]
    have B2 := Lib.hid (below_step B1.out b2)
    clear b2
    go_wp2_with fail
    refine (impl_AreBitterns_any l n HN.out _ _ _ hl (HC.out.past B2.out)).mono ?_
    rintro e w3 ⟨rfl, b3⟩
    rw [HA.out]
    have B3 := Lib.hid (below_step B2.out b3)
    clear b3
    go_wp2
    go_ret2
    exact ⟨_, rfl, Own.none_, B3.out⟩
  · have hq : pourOK l f t = false := by rw [pourOK, pourG, hi, hk, t4]; simp
    have HA := Lib.hid t1
    have u1 : ¬ i < 0 := by simpa using t2
    have u2 : ¬ k < 0 := by simpa using t3
    have u3 : i = k := by simpa using t4
    clear t1 hi hk
    have hp := pour_no hq
    rw [hq, hp]
    clear hq hp
    go_enter Tryd.func6, Tryd.ntmps6
    go_wp2_with fail
    refine (bitternAt_any l n HN.out _ _ _ _ hl HC.out).mono ?_
    rintro e w1 ⟨rfl, b1⟩
    rw [HF.out]
    have B1 := Lib.hid b1
    clear b1
    go_wp2_with fail
    refine (bitternAt_any l n HN.out _ _ _ _ hl (HC.out.past B1.out)).mono ?_
    rintro e w2 ⟨rfl, b2⟩
    rw [HT.out]
    have B2 := Lib.hid (below_step B1.out b2)
    clear b2
    go_wp2_with fail
    refine (impl_AreBitterns_any l n HN.out _ _ _ hl (HC.out.past B2.out)).mono ?_
    rintro e w3 ⟨rfl, b3⟩
    rw [HA.out]
    have B3 := Lib.hid (below_step B2.out b3)
    clear b3
    go_wp2
    go_ret2
    exact ⟨_, rfl, Own.none_, B3.out⟩
  · have u3 : ¬ i = k := by simpa using t4
    obtain ⟨p, rfl, hp, hpf⟩ := bitPlace_lt hi (of_decide_eq_true t2)
    obtain ⟨q, rfl, hq, hqt⟩ := bitPlace_lt hk (of_decide_eq_true t3)
    have hpq : p ≠ q := by omega
    rw [HN.out] at hp hq
    have hG : pourOK l f t = ((!(decide (l[p]!.kilos = 0)) && !(decide (l[q]!.kilos = 0))) && areBitterns (pourAt l p q)) := by
      rw [pourOK, pourG, hi, hk, t1, t2, t3, t4]; simp only [Int.toNat_natCast, Bool.true_and]
    have hP : pourOK l f t = true → pourP l f t = pourAt l p q := fun h => by rw [pourP, if_pos h, hi, hk]; rfl
    obtain ⟨bk, off, rfl, hb, hcs⟩ := HC.out.bittern (by rw [HN.out]; omega)
    have hx : l[p]? = some l[p]! := by rw [getElem!_pos l p (by rw [HN.out]; exact hp)]; exact List.getElem?_eq_getElem _
    have hy : l[q]? = some l[q]! := by rw [getElem!_pos l q (by rw [HN.out]; exact hq)]; exact List.getElem?_eq_getElem _
    obtain ⟨c0, c1, c2⟩ := hcs p _ hx
    obtain ⟨d0, d1, d2⟩ := hcs q _ hy
    have hokx := areBitterns_ok t1 hx
    have hoky := areBitterns_ok t1 hy
    obtain ⟨_, ⟨x1, x2⟩, _⟩ := bitternOK_at hokx
    obtain ⟨_, ⟨y1, y2⟩, _⟩ := bitternOK_at hoky
    obtain ⟨s1, s2, s3, s4⟩ := two_sums hokx hoky
    have hn8 : n ≤ 8 := by have := areBitterns_len t1; rw [HN.out] at this; exact this
    have hA : pourAt l p q = (l.set p (emptied l[p]!)).set q (filled l[p]! l[q]!) := rfl
    generalize l[p]! = x at *
    generalize l[q]! = y at *
    have HA := Lib.hid t1
    have HX := Lib.hid hx
    have HY := Lib.hid hy
    have HG := Lib.hid hG
    have HP := Lib.hid hP
    have HPA := Lib.hid hA
    have C0 := Lib.hid c0; have C1 := Lib.hid c1; have C2 := Lib.hid c2
    have D0 := Lib.hid d0; have D1 := Lib.hid d1; have D2 := Lib.hid d2
    clear t1 t2 t3 t4 hx hy hcs hG hP hi hk hA hokx hoky c0 c1 c2 d0 d1 d2
    have p1 : (p : Int) < n := by omega
    have p2 : (0 : Int) ≤ p := by omega
    have p3 : ¬ (p : Int) < 0 := by omega
    have q1 : (q : Int) < n := by omega
    have q2 : (0 : Int) ≤ q := by omega
    have q3 : ¬ (q : Int) < 0 := by omega
    obtain ⟨xi, xk, xb⟩ := x
    obtain ⟨yi, yk, yb⟩ := y
    dsimp only at *
    subst hpf hqt
    rcases sp2 (!(decide (xk = 0))) (!(decide (yk = 0))) with t5 | ⟨t5, t6⟩ | ⟨t5, t6⟩
    · have hq' : pourOK l xi yi = false := by rw [HG.out, t5]; rfl
      have u5 : xk = 0 := by simpa using t5
      have hq := hq'
      clear hq' t5 s1 s2 s3 s4
      have hp := pour_no hq
      rw [hq, hp]
      clear hq hp
      go_enter Tryd.func6, Tryd.ntmps6
      go_wp2_with fail
      refine (bitternAt_any l n HN.out _ _ _ _ hl HC.out).mono ?_
      rintro e w1 ⟨rfl, b1⟩
      rw [HF.out]
      have B1 := Lib.hid b1
      clear b1
      go_wp2_with fail
      refine (bitternAt_any l n HN.out _ _ _ _ hl (HC.out.past B1.out)).mono ?_
      rintro e w2 ⟨rfl, b2⟩
      rw [HT.out]
      have B2 := Lib.hid (below_step B1.out b2)
      clear b2
      go_wp2_with fail
      refine (impl_AreBitterns_any l n HN.out _ _ _ hl (HC.out.past B2.out)).mono ?_
      rintro e w3 ⟨rfl, b3⟩
      rw [HA.out]
      have B3 := Lib.hid (below_step B2.out b3)
      clear b3
      have c1 := C1.out
      have d1 := D1.out
      rw [← B3.out.cell hb] at c1 d1
      have hbw : bk < w3.heap.size := by have := B3.out.size; omega
      go_wp2
      go_ret2
      exact ⟨_, rfl, Own.none_, B3.out⟩
    · have hq' : pourOK l xi yi = false := by rw [HG.out, t6, t5]; rfl
      have u5 : ¬ xk = 0 := by simpa using t5
      have u6 : yk = 0 := by simpa using t6
      have hq := hq'
      clear hq' t5 t6 s1 s2 s3 s4
      have hp := pour_no hq
      rw [hq, hp]
      clear hq hp
      go_enter Tryd.func6, Tryd.ntmps6
      go_wp2_with fail
      refine (bitternAt_any l n HN.out _ _ _ _ hl HC.out).mono ?_
      rintro e w1 ⟨rfl, b1⟩
      rw [HF.out]
      have B1 := Lib.hid b1
      clear b1
      go_wp2_with fail
      refine (bitternAt_any l n HN.out _ _ _ _ hl (HC.out.past B1.out)).mono ?_
      rintro e w2 ⟨rfl, b2⟩
      rw [HT.out]
      have B2 := Lib.hid (below_step B1.out b2)
      clear b2
      go_wp2_with fail
      refine (impl_AreBitterns_any l n HN.out _ _ _ hl (HC.out.past B2.out)).mono ?_
      rintro e w3 ⟨rfl, b3⟩
      rw [HA.out]
      have B3 := Lib.hid (below_step B2.out b3)
      clear b3
      have c1 := C1.out
      have d1 := D1.out
      rw [← B3.out.cell hb] at c1 d1
      have hbw : bk < w3.heap.size := by have := B3.out.size; omega
      go_wp2
      go_ret2
      exact ⟨_, rfl, Own.none_, B3.out⟩
    · have u5 : ¬ xk = 0 := by simpa using t5
      have u6 : ¬ yk = 0 := by simpa using t6
      obtain ⟨K, hK⟩ : ∃ K, kilosTo [⟨xi, xk, xb⟩, ⟨yi, yk, yb⟩] 2 = K := ⟨_, rfl⟩
      obtain ⟨G, hGr⟩ : ∃ K, gramsTo [⟨xi, xk, xb⟩, ⟨yi, yk, yb⟩] 2 = K := ⟨_, rfl⟩
      obtain ⟨D, hD⟩ : ∃ D, G.tdiv K = D := ⟨_, rfl⟩
      have hfi : filled ⟨xi, xk, xb⟩ ⟨yi, yk, yb⟩ = ⟨yi, K, D⟩ := by rw [filled, pourK, pourB, hK, hGr, hD]
      have HFI := Lib.hid hfi
      rw [hK] at s1
      rw [hGr] at s3 s4
      have v1 : (xk == 0) = false := beq_eq_false_iff_ne.2 u5
      have v2 : (yk == 0) = false := beq_eq_false_iff_ne.2 u6
      have v3 : ((p : Int) == (q : Int)) = false := beq_eq_false_iff_ne.2 u3
      have v4 : decide ((p : Int) < 0) = false := decide_eq_false p3
      have v5 : decide ((q : Int) < 0) = false := decide_eq_false q3
      have k1 : (K == 0) = false := beq_eq_false_iff_ne.2 (by omega)
      have k2 : ¬ K = 0 := by omega
      have hDr : 0 ≤ D ∧ D ≤ 20000000 := by
        obtain ⟨Gn, rfl⟩ : ∃ m : Nat, G = m := ⟨G.toNat, by omega⟩
        obtain ⟨Kn, rfl⟩ : ∃ m : Nat, K = m := ⟨K.toNat, by omega⟩
        rw [tdiv_nat] at hD
        have h1 := Nat.div_le_self Gn Kn
        generalize Gn / Kn = z at *
        omega
      have kd : IntKind.i64.wrap (G.tdiv K) = D := by rw [hD]; exact IntWalk.i64_in _ (by omega)
      have kd' : wrap64 (G.tdiv K) = D := by rw [hD]; unfold wrap64; omega
      have HK := Lib.hid hK
      have HGr := Lib.hid hGr
      have HGG := Lib.hid (show pourOK l xi yi = areBitterns (pourAt l p q) by rw [HG.out, t5, t6]; simp)
      clear hfi hK hGr t5 t6 s1 s2 s3 s4 HG x1 x2 y1 y2
      go_enter Tryd.func6, Tryd.ntmps6
      go_wp2_with fail
      refine (bitternAt_any l n HN.out _ _ _ _ hl HC.out).mono ?_
      rintro e w1 ⟨rfl, b1⟩
      rw [HF.out]
      have B1 := Lib.hid b1
      clear b1
      go_wp2_with fail
      refine (bitternAt_any l n HN.out _ _ _ _ hl (HC.out.past B1.out)).mono ?_
      rintro e w2 ⟨rfl, b2⟩
      rw [HT.out]
      have B2 := Lib.hid (below_step B1.out b2)
      clear b2
      go_wp2_with fail
      refine (impl_AreBitterns_any l n HN.out _ _ _ hl (HC.out.past B2.out)).mono ?_
      rintro e w3 ⟨rfl, b3⟩
      rw [HA.out]
      have B3 := Lib.hid (below_step B2.out b3)
      clear b3
      have c1 := C1.out
      have d1 := D1.out
      rw [← B3.out.cell hb] at c1 d1
      have hbw : bk < w3.heap.size := by have := B3.out.size; omega
      go_wp2_with fail
      refine (cloneBittern_any l n HN.out _ _ _ hl (HC.out.past B3.out)).mono ?_
      rintro e w4 ⟨v4, rfl, o4, b4⟩
      obtain ⟨A4, c4, rfl, _, _, _⟩ := o4.slice
      rw [HN.out] at o4 ⊢
      obtain ⟨g, rfl⟩ := o4.some_ (by omega)
      have B4 := Lib.hid (below_step B3.out b4)
      have O4 := Lib.hid (o4.lower B3.out.size)
      clear o4 b4 c1 d1 hbw
      have c0 := C0.out; have c1 := C1.out; have c2 := C2.out
      have d0 := D0.out; have d1 := D1.out; have d2 := D2.out
      rw [← B4.out.cell hb] at c0 c1 c2 d0 d1 d2
      have hbw : bk < w4.heap.size := by have := B4.out.size; omega
      go_upto_region 5 with (fail)
      have HAM := Lib.hid (show ∀ (W : World) (A : Option Addr), Sl encBittern W W.heap.size A [⟨xi, xk, xb⟩, ⟨yi, yk, yb⟩] → Calls Tryd.prog 25 #[.slice A 2 2] W fun e w' => e = .returned (.tuple #[.int .i64 K, .int .i64 G]) ∧ Below W.heap.size W w' from fun W A h => by
        have := amounts_any [⟨xi, xk, xb⟩, ⟨yi, yk, yb⟩] 2 rfl A 2 W (by omega) h
        rw [HK.out, HGr.out] at this
        exact this)
      have HKP := Lib.hid (show ∀ W, Below w4.heap.size w4 W → (W.cell? ⟨bk, off + p * 3, none⟩ = some (.int .i64 xi) ∧ W.cell? ⟨bk, off + p * 3 + 1, none⟩ = some (.int .i64 xk) ∧ W.cell? ⟨bk, off + p * 3 + 2, none⟩ = some (.int .i64 xb) ∧ W.cell? ⟨bk, off + q * 3, none⟩ = some (.int .i64 yi) ∧ W.cell? ⟨bk, off + q * 3 + 1, none⟩ = some (.int .i64 yk) ∧ W.cell? ⟨bk, off + q * 3 + 2, none⟩ = some (.int .i64 yb)) from fun W hW => ⟨(hW.cell hbw).trans c0, (hW.cell hbw).trans c1, (hW.cell hbw).trans c2, (hW.cell hbw).trans d0, (hW.cell hbw).trans d1, (hW.cell hbw).trans d2⟩)
      go_region_held3 (fun W => W.cell? ⟨bk, off + p * 3, none⟩ = some (.int .i64 xi) ∧ W.cell? ⟨bk, off + p * 3 + 1, none⟩ = some (.int .i64 xk) ∧ W.cell? ⟨bk, off + p * 3 + 2, none⟩ = some (.int .i64 xb) ∧ W.cell? ⟨bk, off + q * 3, none⟩ = some (.int .i64 yi) ∧ W.cell? ⟨bk, off + q * 3 + 1, none⟩ = some (.int .i64 yk) ∧ W.cell? ⟨bk, off + q * 3 + 2, none⟩ = some (.int .i64 yb)) (go_keep)
        (first | (go_at_call 25; refine (HAM.out _ _ (Own.sl (e := 33) (Own.build (n := 2) (base := 0) (Nat.zero_le _) (by first | exact Blk.new _ _ _ | exact Blk.new_ _ _ _ _ (by simp) | exact (Blk.new _ _ _).drewN _ | exact (Blk.new _ _ _).gw _) rfl rfl (by decide))).2).mono ?_; rintro e w5 ⟨rfl, b5⟩; have b54 := Lib.hid (below_step (show Below w4.heap.size w4 _ from (by repeat (first | assumption | exact Below.refl _ _ | apply bl_gw | apply bl_alloc | apply bl_drewN | apply bl_drew))) b5); obtain ⟨M0, M1, M2, M3, M4, M5⟩ := HKP.out w5 b54.out; have hbw5 : bk < w5.heap.size := Nat.lt_of_lt_of_le hbw b54.out.size; clear b5))
      have b54 := b54.out
      have B5 := Lib.hid (below_step B4.out b54)
      have O5 := Lib.hid (O4.out.past b54 (Nat.le_refl _))
      obtain ⟨hg5, e0, e1, e2⟩ := O5.out.bittern HX.out
      have hgl : w.heap.size ≤ g := O5.out.lo ⟨g, 0, none⟩ rfl
      clear b54 c0 c1 c2 d0 d1 d2 O4 HKP HAM M0 M1 M2 M3 M4 M5
      have f1 := O5.out.thaw (p * 3 + 1)
      have f2 := O5.out.thaw (p * 3 + 2)
      go_upto_region 7 with (fail)
      refine wp_name (fun W6 hW6 => ?_)
      clear e0 e1 e2
      have o6 := ((O5.out.setField (i := p) (j := 1) (y := ⟨xi, 0, xb⟩) (z := 0) hp HX.out (by decide) rfl (o := p * 3 + 1) rfl).setField (i := p) (j := 2) (x := ⟨xi, 0, xb⟩) (y := ⟨xi, 0, 0⟩) (z := 0) hp (by rw [List.getElem?_set_self (by rw [HN.out]; exact hp)]) (by decide) rfl (o := p * 3 + 2) rfl)
      rw [List.set_set] at o6
      have b6 := (B5.out.setCell (p := ⟨g, p * 3 + 1, none⟩) hgl (.int .i64 0)).setCell (p := ⟨g, p * 3 + 2, none⟩) hgl (.int .i64 0)
      rw [← hW6] at o6 b6
      have O6 := Lib.hid o6
      have B6 := Lib.hid b6
      clear o6 b6 hW6 O5
      have HY6 := Lib.hid (show (l.set p ⟨xi, 0, 0⟩)[q]? = some ⟨yi, yk, yb⟩ by rw [List.getElem?_set_ne hpq]; exact HY.out)
      obtain ⟨hg6, e0, e1, e2⟩ := O6.out.bittern HY6.out
      dsimp only at e0 e1 e2
      have f0 := O6.out.thaw (q * 3)
      have f1 := O6.out.thaw (q * 3 + 1)
      have f2 := O6.out.thaw (q * 3 + 2)
      go_region
      have o7 := ((O6.out.setField (i := q) (j := 1) (y := ⟨yi, K, yb⟩) (z := K) hq HY6.out (by decide) rfl (o := q * 3 + 1) rfl).setField (i := q) (j := 2) (x := ⟨yi, K, yb⟩) (y := ⟨yi, K, D⟩) (z := D) hq (by rw [List.getElem?_set_self (by rw [List.length_set, HN.out]; exact hq)]) (by decide) rfl (o := q * 3 + 2) rfl)
      rw [List.set_set] at o7
      have b7 := (B6.out.setCell (p := ⟨g, q * 3 + 1, none⟩) hgl (.int .i64 K)).setCell (p := ⟨g, q * 3 + 2, none⟩) hgl (.int .i64 D)
      have O7 := Lib.hid (o7.past (bl_drew (Below.refl _ _)) (Nat.le_refl _))
      have B7 := Lib.hid (bl_drew b7)
      clear o7 b7 O6 B6 e0 e1 e2 f0 f1 f2
      go_wp2_with fail
      have hE : pourAt l p q = (l.set p ⟨xi, 0, 0⟩).set q ⟨yi, K, D⟩ := by rw [HPA.out, HFI.out]; rfl
      have hlen : (pourAt l p q).length = n := by rw [hE, List.length_set, List.length_set]; exact HN.out
      refine (impl_AreBitterns_any (pourAt l p q) n hlen _ _ _ (by omega) (hE ▸ O7.out.rd)).mono ?_
      rintro e w8 ⟨rfl, b8⟩
      have O8 := Lib.hid (hE ▸ O7.out.past b8 (Nat.le_refl _))
      have B8 := Lib.hid (below_step B7.out b8)
      clear b8 O7 B7 hE
      rcases sp1 (areBitterns (pourAt l p q)) with t5 | t5
      · have hq := HGG.out.trans t5
        have HQ := Lib.hid hq
        have HSP := Lib.hid (pour_no hq)
        rw [t5]
        clear hq t5
        go_wp2
        go_ret2
        rw [HQ.out, HSP.out]
        exact ⟨_, rfl, Own.none_, B8.out⟩
      · have hq := HGG.out.trans t5
        have HQ := Lib.hid hq
        have HSP := Lib.hid (HP.out hq)
        rw [t5]
        clear hq t5
        go_wp2
        go_ret2
        rw [HQ.out, HSP.out]
        exact ⟨_, rfl, O8.out, B8.out⟩
set_option maxRecDepth 4000 in
set_option maxHeartbeats 8000000 in
theorem spec_PourCask_any (l : List Bittern) (n : Nat) (hn : l.length = n) (A : Option Addr) (cap : Nat) (f t : Int) (w : World) (hl : n ≤ 1048576) (hc : Sl encBittern w w.heap.size A l) :
    Calls Tryd.prog 7 #[.slice A n cap, .int .i64 f, .int .i64 t] w fun e w' => ∃ v, e = .returned (.tuple #[v, .bool (pourOK l f t)]) ∧ Own encBittern w' w.heap.size 33 v (pourP l f t) ∧ Below w.heap.size w w' := by
  have HC := Lib.hid hc; clear hc
  have HN := Lib.hid hn; clear hn
  obtain ⟨i, hi⟩ : ∃ v, bitPlace l f = v := ⟨_, rfl⟩
  obtain ⟨k, hk⟩ : ∃ v, bitPlace l t = v := ⟨_, rfl⟩
  have HF := Lib.hid hi
  have HT := Lib.hid hk
  rcases sp4 (areBitterns l) (decide (0 ≤ i)) (decide (0 ≤ k)) (!(decide (i = k))) with t1 | ⟨t1, t2⟩ | ⟨t1, t2, t3⟩ | ⟨t1, t2, t3, t4⟩ | ⟨t1, t2, t3, t4⟩
  · have hq : pourOK l f t = false := by simp [pourOK, pourG, t1]
    have HA := Lib.hid t1
    clear t1 hi hk
    have hp := pour_no hq
    rw [hq, hp]
    clear hq hp
    go_enter Tryd.func7, Tryd.ntmps7
    go_wp2_with fail
    refine (l15Find_any l n HN.out _ _ _ _ hl HC.out).mono ?_
    rintro e w1 ⟨rfl, b1⟩
    rw [HF.out]
    have B1 := Lib.hid b1
    clear b1
    go_wp2_with fail
    refine (l15Find_any l n HN.out _ _ _ _ hl (HC.out.past B1.out)).mono ?_
    rintro e w2 ⟨rfl, b2⟩
    rw [HT.out]
    have B2 := Lib.hid (below_step B1.out b2)
    clear b2
    go_wp2_with fail
    refine (l15Good_any l n HN.out _ _ _ hl (HC.out.past B2.out)).mono ?_
    rintro e w3 ⟨rfl, b3⟩
    rw [HA.out]
    have B3 := Lib.hid (below_step B2.out b3)
    clear b3
    go_wp2
    go_ret2
    exact ⟨_, rfl, Own.nil_ B3.out.size _, bl_alloc B3.out _⟩
  · have hq : pourOK l f t = false := by rw [pourOK, pourG, hi, t2]; simp
    have HA := Lib.hid t1
    have u1 : i < 0 := by simpa using t2
    clear t1 hi hk
    have hp := pour_no hq
    rw [hq, hp]
    clear hq hp
    go_enter Tryd.func7, Tryd.ntmps7
    go_wp2_with fail
    refine (l15Find_any l n HN.out _ _ _ _ hl HC.out).mono ?_
    rintro e w1 ⟨rfl, b1⟩
    rw [HF.out]
    have B1 := Lib.hid b1
    clear b1
    go_wp2_with fail
    refine (l15Find_any l n HN.out _ _ _ _ hl (HC.out.past B1.out)).mono ?_
    rintro e w2 ⟨rfl, b2⟩
    rw [HT.out]
    have B2 := Lib.hid (below_step B1.out b2)
    clear b2
    go_wp2_with fail
    refine (l15Good_any l n HN.out _ _ _ hl (HC.out.past B2.out)).mono ?_
    rintro e w3 ⟨rfl, b3⟩
    rw [HA.out]
    have B3 := Lib.hid (below_step B2.out b3)
    clear b3
    go_wp2
    go_ret2
    exact ⟨_, rfl, Own.nil_ B3.out.size _, bl_alloc B3.out _⟩
  · have hq : pourOK l f t = false := by rw [pourOK, pourG, hi, hk, t3]; simp
    have HA := Lib.hid t1
    have u1 : ¬ i < 0 := by simpa using t2
    have u2 : k < 0 := by simpa using t3
    clear t1 hi hk
    have hp := pour_no hq
    rw [hq, hp]
    clear hq hp
    go_enter Tryd.func7, Tryd.ntmps7
    go_wp2_with fail
    refine (l15Find_any l n HN.out _ _ _ _ hl HC.out).mono ?_
    rintro e w1 ⟨rfl, b1⟩
    rw [HF.out]
    have B1 := Lib.hid b1
    clear b1
    go_wp2_with fail
    refine (l15Find_any l n HN.out _ _ _ _ hl (HC.out.past B1.out)).mono ?_
    rintro e w2 ⟨rfl, b2⟩
    rw [HT.out]
    have B2 := Lib.hid (below_step B1.out b2)
    clear b2
    go_wp2_with fail
    refine (l15Good_any l n HN.out _ _ _ hl (HC.out.past B2.out)).mono ?_
    rintro e w3 ⟨rfl, b3⟩
    rw [HA.out]
    have B3 := Lib.hid (below_step B2.out b3)
    clear b3
    go_wp2
    go_ret2
    exact ⟨_, rfl, Own.nil_ B3.out.size _, bl_alloc B3.out _⟩
  · have hq : pourOK l f t = false := by rw [pourOK, pourG, hi, hk, t4]; simp
    have HA := Lib.hid t1
    have u1 : ¬ i < 0 := by simpa using t2
    have u2 : ¬ k < 0 := by simpa using t3
    have u3 : i = k := by simpa using t4
    clear t1 hi hk
    have hp := pour_no hq
    rw [hq, hp]
    clear hq hp
    go_enter Tryd.func7, Tryd.ntmps7
    go_wp2_with fail
    refine (l15Find_any l n HN.out _ _ _ _ hl HC.out).mono ?_
    rintro e w1 ⟨rfl, b1⟩
    rw [HF.out]
    have B1 := Lib.hid b1
    clear b1
    go_wp2_with fail
    refine (l15Find_any l n HN.out _ _ _ _ hl (HC.out.past B1.out)).mono ?_
    rintro e w2 ⟨rfl, b2⟩
    rw [HT.out]
    have B2 := Lib.hid (below_step B1.out b2)
    clear b2
    go_wp2_with fail
    refine (l15Good_any l n HN.out _ _ _ hl (HC.out.past B2.out)).mono ?_
    rintro e w3 ⟨rfl, b3⟩
    rw [HA.out]
    have B3 := Lib.hid (below_step B2.out b3)
    clear b3
    go_wp2
    go_ret2
    exact ⟨_, rfl, Own.nil_ B3.out.size _, bl_alloc B3.out _⟩
  · have u3 : ¬ i = k := by simpa using t4
    obtain ⟨p, rfl, hp, hpf⟩ := bitPlace_lt hi (of_decide_eq_true t2)
    obtain ⟨q, rfl, hq, hqt⟩ := bitPlace_lt hk (of_decide_eq_true t3)
    have hpq : p ≠ q := by omega
    rw [HN.out] at hp hq
    have hG : pourOK l f t = ((!(decide (l[p]!.kilos = 0)) && !(decide (l[q]!.kilos = 0))) && areBitterns (pourAt l p q)) := by
      rw [pourOK, pourG, hi, hk, t1, t2, t3, t4]; simp only [Int.toNat_natCast, Bool.true_and]
    have hP : pourOK l f t = true → pourP l f t = pourAt l p q := fun h => by rw [pourP, if_pos h, hi, hk]; rfl
    obtain ⟨bk, off, rfl, hb, hcs⟩ := HC.out.bittern (by rw [HN.out]; omega)
    have hx : l[p]? = some l[p]! := by rw [getElem!_pos l p (by rw [HN.out]; exact hp)]; exact List.getElem?_eq_getElem _
    have hy : l[q]? = some l[q]! := by rw [getElem!_pos l q (by rw [HN.out]; exact hq)]; exact List.getElem?_eq_getElem _
    obtain ⟨c0, c1, c2⟩ := hcs p _ hx
    obtain ⟨d0, d1, d2⟩ := hcs q _ hy
    have hokx := areBitterns_ok t1 hx
    have hoky := areBitterns_ok t1 hy
    obtain ⟨_, ⟨x1, x2⟩, _⟩ := bitternOK_at hokx
    obtain ⟨_, ⟨y1, y2⟩, _⟩ := bitternOK_at hoky
    obtain ⟨s1, s2, s3, s4⟩ := two_sums hokx hoky
    have hn8 : n ≤ 8 := by have := areBitterns_len t1; rw [HN.out] at this; exact this
    have hA : pourAt l p q = (l.set p (emptied l[p]!)).set q (filled l[p]! l[q]!) := rfl
    generalize l[p]! = x at *
    generalize l[q]! = y at *
    have HA := Lib.hid t1
    have HX := Lib.hid hx
    have HY := Lib.hid hy
    have HG := Lib.hid hG
    have HP := Lib.hid hP
    have HPA := Lib.hid hA
    have C0 := Lib.hid c0; have C1 := Lib.hid c1; have C2 := Lib.hid c2
    have D0 := Lib.hid d0; have D1 := Lib.hid d1; have D2 := Lib.hid d2
    clear t1 t2 t3 t4 hx hy hcs hG hP hi hk hA hokx hoky c0 c1 c2 d0 d1 d2
    have p1 : (p : Int) < n := by omega
    have p2 : (0 : Int) ≤ p := by omega
    have p3 : ¬ (p : Int) < 0 := by omega
    have q1 : (q : Int) < n := by omega
    have q2 : (0 : Int) ≤ q := by omega
    have q3 : ¬ (q : Int) < 0 := by omega
    obtain ⟨xi, xk, xb⟩ := x
    obtain ⟨yi, yk, yb⟩ := y
    dsimp only at *
    subst hpf hqt
    rcases sp2 (!(decide (xk = 0))) (!(decide (yk = 0))) with t5 | ⟨t5, t6⟩ | ⟨t5, t6⟩
    · have hq' : pourOK l xi yi = false := by rw [HG.out, t5]; rfl
      have u5 : xk = 0 := by simpa using t5
      have hq := hq'
      clear hq' t5 s1 s2 s3 s4
      have hp := pour_no hq
      rw [hq, hp]
      clear hq hp
      go_enter Tryd.func7, Tryd.ntmps7
      go_wp2_with fail
      refine (l15Find_any l n HN.out _ _ _ _ hl HC.out).mono ?_
      rintro e w1 ⟨rfl, b1⟩
      rw [HF.out]
      have B1 := Lib.hid b1
      clear b1
      go_wp2_with fail
      refine (l15Find_any l n HN.out _ _ _ _ hl (HC.out.past B1.out)).mono ?_
      rintro e w2 ⟨rfl, b2⟩
      rw [HT.out]
      have B2 := Lib.hid (below_step B1.out b2)
      clear b2
      go_wp2_with fail
      refine (l15Good_any l n HN.out _ _ _ hl (HC.out.past B2.out)).mono ?_
      rintro e w3 ⟨rfl, b3⟩
      rw [HA.out]
      have B3 := Lib.hid (below_step B2.out b3)
      clear b3
      have c1 := C1.out
      have d1 := D1.out
      rw [← B3.out.cell hb] at c1 d1
      have hbw : bk < w3.heap.size := by have := B3.out.size; omega
      go_wp2
      go_ret2
      exact ⟨_, rfl, Own.nil_ B3.out.size _, bl_alloc B3.out _⟩
    · have hq' : pourOK l xi yi = false := by rw [HG.out, t6, t5]; rfl
      have u5 : ¬ xk = 0 := by simpa using t5
      have u6 : yk = 0 := by simpa using t6
      have hq := hq'
      clear hq' t5 t6 s1 s2 s3 s4
      have hp := pour_no hq
      rw [hq, hp]
      clear hq hp
      go_enter Tryd.func7, Tryd.ntmps7
      go_wp2_with fail
      refine (l15Find_any l n HN.out _ _ _ _ hl HC.out).mono ?_
      rintro e w1 ⟨rfl, b1⟩
      rw [HF.out]
      have B1 := Lib.hid b1
      clear b1
      go_wp2_with fail
      refine (l15Find_any l n HN.out _ _ _ _ hl (HC.out.past B1.out)).mono ?_
      rintro e w2 ⟨rfl, b2⟩
      rw [HT.out]
      have B2 := Lib.hid (below_step B1.out b2)
      clear b2
      go_wp2_with fail
      refine (l15Good_any l n HN.out _ _ _ hl (HC.out.past B2.out)).mono ?_
      rintro e w3 ⟨rfl, b3⟩
      rw [HA.out]
      have B3 := Lib.hid (below_step B2.out b3)
      clear b3
      have c1 := C1.out
      have d1 := D1.out
      rw [← B3.out.cell hb] at c1 d1
      have hbw : bk < w3.heap.size := by have := B3.out.size; omega
      go_wp2
      go_ret2
      exact ⟨_, rfl, Own.nil_ B3.out.size _, bl_alloc B3.out _⟩
    · have u5 : ¬ xk = 0 := by simpa using t5
      have u6 : ¬ yk = 0 := by simpa using t6
      obtain ⟨K, hK⟩ : ∃ K, kilosTo [⟨xi, xk, xb⟩, ⟨yi, yk, yb⟩] 2 = K := ⟨_, rfl⟩
      obtain ⟨G, hGr⟩ : ∃ K, gramsTo [⟨xi, xk, xb⟩, ⟨yi, yk, yb⟩] 2 = K := ⟨_, rfl⟩
      obtain ⟨D, hD⟩ : ∃ D, G.tdiv K = D := ⟨_, rfl⟩
      have hfi : filled ⟨xi, xk, xb⟩ ⟨yi, yk, yb⟩ = ⟨yi, K, D⟩ := by rw [filled, pourK, pourB, hK, hGr, hD]
      have HFI := Lib.hid hfi
      rw [hK] at s1
      rw [hGr] at s3 s4
      have v1 : (xk == 0) = false := beq_eq_false_iff_ne.2 u5
      have v2 : (yk == 0) = false := beq_eq_false_iff_ne.2 u6
      have v3 : ((p : Int) == (q : Int)) = false := beq_eq_false_iff_ne.2 u3
      have v4 : decide ((p : Int) < 0) = false := decide_eq_false p3
      have v5 : decide ((q : Int) < 0) = false := decide_eq_false q3
      have k1 : (K == 0) = false := beq_eq_false_iff_ne.2 (by omega)
      have k2 : ¬ K = 0 := by omega
      have hDr : 0 ≤ D ∧ D ≤ 20000000 := by
        obtain ⟨Gn, rfl⟩ : ∃ m : Nat, G = m := ⟨G.toNat, by omega⟩
        obtain ⟨Kn, rfl⟩ : ∃ m : Nat, K = m := ⟨K.toNat, by omega⟩
        rw [tdiv_nat] at hD
        have h1 := Nat.div_le_self Gn Kn
        generalize Gn / Kn = z at *
        omega
      have kd : IntKind.i64.wrap (G.tdiv K) = D := by rw [hD]; exact IntWalk.i64_in _ (by omega)
      have kd' : wrap64 (G.tdiv K) = D := by rw [hD]; unfold wrap64; omega
      have HK := Lib.hid hK
      have HGr := Lib.hid hGr
      have HGG := Lib.hid (show pourOK l xi yi = areBitterns (pourAt l p q) by rw [HG.out, t5, t6]; simp)
      clear hfi hK hGr t5 t6 s1 s2 s3 s4 HG x1 x2 y1 y2
      go_enter Tryd.func7, Tryd.ntmps7
      go_wp2_with fail
      refine (l15Find_any l n HN.out _ _ _ _ hl HC.out).mono ?_
      rintro e w1 ⟨rfl, b1⟩
      rw [HF.out]
      have B1 := Lib.hid b1
      clear b1
      go_wp2_with fail
      refine (l15Find_any l n HN.out _ _ _ _ hl (HC.out.past B1.out)).mono ?_
      rintro e w2 ⟨rfl, b2⟩
      rw [HT.out]
      have B2 := Lib.hid (below_step B1.out b2)
      clear b2
      go_wp2_with fail
      refine (l15Good_any l n HN.out _ _ _ hl (HC.out.past B2.out)).mono ?_
      rintro e w3 ⟨rfl, b3⟩
      rw [HA.out]
      have B3 := Lib.hid (below_step B2.out b3)
      clear b3
      have c1 := C1.out
      have d1 := D1.out
      rw [← B3.out.cell hb] at c1 d1
      have hbw : bk < w3.heap.size := by have := B3.out.size; omega
      obtain ⟨j0, hinf', hy0, hy1, hy2⟩ := info_parts info_Bittern
      go_wp2_with (at_builtin; refine wpList_app (E := encBittern) _ rfl (.tmp 52) (.tmp 53) 24 rfl w.heap.size 33 j0 _ 24 Tryd.underlying24 hinf' hy0 hy1 hy2 rfl (by decide) (.slice (some ⟨w3.heap.size, 0, none⟩) 0 0) [] rfl (Own.nil_ B3.out.size _) _ _ n cap l rfl HN.out (HC.out.past (bl_alloc B3.out _)) (by simp [maxLen]; omega) (by simp; omega) (by simp; have := B3.out.size; omega) ?_; intro v4 w4 o4 g4 _; have b4 := below_grown (bl_alloc B3.out _) g4 (by intro k hk; simp [Value.ownBlock] at hk; have := B3.out.size; omega); rw [List.nil_append] at o4; have B4 := Lib.hid b4; obtain ⟨A4, c4, rfl, _, _, _⟩ := o4.slice; rw [HN.out] at o4 ⊢; obtain ⟨g, rfl⟩ := o4.some_ (by omega); have O4 := Lib.hid o4; clear o4 g4 b4 c1 d1 hbw)
      have c0 := C0.out; have c1 := C1.out; have c2 := C2.out
      have d0 := D0.out; have d1 := D1.out; have d2 := D2.out
      rw [← B4.out.cell hb] at c0 c1 c2 d0 d1 d2
      have hbw : bk < w4.heap.size := by have := B4.out.size; omega
      go_upto_region 5 with (fail)
      have HAM := Lib.hid (show ∀ (W : World) (A : Option Addr), Sl encBittern W W.heap.size A [⟨xi, xk, xb⟩, ⟨yi, yk, yb⟩] → Calls Tryd.prog 28 #[.slice A 2 2] W fun e w' => e = .returned (.tuple #[.int .i64 K, .int .i64 G]) ∧ Below W.heap.size W w' from fun W A h => by
        have := l15Sums_any [⟨xi, xk, xb⟩, ⟨yi, yk, yb⟩] 2 rfl A 2 W (by omega) h
        rw [HK.out, HGr.out] at this
        exact this)
      have HKP := Lib.hid (show ∀ W, Below w4.heap.size w4 W → (W.cell? ⟨bk, off + p * 3, none⟩ = some (.int .i64 xi) ∧ W.cell? ⟨bk, off + p * 3 + 1, none⟩ = some (.int .i64 xk) ∧ W.cell? ⟨bk, off + p * 3 + 2, none⟩ = some (.int .i64 xb) ∧ W.cell? ⟨bk, off + q * 3, none⟩ = some (.int .i64 yi) ∧ W.cell? ⟨bk, off + q * 3 + 1, none⟩ = some (.int .i64 yk) ∧ W.cell? ⟨bk, off + q * 3 + 2, none⟩ = some (.int .i64 yb)) from fun W hW => ⟨(hW.cell hbw).trans c0, (hW.cell hbw).trans c1, (hW.cell hbw).trans c2, (hW.cell hbw).trans d0, (hW.cell hbw).trans d1, (hW.cell hbw).trans d2⟩)
      go_region_held3 (fun W => W.cell? ⟨bk, off + p * 3, none⟩ = some (.int .i64 xi) ∧ W.cell? ⟨bk, off + p * 3 + 1, none⟩ = some (.int .i64 xk) ∧ W.cell? ⟨bk, off + p * 3 + 2, none⟩ = some (.int .i64 xb) ∧ W.cell? ⟨bk, off + q * 3, none⟩ = some (.int .i64 yi) ∧ W.cell? ⟨bk, off + q * 3 + 1, none⟩ = some (.int .i64 yk) ∧ W.cell? ⟨bk, off + q * 3 + 2, none⟩ = some (.int .i64 yb)) (go_keep)
        (first | (go_at_call 28; refine (HAM.out _ _ (Own.sl (e := 33) (Own.build (n := 2) (base := 0) (Nat.zero_le _) (by first | exact Blk.new _ _ _ | exact Blk.new_ _ _ _ _ (by simp) | exact (Blk.new _ _ _).drewN _ | exact (Blk.new _ _ _).gw _) rfl rfl (by decide))).2).mono ?_; rintro e w5 ⟨rfl, b5⟩; have b54 := Lib.hid (below_step (show Below w4.heap.size w4 _ from (by repeat (first | assumption | exact Below.refl _ _ | apply bl_gw | apply bl_alloc | apply bl_drewN | apply bl_drew))) b5); obtain ⟨M0, M1, M2, M3, M4, M5⟩ := HKP.out w5 b54.out; have hbw5 : bk < w5.heap.size := Nat.lt_of_lt_of_le hbw b54.out.size; clear b5))
      have b54 := b54.out
      have B5 := Lib.hid (below_step B4.out b54)
      have O5 := Lib.hid (O4.out.past b54 (Nat.le_refl _))
      obtain ⟨hg5, e0, e1, e2⟩ := O5.out.bittern HX.out
      have hgl : w.heap.size ≤ g := O5.out.lo ⟨g, 0, none⟩ rfl
      clear b54 c0 c1 c2 d0 d1 d2 O4 HKP HAM M0 M1 M2 M3 M4 M5
      have f0 := O5.out.thaw (p * 3)
      have f1 := O5.out.thaw (p * 3 + 1)
      have f2 := O5.out.thaw (p * 3 + 2)
      go_upto_region 7 with (fail)
      refine wp_name (fun W6 hW6 => ?_)
      clear e0 e1 e2
      have o6 := bit_put O5.out hp ⟨xi, 0, 0⟩
      have b6 := putC_below hgl [.int .i64 xi, .int .i64 0, .int .i64 0] (p * 3) B5.out
      rw [put3] at hW6
      dsimp only at o6
      rw [← hW6] at o6 b6
      have O6 := Lib.hid o6
      have B6 := Lib.hid b6
      clear o6 b6 hW6 O5
      have HY6 := Lib.hid (show (l.set p ⟨xi, 0, 0⟩)[q]? = some ⟨yi, yk, yb⟩ by rw [List.getElem?_set_ne hpq]; exact HY.out)
      obtain ⟨hg6, e0, e1, e2⟩ := O6.out.bittern HY6.out
      dsimp only at e0 e1 e2
      have f0 := O6.out.thaw (q * 3)
      have f1 := O6.out.thaw (q * 3 + 1)
      have f2 := O6.out.thaw (q * 3 + 2)
      have o7 := bit_put O6.out hq ⟨yi, K, D⟩
      have b7 := putC_below hgl [.int .i64 yi, .int .i64 K, .int .i64 D] (q * 3) B6.out
      dsimp only at o7
      rw [← put3] at o7 b7
      have O7 := Lib.hid o7
      have B7 := Lib.hid b7
      clear o7 b7
      go_wp2_with fail
      have hE : pourAt l p q = (l.set p ⟨xi, 0, 0⟩).set q ⟨yi, K, D⟩ := by rw [HPA.out, HFI.out]; rfl
      have hlen : (pourAt l p q).length = n := by rw [hE, List.length_set, List.length_set]; exact HN.out
      refine (l15Good_any (pourAt l p q) n hlen _ _ _ (by omega) (hE ▸ O7.out.rd)).mono ?_
      rintro e w8 ⟨rfl, b8⟩
      have O8 := Lib.hid (hE ▸ O7.out.past b8 (Nat.le_refl _))
      have B8 := Lib.hid (below_step B7.out b8)
      clear b8 O7 B7 hE
      rcases sp1 (areBitterns (pourAt l p q)) with t5 | t5
      · have hq := HGG.out.trans t5
        have HQ := Lib.hid hq
        have HSP := Lib.hid (pour_no hq)
        rw [t5]
        clear hq t5
        go_wp2
        go_ret2
        rw [HQ.out, HSP.out]
        exact ⟨_, rfl, Own.nil_ B8.out.size _, bl_alloc B8.out _⟩
      · have hq := HGG.out.trans t5
        have HQ := Lib.hid hq
        have HSP := Lib.hid (HP.out hq)
        rw [t5]
        clear hq t5
        go_wp2
        go_ret2
        rw [HQ.out, HSP.out]
        exact ⟨_, rfl, O8.out, B8.out⟩
end Go.Proofs.YtcajgadgdjopdaaDoor
