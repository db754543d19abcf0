/- Casks of bittern: the text of a cask. -/
import Derived.Test.YtcajgadgdjopdaaDoorNum
import Derived.Test.YtcajgadgdjopdaaDoorBitternF
namespace Go.Proofs.YtcajgadgdjopdaaDoor
open Go.RowKit
def btA (x : Bittern) : ByteArray := numT x.kilos.toNat ++ ⟨#[32, 98, 105, 116, 116, 101, 114, 32]⟩ ++ numT x.bitter.toNat
def textOK (l : List Bittern) (f : Int) : Bool := areBitterns l && decide (0 ≤ bitPlace l f)
def textB (l : List Bittern) (f : Int) : ByteArray := if textOK l f then btA l[(bitPlace l f).toNat]! else ⟨#[]⟩
set_option maxRecDepth 4000 in
set_option maxHeartbeats 8000000 in
theorem spec_BitternText_any (l : List Bittern) (n : Nat) (hn : l.length = n) (A : Option Addr) (cap : Nat) (f : Int) (w : World) (hl : n ≤ 1048576)  (hc : Sl encBittern w w.heap.size A l) :
    Calls Tryd.prog 19 #[.slice A n cap, .int .i64 f] w fun e w' => e = .returned (.tuple #[.string (textB l f), .bool (textOK l f)]) ∧ Below w.heap.size w w' := by
  have HC := Lib.hid hc; clear hc
  have HN := Lib.hid hn; clear hn
  obtain ⟨i, hi⟩ : ∃ v, bitPlace l f = v := ⟨_, rfl⟩
  have HF := Lib.hid hi
  rcases sp2 (areBitterns l) (decide (0 ≤ i)) with t1 | ⟨t1, t2⟩ | ⟨t1, t2⟩
  · have hq : textOK l f = false := by simp [textOK, t1]
    have hp : textB l f = ⟨#[]⟩ := by simp [textB, hq]
    have HA := Lib.hid t1
    rw [hq, hp]
    clear t1 hi hq hp
    go_enter Tryd.func19, Tryd.ntmps19
    go_wp2_with fail
    refine (l15Find_any l n HN.out _ _ _ _ hl HC.out).mono ?_
    rintro e w1 ⟨rfl, b1⟩
    rw [HF.out]
    have B1 := Lib.hid b1
    clear b1
    go_wp2_with fail
    refine (l15Good_any l n HN.out _ _ _ hl (HC.out.past B1.out)).mono ?_
    rintro e w3 ⟨rfl, b3⟩
    rw [HA.out]
    have B3 := Lib.hid (below_step B1.out b3)
    clear b3
    go_wp2
    go_ret2
    exact ⟨by first | rfl | (simp; done), B3.out⟩
  · have hq : textOK l f = false := by simp [textOK, hi, t2]
    have hp : textB l f = ⟨#[]⟩ := by simp [textB, hq]
    have HA := Lib.hid t1
    have u1 : i < 0 := by simpa using t2
    rw [hq, hp]
    clear t1 hi hq hp
    go_enter Tryd.func19, Tryd.ntmps19
    go_wp2_with fail
    refine (l15Find_any l n HN.out _ _ _ _ hl HC.out).mono ?_
    rintro e w1 ⟨rfl, b1⟩
    rw [HF.out]
    have B1 := Lib.hid b1
    clear b1
    go_wp2_with fail
    refine (l15Good_any l n HN.out _ _ _ hl (HC.out.past B1.out)).mono ?_
    rintro e w3 ⟨rfl, b3⟩
    rw [HA.out]
    have B3 := Lib.hid (below_step B1.out b3)
    clear b3
    go_wp2
    go_ret2
    exact ⟨by first | rfl | (simp; done), B3.out⟩
  · obtain ⟨p, rfl, hp, hpf⟩ := bitPlace_lt hi (of_decide_eq_true t2)
    have hq : textOK l f = true := by simp [textOK, hi, t1]
    have hP : textB l f = btA l[p]! := by rw [textB, if_pos hq, hi]; rfl
    rw [HN.out] at hp
    obtain ⟨bk, off, rfl, hb, hcs⟩ := HC.out.bittern (by rw [HN.out]; omega)
    have hx : l[p]? = some l[p]! := by rw [getElem!_pos l p (by rw [HN.out]; exact hp)]; exact List.getElem?_eq_getElem _
    obtain ⟨c0, c1, c2⟩ := hcs p _ hx
    obtain ⟨_, ⟨x1, x2⟩, ⟨x3, x4⟩⟩ := bitternOK_at (areBitterns_ok t1 hx)
    rw [hq, hP]
    generalize l[p]! = x at *
    obtain ⟨xi, xk, xb⟩ := x
    dsimp only at *
    obtain ⟨a, rfl⟩ : ∃ a : Nat, xk = a := ⟨xk.toNat, by omega⟩
    obtain ⟨b, rfl⟩ : ∃ a : Nat, xb = a := ⟨xb.toNat, by omega⟩
    have ha : a ≤ 10000 := by omega
    have hb' : b ≤ 10000 := by omega
    have z1 := numT_size a (by omega)
    have z2 := numT_size b (by omega)
    have HA := Lib.hid t1
    have HB := Lib.hid (show btA ⟨xi, a, b⟩ = numT a ++ ⟨#[32, 98, 105, 116, 116, 101, 114, 32]⟩ ++ numT b by simp [btA])
    have C1 := Lib.hid c1; have C2 := Lib.hid c2
    clear t1 t2 hi hq hP hcs hx hpf c0 c1 c2
    have p1 : (p : Int) < n := by omega
    have p2 : (0 : Int) ≤ p := by omega
    have p3 : ¬ (p : Int) < 0 := by omega
    go_enter Tryd.func19, Tryd.ntmps19
    go_wp2_with fail
    refine (l15Find_any l n HN.out _ _ _ _ hl HC.out).mono ?_
    rintro e w1 ⟨rfl, b1⟩
    rw [HF.out]
    have B1 := Lib.hid b1
    clear b1
    go_wp2_with fail
    refine (l15Good_any l n HN.out _ _ _ hl (HC.out.past B1.out)).mono ?_
    rintro e w3 ⟨rfl, b3⟩
    rw [HA.out]
    have B3 := Lib.hid (below_step B1.out b3)
    clear b3
    have c1 := C1.out
    have c2 := C2.out
    rw [← B3.out.cell hb] at c1 c2
    have hbw : bk < w3.heap.size := by have := B3.out.size; omega
    go_wp2
    refine wp_region_gw (by kernel_rfl) (by kernel_rfl) ?_
    repeat (first | go_big_quiet_step ((first | (go_at_call_of 33 a; exact quiet_gw (v := .string (numT a)) (l1Num_any a _ (Nat.le_trans ha (by decide)) )) | (go_at_call_of 33 b; exact quiet_gw (v := .string (numT b)) (l1Num_any b _ (Nat.le_trans hb' (by decide)) )))) | quiet_step ((first | (go_at_call_of 33 a; exact quiet_gw (v := .string (numT a)) (l1Num_any a _ (Nat.le_trans ha (by decide)) )) | (go_at_call_of 33 b; exact quiet_gw (v := .string (numT b)) (l1Num_any b _ (Nat.le_trans hb' (by decide)) )))))
    refine wpQuiet_nil ?_
    rintro _ ⟨pq, rfl⟩
    go_wp2
    go_ret2
    rw [HB.out]
    exact ⟨rfl, bl_gw B3.out _⟩
set_option maxRecDepth 4000 in
set_option maxHeartbeats 8000000 in
theorem impl_BitternText_any (l : List Bittern) (n : Nat) (hn : l.length = n) (A : Option Addr) (cap : Nat) (f : Int) (w : World) (hl : n ≤ 1048576) (hN : Nums w) (hc : Sl encBittern w w.heap.size A l) :
    Calls Tryd.prog 18 #[.slice A n cap, .int .i64 f] w fun e w' => e = .returned (.tuple #[.string (textB l f), .bool (textOK l f)]) ∧ Below w.heap.size w w' := by
  have HC := Lib.hid hc; clear hc
  have HN := Lib.hid hn; clear hn
  obtain ⟨i, hi⟩ : ∃ v, bitPlace l f = v := ⟨_, rfl⟩
  have HF := Lib.hid hi
  rcases sp2 (areBitterns l) (decide (0 ≤ i)) with t1 | ⟨t1, t2⟩ | ⟨t1, t2⟩
  · have hq : textOK l f = false := by simp [textOK, t1]
    have hp : textB l f = ⟨#[]⟩ := by simp [textB, hq]
    have HA := Lib.hid t1
    rw [hq, hp]
    clear t1 hi hq hp
    go_enter Tryd.func18, Tryd.ntmps18
    go_wp2_with fail
    refine (bitternAt_any l n HN.out _ _ _ _ hl HC.out).mono ?_
    rintro e w1 ⟨rfl, b1⟩
    rw [HF.out]
    have B1 := Lib.hid b1
    clear b1
    go_wp2_with fail
    refine (impl_AreBitterns_any l n HN.out _ _ _ hl (HC.out.past B1.out)).mono ?_
    rintro e w3 ⟨rfl, b3⟩
    rw [HA.out]
    have B3 := Lib.hid (below_step B1.out b3)
    clear b3
    go_wp2
    go_ret2
    exact ⟨by first | rfl | (simp; done), B3.out⟩
  · have hq : textOK l f = false := by simp [textOK, hi, t2]
    have hp : textB l f = ⟨#[]⟩ := by simp [textB, hq]
    have HA := Lib.hid t1
    have u1 : i < 0 := by simpa using t2
    rw [hq, hp]
    clear t1 hi hq hp
    go_enter Tryd.func18, Tryd.ntmps18
    go_wp2_with fail
    refine (bitternAt_any l n HN.out _ _ _ _ hl HC.out).mono ?_
    rintro e w1 ⟨rfl, b1⟩
    rw [HF.out]
    have B1 := Lib.hid b1
    clear b1
    go_wp2_with fail
    refine (impl_AreBitterns_any l n HN.out _ _ _ hl (HC.out.past B1.out)).mono ?_
    rintro e w3 ⟨rfl, b3⟩
    rw [HA.out]
    have B3 := Lib.hid (below_step B1.out b3)
    clear b3
    go_wp2
    go_ret2
    exact ⟨by first | rfl | (simp; done), B3.out⟩
  · obtain ⟨p, rfl, hp, hpf⟩ := bitPlace_lt hi (of_decide_eq_true t2)
    have hq : textOK l f = true := by simp [textOK, hi, t1]
    have hP : textB l f = btA l[p]! := by rw [textB, if_pos hq, hi]; rfl
    rw [HN.out] at hp
    obtain ⟨bk, off, rfl, hb, hcs⟩ := HC.out.bittern (by rw [HN.out]; omega)
    have hx : l[p]? = some l[p]! := by rw [getElem!_pos l p (by rw [HN.out]; exact hp)]; exact List.getElem?_eq_getElem _
    obtain ⟨c0, c1, c2⟩ := hcs p _ hx
    obtain ⟨_, ⟨x1, x2⟩, ⟨x3, x4⟩⟩ := bitternOK_at (areBitterns_ok t1 hx)
    rw [hq, hP]
    generalize l[p]! = x at *
    obtain ⟨xi, xk, xb⟩ := x
    dsimp only at *
    obtain ⟨a, rfl⟩ : ∃ a : Nat, xk = a := ⟨xk.toNat, by omega⟩
    obtain ⟨b, rfl⟩ : ∃ a : Nat, xb = a := ⟨xb.toNat, by omega⟩
    have ha : a ≤ 10000 := by omega
    have hb' : b ≤ 10000 := by omega
    have z1 := numT_size a (by omega)
    have z2 := numT_size b (by omega)
    have HA := Lib.hid t1
    have HB := Lib.hid (show btA ⟨xi, a, b⟩ = numT a ++ ⟨#[32, 98, 105, 116, 116, 101, 114, 32]⟩ ++ numT b by simp [btA])
    have C1 := Lib.hid c1; have C2 := Lib.hid c2
    clear t1 t2 hi hq hP hcs hx hpf c0 c1 c2
    have p1 : (p : Int) < n := by omega
    have p2 : (0 : Int) ≤ p := by omega
    have p3 : ¬ (p : Int) < 0 := by omega
    go_enter Tryd.func18, Tryd.ntmps18
    go_wp2_with fail
    refine (bitternAt_any l n HN.out _ _ _ _ hl HC.out).mono ?_
    rintro e w1 ⟨rfl, b1⟩
    rw [HF.out]
    have B1 := Lib.hid b1
    clear b1
    go_wp2_with fail
    refine (impl_AreBitterns_any l n HN.out _ _ _ hl (HC.out.past B1.out)).mono ?_
    rintro e w3 ⟨rfl, b3⟩
    rw [HA.out]
    have B3 := Lib.hid (below_step B1.out b3)
    clear b3
    have c1 := C1.out
    have c2 := C2.out
    rw [← B3.out.cell hb] at c1 c2
    have hbw : bk < w3.heap.size := by have := B3.out.size; omega
    go_wp2
    refine wp_region_gw (by kernel_rfl) (by kernel_rfl) ?_
    repeat (first | go_big_quiet_step ((first | (go_at_call_of 32 a; exact quiet_gw (v := .string (numT a)) (decimal_any a _ (Nat.le_trans ha (by decide)) ((hN.past B3.out).past (by repeat (first | assumption | exact Below.refl _ _ | apply bl_gw | apply bl_alloc | apply bl_drewN | apply bl_drew))))) | (go_at_call_of 32 b; exact quiet_gw (v := .string (numT b)) (decimal_any b _ (Nat.le_trans hb' (by decide)) ((hN.past B3.out).past (by repeat (first | assumption | exact Below.refl _ _ | apply bl_gw | apply bl_alloc | apply bl_drewN | apply bl_drew))))))) | quiet_step ((first | (go_at_call_of 32 a; exact quiet_gw (v := .string (numT a)) (decimal_any a _ (Nat.le_trans ha (by decide)) ((hN.past B3.out).past (by repeat (first | assumption | exact Below.refl _ _ | apply bl_gw | apply bl_alloc | apply bl_drewN | apply bl_drew))))) | (go_at_call_of 32 b; exact quiet_gw (v := .string (numT b)) (decimal_any b _ (Nat.le_trans hb' (by decide)) ((hN.past B3.out).past (by repeat (first | assumption | exact Below.refl _ _ | apply bl_gw | apply bl_alloc | apply bl_drewN | apply bl_drew))))))))
    refine wpQuiet_nil ?_
    rintro _ ⟨pq, rfl⟩
    go_wp2
    go_ret2
    rw [HB.out]
    exact ⟨rfl, bl_gw B3.out _⟩
end Go.Proofs.YtcajgadgdjopdaaDoor
