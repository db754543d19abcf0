/- Why there is no plan: sums, and whether ditches serve. -/
import Derived.Test.YtbedepmcecdhfaaShortS
namespace Go.Proofs.Ytbedepmcecdhfaa
open Go.RowKit
set_option maxHeartbeats 2000000 in
theorem sumOf_any (l : List Int) (n : Nat) (hn : l.length = n) (A : Option Addr) (cap : Nat) (w : World) (hl : n ≤ 5) (hs : SmallIn l) (hc : Sl encInt w w.heap.size A l) :
    Calls Try.prog 71 #[.slice A n cap] w fun e w' => e = .returned (.int .i64 (sumI l)) ∧ w = w' := by
  have HC := Lib.hid hc; clear hc
  have HN := Lib.hid hn; clear hn
  have HS := Lib.hid hs; clear hs
  go_enter Try.func71, Try.ntmps71
  go_wp2
  go_loopw [3, 8] (fun u i wr => ∃ k : Nat, k ≤ n ∧ i = .int .i64 k ∧ u = .int .i64 (sumTo l k) ∧ wr = w) (fun _ i _ => n - (intOf i).toNat)
  case atStart => exact ⟨0, Nat.zero_le _, rfl, rfl, rfl⟩
  case round =>
    obtain ⟨k, hk, rfl, rfl, rfl⟩ := hrel
    by_cases hlt : k < n
    · obtain ⟨b, off, rfl, hb, hcs⟩ := HC.out.int_ (by rw [HN.out]; omega)
      have hx : l[k]? = some (l[k]'(by rw [HN.out]; exact hlt)) := List.getElem?_eq_getElem _
      generalize l[k]'(by rw [HN.out]; exact hlt) = x at hx
      have c0 := hcs k x hx
      have hx0 := HS.out k x hx
      have hr := sumTo_rng HS.out k (by rw [HN.out]; omega)
      have HST := Lib.hid (sumTo_succ hx)
      generalize sumTo l k = st at *
      clear hcs hx
      have k1 : (k : Int) < n := by omega
      have k2 : (0 : Int) ≤ k := by omega
      have k3 : IntKind.i64.wrap (st + x) = st + x := IntWalk.i64_in _ (by omega)
      go_wp2
      go_roundw
      case rel => exact ⟨k + 1, by omega, by go_num, by rw [HST.out], trivial⟩
      case measure => simp [intOf]; omega
    · go_wp2
      go_ret
      obtain rfl : k = n := by omega
      exact ⟨ret_int (by unfold sumTo; rw [← HN.out, List.take_length]), rfl⟩
/-- Does the ditch k end (begin) at pond i? -/
def endsAt (D : List Ditch) (i : Nat) (k : Nat) : Bool := decide (D[k]!.dst = i)
def startsAt (D : List Ditch) (i : Nat) (k : Nat) : Bool := decide (D[k]!.src = i)
def badPond (D : List Ditch) (s t : List Int) (i : Nat) : Bool :=
  (decide (s[i]! < t[i]!) && (firstTo (endsAt D i) D.length).isNone) || (decide (t[i]! < s[i]!) && (firstTo (startsAt D i) D.length).isNone)
set_option maxHeartbeats 1000000 in
theorem ends_any (a b i : Int) (pb : Nat) (w : World) (hpb : pb < w.heap.size) (hp : w.cell? ⟨pb, 0, none⟩ = some (.int .i64 i)) :
    Calls Try.prog 73 #[.agg #[.int .i64 a, .int .i64 b], .pointer (some ⟨pb, 0, none⟩)] w fun e w' => e = .returned (.bool (decide (b = i))) ∧ Below w.heap.size w w' := by
  go_enter Try.func73, Try.ntmps73
  go_wp2
  try
    refine wp_region_gw (by kernel_rfl) (by kernel_rfl) ?_
    repeat (first | go_big_quiet_step ((fail)) | quiet_step ((fail)))
    refine wpQuiet_nil ?_
    rintro _ ⟨pq, rfl⟩
  go_wp2
  go_ret
  exact ⟨rfl, (by repeat (first | assumption | exact Below.refl _ _ | apply bl_gw | apply bl_alloc | apply bl_drewN | apply bl_drew))⟩
set_option maxRecDepth 4000 in
set_option maxHeartbeats 4000000 in
theorem ends_index (D : List Ditch) (m : Nat) (hm : D.length = m) (A : Option Addr) (cap pb i : Nat) (w : World) (hl : m ≤ 1048576) (hpb : pb < w.heap.size) (hp : w.cell? ⟨pb, 0, none⟩ = some (.int .i64 i)) (hd : Sl encDitch w w.heap.size A D) :
    Calls Try.prog 99 #[.slice A m cap, .func (.func 73) #[] #[.pointer (some ⟨pb, 0, none⟩)]] w fun e w' => e = .returned (.int .i64 (placeOf (firstTo (endsAt D i) D.length))) ∧ Below w.heap.size w w' := by
  have HD := Lib.hid hd; clear hd
  have HM := Lib.hid hm; clear hm
  have HP := Lib.hid hp; clear hp
  go_enter Try.func99, Try.ntmps99
  go_wp2
  go_loopw [8] (fun j wr => ∃ k : Nat, k ≤ m ∧ j = .int .i64 k ∧ firstTo (endsAt D i) k = none ∧ Below w.heap.size w wr) (fun j _ => m - (intOf j).toNat)
  case atStart => exact ⟨0, Nat.zero_le _, rfl, rfl, Below.refl _ _⟩
  case round =>
    obtain ⟨k, hk, rfl, hall, hbel⟩ := hrel
    have HA := Lib.hid hall; clear hall
    have hsz := hbel.size
    have HBL := Lib.hid hbel
    by_cases hlt : k < m
    · obtain ⟨b, off, rfl, hb, hcs⟩ := (HD.out.past hbel).ditch (by rw [HM.out]; omega)
      have hx : D[k]? = some (D[k]'(by rw [HM.out]; exact hlt)) := List.getElem?_eq_getElem _
      generalize D[k]'(by rw [HM.out]; exact hlt) = x at hx
      obtain ⟨a1, a2⟩ := x
      obtain ⟨c0, c1⟩ := hcs k _ hx
      dsimp only at c0 c1
      have hbad : endsAt D i k = decide (a2 = (i : Int)) := by unfold endsAt; rw [List.getElem!_of_getElem? hx]
      clear hcs
      have HX := Lib.hid (show endsAt D i k = true → placeOf (firstTo (endsAt D i) D.length) = k from fun h => by
        simp [firstTo_hit HA.out h D.length (by rw [HM.out]; exact hlt), placeOf])
      have HY := Lib.hid (show endsAt D i k = false → firstTo (endsAt D i) (k + 1) = none from fun h => firstTo_miss HA.out h)
      have HB := Lib.hid hbad
      have HPw := Lib.hid ((hbel.cell (p := ⟨pb, 0, none⟩) hpb).trans HP.out)
      clear hbad hbel hx
      have k1 : (k : Int) < m := by omega
      have k2 : (0 : Int) ≤ (k : Int) := by omega
      obtain ⟨q, hq⟩ : ∃ q, decide (a2 = (i : Int)) = q := ⟨_, rfl⟩
      have HQ := Lib.hid hq
      clear hq
      go_wp2_with fail
      refine (ends_any a1 a2 i pb _ (by omega) HPw.out).mono ?_
      rintro e w1 ⟨rfl, b1⟩
      rw [HQ.out]
      have B1 := Lib.hid (below_step HBL.out b1)
      clear b1
      cases q
      · go_wp2
        go_roundw
        case rel => exact ⟨k + 1, by omega, by go_num, HY.out (by rw [HB.out, HQ.out]), B1.out⟩
        case measure => simp [intOf]; omega
      · go_wp2
        go_ret
        rw [HX.out (by rw [HB.out, HQ.out])]
        exact ⟨rfl, B1.out⟩
    · go_wp2
      go_ret
      obtain rfl : k = m := by omega
      refine ⟨?_, HBL.out⟩
      rw [HM.out, HA.out]
      rfl
set_option maxHeartbeats 1000000 in
theorem ends_has (D : List Ditch) (m : Nat) (hm : D.length = m) (A : Option Addr) (cap pb i : Nat) (w : World) (hl : m ≤ 1048576) (hpb : pb < w.heap.size) (hp : w.cell? ⟨pb, 0, none⟩ = some (.int .i64 i)) (hd : Sl encDitch w w.heap.size A D) :
    Calls Try.prog 72 #[.slice A m cap, .func (.func 73) #[] #[.pointer (some ⟨pb, 0, none⟩)]] w fun e w' => e = .returned (.bool (!(firstTo (endsAt D i) D.length).isNone)) ∧ Below w.heap.size w w' := by
  have HD := Lib.hid hd; clear hd
  have HP := Lib.hid hp; clear hp
  rw [← placeOf_neg]
  go_enter Try.func72, Try.ntmps72
  go_wp2_with fail
  refine (ends_index D m hm _ _ pb i _ hl hpb HP.out HD.out).mono ?_
  rintro e w1 ⟨rfl, b1⟩
  go_wp2
  go_ret
  exact ⟨ret_bool (by simp [hm]), b1⟩
set_option maxHeartbeats 1000000 in
theorem starts_any (a b i : Int) (pb : Nat) (w : World) (hpb : pb < w.heap.size) (hp : w.cell? ⟨pb, 0, none⟩ = some (.int .i64 i)) :
    Calls Try.prog 74 #[.agg #[.int .i64 a, .int .i64 b], .pointer (some ⟨pb, 0, none⟩)] w fun e w' => e = .returned (.bool (decide (a = i))) ∧ Below w.heap.size w w' := by
  go_enter Try.func74, Try.ntmps74
  go_wp2
  try
    refine wp_region_gw (by kernel_rfl) (by kernel_rfl) ?_
    repeat (first | go_big_quiet_step ((fail)) | quiet_step ((fail)))
    refine wpQuiet_nil ?_
    rintro _ ⟨pq, rfl⟩
  go_wp2
  go_ret
  exact ⟨rfl, (by repeat (first | assumption | exact Below.refl _ _ | apply bl_gw | apply bl_alloc | apply bl_drewN | apply bl_drew))⟩
set_option maxRecDepth 4000 in
set_option maxHeartbeats 4000000 in
theorem starts_index (D : List Ditch) (m : Nat) (hm : D.length = m) (A : Option Addr) (cap pb i : Nat) (w : World) (hl : m ≤ 1048576) (hpb : pb < w.heap.size) (hp : w.cell? ⟨pb, 0, none⟩ = some (.int .i64 i)) (hd : Sl encDitch w w.heap.size A D) :
    Calls Try.prog 99 #[.slice A m cap, .func (.func 74) #[] #[.pointer (some ⟨pb, 0, none⟩)]] w fun e w' => e = .returned (.int .i64 (placeOf (firstTo (startsAt D i) D.length))) ∧ Below w.heap.size w w' := by
  have HD := Lib.hid hd; clear hd
  have HM := Lib.hid hm; clear hm
  have HP := Lib.hid hp; clear hp
  go_enter Try.func99, Try.ntmps99
  go_wp2
  go_loopw [8] (fun j wr => ∃ k : Nat, k ≤ m ∧ j = .int .i64 k ∧ firstTo (startsAt D i) k = none ∧ Below w.heap.size w wr) (fun j _ => m - (intOf j).toNat)
  case atStart => exact ⟨0, Nat.zero_le _, rfl, rfl, Below.refl _ _⟩
  case round =>
    obtain ⟨k, hk, rfl, hall, hbel⟩ := hrel
    have HA := Lib.hid hall; clear hall
    have hsz := hbel.size
    have HBL := Lib.hid hbel
    by_cases hlt : k < m
    · obtain ⟨b, off, rfl, hb, hcs⟩ := (HD.out.past hbel).ditch (by rw [HM.out]; omega)
      have hx : D[k]? = some (D[k]'(by rw [HM.out]; exact hlt)) := List.getElem?_eq_getElem _
      generalize D[k]'(by rw [HM.out]; exact hlt) = x at hx
      obtain ⟨a1, a2⟩ := x
      obtain ⟨c0, c1⟩ := hcs k _ hx
      dsimp only at c0 c1
      have hbad : startsAt D i k = decide (a1 = (i : Int)) := by unfold startsAt; rw [List.getElem!_of_getElem? hx]
      clear hcs
      have HX := Lib.hid (show startsAt D i k = true → placeOf (firstTo (startsAt D i) D.length) = k from fun h => by
        simp [firstTo_hit HA.out h D.length (by rw [HM.out]; exact hlt), placeOf])
      have HY := Lib.hid (show startsAt D i k = false → firstTo (startsAt D i) (k + 1) = none from fun h => firstTo_miss HA.out h)
      have HB := Lib.hid hbad
      have HPw := Lib.hid ((hbel.cell (p := ⟨pb, 0, none⟩) hpb).trans HP.out)
      clear hbad hbel hx
      have k1 : (k : Int) < m := by omega
      have k2 : (0 : Int) ≤ (k : Int) := by omega
      obtain ⟨q, hq⟩ : ∃ q, decide (a1 = (i : Int)) = q := ⟨_, rfl⟩
      have HQ := Lib.hid hq
      clear hq
      go_wp2_with fail
      refine (starts_any a1 a2 i pb _ (by omega) HPw.out).mono ?_
      rintro e w1 ⟨rfl, b1⟩
      rw [HQ.out]
      have B1 := Lib.hid (below_step HBL.out b1)
      clear b1
      cases q
      · go_wp2
        go_roundw
        case rel => exact ⟨k + 1, by omega, by go_num, HY.out (by rw [HB.out, HQ.out]), B1.out⟩
        case measure => simp [intOf]; omega
      · go_wp2
        go_ret
        rw [HX.out (by rw [HB.out, HQ.out])]
        exact ⟨rfl, B1.out⟩
    · go_wp2
      go_ret
      obtain rfl : k = m := by omega
      refine ⟨?_, HBL.out⟩
      rw [HM.out, HA.out]
      rfl
set_option maxHeartbeats 1000000 in
theorem starts_has (D : List Ditch) (m : Nat) (hm : D.length = m) (A : Option Addr) (cap pb i : Nat) (w : World) (hl : m ≤ 1048576) (hpb : pb < w.heap.size) (hp : w.cell? ⟨pb, 0, none⟩ = some (.int .i64 i)) (hd : Sl encDitch w w.heap.size A D) :
    Calls Try.prog 72 #[.slice A m cap, .func (.func 74) #[] #[.pointer (some ⟨pb, 0, none⟩)]] w fun e w' => e = .returned (.bool (!(firstTo (startsAt D i) D.length).isNone)) ∧ Below w.heap.size w w' := by
  have HD := Lib.hid hd; clear hd
  have HP := Lib.hid hp; clear hp
  rw [← placeOf_neg]
  go_enter Try.func72, Try.ntmps72
  go_wp2_with fail
  refine (starts_index D m hm _ _ pb i _ hl hpb HP.out HD.out).mono ?_
  rintro e w1 ⟨rfl, b1⟩
  go_wp2
  go_ret
  exact ⟨ret_bool (by simp [hm]), b1⟩
end Go.Proofs.Ytbedepmcecdhfaa
