/- Walks of plans: whether lists are gauges, ditches and levels. -/
import Derived.Test.YtbedepmcecdhfaaMoved
namespace Go.Proofs.Ytbedepmcecdhfaa
open Go.RowKit
/-- A slice of slices of ints. -/
def SlR (w : World) (B : Nat) (A : Option Addr) (ls : List (List Int)) : Prop :=
  0 < ls.length → ∃ b off, A = some ⟨b, off, none⟩ ∧ b < B ∧ ∀ (i : Nat) (l : List Int), ls[i]? = some l → ∃ (Ai : Option Addr) (ci : Nat), w.cell? ⟨b, off + i, none⟩ = some (.slice Ai l.length ci) ∧ l.length ≤ ci ∧ Sl encInt w B Ai l
theorem SlR.past {w w' : World} {A : Option Addr} {ls : List (List Int)} (h : SlR w w.heap.size A ls) (hb : Below w.heap.size w w') : SlR w' w'.heap.size A ls := by
  intro h0
  obtain ⟨b, off, e, hbB, hc⟩ := h h0
  refine ⟨b, off, e, Nat.lt_of_lt_of_le hbB hb.size, fun i l hl => ?_⟩
  obtain ⟨Ai, ci, c, hci, hs⟩ := hc i l hl
  exact ⟨Ai, ci, by rw [hb.cell (p := ⟨b, off + i, none⟩) hbB]; exact c, hci, hs.past hb⟩
def badRow (g : List Gauge) (ls : List (List Int)) (i : Nat) : Bool := !(areLevels g ls[i]!)
def fromP (g : List Gauge) (D : List Ditch) (ls : List (List Int)) : Bool := isField g D && (firstTo (badRow g ls) ls.length).isNone
theorem from_one (g : List Gauge) (D : List Ditch) (s : List Int) : fromP g D [s] = asked g D s := by
  unfold fromP asked
  congr 1
  cases h : areLevels g s <;> simp [firstTo, badRow, h]
theorem from_two (g : List Gauge) (D : List Ditch) (s t : List Int) : fromP g D [s, t] = (asked g D s && areLevels g t) := by
  unfold fromP asked
  rw [Bool.and_assoc]
  congr 1
  cases h : areLevels g s <;> cases h' : areLevels g t <;> simp [firstTo, badRow, h, h']
set_option maxHeartbeats 1000000 in
theorem fromC_any (g : List Gauge) (l : List Int) (n m : Nat) (hn : g.length = n) (hm : l.length = m) (A A' : Option Addr) (cap cap' pb : Nat) (w : World) (hl : n ≤ 1048576) (hl' : m ≤ 1048576) (_ : pb < w.heap.size) (hp : w.cell? ⟨pb, 0, none⟩ = some (.slice A n cap)) (hc : Sl encGauge w w.heap.size A g) (hd : Sl encInt w w.heap.size A' l) :
    Calls Try.prog 95 #[.slice A' m cap', .pointer (some ⟨pb, 0, none⟩)] w fun e w' => e = .returned (.bool (!(areLevels g l))) ∧ Below w.heap.size w w' := by
  have HC := Lib.hid hc; clear hc
  have HD := Lib.hid hd; clear hd
  go_enter Try.func95, Try.ntmps95
  go_wp2_with fail
  refine (impl_areLevels_any g l n m hn hm _ _ _ _ _ hl hl' HC.out HD.out).mono ?_
  rintro e w1 ⟨rfl, b1⟩
  go_wp2
  go_ret
  exact ⟨rfl, b1⟩
set_option maxRecDepth 4000 in
set_option maxHeartbeats 4000000 in
theorem indexRows_any (g : List Gauge) (ls : List (List Int)) (n r : Nat) (hn : g.length = n) (hr : ls.length = r) (A R : Option Addr) (cap cr pb : Nat) (w : World) (hl : n ≤ 1048576) (hl' : r ≤ 1048576) (hls : ∀ l ∈ ls, List.length l ≤ 1048576) (hpb : pb < w.heap.size) (hp : w.cell? ⟨pb, 0, none⟩ = some (.slice A n cap)) (hc : Sl encGauge w w.heap.size A g) (hd : SlR w w.heap.size R ls) :
    Calls Try.prog 101 #[.slice R r cr, .func (.func 95) #[] #[.pointer (some ⟨pb, 0, none⟩)]] w fun e w' => e = .returned (.int .i64 (placeOf (firstTo (badRow g ls) ls.length))) ∧ Below w.heap.size w w' := by
  have HC := Lib.hid hc; clear hc
  have HD := Lib.hid hd; clear hd
  have HN := Lib.hid hn; clear hn
  have HR := Lib.hid hr; clear hr
  have HP := Lib.hid hp; clear hp
  have HLS := Lib.hid hls; clear hls
  go_enter Try.func101, Try.ntmps101
  go_wp2
  go_loopw [8] (fun i wr => ∃ k : Nat, k ≤ r ∧ i = .int .i64 k ∧ firstTo (badRow g ls) k = none ∧ Below w.heap.size w wr) (fun i _ => r - (intOf i).toNat)
  case atStart => exact ⟨0, Nat.zero_le _, rfl, rfl, Below.refl _ _⟩
  case round =>
    obtain ⟨k, hk, rfl, hall, hbel⟩ := hrel
    have HA := Lib.hid hall; clear hall
    have hsz := hbel.size
    have HBL := Lib.hid hbel
    by_cases hlt : k < r
    · obtain ⟨b, off, rfl, hb, hcs⟩ := (HD.out.past hbel) (by rw [HR.out]; omega)
      have hx : ls[k]? = some (ls[k]'(by rw [HR.out]; exact hlt)) := List.getElem?_eq_getElem _
      have hlen := HLS.out _ (List.mem_of_getElem? hx)
      generalize ls[k]'(by rw [HR.out]; exact hlt) = l at hx hlen
      obtain ⟨Ai, ci, c0, _, hs⟩ := hcs k l hx
      have hbad : badRow g ls k = !(areLevels g l) := by rw [badRow, List.getElem!_of_getElem? hx]
      clear hcs
      have HX := Lib.hid (show badRow g ls k = true → placeOf (firstTo (badRow g ls) ls.length) = k from fun h => by
        simp [firstTo_hit HA.out h ls.length (by rw [HR.out]; exact hlt), placeOf])
      have HY := Lib.hid (show badRow g ls k = false → firstTo (badRow g ls) (k + 1) = none from fun h => firstTo_miss HA.out h)
      have HB := Lib.hid hbad
      have HS := Lib.hid hs
      have HPw := Lib.hid ((hbel.cell (p := ⟨pb, 0, none⟩) hpb).trans HP.out)
      clear hbad hs hbel hx
      have k1 : (k : Int) < r := by omega
      have k2 : (0 : Int) ≤ (k : Int) := by omega
      obtain ⟨q, hq⟩ : ∃ q, areLevels g l = q := ⟨_, rfl⟩
      have HQ := Lib.hid hq
      clear hq
      go_wp2_with fail
      refine (fromC_any g l n l.length HN.out rfl A _ cap _ pb _ hl hlen (by omega) HPw.out (HC.out.past HBL.out) HS.out).mono ?_
      rintro e w1 ⟨rfl, b1⟩
      rw [HQ.out]
      have B1 := Lib.hid (below_step HBL.out b1)
      clear b1
      cases q
      · go_wp2
        go_ret
        rw [HX.out (by rw [HB.out, HQ.out]; rfl)]
        exact ⟨rfl, B1.out⟩
      · go_wp2
        go_roundw
        case rel => exact ⟨k + 1, by omega, by go_num, HY.out (by rw [HB.out, HQ.out]; rfl), B1.out⟩
        case measure => simp [intOf]; omega
    · go_wp2
      go_ret
      obtain rfl : k = r := by omega
      refine ⟨?_, HBL.out⟩
      rw [HR.out, HA.out]
      rfl
set_option maxHeartbeats 1000000 in
theorem containsRows_any (g : List Gauge) (ls : List (List Int)) (n r : Nat) (hn : g.length = n) (hr : ls.length = r) (A R : Option Addr) (cap cr pb : Nat) (w : World) (hl : n ≤ 1048576) (hl' : r ≤ 1048576) (hls : ∀ l ∈ ls, List.length l ≤ 1048576) (hpb : pb < w.heap.size) (hp : w.cell? ⟨pb, 0, none⟩ = some (.slice A n cap)) (hc : Sl encGauge w w.heap.size A g) (hd : SlR w w.heap.size R ls) :
    Calls Try.prog 94 #[.slice R r cr, .func (.func 95) #[] #[.pointer (some ⟨pb, 0, none⟩)]] w fun e w' => e = .returned (.bool (!(firstTo (badRow g ls) ls.length).isNone)) ∧ Below w.heap.size w w' := by
  have HC := Lib.hid hc; clear hc
  have HD := Lib.hid hd; clear hd
  have HP := Lib.hid hp; clear hp
  rw [← placeOf_neg]
  go_enter Try.func94, Try.ntmps94
  go_wp2_with fail
  refine (indexRows_any g ls n r hn hr _ _ _ _ pb _ hl hl' hls hpb HP.out HC.out HD.out).mono ?_
  rintro e w1 ⟨rfl, b1⟩
  go_wp2
  go_ret
  exact ⟨ret_bool (by simp [hr]), b1⟩
set_option maxRecDepth 4000 in
set_option maxHeartbeats 4000000 in
theorem areFrom_any (g : List Gauge) (D : List Ditch) (ls : List (List Int)) (n m r : Nat) (hn : g.length = n) (hm : D.length = m) (hr : ls.length = r) (A A' R : Option Addr) (cap cap' cr : Nat) (w : World) (hl : n ≤ 1048576) (hl' : m ≤ 1048576) (hl2 : r ≤ 1048576) (hls : ∀ l ∈ ls, List.length l ≤ 1048576) (hc : Sl encGauge w w.heap.size A g) (hd : Sl encDitch w w.heap.size A' D) (hR : SlR w w.heap.size R ls) :
    Calls Try.prog 57 #[.slice A n cap, .slice A' m cap', .slice R r cr] w fun e w' => e = .returned (.bool (fromP g D ls)) ∧ Below w.heap.size w w' := by
  have HC := Lib.hid hc; clear hc
  have HD := Lib.hid hd; clear hd
  have HR := Lib.hid hR; clear hR
  obtain ⟨f, hf⟩ : ∃ f, isField g D = f := ⟨_, rfl⟩
  have HF := Lib.hid hf
  have HV := Lib.hid (show fromP g D ls = (f && (firstTo (badRow g ls) ls.length).isNone) by rw [fromP, hf])
  clear hf
  have HK := Lib.hid (Blk.new w 24 #[.slice A n cap])
  go_enter Try.func57, Try.ntmps57
  go_wp2_with fail
  refine (impl_IsField_any g D n m hn hm _ _ _ _ _ hl hl' (HC.out.past (by repeat (first | assumption | exact Below.refl _ _ | apply bl_gw | apply bl_alloc | apply bl_drewN | apply bl_drew))) (HD.out.past (by repeat (first | assumption | exact Below.refl _ _ | apply bl_gw | apply bl_alloc | apply bl_drewN | apply bl_drew)))).mono ?_
  rintro e w1 ⟨rfl, b1⟩
  rw [HF.out]
  have B1 := Lib.hid (below_step (bl_alloc (Below.refl w.heap.size w) _) b1)
  have K1 := Lib.hid (HK.out.past b1)
  clear b1
  cases f
  · have HV2 := Lib.hid (show fromP g D ls = false by rw [HV.out]; rfl)
    go_wp2
    go_ret
    rw [HV2.out]
    exact ⟨rfl, B1.out⟩
  · obtain ⟨q, hq⟩ : ∃ q, (firstTo (badRow g ls) ls.length).isNone = q := ⟨_, rfl⟩
    have HQ := Lib.hid hq
    have HV2 := Lib.hid (show fromP g D ls = q by rw [HV.out, hq]; rfl)
    clear hq
    go_wp2_with fail
    refine (containsRows_any g ls n r hn hr A _ cap _ w.heap.size _ hl hl2 hls K1.out.lt (K1.out.cell 0) (HC.out.past B1.out) (HR.out.past B1.out)).mono ?_
    rintro e w2 ⟨rfl, b2⟩
    rw [HQ.out]
    have B2 := Lib.hid (below_step B1.out b2)
    clear b2
    go_wp2
    go_ret
    rw [HV2.out]
    exact ⟨by cases q <;> rfl, B2.out⟩
end Go.Proofs.Ytbedepmcecdhfaa
