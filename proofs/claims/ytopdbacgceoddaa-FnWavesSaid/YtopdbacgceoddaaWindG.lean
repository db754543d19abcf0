/- Walks of blows: greatest common divisor, mean speed. -/
import Derived.Test.YtopdbacgceoddaaWindE
namespace Go.Proofs.Ytopdbacgceoddaa
open Go.RowKit
set_option maxHeartbeats 400000 in
theorem abs_any (a : Int) (w : World) (ha : 0 ≤ a) :
    Calls Try.prog 78 #[.int .i64 a] w fun e w' => e = .returned (.int .i64 a) ∧ w = w' := by
  go_enter Try.func78, Try.ntmps78
  go_wp2
  go_ret
  exact ⟨rfl, rfl⟩
def big : Nat := 4611686018427387904
theorem gcd_turn (x y : Nat) : Nat.gcd y (x % y) = Nat.gcd x y := by rw [Nat.gcd_comm x y, Nat.gcd_rec y x, Nat.gcd_comm]
set_option maxHeartbeats 1000000 in
theorem gcd_any (a b : Nat) (w : World) (ha : a ≤ 1000000000000) (hb : b ≤ 1000000000000) :
    Calls Try.prog 76 #[.int .i64 a, .int .i64 b] w fun e w' => e = .returned (.int .i64 (Nat.gcd a b : Nat)) ∧ Below w.heap.size w w' := by
  go_enter Try.func76, Try.ntmps76
  go_wp2_with (first | (go_at_call 78; refine (abs_any _ _ (Int.natCast_nonneg _)).mono ?_; rintro e w1 ⟨rfl, rfl⟩))
  go_loopw [0, 1] (fun u v wr => ∃ x y : Nat, u = .int .i64 x ∧ v = .int .i64 y ∧ x ≤ 1000000000000 ∧ y ≤ 1000000000000 ∧ Nat.gcd x y = Nat.gcd a b ∧ Below w.heap.size w wr) (fun _ v _ => (intOf v).toNat)
  case atStart => exact ⟨a, b, rfl, rfl, ha, hb, rfl, Below.refl _ _⟩
  case round =>
    obtain ⟨x, y, rfl, rfl, hx, hy, hg, hbel⟩ := hrel
    have HG := Lib.hid hg; clear hg
    by_cases h : y = 0
    · have h' : ((y : Int) != 0) = false := by simp [h]
      have HH := Lib.hid h; clear h
      go_wp2
      go_ret
      refine ⟨ret_int ?_, hbel⟩
      have := HG.out
      rw [HH.out, Nat.gcd_zero_right] at this
      rw [← this]
    · have h' : ((y : Int) != 0) = true := by simp [h]
      have h1 : ((y : Int) == 0) = false := by simp [h]
      have h2 : 0 < y := by omega
      have h3 : (x : Int) % y = ((x % y : Nat) : Int) := by simp
      have hlt := Nat.mod_lt x h2
      have HT := Lib.hid (gcd_turn x y)
      have H3 := Lib.hid h3; clear h3
      have h4 : ¬ y = 0 := h
      have h5 : ¬ (y : Int) = 0 := by omega
      have h6 : (0 : Int) ≤ x := by omega
      have h7 : IntKind.i64.wrap ((x : Int) % y) = (x : Int) % y := IntWalk.i64_in _ (by rw [H3.out]; omega)
      have h8 : (x : Int).tmod y = (x : Int) % y := Int.tmod_eq_emod_of_nonneg h6
      go_wp2
      refine wp_region_gw (by kernel_rfl) (by kernel_rfl) ?_
      repeat (first | go_big_quiet_step ((fail)) | quiet_step ((fail)))
      refine wpQuiet_nil ?_
      rintro _ ⟨pq, rfl⟩
      go_wp2
      go_roundw
      case rel => exact ⟨y, x % y, rfl, by rw [← H3.out], hy, by omega, by rw [HT.out]; exact HG.out, (by repeat (first | assumption | exact Below.refl _ _ | apply bl_gw | apply bl_alloc | apply bl_drewN | apply bl_drew))⟩
      case measure => simp [intOf]; omega
theorem gcd_pos' (a b : Nat) (hb : 0 < b) : 0 < Nat.gcd a b := Nat.gcd_pos_of_pos_right _ hb
set_option maxHeartbeats 1000000 in
theorem reduced_any (a b : Nat) (w : World) (ha : a ≤ 1000000000000) (hb : b ≤ 1000000000000) (h0 : 0 < b) :
    Calls Try.prog 64 #[.int .i64 a, .int .i64 b] w fun e w' => e = .returned (.tuple #[.int .i64 ((a / Nat.gcd a b : Nat) : Int), .int .i64 ((b / Nat.gcd a b : Nat) : Int)]) ∧ Below w.heap.size w w' := by
  have hg := gcd_pos' a b h0
  obtain ⟨g, eg⟩ : ∃ g, Nat.gcd a b = g := ⟨_, rfl⟩
  rw [eg] at hg ⊢
  have HG := Lib.hid eg; clear eg
  have e1 : ((a / g : Nat) : Int) = (a : Int) / g := by simp
  have e2 : ((b / g : Nat) : Int) = (b : Int) / g := by simp
  rw [e1, e2]
  clear e1 e2
  have h1 : ((g : Int) == 0) = false := by simp; omega
  have h2 : ¬ (g : Int) = 0 := by omega
  have h3 : ¬ g = 0 := by omega
  have q1 : (a : Int) / g ≤ a := by have := Nat.div_le_self a g; have e : ((a / g : Nat) : Int) = (a : Int) / g := by simp
                                    omega
  have q2 : (b : Int) / g ≤ b := by have := Nat.div_le_self b g; have e : ((b / g : Nat) : Int) = (b : Int) / g := by simp
                                    omega
  have q3 : (0 : Int) ≤ (a : Int) / g := Int.ediv_nonneg (by omega) (by omega)
  have q4 : (0 : Int) ≤ (b : Int) / g := Int.ediv_nonneg (by omega) (by omega)
  have t1 : (a : Int).tdiv g = (a : Int) / g := Int.tdiv_eq_ediv_of_nonneg (by omega)
  have t2 : (b : Int).tdiv g = (b : Int) / g := Int.tdiv_eq_ediv_of_nonneg (by omega)
  have w1 : IntKind.i64.wrap ((a : Int) / g) = (a : Int) / g := IntWalk.i64_in _ (by omega)
  have w2 : IntKind.i64.wrap ((b : Int) / g) = (b : Int) / g := IntWalk.i64_in _ (by omega)
  go_enter Try.func64, Try.ntmps64
  go_wp2_with (first | (go_at_call 76; refine (gcd_any _ _ _ ha hb).mono ?_; rintro e w1 ⟨rfl, hb⟩; obtain ⟨p, rfl⟩ := below_gw hb; clear hb; rw [HG.out]))
  refine wp_region_gw (by kernel_rfl) (by kernel_rfl) ?_
  repeat (first | go_big_quiet_step ((fail)) | quiet_step ((fail)))
  refine wpQuiet_nil ?_
  rintro _ ⟨pq, rfl⟩
  go_wp2
  go_ret2
  exact ⟨rfl, (by repeat (first | assumption | exact Below.refl _ _ | apply bl_gw | apply bl_alloc | apply bl_drewN | apply bl_drew))⟩
set_option maxHeartbeats 1000000 in
theorem l2Reduce_any (a b : Nat) (w : World) (ha : a ≤ 1000000000000) (hb : b ≤ 1000000000000) (h0 : 0 < b) :
    Calls Try.prog 63 #[.int .i64 a, .int .i64 b] w fun e w' => e = .returned (.tuple #[.int .i64 ((a / Nat.gcd a b : Nat) : Int), .int .i64 ((b / Nat.gcd a b : Nat) : Int)]) ∧ Below w.heap.size w w' := by
  have hmax : max (a : Int) (-(a : Int)) = a := by omega
  have HM := Lib.hid hmax; clear hmax
  go_enter Try.func63, Try.ntmps63
  go_wp2_with (first | (go_at_call 62; refine (l1Most_any _ _ _).mono ?_; rintro e w1 ⟨rfl, rfl⟩; rw [HM.out]))
  go_loopw [6, 7] (fun u v wr => ∃ x y : Nat, u = .int .i64 x ∧ v = .int .i64 y ∧ x ≤ 1000000000000 ∧ y ≤ 1000000000000 ∧ Nat.gcd x y = Nat.gcd a b ∧ Below w.heap.size w wr) (fun _ v _ => (intOf v).toNat)
  case atStart => exact ⟨a, b, rfl, rfl, ha, hb, rfl, Below.refl _ _⟩
  case round =>
    obtain ⟨x, y, rfl, rfl, hx, hy, hg, hbel⟩ := hrel
    have HG := Lib.hid hg; clear hg
    by_cases h : y = 0
    · have h' : ((y : Int) != 0) = false := by simp [h]
      have hg := HG.out
      rw [h, Nat.gcd_zero_right] at hg
      have hp := gcd_pos' a b h0
      rw [← hg] at hp
      have HH := Lib.hid hg
      clear h hg HG
      have e1 : ((a / x : Nat) : Int) = (a : Int) / x := by simp
      have e2 : ((b / x : Nat) : Int) = (b : Int) / x := by simp
      have q1 : (a : Int) / x ≤ a := by have := Nat.div_le_self a x; omega
      have q2 : (b : Int) / x ≤ b := by have := Nat.div_le_self b x; omega
      clear e1 e2
      have h1 : ((x : Int) == 0) = false := by simp; omega
      have h2 : ¬ (x : Int) = 0 := by omega
      have h3 : ¬ x = 0 := by omega
      have q3 : (0 : Int) ≤ (a : Int) / x := Int.ediv_nonneg (by omega) (by omega)
      have q4 : (0 : Int) ≤ (b : Int) / x := Int.ediv_nonneg (by omega) (by omega)
      have t1 : (a : Int).tdiv x = (a : Int) / x := Int.tdiv_eq_ediv_of_nonneg (by omega)
      have t2 : (b : Int).tdiv x = (b : Int) / x := Int.tdiv_eq_ediv_of_nonneg (by omega)
      have w1 : IntKind.i64.wrap ((a : Int) / x) = (a : Int) / x := IntWalk.i64_in _ (by omega)
      have w2 : IntKind.i64.wrap ((b : Int) / x) = (b : Int) / x := IntWalk.i64_in _ (by omega)
      go_wp2
      refine wp_region_gw (by kernel_rfl) (by kernel_rfl) ?_
      repeat (first | go_big_quiet_step ((fail)) | quiet_step ((fail)))
      refine wpQuiet_nil ?_
      rintro _ ⟨pq, rfl⟩
      go_wp2
      go_ret2
      exact ⟨by rw [← HH.out, Int.natCast_ediv, Int.natCast_ediv]; rfl, (by repeat (first | assumption | exact Below.refl _ _ | apply bl_gw | apply bl_alloc | apply bl_drewN | apply bl_drew))⟩
    · have h' : ((y : Int) != 0) = true := by simp [h]
      have h1 : ((y : Int) == 0) = false := by simp [h]
      have h2 : 0 < y := by omega
      have h3 : (x : Int) % y = ((x % y : Nat) : Int) := by simp
      have hlt := Nat.mod_lt x h2
      have HT := Lib.hid (gcd_turn x y)
      have H3 := Lib.hid h3; clear h3
      have h4 : ¬ y = 0 := h
      have h5 : ¬ (y : Int) = 0 := by omega
      have h6 : (0 : Int) ≤ x := by omega
      go_wp2
      go_roundw
      case rel => exact ⟨y, x % y, rfl, by rw [← H3.out], hy, by omega, by rw [HT.out]; exact HG.out, (by repeat (first | assumption | exact Below.refl _ _ | apply bl_gw | apply bl_alloc | apply bl_drewN | apply bl_drew))⟩
      case measure => simp [intOf]; omega
def meanTo (l : List Blow) (d : Int) (k : Nat) : Nat × Nat := loopTo (fun i t => if l[i]!.frm == d then (t.1 + l[i]!.speed.toNat, t.2 + 1) else t) (0, 0) k
def meanP (l : List Blow) (d : Int) : Int × Int × Bool :=
  if areBlows l && inB d 0 3 then
    (let t := meanTo l d l.length
     if t.2 = 0 then (0, 0, false) else (((t.1 / Nat.gcd t.1 t.2 : Nat) : Int), ((t.2 / Nat.gcd t.1 t.2 : Nat) : Int), true))
  else (0, 0, false)
set_option maxHeartbeats 4000000 in
theorem impl_MeanSpeed_any (l : List Blow) (m : Nat) (hn : l.length = m) (A : Option Addr) (cap : Nat) (d : Int) (w : World) (hl : m ≤ 1048576) (hc : Sl encBlow w w.heap.size A l) :
    Calls Try.prog 33 #[.slice A m cap, .int .i64 d] w fun e w' => e = .returned (.tuple #[.int .i64 (meanP l d).1, .int .i64 (meanP l d).2.1, .bool (meanP l d).2.2]) ∧ Below w.heap.size w w' := by
  have HC := Lib.hid hc; clear hc
  have HN := Lib.hid hn; clear hn
  rcases sp2 (areBlows l) (inB d 0 3) with t1 | ⟨t1, t2⟩ | ⟨t1, t2⟩
  case' inl => have hd : meanP l d = (0, 0, false) := by simp [meanP, t1]
  case' inr.inl => have hd : meanP l d = (0, 0, false) := by simp [meanP, t1, t2]
  case' inr.inr => have hd : meanP l d = (let t := meanTo l d l.length; if t.2 = 0 then (0, 0, false) else (((t.1 / Nat.gcd t.1 t.2 : Nat) : Int), ((t.2 / Nat.gcd t.1 t.2 : Nat) : Int), true)) := by simp [meanP, t1, t2]
  case inr.inr =>
    have HT1 := Lib.hid t1
    have HP := Lib.hid hd
    clear hd
    have hm20 : m ≤ 20 := by have := areBlows_len t1; rw [HN.out] at this; exact this
    go_enter Try.func33, Try.ntmps33
    go_wp2_with (first | (go_at_call 24; refine (impl_AreBlows_any l m HN.out _ _ _ hl HC.out).mono ?_; rintro e w1 ⟨rfl, hb⟩; obtain ⟨p, rfl⟩ := below_gw hb; clear hb) | (go_at_call 54; refine (isDirection_any _ _).mono ?_; rintro e w1 ⟨rfl, rfl⟩))
    refine wp_name (fun W0 hW0 => ?_)
    have hB0 : Below w.heap.size w W0 := by rw [hW0]; exact (by repeat (first | assumption | exact Below.refl _ _ | apply bl_gw | apply bl_alloc | apply bl_drewN | apply bl_drew))
    have HD := Lib.hid (show Sl encBlow W0 W0.heap.size A l by rw [hW0]; exact HC.out.past (by repeat (first | assumption | exact Below.refl _ _ | apply bl_gw | apply bl_alloc | apply bl_drewN | apply bl_drew)))
    clear hW0
    clear t1 t2
    go_loopw [7, 8, 23] (fun s c i wr => ∃ (k ts tc : Nat), k ≤ m ∧ i = .int .i64 k ∧ s = .int .i64 ts ∧ c = .int .i64 tc ∧ (ts, tc) = meanTo l d k ∧ ts ≤ 60 * k ∧ tc ≤ k ∧ Below W0.heap.size W0 wr) (fun _ _ i _ => m - (intOf i).toNat)
    case atStart => exact ⟨0, 0, 0, Nat.zero_le _, rfl, rfl, rfl, rfl, by omega, by omega, Below.refl _ _⟩
    case round =>
      obtain ⟨k, ts, tc, hkm, rfl, rfl, rfl, ht, hts, htc, hbel⟩ := hrel
      have HT := Lib.hid ht; clear ht
      by_cases hlt : k < m
      · have hsz := hbel.size
        obtain ⟨bk, off, rfl, hb, hcs⟩ := HD.out.blow (by rw [HN.out]; omega)
        have hx : l[k]? = some (l[k]'(by rw [HN.out]; exact hlt)) := List.getElem?_eq_getElem _
        generalize l[k]'(by rw [HN.out]; exact hlt) = y at hx
        obtain ⟨c0, c1, c2⟩ := hcs k y hx
        clear hcs
        have HX := Lib.hid hx
        clear hx
        rw [← hbel.cell hb] at c0 c1 c2
        have hbw : bk < wr.heap.size := by omega
        have k1 : (k : Int) < m := by omega
        obtain ⟨⟨y1, y2⟩, ⟨y3, y4⟩, ⟨y5, y6⟩⟩ := areBlows_at HT1.out HX.out
        obtain ⟨sp, hsp⟩ := Int.eq_ofNat_of_zero_le y3
        have hstep : meanTo l d (k + 1) = if y.frm == d then (ts + sp, tc + 1) else (ts, tc) := by
          have : meanTo l d (k + 1) = if l[k]!.frm == d then ((meanTo l d k).1 + l[k]!.speed.toNat, (meanTo l d k).2 + 1) else meanTo l d k := rfl
          rw [this, ← HT.out, List.getElem!_of_getElem? HX.out, hsp]
          simp
        rw [hsp] at c1 y4
        clear y1 y2 y3 y5 y6 hsp
        have HS := Lib.hid hstep; clear hstep
        rcases sp1 (y.frm == d) with hcmp | hcmp
        · go_wp2
          go_roundw
          case rel => exact ⟨k + 1, _, _, by omega, by go_num, rfl, rfl, by rw [HS.out, if_neg (by simp [hcmp])], by omega, by omega, (by repeat (first | assumption | exact Below.refl _ _ | apply bl_gw | apply bl_alloc | apply bl_drewN | apply bl_drew))⟩
          case measure => simp [intOf]; omega
        · go_wp2
          go_roundw
          case rel => exact ⟨k + 1, ts + sp, tc + 1, by omega, by go_num, by go_num, by go_num, by rw [HS.out, if_pos hcmp], by omega, by omega, (by repeat (first | assumption | exact Below.refl _ _ | apply bl_gw | apply bl_alloc | apply bl_drewN | apply bl_drew))⟩
          case measure => simp [intOf]; omega
      · obtain rfl : k = m := by omega
        have hp := HP.out
        rw [HN.out, ← HT.out] at hp
        by_cases hz : tc = 0
        · have h' : ((tc : Int) == 0) = true := by simp [hz]
          have HQ : Hid (meanP l d = (0, 0, false)) := by show _ = _; rw [hp]; simp [hz]
          clear hp hz
          go_wp2
          go_ret3
          exact ⟨by rw [HQ.out]; rfl, hB0.trans (hbel.mono hB0.size)⟩
        · have h' : ((tc : Int) == 0) = false := by simp [hz]
          have HQ : Hid (meanP l d = (((ts / Nat.gcd ts tc : Nat) : Int), ((tc / Nat.gcd ts tc : Nat) : Int), true)) := by show _ = _; rw [hp]; simp [hz]
          have h0 : 0 < tc := by omega
          clear hp hz
          go_wp2_with (first | (go_at_call 64; refine (reduced_any _ _ _ (by omega) (by omega) h0).mono ?_; rintro e w1 ⟨rfl, hb⟩; obtain ⟨p, rfl⟩ := below_gw hb; clear hb) | (go_at_call 63; refine (l2Reduce_any _ _ _ (by omega) (by omega) h0).mono ?_; rintro e w1 ⟨rfl, hb⟩; obtain ⟨p, rfl⟩ := below_gw hb; clear hb))
          go_ret3
          exact ⟨by rw [HQ.out]; rfl, hB0.trans (Below.mono (by repeat (first | assumption | exact Below.refl _ _ | apply bl_gw | apply bl_alloc | apply bl_drewN | apply bl_drew)) hB0.size)⟩
  all_goals
    rw [hd]
    clear hd
    go_enter Try.func33, Try.ntmps33
    go_wp2_with (first | (go_at_call 24; refine (impl_AreBlows_any l m HN.out _ _ _ hl HC.out).mono ?_; rintro e w1 ⟨rfl, hb⟩; obtain ⟨p, rfl⟩ := below_gw hb; clear hb) | (go_at_call 54; refine (isDirection_any _ _).mono ?_; rintro e w1 ⟨rfl, rfl⟩))
    go_ret3
    exact ⟨rfl, (by repeat (first | assumption | exact Below.refl _ _ | apply bl_gw | apply bl_alloc | apply bl_drewN | apply bl_drew))⟩
set_option maxHeartbeats 4000000 in
theorem spec_MeanSpeed_any (l : List Blow) (m : Nat) (hn : l.length = m) (A : Option Addr) (cap : Nat) (d : Int) (w : World) (hl : m ≤ 1048576) (hc : Sl encBlow w w.heap.size A l) :
    Calls Try.prog 32 #[.slice A m cap, .int .i64 d] w fun e w' => e = .returned (.tuple #[.int .i64 (meanP l d).1, .int .i64 (meanP l d).2.1, .bool (meanP l d).2.2]) ∧ Below w.heap.size w w' := by
  have HC := Lib.hid hc; clear hc
  have HN := Lib.hid hn; clear hn
  rcases sp2 (areBlows l) (inB d 0 3) with t1 | ⟨t1, t2⟩ | ⟨t1, t2⟩
  case' inl => have hd : meanP l d = (0, 0, false) := by simp [meanP, t1]
  case' inr.inl => have hd : meanP l d = (0, 0, false) := by simp [meanP, t1, t2]
  case' inr.inr => have hd : meanP l d = (let t := meanTo l d l.length; if t.2 = 0 then (0, 0, false) else (((t.1 / Nat.gcd t.1 t.2 : Nat) : Int), ((t.2 / Nat.gcd t.1 t.2 : Nat) : Int), true)) := by simp [meanP, t1, t2]
  case inr.inr =>
    have HT1 := Lib.hid t1
    have HP := Lib.hid hd
    clear hd
    have hm20 : m ≤ 20 := by have := areBlows_len t1; rw [HN.out] at this; exact this
    go_enter Try.func32, Try.ntmps32
    go_wp2_with (first | (go_at_call 56; refine (l19Good_any l m HN.out _ _ _ hl HC.out).mono ?_; rintro e w1 ⟨rfl, hb⟩; obtain ⟨p, rfl⟩ := below_gw hb; clear hb) | (go_at_call 51; refine (l1In_any _ _ _ _).mono ?_; rintro e w1 ⟨rfl, rfl⟩))
    refine wp_name (fun W0 hW0 => ?_)
    have hB0 : Below w.heap.size w W0 := by rw [hW0]; exact (by repeat (first | assumption | exact Below.refl _ _ | apply bl_gw | apply bl_alloc | apply bl_drewN | apply bl_drew))
    have HD := Lib.hid (show Sl encBlow W0 W0.heap.size A l by rw [hW0]; exact HC.out.past (by repeat (first | assumption | exact Below.refl _ _ | apply bl_gw | apply bl_alloc | apply bl_drewN | apply bl_drew)))
    clear hW0
    clear t1 t2
    go_loopw [7, 8, 9] (fun s c i wr => ∃ (k ts tc : Nat), k ≤ m ∧ i = .int .i64 k ∧ s = .int .i64 ts ∧ c = .int .i64 tc ∧ (ts, tc) = meanTo l d k ∧ ts ≤ 60 * k ∧ tc ≤ k ∧ Below W0.heap.size W0 wr) (fun _ _ i _ => m - (intOf i).toNat)
    case atStart => exact ⟨0, 0, 0, Nat.zero_le _, rfl, rfl, rfl, rfl, by omega, by omega, Below.refl _ _⟩
    case round =>
      obtain ⟨k, ts, tc, hkm, rfl, rfl, rfl, ht, hts, htc, hbel⟩ := hrel
      have HT := Lib.hid ht; clear ht
      by_cases hlt : k < m
      · have hsz := hbel.size
        obtain ⟨bk, off, rfl, hb, hcs⟩ := HD.out.blow (by rw [HN.out]; omega)
        have hx : l[k]? = some (l[k]'(by rw [HN.out]; exact hlt)) := List.getElem?_eq_getElem _
        generalize l[k]'(by rw [HN.out]; exact hlt) = y at hx
        obtain ⟨c0, c1, c2⟩ := hcs k y hx
        clear hcs
        have HX := Lib.hid hx
        clear hx
        rw [← hbel.cell hb] at c0 c1 c2
        have hbw : bk < wr.heap.size := by omega
        have k1 : (k : Int) < m := by omega
        obtain ⟨⟨y1, y2⟩, ⟨y3, y4⟩, ⟨y5, y6⟩⟩ := areBlows_at HT1.out HX.out
        obtain ⟨sp, hsp⟩ := Int.eq_ofNat_of_zero_le y3
        have hstep : meanTo l d (k + 1) = if y.frm == d then (ts + sp, tc + 1) else (ts, tc) := by
          have : meanTo l d (k + 1) = if l[k]!.frm == d then ((meanTo l d k).1 + l[k]!.speed.toNat, (meanTo l d k).2 + 1) else meanTo l d k := rfl
          rw [this, ← HT.out, List.getElem!_of_getElem? HX.out, hsp]
          simp
        rw [hsp] at c1 y4
        clear y1 y2 y3 y5 y6 hsp
        have HS := Lib.hid hstep; clear hstep
        rcases sp1 (y.frm == d) with hcmp | hcmp
        · go_wp2
          go_roundw
          case rel => exact ⟨k + 1, _, _, by omega, by go_num, rfl, rfl, by rw [HS.out, if_neg (by simp [hcmp])], by omega, by omega, (by repeat (first | assumption | exact Below.refl _ _ | apply bl_gw | apply bl_alloc | apply bl_drewN | apply bl_drew))⟩
          case measure => simp [intOf]; omega
        · go_wp2
          go_roundw
          case rel => exact ⟨k + 1, ts + sp, tc + 1, by omega, by go_num, by go_num, by go_num, by rw [HS.out, if_pos hcmp], by omega, by omega, (by repeat (first | assumption | exact Below.refl _ _ | apply bl_gw | apply bl_alloc | apply bl_drewN | apply bl_drew))⟩
          case measure => simp [intOf]; omega
      · obtain rfl : k = m := by omega
        have hp := HP.out
        rw [HN.out, ← HT.out] at hp
        by_cases hz : tc = 0
        · have h' : ((tc : Int) == 0) = true := by simp [hz]
          have HQ : Hid (meanP l d = (0, 0, false)) := by show _ = _; rw [hp]; simp [hz]
          clear hp hz
          go_wp2
          go_ret3
          exact ⟨by rw [HQ.out]; rfl, hB0.trans (hbel.mono hB0.size)⟩
        · have h' : ((tc : Int) == 0) = false := by simp [hz]
          have HQ : Hid (meanP l d = (((ts / Nat.gcd ts tc : Nat) : Int), ((tc / Nat.gcd ts tc : Nat) : Int), true)) := by show _ = _; rw [hp]; simp [hz]
          have h0 : 0 < tc := by omega
          clear hp hz
          go_wp2_with (first | (go_at_call 64; refine (reduced_any _ _ _ (by omega) (by omega) h0).mono ?_; rintro e w1 ⟨rfl, hb⟩; obtain ⟨p, rfl⟩ := below_gw hb; clear hb) | (go_at_call 63; refine (l2Reduce_any _ _ _ (by omega) (by omega) h0).mono ?_; rintro e w1 ⟨rfl, hb⟩; obtain ⟨p, rfl⟩ := below_gw hb; clear hb))
          go_ret3
          exact ⟨by rw [HQ.out]; rfl, hB0.trans (Below.mono (by repeat (first | assumption | exact Below.refl _ _ | apply bl_gw | apply bl_alloc | apply bl_drewN | apply bl_drew)) hB0.size)⟩
  all_goals
    rw [hd]
    clear hd
    go_enter Try.func32, Try.ntmps32
    go_wp2_with (first | (go_at_call 56; refine (l19Good_any l m HN.out _ _ _ hl HC.out).mono ?_; rintro e w1 ⟨rfl, hb⟩; obtain ⟨p, rfl⟩ := below_gw hb; clear hb) | (go_at_call 51; refine (l1In_any _ _ _ _).mono ?_; rintro e w1 ⟨rfl, rfl⟩))
    go_ret3
    exact ⟨rfl, (by repeat (first | assumption | exact Below.refl _ _ | apply bl_gw | apply bl_alloc | apply bl_drewN | apply bl_drew))⟩
end Go.Proofs.Ytopdbacgceoddaa
