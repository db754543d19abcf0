/- Contracts: what is earned by serving all, and whether the stock is enough. -/
import Derived.Test.YtcljfdpjlkaagaaServeAlS
namespace Go.Proofs.Ytcljfdpjlkaagaa
open Go.RowKit
def gainAt (x : Contract) (g : Int) : Int := g * x.price - (x.tons - g) * x.fine
def earnTo (l : List Contract) (G : List Int) (k : Nat) : Int := loopTo (fun i t => t + gainAt l[i]! G[i]!) 0 k
theorem earnTo_succ (l : List Contract) (G : List Int) (k : Nat) : earnTo l G (k + 1) = earnTo l G k + gainAt l[k]! G[k]! := rfl
def earnP (s : List Int) (l : List Contract) : Int := if allOK s l then earnTo l (srvTo s l l.length).2 l.length else 0
def shortAt (l : List Contract) (G : List Int) (i : Nat) : Bool := decide (G[i]! < l[i]!.tons)
def enoughP (s : List Int) (l : List Contract) : Bool := allOK s l && (firstTo (shortAt l (srvTo s l l.length).2) l.length).isNone
theorem mul_rng {a b A B : Int} (a0 : 0 ≤ a) (a1 : a ≤ A) (b0 : 0 ≤ b) (b1 : b ≤ B) : 0 ≤ a * b ∧ a * b ≤ A * B :=
  ⟨Int.mul_nonneg a0 b0, Int.mul_le_mul a1 b1 b0 (by omega)⟩
theorem gain_rng {x : Contract} {g : Int} (hx : contractOK x = true) (h0 : 0 ≤ g) (h1 : g ≤ x.tons) : (0 ≤ g * x.price ∧ g * x.price ≤ 2500000) ∧ (0 ≤ (x.tons - g) * x.fine ∧ (x.tons - g) * x.fine ≤ 5000000) := by
  obtain ⟨_, _, t, p, _, _, f⟩ := contractOK_at hx
  exact ⟨mul_rng (A := 5000) (B := 500) h0 (by omega) (by omega) p.2, mul_rng (A := 5000) (B := 1000) (by omega) (by omega) f.1 f.2⟩
def AllIn (l : List Contract) (G : List Int) : Prop := G.length = l.length ∧ ∀ (i : Nat) (x : Contract) (g : Int), l[i]? = some x → G[i]? = some g → contractOK x = true ∧ 0 ≤ g ∧ g ≤ x.tons
theorem allIn_of {s : List Int} {l : List Contract} (h : allOK s l = true) : AllIn l (srvTo s l l.length).2 := by
  simp only [allOK, Bool.and_eq_true] at h
  have h2 := srvTo_in (stockOK_in h.1) (fun i x hx => areContracts_ok h.2 hx) l.length (Nat.le_refl _)
  exact ⟨h2.2.1, fun i x g hx hg => ⟨areContracts_ok h.2 hx, h2.2.2 i x g hx hg⟩⟩
theorem earnTo_rng {l : List Contract} {G : List Int} (h : AllIn l G) : ∀ k : Nat, k ≤ l.length → -5000000 * (k : Int) ≤ earnTo l G k ∧ earnTo l G k ≤ 2500000 * k
  | 0, _ => by simp [earnTo, loopTo]
  | k + 1, hk => by
    have ih := earnTo_rng h k (by omega)
    have hx : l[k]? = some (l[k]'(by omega)) := List.getElem?_eq_getElem _
    have hg : G[k]? = some (G[k]'(by rw [h.1]; omega)) := List.getElem?_eq_getElem _
    obtain ⟨h1, h2, h3⟩ := h.2 k _ _ hx hg
    obtain ⟨r1, r2⟩ := gain_rng h1 h2 h3
    rw [earnTo_succ, List.getElem!_of_getElem? hx, List.getElem!_of_getElem? hg, gainAt]
    push_cast
    omega
set_option maxRecDepth 4000 in
set_option maxHeartbeats 8000000 in
theorem impl_EarnedBy_any (s : List Int) (l : List Contract) (m n : Nat) (hm : s.length = m) (hn : l.length = n) (A A' : Option Addr) (cap cap' : Nat) (w : World) (hl' : m ≤ 1048576) (hl : n ≤ 1048576) (hc : Sl encInt w w.heap.size A s) (hd : Sl encContract w w.heap.size A' l) :
    Calls Try.prog 39 #[.slice A m cap, .slice A' n cap'] w fun e w' => e = .returned (.tuple #[.int .i64 (earnP s l), .bool (allOK s l)]) ∧ Below w.heap.size w w' := by
  have HC := Lib.hid hc; clear hc
  have HD := Lib.hid hd; clear hd
  have HN := Lib.hid hn; clear hn
  have HM := Lib.hid hm; clear hm
  rcases sp1 (allOK s l) with hq | hq
  · have HPG := Lib.hid (show allG s l = [] by simp [allG, hq])
    have HQ := Lib.hid hq
    have HP := Lib.hid (show earnP s l = 0 by simp [earnP, hq])
    clear hq
    go_enter Try.func39, Try.ntmps39
    go_wp2_with fail
    refine (impl_ServeAll_plain s l m n HM.out HN.out _ _ _ _ _ hl' hl HC.out HD.out).mono ?_
    rintro e w1 ⟨v1, u1, rfl, o1, p1, b1⟩
    obtain ⟨A1, c1, rfl, _, _, _⟩ := o1.slice
    obtain ⟨A2, c2, rfl, _, _, _⟩ := p1.slice
    rw [HQ.out]
    have B1 := Lib.hid b1
    have HG := p1
    clear o1 p1 b1
    rw [HPG.out] at HG ⊢
    have P1 := Lib.hid HG
    have D1 := Lib.hid ((HD.out.below B1.out).more B1.out.size)
    clear HG
    go_wp2
    go_loopw [9, 21] (fun u j wr => j = .int .i64 0 ∧ u = .int .i64 0 ∧ wr = w1) (fun _ j _ => 0)
    case atStart => exact ⟨rfl, rfl, rfl⟩
    obtain ⟨rfl, rfl, rfl⟩ := hrel
    go_wp2
    go_ret2
    rw [HQ.out, HP.out]
    exact ⟨rfl, B1.out⟩
  · obtain ⟨G, hG⟩ : ∃ G, (srvTo s l l.length).2 = G := ⟨_, rfl⟩
    have HPG := Lib.hid (show allG s l = G by rw [allG, if_pos hq, hG])
    have HQ := Lib.hid hq
    have HP := Lib.hid (show earnP s l = earnTo l G n by rw [earnP, if_pos hq, hG, HN.out])
    have HAI := Lib.hid (hG ▸ allIn_of hq)
    have HGl := Lib.hid (HAI.out.1.trans HN.out)
    have hn10 : n ≤ 10 := by have := (allOK_len hq).2; rw [HN.out] at this; exact this
    clear hq hG
    go_enter Try.func39, Try.ntmps39
    go_wp2_with fail
    refine (impl_ServeAll_plain s l m n HM.out HN.out _ _ _ _ _ hl' hl HC.out HD.out).mono ?_
    rintro e w1 ⟨v1, u1, rfl, o1, p1, b1⟩
    obtain ⟨A1, c1, rfl, _, _, _⟩ := o1.slice
    obtain ⟨A2, c2, rfl, _, _, _⟩ := p1.slice
    rw [HQ.out]
    have B1 := Lib.hid b1
    have HG := p1
    clear o1 p1 b1
    rw [HPG.out] at HG ⊢
    have P1 := Lib.hid HG
    have D1 := Lib.hid ((HD.out.below B1.out).more B1.out.size)
    clear HG
    have P2 := P1.out
    rw [HGl.out] at P2 ⊢
    clear P1
    have P1 := Lib.hid P2
    clear P2
    go_wp2
    go_loopw [9, 21] (fun u j wr => ∃ k : Nat, k ≤ n ∧ j = .int .i64 k ∧ u = .int .i64 (earnTo l G k) ∧ Below w1.heap.size w1 wr) (fun _ j _ => n - (intOf j).toNat)
    case atStart => exact ⟨0, Nat.zero_le _, rfl, rfl, Below.refl _ _⟩
    case round =>
      obtain ⟨k, hk, rfl, rfl, hbel⟩ := hrel
      by_cases hlt : k < n
      · obtain ⟨bk, off, rfl, hb, hcs⟩ := D1.out.contract (by rw [HN.out]; omega)
        obtain ⟨b', off', rfl, hb', hcs'⟩ := P1.out.rd.int_ (by rw [HGl.out]; omega)
        have hx : l[k]? = some (l[k]'(by rw [HN.out]; exact hlt)) := List.getElem?_eq_getElem _
        have hg : G[k]? = some (G[k]'(by rw [HGl.out]; exact hlt)) := List.getElem?_eq_getElem _
        generalize l[k]'(by rw [HN.out]; exact hlt) = x at hx
        generalize G[k]'(by rw [HGl.out]; exact hlt) = g at hg
        obtain ⟨c0, c1, c2, c3, c4, c5, c6⟩ := hcs k x hx
        have d0 := hcs' k g hg
        obtain ⟨i1, i2, i3⟩ := HAI.out.2 k x g hx hg
        obtain ⟨_, _, t12, p12, _, _, f12⟩ := contractOK_at i1
        rw [← hbel.cell hb] at c0 c1 c2 c3 c4 c5 c6
        rw [← hbel.cell hb'] at d0
        have hsz := hbel.size
        have hbw : bk < wr.heap.size := by omega
        have hbw' : b' < wr.heap.size := by omega
        have k1 : (k : Int) < n := by omega
        have k2 : (0 : Int) ≤ k := by omega
        have hr := earnTo_rng HAI.out k (by rw [HN.out]; exact hk)
        obtain ⟨r1, r2⟩ := gain_rng i1 i2 i3
        have HS := Lib.hid (show earnTo l G (k + 1) = earnTo l G k + (g * x.price - (x.tons - g) * x.fine) by rw [earnTo_succ, List.getElem!_of_getElem? hx, List.getElem!_of_getElem? hg, gainAt])
        clear hcs hcs' hx hg i1
        generalize earnTo l G k = et at *
        obtain ⟨x1, x2, x3, x4, x5, x6, x7⟩ := x
        dsimp only at c0 c1 c2 c3 c4 c5 c6 r1 r2 i3 t12 p12 f12 HS
        have w1' : IntKind.i64.wrap (g * x4) = g * x4 := IntWalk.i64_in _ (by omega)
        have w2' : IntKind.i64.wrap (x3 - g) = x3 - g := IntWalk.i64_in _ (by omega)
        have w3' : IntKind.i64.wrap ((x3 - g) * x7) = (x3 - g) * x7 := IntWalk.i64_in _ (by omega)
        have w4' : IntKind.i64.wrap (g * x4 - (x3 - g) * x7) = g * x4 - (x3 - g) * x7 := IntWalk.i64_in _ (by omega)
        have w5' : IntKind.i64.wrap (et + (g * x4 - (x3 - g) * x7)) = et + (g * x4 - (x3 - g) * x7) := IntWalk.i64_in _ (by omega)
        have w6' : IntKind.i64.wrap (et + g * x4) = et + g * x4 := IntWalk.i64_in _ (by omega)
        have w7' : IntKind.i64.wrap (et + g * x4 - (x3 - g) * x7) = et + g * x4 - (x3 - g) * x7 := IntWalk.i64_in _ (by omega)
        go_wp2
        refine wp_region_gw (by kernel_rfl) (by kernel_rfl) ?_
        repeat (first | go_big_quiet_step ((fail)) | quiet_step ((fail)))
        refine wpQuiet_nil ?_
        rintro _ ⟨pq, rfl⟩
        go_wp2
        go_roundw
        case rel => exact ⟨k + 1, by omega, by go_num, by rw [HS.out] <;> (congr 1; omega), (by repeat (first | assumption | exact Below.refl _ _ | apply bl_gw | apply bl_alloc | apply bl_drewN | apply bl_drew))⟩
        case measure => simp [intOf]; omega
      · go_wp2
        go_ret2
        obtain rfl : k = n := by omega
        rw [HQ.out, HP.out]
        exact ⟨rfl, below_step B1.out hbel⟩
set_option maxRecDepth 4000 in
set_option maxHeartbeats 8000000 in
theorem spec_EarnedBy_any (s : List Int) (l : List Contract) (m n : Nat) (hm : s.length = m) (hn : l.length = n) (A A' : Option Addr) (cap cap' : Nat) (w : World) (hl' : m ≤ 1048576) (hl : n ≤ 1048576) (hc : Sl encInt w w.heap.size A s) (hd : Sl encContract w w.heap.size A' l) :
    Calls Try.prog 38 #[.slice A m cap, .slice A' n cap'] w fun e w' => e = .returned (.tuple #[.int .i64 (earnP s l), .bool (allOK s l)]) ∧ Below w.heap.size w w' := by
  have HC := Lib.hid hc; clear hc
  have HD := Lib.hid hd; clear hd
  have HN := Lib.hid hn; clear hn
  have HM := Lib.hid hm; clear hm
  rcases sp1 (allOK s l) with hq | hq
  · have HPG := Lib.hid (show allG s l = [] by simp [allG, hq])
    have HQ := Lib.hid hq
    have HP := Lib.hid (show earnP s l = 0 by simp [earnP, hq])
    clear hq
    go_enter Try.func38, Try.ntmps38
    go_wp2_with fail
    refine (spec_ServeAll_any s l m n HM.out HN.out _ _ _ _ _ hl' hl HC.out HD.out).mono ?_
    rintro e w1 ⟨v1, u1, rfl, o1, p1, b1⟩
    obtain ⟨A1, c1, rfl, _, _, _⟩ := o1.slice
    obtain ⟨A2, c2, rfl, _, _, _⟩ := p1.slice
    rw [HQ.out]
    have B1 := Lib.hid b1
    have HG := p1
    clear o1 p1 b1
    rw [HPG.out] at HG ⊢
    have P1 := Lib.hid HG
    have D1 := Lib.hid ((HD.out.below B1.out).more B1.out.size)
    clear HG
    go_wp2
    go_ret2
    rw [HQ.out, HP.out]
    exact ⟨rfl, B1.out⟩
  · obtain ⟨G, hG⟩ : ∃ G, (srvTo s l l.length).2 = G := ⟨_, rfl⟩
    have HPG := Lib.hid (show allG s l = G by rw [allG, if_pos hq, hG])
    have HQ := Lib.hid hq
    have HP := Lib.hid (show earnP s l = earnTo l G n by rw [earnP, if_pos hq, hG, HN.out])
    have HAI := Lib.hid (hG ▸ allIn_of hq)
    have HGl := Lib.hid (HAI.out.1.trans HN.out)
    have hn10 : n ≤ 10 := by have := (allOK_len hq).2; rw [HN.out] at this; exact this
    clear hq hG
    go_enter Try.func38, Try.ntmps38
    go_wp2_with fail
    refine (spec_ServeAll_any s l m n HM.out HN.out _ _ _ _ _ hl' hl HC.out HD.out).mono ?_
    rintro e w1 ⟨v1, u1, rfl, o1, p1, b1⟩
    obtain ⟨A1, c1, rfl, _, _, _⟩ := o1.slice
    obtain ⟨A2, c2, rfl, _, _, _⟩ := p1.slice
    rw [HQ.out]
    have B1 := Lib.hid b1
    have HG := p1
    clear o1 p1 b1
    rw [HPG.out] at HG ⊢
    have P1 := Lib.hid HG
    have D1 := Lib.hid ((HD.out.below B1.out).more B1.out.size)
    clear HG
    have P2 := P1.out
    rw [HGl.out] at P2 ⊢
    clear P1
    have P1 := Lib.hid P2
    clear P2
    go_wp2
    go_loopw [9, 10] (fun u j wr => ∃ k : Nat, k ≤ n ∧ j = .int .i64 k ∧ u = .int .i64 (earnTo l G k) ∧ Below w1.heap.size w1 wr) (fun _ j _ => n - (intOf j).toNat)
    case atStart => exact ⟨0, Nat.zero_le _, rfl, rfl, Below.refl _ _⟩
    case round =>
      obtain ⟨k, hk, rfl, rfl, hbel⟩ := hrel
      by_cases hlt : k < n
      · obtain ⟨bk, off, rfl, hb, hcs⟩ := D1.out.contract (by rw [HN.out]; omega)
        obtain ⟨b', off', rfl, hb', hcs'⟩ := P1.out.rd.int_ (by rw [HGl.out]; omega)
        have hx : l[k]? = some (l[k]'(by rw [HN.out]; exact hlt)) := List.getElem?_eq_getElem _
        have hg : G[k]? = some (G[k]'(by rw [HGl.out]; exact hlt)) := List.getElem?_eq_getElem _
        generalize l[k]'(by rw [HN.out]; exact hlt) = x at hx
        generalize G[k]'(by rw [HGl.out]; exact hlt) = g at hg
        obtain ⟨c0, c1, c2, c3, c4, c5, c6⟩ := hcs k x hx
        have d0 := hcs' k g hg
        obtain ⟨i1, i2, i3⟩ := HAI.out.2 k x g hx hg
        obtain ⟨_, _, t12, p12, _, _, f12⟩ := contractOK_at i1
        rw [← hbel.cell hb] at c0 c1 c2 c3 c4 c5 c6
        rw [← hbel.cell hb'] at d0
        have hsz := hbel.size
        have hbw : bk < wr.heap.size := by omega
        have hbw' : b' < wr.heap.size := by omega
        have k1 : (k : Int) < n := by omega
        have k2 : (0 : Int) ≤ k := by omega
        have hr := earnTo_rng HAI.out k (by rw [HN.out]; exact hk)
        obtain ⟨r1, r2⟩ := gain_rng i1 i2 i3
        have HS := Lib.hid (show earnTo l G (k + 1) = earnTo l G k + (g * x.price - (x.tons - g) * x.fine) by rw [earnTo_succ, List.getElem!_of_getElem? hx, List.getElem!_of_getElem? hg, gainAt])
        clear hcs hcs' hx hg i1
        generalize earnTo l G k = et at *
        obtain ⟨x1, x2, x3, x4, x5, x6, x7⟩ := x
        dsimp only at c0 c1 c2 c3 c4 c5 c6 r1 r2 i3 t12 p12 f12 HS
        have w1' : IntKind.i64.wrap (g * x4) = g * x4 := IntWalk.i64_in _ (by omega)
        have w2' : IntKind.i64.wrap (x3 - g) = x3 - g := IntWalk.i64_in _ (by omega)
        have w3' : IntKind.i64.wrap ((x3 - g) * x7) = (x3 - g) * x7 := IntWalk.i64_in _ (by omega)
        have w4' : IntKind.i64.wrap (g * x4 - (x3 - g) * x7) = g * x4 - (x3 - g) * x7 := IntWalk.i64_in _ (by omega)
        have w5' : IntKind.i64.wrap (et + (g * x4 - (x3 - g) * x7)) = et + (g * x4 - (x3 - g) * x7) := IntWalk.i64_in _ (by omega)
        have w6' : IntKind.i64.wrap (et + g * x4) = et + g * x4 := IntWalk.i64_in _ (by omega)
        have w7' : IntKind.i64.wrap (et + g * x4 - (x3 - g) * x7) = et + g * x4 - (x3 - g) * x7 := IntWalk.i64_in _ (by omega)
        go_wp2
        refine wp_region_gw (by kernel_rfl) (by kernel_rfl) ?_
        repeat (first | go_big_quiet_step ((fail)) | quiet_step ((fail)))
        refine wpQuiet_nil ?_
        rintro _ ⟨pq, rfl⟩
        go_wp2
        go_roundw
        case rel => exact ⟨k + 1, by omega, by go_num, by rw [HS.out] <;> (congr 1; omega), (by repeat (first | assumption | exact Below.refl _ _ | apply bl_gw | apply bl_alloc | apply bl_drewN | apply bl_drew))⟩
        case measure => simp [intOf]; omega
      · go_wp2
        go_ret2
        obtain rfl : k = n := by omega
        rw [HQ.out, HP.out]
        exact ⟨rfl, below_step B1.out hbel⟩
set_option maxRecDepth 4000 in
set_option maxHeartbeats 8000000 in
theorem impl_IsEnough_any (s : List Int) (l : List Contract) (m n : Nat) (hm : s.length = m) (hn : l.length = n) (A A' : Option Addr) (cap cap' : Nat) (w : World) (hl' : m ≤ 1048576) (hl : n ≤ 1048576) (hc : Sl encInt w w.heap.size A s) (hd : Sl encContract w w.heap.size A' l) :
    Calls Try.prog 41 #[.slice A m cap, .slice A' n cap'] w fun e w' => e = .returned (.tuple #[.bool (enoughP s l), .bool (allOK s l)]) ∧ Below w.heap.size w w' := by
  have HC := Lib.hid hc; clear hc
  have HD := Lib.hid hd; clear hd
  have HN := Lib.hid hn; clear hn
  have HM := Lib.hid hm; clear hm
  rcases sp1 (allOK s l) with hq | hq
  · have HPG := Lib.hid (show allG s l = [] by simp [allG, hq])
    have HQ := Lib.hid hq
    have HP := Lib.hid (show enoughP s l = false by simp [enoughP, hq])
    clear hq
    go_enter Try.func41, Try.ntmps41
    go_wp2_with fail
    refine (impl_ServeAll_plain s l m n HM.out HN.out _ _ _ _ _ hl' hl HC.out HD.out).mono ?_
    rintro e w1 ⟨v1, u1, rfl, o1, p1, b1⟩
    obtain ⟨A1, c1, rfl, _, _, _⟩ := o1.slice
    obtain ⟨A2, c2, rfl, _, _, _⟩ := p1.slice
    rw [HQ.out]
    have B1 := Lib.hid b1
    have HG := p1
    clear o1 p1 b1
    rw [HPG.out] at HG ⊢
    have P1 := Lib.hid HG
    have D1 := Lib.hid ((HD.out.below B1.out).more B1.out.size)
    clear HG
    go_wp2
    go_ret2
    rw [HQ.out, HP.out]
    exact ⟨rfl, B1.out⟩
  · obtain ⟨G, hG⟩ : ∃ G, (srvTo s l l.length).2 = G := ⟨_, rfl⟩
    have HPG := Lib.hid (show allG s l = G by rw [allG, if_pos hq, hG])
    have HQ := Lib.hid hq
    have HP := Lib.hid (show enoughP s l = (firstTo (shortAt l G) l.length).isNone by rw [enoughP, hq, hG]; rfl)
    have HAI := Lib.hid (hG ▸ allIn_of hq)
    have HGl := Lib.hid (HAI.out.1.trans HN.out)
    have hn10 : n ≤ 10 := by have := (allOK_len hq).2; rw [HN.out] at this; exact this
    clear hq hG
    go_enter Try.func41, Try.ntmps41
    go_wp2_with fail
    refine (impl_ServeAll_plain s l m n HM.out HN.out _ _ _ _ _ hl' hl HC.out HD.out).mono ?_
    rintro e w1 ⟨v1, u1, rfl, o1, p1, b1⟩
    obtain ⟨A1, c1, rfl, _, _, _⟩ := o1.slice
    obtain ⟨A2, c2, rfl, _, _, _⟩ := p1.slice
    rw [HQ.out]
    have B1 := Lib.hid b1
    have HG := p1
    clear o1 p1 b1
    rw [HPG.out] at HG ⊢
    have P1 := Lib.hid HG
    have D1 := Lib.hid ((HD.out.below B1.out).more B1.out.size)
    clear HG
    have P2 := P1.out
    rw [HGl.out] at P2 ⊢
    clear P1
    have P1 := Lib.hid P2
    clear P2
    go_wp2
    go_loopw [22] (fun j wr => ∃ k : Nat, k ≤ n ∧ j = .int .i64 k ∧ firstTo (shortAt l G) k = none ∧ Below w1.heap.size w1 wr) (fun j _ => n - (intOf j).toNat)
    case atStart => exact ⟨0, Nat.zero_le _, rfl, rfl, Below.refl _ _⟩
    case round =>
      obtain ⟨k, hk, rfl, hfi, hbel⟩ := hrel
      have HF := Lib.hid hfi
      clear hfi
      by_cases hlt : k < n
      · obtain ⟨bk, off, rfl, hb, hcs⟩ := D1.out.contract (by rw [HN.out]; omega)
        obtain ⟨b', off', rfl, hb', hcs'⟩ := P1.out.rd.int_ (by rw [HGl.out]; omega)
        have hx : l[k]? = some (l[k]'(by rw [HN.out]; exact hlt)) := List.getElem?_eq_getElem _
        have hg : G[k]? = some (G[k]'(by rw [HGl.out]; exact hlt)) := List.getElem?_eq_getElem _
        generalize l[k]'(by rw [HN.out]; exact hlt) = x at hx
        generalize G[k]'(by rw [HGl.out]; exact hlt) = g at hg
        obtain ⟨c0, c1, c2, c3, c4, c5, c6⟩ := hcs k x hx
        have d0 := hcs' k g hg
        obtain ⟨i1, i2, i3⟩ := HAI.out.2 k x g hx hg
        obtain ⟨_, _, t12, p12, _, _, f12⟩ := contractOK_at i1
        rw [← hbel.cell hb] at c0 c1 c2 c3 c4 c5 c6
        rw [← hbel.cell hb'] at d0
        have hsz := hbel.size
        have hbw : bk < wr.heap.size := by omega
        have hbw' : b' < wr.heap.size := by omega
        have k1 : (k : Int) < n := by omega
        have k2 : (0 : Int) ≤ k := by omega
        have hsh : shortAt l G k = decide (g < x.tons) := by rw [shortAt, List.getElem!_of_getElem? hx, List.getElem!_of_getElem? hg]
        have HX := Lib.hid (show g < x.tons → (firstTo (shortAt l G) l.length).isNone = false from fun h => by
          rw [firstTo_hit HF.out (by rw [hsh]; exact decide_eq_true h) l.length (by rw [HN.out]; exact hlt)]; rfl)
        have HY := Lib.hid (show ¬ g < x.tons → firstTo (shortAt l G) (k + 1) = none from fun h => firstTo_miss HF.out (by rw [hsh]; exact decide_eq_false h))
        clear hcs hcs' hx hg i1 hsh
        generalize x.tons = xt at *
        by_cases ht : g < xt
        · go_wp2
          skip
          go_wp2
          go_ret2
          rw [HQ.out, HP.out, HX.out ht]
          exact ⟨rfl, below_step B1.out (by repeat (first | assumption | exact Below.refl _ _ | apply bl_gw | apply bl_alloc | apply bl_drewN | apply bl_drew))⟩
        · go_wp2
          skip
          go_wp2
          go_roundw
          case rel => exact ⟨k + 1, by omega, by go_num, HY.out ht, (by repeat (first | assumption | exact Below.refl _ _ | apply bl_gw | apply bl_alloc | apply bl_drewN | apply bl_drew))⟩
          case measure => simp [intOf]; omega
      · go_wp2
        go_ret2
        obtain rfl : k = n := by omega
        rw [HQ.out, HP.out, HN.out, HF.out]
        exact ⟨rfl, below_step B1.out hbel⟩
set_option maxRecDepth 4000 in
set_option maxHeartbeats 8000000 in
theorem spec_IsEnough_any (s : List Int) (l : List Contract) (m n : Nat) (hm : s.length = m) (hn : l.length = n) (A A' : Option Addr) (cap cap' : Nat) (w : World) (hl' : m ≤ 1048576) (hl : n ≤ 1048576) (hc : Sl encInt w w.heap.size A s) (hd : Sl encContract w w.heap.size A' l) :
    Calls Try.prog 40 #[.slice A m cap, .slice A' n cap'] w fun e w' => e = .returned (.tuple #[.bool (enoughP s l), .bool (allOK s l)]) ∧ Below w.heap.size w w' := by
  have HC := Lib.hid hc; clear hc
  have HD := Lib.hid hd; clear hd
  have HN := Lib.hid hn; clear hn
  have HM := Lib.hid hm; clear hm
  rcases sp1 (allOK s l) with hq | hq
  · have HPG := Lib.hid (show allG s l = [] by simp [allG, hq])
    have HQ := Lib.hid hq
    have HP := Lib.hid (show enoughP s l = false by simp [enoughP, hq])
    clear hq
    go_enter Try.func40, Try.ntmps40
    go_wp2_with fail
    refine (spec_ServeAll_any s l m n HM.out HN.out _ _ _ _ _ hl' hl HC.out HD.out).mono ?_
    rintro e w1 ⟨v1, u1, rfl, o1, p1, b1⟩
    obtain ⟨A1, c1, rfl, _, _, _⟩ := o1.slice
    obtain ⟨A2, c2, rfl, _, _, _⟩ := p1.slice
    rw [HQ.out]
    have B1 := Lib.hid b1
    have HG := p1
    clear o1 p1 b1
    rw [HPG.out] at HG ⊢
    have P1 := Lib.hid HG
    have D1 := Lib.hid ((HD.out.below B1.out).more B1.out.size)
    clear HG
    go_wp2
    go_ret2
    rw [HQ.out, HP.out]
    exact ⟨rfl, B1.out⟩
  · obtain ⟨G, hG⟩ : ∃ G, (srvTo s l l.length).2 = G := ⟨_, rfl⟩
    have HPG := Lib.hid (show allG s l = G by rw [allG, if_pos hq, hG])
    have HQ := Lib.hid hq
    have HP := Lib.hid (show enoughP s l = (firstTo (shortAt l G) l.length).isNone by rw [enoughP, hq, hG]; rfl)
    have HAI := Lib.hid (hG ▸ allIn_of hq)
    have HGl := Lib.hid (HAI.out.1.trans HN.out)
    have hn10 : n ≤ 10 := by have := (allOK_len hq).2; rw [HN.out] at this; exact this
    clear hq hG
    go_enter Try.func40, Try.ntmps40
    go_wp2_with fail
    refine (spec_ServeAll_any s l m n HM.out HN.out _ _ _ _ _ hl' hl HC.out HD.out).mono ?_
    rintro e w1 ⟨v1, u1, rfl, o1, p1, b1⟩
    obtain ⟨A1, c1, rfl, _, _, _⟩ := o1.slice
    obtain ⟨A2, c2, rfl, _, _, _⟩ := p1.slice
    rw [HQ.out]
    have B1 := Lib.hid b1
    have HG := p1
    clear o1 p1 b1
    rw [HPG.out] at HG ⊢
    have P1 := Lib.hid HG
    have D1 := Lib.hid ((HD.out.below B1.out).more B1.out.size)
    clear HG
    have P2 := P1.out
    rw [HGl.out] at P2 ⊢
    clear P1
    have P1 := Lib.hid P2
    clear P2
    go_wp2
    go_loopw [9] (fun j wr => ∃ k : Nat, k ≤ n ∧ j = .int .i64 k ∧ firstTo (shortAt l G) k = none ∧ Below w1.heap.size w1 wr) (fun j _ => n - (intOf j).toNat)
    case atStart => exact ⟨0, Nat.zero_le _, rfl, rfl, Below.refl _ _⟩
    case round =>
      obtain ⟨k, hk, rfl, hfi, hbel⟩ := hrel
      have HF := Lib.hid hfi
      clear hfi
      by_cases hlt : k < n
      · obtain ⟨bk, off, rfl, hb, hcs⟩ := D1.out.contract (by rw [HN.out]; omega)
        obtain ⟨b', off', rfl, hb', hcs'⟩ := P1.out.rd.int_ (by rw [HGl.out]; omega)
        have hx : l[k]? = some (l[k]'(by rw [HN.out]; exact hlt)) := List.getElem?_eq_getElem _
        have hg : G[k]? = some (G[k]'(by rw [HGl.out]; exact hlt)) := List.getElem?_eq_getElem _
        generalize l[k]'(by rw [HN.out]; exact hlt) = x at hx
        generalize G[k]'(by rw [HGl.out]; exact hlt) = g at hg
        obtain ⟨c0, c1, c2, c3, c4, c5, c6⟩ := hcs k x hx
        have d0 := hcs' k g hg
        obtain ⟨i1, i2, i3⟩ := HAI.out.2 k x g hx hg
        obtain ⟨_, _, t12, p12, _, _, f12⟩ := contractOK_at i1
        rw [← hbel.cell hb] at c0 c1 c2 c3 c4 c5 c6
        rw [← hbel.cell hb'] at d0
        have hsz := hbel.size
        have hbw : bk < wr.heap.size := by omega
        have hbw' : b' < wr.heap.size := by omega
        have k1 : (k : Int) < n := by omega
        have k2 : (0 : Int) ≤ k := by omega
        have hsh : shortAt l G k = decide (g < x.tons) := by rw [shortAt, List.getElem!_of_getElem? hx, List.getElem!_of_getElem? hg]
        have HX := Lib.hid (show g < x.tons → (firstTo (shortAt l G) l.length).isNone = false from fun h => by
          rw [firstTo_hit HF.out (by rw [hsh]; exact decide_eq_true h) l.length (by rw [HN.out]; exact hlt)]; rfl)
        have HY := Lib.hid (show ¬ g < x.tons → firstTo (shortAt l G) (k + 1) = none from fun h => firstTo_miss HF.out (by rw [hsh]; exact decide_eq_false h))
        clear hcs hcs' hx hg i1 hsh
        generalize x.tons = xt at *
        by_cases ht : g < xt
        · go_wp2
          refine wp_region_gw (by kernel_rfl) (by kernel_rfl) ?_
          repeat (first | go_big_quiet_step ((fail)) | quiet_step ((fail)))
          refine wpQuiet_nil ?_
          rintro _ ⟨pq, rfl⟩
          go_wp2
          go_ret2
          rw [HQ.out, HP.out, HX.out ht]
          exact ⟨rfl, below_step B1.out (by repeat (first | assumption | exact Below.refl _ _ | apply bl_gw | apply bl_alloc | apply bl_drewN | apply bl_drew))⟩
        · go_wp2
          refine wp_region_gw (by kernel_rfl) (by kernel_rfl) ?_
          repeat (first | go_big_quiet_step ((fail)) | quiet_step ((fail)))
          refine wpQuiet_nil ?_
          rintro _ ⟨pq, rfl⟩
          go_wp2
          go_roundw
          case rel => exact ⟨k + 1, by omega, by go_num, HY.out ht, (by repeat (first | assumption | exact Below.refl _ _ | apply bl_gw | apply bl_alloc | apply bl_drewN | apply bl_drew))⟩
          case measure => simp [intOf]; omega
      · go_wp2
        go_ret2
        obtain rfl : k = n := by omega
        rw [HQ.out, HP.out, HN.out, HF.out]
        exact ⟨rfl, below_step B1.out hbel⟩
end Go.Proofs.Ytcljfdpjlkaagaa
