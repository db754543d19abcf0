/- Casks of bittern: their kilograms and bitter grams. -/
import Derived.Test.YtcajgadgdjopdaaBitternA
namespace Go.Proofs.Ytcajgadgdjopdaa
open Go.RowKit
def kilosTo (l : List Bittern) (k : Nat) : Int := loopTo (fun i t => wrap64 (t + l[i]!.kilos)) 0 k
def gramsTo (l : List Bittern) (k : Nat) : Int := loopTo (fun i t => wrap64 (t + wrap64 (l[i]!.kilos * l[i]!.bitter))) 0 k
theorem kilosTo_succ (l : List Bittern) (k : Nat) : kilosTo l (k + 1) = wrap64 (kilosTo l k + l[k]!.kilos) := rfl
theorem gramsTo_succ (l : List Bittern) (k : Nat) : gramsTo l (k + 1) = wrap64 (gramsTo l k + wrap64 (l[k]!.kilos * l[k]!.bitter)) := rfl
set_option maxRecDepth 4000 in
set_option maxHeartbeats 4000000 in
theorem amounts_any (l : List Bittern) (n : Nat) (hn : l.length = n) (A : Option Addr) (cap : Nat) (w : World) (hl : n ≤ 1048576) (hc : Sl encBittern w w.heap.size A l) :
    Calls Try.prog 58 #[.slice A n cap] w fun e w' => e = .returned (.tuple #[.int .i64 (kilosTo l n), .int .i64 (gramsTo l n)]) ∧ Below w.heap.size w w' := by
  have HC := Lib.hid hc; clear hc
  have HN := Lib.hid hn; clear hn
  go_enter Try.func58, Try.ntmps58
  go_wp2
  go_loopw [4, 5, 10] (fun kv gv iv wr => ∃ k : Nat, k ≤ n ∧ iv = .int .i64 k ∧ kv = .int .i64 (kilosTo l k) ∧ gv = .int .i64 (gramsTo l k) ∧ Below w.heap.size w wr) (fun _ _ iv _ => n - (intOf iv).toNat)
  case atStart => exact ⟨0, Nat.zero_le _, rfl, rfl, rfl, Below.refl _ _⟩
  case round =>
    obtain ⟨k, hk, rfl, rfl, rfl, hbel⟩ := hrel
    have hsz := hbel.size
    by_cases hlt : k < n
    · obtain ⟨b, off, rfl, hb, hcs⟩ := HC.out.bittern (by rw [HN.out]; omega)
      have hx : l[k]? = some l[k]! := by rw [getElem!_pos l k (by rw [HN.out]; exact hlt)]; exact List.getElem?_eq_getElem _
      obtain ⟨c0, c1, c2⟩ := hcs k _ hx
      have h1 := kilosTo_succ l k
      have h2 := gramsTo_succ l k
      generalize l[k]! = x at c0 c1 c2 h1 h2
      obtain ⟨x1, x2, x3⟩ := x
      dsimp only at c0 c1 c2 h1 h2
      obtain ⟨s, hs⟩ : ∃ s, kilosTo l k = s := ⟨_, rfl⟩
      obtain ⟨t, ht⟩ : ∃ t, gramsTo l k = t := ⟨_, rfl⟩
      rw [hs] at h1 ⊢
      rw [ht] at h2 ⊢
      have H1 := Lib.hid h1
      have H2 := Lib.hid h2
      rw [← hbel.cell hb] at c0 c1 c2
      have hbw : b < wr.heap.size := by omega
      have k1 : (k : Int) < n := by omega
      have k2 : (0 : Int) ≤ k := by omega
      clear hcs hx hs ht h1 h2
      go_wp2
      try (
        refine wp_region_gw (by kernel_rfl) (by kernel_rfl) ?_
        repeat (first | go_big_quiet_step (fail) | quiet_step (fail))
        refine wpQuiet_nil ?_
        rintro _ ⟨pq, rfl⟩
        go_wp2)
      go_roundw
      case rel => exact ⟨k + 1, by omega, by go_num, by rw [H1.out], by rw [H2.out], (by repeat (first | assumption | exact Below.refl _ _ | apply bl_gw | apply bl_alloc | apply bl_drewN | apply bl_drew))⟩
      case measure => simp [intOf]; omega
    · obtain rfl : k = n := by omega
      go_wp2
      go_ret2
      exact ⟨rfl, hbel⟩
def gramsP (l : List Bittern) : Int := if areBitterns l then gramsTo l l.length else 0
set_option maxHeartbeats 4000000 in
theorem impl_BitterGrams_any (l : List Bittern) (n : Nat) (hn : l.length = n) (A : Option Addr) (cap : Nat) (w : World) (hl : n ≤ 1048576) (hc : Sl encBittern w w.heap.size A l) :
    Calls Try.prog 18 #[.slice A n cap] w fun e w' => e = .returned (.tuple #[.int .i64 (gramsP l), .bool (areBitterns l)]) ∧ Below w.heap.size w w' := by
  have HC := Lib.hid hc; clear hc
  have HN := Lib.hid hn; clear hn
  cases t : areBitterns l with
  | false =>
    have hp : gramsP l = 0 := by unfold gramsP; rw [t]; rfl
    rw [hp]
    have HT := Lib.hid t
    clear t hp
    go_enter Try.func18, Try.ntmps18
    go_wp2_with (go_at_call 13; refine (impl_AreBitterns_any l n HN.out _ _ _ hl HC.out).mono ?_; rintro e w1 ⟨rfl, hb⟩; rw [HT.out]; obtain ⟨p, rfl⟩ := below_gw hb; clear hb)
    go_wp2
    go_ret2
    exact ⟨rfl, (by repeat (first | assumption | exact Below.refl _ _ | apply bl_gw | apply bl_alloc | apply bl_drewN | apply bl_drew))⟩
  | true =>
    have hp : gramsP l = gramsTo l n := by unfold gramsP; rw [t, HN.out]; rfl
    rw [hp]
    have HT := Lib.hid t
    clear t hp
    go_enter Try.func18, Try.ntmps18
    go_wp2_with (first | (go_at_call 13; refine (impl_AreBitterns_any l n HN.out _ _ _ hl HC.out).mono ?_; rintro e w1 ⟨rfl, hb⟩; rw [HT.out]; obtain ⟨p, rfl⟩ := below_gw hb; clear hb) | (go_at_call 58; refine (amounts_any l n HN.out _ _ _ hl (HC.out.past (by repeat (first | assumption | exact Below.refl _ _ | apply bl_gw | apply bl_alloc | apply bl_drewN | apply bl_drew)))).mono ?_; rintro e w1 ⟨rfl, hb⟩; obtain ⟨p, rfl⟩ := below_gw hb; clear hb))
    go_wp2
    go_ret2
    exact ⟨rfl, (by repeat (first | assumption | exact Below.refl _ _ | apply bl_gw | apply bl_alloc | apply bl_drewN | apply bl_drew))⟩
/-- Kilograms and grams of casks: plain sums, bounded. -/
theorem kg_step {l : List Bittern} (h : areBitterns l = true) : ∀ k, k ≤ l.length → (0 ≤ kilosTo l k ∧ kilosTo l k ≤ 10000 * k ∧ 0 ≤ gramsTo l k ∧ gramsTo l k ≤ 10000000 * k) ∧ (k < l.length → kilosTo l (k + 1) = kilosTo l k + l[k]!.kilos ∧ gramsTo l (k + 1) = gramsTo l k + l[k]!.kilos * l[k]!.bitter ∧ 0 ≤ l[k]!.kilos * l[k]!.bitter ∧ l[k]!.kilos * l[k]!.bitter ≤ 10000000) := by
  have hlen := areBitterns_len h
  have key : ∀ k, k ≤ l.length → (0 ≤ kilosTo l k ∧ kilosTo l k ≤ 10000 * k ∧ 0 ≤ gramsTo l k ∧ gramsTo l k ≤ 10000000 * k) → (k < l.length → kilosTo l (k + 1) = kilosTo l k + l[k]!.kilos ∧ gramsTo l (k + 1) = gramsTo l k + l[k]!.kilos * l[k]!.bitter ∧ 0 ≤ l[k]!.kilos * l[k]!.bitter ∧ l[k]!.kilos * l[k]!.bitter ≤ 10000000) := fun k hk hr hlt => by
    have hx : l[k]? = some l[k]! := by rw [getElem!_pos l k hlt]; exact List.getElem?_eq_getElem _
    obtain ⟨_, ⟨h1, h2⟩, ⟨h3, h4⟩⟩ := bitternOK_at (areBitterns_ok h hx)
    have m1 : 0 ≤ l[k]!.kilos * l[k]!.bitter := Int.mul_nonneg h1 h3
    have m2 : l[k]!.kilos * l[k]!.bitter ≤ 10000 * 1000 := Int.mul_le_mul h2 h4 h3 (by omega)
    obtain ⟨p, hp⟩ : ∃ p, l[k]!.kilos * l[k]!.bitter = p := ⟨_, rfl⟩
    rw [kilosTo_succ, gramsTo_succ]
    rw [hp] at m1 m2 ⊢
    have w1 : wrap64 (kilosTo l k + l[k]!.kilos) = kilosTo l k + l[k]!.kilos := by unfold wrap64; omega
    have w2 : wrap64 p = p := by unfold wrap64; omega
    have w3 : wrap64 (gramsTo l k + p) = gramsTo l k + p := by unfold wrap64; omega
    rw [w1, w2, w3]
    exact ⟨rfl, rfl, m1, by omega⟩
  have rng : ∀ k, k ≤ l.length → (0 ≤ kilosTo l k ∧ kilosTo l k ≤ 10000 * k ∧ 0 ≤ gramsTo l k ∧ gramsTo l k ≤ 10000000 * k) := fun k => by
    induction k with
    | zero => intro _; simp [kilosTo, gramsTo, loopTo]
    | succ k ih =>
      intro hk
      have hr := ih (by omega)
      obtain ⟨e1, e2, m1, m2⟩ := key k (by omega) hr (by omega)
      have hx : l[k]? = some l[k]! := by rw [getElem!_pos l k (by omega)]; exact List.getElem?_eq_getElem _
      obtain ⟨_, ⟨h1, h2⟩, _⟩ := bitternOK_at (areBitterns_ok h hx)
      rw [e1, e2]
      push_cast
      omega
  exact fun k hk => ⟨rng k hk, key k hk (rng k hk)⟩
theorem kg_rng {l : List Bittern} (h : areBitterns l = true) : ∃ K G : Nat, kilosTo l l.length = K ∧ gramsTo l l.length = G ∧ K ≤ 80000 ∧ G ≤ 80000000 := by
  have hlen := areBitterns_len h
  obtain ⟨h1, h2, h3, h4⟩ := (kg_step h l.length (Nat.le_refl _)).1
  exact ⟨(kilosTo l l.length).toNat, (gramsTo l l.length).toNat, by omega, by omega, by omega, by omega⟩
end Go.Proofs.Ytcajgadgdjopdaa
