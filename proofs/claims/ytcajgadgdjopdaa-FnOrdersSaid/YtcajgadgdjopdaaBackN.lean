/- slices.Backward over casks, by their places: the iterator's contract at whatever a round keeps. -/
import Derived.Test.YtcajgadgdjopdaaBack
namespace Go.Proofs.Ytcajgadgdjopdaa
open Go.RowKit Go.Shelf
attribute [local go_sem] Oper.semAt_some
/-- The places that have come when k rounds are over: the last first. -/
def downTo (m k : Nat) : List Nat := (List.range k).map fun j => m - 1 - j
theorem downTo_succ (m k : Nat) : downTo m (k + 1) = downTo m k ++ [m - 1 - k] := by simp [downTo, List.range_succ]
theorem downTo_length (m k : Nat) : (downTo m k).length = k := by simp [downTo]
set_option maxRecDepth 100000 in
set_option maxHeartbeats 2000000 in
theorem backN1_in (F : Fence) (n : Nat) (hf : F.fn 80) (hro : F.round = none) (hn : 1 ≤ n) (l Bs : Nat) (L : List Bittern) (m : Nat) (hm : L.length = m) (A : Option Addr) (cap : Nat) (hl : m ≤ 1048576) (Kp : World → World → Prop) (J Jx : List Nat → World → Prop)
    (hKt : ∀ {A B C : World}, Kp A B → Kp B C → Kp A C)
    (hY : ∀ pre (x : Nat) W, J pre W → pre.length < m → YieldAt F (n - 1) Try.prog l #[.int .i64 (x : Int), bitV L[x]!] W fun e W' =>
      (e = .returned (.bool true) ∧ J (pre ++ [x]) W' ∧ Kp W W') ∨ (e = .returned (.bool false) ∧ Jx (pre ++ [x]) W'))
    (W : World) (hKr : Kp W W) (hBs : ∀ W', Kp W W' → Boxed W' Bs 24 (.slice A m cap)) (hc : ∀ W', Kp W W' → Sl encBittern W' W'.heap.size A L) (h0 : J [] W) :
    CallsIn F n Try.prog 80 #[.func (.yield l) #[] #[], .pointer (some ⟨Bs, 0, none⟩)] W fun e W' => (∃ v, e = .returned v) ∧
      ((∃ ys, ys = downTo m m ∧ J ys W') ∨ (∃ pre, (∃ k, k ≤ m ∧ pre = downTo m k) ∧ Jx pre W')) := by
  refine callsIn_of_wp Try.func80 rfl hf ?_ hro
  simp only [Try.ntmps80, List.size_toArray, List.length_cons, List.length_nil, Nat.reduceAdd, Nat.reduceSub, Array.replicate_succ, Array.replicate_zero, List.push_toArray, List.append_toArray, List.nil_append, List.cons_append]
  have hc0 := (hBs W hKr).cell
  have w0 : IntKind.i64.wrap ((m : Int) - 1) = (m : Int) - 1 := IntWalk.i64_in _ (by omega)
  gi_wp2
  gi_loopw [3] (fun i wr => ∃ k : Nat, k ≤ m ∧ i = .int .i64 ((m : Int) - 1 - k) ∧ J (downTo m k) wr ∧ Kp W wr)
    (fun i _ => (intOf i + 1).toNat)
  case atStart => exact ⟨0, Nat.zero_le _, by simp, h0, hKr⟩
  case round =>
    obtain ⟨k, hk, rfl, hJs, hnx⟩ := hrel
    have hbx := hBs wr hnx
    have hcx := hbx.cell
    by_cases hlt : k < m
    · obtain ⟨j, hj⟩ : ∃ j : Nat, (m : Int) - 1 - k = j ∧ m - 1 - k = j := ⟨m - 1 - k, by omega, by omega⟩
      obtain ⟨b, off, rfl, hb, hcs⟩ := (hc wr hnx).bittern (by rw [hm]; omega)
      have hx : L[j]? = some L[j]! := by rw [getElem!_pos L j (by omega)]; exact List.getElem?_eq_getElem _
      have hs := downTo_succ m k
      rw [hj.2] at hs
      obtain ⟨d0, d1, d2⟩ := hcs j _ hx
      obtain ⟨fn, tmps, assign, body, hy, hR⟩ := hY _ j wr hJs (by rw [downTo_length]; exact hlt)
      generalize L[j]! = x at d0 d1 d2 hy
      rw [hj.1]
      have j1 : (j : Int) < m := by omega
      have j2 : (0 : Int) ≤ j := by omega
      have j3 : IntKind.i64.wrap ((j : Int) - 1) = (j : Int) - 1 := IntWalk.i64_in _ (by omega)
      dsimp only [bitV] at hy hR
      clear hcs hx
      gi_wp2
      refine hR.mono ?_
      rintro e W3 (⟨rfl, hJ3, hk3⟩ | ⟨rfl, hJx3⟩)
      · gi_wp2
        go_roundw
        case rel => exact ⟨k + 1, by omega, by congr 1 <;> omega, by rw [hs]; exact hJ3, hKt hnx hk3⟩
        case measure => simp [intOf] <;> omega
      · gi_wp2
        refine bodyPost_ret (results_none rfl _ _ _) rfl ?_
        exact ⟨⟨_, rfl⟩, .inr ⟨_, ⟨k + 1, by omega, hs.symm⟩, hJx3⟩⟩
    · obtain rfl : k = m := by omega
      have e : (k : Int) - 1 - k = -1 := by omega
      rw [e]
      gi_wp2
      go_end0
      exact ⟨⟨_, rfl⟩, .inl ⟨_, rfl, hJs⟩⟩
theorem backN_stops (F : Fence) (n : Nat) (hf : F.fn 80) (hro : F.round = none) (hn : 1 ≤ n) (Bs : Nat) (L : List Bittern) (m : Nat) (hm : L.length = m) (A : Option Addr) (cap : Nat) (hl : m ≤ 1048576) (Kp : World → World → Prop)
    (hKt : ∀ {A B C : World}, Kp A B → Kp B C → Kp A C) (w : World) (hKr : ∀ W, Below w.heap.size w W → Kp W W) (hBs : ∀ W W', Below w.heap.size w W → Kp W W' → Boxed W' Bs 24 (.slice A m cap)) (hc : ∀ W W', Below w.heap.size w W → Kp W W' → Sl encBittern W' W'.heap.size A L) :
    SeqStopsK F n Try.prog 80 #[.pointer (some ⟨Bs, 0, none⟩)] (fun x : Nat => #[.int .i64 (x : Int), bitV L[x]!]) Kp (fun ys => ys = downTo m m) (fun pre => ∃ k, k ≤ m ∧ pre = downTo m k) m w := fun l J Jx W hW _ _ hY h0 =>
  backN1_in F n hf hro hn l Bs L m hm A cap hl Kp J Jx hKt hY W (hKr W hW) (fun W' h => hBs W W' hW h) (fun W' h => hc W W' hW h) h0
end Go.Proofs.Ytcajgadgdjopdaa
