/- slices.Backward over casks: the iterator's contract. A round may write whatever lies at or beyond n₀, but not the box of the slice. -/
import Derived.RangeFuncNested
import Derived.RangeFuncBound
import Derived.RangeFuncCalls
import Derived.RangeFuncLeaves
import Derived.RangeFuncBox
import Derived.Shelf.Abstract
import Derived.Shelf.RegionOpen
import Derived.WalkKit
import Derived.OwnWalkIn
import Derived.TacticsInMore
import Derived.LoopNIn
import Derived.LoopIn
import Derived.Test.YtcajgadgdjopdaaBitternA
namespace Go.Proofs.Ytcajgadgdjopdaa
open Go.RowKit Go.Shelf
attribute [local go_sem] Oper.semAt_some
/-- What has come when k rounds are over: the last element first. -/
def backTo (L : List Bittern) (k : Nat) : List (Nat × Bittern) := (List.range k).map fun j => (L.length - 1 - j, L[L.length - 1 - j]!)
theorem backTo_succ (L : List Bittern) (k : Nat) : backTo L (k + 1) = backTo L k ++ [(L.length - 1 - k, L[L.length - 1 - k]!)] := by simp [backTo, List.range_succ]
theorem backTo_length (L : List Bittern) (k : Nat) : (backTo L k).length = k := by simp [backTo]
/-- A cask as a value. -/
def bitV (x : Bittern) : Value := .agg #[.int .i64 x.id, .int .i64 x.kilos, .int .i64 x.bitter]
/-- What a round keeps. -/
def KeepB (n₀ Bs : Nat) (W W' : World) : Prop := Below n₀ W W' ∧ W'.heap[Bs]? = W.heap[Bs]?
theorem keepB_t {n₀ Bs : Nat} {A B C : World} (h : KeepB n₀ Bs A B) (k : KeepB n₀ Bs B C) : KeepB n₀ Bs A C := ⟨h.1.trans k.1, k.2.trans h.2⟩
theorem keepB_b {n₀ Bs : Nat} {w : World} (hn : n₀ ≤ w.heap.size) (hB : Bs < w.heap.size) (W : World) (l : Nat) (o o' : Obj) (hl : w.heap.size ≤ l) (h : W.heap[l]? = some o) (h1 : o.isCells = false) (h2 : o.isWalk = false) : KeepB n₀ Bs W (W.putObj l o') :=
  ⟨belowK_b (w := w) hn W l o o' hl h h1 h2, (grownBy_putObj' W l o').block Bs (by have := (Array.getElem?_eq_some_iff.1 h).1; omega) (fun e => by cases e; omega)⟩
set_option maxRecDepth 100000 in
set_option maxHeartbeats 2000000 in
theorem back1_in (F : Fence) (n : Nat) (hf : F.fn 80) (hro : F.round = none) (hn : 1 ≤ n) (l Bs n₀ : Nat) (L : List Bittern) (m : Nat) (hm : L.length = m) (A : Option Addr) (cap : Nat) (hl : m ≤ 1048576) (J Jx : List (Nat × Bittern) → World → Prop)
    (hY : ∀ pre x W, J pre W → pre.length < m → YieldAt F (n - 1) Try.prog l #[.int .i64 (x.1 : Int), bitV x.2] W fun e W' =>
      (e = .returned (.bool true) ∧ J (pre ++ [x]) W' ∧ KeepB n₀ Bs W W') ∨ (e = .returned (.bool false) ∧ Jx (pre ++ [x]) W'))
    (W : World) (hn0 : n₀ ≤ W.heap.size) (hBs : Boxed W Bs 24 (.slice A m cap)) (hc : Sl encBittern W n₀ A L) (h0 : J [] W) :
    CallsIn F n Try.prog 80 #[.func (.yield l) #[] #[], .pointer (some ⟨Bs, 0, none⟩)] W fun e W' => (∃ v, e = .returned v) ∧
      ((∃ ys, ys = backTo L m ∧ J ys W') ∨ (∃ pre, (∃ k, k ≤ m ∧ pre = backTo L k) ∧ Jx pre W')) := by
  refine callsIn_of_wp Try.func80 rfl hf ?_ hro
  simp only [Try.ntmps80, List.size_toArray, List.length_cons, List.length_nil, Nat.reduceAdd, Nat.reduceSub, Array.replicate_succ, Array.replicate_zero, List.push_toArray, List.append_toArray, List.nil_append, List.cons_append]
  have hc0 := hBs.cell
  have w0 : IntKind.i64.wrap ((m : Int) - 1) = (m : Int) - 1 := IntWalk.i64_in _ (by omega)
  gi_wp2
  gi_loopw [3] (fun i wr => ∃ k : Nat, k ≤ m ∧ i = .int .i64 ((m : Int) - 1 - k) ∧ J (backTo L k) wr ∧ KeepB n₀ Bs W wr)
    (fun i _ => (intOf i + 1).toNat)
  case atStart => exact ⟨0, Nat.zero_le _, by simp, h0, Below.refl _ _, rfl⟩
  case round =>
    obtain ⟨k, hk, rfl, hJs, hnx⟩ := hrel
    have hbx : Boxed wr Bs 24 (.slice A m cap) := hnx.2.trans hBs
    have hcx := hbx.cell
    by_cases hlt : k < m
    · obtain ⟨j, hj⟩ : ∃ j : Nat, (m : Int) - 1 - k = j ∧ L.length - 1 - k = j := ⟨m - 1 - k, by omega, by omega⟩
      obtain ⟨b, off, rfl, hb, hcs⟩ := hc.bittern (by rw [hm]; omega)
      have hx : L[j]? = some L[j]! := by rw [getElem!_pos L j (by omega)]; exact List.getElem?_eq_getElem _
      have hs := backTo_succ L k
      rw [hj.2] at hs
      obtain ⟨d0, d1, d2⟩ := hcs j _ hx
      generalize L[j]! = x at hs d0 d1 d2
      rw [← hnx.1.cell hb] at d0 d1 d2
      rw [hj.1]
      have j1 : (j : Int) < m := by omega
      have j2 : (0 : Int) ≤ j := by omega
      have j3 : IntKind.i64.wrap ((j : Int) - 1) = (j : Int) - 1 := IntWalk.i64_in _ (by omega)
      obtain ⟨fn, tmps, assign, body, hy, hR⟩ := hY _ (j, x) wr hJs (by rw [backTo_length]; exact hlt)
      dsimp only [bitV] at hy hR
      clear hcs hx
      have hbw : b < wr.heap.size := by have := hnx.1.size; omega
      gi_wp2
      refine hR.mono ?_
      rintro e W3 (⟨rfl, hJ3, hk3⟩ | ⟨rfl, hJx3⟩)
      · gi_wp2
        go_roundw
        case rel => exact ⟨k + 1, by omega, by congr 1 <;> omega, by rw [hs]; exact hJ3, keepB_t hnx hk3⟩
        case measure => simp [intOf] <;> omega
      · gi_wp2
        refine bodyPost_ret (results_none rfl _ _ _) rfl ?_
        exact ⟨⟨_, rfl⟩, .inr ⟨_, ⟨k + 1, by omega, hs.symm⟩, hJx3⟩⟩
    · obtain rfl : k = m := by omega
      have e : (k : Int) - 1 - k = -1 := by omega
      rw [e]
      gi_wp2
      go_end0
      exact ⟨⟨_, rfl⟩, .inl ⟨_, rfl, hJs⟩⟩
set_option maxHeartbeats 1000000 in
/-- slices.Backward(s): the slice value is boxed; the function value captures the box. -/
theorem back_in (F : Fence) (n : Nat) (hf : F.fn 52) (hro : F.round = none) (a : Option Addr) (len cap : Nat) (w : World) :
    CallsIn F n Try.prog 52 #[.slice a len cap] w fun e w' => e = .returned (.func (.func 80) #[] #[.pointer (some ⟨w.heap.size, 0, none⟩)]) ∧ w' = w.alloc (.cells #[.slice a len cap] 24) := by
  refine callsIn_of_wp Try.func52 rfl hf ?_ hro
  simp only [Try.ntmps52, List.size_toArray, List.length_cons, List.length_nil, Nat.reduceAdd, Nat.reduceSub, Array.replicate_succ, Array.replicate_zero, List.push_toArray, List.append_toArray, List.nil_append, List.cons_append]
  gi_wp2
  go_ret
  exact ⟨rfl, rfl⟩
theorem back_stops (F : Fence) (n : Nat) (hf : F.fn 80) (hro : F.round = none) (hn : 1 ≤ n) (Bs n₀ : Nat) (L : List Bittern) (m : Nat) (hm : L.length = m) (A : Option Addr) (cap : Nat) (hl : m ≤ 1048576) (w : World)
    (hn0 : n₀ ≤ w.heap.size) (hBs : Boxed w Bs 24 (.slice A m cap)) (hc : Sl encBittern w n₀ A L) :
    SeqStopsK F n Try.prog 80 #[.pointer (some ⟨Bs, 0, none⟩)] (fun x : Nat × Bittern => #[.int .i64 (x.1 : Int), bitV x.2]) (KeepB n₀ Bs) (fun ys => ys = backTo L m) (fun pre => ∃ k, k ≤ m ∧ pre = backTo L k) m w := fun l J Jx W hW _ _ hY h0 =>
  back1_in F n hf hro hn l Bs n₀ L m hm A cap hl J Jx hY W (Nat.le_trans hn0 hW.size) ((hW.block Bs hBs.lt).trans hBs) (hc.below (hW.mono hn0)) h0
end Go.Proofs.Ytcajgadgdjopdaa
