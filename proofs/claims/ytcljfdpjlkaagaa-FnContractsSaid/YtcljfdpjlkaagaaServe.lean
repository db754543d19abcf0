/- Contracts: serving one. -/
import Derived.Test.YtcljfdpjlkaagaaContractC
import Derived.Test.YtcljfdpjlkaagaaSet
import Derived.Lib.SliceRun
import Derived.Deep.RegionHeld3
namespace Go.Proofs.Ytcljfdpjlkaagaa
open Go.RowKit
set_option maxHeartbeats 2000000 in
theorem cloneInt_any (l : List Int) (n : Nat) (hn : l.length = n) (A : Option Addr) (cap : Nat) (w : World) (hl : n ≤ 1048576) (hc : Sl encInt w w.heap.size A l) :
    Calls Try.prog 73 #[.slice A n cap] w fun e w' => ∃ v, e = .returned v ∧ Own encInt w' w.heap.size 3 v l ∧ Below w.heap.size w w' := by
  have q : ∀ (w : World) (a : Option Addr) (n c n' c' : Nat), (binOp .eql 35 (.slice a n c) (.slice none n' c')).run Try.prog w = .ok (.bool a.isNone) w := fun w a n c n' c' => Lib.run_eql_slice_nil w _ _ a n c n' c' Try.underlying35
  have HC := Lib.hid hc; clear hc
  obtain ⟨i0, hi, hz0, hz1, hz2⟩ := info_parts info_Int
  rcases A with _ | ad
  · have h0 : l = [] := by
      rcases l with _ | ⟨x, r⟩
      · rfl
      · obtain ⟨_, _, h, _⟩ := HC.out (by simp)
        cases h
    subst h0
    go_enter Try.func73, Try.ntmps73
    go_wp2
    go_ret
    exact ⟨_, rfl, Own.none_, Below.refl _ _⟩
  · have HN := Lib.hid hn; clear hn
    go_enter Try.func73, Try.ntmps73
    go_wp2_with (at_builtin; refine wpList_app (E := encInt) _ rfl (.tmp 5) (.tmp 6) 35 rfl w.heap.size 3 i0 _ 8 Try.underlying35 hi hz0 hz1 hz2 rfl (by decide) (.slice (some ⟨w.heap.size, 0, none⟩) 0 0) [] rfl (Own.nil_ (Nat.le_refl _) _) _ (some ad) n cap l rfl HN.out (HC.out.past (bl_alloc (Below.refl _ _) _)) (by simp [maxLen]; omega) (by simp; omega) (by simp) ?_; intro v' w' ho hg _; have HO := Lib.hid ho; have HG := Lib.hid hg; clear ho hg)
    go_ret
    exact ⟨_, rfl, by simpa using HO.out, below_grown (bl_alloc (Below.refl _ _) _) HG.out (by intro k hk; simp [Value.ownBlock] at hk; omega)⟩
set_option maxHeartbeats 2000000 in
theorem l1Own_any (l : List Int) (n : Nat) (hn : l.length = n) (A : Option Addr) (cap : Nat) (w : World) (hl : n ≤ 1048576) (hc : Sl encInt w w.heap.size A l) :
    Calls Try.prog 72 #[.slice A n cap] w fun e w' => ∃ v, e = .returned v ∧ Own encInt w' w.heap.size 3 v l ∧ Below w.heap.size w w' := by
  have HC := Lib.hid hc; clear hc
  obtain ⟨i0, hi, hz0, hz1, hz2⟩ := info_parts info_Int
  have HN := Lib.hid hn; clear hn
  go_enter Try.func72, Try.ntmps72
  go_wp2_with (at_builtin; refine wpList_app (E := encInt) _ rfl (.tmp 3) (.tmp 4) 35 rfl w.heap.size 3 i0 _ 8 Try.underlying35 hi hz0 hz1 hz2 rfl (by decide) (.slice (some ⟨w.heap.size, 0, none⟩) 0 0) [] rfl (Own.nil_ (Nat.le_refl _) _) _ A n cap l rfl HN.out (HC.out.past (bl_alloc (Below.refl _ _) _)) (by simp [maxLen]; omega) (by simp; omega) (by simp) ?_; intro v' w' ho hg _; have HO := Lib.hid ho; have HG := Lib.hid hg; clear ho hg)
  go_ret
  exact ⟨_, rfl, by simpa using HO.out, below_grown (bl_alloc (Below.refl _ _) _) HG.out (by intro k hk; simp [Value.ownBlock] at hk; omega)⟩
theorem Own.setInt {w : World} {base n c g i : Nat} {e : TypeId} {l : List Int} (h : Own encInt w base e (.slice (some ⟨g, 0, none⟩) n c) l) (hi : i < n) (z : Int) :
    Own encInt (w.setCell ⟨g, i, none⟩ (.int .i64 z)) base e (.slice (some ⟨g, 0, none⟩) n c) (l.set i z) := by
  have hlen := h.len
  exact h.setField hi (x := l[i]'(by omega)) (j := 0) (y := z) (z := z) (List.getElem?_eq_getElem _) (by decide) rfl (by simp [encInt])
theorem Own.int {w : World} {base g n c i : Nat} {e : TypeId} {l : List Int} {x : Int} (h : Own encInt w base e (.slice (some ⟨g, 0, none⟩) n c) l) (hx : l[i]? = some x) :
    g < w.heap.size ∧ w.cell? ⟨g, i, none⟩ = some (.int .i64 x) := by
  obtain ⟨b, off, e', hb, hc⟩ := h.rd.int_ (by have := (List.getElem?_eq_some_iff.1 hx).1; omega)
  injection e' with e'
  injection e' with e1 e2
  subst e1 e2
  have := hc i x hx
  simp only [Nat.zero_add] at this
  exact ⟨hb, this⟩
/-! What serving comes to, grade after grade. -/
def serveTo (t : Int) (g : Nat) (s : List Int) : Nat → List Int × Int
  | 0 => (s, 0)
  | j + 1 => ((serveTo t g s j).1.set (g - 1 - j) ((serveTo t g s j).1[g - 1 - j]! - min (t - (serveTo t g s j).2) (serveTo t g s j).1[g - 1 - j]!), (serveTo t g s j).2 + min (t - (serveTo t g s j).2) (serveTo t g s j).1[g - 1 - j]!)
def serveP (s : List Int) (x : Contract) : List Int × Int := serveTo x.tons x.grade.toNat s x.grade.toNat
def StockIn (s : List Int) : Prop := s.length = 4 ∧ ∀ (i : Nat) (x : Int), s[i]? = some x → 0 ≤ x ∧ x ≤ 50000
theorem StockIn.at_ {s : List Int} (h : StockIn s) {i : Nat} (hi : i < 4) : s[i]? = some s[i]! ∧ 0 ≤ s[i]! ∧ s[i]! ≤ 50000 := by
  have e : s[i]? = some s[i]! := by
    rw [List.getElem?_eq_getElem (by rw [h.1]; exact hi), getElem!_pos s i (by rw [h.1]; exact hi)]
  exact ⟨e, h.2 i _ e⟩
theorem StockIn.set {s : List Int} (h : StockIn s) {i : Nat} {z : Int} (h0 : 0 ≤ z) (h1 : z ≤ 50000) : StockIn (s.set i z) := by
  refine ⟨by simpa using h.1, fun j x hx => ?_⟩
  rw [List.getElem?_set] at hx
  split at hx
  · split at hx
    · injection hx with hx; subst hx; exact ⟨h0, h1⟩
    · cases hx
  · exact h.2 j x hx
theorem serveTo_in {t : Int} {g : Nat} {s : List Int} (ht : 0 ≤ t) (hg : g ≤ 4) (hs : StockIn s) : ∀ j, j ≤ g → StockIn (serveTo t g s j).1 ∧ 0 ≤ (serveTo t g s j).2 ∧ (serveTo t g s j).2 ≤ t
  | 0, _ => ⟨hs, Int.le_refl _, ht⟩
  | j + 1, hj => by
    obtain ⟨h1, h2, h3⟩ := serveTo_in ht hg hs j (by omega)
    obtain ⟨_, h5, h6⟩ := h1.at_ (i := g - 1 - j) (by omega)
    refine ⟨h1.set (by omega) (by omega), ?_, ?_⟩
    · simp only [serveTo]; omega
    · simp only [serveTo]; omega
theorem serveTo_step {t : Int} {g q : Nat} {s S : List Int} {d x : Int} (hq : q + 1 ≤ g) (h : serveTo t g s (g - (q + 1)) = (S, d)) (hx : S[q]? = some x) :
    serveTo t g s (g - q) = (S.set q (x - min (t - d) x), d + min (t - d) x) := by
  have e : g - q = (g - (q + 1)) + 1 := by omega
  have e2 : g - 1 - (g - (q + 1)) = q := by omega
  rw [e, serveTo, h, e2, List.getElem!_of_getElem? hx]
set_option maxRecDepth 4000 in
set_option maxHeartbeats 8000000 in
theorem serve_any (s : List Int) (hs : StockIn s) (A : Option Addr) (cap : Nat) (id t pr fr un fi : Int) (g : Nat) (w : World) (hg1 : 1 ≤ g) (hg4 : g ≤ 4) (ht : 0 ≤ t ∧ t ≤ 5000) (hc : Sl encInt w w.heap.size A s) :
    Calls Try.prog 59 #[.slice A 4 cap, .agg #[.int .i64 id, .int .i64 g, .int .i64 t, .int .i64 pr, .int .i64 fr, .int .i64 un, .int .i64 fi]] w fun e w' => ∃ v, e = .returned (.tuple #[v, .int .i64 (serveTo t g s g).2]) ∧ Own encInt w' w.heap.size 3 v (serveTo t g s g).1 ∧ Below w.heap.size w w' := by
  have HC := Lib.hid hc; clear hc
  have HST := Lib.hid hs
  have HN := Lib.hid hs.1
  clear hs
  go_enter Try.func59, Try.ntmps59
  go_wp2_with fail
  refine (cloneInt_any s 4 HN.out _ _ _ (by omega) (HC.out.past (bl_alloc (Below.refl _ _) _))).mono ?_
  rintro e w1 ⟨v1, rfl, o1, b1⟩
  obtain ⟨A1, c1, rfl, _, _, _⟩ := o1.slice
  rw [HN.out] at o1 ⊢
  have e1 : w1.cell? ⟨w.heap.size, 1, none⟩ = some (.int .i64 g) := by rw [b1.cell (p := ⟨w.heap.size, 1, none⟩) (by simp)]; simp [go_sem]
  have e2 : w1.cell? ⟨w.heap.size, 2, none⟩ = some (.int .i64 t) := by rw [b1.cell (p := ⟨w.heap.size, 2, none⟩) (by simp)]; simp [go_sem]
  have B1 := Lib.hid (below_step (bl_alloc (Below.refl w.heap.size w) _) b1)
  rw [show (w.alloc (.cells #[.int .i64 id, .int .i64 g, .int .i64 t, .int .i64 pr, .int .i64 fr, .int .i64 un, .int .i64 fi] 25)).heap.size = w.heap.size + 1 by simp] at o1
  have hz1 : w.heap.size + 1 ≤ w1.heap.size := by have := b1.size; simp at this; omega
  obtain ⟨gb, rfl⟩ := o1.some_ (by omega)
  have hgb : w.heap.size + 1 ≤ gb := o1.lo ⟨gb, 0, none⟩ rfl
  have O1 := Lib.hid o1
  clear o1 b1
  go_wp2
  have E2 := Lib.hid e2
  clear e1 e2
  go_loopw [7, 8] (fun u j wr => ∃ r : Nat, r ≤ g ∧ j = .int .i64 r ∧ u = .int .i64 (serveTo t g s (g - r)).2 ∧ Own encInt wr (w.heap.size + 1) 3 (.slice (some ⟨gb, 0, none⟩) 4 c1) (serveTo t g s (g - r)).1 ∧ Below (w.heap.size + 1) w1 wr) (fun _ j _ => (intOf j).toNat)
  case atStart => exact ⟨g, Nat.le_refl _, rfl, by rw [Nat.sub_self]; rfl, by rw [Nat.sub_self]; exact O1.out, Below.refl _ _⟩
  case round =>
    obtain ⟨r, hr, rfl, rfl, hu, hbel⟩ := hrel
    have hsz := hbel.size
    have HB := Lib.hid hbel
    have e2 := E2.out
    rw [← hbel.cell (p := ⟨w.heap.size, 2, none⟩) (show w.heap.size < w.heap.size + 1 by omega)] at e2
    have hwr : w.heap.size < wr.heap.size := by omega
    by_cases hr0 : 0 < r
    · obtain ⟨S, d, hsd⟩ : ∃ S d, serveTo t g s (g - r) = (S, d) := ⟨_, _, rfl⟩
      obtain ⟨hS, hd0, hd1⟩ : StockIn S ∧ 0 ≤ d ∧ d ≤ t := by have := serveTo_in ht.1 hg4 HST.out (g - r) (by omega); rw [hsd] at this; exact this
      rw [hsd] at hu ⊢
      obtain ⟨q, rfl⟩ : ∃ q, r = q + 1 := ⟨r - 1, by omega⟩
      obtain ⟨hx, h5, h6⟩ := hS.at_ (i := q) (by omega)
      generalize S[q]! = x at hx h5 h6
      have HSD := Lib.hid (serveTo_step (by omega) hsd hx)
      obtain ⟨hgw, c0⟩ := hu.int hx
      have f0 := hu.thaw q
      have HU := Lib.hid hu
      clear hu hsd hx hbel
      have k1 : IntKind.i64.wrap (t - d) = t - d := IntWalk.i64_in _ (by omega)
      have k2 : IntKind.i64.wrap ((q : Int) + 1 - 1) = q := by rw [IntWalk.i64_in _ (by omega)]; omega
      have k3 : IntKind.i64.wrap ((q + 1 : Nat) - 1 : Int) = q := by rw [IntWalk.i64_in _ (by omega)]; omega
      have k4 : (1 : Int) ≤ (q + 1 : Nat) := by omega
      have k5 : (q : Int) < 4 := by omega
      have k6 : (0 : Int) ≤ q := by omega
      have k7 : IntKind.i64.wrap (x - (if x < t - d then x else t - d)) = x - (if x < t - d then x else t - d) := IntWalk.i64_in _ (by split <;> omega)
      have k8 : IntKind.i64.wrap (d + (if x < t - d then x else t - d)) = d + (if x < t - d then x else t - d) := IntWalk.i64_in _ (by split <;> omega)
      go_wp2
      refine wp_region_gw (by kernel_rfl) (by kernel_rfl) ?_
      repeat (first | go_big_quiet_step ((fail)) | quiet_step ((fail)))
      refine wpQuiet_nil ?_
      rintro _ ⟨pq, rfl⟩
      go_wp2
      go_roundw
      case rel =>
        have hM : (if x < t - d then x else t - d) = min (t - d) x := by split <;> omega
        rw [hM]
        refine ⟨q, by omega, by go_num, by rw [HSD.out], ?_, ?_⟩
        · rw [HSD.out]
          exact (HU.out.setInt (by omega) _).past (gw_below _ _ (Nat.le_refl _)) (Nat.le_refl _)
        · exact (HB.out.setCell (p := ⟨gb, q, none⟩) hgb _).trans (gw_below _ _ (by simp [World.setCell]; omega))
      case measure => simp [intOf]
    · go_wp2
      go_ret2
      obtain rfl : r = 0 := by omega
      rw [Nat.sub_zero] at hu ⊢
      exact ⟨_, rfl, hu.lower (by omega), B1.out.trans (HB.out.mono (by omega))⟩
end Go.Proofs.Ytcljfdpjlkaagaa
