/- Whether casks, the bitterest first, fill an order: impl.canFill. -/
import Derived.Test.YtcajgadgdjopdaaBack
import Derived.Test.YtcajgadgdjopdaaTail
namespace Go.Proofs.Ytcajgadgdjopdaa
open Go.RowKit Go.Shelf
attribute [local go_sem] Oper.semAt_some
theorem blk_own {β : Type} (B : Nat) (t : TypeId) (f : β → Array Value) : Go.Own (fun s W => Blk W B t (f s)) := fun s X Y row hs hg hrow =>
  (hg.block B hs.lt (fun e' => by obtain ⟨o, ho, hc⟩ := hrow B e'.symm; rw [show X.heap[B]? = _ from hs] at ho; cases ho; cases hc)).trans hs
/-- One cask: the kilograms and grams still asked. -/
def stepF (s : Int × Int) (b : Bittern) : Int × Int := (wrap64 (s.1 - min s.1 b.kilos), wrap64 (s.2 - wrap64 (min s.1 b.kilos * b.bitter)))
def foldF (s : Int × Int) (pre : List (Nat × Bittern)) : Int × Int := pre.foldl (fun s x => stepF s x.2) s
theorem foldF_snoc (s : Int × Int) (pre : List (Nat × Bittern)) (x : Nat × Bittern) : foldF s (pre ++ [x]) = stepF (foldF s pre) x.2 := by simp [foldF]
def canFillW (L : List Bittern) (k g : Int) : Bool := decide ((foldF (k, g) (backTo L L.length)).1 = 0) && decide ((foldF (k, g) (backTo L L.length)).2 ≤ 0)
set_option maxRecDepth 100000 in
set_option maxHeartbeats 4000000 in
theorem canFill_any (L : List Bittern) (m : Nat) (hm : L.length = m) (A : Option Addr) (cap : Nat) (k g : Int) (w : World) (hl : m ≤ 1048576) (hc : Sl encBittern w w.heap.size A L) :
    Calls Try.prog 44 #[.slice A m cap, .int .i64 k, .int .i64 g] w fun e w' => e = .returned (.bool (canFillW L k g)) ∧ Below w.heap.size w w' := by
  have HC := Lib.hid hc; clear hc
  refine (callsIn_wide (n := 3)).1 ?_
  refine callsIn_of_wp_marks Try.func44 rfl trivial ?_ rfl
  simp only [Try.ntmps44, List.size_toArray, List.length_cons, List.length_nil, Nat.reduceAdd, Nat.reduceSub, Array.replicate_succ, Array.replicate_zero, List.push_toArray, List.append_toArray, List.nil_append, List.cons_append]
  gi_wp2_with (refine ⟨trivial, ?_⟩; gi_at_call 52; refine (back_in Fence.wide 2 trivial rfl _ _ _ _).mono ?_; rintro e w' ⟨rfl, rfl⟩)
  have bK := ((Boxed.new w 3 (.int .i64 k)).alloc (.cells #[.int .i64 g] 3)).alloc (.cells #[.slice A m cap] 24)
  have bG := (Boxed.new (w.alloc (.cells #[.int .i64 k] 3)) 3 (.int .i64 g)).alloc (.cells #[.slice A m cap] 24)
  have bS := Boxed.new ((w.alloc (.cells #[.int .i64 k] 3)).alloc (.cells #[.int .i64 g] 3)) 24 (.slice A m cap)
  simp only [World.size_alloc] at bG bS
  have hB0 : Below w.heap.size w (((w.alloc (.cells #[.int .i64 k] 3)).alloc (.cells #[.int .i64 g] 3)).alloc (.cells #[.slice A m cap] 24)) := (((Below.refl _ w).alloc (Nat.le_refl _) _).alloc (by simp) _).alloc (by simp; omega) _
  have hsz : (((w.alloc (.cells #[.int .i64 k] 3)).alloc (.cells #[.int .i64 g] 3)).alloc (.cells #[.slice A m cap] 24)).heap.size = w.heap.size + 3 := by simp
  obtain ⟨W0, hW0⟩ : ∃ W0, ((w.alloc (.cells #[.int .i64 k] 3)).alloc (.cells #[.int .i64 g] 3)).alloc (.cells #[.slice A m cap] 24) = W0 := ⟨_, rfl⟩
  rw [hW0] at bK bG bS hB0 hsz ⊢
  clear hW0
  refine wpIn_rangeFunc_ownH rfl (by decide) (gf := 80) (lb := #[.pointer (some ⟨w.heap.size + 1 + 1, 0, none⟩)]) rfl trivial (enters_of Try.func80 (by kernel_rfl) rfl)
    (back_stops Fence.wide 2 trivial rfl (by decide) (w.heap.size + 1 + 1) w.heap.size L m hm A cap hl W0 (by omega) bS (HC.out.below hB0)) keepB_t (keepB_b (by omega) (by omega)) (Below.refl _ _) (fun _ => rfl)
    (fun pre W => (Boxed W w.heap.size 3 (.int .i64 (foldF (k, g) pre).1) ∧ Boxed W (w.heap.size + 1) 3 (.int .i64 (foldF (k, g) pre).2) ∧ Boxed W (w.heap.size + 1 + 1) 24 (.slice A m cap)) ∧ Below w.heap.size w W)
    (fun _ _ _ => False)
    (OwnFrom.and (OwnFrom.and (Own.from (boxed_own _ _ _) _) (OwnFrom.and (Own.from (boxed_own _ _ _) _) (Own.from (boxed_own _ _ (fun _ => _)) _))) (ownFrom_below (Nat.le_refl _) (by omega)))
    (fun _ _ _ _ _ hs _ _ => hs)
    ⟨⟨bK, bG, bS⟩, hB0⟩
    (fun x a' W => ∃ Bx, w.heap.size + 2 < Bx ∧ Blk W Bx 69 #[.int .i64 x.2.id, .int .i64 x.2.kilos, .int .i64 x.2.bitter] ∧ a' = { tmps := #[.slice A m cap, .int .i64 k, .int .i64 g, undef, .pointer (some ⟨w.heap.size, 0, none⟩), .pointer (some ⟨w.heap.size + 1, 0, none⟩), .bool false, undef, .pointer (some ⟨Bx, 0, none⟩), undef, .slice A m cap, .func (.func 80) #[] #[.pointer (some ⟨w.heap.size + 1 + 1, 0, none⟩)], .int .i64 (x.1 : Int), bitV x.2, undef, undef, undef, undef, undef, undef, undef, undef, undef, undef, undef, undef, undef, undef, undef, undef, undef, undef, undef], defers := [] })
    (fun x a' _ X Y row hs hg hr => by obtain ⟨Bx, h1, h2, h3⟩ := hs; exact ⟨Bx, h1, blk_own Bx 69 (fun (_ : Unit) => _) () X Y row h2 hg (fun r e => (hr r e).2), h3⟩)
    ?assign ?body ?done ?stop
  case assign =>
    rintro l pre x W K ⟨⟨bK1, bG1, bS1⟩, hB1⟩ hK
    dsimp only [bitV]
    gi_wp2
    refine hK _ _ ((KeepsOthers.alloc _ _).from _) ⟨(Below.refl _ W).alloc hB1.size _, Below.heap_alloc _ _ _ bS1.lt⟩ ⟨⟨bK1.alloc _, bG1.alloc _, bS1.alloc _⟩, hB1.alloc hB1.size _⟩ ⟨W.heap.size, by have := bS1.lt; omega, Blk.new _ _ _, rfl⟩
  case body =>
    rintro l pre x a' W hl ⟨r, hr⟩ ⟨⟨bK1, bG1, bS1⟩, hB1⟩ ⟨Bx, hBx, bX, rfl⟩ hlt
    have hs := foldF_snoc (k, g) pre x
    obtain ⟨⟨s, t⟩, hst⟩ : ∃ z, foldF (k, g) pre = z := ⟨_, rfl⟩
    rw [hst] at bK1 bG1 hs
    obtain ⟨xi, x1, x2, x3⟩ := x
    dsimp only [stepF, bitV] at bX bK1 bG1 hs ⊢
    have cK := bK1.cell
    have cG := bG1.cell
    have fK := bK1.frozen
    have fG := bG1.frozen
    have d1 : W.cell? ⟨Bx, 1, none⟩ = some (.int .i64 x2) := bX.cell 1
    have d2 : W.cell? ⟨Bx, 2, none⟩ = some (.int .i64 x3) := bX.cell 2
    have HS := Lib.hid hs
    clear hs hst
    have fin : ∀ (ac : Act) (a b : Int), a = wrap64 (s - min s x2) → b = wrap64 (t - wrap64 (min s x2 * x3)) → ownPostG (w.heap.size + 3) (KeepB w.heap.size (w.heap.size + 1 + 1))
        (fun pre W => (Boxed W w.heap.size 3 (.int .i64 (foldF (k, g) pre).1) ∧ Boxed W (w.heap.size + 1) 3 (.int .i64 (foldF (k, g) pre).2) ∧ Boxed W (w.heap.size + 1 + 1) 24 (.slice A m cap)) ∧ Below w.heap.size w W) (fun _ _ _ => False) (pre ++ [(xi, ⟨x1, x2, x3⟩)]) W .normal ac
        ((W.setCell ⟨w.heap.size, 0, none⟩ (.int .i64 a)).setCell ⟨w.heap.size + 1, 0, none⟩ (.int .i64 b)) := fun ac a b ha hb => by
      refine ⟨((KeepsOthers.setCell _ _ _).trans (KeepsOthers.setCell _ _ _)).from _, ⟨((Below.refl _ W).setCell (p := ⟨w.heap.size, 0, none⟩) (Nat.le_refl _) _).setCell (p := ⟨w.heap.size + 1, 0, none⟩) (by simp) _, ?_⟩, ⟨?_, ?_, (bS1.other (by omega) _).other (by omega) _⟩, (hB1.setCell (p := ⟨w.heap.size, 0, none⟩) (Nat.le_refl _) _).setCell (p := ⟨w.heap.size + 1, 0, none⟩) (by simp) _⟩
      · rw [Below.heap_setCell _ _ _ _ (by simp), Below.heap_setCell _ _ _ _ (by simp; omega)]
      · rw [HS.out, ← ha]; exact (bK1.set _).other (by omega) _
      · rw [HS.out, ← hb]; exact (bG1.other (by omega) _).set _
    have FIN := Lib.hid fin
    clear fin
    gi_wp2
    all_goals first
      | (have hm : min s x2 = s := by omega
         exact FIN.out _ _ _ (by rw [hm]; simp) (by rw [hm]))
      | (have hm : min s x2 = x2 := by omega
         exact FIN.out _ _ _ (by rw [hm]) (by rw [hm]))
  case done =>
    rintro D ys W hD rfl ⟨⟨bK1, bG1, bS1⟩, hB1⟩ hK
    have hcan : canFillW L k g = (decide ((foldF (k, g) (backTo L m)).1 = 0) && decide ((foldF (k, g) (backTo L m)).2 ≤ 0)) := by rw [canFillW, hm]
    generalize foldF (k, g) (backTo L m) = z at bK1 bG1 hcan
    obtain ⟨s, t⟩ := z
    dsimp only at bK1 bG1 hcan
    have cK := bK1.cell
    have cG := bG1.cell
    have HCN := Lib.hid hcan
    clear hcan
    by_cases h0 : s = 0
    · have e0 : (s == 0) = true := by rw [h0]; rfl
      gi_wp2
      refine ⟨by simp, .inl ⟨_, _, rfl, run_takeDeferred hK, ?_⟩⟩
      refine ⟨_, results_tmp rfl _ _ _, ?_, hB1.trans (belowK_b (w := w) (Nat.le_refl _) W D _ _ (by omega) hK rfl rfl)⟩
      rw [HCN.out]
      simp [h0]
    · have e0 : (s == 0) = false := beq_eq_false_iff_ne.2 h0
      gi_wp2
      refine ⟨by simp, .inl ⟨_, _, rfl, run_takeDeferred hK, ?_⟩⟩
      refine ⟨_, results_tmp rfl _ _ _, ?_, hB1.trans (belowK_b (w := w) (Nat.le_refl _) W D _ _ (by omega) hK rfl rfl)⟩
      rw [HCN.out]
      simp [h0]
  case stop =>
    rintro D c pre W _ _ h _
    exact h.elim
end Go.Proofs.Ytcajgadgdjopdaa
