/- Orders of bittern: the program's MostWith, a range over slices.Backward. -/
import Derived.Test.YtcajgadgdjopdaaBackN
import Derived.Test.YtcajgadgdjopdaaMostM
namespace Go.Proofs.Ytcajgadgdjopdaa
open Go.RowKit Go.Shelf
attribute [local go_sem] Oper.semAt_some
def foldQ (h : Int) (L : List Bittern) (pre : List Nat) : Int × Int := pre.foldl (fun s j => stepM h s L[j]!) (0, 0)
theorem foldQ_snoc (h : Int) (L : List Bittern) (pre : List Nat) (j : Nat) : foldQ h L (pre ++ [j]) = stepM h (foldQ h L pre) L[j]! := by simp [foldQ]
theorem downTo_map (T : List Bittern) : (downTo T.length T.length).map (fun j => T[j]!) = T.reverse := by
  apply List.ext_getElem?
  intro i
  by_cases h : i < T.length
  · rw [List.getElem?_map, List.getElem?_reverse h]
    have : (downTo T.length T.length)[i]? = some (T.length - 1 - i) := by simp [downTo, h]
    rw [this, List.getElem?_eq_getElem (by omega)]
    simp
    rw [List.getElem?_eq_getElem (by omega)]
    rfl
  · rw [List.getElem?_eq_none (by simp [downTo]; omega), List.getElem?_eq_none (by simp; omega)]
theorem foldQ_all (h : Int) {L : List Bittern} {m : Nat} (hm : L.length = m) : foldQ h L (downTo m m) = foldM h L := by
  subst hm
  unfold foldM
  rw [List.foldr_eq_foldl_reverse, ← downTo_map, List.foldl_map]
  rfl
/-- What a round keeps: all that lay, but for two boxes. -/
structure KeepE (s0 Ka Kb N : Nat) (W W' : World) : Prop where
  bel : Below s0 W W'
  blk : ∀ b, b < N → b ≠ Ka → b ≠ Kb → W'.heap[b]? = W.heap[b]?
theorem KeepE.refl (s0 Ka Kb N : Nat) (W : World) : KeepE s0 Ka Kb N W W := ⟨Below.refl _ _, fun _ _ _ _ => rfl⟩
theorem keepE_t {s0 Ka Kb N : Nat} {A B C : World} (h : KeepE s0 Ka Kb N A B) (k : KeepE s0 Ka Kb N B C) : KeepE s0 Ka Kb N A C :=
  ⟨h.bel.trans k.bel, fun b hb h1 h2 => (k.blk b hb h1 h2).trans (h.blk b hb h1 h2)⟩
theorem keepE_b {s0 Ka Kb N : Nat} {w : World} (hn : s0 ≤ w.heap.size) (hN : N ≤ w.heap.size) (W : World) (l : Nat) (o o' : Obj) (hl : w.heap.size ≤ l) (h : W.heap[l]? = some o) (h1 : o.isCells = false) (h2 : o.isWalk = false) : KeepE s0 Ka Kb N W (W.putObj l o') :=
  ⟨belowK_b (w := w) hn W l o o' hl h h1 h2, fun b hb _ _ => (grownBy_putObj' W l o').block b (by have := (Array.getElem?_eq_some_iff.1 h).1; omega) (fun e => by cases e; omega)⟩
theorem sl_kept {w3 W : World} {base Ka Kb : Nat} {A : Option Addr} {n c : Nat} {S : List Bittern} (h : Own encBittern w3 base 69 (.slice A n c) S) (ha : Ka < base) (hb : Kb < base) (hz : w3.heap.size ≤ W.heap.size)
    (hk : ∀ b, b < w3.heap.size → b ≠ Ka → b ≠ Kb → W.heap[b]? = w3.heap[b]?) : Sl encBittern W W.heap.size A S := fun hn => by
  obtain ⟨b, off, e, hbl, hcs⟩ := h.rd hn
  have hlo := h.lo ⟨b, off, none⟩ e
  dsimp only at hlo
  exact ⟨b, off, e, by omega, fun i x hx j z hz => (World.cell?_of_block (a := ⟨b, _, none⟩) (hk b hbl (by omega) (by omega))).trans (hcs i x hx j z hz)⟩
theorem okT_any {S : List Bittern} (h : OkT S) (x : Nat) : (0 ≤ S[x]!.kilos ∧ S[x]!.kilos ≤ 10000) ∧ (0 ≤ S[x]!.bitter ∧ S[x]!.bitter ≤ 1000) := by
  by_cases c : x < S.length
  · rw [getElem!_pos S x c]; exact h _ (List.getElem_mem c)
  · rw [getElem!_neg S x c]; exact ⟨⟨Int.le_refl _, by decide⟩, ⟨Int.le_refl _, by decide⟩⟩
theorem callsIn_name {F : Fence} {n : Nat} {P : Program} {f : FuncId} {args : Array Value} {w : World} {R : Ending → World → Prop} (h : ∀ W0, w = W0 → CallsIn F n P f args W0 R) : CallsIn F n P f args w R := h w rfl
set_option maxRecDepth 100000 in
set_option maxHeartbeats 4000000 in
theorem impl_MostWith_any (l : List Bittern) (n : Nat) (hn : l.length = n) (A : Option Addr) (cap : Nat) (h : Int) (w : World) (hl : n ≤ 1048576) (hc : Sl encBittern w w.heap.size A l) :
    Calls Try.prog 15 #[.slice A n cap, .int .i64 h] w fun e w' => e = .returned (.tuple #[.int .i64 (mostP l h), .bool (mostOK l h)]) ∧ Below w.heap.size w w' := by
  have HC := Lib.hid hc; clear hc
  have HN := Lib.hid hn; clear hn
  cases t1 : areBitterns l with
  | false =>
    have hq : mostOK l h = false := by simp [mostOK, t1]
    have hp := most_no hq
    rw [hq, hp]
    have HA := Lib.hid t1
    clear t1 hq hp
    go_enter Try.func15, Try.ntmps15
    go_wp2_with (go_at_call 13; refine (impl_AreBitterns_any l n HN.out _ _ _ hl (HC.out.past (by repeat (first | assumption | exact Below.refl _ _ | apply bl_gw | apply bl_alloc | apply bl_drewN | apply bl_drew)))).mono ?_; rintro e w1 ⟨rfl, hb⟩; rw [HA.out]; obtain ⟨p, rfl⟩ := below_gw hb; clear hb)
    go_ret2
    exact ⟨rfl, (by repeat (first | assumption | exact Below.refl _ _ | apply bl_gw | apply bl_alloc | apply bl_drewN | apply bl_drew))⟩
  | true =>
    cases t2 : inB h 0 1000 with
    | false =>
      have hq : mostOK l h = false := by simp [mostOK, t2]
      have hp := most_no hq
      rw [hq, hp]
      have HA := Lib.hid t1
      have HT2 := Lib.hid t2
      clear t1 t2 hq hp
      go_enter Try.func15, Try.ntmps15
      go_wp2_with (first | (go_at_call 13; refine (impl_AreBitterns_any l n HN.out _ _ _ hl (HC.out.past (by repeat (first | assumption | exact Below.refl _ _ | apply bl_gw | apply bl_alloc | apply bl_drewN | apply bl_drew)))).mono ?_; rintro e w1 ⟨rfl, hb⟩; rw [HA.out]; obtain ⟨p, rfl⟩ := below_gw hb; clear hb) | (go_at_call 42; refine (isBitter_q HT2.out _).mono ?_; rintro e w1 ⟨rfl, rfl⟩))
      go_ret2
      exact ⟨rfl, (by repeat (first | assumption | exact Below.refl _ _ | apply bl_gw | apply bl_alloc | apply bl_drewN | apply bl_drew))⟩
    | true =>
      have hn8 : n ≤ 8 := by have := areBitterns_len t1; rw [HN.out] at this; exact this
      obtain ⟨h0, h1⟩ : 0 ≤ h ∧ h ≤ 1000 := by simpa [inB] using t2
      obtain ⟨S, hS⟩ : ∃ S, sorted l = S := ⟨_, rfl⟩
      have hoS : OkT S := by rw [← hS]; exact sorted_ok t1
      have hSn : S.length = n := by rw [← hS, sorted_length]; exact HN.out
      have hSe : insToB l n = S := by rw [← hS, sorted, HN.out]
      have hv : mostOK l h = true := by simp [mostOK, t1, t2]
      have hp : mostP l h = (foldQ h S (downTo n n)).1 := by unfold mostP; rw [hv, if_pos rfl, hS, foldQ_all h hSn]
      rw [hv, hp]
      have HA := Lib.hid t1
      have HT2 := Lib.hid t2
      have HOS := Lib.hid hoS
      have HSN := Lib.hid hSn
      have HSE := Lib.hid hSe
      clear t1 t2 hS hoS hSn hSe hv hp
      refine (callsIn_wide (n := 3)).1 ?_
      refine callsIn_of_wp_marks Try.func15 rfl trivial ?_ rfl
      simp only [Try.ntmps15, List.size_toArray, List.length_cons, List.length_nil, Nat.reduceAdd, Nat.reduceSub, Array.replicate_succ, Array.replicate_zero, List.push_toArray, List.append_toArray, List.nil_append, List.cons_append]
      gi_wp2_with (refine ⟨trivial, ?_⟩; first
        | (gi_at_call 13; refine (callsIn_wide.2 (impl_AreBitterns_any l n HN.out _ _ _ hl (HC.out.past (by repeat (first | assumption | exact Below.refl _ _ | apply bl_gw | apply bl_alloc | apply bl_drewN | apply bl_drew))))).mono ?_; rintro e w1 ⟨rfl, hb⟩; rw [HA.out]; obtain ⟨p, rfl⟩ := below_gw hb; clear hb)
        | (gi_at_call 42; refine (callsIn_wide.2 (isBitter_q HT2.out _)).mono ?_; rintro e w1 ⟨rfl, rfl⟩))
      refine ⟨trivial, callsIn_name (fun W1 hW1 => ?_)⟩
      obtain ⟨Ka, hKa⟩ : ∃ k, w.heap.size + 1 + p.os.size = k := ⟨_, rfl⟩
      have hgs : (gw (w.alloc (.cells #[.int .i64 h] 3)) p).heap.size = Ka := by rw [← hKa]; simp
      have hB1 : Below w.heap.size w W1 := by rw [← hW1]; exact (by repeat (first | assumption | exact Below.refl _ _ | apply bl_gw | apply bl_alloc | apply bl_drewN | apply bl_drew))
      have hB2 : Below (w.alloc (.cells #[.int .i64 h] 3)).heap.size (w.alloc (.cells #[.int .i64 h] 3)) W1 := by rw [← hW1]; exact (by repeat (first | assumption | exact Below.refl _ _ | apply bl_gw | apply bl_alloc | apply bl_drewN | apply bl_drew))
      have bH : Boxed W1 w.heap.size 3 (.int .i64 h) := (hB2.block w.heap.size (by simp)).trans (Boxed.new w 3 (.int .i64 h))
      have bK := (Boxed.new (gw (w.alloc (.cells #[.int .i64 h] 3)) p) 3 (.int .i64 0)).alloc (.cells #[.int .i64 0] 3)
      have bG := Boxed.new ((gw (w.alloc (.cells #[.int .i64 h] 3)) p).alloc (.cells #[.int .i64 0] 3)) 3 (.int .i64 0)
      rw [World.size_alloc] at bG
      rw [hgs, hW1] at bK bG
      have hsz1 : W1.heap.size = Ka + 2 := by rw [← hW1]; simp; omega
      rw [hKa]
      have hK0 : w.heap.size < Ka := by omega
      clear hW1 hB2 hgs hKa
      refine (callsIn_wide.2 (byBitter_any l n HN.out _ _ _ (by omega) (HC.out.past hB1))).mono ?_
      rintro e w3 ⟨v3, rfl, o3, b3⟩
      rw [HSE.out, hsz1] at o3
      obtain ⟨A3, c3, rfl, hc3, _, _⟩ := o3.slice
      rw [HSN.out] at o3 hc3 ⊢
      have hz3 := b3.size
      have bH3 : Boxed w3 w.heap.size 3 (.int .i64 h) := (b3.block _ bH.lt).trans bH
      have bK3 : Boxed w3 Ka 3 (.int .i64 0) := (b3.block _ bK.lt).trans bK
      have bG3 : Boxed w3 (Ka + 1) 3 (.int .i64 0) := (b3.block _ bG.lt).trans bG
      have hB3 : Below w.heap.size w w3 := hB1.trans (b3.mono hB1.size)
      clear bH bK bG hB1 b3
      gi_wp2_with (refine ⟨trivial, ?_⟩; gi_at_call 52; refine (back_in Fence.wide 2 trivial rfl _ _ _ _).mono ?_; rintro e w' ⟨rfl, rfl⟩)
      have bH4 := bH3.alloc (.cells #[.slice A3 n c3] 24)
      have bK4 := bK3.alloc (.cells #[.slice A3 n c3] 24)
      have bG4 := bG3.alloc (.cells #[.slice A3 n c3] 24)
      have bS4 := Boxed.new w3 24 (.slice A3 n c3)
      have hB4 : Below w.heap.size w (w3.alloc (.cells #[.slice A3 n c3] 24)) := hB3.alloc hB3.size _
      have hsz4 : (w3.alloc (.cells #[.slice A3 n c3] 24)).heap.size = w3.heap.size + 1 := by simp
      have hal : ∀ b, b < w3.heap.size → (w3.alloc (.cells #[.slice A3 n c3] 24)).heap[b]? = w3.heap[b]? := fun b hb => Below.heap_alloc _ _ _ hb
      obtain ⟨W0, hW0⟩ : ∃ W0, w3.alloc (.cells #[.slice A3 n c3] 24) = W0 := ⟨_, rfl⟩
      rw [hW0] at bH4 bK4 bG4 bS4 hB4 hsz4 hal ⊢
      have hKw : Ka + 2 ≤ w3.heap.size := by omega
      clear hW0 bH3 bK3 bG3
      have HO3 := Lib.hid o3
      clear o3
      refine wpIn_rangeFunc_ownH rfl (by decide) (gf := 80) (lb := #[.pointer (some ⟨w3.heap.size, 0, none⟩)]) rfl trivial (enters_of Try.func80 (by kernel_rfl) rfl)
        (backN_stops Fence.wide 2 trivial rfl (by decide) w3.heap.size S n HSN.out A3 c3 hl (KeepE w.heap.size Ka (Ka + 1) (w3.heap.size + 1)) keepE_t W0 (fun W _ => KeepE.refl _ _ _ _ W)
          (fun W W' hW hk => (hk.blk w3.heap.size (by omega) (by omega) (by omega)).trans ((hW.block _ bS4.lt).trans bS4))
          (fun W W' hW hk => sl_kept HO3.out (show Ka < Ka + 2 by omega) (show Ka + 1 < Ka + 2 by omega) (by have := hW.size; have := hk.bel.size; omega) (fun b hb h1 h2 => (hk.blk b (by omega) h1 h2).trans ((hW.block b (by omega)).trans (hal b hb)))))
        keepE_t (keepE_b (by omega) (by omega)) (Below.refl _ _) (fun _ => rfl)
        (fun pre W => (Boxed W Ka 3 (.int .i64 (foldQ h S pre).1) ∧ Boxed W (Ka + 1) 3 (.int .i64 (foldQ h S pre).2) ∧ Boxed W w.heap.size 3 (.int .i64 h) ∧ Boxed W w3.heap.size 24 (.slice A3 n c3)) ∧ Below w.heap.size w W)
        (fun _ _ _ => False)
        (OwnFrom.and (OwnFrom.and (Own.from (boxed_own _ _ _) _) (OwnFrom.and (Own.from (boxed_own _ _ _) _) (OwnFrom.and (Own.from (boxed_own _ _ (fun _ => _)) _) (Own.from (boxed_own _ _ (fun _ => _)) _)))) (ownFrom_below (Nat.le_refl _) (by omega)))
        (fun _ _ _ _ _ hs _ _ => hs)
        ⟨⟨bK4, bG4, bH4, bS4⟩, hB4⟩
        (fun x a' W => ∃ Bx, w3.heap.size < Bx ∧ Blk W Bx 69 #[.int .i64 S[x]!.id, .int .i64 S[x]!.kilos, .int .i64 S[x]!.bitter] ∧ a' = { tmps := #[.slice A n cap, .int .i64 h, undef, .pointer (some ⟨w.heap.size, 0, none⟩), .int .i64 0, .bool false, .pointer (some ⟨Ka, 0, none⟩), .pointer (some ⟨Ka + 1, 0, none⟩), undef, .pointer (some ⟨Bx, 0, none⟩), undef, .slice A n cap, .bool true, .bool false, .bool false, .int .i64 h, .bool true, .bool false, .bool false, .slice A n cap, .slice A3 n c3, .func (.func 80) #[] #[.pointer (some ⟨w3.heap.size, 0, none⟩)], .int .i64 (x : Int), bitV S[x]!, undef, undef, undef, undef, undef, undef, undef, undef, undef, undef, undef, undef, undef, undef, undef, undef, undef, undef, undef, undef, undef, undef, undef, undef, undef, undef], defers := [] })
        (fun x a' _ X Y row hs hg hr => by obtain ⟨Bx, h1, h2, h3⟩ := hs; exact ⟨Bx, h1, blk_own Bx 69 (fun (_ : Unit) => _) () X Y row h2 hg (fun r e => (hr r e).2), h3⟩)
        ?assign ?body ?done ?stop
      case assign =>
        rintro l pre x W K ⟨⟨bK1, bG1, bH1, bS1⟩, hB1⟩ hK
        generalize S[x]! = y at hK ⊢
        dsimp only [bitV] at hK ⊢
        gi_wp2
        refine hK _ _ ((KeepsOthers.alloc _ _).from _) ⟨(Below.refl _ W).alloc hB1.size _, fun b hb _ _ => Below.heap_alloc _ _ _ (by have := bS1.lt; omega)⟩ ⟨⟨bK1.alloc _, bG1.alloc _, bH1.alloc _, bS1.alloc _⟩, hB1.alloc hB1.size _⟩ ⟨W.heap.size, by have := bS1.lt; omega, Blk.new _ _ _, rfl⟩
      case body =>
        rintro l' pre x a' W hl' ⟨r, hr⟩ ⟨⟨bK1, bG1, bH1, bS1⟩, hB1⟩ ⟨Bx, hBx, bX, rfl⟩ hlt
        have hs := foldQ_snoc h S pre x
        obtain ⟨⟨_, _⟩, x30, x31⟩ := okT_any HOS.out x
        generalize S[x]! = y at *
        obtain ⟨⟨s, t⟩, hst⟩ : ∃ z, foldQ h S pre = z := ⟨_, rfl⟩
        rw [hst] at bK1 bG1 hs
        obtain ⟨x1, x2, x3⟩ := y
        dsimp only [bitV] at bX bK1 bG1 x30 x31 ⊢
        have cK := bK1.cell
        have cG := bG1.cell
        have cH := bH1.cell
        have fK := bK1.frozen
        have fG := bG1.frozen
        have d1 : W.cell? ⟨Bx, 1, none⟩ = some (.int .i64 x2) := bX.cell 1
        have d2 : W.cell? ⟨Bx, 2, none⟩ = some (.int .i64 x3) := bX.cell 2
        have hsw := bS1.lt
        have fin : ∀ (ac : Act) (a b : Int), foldQ h S (pre ++ [x]) = (a, b) → ownPostG (w3.heap.size + 1) (KeepE w.heap.size Ka (Ka + 1) (w3.heap.size + 1))
            (fun pre W => (Boxed W Ka 3 (.int .i64 (foldQ h S pre).1) ∧ Boxed W (Ka + 1) 3 (.int .i64 (foldQ h S pre).2) ∧ Boxed W w.heap.size 3 (.int .i64 h) ∧ Boxed W w3.heap.size 24 (.slice A3 n c3)) ∧ Below w.heap.size w W) (fun _ _ _ => False) (pre ++ [x]) W .normal ac
            ((W.setCell ⟨Ka, 0, none⟩ (.int .i64 a)).setCell ⟨Ka + 1, 0, none⟩ (.int .i64 b)) := fun ac a b hab => by
          refine ⟨((KeepsOthers.setCell _ _ _).trans (KeepsOthers.setCell _ _ _)).from _, ⟨((Below.refl w.heap.size W).setCell (p := ⟨Ka, 0, none⟩) (by show w.heap.size ≤ Ka; omega) _).setCell (p := ⟨Ka + 1, 0, none⟩) (by show w.heap.size ≤ Ka + 1; omega) _, fun b hb h1 h2 => ?_⟩, ⟨?_, ?_, (bH1.other (by omega) _).other (by omega) _, (bS1.other (by omega) _).other (by omega) _⟩, (hB1.setCell (p := ⟨Ka, 0, none⟩) (by show w.heap.size ≤ Ka; omega) _).setCell (p := ⟨Ka + 1, 0, none⟩) (by show w.heap.size ≤ Ka + 1; omega) _⟩
          · rw [Below.heap_setCell _ _ _ _ h2, Below.heap_setCell _ _ _ _ h1]
          · rw [hab]; exact (bK1.set _).other (by omega) _
          · rw [hab]; exact (bG1.other (by omega) _).set _
        have FIN := Lib.hid fin
        have HS := Lib.hid hs
        clear fin hs hst
        by_cases c : x3 < h
        · have c' : decide (x3 < h) = true := decide_eq_true c
          have u0 : h - x3 ≠ 0 := by omega
          gi_wp2
          all_goals
            refine FIN.out _ _ _ ?_
            rw [HS.out]
            unfold stepM numM
            dsimp only
            rw [if_pos c]
            first | rw [Int.min_eq_left (by omega)] | rw [Int.min_eq_right (by omega)]
        · have c' : decide (x3 < h) = false := decide_eq_false c
          gi_wp2
          refine FIN.out _ _ _ ?_
          rw [HS.out]
          unfold stepM numM
          dsimp only
          rw [if_neg (show ¬ x3 < h by omega)]
      case done =>
        rintro D ys W hD rfl ⟨⟨bK1, bG1, bH1, bS1⟩, hB1⟩ hK
        obtain ⟨z, hz⟩ : ∃ z, (foldQ h S (downTo n n)).1 = z := ⟨_, rfl⟩
        rw [hz] at bK1
        have HZ := Lib.hid hz
        clear hz
        have cK := bK1.cell
        gi_wp2
        refine ⟨by simp, .inl ⟨_, _, rfl, run_takeDeferred hK, ?_⟩⟩
        exact ⟨_, results_tmp2 rfl _ _ _, by rw [HZ.out]; rfl, hB1.trans (belowK_b (w := w) (Nat.le_refl _) W D _ _ (by omega) hK rfl rfl)⟩
      case stop =>
        rintro D c pre W _ _ hh _
        exact hh.elim
end Go.Proofs.Ytcajgadgdjopdaa
