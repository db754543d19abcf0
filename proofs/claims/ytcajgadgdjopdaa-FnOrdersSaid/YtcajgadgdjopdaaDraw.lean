/- Draws: what the reference's cursor over bytes gives, as far as the laws need it: some number in its bounds, no panic, and nothing else is written. (Under way.) -/
import Derived.Test.YtcajgadgdjopdaaProg
import Derived.Test.YtcajgadgdjopdaaSet
import Derived.Test.YtcajgadgdjopdaaTail
import Derived.Lib.Zigzag
namespace Go.Proofs.Ytcajgadgdjopdaa
open Go.RowKit
theorem u64_rng (y : Int) : 0 ≤ IntKind.u64.wrap y ∧ IntKind.u64.wrap y < 18446744073709551616 := by
  simp only [IntKind.wrap, IntKind.signed, IntKind.bits]
  simp
  omega
theorem and255 {x : Int} (h0 : 0 ≤ x) (h1 : x < 18446744073709551616) : bits .and .u64 x 255 = x % 256 := by
  have h := bits_mask .u64 64 (by decide) wraps_u64 8 (by decide) x h0 (by omega)
  simpa using h
theorem byte_of (y : Int) : ∃ b : Nat, b ≤ 255 ∧ wrap64 (bits BinOp.and IntKind.u64 (IntKind.u64.wrap y / 1099511627776) 255) = b := by
  obtain ⟨h0, h1⟩ := u64_rng y
  generalize IntKind.u64.wrap y = z at *
  have e1 : bits BinOp.and IntKind.u64 (z / 1099511627776) 255 = (z / 1099511627776) % 256 := and255 (by omega) (by omega)
  have e2 : wrap64 ((z / 1099511627776) % 256) = (z / 1099511627776) % 256 := IntWalk.wrap64_in _ (by omega)
  rw [e1, e2]
  exact ⟨((z / 1099511627776) % 256).toNat, by omega, by omega⟩
theorem Blk.new_ (w : World) (t : TypeId) (cs : Array Value) (g : Nat) (hg : g = w.heap.size) : Blk (w.alloc (.cells cs t)) g t cs := by subst hg; exact Blk.new w t cs
theorem Blk.grown {w w' : World} {g p : Nat} {t : TypeId} {cs : Array Value} (h : Blk w g t cs) (hg : w.grownBy w' (some p)) (hne : g ≠ p) : Blk w' g t cs := (hg.block g h.lt (by intro e; injection e with e; omega)).trans h
/-- The block p holds a cursor that has drawn at most k times; it and its code lie below B. -/
structure Cur (w : World) (B p k : Nat) : Prop where
  cells : ∃ (A : Option Addr) (n c : Nat) (i s : Int), w.cell? ⟨p, 0, none⟩ = some (.slice A n c) ∧ w.cell? ⟨p, 1, none⟩ = some (.int .i64 i) ∧ w.cell? ⟨p, 2, none⟩ = some (.int .u64 s) ∧ 0 ≤ i ∧ i ≤ k ∧ n ≤ maxLen ∧
    (0 < n → ∃ b off, A = some ⟨b, off, none⟩ ∧ b ≠ p ∧ b < B ∧ ∀ j, j < n → ∃ v : Nat, v ≤ 255 ∧ w.cell? ⟨b, off + j, none⟩ = some (.int .u8 v))
  thaw1 : w.frozen? ⟨p, 1, none⟩ = false
  thaw2 : w.frozen? ⟨p, 2, none⟩ = false
  lt : p < B
  le : B ≤ w.heap.size
theorem Cur.step {w : World} {B p k : Nat} (h : Cur w B p k) {i s : Int} (i0 : 0 ≤ i) (i1 : i ≤ (k : Int) + 1) (q : GP) :
    Cur (gw ((w.setCell ⟨p, 1, none⟩ (.int .i64 i)).setCell ⟨p, 2, none⟩ (.int .u64 s)) q) B p (k + 1) ∧ w.grownBy (gw ((w.setCell ⟨p, 1, none⟩ (.int .i64 i)).setCell ⟨p, 2, none⟩ (.int .u64 s)) q) (some p) := by
  obtain ⟨⟨A, n, c, i', s', c0, c1, c2, _, _, hn, hr⟩, f1, f2, hp, hB⟩ := h
  have hb : ∀ b, b < w.heap.size → b ≠ p → (gw ((w.setCell ⟨p, 1, none⟩ (.int .i64 i)).setCell ⟨p, 2, none⟩ (.int .u64 s)) q).heap[b]? = w.heap[b]? := fun b hb hne => by
    rw [gw_heap _ _ (by simpa [World.setCell] using hb), Below.heap_setCell _ _ _ _ hne, Below.heap_setCell _ _ _ _ hne]
  have hpw : p < w.heap.size := by omega
  refine ⟨⟨⟨A, n, c, i, s, ?_, ?_, ?_, i0, by push_cast; omega, hn, fun h0 => ?_⟩, ?_, ?_, hp, ?_⟩, ⟨rfl, rfl, rfl, by simp [World.setCell], fun b hb1 hb2 => hb b hb1 (fun e => hb2 (by rw [e]))⟩⟩
  · simp [go_sem, c0, hpw]
  · simp [go_sem, c1, hpw]
  · simp [go_sem, c2, hpw]
  · obtain ⟨b, off, e, h1, h2, h3⟩ := hr h0
    refine ⟨b, off, e, h1, h2, fun j hj => ?_⟩
    obtain ⟨v, hv, hc⟩ := h3 j hj
    exact ⟨v, hv, (World.cell?_of_block (a := ⟨b, off + j, none⟩) (hb b (by omega) h1)).trans hc⟩
  · simp [go_sem, f1, hpw]
  · simp [go_sem, f2, hpw]
  · simp [World.setCell]; omega
set_option maxRecDepth 4000 in
set_option maxHeartbeats 4000000 in
theorem next_any (B p k : Nat) (w : World) (hk : k ≤ 1000000000) (h : Cur w B p k) :
    Calls Try.prog 86 #[.pointer (some ⟨p, 0, none⟩)] w fun e w' => ∃ b : Nat, b ≤ 255 ∧ e = .returned (.int .i64 b) ∧ Cur w' B p (k + 1) ∧ w.grownBy w' (some p) := by
  have HC := Lib.hid h
  obtain ⟨⟨A, n, c, i, s, c0, c1, c2, i0, i1, hn, hr⟩, f1, f2, hpB, hBw⟩ := h
  have hp : p < w.heap.size := by omega
  have hi : IntKind.i64.wrap (i + 1) = i + 1 := IntWalk.i64_in _ (by omega)
  by_cases hlt : i < n
  · obtain ⟨b, off, rfl, hbp, hbB, hv⟩ := hr (by omega)
    have hb : b < w.heap.size := by omega
    obtain ⟨j, rfl⟩ : ∃ j : Nat, i = j := ⟨i.toNat, by omega⟩
    obtain ⟨v, hv1, cv⟩ := hv j (by omega)
    have hle : (j : Int) + 1 ≤ n := by omega
    clear hr hv
    go_enter Try.func86, Try.ntmps86
    go_wp2
    refine wp_region_gw (by kernel_rfl) (by kernel_rfl) ?_
    repeat (first | go_big_quiet_step ((fail)) | quiet_step ((fail)))
    refine wpQuiet_nil ?_
    rintro _ ⟨pq, rfl⟩
    go_wp2
    refine wp_region_gw (by kernel_rfl) (by kernel_rfl) ?_
    repeat (first | go_big_quiet_step ((fail)) | quiet_step ((fail)))
    refine wpQuiet_nil ?_
    rintro _ ⟨pq, rfl⟩
    go_wp2
    refine wp_region_gw (by kernel_rfl) (by kernel_rfl) ?_
    repeat (first | go_big_quiet_step ((fail)) | quiet_step ((fail)))
    refine wpQuiet_nil ?_
    rintro _ ⟨pq, rfl⟩
    go_wp2
    go_ret
    rw [gw_gw]
    obtain ⟨r1, r2⟩ := HC.out.step (i := (j : Int) + 1) (s := IntKind.u64.wrap (IntKind.u64.wrap (IntKind.u64.wrap (s * 6364136223846793005) + v) + 101919)) (by omega) (by omega) ⟨_, _⟩
    exact ⟨v, hv1, rfl, r1, r2⟩
  · have hge : ¬ i + 1 ≤ n := by omega
    clear hr
    go_enter Try.func86, Try.ntmps86
    go_wp2
    refine wp_region_gw (by kernel_rfl) (by kernel_rfl) ?_
    repeat (first | go_big_quiet_step ((fail)) | quiet_step ((fail)))
    refine wpQuiet_nil ?_
    rintro _ ⟨pq, rfl⟩
    go_wp2
    refine wp_region_gw (by kernel_rfl) (by kernel_rfl) ?_
    repeat (first | go_big_quiet_step ((fail)) | quiet_step ((fail)))
    refine wpQuiet_nil ?_
    rintro _ ⟨pq, rfl⟩
    go_wp2
    go_ret
    obtain ⟨bb, h1, h2⟩ := byte_of (IntKind.u64.wrap (IntKind.u64.wrap (s * 6364136223846793005)) + 101919)
    obtain ⟨r1, r2⟩ := HC.out.step (i := i + 1) (s := IntKind.u64.wrap (IntKind.u64.wrap (IntKind.u64.wrap (s * 6364136223846793005)) + 101919)) (by omega) (by omega) ⟨_, _⟩
    exact ⟨bb, h1, by rw [← h2]; rfl, r1, r2⟩
theorem Cur.mono {w : World} {B p k k' : Nat} (h : Cur w B p k) (hk : k ≤ k') : Cur w B p k' := by
  obtain ⟨⟨A, n, c, i, s, c0, c1, c2, i0, i1, hn, hr⟩, f1, f2, hp, hB⟩ := h
  exact ⟨⟨A, n, c, i, s, c0, c1, c2, i0, by omega, hn, hr⟩, f1, f2, hp, hB⟩
theorem Cur.below {w w' : World} {B p k : Nat} (h : Cur w B p k) (hb : Below B w w') : Cur w' B p k := by
  obtain ⟨⟨A, n, c, i, s, c0, c1, c2, i0, i1, hn, hr⟩, f1, f2, hp, hB⟩ := h
  refine ⟨⟨A, n, c, i, s, (hb.cell (p := ⟨p, 0, none⟩) hp).trans c0, (hb.cell (p := ⟨p, 1, none⟩) hp).trans c1, (hb.cell (p := ⟨p, 2, none⟩) hp).trans c2, i0, i1, hn, fun h0 => ?_⟩, (hb.frozen (p := ⟨p, 1, none⟩) hp).trans f1, (hb.frozen (p := ⟨p, 2, none⟩) hp).trans f2, hp, Nat.le_trans hB hb.size⟩
  obtain ⟨b, off, e, h1, h2, h3⟩ := hr h0
  refine ⟨b, off, e, h1, h2, fun j hj => ?_⟩
  obtain ⟨v, hv, hc⟩ := h3 j hj
  exact ⟨v, hv, (hb.cell (p := ⟨b, off + j, none⟩) h2).trans hc⟩
theorem gb_below {w w1 w2 : World} {r : Option Nat} (h : w.grownBy w1 r) (hb : Below w.heap.size w1 w2) : w.grownBy w2 r := by
  refine ⟨hb.os.trans h.os, hb.tape.trans h.tape, hb.output.trans h.output, Nat.le_trans h.size hb.size, fun b hb1 hb2 => (hb.block b hb1).trans (h.block b hb1 hb2)⟩
theorem draw_end {w0 w w' : World} {B p k k' : Nat} (h : Cur w B p k) (g : w0.grownBy w (some p)) (hle : B ≤ w0.heap.size) (hk : k ≤ k') (hb : Below w0.heap.size w w') : Cur w' B p k' ∧ w0.grownBy w' (some p) :=
  ⟨(h.below (hb.mono hle)).mono hk, gb_below g hb⟩
theorem Own.drawn {α : Type} {E : Enc α} {w w' : World} {base p : Nat} {e : TypeId} {v : Value} {l : List α} (h : Own E w base e v l) (hg : w.grownBy w' (some p)) (hp : p < base) : Own E w' base e v l :=
  h.grown hg fun k hk e => by injection e with e; have := h.row k hk; omega
theorem Own.afar {α : Type} {E : Enc α} {w : World} {base : Nat} {e : TypeId} {v : Value} {l : List α} (h : Own E w base e v l) {gg i : Nat} (hne : v.ownBlock ≠ some gg) (u : Value) : Own E (w.setCell ⟨gg, i, none⟩ u) base e v l := by
  obtain ⟨hl, h⟩ := h
  refine ⟨hl, ?_⟩
  rcases h with h | ⟨g, cap, cur, rfl, hg, hh, r⟩
  · exact .inl h
  · refine .inr ⟨g, cap, cur, rfl, hg, ?_, r⟩
    have : g ≠ gg := fun e => hne (by rw [← e]; rfl)
    exact (Below.heap_setCell w ⟨gg, i, none⟩ u g this).trans hh
def sliceLen : Value → Nat
  | .slice _ n _ => n
  | _ => 0
theorem gb_toBelow {w w1 : World} {B p : Nat} (h : w.grownBy w1 (some p)) (hB : B ≤ w.heap.size) (hp : B ≤ p) : Below B w w1 :=
  below_grownB (Below.refl B w) h hB (fun k hk => by injection hk with hk; omega)
set_option maxRecDepth 4000 in
set_option maxHeartbeats 4000000 in
theorem pick_any (B p k : Nat) (n : Int) (w : World) (hk : k ≤ 1000000) (hn : n ≤ 60000) (h : Cur w B p k) :
    Calls Try.prog 71 #[.pointer (some ⟨p, 0, none⟩), .int .i64 n] w fun e w' => ∃ r : Nat, ((r : Int) < n ∨ r = 0) ∧ e = .returned (.int .i64 r) ∧ Cur w' B p (k + 2) ∧ w.grownBy w' (some p) := by
  have HC := Lib.hid h
  clear h
  by_cases h1 : n ≤ 1
  · go_enter Try.func71, Try.ntmps71
    go_wp2
    go_ret
    exact ⟨0, .inr rfl, rfl, HC.out.mono (by omega), World.grownBy.refl w _⟩
  · obtain ⟨m, rfl⟩ : ∃ m : Nat, n = m := ⟨n.toNat, by omega⟩
    have hm0 : ((m : Int) == 0) = false := beq_eq_false_iff_ne.2 (by omega)
    have hm1 : ¬ (m : Int) = 0 := by omega
    have hm2 : ¬ m = 0 := by omega
    by_cases h2 : (200 : Int) < m
    · go_enter Try.func71, Try.ntmps71
      go_wp2_with fail
      refine (next_any B p k _ (by omega) HC.out).mono ?_
      rintro e w1 ⟨b, hb, rfl, r1, g1⟩
      have R1 := Lib.hid r1
      have G1 := Lib.hid g1
      clear r1 g1
      have k1 : IntKind.i64.wrap ((b : Int) * 256) = (b : Int) * 256 := IntWalk.i64_in _ (by omega)
      go_wp2_with fail
      refine (next_any B p (k + 1) _ (by omega) R1.out).mono ?_
      rintro e w2 ⟨b', hb', rfl, r2, g2⟩
      have R2 := Lib.hid r2
      have G2 := Lib.hid (G1.out.trans g2)
      clear r2 g2
      have k2 : IntKind.i64.wrap ((b : Int) * 256 + b') = ((b * 256 + b' : Nat) : Int) := by rw [IntWalk.i64_in _ (by omega)]; push_cast; rfl
      have k3 : ((b * 256 + b' : Nat) : Int).tmod m = (((b * 256 + b') % m : Nat) : Int) := by rw [Int.tmod_eq_emod_of_nonneg (by omega)]; rfl
      have hlt := Nat.mod_lt (b * 256 + b') (show 0 < m by omega)
      have k4 : IntKind.i64.wrap (((b * 256 + b') % m : Nat) : Int) = (((b * 256 + b') % m : Nat) : Int) := IntWalk.i64_in _ (by omega)
      generalize hx : b * 256 + b' = x at *
      generalize hy : x % m = y at *
      clear hx hy
      go_wp2
      go_ret
      exact ⟨y, .inl (by omega), rfl, R2.out, G2.out⟩
    · go_enter Try.func71, Try.ntmps71
      go_wp2_with fail
      refine (next_any B p k _ (by omega) HC.out).mono ?_
      rintro e w1 ⟨b, hb, rfl, r1, g1⟩
      have R1 := Lib.hid r1
      have G1 := Lib.hid g1
      clear r1 g1
      have k3 : (b : Int).tmod m = ((b % m : Nat) : Int) := by rw [Int.tmod_eq_emod_of_nonneg (by omega)]; rfl
      have hlt := Nat.mod_lt b (show 0 < m by omega)
      have k4 : IntKind.i64.wrap ((b % m : Nat) : Int) = ((b % m : Nat) : Int) := IntWalk.i64_in _ (by omega)
      generalize hy : b % m = y at *
      clear hy
      go_wp2
      go_ret
      exact ⟨y, .inl (by omega), rfl, R1.out.mono (by omega), G1.out⟩
theorem one_any (B p k : Nat) (n : Int) (w : World) (hk : k ≤ 1000000) (hn : n ≤ 60000) (h : Cur w B p k) :
    Calls Try.prog 70 #[.pointer (some ⟨p, 0, none⟩), .int .i64 n] w fun e w' => ∃ r : Bool, e = .returned (.bool r) ∧ Cur w' B p (k + 2) ∧ w.grownBy w' (some p) := by
  have HC := Lib.hid h
  clear h
  go_enter Try.func70, Try.ntmps70
  go_wp2_with fail
  refine (pick_any B p k n _ hk hn HC.out).mono ?_
  rintro e w1 ⟨r, _, rfl, r1, g1⟩
  have R1 := Lib.hid r1
  have G1 := Lib.hid g1
  clear r1 g1
  go_wp2
  go_ret
  exact ⟨_, rfl, R1.out, G1.out⟩
set_option maxRecDepth 4000 in
set_option maxHeartbeats 4000000 in
theorem among_any (xs : List Int) (n : Nat) (hn : xs.length = n) (B p k b : Nat) (t : TypeId) (w : World) (hk : k ≤ 1000000) (h : Cur w B p k) (hB : B ≤ b) (hx : Blk w b t (xs.map (Value.int .i64)).toArray) (h0 : 0 < n) (h1 : n ≤ 100) :
    Calls Try.prog 40 #[.pointer (some ⟨p, 0, none⟩), .slice (some ⟨b, 0, none⟩) n n] w fun e w' => ∃ x, x ∈ xs ∧ e = .returned (.int .i64 x) ∧ Cur w' B p (k + 2) ∧ w.grownBy w' (some p) := by
  have HC := Lib.hid h
  have HX := Lib.hid hx
  have hpB := h.lt
  clear h hx
  go_enter Try.func40, Try.ntmps40
  go_wp2_with fail
  refine (pick_any B p k n _ hk (by omega) HC.out).mono ?_
  rintro e w1 ⟨r, hr, rfl, r1, g1⟩
  have hr' : r < n := by omega
  obtain ⟨x, hxx⟩ : ∃ x, xs[r]? = some x := ⟨xs[r]'(by omega), List.getElem?_eq_getElem _⟩
  have hcell : w1.cell? ⟨b, r, none⟩ = some (.int .i64 x) := by
    have e1 := HX.out.cell r
    have e2 := g1.block b HX.out.lt (by intro e; injection e with e; omega)
    rw [World.cell?_of_block (a := ⟨b, r, none⟩) e2, e1]
    simp [hxx]
  have HM := Lib.hid (List.mem_of_getElem? hxx)
  have hbw : b < w1.heap.size := Nat.lt_of_lt_of_le HX.out.lt g1.size
  have R1 := Lib.hid r1
  have G1 := Lib.hid g1
  have k1 : (r : Int) < n := by omega
  have k2 : (0 : Int) ≤ r := by omega
  clear r1 g1 hxx hr
  go_wp2
  go_ret
  exact ⟨x, HM.out, rfl, R1.out, G1.out⟩
/-- A slice of bytes that can be read. -/
def Bytes (w : World) (A : Option Addr) (n : Nat) : Prop := n ≤ maxLen ∧
  (0 < n → ∃ b off, A = some ⟨b, off, none⟩ ∧ b < w.heap.size ∧ ∀ j, j < n → ∃ v : Nat, v ≤ 255 ∧ w.cell? ⟨b, off + j, none⟩ = some (.int .u8 v))
theorem Bytes.past {w w' : World} {A : Option Addr} {n : Nat} (h : Bytes w A n) (hb : Below w.heap.size w w') : Bytes w' A n := by
  refine ⟨h.1, fun h0 => ?_⟩
  obtain ⟨b, off, e, hl, hc⟩ := h.2 h0
  refine ⟨b, off, e, Nat.lt_of_lt_of_le hl hb.size, fun j hj => ?_⟩
  obtain ⟨v, hv, hj⟩ := hc j hj
  exact ⟨v, hv, (hb.cell (p := ⟨b, off + j, none⟩) hl).trans hj⟩
theorem Cur.new {w : World} {A : Option Addr} {n : Nat} (h : Bytes w A n) (c : Nat) (t : TypeId) : Cur (w.alloc (.cells #[.slice A n c, .int .i64 0, .int .u64 0] t)) (w.heap.size + 1) w.heap.size 0 := by
  have hk := Blk.new w t #[.slice A n c, .int .i64 0, .int .u64 0]
  have h' := h.past (bl_alloc (Below.refl w.heap.size w) (.cells #[.slice A n c, .int .i64 0, .int .u64 0] t))
  refine ⟨⟨A, n, c, 0, 0, hk.cell 0, hk.cell 1, hk.cell 2, by omega, by omega, h.1, fun h0 => ?_⟩, hk.frozen 1, hk.frozen 2, by omega, by simp⟩
  obtain ⟨b, off, e, hl, hc⟩ := h.2 h0
  refine ⟨b, off, e, by omega, by omega, fun j hj => ?_⟩
  obtain ⟨b2, off2, e2, _, hc2⟩ := h'.2 h0
  rw [e] at e2
  injection e2 with e2
  injection e2 with e1 e2
  subst e1 e2
  exact hc2 j hj
end Go.Proofs.Ytcajgadgdjopdaa
