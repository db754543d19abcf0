/- Rows of rows of ints: a row of one's own whose cells are slices; the key of levels. -/
import Derived.Test.YtbedepmcecdhfaaKey
import Derived.Maps.AppendAt
namespace Go.Proofs.Ytbedepmcecdhfaa
open Go.RowKit
abbrev Z5 : Array Value := #[.int .i64 0, .int .i64 0, .int .i64 0, .int .i64 0, .int .i64 0]
theorem key_copy {W : World} {g B n cap : Nat} {A : Option Addr} {l : List Int} (ty : TypeId) (hg : Blk W g 82 Z5) (hn : l.length = n) (h1 : 1 ≤ n) (h5 : n ≤ 5) (hc : Sl encInt W B A l) :
    ∃ W', (Builtin.copy_ #[26, 26] ty #[.slice (some ⟨g, 0, none⟩) 5 5, .slice A n cap]).run Try.prog W = .ok (goInt n) W' ∧ Below g W W' ∧ ∃ cs, Blk W' g 82 cs ∧ cs.size = 5 ∧ ∀ i, i < 5 → cs[i]? = some (.int .i64 l[i]!) := by
  obtain ⟨b, off, rfl, hb, hcs⟩ := hc.int_ (by omega)
  have hlen : (l.map (Value.int .i64)).length = Nat.min n 5 := by rw [List.length_map, hn]; exact (Nat.min_eq_left h5).symm
  have hrun := run_copy_row (P := Try.prog) W 26 26 ty 3 g 0 5 5 ⟨b, off, none⟩ n cap Z5 82 (l.map (Value.int .i64)) Try.underlying26 (by kernel_rfl) hg hlen
    (fun j v hv => by
      rw [List.getElem?_map] at hv
      obtain ⟨x, h1, h2⟩ := Option.map_eq_some_iff.1 hv
      subst h2
      rw [add_plain rfl]
      exact (hcs j x h1)) (by simp; omega) (fun v hv => by obtain ⟨x, _, rfl⟩ := List.mem_map.1 hv; rfl)
  rw [List.length_map, hn] at hrun
  refine ⟨_, hrun, ⟨rfl, rfl, rfl, by simp [World.setRow], fun k hk => setRow_other W g k _ (by omega)⟩, _, setRow_heap W g _ _ _ _ hg, ?_, fun i hi => ?_⟩
  · simp; omega
  · rw [List.getElem?_toArray, List.take_zero, List.nil_append, Nat.zero_add]
    rcases Nat.lt_or_ge i l.length with h | h
    · rw [List.getElem?_append_left (by simpa using h), List.getElem?_map, List.getElem?_eq_getElem h, getElem!_pos l i h]; rfl
    · rw [List.getElem?_append_right (by simpa using h), List.getElem?_drop, List.length_map, getElem!_neg l i (by omega), ← hn]
      rw [show l.length + (i - l.length) = i by omega]
      rcases (show i = 0 ∨ i = 1 ∨ i = 2 ∨ i = 3 ∨ i = 4 by omega) with rfl | rfl | rfl | rfl | rfl <;> rfl
set_option maxRecDepth 4000 in
set_option maxHeartbeats 4000000 in
theorem keyOf_any (l : List Int) (n : Nat) (hn : l.length = n) (A : Option Addr) (cap : Nat) (w : World) (h1 : 1 ≤ n) (h5 : n ≤ 5) (hc : Sl encInt w w.heap.size A l) :
    Calls Try.prog 59 #[.slice A n cap] w fun e w' => e = .returned (keyV l) ∧ Below w.heap.size w w' := by
  have hC := hc.past (bl_alloc (bl_alloc (Below.refl w.heap.size w) (.cells Z5 82)) (.cells Z5 82))
  have hk := Blk.new (w.alloc (.cells Z5 82)) 82 Z5
  rw [alloc_sz] at hk
  obtain ⟨W', hrun, hb, cs, hB, hs, hcs⟩ := key_copy (cap := cap) 3 hk hn h1 h5 hC
  have hR := ((Blk.new w 82 Z5).alloc (.cells Z5 82))
  have hR' : Blk W' w.heap.size 82 Z5 := by
    have := hb.block w.heap.size (by omega)
    exact this.trans hR
  have hbw : Below w.heap.size w W' := (show Below w.heap.size w ((w.alloc (.cells Z5 82)).alloc (.cells Z5 82)) from (by repeat (first | assumption | exact Below.refl _ _ | apply bl_gw | apply bl_alloc | apply bl_drewN | apply bl_drew))).trans (hb.mono (by omega))
  have HB := Lib.hid hbw
  have HRR := Lib.hid hR'
  have c0 : W'.cell? ⟨w.heap.size + 1, 0, none⟩ = some (.int .i64 l[0]!) := (hB.cell 0).trans (hcs 0 (by omega))
  have c1 : W'.cell? ⟨w.heap.size + 1, 1, none⟩ = some (.int .i64 l[1]!) := (hB.cell 1).trans (hcs 1 (by omega))
  have c2 : W'.cell? ⟨w.heap.size + 1, 2, none⟩ = some (.int .i64 l[2]!) := (hB.cell 2).trans (hcs 2 (by omega))
  have c3 : W'.cell? ⟨w.heap.size + 1, 3, none⟩ = some (.int .i64 l[3]!) := (hB.cell 3).trans (hcs 3 (by omega))
  have c4 : W'.cell? ⟨w.heap.size + 1, 4, none⟩ = some (.int .i64 l[4]!) := (hB.cell 4).trans (hcs 4 (by omega))
  have r0 : W'.cell? ⟨w.heap.size, 0, none⟩ = some (.int .i64 0) := hR'.cell 0
  have r1 : W'.cell? ⟨w.heap.size, 1, none⟩ = some (.int .i64 0) := hR'.cell 1
  have r2 : W'.cell? ⟨w.heap.size, 2, none⟩ = some (.int .i64 0) := hR'.cell 2
  have r3 : W'.cell? ⟨w.heap.size, 3, none⟩ = some (.int .i64 0) := hR'.cell 3
  have r4 : W'.cell? ⟨w.heap.size, 4, none⟩ = some (.int .i64 0) := hR'.cell 4
  have f0 := hR'.frozen 0
  have f1 := hR'.frozen 1
  have f2 := hR'.frozen 2
  have f3 := hR'.frozen 3
  have f4 := hR'.frozen 4
  have l0 := hR'.lt
  have HV := Lib.hid (show keyV l = .agg #[.int .i64 l[0]!, .int .i64 l[1]!, .int .i64 l[2]!, .int .i64 l[3]!, .int .i64 l[4]!] from rfl)
  generalize l[0]! = x0 at *
  generalize l[1]! = x1 at *
  generalize l[2]! = x2 at *
  generalize l[3]! = x3 at *
  generalize l[4]! = x4 at *
  have HRUN := Lib.hid hrun
  clear hc hC hk hb hB hs hcs hR hR' hbw hrun
  go_enter Try.func59, Try.ntmps59
  go_wp2
  rw [HRUN.out]
  clear HRUN
  go_wp2
  refine bodyPost_ret (v := .agg #[.int .i64 x0, .int .i64 x1, .int .i64 x2, .int .i64 x3, .int .i64 x4]) (by simp [results, Try.results59, go_sem, r0, r1, r2, r3, r4]) rfl ⟨by rw [HV.out], ?_⟩
  exact HB.out.trans (by repeat (first | assumption | exact Below.refl _ _ | apply Below.drew | apply below_drewN | (refine Below.setCell ?_ (by dsimp only; omega) _)))
end Go.Proofs.Ytbedepmcecdhfaa
