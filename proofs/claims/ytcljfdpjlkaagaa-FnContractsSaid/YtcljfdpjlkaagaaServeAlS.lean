/- Contracts: serving all, by the reference. -/
import Derived.Test.YtcljfdpjlkaagaaServeAll
namespace Go.Proofs.Ytcljfdpjlkaagaa
open Go.RowKit
theorem own_mk {base n : Nat} {w : World} (hb : base ≤ w.heap.size) (hn : n ≤ maxLen) : Own encInt (w.alloc (.cells (madeCells #[.int .i64 0] n) 3)) base 3 (.slice (some ⟨w.heap.size, 0, none⟩) n n) (List.replicate n 0) :=
  Own.build hb (Blk.new _ _ _) (by rw [toList_madeCells_one]; simp [flat, encInt, List.flatMap_replicate]) (by simp) hn
theorem own_nil2 {base : Nat} {w : World} (hb : base ≤ w.heap.size) (o : Obj) : Own encInt ((w.alloc o).alloc (.cells #[] 3)) base 3 (.slice (some ⟨w.heap.size + 1, 0, none⟩) 0 0) [] := by
  have q := Own.nil_ (E := encInt) (w := w.alloc o) (base := base) (by simp; omega) 3
  rw [alloc_size] at q
  exact q
set_option maxRecDepth 4000 in
set_option maxHeartbeats 8000000 in
theorem spec_ServeAll_any (s : List Int) (l : List Contract) (m n : Nat) (hm : s.length = m) (hn : l.length = n) (A A' : Option Addr) (cap cap' : Nat) (w : World) (hl' : m ≤ 1048576) (hl : n ≤ 1048576) (hc : Sl encInt w w.heap.size A s) (hd : Sl encContract w w.heap.size A' l) :
    Calls Try.prog 42 #[.slice A m cap, .slice A' n cap'] w fun e w' => ∃ v u, e = .returned (.tuple #[v, u, .bool (allOK s l)]) ∧ Own encInt w' w.heap.size 3 v (allS s l) ∧ Own encInt w' w.heap.size 3 u (allG s l) ∧ Below w.heap.size w w' := by
  have HC := Lib.hid hc; clear hc
  have HD := Lib.hid hd; clear hd
  have HN := Lib.hid hn; clear hn
  have HM := Lib.hid hm; clear hm
  rcases sp2 (stockOK s) (areContracts l) with t1 | ⟨t1, t2⟩ | ⟨t1, t2⟩
  · have hq : allOK s l = false := by simp [allOK, t1]
    have hp : allS s l = [] := by simp [allS, hq]
    have hp' : allG s l = [] := by simp [allG, hq]
    rw [hq, hp, hp']
    clear hq hp hp'
    go_enter Try.func42, Try.ntmps42
    go_wp2_with fail
    refine (l18Stock_any s m HM.out _ _ _ hl' HC.out).mono ?_
    rintro e w1 ⟨rfl, b1⟩
    rw [t1]
    have B1 := Lib.hid b1
    have D1 := Lib.hid (HD.out.past b1)
    clear b1
    go_wp2
    go_ret3
    exact ⟨_, _, rfl, (Own.nil_ (w := w1) B1.out.size _).past (bl_alloc (Below.refl _ _) _) (Nat.le_refl _), own_nil2 B1.out.size _, bl_alloc (bl_alloc B1.out _) _⟩
  · have hq : allOK s l = false := by simp [allOK, t2]
    have hp : allS s l = [] := by simp [allS, hq]
    have hp' : allG s l = [] := by simp [allG, hq]
    rw [hq, hp, hp']
    clear hq hp hp'
    go_enter Try.func42, Try.ntmps42
    go_wp2_with fail
    refine (l18Stock_any s m HM.out _ _ _ hl' HC.out).mono ?_
    rintro e w1 ⟨rfl, b1⟩
    rw [t1]
    have B1 := Lib.hid b1
    have D1 := Lib.hid (HD.out.past b1)
    clear b1
    go_wp2_with fail
    refine (l18Good_any l n HN.out _ _ _ hl D1.out).mono ?_
    rintro e w2 ⟨rfl, b2⟩
    rw [t2]
    have B2 := Lib.hid (below_step B1.out b2)
    have C2 := Lib.hid (HC.out.past B2.out)
    have D2 := Lib.hid (HD.out.past B2.out)
    clear b2
    go_wp2
    go_ret3
    exact ⟨_, _, rfl, (Own.nil_ (w := w2) B2.out.size _).past (bl_alloc (Below.refl _ _) _) (Nat.le_refl _), own_nil2 B2.out.size _, bl_alloc (bl_alloc B2.out _) _⟩
  · have hq : allOK s l = true := by simp [allOK, t1, t2]
    have HQ := Lib.hid hq
    have HPS := Lib.hid (show allS s l = (srvTo s l n).1 by rw [allS, if_pos hq, HN.out])
    have HPG := Lib.hid (show allG s l = (srvTo s l n).2 by rw [allG, if_pos hq, HN.out])
    clear hq
    have HST := Lib.hid (stockOK_in t1)
    have HOK := Lib.hid (show ∀ (i : Nat) (x : Contract), l[i]? = some x → contractOK x = true from fun i x hx => areContracts_ok t2 hx)
    have hn10 : n ≤ 10 := by have := areContracts_len t2; rw [HN.out] at this; exact this
    have HM4 := Lib.hid (show m = 4 by rw [← HM.out]; exact HST.out.1)
    obtain ⟨i0, hinf, hz0, hz1, hz2⟩ := info_parts info_Int
    go_enter Try.func42, Try.ntmps42
    go_wp2_with fail
    refine (l18Stock_any s m HM.out _ _ _ hl' HC.out).mono ?_
    rintro e w1 ⟨rfl, b1⟩
    rw [t1]
    have B1 := Lib.hid b1
    have D1 := Lib.hid (HD.out.past b1)
    clear b1
    go_wp2_with fail
    refine (l18Good_any l n HN.out _ _ _ hl D1.out).mono ?_
    rintro e w2 ⟨rfl, b2⟩
    rw [t2]
    have B2 := Lib.hid (below_step B1.out b2)
    have C2 := Lib.hid (HC.out.past B2.out)
    have D2 := Lib.hid (HD.out.past B2.out)
    clear b2
    clear t1 t2
    have hm4 := HM4.out
    clear HM4
    subst hm4
    have hmk : ∀ w, (Instr.makeSlice 35 (.int .i64 n) (.int .i64 n)).run Try.prog w = .ok (.slice (some ⟨w.heap.size, 0, none⟩) n n) (w.alloc (.cells (madeCells #[.int .i64 0] n) 3)) := fun w => by
      have := run_make (P := Try.prog) w 35 3 i0 _ Try.underlying35 hinf hz0 .i64 .i64 n n (by omega) (Int.le_refl _) (by rw [hz2]; omega) (by omega)
      rw [hz1, Nat.mul_one, Int.toNat_natCast] at this
      exact this
    go_wp2
    go_region_with (go_at_call 72; refine (l1Own_any s 4 HM.out _ _ _ (by omega) (C2.out.past (by repeat (first | assumption | exact Below.refl _ _ | apply bl_gw | apply bl_alloc | apply bl_drewN | apply bl_drew)))).mono ?_; rintro e w3 ⟨v3, rfl, o3, b3⟩; have O3 := Lib.hid o3; have B3 := Lib.hid b3; clear o3 b3)
    · have o3 := O3.out
      have b3 := B3.out
      have hz2 := B2.out.size
      have P4 := Lib.hid ((o3.lower (b := w.heap.size) (by simpa using hz2)).past (bl_alloc (Below.refl _ _) (.cells (madeCells #[.int .i64 0] n) 3)) (Nat.le_refl _))
      have hb3 := Lib.hid (below_step B2.out (show Below w2.heap.size w2 w3 from (bl_drew (Below.refl w2.heap.size w2)).trans (b3.mono (by simp))))
      have O4 := Lib.hid (own_mk (n := n) (w := w3) (base := w.heap.size) hb3.out.size (by unfold maxLen; omega))
      have B4 := Lib.hid (bl_alloc hb3.out (.cells (madeCells #[.int .i64 0] n) 3))
      have NE4 := Lib.hid (show ∀ (A : Option Addr) (q c : Nat), v3 = .slice A q c → (Value.slice A q c).ownBlock ≠ some w3.heap.size from fun A q c e h => by
        subst e
        have := o3.blkLt h
        omega)
      have hz4 := hb3.out.size
      have hz5 := B4.out.size
      obtain ⟨gg, hgg⟩ : ∃ gg, w3.heap.size = gg := ⟨_, rfl⟩
      have hgx : gg < (w3.alloc (.cells (madeCells #[.int .i64 0] n) 3)).heap.size := by rw [← hgg]; simp
      rw [hgg] at O4 NE4 hz4 ⊢
      have hgg0 : w.heap.size ≤ gg := hz4
      obtain ⟨w4, hw4⟩ : ∃ w4, w3.alloc (.cells (madeCells #[.int .i64 0] n) 3) = w4 := ⟨_, rfl⟩
      rw [hw4] at P4 O4 B4 hgx ⊢
      clear o3 b3 hmk hb3 hgg hw4 O3 B3 hz5 hz4 hz2
      obtain ⟨A3, c3, rfl, _, _, _⟩ := P4.out.slice
      have P4' := P4.out
      rw [HM.out] at P4' ⊢
      have NE6 := Lib.hid (show (Value.slice A3 4 c3).ownBlock ≠ some gg from NE4.out A3 4 c3 (by rw [← HM.out]))
      have hx4 := P4'
      go_wp2_with fail
      refine (l18Order_any l n HN.out _ _ _ (by omega) (HD.out.past B4.out)).mono ?_
      rintro e w6 ⟨v6, rfl, o6, b6⟩
      obtain ⟨A6, c6, rfl, _, _, _⟩ := o6.slice
      rw [ordTo_length] at o6 ⊢
      have O6 := Lib.hid (o6.lower B4.out.size)
      have HNE := Lib.hid (show (Value.slice A6 n c6).ownBlock ≠ some gg from fun h => by have := o6.row _ h; omega)
      have G6 := Lib.hid (O4.out.past b6 (Nat.le_refl _))
      have P6 := Lib.hid (P4'.past b6 (Nat.le_refl _))
      have B6 := Lib.hid (below_step B4.out b6)
      clear o6 b6 P4' hx4
      go_wp2
      go_loopw [7, 10] (fun u j wr => ∃ (k : Nat) (Ak : Option Addr) (ck : Nat), k ≤ n ∧ j = .int .i64 k ∧ u = .slice Ak 4 ck ∧ Own encInt wr w.heap.size 3 (.slice Ak 4 ck) (srvTo s l k).1 ∧ Own encInt wr w.heap.size 3 (.slice (some ⟨gg, 0, none⟩) n n) (srvTo s l k).2 ∧ Own encInt wr w.heap.size 3 (.slice A6 n c6) (ordTo l n) ∧ (Value.slice Ak 4 ck).ownBlock ≠ some gg ∧ Below w.heap.size w wr) (fun _ j _ => n - (intOf j).toNat)
      case atStart => exact ⟨0, _, _, Nat.zero_le _, rfl, rfl, P6.out, by have := G6.out; rw [← HN.out] at this ⊢; exact this, O6.out, NE6.out, B6.out⟩
      case round =>
        obtain ⟨k, Ak, ck, hk, rfl, rfl, hS, hG, hO, hne, hbel⟩ := hrel
        have HB := Lib.hid hbel
        have hbz := hbel.size
        clear hbel
        by_cases hlt : k < n
        · obtain ⟨q, hqn, hoq⟩ := ordTo_at (l := l) (k := n) (j := k) hlt
          have hx : l[q]? = some (l[q]'(by rw [HN.out]; exact hqn)) := List.getElem?_eq_getElem _
          have hsu := srvTo_succ (s := s) HN.out hoq hx
          obtain ⟨bk, off, rfl, hb, hcs⟩ := HD.out.contract (by rw [HN.out]; omega)
          generalize l[q]'(by rw [HN.out]; exact hqn) = x at hx hsu
          obtain ⟨c0, c1, c2, c3, c4, c5, c6⟩ := hcs q x hx
          obtain ⟨_, ⟨g1, g4⟩, ht, _⟩ := contractOK_at (HOK.out q _ hx)
          clear hcs hx
          obtain ⟨id, g, t, pr, fr, un, fi⟩ := x
          dsimp only at c0 c1 c2 c3 c4 c5 c6 g1 g4 ht
          obtain ⟨gr, rfl⟩ : ∃ gr : Nat, g = gr := ⟨g.toNat, by omega⟩
          obtain ⟨hst, hgl, _⟩ := srvTo_in HST.out HOK.out k (by rw [HN.out]; omega)
          obtain ⟨S, G, hSG⟩ : ∃ S G, srvTo s l k = (S, G) := ⟨_, _, rfl⟩
          rw [hSG] at hsu hst hgl hS hG
          dsimp only at hsu hst hgl hS hG
          have hsu' : srvTo s l (k + 1) = ((serveTo t gr S gr).1, G.set q (serveTo t gr S gr).2) := hsu
          have HSU := Lib.hid hsu'
          have HSI := Lib.hid hst
          rw [← HB.out.cell hb] at c0 c1 c2 c3 c4 c5 c6
          have hbw : bk < wr.heap.size := by omega
          have k1 : (k : Int) < n := by omega
          have k2 : (0 : Int) ≤ k := by omega
          have k3 : (q : Int) < n := by omega
          have k4 : (0 : Int) ≤ q := by omega
          obtain ⟨god, rfl⟩ := hO.some_ (show 0 < n by omega)
          obtain ⟨_, d0⟩ := hO.int hoq
          have HSo := Lib.hid hS
          have HGo := Lib.hid hG
          have HOo := Lib.hid hO
          have hggw := hG.hi ⟨gg, 0, none⟩ rfl
          have HOQ := Lib.hid hoq
          clear hsu hsu' hst hS hG hO hoq hgl hSG
          go_wp2_with fail
          refine (l18Serve_any S HSI.out _ _ id t pr fr un fi gr _ (by omega) (by omega) (by omega) HSo.out.rd).mono ?_
          rintro e w5 ⟨v5, rfl, o5, b5⟩
          obtain ⟨A5, cc5, rfl, _, _, _⟩ := o5.slice
          have hl5 : (serveTo t gr S gr).1.length = 4 := (serveTo_in (t := t) (g := gr) (by omega) (by omega) HSI.out gr (Nat.le_refl _)).1.1
          rw [hl5] at o5 ⊢
          have hne5 : (Value.slice A5 4 cc5).ownBlock ≠ some gg := fun h => by have := o5.row _ h; omega
          have O5 := Lib.hid (o5.lower hbz)
          have G5 := Lib.hid (HGo.out.past b5 (Nat.le_refl _))
          have R5 := Lib.hid (HOo.out.past b5 (Nat.le_refl _))
          have B5 := Lib.hid (below_step HB.out b5)
          have NE5 := Lib.hid hne5
          have d5 := (R5.out.int HOQ.out).2
          clear o5 b5 hne5 hl5
          have hx5 : G[q]? = some (G[q]'(by have := G5.out.len; omega)) := List.getElem?_eq_getElem _
          obtain ⟨hgg5, e5⟩ := G5.out.int hx5
          have f5 := G5.out.thaw q
          clear hx5
          generalize (serveTo t gr S gr).2 = gv at *
          go_wp2
          go_roundw
          case rel => exact ⟨k + 1, _, _, by omega, by go_num, rfl, by rw [HSU.out]; exact O5.out.far NE5.out _, by rw [HSU.out]; exact G5.out.setInt hqn _, R5.out.far HNE.out _, NE5.out, B5.out.setCell (p := ⟨gg, q, none⟩) hgg0 _⟩
          case measure => simp [intOf]; omega
        · obtain rfl : k = n := by omega
          go_wp2
          go_ret3
          rw [HQ.out, HPS.out, HPG.out]
          exact ⟨_, _, rfl, hS, hG, HB.out⟩
    · have o3 := O3.out
      have b3 := B3.out
      have hz2 := B2.out.size
      have P4 := Lib.hid (o3.lower (b := w.heap.size) (by simp; omega))
      have hb2 := Lib.hid (bl_drew (bl_alloc (Below.refl w2.heap.size w2) (.cells (madeCells #[.int .i64 0] n) 3)))
      have hb3 := Lib.hid (below_step B2.out (show Below w2.heap.size w2 w3 from hb2.out.trans (b3.mono (by simp))))
      have O4 := Lib.hid (((own_mk (n := n) (w := w2) (base := w.heap.size) hz2 (by unfold maxLen; omega)).past (bl_drew (Below.refl _ _)) (Nat.le_refl _)).past b3 (Nat.le_refl _))
      have B4 := Lib.hid hb3.out
      have NE4 := Lib.hid (show ∀ (A : Option Addr) (q c : Nat), v3 = .slice A q c → (Value.slice A q c).ownBlock ≠ some w2.heap.size from fun A q c e h => by
        subst e
        have := o3.row _ h
        simp at this
        omega)
      have hgx : w2.heap.size < w3.heap.size := by have := b3.size; simp at this; omega
      obtain ⟨gg, hgg⟩ : ∃ gg, w2.heap.size = gg := ⟨_, rfl⟩
      rw [hgg] at O4 NE4 hgx hz2 ⊢
      have hgg0 : w.heap.size ≤ gg := hz2
      obtain ⟨w4, hw4⟩ : ∃ w4, w3 = w4 := ⟨_, rfl⟩
      subst hw4
      clear o3 b3 hmk hb2 hb3 hgg O3 B3 hz2
      obtain ⟨A3, c3, rfl, _, _, _⟩ := P4.out.slice
      have P4' := P4.out
      rw [HM.out] at P4' ⊢
      have NE6 := Lib.hid (show (Value.slice A3 4 c3).ownBlock ≠ some gg from NE4.out A3 4 c3 (by rw [← HM.out]))
      have hx4 := P4'
      go_wp2_with fail
      refine (l18Order_any l n HN.out _ _ _ (by omega) (HD.out.past B4.out)).mono ?_
      rintro e w6 ⟨v6, rfl, o6, b6⟩
      obtain ⟨A6, c6, rfl, _, _, _⟩ := o6.slice
      rw [ordTo_length] at o6 ⊢
      have O6 := Lib.hid (o6.lower B4.out.size)
      have HNE := Lib.hid (show (Value.slice A6 n c6).ownBlock ≠ some gg from fun h => by have := o6.row _ h; omega)
      have G6 := Lib.hid (O4.out.past b6 (Nat.le_refl _))
      have P6 := Lib.hid (P4'.past b6 (Nat.le_refl _))
      have B6 := Lib.hid (below_step B4.out b6)
      clear o6 b6 P4' hx4
      go_wp2
      go_loopw [7, 10] (fun u j wr => ∃ (k : Nat) (Ak : Option Addr) (ck : Nat), k ≤ n ∧ j = .int .i64 k ∧ u = .slice Ak 4 ck ∧ Own encInt wr w.heap.size 3 (.slice Ak 4 ck) (srvTo s l k).1 ∧ Own encInt wr w.heap.size 3 (.slice (some ⟨gg, 0, none⟩) n n) (srvTo s l k).2 ∧ Own encInt wr w.heap.size 3 (.slice A6 n c6) (ordTo l n) ∧ (Value.slice Ak 4 ck).ownBlock ≠ some gg ∧ Below w.heap.size w wr) (fun _ j _ => n - (intOf j).toNat)
      case atStart => exact ⟨0, _, _, Nat.zero_le _, rfl, rfl, P6.out, by have := G6.out; rw [← HN.out] at this ⊢; exact this, O6.out, NE6.out, B6.out⟩
      case round =>
        obtain ⟨k, Ak, ck, hk, rfl, rfl, hS, hG, hO, hne, hbel⟩ := hrel
        have HB := Lib.hid hbel
        have hbz := hbel.size
        clear hbel
        by_cases hlt : k < n
        · obtain ⟨q, hqn, hoq⟩ := ordTo_at (l := l) (k := n) (j := k) hlt
          have hx : l[q]? = some (l[q]'(by rw [HN.out]; exact hqn)) := List.getElem?_eq_getElem _
          have hsu := srvTo_succ (s := s) HN.out hoq hx
          obtain ⟨bk, off, rfl, hb, hcs⟩ := HD.out.contract (by rw [HN.out]; omega)
          generalize l[q]'(by rw [HN.out]; exact hqn) = x at hx hsu
          obtain ⟨c0, c1, c2, c3, c4, c5, c6⟩ := hcs q x hx
          obtain ⟨_, ⟨g1, g4⟩, ht, _⟩ := contractOK_at (HOK.out q _ hx)
          clear hcs hx
          obtain ⟨id, g, t, pr, fr, un, fi⟩ := x
          dsimp only at c0 c1 c2 c3 c4 c5 c6 g1 g4 ht
          obtain ⟨gr, rfl⟩ : ∃ gr : Nat, g = gr := ⟨g.toNat, by omega⟩
          obtain ⟨hst, hgl, _⟩ := srvTo_in HST.out HOK.out k (by rw [HN.out]; omega)
          obtain ⟨S, G, hSG⟩ : ∃ S G, srvTo s l k = (S, G) := ⟨_, _, rfl⟩
          rw [hSG] at hsu hst hgl hS hG
          dsimp only at hsu hst hgl hS hG
          have hsu' : srvTo s l (k + 1) = ((serveTo t gr S gr).1, G.set q (serveTo t gr S gr).2) := hsu
          have HSU := Lib.hid hsu'
          have HSI := Lib.hid hst
          rw [← HB.out.cell hb] at c0 c1 c2 c3 c4 c5 c6
          have hbw : bk < wr.heap.size := by omega
          have k1 : (k : Int) < n := by omega
          have k2 : (0 : Int) ≤ k := by omega
          have k3 : (q : Int) < n := by omega
          have k4 : (0 : Int) ≤ q := by omega
          obtain ⟨god, rfl⟩ := hO.some_ (show 0 < n by omega)
          obtain ⟨_, d0⟩ := hO.int hoq
          have HSo := Lib.hid hS
          have HGo := Lib.hid hG
          have HOo := Lib.hid hO
          have hggw := hG.hi ⟨gg, 0, none⟩ rfl
          have HOQ := Lib.hid hoq
          clear hsu hsu' hst hS hG hO hoq hgl hSG
          go_wp2_with fail
          refine (l18Serve_any S HSI.out _ _ id t pr fr un fi gr _ (by omega) (by omega) (by omega) HSo.out.rd).mono ?_
          rintro e w5 ⟨v5, rfl, o5, b5⟩
          obtain ⟨A5, cc5, rfl, _, _, _⟩ := o5.slice
          have hl5 : (serveTo t gr S gr).1.length = 4 := (serveTo_in (t := t) (g := gr) (by omega) (by omega) HSI.out gr (Nat.le_refl _)).1.1
          rw [hl5] at o5 ⊢
          have hne5 : (Value.slice A5 4 cc5).ownBlock ≠ some gg := fun h => by have := o5.row _ h; omega
          have O5 := Lib.hid (o5.lower hbz)
          have G5 := Lib.hid (HGo.out.past b5 (Nat.le_refl _))
          have R5 := Lib.hid (HOo.out.past b5 (Nat.le_refl _))
          have B5 := Lib.hid (below_step HB.out b5)
          have NE5 := Lib.hid hne5
          have d5 := (R5.out.int HOQ.out).2
          clear o5 b5 hne5 hl5
          have hx5 : G[q]? = some (G[q]'(by have := G5.out.len; omega)) := List.getElem?_eq_getElem _
          obtain ⟨hgg5, e5⟩ := G5.out.int hx5
          have f5 := G5.out.thaw q
          clear hx5
          generalize (serveTo t gr S gr).2 = gv at *
          go_wp2
          go_roundw
          case rel => exact ⟨k + 1, _, _, by omega, by go_num, rfl, by rw [HSU.out]; exact O5.out.far NE5.out _, by rw [HSU.out]; exact G5.out.setInt hqn _, R5.out.far HNE.out _, NE5.out, B5.out.setCell (p := ⟨gg, q, none⟩) hgg0 _⟩
          case measure => simp [intOf]; omega
        · obtain rfl : k = n := by omega
          go_wp2
          go_ret3
          rw [HQ.out, HPS.out, HPG.out]
          exact ⟨_, _, rfl, hS, hG, HB.out⟩
end Go.Proofs.Ytcljfdpjlkaagaa
