/- Orders of bittern: the reference's order of casks. -/
import Derived.Test.YtcajgadgdjopdaaFillS
import Derived.Deep.RegionLaw
namespace Go.Proofs.Ytcajgadgdjopdaa
open Go.RowKit
theorem alloc_size (w : World) (o : Obj) : (w.alloc o).heap.size = w.heap.size + 1 := by simp
theorem bl_step1 {B : Nat} {a w : World} (h : Below B a w) (o : Obj) (hB : B ≤ w.heap.size := by omega) : Below B a (w.alloc o) := h.alloc hB o
theorem sl_tail {w w' : World} {g k c : Nat} {S : List Int} (h : Sl encInt w w.heap.size (some ⟨g, 0, none⟩) S) (hS : S.length = k) (hk : k ≤ c) (p : Nat) (hb : Below w.heap.size w w') : Sl encInt w' w.heap.size (if c = p then some ⟨g, 0, none⟩ else some ⟨g, p, none⟩) (S.drop p) := by
  split
  · exact Sl.nil_' (List.drop_eq_nil_of_le (by omega))
  · have := (h.drop_ p).below hb
    simpa [encInt] using this
theorem l1Own_any (l : List Int) (n : Nat) (hn : l.length = n) (A : Option Addr) (cap : Nat) (w : World) (hl : n ≤ 1048576) (hc : Sl encInt w w.heap.size A l) :
    Calls Try.prog 81 #[.slice A n cap] w fun e w' => ∃ v, e = .returned v ∧ Own encInt w' w.heap.size 3 v l ∧ Below w.heap.size w w' := by
  have HC := Lib.hid hc; clear hc
  obtain ⟨i0, hi, hz0, hz1, hz2⟩ := info_parts info_Int
  have HN := Lib.hid hn; clear hn
  go_enter Try.func81, Try.ntmps81
  go_wp2_with (at_builtin; refine wpList_app (E := encInt) _ rfl (.tmp 3) (.tmp 4) 63 rfl w.heap.size 3 i0 _ 8 Try.underlying63 hi hz0 hz1 hz2 rfl (by decide) (.slice (some ⟨w.heap.size, 0, none⟩) 0 0) [] rfl (Own.nil_ (Nat.le_refl _) _) _ A n cap l rfl HN.out (HC.out.past (bl_alloc (Below.refl _ _) _)) (by simp [maxLen]; omega) (by simp; omega) (by simp) ?_; intro v' w' ho hg _; have HO := Lib.hid ho; have HG := Lib.hid hg; clear ho hg)
  go_ret
  exact ⟨_, rfl, by simpa using HO.out, below_grown (bl_alloc (Below.refl _ _) _) HG.out (by intro k hk; simp [Value.ownBlock] at hk; omega)⟩
theorem Own.int {w : World} {base g n c i : Nat} {e : TypeId} {l : List Int} {x : Int} (h : Own encInt w base e (.slice (some ⟨g, 0, none⟩) n c) l) (hx : l[i]? = some x) :
    g < w.heap.size ∧ w.cell? ⟨g, i, none⟩ = some (.int .i64 x) := by
  obtain ⟨b, off, e', hb, hc⟩ := h.rd.int_ (by have := (List.getElem?_eq_some_iff.1 hx).1; omega)
  injection e' with e'
  injection e' with e1 e2
  subst e1 e2
  have := hc i x hx
  simp only [Nat.zero_add] at this
  exact ⟨hb, this⟩
/-! What serving comes to, grade after grade. -/
set_option maxRecDepth 4000 in
set_option maxHeartbeats 8000000 in
theorem l15Order_any (l : List Bittern) (n : Nat) (hn : l.length = n) (A : Option Addr) (cap : Nat) (w : World) (hl : n ≤ 1000) (hc : Sl encBittern w w.heap.size A l) :
    Calls Try.prog 54 #[.slice A n cap] w fun e w' => ∃ v, e = .returned v ∧ Own encInt w' w.heap.size 3 v (ordTo l n) ∧ Below w.heap.size w w' := by
  have HC := Lib.hid hc; clear hc
  have HN := Lib.hid hn; clear hn
  obtain ⟨i0, hinf, hz0, hz1, hz2⟩ := info_parts info_Int
  go_enter Try.func54, Try.ntmps54
  go_wp2
  go_loopw [3, 4] (fun u j wr => ∃ k g c : Nat, k ≤ n ∧ j = .int .i64 k ∧ u = .slice (some ⟨g, 0, none⟩) k c ∧ Own encInt wr w.heap.size 3 (.slice (some ⟨g, 0, none⟩) k c) (ordTo l k) ∧ Below w.heap.size w wr) (fun _ j _ => n - (intOf j).toNat)
  case atStart => exact ⟨0, _, _, Nat.zero_le _, rfl, rfl, Own.nil_ (Nat.le_refl _) _, bl_alloc (Below.refl _ _) _⟩
  case round =>
    obtain ⟨k, g, cu, hk, rfl, rfl, ho, hbel⟩ := hrel
    have HO := Lib.hid ho
    have HB := Lib.hid hbel
    have hz := hbel.size
    by_cases hlt : k < n
    · have hcu := ho.cap
      have hgo := ho.hi ⟨g, 0, none⟩ rfl
      have HLn := Lib.hid (ordTo_length l k)
      obtain ⟨bk, off, rfl, hb, hcs⟩ := HC.out.bittern (by rw [HN.out]; omega)
      have HCS := Lib.hid (show ∀ q : Nat, q < n → wr.cell? ⟨bk, off + q * 3 + 2, none⟩ = some (.int .i64 l[q]!.bitter) from fun q hq => by
        have hx : l[q]? = some (l[q]'(by rw [HN.out]; exact hq)) := List.getElem?_eq_getElem _
        rw [HB.out.cell hb, List.getElem!_of_getElem? hx]
        exact (hcs q _ hx).2.2)
      have HSS := Lib.hid (show ∀ j : Nat, j < k → ∃ q : Nat, q < k ∧ (ordTo l k)[j]? = some (q : Int) ∧ wr.cell? ⟨g, j, none⟩ = some (.int .i64 q) from fun j hj => by
        obtain ⟨q, h1, h2⟩ := ordTo_at (l := l) hj
        exact ⟨q, h1, h2, (HO.out.int h2).2⟩)
      clear hcs ho hbel
      have hbw : bk < wr.heap.size := by omega
      have k1 : (k : Int) < n := by omega
      have k2 : (0 : Int) ≤ k := by omega
      obtain ⟨wo, rfl⟩ : ∃ wo : World, wo = wr := ⟨_, rfl⟩
      go_wp2
      go_loopw [5] (fun j wr => ∃ p : Nat, p ≤ k ∧ j = .int .i64 p ∧ posDown (laterB l (ordTo l k) k) p = posDown (laterB l (ordTo l k) k) k ∧ Below wo.heap.size wo wr) (fun j _ => (intOf j).toNat)
      case atStart => exact ⟨k, Nat.le_refl _, rfl, rfl, Below.refl _ _⟩
      case round =>
        obtain ⟨p, hp, rfl, hpd, hb2⟩ := hrel
        have hz2' := hb2.size
        have HPD := Lib.hid hpd
        have HB2 := Lib.hid hb2
        clear hpd
        rcases (show p = 0 ∨ ∃ q, p = q + 1 from by rcases p with _ | q; exact .inl rfl; exact .inr ⟨q, rfl⟩) with hp0 | ⟨q, hpq⟩
        · have hn0 : decide ((0 : Int) < (p : Int)) = false := decide_eq_false (by omega)
          have hn1 : decide (0 < p) = false := decide_eq_false (by omega)
          have HPOS := Lib.hid (show posDown (laterB l (ordTo l k) k) k = p by rw [← HPD.out, hp0]; rfl)
          clear hp0
          go_wp2
          refine wp_region_gw (by kernel_rfl) (by kernel_rfl) ?_
          repeat (first | go_big_quiet_step ((fail)) | quiet_step ((fail)))
          refine wpQuiet_nil ?_
          rintro _ ⟨pq, rfl⟩
          go_wp2
          refine wp_name (fun W0 hW0 => ?_)
          have hB0 : Below wo.heap.size wo W0 := by rw [hW0]; exact (by repeat (first | assumption | exact Below.refl _ _ | apply bl_gw | apply bl_alloc | apply bl_drewN | apply bl_drew))
          have HOW := Lib.hid (HO.out.past hB0 (Nat.le_refl _))
          have HBW := Lib.hid (below_step HB.out hB0)
          have hz0' := HBW.out.size
          clear hW0 hB0
          have g1 : (p : Int) ≤ cu := by omega
          have g2 : (0 : Int) ≤ (p : Int) := by omega
          have g3 : (p : Int) ≤ k := by omega
          have g4 : ((p : Nat) : Int).toNat = p := by omega
          have HTk := Lib.hid (show ((ordTo l k).take (p)).length = p by rw [List.length_take, HLn.out]; omega)
          have HTd := Lib.hid (show ((ordTo l k).drop (p)).length = k - (p) by rw [List.length_drop, HLn.out])
          have HST := Lib.hid (HOW.out.rd.take (p))
          have BA := Lib.hid (show Below W0.heap.size W0 W0.drew from (by repeat (first | assumption | exact Below.refl _ _ | apply bl_gw | apply bl_alloc | apply bl_drewN | apply bl_drew)))
          have BB := Lib.hid (show Below W0.heap.size W0 (W0.alloc (.cells #[.int .i64 k] 3)).drew from (by repeat (first | assumption | exact Below.refl _ _ | apply bl_gw | apply bl_alloc | apply bl_drewN | apply bl_drew)))
          have KB := Lib.hid (show Blk ((W0.alloc (.cells #[.int .i64 k] 3)).drew) (W0.heap.size) 3 #[.int .i64 k] from (Blk.new W0 3 #[.int .i64 k]).past (bl_drew (Below.refl _ _)))
          have HPk := Lib.hid (show p ≤ 1048576 by omega)
          go_region_law (first
            | (refine step_app (E := encInt) rfl (.tmp 42) (.tmp 45) 63 rfl W0.heap.size 3 i0 _ 8 Try.underlying63 hinf hz0 hz1 hz2 rfl (by decide) v2 _ rfl O2.out W0.heap.size _ (k - (p)) (cu - (p)) ((ordTo l k).drop (p)) rfl HTd.out (sl_tail HOW.out.rd HLn.out hcu (p) B2.out) (by simp [maxLen, HTk.out]; omega) (by simp [HTk.out]; omega) B2.out.size ?_; intro v3 w3 o3 g3' d3; have O3 := Lib.hid o3; have B3 := Lib.hid (below_grownB B2.out g3' B2.out.size O2.out.row); clear o3 g3' d3)
            | (refine step_app (E := encInt) rfl (.tmp 39) (.tmp 41) 63 rfl W0.heap.size 3 i0 _ 8 Try.underlying63 hinf hz0 hz1 hz2 rfl (by decide) v1 _ rfl O1.out _ _ 1 1 [(k : Int)] rfl rfl (Own.sl (Own.build (n := 1) (base := 0) (Nat.zero_le _) K1.out rfl rfl (by decide))).2 (by simp [maxLen, HTk.out]; omega) (by simp [HTk.out]; omega) B1.out.size ?_; intro v2 w2 o2 g2' d2; have O2 := Lib.hid o2; have B2 := Lib.hid (below_grownB B1.out g2' B1.out.size O1.out.row); clear o2 g2' d2)
            | (refine step_app (E := encInt) rfl (.tmp 39) (.tmp 41) 63 rfl W0.heap.size 3 i0 _ 8 Try.underlying63 hinf hz0 hz1 hz2 rfl (by decide) v1 _ rfl (O1.out.past (bl_alloc (Below.refl _ _) _) (Nat.le_refl _)) _ _ 1 1 [(k : Int)] rfl rfl (Own.sl (Own.build (n := 1) (base := 0) (Nat.zero_le _) (Blk.new _ _ _) rfl rfl (by decide))).2 (by simp [maxLen, HTk.out]; omega) (by simp [HTk.out]; omega) (B1.out.alloc B1.out.size _).size ?_; intro v2 w2 o2 g2' d2; have O2 := Lib.hid o2; have B2 := Lib.hid (below_grownB (B1.out.alloc B1.out.size _) g2' (B1.out.alloc B1.out.size _).size O1.out.row); clear o2 g2' d2)
            | (go_simp; go_at_call 81; refine (l1Own_any ((ordTo l k).take (p)) (p) HTk.out _ _ _ HPk.out ((HST.out.below BA.out).more BA.out.size)).mono ?_; rintro e w1 ⟨v1, rfl, o1, b1⟩; have O1 := Lib.hid (o1.lower BA.out.size); have B1 := Lib.hid (below_step BA.out b1); clear o1 b1)
            | (go_simp; go_at_call 81; refine (l1Own_any ((ordTo l k).take (p)) (p) HTk.out _ _ _ HPk.out ((HST.out.below BB.out).more BB.out.size)).mono ?_; rintro e w1 ⟨v1, rfl, o1, b1⟩; have O1 := Lib.hid (o1.lower BB.out.size); have B1 := Lib.hid (below_step BB.out b1); have K1 := Lib.hid (KB.out.past b1); clear o1 b1))
          all_goals
            have o3 := O3.out
            have hE : ordTo l (k + 1) = ((ordTo l k).take (p) ++ [(k : Int)]) ++ (ordTo l k).drop (p) := by rw [ordTo, HPOS.out]; rfl
            rw [← hE] at o3
            obtain ⟨A3, c3, rfl, _, _, _⟩ := o3.slice
            rw [ordTo_length] at o3 ⊢
            obtain ⟨g3, rfl⟩ := o3.some_ (by omega)
            have O4 := Lib.hid (o3.lower (b := w.heap.size) hz0')
            have B4 := Lib.hid (HBW.out.trans (B3.out.mono hz0'))
            clear o3 hE
            go_wp2
            go_roundw
            case rel => exact ⟨k + 1, g3, c3, by omega, by go_num, rfl, O4.out, B4.out⟩
            case measure => simp [intOf]; omega
        · obtain ⟨s, hs1, hs2, hs3⟩ := HSS.out q (by omega)
          have c1 := HCS.out s (by omega)
          have c2 := HCS.out k (by omega)
          rw [← hb2.cell (p := ⟨g, q, none⟩) hgo] at hs3
          rw [← hb2.cell (by exact hbw)] at c1 c2
          have hla : laterB l (ordTo l k) k q = decide (l[k]!.bitter < l[s]!.bitter) := by
            rw [laterB, List.getElem!_of_getElem? hs2, Int.toNat_natCast]
          have hpd2 : posDown (laterB l (ordTo l k) k) p = if decide (l[k]!.bitter < l[s]!.bitter) then posDown (laterB l (ordTo l k) k) q else p := by
            rw [hpq, posDown, hla]
          have HPD2 := Lib.hid hpd2
          clear hla hs2 hpd2
          generalize l[k]!.bitter = u1 at *
          generalize l[s]!.bitter = u2 at *
          have n0 : decide ((0 : Int) < (p : Int)) = true := decide_eq_true (by omega)
          have n00 : decide (0 < p) = true := decide_eq_true (by omega)
          have n000 : 0 < p := by omega
          have n1 : IntKind.i64.wrap ((p : Int) - 1) = q := by rw [IntWalk.i64_in _ (by omega)]; omega
          have n3 : (q : Int) < k := by omega
          have n4 : (0 : Int) ≤ q := by omega
          have n5 : (s : Int) < n := by omega
          have n6 : (0 : Int) ≤ s := by omega
          have hbw2 : bk < wr.heap.size := by omega
          have hgw2 : g < wr.heap.size := by omega
          have hq1 : q + 1 ≤ k := by omega
          have HPQ := Lib.hid hpq
          clear hpq
          rcases sp1 (decide (u1 < u2)) with t1 | t1
          · have HPOS := Lib.hid (show posDown (laterB l (ordTo l k) k) k = p by rw [← HPD.out, HPD2.out, t1]; rfl)
            go_wp2
            refine wp_region_gw (by kernel_rfl) (by kernel_rfl) ?_
            repeat (first | go_big_quiet_step ((fail)) | quiet_step ((fail)))
            refine wpQuiet_nil ?_
            rintro _ ⟨pq, rfl⟩
            go_wp2
            refine wp_name (fun W0 hW0 => ?_)
            have hB0 : Below wo.heap.size wo W0 := by rw [hW0]; exact (by repeat (first | assumption | exact Below.refl _ _ | apply bl_gw | apply bl_alloc | apply bl_drewN | apply bl_drew))
            have HOW := Lib.hid (HO.out.past hB0 (Nat.le_refl _))
            have HBW := Lib.hid (below_step HB.out hB0)
            have hz0' := HBW.out.size
            clear hW0 hB0
            have g1 : (p : Int) ≤ cu := by omega
            have g2 : (0 : Int) ≤ (p : Int) := by omega
            have g3 : (p : Int) ≤ k := by omega
            have g4 : ((p : Nat) : Int).toNat = p := by omega
            have HTk := Lib.hid (show ((ordTo l k).take (p)).length = p by rw [List.length_take, HLn.out]; omega)
            have HTd := Lib.hid (show ((ordTo l k).drop (p)).length = k - (p) by rw [List.length_drop, HLn.out])
            have HST := Lib.hid (HOW.out.rd.take (p))
            have BA := Lib.hid (show Below W0.heap.size W0 W0.drew from (by repeat (first | assumption | exact Below.refl _ _ | apply bl_gw | apply bl_alloc | apply bl_drewN | apply bl_drew)))
            have BB := Lib.hid (show Below W0.heap.size W0 (W0.alloc (.cells #[.int .i64 k] 3)).drew from (by repeat (first | assumption | exact Below.refl _ _ | apply bl_gw | apply bl_alloc | apply bl_drewN | apply bl_drew)))
            have KB := Lib.hid (show Blk ((W0.alloc (.cells #[.int .i64 k] 3)).drew) (W0.heap.size) 3 #[.int .i64 k] from (Blk.new W0 3 #[.int .i64 k]).past (bl_drew (Below.refl _ _)))
            have HPk := Lib.hid (show p ≤ 1048576 by omega)
            go_region_law (first
              | (refine step_app (E := encInt) rfl (.tmp 42) (.tmp 45) 63 rfl W0.heap.size 3 i0 _ 8 Try.underlying63 hinf hz0 hz1 hz2 rfl (by decide) v2 _ rfl O2.out W0.heap.size _ (k - (p)) (cu - (p)) ((ordTo l k).drop (p)) rfl HTd.out (sl_tail HOW.out.rd HLn.out hcu (p) B2.out) (by simp [maxLen, HTk.out]; omega) (by simp [HTk.out]; omega) B2.out.size ?_; intro v3 w3 o3 g3' d3; have O3 := Lib.hid o3; have B3 := Lib.hid (below_grownB B2.out g3' B2.out.size O2.out.row); clear o3 g3' d3)
              | (refine step_app (E := encInt) rfl (.tmp 39) (.tmp 41) 63 rfl W0.heap.size 3 i0 _ 8 Try.underlying63 hinf hz0 hz1 hz2 rfl (by decide) v1 _ rfl O1.out _ _ 1 1 [(k : Int)] rfl rfl (Own.sl (Own.build (n := 1) (base := 0) (Nat.zero_le _) K1.out rfl rfl (by decide))).2 (by simp [maxLen, HTk.out]; omega) (by simp [HTk.out]; omega) B1.out.size ?_; intro v2 w2 o2 g2' d2; have O2 := Lib.hid o2; have B2 := Lib.hid (below_grownB B1.out g2' B1.out.size O1.out.row); clear o2 g2' d2)
              | (refine step_app (E := encInt) rfl (.tmp 39) (.tmp 41) 63 rfl W0.heap.size 3 i0 _ 8 Try.underlying63 hinf hz0 hz1 hz2 rfl (by decide) v1 _ rfl (O1.out.past (bl_alloc (Below.refl _ _) _) (Nat.le_refl _)) _ _ 1 1 [(k : Int)] rfl rfl (Own.sl (Own.build (n := 1) (base := 0) (Nat.zero_le _) (Blk.new _ _ _) rfl rfl (by decide))).2 (by simp [maxLen, HTk.out]; omega) (by simp [HTk.out]; omega) (B1.out.alloc B1.out.size _).size ?_; intro v2 w2 o2 g2' d2; have O2 := Lib.hid o2; have B2 := Lib.hid (below_grownB (B1.out.alloc B1.out.size _) g2' (B1.out.alloc B1.out.size _).size O1.out.row); clear o2 g2' d2)
              | (go_simp; go_at_call 81; refine (l1Own_any ((ordTo l k).take (p)) (p) HTk.out _ _ _ HPk.out ((HST.out.below BA.out).more BA.out.size)).mono ?_; rintro e w1 ⟨v1, rfl, o1, b1⟩; have O1 := Lib.hid (o1.lower BA.out.size); have B1 := Lib.hid (below_step BA.out b1); clear o1 b1)
              | (go_simp; go_at_call 81; refine (l1Own_any ((ordTo l k).take (p)) (p) HTk.out _ _ _ HPk.out ((HST.out.below BB.out).more BB.out.size)).mono ?_; rintro e w1 ⟨v1, rfl, o1, b1⟩; have O1 := Lib.hid (o1.lower BB.out.size); have B1 := Lib.hid (below_step BB.out b1); have K1 := Lib.hid (KB.out.past b1); clear o1 b1))
            all_goals
              have o3 := O3.out
              have hE : ordTo l (k + 1) = ((ordTo l k).take (p) ++ [(k : Int)]) ++ (ordTo l k).drop (p) := by rw [ordTo, HPOS.out]; rfl
              rw [← hE] at o3
              obtain ⟨A3, c3, rfl, _, _, _⟩ := o3.slice
              rw [ordTo_length] at o3 ⊢
              obtain ⟨g3, rfl⟩ := o3.some_ (by omega)
              have O4 := Lib.hid (o3.lower (b := w.heap.size) hz0')
              have B4 := Lib.hid (HBW.out.trans (B3.out.mono hz0'))
              clear o3 hE
              go_wp2
              go_roundw
              case rel => exact ⟨k + 1, g3, c3, by omega, by go_num, rfl, O4.out, B4.out⟩
              case measure => simp [intOf]; omega
          · have HPD3 := Lib.hid (show posDown (laterB l (ordTo l k) k) q = posDown (laterB l (ordTo l k) k) k by rw [← HPD.out, HPD2.out, t1]; rfl)
            go_wp2
            refine wp_region_gw (by kernel_rfl) (by kernel_rfl) ?_
            repeat (first | go_big_quiet_step ((fail)) | quiet_step ((fail)))
            refine wpQuiet_nil ?_
            rintro _ ⟨pq, rfl⟩
            go_wp2
            go_roundw
            case rel => exact ⟨q, by omega, by go_num, HPD3.out, (by repeat (first | assumption | exact Below.refl _ _ | apply bl_gw | apply bl_alloc | apply bl_drewN | apply bl_drew))⟩
            case measure => simp [intOf, HPQ.out]
    · go_wp2
      go_ret
      obtain rfl : k = n := by omega
      exact ⟨_, rfl, ho, hbel⟩
end Go.Proofs.Ytcajgadgdjopdaa
