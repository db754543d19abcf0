/- Walks of ships: late ships and the rota of the quay. -/
import Derived.Test.YtggdcjajiaeklaaShipU
namespace Go.Proofs.Ytggdcjajiaeklaa
open Go.RowKit
def lateTo (S : List Ship) (k : Nat) : List Int := loopTo (fun i acc => if S[i]!.loaded < S[i]!.holds then acc ++ [S[i]!.id] else acc) [] k
theorem lateTo_succ (S : List Ship) (k : Nat) : lateTo S (k + 1) = if S[k]!.loaded < S[k]!.holds then lateTo S k ++ [S[k]!.id] else lateTo S k := rfl
theorem lateTo_length (S : List Ship) : ∀ k, (lateTo S k).length ≤ k
  | 0 => Nat.le_refl _
  | k + 1 => by have := lateTo_length S k; rw [lateTo_succ]; split <;> simp <;> omega
def lateP (l : List Ship) (wt : List Int) : List Int := if rotaOK l wt then lateTo (rotaS l wt wt.length) l.length else []
def ridAt (l : List Ship) (b : Int) : Int := if b < 0 then 0 else l[b.toNat]!.id
def ridTo (l : List Ship) (D : List Int) (k : Nat) : List Int := loopTo (fun i acc => acc ++ [ridAt l D[i]!]) [] k
theorem ridTo_succ (l : List Ship) (D : List Int) (k : Nat) : ridTo l D (k + 1) = ridTo l D k ++ [ridAt l D[k]!] := rfl
theorem ridTo_length (l : List Ship) (D : List Int) : ∀ k, (ridTo l D k).length = k
  | 0 => rfl
  | k + 1 => by rw [ridTo_succ, List.length_append, ridTo_length l D k]; rfl
def quayP (l : List Ship) (wt : List Int) : List Int := if rotaOK l wt then ridTo l (rotaD l wt wt.length) wt.length else []
theorem rotaOK_len {l : List Ship} {wt : List Int} (h : rotaOK l wt = true) : l.length ≤ 8 ∧ wt.length ≤ 400 := by
  simp only [rotaOK, Bool.and_eq_true] at h
  exact ⟨areShips_len h.1, areWaters_len h.2⟩
theorem lateP_length (l : List Ship) (wt : List Int) : (lateP l wt).length ≤ 1000000 := by
  unfold lateP
  split
  · rename_i h
    have := rotaOK_len h
    have := lateTo_length (rotaS l wt wt.length) l.length
    omega
  · simp
theorem quayP_length (l : List Ship) (wt : List Int) : (quayP l wt).length ≤ 1000000 := by
  unfold quayP
  split
  · rename_i h
    have := rotaOK_len h
    rw [ridTo_length]
    omega
  · simp
theorem rotaD_get (l : List Ship) (wt : List Int) : ∀ m k, k < m → (rotaD l wt m)[k]? = some (rotaB l wt k)
  | 0, k, h => by omega
  | m + 1, k, h => by
    rw [rotaD]
    by_cases hk : k < m
    · rw [List.getElem?_append_left (by rw [rotaD_length]; exact hk)]
      exact rotaD_get l wt m k hk
    · obtain rfl : k = m := by omega
      rw [List.getElem?_append_right (by rw [rotaD_length]; exact Nat.le_refl _), rotaD_length]
      simp
set_option maxRecDepth 4000 in
set_option maxHeartbeats 8000000 in
theorem impl_LateShips_any (l : List Ship) (wt : List Int) (n m : Nat) (hn : l.length = n) (hm : wt.length = m) (A A' : Option Addr) (cap cap' : Nat) (w : World) (hcap : n ≤ cap) (hl : n ≤ 1048576) (hl' : m ≤ 1048576) (hc : Sl encShip w w.heap.size A l) (hd : Sl encInt w w.heap.size A' wt) :
    Calls Try.prog 41 #[.slice A n cap, .slice A' m cap'] w fun e w' => ∃ v, e = .returned (.tuple #[v, .bool (rotaOK l wt)]) ∧ Own encInt w' w.heap.size 3 v (lateP l wt) ∧ Below w.heap.size w w' := by
  have HC := Lib.hid hc; clear hc
  have HD := Lib.hid hd; clear hd
  have HN := Lib.hid hn; clear hn
  have HM := Lib.hid hm; clear hm
  have hb00 : Below w.heap.size w w := (by repeat (first | assumption | exact Below.refl _ _ | apply bl_gw | apply bl_alloc | apply bl_drewN | apply bl_drew))
  have ho00 : Own encInt w w.heap.size 3 (.slice none 0 0) [] := Own.none_
  have OO := Lib.hid ho00
  have BB := Lib.hid hb00
  clear ho00 hb00
  rcases sp2 (areShips l) (areWaters wt) with t1 | ⟨t1, t2⟩ | ⟨t1, t2⟩
  · have hq : rotaOK l wt = false := by simp [rotaOK, t1]
    have hp : lateP l wt = [] := by simp [lateP, hq]
    rw [hq, hp]
    clear hq hp
    go_enter Try.func41, Try.ntmps41
    go_wp2_with fail
    refine (impl_AreShips_any l n HN.out _ _ _ hcap hl (HC.out.past BB.out)).mono ?_
    rintro e w1 ⟨rfl, b1⟩
    rw [t1]
    have OO1 := Lib.hid (OO.out.past b1 (Nat.le_refl _))
    have B1 := Lib.hid (below_step BB.out b1)
    go_wp2
    go_ret2
    exact ⟨_, rfl, Own.none_, B1.out⟩
  · have hq : rotaOK l wt = false := by simp [rotaOK, t2]
    have hp : lateP l wt = [] := by simp [lateP, hq]
    rw [hq, hp]
    clear hq hp
    go_enter Try.func41, Try.ntmps41
    go_wp2_with fail
    refine (impl_AreShips_any l n HN.out _ _ _ hcap hl (HC.out.past BB.out)).mono ?_
    rintro e w1 ⟨rfl, b1⟩
    rw [t1]
    have OO1 := Lib.hid (OO.out.past b1 (Nat.le_refl _))
    have B1 := Lib.hid (below_step BB.out b1)
    have D1 := Lib.hid (HD.out.past B1.out)
    go_wp2_with fail
    refine (impl_areWaters_any wt m HM.out _ _ _ hl' D1.out).mono ?_
    rintro e w2 ⟨rfl, b2⟩
    rw [t2]
    have OO2 := Lib.hid (OO1.out.past b2 (Nat.le_refl _))
    have B2 := Lib.hid (below_step B1.out b2)
    go_wp2
    go_ret2
    exact ⟨_, rfl, Own.none_, B2.out⟩
  · have hq : rotaOK l wt = true := by simp [rotaOK, t1, t2]
    obtain ⟨S, hS⟩ : ∃ S, rotaS l wt m = S := ⟨_, rfl⟩
    have hp : lateP l wt = lateTo S n := by simp [lateP, hq, HM.out, HN.out, hS]
    rw [hq, hp]
    have HE := Lib.hid hS
    clear hq hp hS
    have HT1 := Lib.hid t1
    have hm4 : m ≤ 400 := by have := areWaters_len t2; rw [HM.out] at this; exact this
    have hn8 : n ≤ 8 := by have := areShips_len t1; rw [HN.out] at this; exact this
    obtain ⟨i0, hinf, hz0, hz1, hz2⟩ := info_parts info_Int
    go_enter Try.func41, Try.ntmps41
    go_wp2_with fail
    refine (impl_AreShips_any l n HN.out _ _ _ hcap hl (HC.out.past BB.out)).mono ?_
    rintro e w1 ⟨rfl, b1⟩
    rw [t1]
    have B1 := Lib.hid (below_step BB.out b1)
    have D1 := Lib.hid (HD.out.past B1.out)
    have BB1 := Lib.hid b1
    clear b1
    go_wp2_with fail
    refine (impl_areWaters_any wt m HM.out _ _ _ hl' D1.out).mono ?_
    rintro e w2 ⟨rfl, b2⟩
    rw [t2]
    have B2 := Lib.hid (below_step B1.out b2)
    have C2 := Lib.hid (HC.out.past B2.out)
    have D2 := Lib.hid (HD.out.past B2.out)
    have BB2 := Lib.hid (below_step BB1.out b2)
    clear b2
    go_wp2_with fail
    refine (rota_any l wt n m HN.out HM.out _ _ _ _ _ (fun i x hx => areShips_ok HT1.out hx) hl hm4 C2.out D2.out).mono ?_
    rintro e w3 ⟨vs, vd, rfl, os, od, b3⟩
    obtain ⟨As, cs, rfl, _, _, _⟩ := os.slice
    obtain ⟨Ad, cd, rfl, _, _, _⟩ := od.slice
    rw [rotaS_length, HN.out] at os ⊢
    rw [rotaD_length] at od ⊢
    have OS := Lib.hid os
    have OD := Lib.hid od
    have B3 := Lib.hid (below_step B2.out b3)
    have BB3 := Lib.hid (below_step BB2.out b3)
    clear os od b3
    clear t1 t2
    have OO3 := Lib.hid (OO.out.past BB3.out (Nat.le_refl _))
    rw [HE.out] at OS
    have HSl := Lib.hid (show S.length = n by rw [← HE.out, rotaS_length]; exact HN.out)
    have hz2' := B2.out.size
    have hz3' := B3.out.size
    have hz4' := BB2.out.size
    try simp at hz4'
    go_wp2
    go_loopw [9, 29] (fun u j wr => ∃ k : Nat, k ≤ n ∧ j = .int .i64 k ∧ Own encInt wr w.heap.size 3 u (lateTo S k) ∧ Own encShip wr w2.heap.size 25 (.slice As n cs) S ∧ (∀ q, (Value.slice As n cs).ownBlock = some q → u.ownBlock ≠ some q) ∧ Below w.heap.size w wr) (fun _ j _ => n - (intOf j).toNat)
    case atStart =>
      refine ⟨0, Nat.zero_le _, rfl, Own.none_, OS.out, ?_, B3.out⟩
      intro q hq
      have := OS.out.row q hq
      simp [Value.ownBlock]
      try omega
    case round =>
      obtain ⟨k, hk, rfl, hu, hs, hap, hbel⟩ := hrel
      have HU := Lib.hid hu
      have HS := Lib.hid hs
      have HA := Lib.hid hap
      have hsz := hbel.size
      have HB := Lib.hid hbel
      have HL := Lib.hid (lateTo_length S k)
      clear hu hs hap
      by_cases hlt : k < n
      · obtain ⟨g, rfl⟩ := HS.out.some_ (show 0 < n by omega)
        have hx : S[k]? = some (S[k]'(by rw [HSl.out]; exact hlt)) := List.getElem?_eq_getElem _
        generalize S[k]'(by rw [HSl.out]; exact hlt) = x at hx
        obtain ⟨hgw, c0, c1, c2, c3, c4, c5⟩ := HS.out.ship hx
        have HST := Lib.hid (show lateTo S (k + 1) = if x.loaded < x.holds then lateTo S k ++ [x.id] else lateTo S k by rw [lateTo_succ, List.getElem!_of_getElem? hx])
        clear hx
        obtain ⟨x1, x2, x3, x4, x5, x6⟩ := x
        dsimp only at c0 c1 c2 c3 c4 c5 HST
        have k1 : (k : Int) < n := by omega
        have k2 : (0 : Int) ≤ k := by omega
        by_cases hq : x6 < x5
        · have HQ := Lib.hid hq
          skip
          go_wp2_with (at_builtin; refine halt ?_)
          unfold Halt
          refine wpList_app3 (E := encInt) rfl (.tmp 38) (.tmp 41) 39 rfl w.heap.size 3 i0 _ 8 Try.underlying39 hinf hz0 hz1 hz2 rfl (by decide) _ _ rfl (HU.out.past (by repeat (first | assumption | exact Below.refl _ _ | apply bl_gw | apply bl_alloc | apply bl_drewN | apply bl_drew)) (Nat.le_refl _)) x1 _ rfl (by first | rfl | (rw [alloc_size']; rfl) | (rw [gw_size]; rfl)) (by have := HL.out; unfold maxLen; omega) (by have := HL.out; omega) (by simp; omega) ?_
          intro v5 w5 ho5 hb5 hap5
          have O5 := Lib.hid ho5
          have Q5 := Lib.hid (hap5 (HS.out.past (by repeat (first | assumption | exact Below.refl _ _ | apply bl_gw | apply bl_alloc | apply bl_drewN | apply bl_drew)) (Nat.le_refl _)) HA.out)
          have B5 := Lib.hid ((show Below w.heap.size w _ from (by repeat (first | assumption | exact Below.refl _ _ | apply bl_gw | apply bl_alloc | apply bl_drewN | apply bl_drew))).trans (hb5 w.heap.size (Nat.le_refl _)))
          clear ho5 hb5 hap5
          go_wp2
          go_roundw
          case rel => exact ⟨k + 1, by omega, by go_num, by rw [HST.out, if_pos HQ.out]; exact O5.out, Q5.out.1, Q5.out.2, B5.out⟩
          case measure => simp [intOf]; omega
        · skip
          go_wp2
          go_roundw
          case rel => exact ⟨k + 1, by omega, by go_num, by rw [HST.out, if_neg (by omega)]; exact (HU.out.past (by repeat (first | assumption | exact Below.refl _ _ | apply bl_gw | apply bl_alloc | apply bl_drewN | apply bl_drew)) (Nat.le_refl _)), HS.out.past (by repeat (first | assumption | exact Below.refl _ _ | apply bl_gw | apply bl_alloc | apply bl_drewN | apply bl_drew)) (Nat.le_refl _), HA.out, (by repeat (first | assumption | exact Below.refl _ _ | apply bl_gw | apply bl_alloc | apply bl_drewN | apply bl_drew))⟩
          case measure => simp [intOf]; omega
      · go_wp2
        go_ret2
        obtain rfl : k = n := by omega
        exact ⟨_, rfl, HU.out, HB.out⟩
set_option maxRecDepth 4000 in
set_option maxHeartbeats 8000000 in
theorem spec_LateShips_any (l : List Ship) (wt : List Int) (n m : Nat) (hn : l.length = n) (hm : wt.length = m) (A A' : Option Addr) (cap cap' : Nat) (w : World) (hcap : n ≤ cap) (hl : n ≤ 1048576) (hl' : m ≤ 1048576) (hc : Sl encShip w w.heap.size A l) (hd : Sl encInt w w.heap.size A' wt) :
    Calls Try.prog 40 #[.slice A n cap, .slice A' m cap'] w fun e w' => ∃ v, e = .returned (.tuple #[v, .bool (rotaOK l wt)]) ∧ Own encInt w' w.heap.size 3 v (lateP l wt) ∧ Below w.heap.size w w' := by
  have HC := Lib.hid hc; clear hc
  have HD := Lib.hid hd; clear hd
  have HN := Lib.hid hn; clear hn
  have HM := Lib.hid hm; clear hm
  have hb00 : Below w.heap.size w (w.alloc (.cells #[] 3)) := (by repeat (first | assumption | exact Below.refl _ _ | apply bl_gw | apply bl_alloc | apply bl_drewN | apply bl_drew))
  have ho00 : Own encInt (w.alloc (.cells #[] 3)) w.heap.size 3 (.slice (some ⟨w.heap.size, 0, none⟩) 0 0) [] := Own.nil_ (Nat.le_refl _) _
  have OO := Lib.hid ho00
  have BB := Lib.hid hb00
  clear ho00 hb00
  rcases sp2 (areShips l) (areWaters wt) with t1 | ⟨t1, t2⟩ | ⟨t1, t2⟩
  · have hq : rotaOK l wt = false := by simp [rotaOK, t1]
    have hp : lateP l wt = [] := by simp [lateP, hq]
    rw [hq, hp]
    clear hq hp
    go_enter Try.func40, Try.ntmps40
    go_wp2_with fail
    refine (l17Good_any l n HN.out _ _ _ hcap hl (HC.out.past BB.out)).mono ?_
    rintro e w1 ⟨rfl, b1⟩
    rw [t1]
    have OO1 := Lib.hid (OO.out.past b1 (Nat.le_refl _))
    have B1 := Lib.hid (below_step BB.out b1)
    go_wp2
    go_ret2
    exact ⟨_, rfl, OO1.out, B1.out⟩
  · have hq : rotaOK l wt = false := by simp [rotaOK, t2]
    have hp : lateP l wt = [] := by simp [lateP, hq]
    rw [hq, hp]
    clear hq hp
    go_enter Try.func40, Try.ntmps40
    go_wp2_with fail
    refine (l17Good_any l n HN.out _ _ _ hcap hl (HC.out.past BB.out)).mono ?_
    rintro e w1 ⟨rfl, b1⟩
    rw [t1]
    have OO1 := Lib.hid (OO.out.past b1 (Nat.le_refl _))
    have B1 := Lib.hid (below_step BB.out b1)
    have D1 := Lib.hid (HD.out.past B1.out)
    go_wp2_with fail
    refine (l17Water_any wt m HM.out _ _ _ hl' D1.out).mono ?_
    rintro e w2 ⟨rfl, b2⟩
    rw [t2]
    have OO2 := Lib.hid (OO1.out.past b2 (Nat.le_refl _))
    have B2 := Lib.hid (below_step B1.out b2)
    go_wp2
    go_ret2
    exact ⟨_, rfl, OO2.out, B2.out⟩
  · have hq : rotaOK l wt = true := by simp [rotaOK, t1, t2]
    obtain ⟨S, hS⟩ : ∃ S, rotaS l wt m = S := ⟨_, rfl⟩
    have hp : lateP l wt = lateTo S n := by simp [lateP, hq, HM.out, HN.out, hS]
    rw [hq, hp]
    have HE := Lib.hid hS
    clear hq hp hS
    have HT1 := Lib.hid t1
    have hm4 : m ≤ 400 := by have := areWaters_len t2; rw [HM.out] at this; exact this
    have hn8 : n ≤ 8 := by have := areShips_len t1; rw [HN.out] at this; exact this
    obtain ⟨i0, hinf, hz0, hz1, hz2⟩ := info_parts info_Int
    go_enter Try.func40, Try.ntmps40
    go_wp2_with fail
    refine (l17Good_any l n HN.out _ _ _ hcap hl (HC.out.past BB.out)).mono ?_
    rintro e w1 ⟨rfl, b1⟩
    rw [t1]
    have B1 := Lib.hid (below_step BB.out b1)
    have D1 := Lib.hid (HD.out.past B1.out)
    have BB1 := Lib.hid b1
    clear b1
    go_wp2_with fail
    refine (l17Water_any wt m HM.out _ _ _ hl' D1.out).mono ?_
    rintro e w2 ⟨rfl, b2⟩
    rw [t2]
    have B2 := Lib.hid (below_step B1.out b2)
    have C2 := Lib.hid (HC.out.past B2.out)
    have D2 := Lib.hid (HD.out.past B2.out)
    have BB2 := Lib.hid (below_step BB1.out b2)
    clear b2
    go_wp2_with fail
    refine (l17Rota_any l wt n m m 400 HN.out HM.out _ _ _ _ _ (fun i x hx => areShips_ok HT1.out hx) hl hm4 (by omega) (by omega) C2.out D2.out).mono ?_
    rintro e w3 ⟨vd, vs, rfl, od, os, b3⟩
    obtain ⟨As, cs, rfl, _, _, _⟩ := os.slice
    obtain ⟨Ad, cd, rfl, _, _, _⟩ := od.slice
    rw [rotaS_length, HN.out] at os ⊢
    rw [rotaD_length] at od ⊢
    have OS := Lib.hid os
    have OD := Lib.hid od
    have B3 := Lib.hid (below_step B2.out b3)
    have BB3 := Lib.hid (below_step BB2.out b3)
    clear os od b3
    clear t1 t2
    have OO3 := Lib.hid (OO.out.past BB3.out (Nat.le_refl _))
    rw [HE.out] at OS
    have HSl := Lib.hid (show S.length = n by rw [← HE.out, rotaS_length]; exact HN.out)
    have hz2' := B2.out.size
    have hz3' := B3.out.size
    have hz4' := BB2.out.size
    try simp at hz4'
    go_wp2
    go_loopw [6, 9] (fun u j wr => ∃ k : Nat, k ≤ n ∧ j = .int .i64 k ∧ Own encInt wr w.heap.size 3 u (lateTo S k) ∧ Own encShip wr w2.heap.size 25 (.slice As n cs) S ∧ (∀ q, (Value.slice As n cs).ownBlock = some q → u.ownBlock ≠ some q) ∧ Below w.heap.size w wr) (fun _ j _ => n - (intOf j).toNat)
    case atStart =>
      refine ⟨0, Nat.zero_le _, rfl, OO3.out, OS.out, ?_, B3.out⟩
      intro q hq
      have := OS.out.row q hq
      simp [Value.ownBlock]
      try omega
    case round =>
      obtain ⟨k, hk, rfl, hu, hs, hap, hbel⟩ := hrel
      have HU := Lib.hid hu
      have HS := Lib.hid hs
      have HA := Lib.hid hap
      have hsz := hbel.size
      have HB := Lib.hid hbel
      have HL := Lib.hid (lateTo_length S k)
      clear hu hs hap
      by_cases hlt : k < n
      · obtain ⟨g, rfl⟩ := HS.out.some_ (show 0 < n by omega)
        have hx : S[k]? = some (S[k]'(by rw [HSl.out]; exact hlt)) := List.getElem?_eq_getElem _
        generalize S[k]'(by rw [HSl.out]; exact hlt) = x at hx
        obtain ⟨hgw, c0, c1, c2, c3, c4, c5⟩ := HS.out.ship hx
        have HST := Lib.hid (show lateTo S (k + 1) = if x.loaded < x.holds then lateTo S k ++ [x.id] else lateTo S k by rw [lateTo_succ, List.getElem!_of_getElem? hx])
        clear hx
        obtain ⟨x1, x2, x3, x4, x5, x6⟩ := x
        dsimp only at c0 c1 c2 c3 c4 c5 HST
        have k1 : (k : Int) < n := by omega
        have k2 : (0 : Int) ≤ k := by omega
        by_cases hq : x6 < x5
        · have HQ := Lib.hid hq
          go_wp2
          refine wp_region_gw (by kernel_rfl) (by kernel_rfl) ?_
          repeat (first | go_big_quiet_step ((fail)) | quiet_step ((fail)))
          refine wpQuiet_nil ?_
          rintro _ ⟨pq, rfl⟩
          go_wp2_with (at_builtin; refine halt ?_)
          unfold Halt
          refine wpList_app3 (E := encInt) rfl (.tmp 43) (.tmp 49) 39 rfl w.heap.size 3 i0 _ 8 Try.underlying39 hinf hz0 hz1 hz2 rfl (by decide) _ _ rfl (HU.out.past (by repeat (first | assumption | exact Below.refl _ _ | apply bl_gw | apply bl_alloc | apply bl_drewN | apply bl_drew)) (Nat.le_refl _)) x1 _ rfl (by first | rfl | (rw [alloc_size']; rfl) | (rw [gw_size]; rfl)) (by have := HL.out; unfold maxLen; omega) (by have := HL.out; omega) (by simp; omega) ?_
          intro v5 w5 ho5 hb5 hap5
          have O5 := Lib.hid ho5
          have Q5 := Lib.hid (hap5 (HS.out.past (by repeat (first | assumption | exact Below.refl _ _ | apply bl_gw | apply bl_alloc | apply bl_drewN | apply bl_drew)) (Nat.le_refl _)) HA.out)
          have B5 := Lib.hid ((show Below w.heap.size w _ from (by repeat (first | assumption | exact Below.refl _ _ | apply bl_gw | apply bl_alloc | apply bl_drewN | apply bl_drew))).trans (hb5 w.heap.size (Nat.le_refl _)))
          clear ho5 hb5 hap5
          go_wp2
          go_roundw
          case rel => exact ⟨k + 1, by omega, by go_num, by rw [HST.out, if_pos HQ.out]; exact O5.out, Q5.out.1, Q5.out.2, B5.out⟩
          case measure => simp [intOf]; omega
        · go_wp2
          refine wp_region_gw (by kernel_rfl) (by kernel_rfl) ?_
          repeat (first | go_big_quiet_step ((fail)) | quiet_step ((fail)))
          refine wpQuiet_nil ?_
          rintro _ ⟨pq, rfl⟩
          go_wp2
          go_roundw
          case rel => exact ⟨k + 1, by omega, by go_num, by rw [HST.out, if_neg (by omega)]; exact (HU.out.past (by repeat (first | assumption | exact Below.refl _ _ | apply bl_gw | apply bl_alloc | apply bl_drewN | apply bl_drew)) (Nat.le_refl _)), HS.out.past (by repeat (first | assumption | exact Below.refl _ _ | apply bl_gw | apply bl_alloc | apply bl_drewN | apply bl_drew)) (Nat.le_refl _), HA.out, (by repeat (first | assumption | exact Below.refl _ _ | apply bl_gw | apply bl_alloc | apply bl_drewN | apply bl_drew))⟩
          case measure => simp [intOf]; omega
      · go_wp2
        go_ret2
        obtain rfl : k = n := by omega
        exact ⟨_, rfl, HU.out, HB.out⟩
end Go.Proofs.Ytggdcjajiaeklaa
