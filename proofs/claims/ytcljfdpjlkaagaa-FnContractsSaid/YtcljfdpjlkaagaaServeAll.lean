/- Contracts: serving all. -/
import Derived.Test.YtcljfdpjlkaagaaSortI
namespace Go.Proofs.Ytcljfdpjlkaagaa
open Go.RowKit
def srvTo (s : List Int) (l : List Contract) : Nat → List Int × List Int
  | 0 => (s, List.replicate l.length 0)
  | k + 1 => ((serveP (srvTo s l k).1 l[(ordTo l l.length)[k]!.toNat]!).1, (srvTo s l k).2.set (ordTo l l.length)[k]!.toNat (serveP (srvTo s l k).1 l[(ordTo l l.length)[k]!.toNat]!).2)
def allOK (s : List Int) (l : List Contract) : Bool := stockOK s && areContracts l
def allS (s : List Int) (l : List Contract) : List Int := if allOK s l then (srvTo s l l.length).1 else []
def allG (s : List Int) (l : List Contract) : List Int := if allOK s l then (srvTo s l l.length).2 else []
theorem serveP_in {s : List Int} {x : Contract} (hs : StockIn s) (hx : contractOK x = true) : StockIn (serveP s x).1 ∧ 0 ≤ (serveP s x).2 ∧ (serveP s x).2 ≤ x.tons := by
  obtain ⟨_, g, t, _⟩ := contractOK_at hx
  exact serveTo_in (t := x.tons) (g := x.grade.toNat) (by omega) (by omega) hs x.grade.toNat (Nat.le_refl _)
theorem srvTo_in {s : List Int} {l : List Contract} (hs : StockIn s) (hok : ∀ (i : Nat) (x : Contract), l[i]? = some x → contractOK x = true) : ∀ k, k ≤ l.length →
    StockIn (srvTo s l k).1 ∧ (srvTo s l k).2.length = l.length ∧ ∀ (i : Nat) (x : Contract) (g : Int), l[i]? = some x → (srvTo s l k).2[i]? = some g → 0 ≤ g ∧ g ≤ x.tons
  | 0, _ => by
    refine ⟨hs, by simp [srvTo], fun i x g hx hg => ?_⟩
    obtain ⟨_, _, t, _⟩ := contractOK_at (hok i x hx)
    simp only [srvTo, List.getElem?_replicate] at hg
    split at hg
    · injection hg with hg; omega
    · cases hg
  | k + 1, hk => by
    obtain ⟨h1, h2, h3⟩ := srvTo_in hs hok k (by omega)
    obtain ⟨q, hq, ho⟩ := ordTo_at (l := l) (k := l.length) (j := k) (by omega)
    have hx : l[q]? = some (l[q]'hq) := List.getElem?_eq_getElem _
    have e1 : (ordTo l l.length)[k]!.toNat = q := by rw [List.getElem!_of_getElem? ho, Int.toNat_natCast]
    obtain ⟨p1, p2, p3⟩ := serveP_in h1 (hok q _ hx)
    rw [srvTo, e1, List.getElem!_of_getElem? hx]
    refine ⟨p1, by simpa using h2, fun i x g hi hg => ?_⟩
    rw [List.getElem?_set] at hg
    split at hg
    · rename_i e
      subst e
      split at hg
      · injection hg with hg
        rw [hx] at hi
        injection hi with hi
        subst hi hg
        exact ⟨p2, p3⟩
      · cases hg
    · exact h3 i x g hi hg
theorem srvTo_succ {s : List Int} {l : List Contract} {k q n : Nat} {x : Contract} (hn : l.length = n) (ho : (ordTo l n)[k]? = some (q : Int)) (hx : l[q]? = some x) :
    srvTo s l (k + 1) = ((serveP (srvTo s l k).1 x).1, (srvTo s l k).2.set q (serveP (srvTo s l k).1 x).2) := by
  rw [srvTo, hn, List.getElem!_of_getElem? ho, Int.toNat_natCast, List.getElem!_of_getElem? hx]
theorem allOK_len {s : List Int} {l : List Contract} (h : allOK s l = true) : s.length = 4 ∧ l.length ≤ 10 := by
  simp only [allOK, Bool.and_eq_true] at h
  exact ⟨(stockOK_in h.1).1, areContracts_len h.2⟩
theorem allS_length (s : List Int) (l : List Contract) : (allS s l).length ≤ 1000000 := by
  unfold allS
  split
  · rename_i h
    have h' := h
    simp only [allOK, Bool.and_eq_true] at h
    rw [(srvTo_in (stockOK_in h.1) (fun i x hx => areContracts_ok h.2 hx) l.length (Nat.le_refl _)).1.1]
    omega
  · simp
theorem allG_length (s : List Int) (l : List Contract) : (allG s l).length ≤ 1000000 := by
  unfold allG
  split
  · rename_i h
    have h' := allOK_len h
    simp only [allOK, Bool.and_eq_true] at h
    rw [(srvTo_in (stockOK_in h.1) (fun i x hx => areContracts_ok h.2 hx) l.length (Nat.le_refl _)).2.1]
    omega
  · simp
/-- A row of one's own stays where another block is written. -/
theorem Own.far {α : Type} {E : Enc α} {w : World} {base : Nat} {e : TypeId} {v : Value} {l : List α} (h : Own E w base e v l) {gg i : Nat} (hne : v.ownBlock ≠ some gg) (u : Value) : Own E (w.setCell ⟨gg, i, none⟩ u) base e v l := by
  obtain ⟨hl, h⟩ := h
  refine ⟨hl, ?_⟩
  rcases h with h | ⟨g, cap, cur, rfl, hg, hh, r⟩
  · exact .inl h
  · refine .inr ⟨g, cap, cur, rfl, hg, ?_, r⟩
    have : g ≠ gg := fun e => hne (by rw [← e]; rfl)
    exact (Below.heap_setCell w ⟨gg, i, none⟩ u g this).trans hh
set_option maxRecDepth 4000 in
set_option maxHeartbeats 8000000 in
theorem impl_ServeAll_any (s : List Int) (l : List Contract) (m n : Nat) (hm : s.length = m) (hn : l.length = n) (A A' : Option Addr) (cap cap' : Nat) (w : World) (hl' : m ≤ 1048576) (hl : n ≤ 1048576) (hc : Sl encInt w w.heap.size A s) (hd : Sl encContract w w.heap.size A' l) :
    Calls Try.prog 43 #[.slice A m cap, .slice A' n cap'] w fun e w' => ∃ v u, e = .returned (.tuple #[v, u, .bool (allOK s l)]) ∧ Own encInt w' w.heap.size 3 v (allS s l) ∧ Own encInt w' w.heap.size 3 u (allG s l) ∧ (∀ k, u.ownBlock = some k → v.ownBlock ≠ some k) ∧ Below w.heap.size w w' := by
  have HC := Lib.hid hc; clear hc
  have HD := Lib.hid hd; clear hd
  have HN := Lib.hid hn; clear hn
  have HM := Lib.hid hm; clear hm
  rcases sp2 (stockOK s) (areContracts l) with t1 | ⟨t1, t2⟩ | ⟨t1, t2⟩
  · have hq : allOK s l = false := by simp [allOK, t1]
    have hp : allS s l = [] := by simp [allS, hq]
    have hp' : allG s l = [] := by simp [allG, hq]
    rw [hq, hp, hp']
    clear hq hp hp'
    go_enter Try.func43, Try.ntmps43
    go_wp2_with fail
    refine (isStock_any s m HM.out _ _ _ hl' HC.out).mono ?_
    rintro e w1 ⟨rfl, b1⟩
    rw [t1]
    have B1 := Lib.hid b1
    have D1 := Lib.hid (HD.out.past b1)
    clear b1
    go_wp2
    go_ret3
    exact ⟨_, _, rfl, Own.none_, Own.none_, (fun q (h : (none : Option Nat) = some q) => by cases h), B1.out⟩
  · have hq : allOK s l = false := by simp [allOK, t2]
    have hp : allS s l = [] := by simp [allS, hq]
    have hp' : allG s l = [] := by simp [allG, hq]
    rw [hq, hp, hp']
    clear hq hp hp'
    go_enter Try.func43, Try.ntmps43
    go_wp2_with fail
    refine (isStock_any s m HM.out _ _ _ hl' HC.out).mono ?_
    rintro e w1 ⟨rfl, b1⟩
    rw [t1]
    have B1 := Lib.hid b1
    have D1 := Lib.hid (HD.out.past b1)
    clear b1
    go_wp2_with fail
    refine (impl_AreContracts_any l n HN.out _ _ _ hl D1.out).mono ?_
    rintro e w2 ⟨rfl, b2⟩
    rw [t2]
    have B2 := Lib.hid (below_step B1.out b2)
    have C2 := Lib.hid (HC.out.past B2.out)
    have D2 := Lib.hid (HD.out.past B2.out)
    clear b2
    go_wp2
    go_ret3
    exact ⟨_, _, rfl, Own.none_, Own.none_, (fun q (h : (none : Option Nat) = some q) => by cases h), B2.out⟩
  · have hq : allOK s l = true := by simp [allOK, t1, t2]
    have HQ := Lib.hid hq
    have HPS := Lib.hid (show allS s l = (srvTo s l n).1 by rw [allS, if_pos hq, HN.out])
    have HPG := Lib.hid (show allG s l = (srvTo s l n).2 by rw [allG, if_pos hq, HN.out])
    clear hq
    have HST := Lib.hid (stockOK_in t1)
    have HOK := Lib.hid (show ∀ (i : Nat) (x : Contract), l[i]? = some x → contractOK x = true from fun i x hx => areContracts_ok t2 hx)
    have hn10 : n ≤ 10 := by have := areContracts_len t2; rw [HN.out] at this; exact this
    have HM4 := Lib.hid (show m = 4 by rw [← HM.out]; exact HST.out.1)
    obtain ⟨i0, hinf, hz0, hz1, hz2⟩ := info_parts info_Int
    go_enter Try.func43, Try.ntmps43
    go_wp2_with fail
    refine (isStock_any s m HM.out _ _ _ hl' HC.out).mono ?_
    rintro e w1 ⟨rfl, b1⟩
    rw [t1]
    have B1 := Lib.hid b1
    have D1 := Lib.hid (HD.out.past b1)
    clear b1
    go_wp2_with fail
    refine (impl_AreContracts_any l n HN.out _ _ _ hl D1.out).mono ?_
    rintro e w2 ⟨rfl, b2⟩
    rw [t2]
    have B2 := Lib.hid (below_step B1.out b2)
    have C2 := Lib.hid (HC.out.past B2.out)
    have D2 := Lib.hid (HD.out.past B2.out)
    clear b2
    clear t1 t2
    have hm4 := HM4.out
    clear HM4
    subst hm4
    go_wp2_with fail
    refine (cloneInt_any s 4 HM.out _ _ _ (by omega) C2.out).mono ?_
    rintro e w3 ⟨v3, rfl, o3, b3⟩
    obtain ⟨A3, c3, rfl, _, _, _⟩ := o3.slice
    rw [HM.out] at o3 ⊢
    have O3 := Lib.hid (o3.lower B2.out.size)
    have H3 := Lib.hid o3.hi
    have B3 := Lib.hid (below_step B2.out b3)
    have hz3 := B3.out.size
    clear o3 b3
    go_wp2_with (at_make; refine halt ?_)
    unfold Halt
    refine wpList_make_full _ rfl (.tmp 22) (.tmp 22) 35 rfl w3.heap.size 3 i0 _ 1 Try.underlying35 hinf hz0 hz1 .i64 .i64 _ _ n rfl rfl rfl rfl (by rw [hz2]; omega) (by unfold maxLen; omega) (Nat.le_refl _) ?_
    intro w4 hown hg4
    have b4 : Below w3.heap.size w3 w4 := (Below.refl _ _).grown hg4 (Nat.le_refl _) (by intro k hk; cases hk)
    have O4 := Lib.hid ((own_made hown).lower hz3)
    have hgx := (own_made hown).hi ⟨w3.heap.size, 0, none⟩ rfl
    have P4 := Lib.hid (O3.out.past b4 (Nat.le_refl _))
    have B4 := Lib.hid (below_step B3.out b4)
    obtain ⟨gg, hgg⟩ : ∃ gg, w3.heap.size = gg := ⟨_, rfl⟩
    rw [hgg] at O4 H3 hgx ⊢
    have hgg0 : w.heap.size ≤ gg := by omega
    clear hown hg4 b4 hgg
    go_wp2_with fail
    refine (byUntil_any l n HN.out _ _ _ hn10 (HD.out.past B4.out)).mono ?_
    rintro e w6 ⟨v6, rfl, o6, b6⟩
    obtain ⟨A6, c6, rfl, _, _, _⟩ := o6.slice
    rw [ordTo_length] at o6 ⊢
    have O6 := Lib.hid (o6.lower B4.out.size)
    have HNE := Lib.hid (show (Value.slice A6 n c6).ownBlock ≠ some gg from fun h => by have := o6.row _ h; omega)
    have G6 := Lib.hid (O4.out.past b6 (Nat.le_refl _))
    have P6 := Lib.hid (P4.out.past b6 (Nat.le_refl _))
    have B6 := Lib.hid (below_step B4.out b6)
    have NE6 := Lib.hid (show (Value.slice A3 4 c3).ownBlock ≠ some gg from fun h => by
      rcases A3 with _ | a3
      · cases h
      · have := H3.out a3 rfl
        injection h with h
        omega)
    clear o6 b6
    go_wp2
    go_loopw [7, 27] (fun u j wr => ∃ (k : Nat) (Ak : Option Addr) (ck : Nat), k ≤ n ∧ j = .int .i64 k ∧ u = .slice Ak 4 ck ∧ Own encInt wr w.heap.size 3 (.slice Ak 4 ck) (srvTo s l k).1 ∧ Own encInt wr w.heap.size 3 (.slice (some ⟨gg, 0, none⟩) n n) (srvTo s l k).2 ∧ Own encInt wr w.heap.size 3 (.slice A6 n c6) (ordTo l n) ∧ (Value.slice Ak 4 ck).ownBlock ≠ some gg ∧ Below w.heap.size w wr) (fun _ j _ => n - (intOf j).toNat)
    case atStart => exact ⟨0, _, _, Nat.zero_le _, rfl, rfl, P6.out, by have := G6.out; rw [← HN.out] at this ⊢; exact this, O6.out, NE6.out, B6.out⟩
    case round =>
      obtain ⟨k, Ak, ck, hk, rfl, rfl, hS, hG, hO, hne, hbel⟩ := hrel
      have HB := Lib.hid hbel
      have hbz := hbel.size
      clear hbel
      by_cases hlt : k < n
      · obtain ⟨q, hqn, hoq⟩ := ordTo_at (l := l) (k := n) (j := k) hlt
        have hx : l[q]? = some (l[q]'(by rw [HN.out]; exact hqn)) := List.getElem?_eq_getElem _
        have hsu := srvTo_succ (s := s) HN.out hoq hx
        obtain ⟨bk, off, rfl, hb, hcs⟩ := HD.out.contract (by rw [HN.out]; omega)
        generalize l[q]'(by rw [HN.out]; exact hqn) = x at hx hsu
        obtain ⟨c0, c1, c2, c3, c4, c5, c6⟩ := hcs q x hx
        obtain ⟨_, ⟨g1, g4⟩, ht, _⟩ := contractOK_at (HOK.out q _ hx)
        clear hcs hx
        obtain ⟨id, g, t, pr, fr, un, fi⟩ := x
        dsimp only at c0 c1 c2 c3 c4 c5 c6 g1 g4 ht
        obtain ⟨gr, rfl⟩ : ∃ gr : Nat, g = gr := ⟨g.toNat, by omega⟩
        obtain ⟨hst, hgl, _⟩ := srvTo_in HST.out HOK.out k (by rw [HN.out]; omega)
        obtain ⟨S, G, hSG⟩ : ∃ S G, srvTo s l k = (S, G) := ⟨_, _, rfl⟩
        rw [hSG] at hsu hst hgl hS hG
        dsimp only at hsu hst hgl hS hG
        have hsu' : srvTo s l (k + 1) = ((serveTo t gr S gr).1, G.set q (serveTo t gr S gr).2) := hsu
        have HSU := Lib.hid hsu'
        have HSI := Lib.hid hst
        rw [← HB.out.cell hb] at c0 c1 c2 c3 c4 c5 c6
        have hbw : bk < wr.heap.size := by omega
        have k1 : (k : Int) < n := by omega
        have k2 : (0 : Int) ≤ k := by omega
        have k3 : (q : Int) < n := by omega
        have k4 : (0 : Int) ≤ q := by omega
        obtain ⟨god, rfl⟩ := hO.some_ (show 0 < n by omega)
        obtain ⟨_, d0⟩ := hO.int hoq
        have HSo := Lib.hid hS
        have HGo := Lib.hid hG
        have HOo := Lib.hid hO
        have hggw := hG.hi ⟨gg, 0, none⟩ rfl
        have HOQ := Lib.hid hoq
        clear hsu hsu' hst hS hG hO hoq hgl hSG
        go_wp2_with fail
        refine (serve_any S HSI.out _ _ id t pr fr un fi gr _ (by omega) (by omega) (by omega) HSo.out.rd).mono ?_
        rintro e w5 ⟨v5, rfl, o5, b5⟩
        obtain ⟨A5, cc5, rfl, _, _, _⟩ := o5.slice
        have hl5 : (serveTo t gr S gr).1.length = 4 := (serveTo_in (t := t) (g := gr) (by omega) (by omega) HSI.out gr (Nat.le_refl _)).1.1
        rw [hl5] at o5 ⊢
        have hne5 : (Value.slice A5 4 cc5).ownBlock ≠ some gg := fun h => by have := o5.row _ h; omega
        have O5 := Lib.hid (o5.lower hbz)
        have G5 := Lib.hid (HGo.out.past b5 (Nat.le_refl _))
        have R5 := Lib.hid (HOo.out.past b5 (Nat.le_refl _))
        have B5 := Lib.hid (below_step HB.out b5)
        have NE5 := Lib.hid hne5
        have d5 := (R5.out.int HOQ.out).2
        clear o5 b5 hne5 hl5
        have hx5 : G[q]? = some (G[q]'(by have := G5.out.len; omega)) := List.getElem?_eq_getElem _
        obtain ⟨hgg5, e5⟩ := G5.out.int hx5
        have f5 := G5.out.thaw q
        clear hx5
        generalize (serveTo t gr S gr).2 = gv at *
        go_wp2
        go_roundw
        case rel => exact ⟨k + 1, _, _, by omega, by go_num, rfl, by rw [HSU.out]; exact O5.out.far NE5.out _, by rw [HSU.out]; exact G5.out.setInt hqn _, R5.out.far HNE.out _, NE5.out, B5.out.setCell (p := ⟨gg, q, none⟩) hgg0 _⟩
        case measure => simp [intOf]; omega
      · obtain rfl : k = n := by omega
        go_wp2
        go_ret3
        rw [HQ.out, HPS.out, HPG.out]
        exact ⟨_, _, rfl, hS, hG, (fun q (h : some gg = some q) => by injection h with h; subst h; exact hne), HB.out⟩
theorem impl_ServeAll_plain (s : List Int) (l : List Contract) (m n : Nat) (hm : s.length = m) (hn : l.length = n) (A A' : Option Addr) (cap cap' : Nat) (w : World) (hl' : m ≤ 1048576) (hl : n ≤ 1048576) (hc : Sl encInt w w.heap.size A s) (hd : Sl encContract w w.heap.size A' l) :
    Calls Try.prog 43 #[.slice A m cap, .slice A' n cap'] w fun e w' => ∃ v u, e = .returned (.tuple #[v, u, .bool (allOK s l)]) ∧ Own encInt w' w.heap.size 3 v (allS s l) ∧ Own encInt w' w.heap.size 3 u (allG s l) ∧ Below w.heap.size w w' :=
  (impl_ServeAll_any s l m n hm hn A A' cap cap' w hl' hl hc hd).mono fun _ _ ⟨v, u, h1, h2, h3, _, h5⟩ => ⟨v, u, h1, h2, h3, h5⟩
theorem Own.turnNe {α : Type} {E : Enc α} {w w' : World} {base : Nat} {e : TypeId} {v : Value} {l : List α} {A : Option Addr} (h : Own E w base e v l) (t : Turn A w w') (hne : ∀ a, A = some a → v.ownBlock ≠ some a.block) : Own E w' base e v l := by
  obtain ⟨hl, h⟩ := h
  refine ⟨hl, ?_⟩
  rcases h with h | ⟨g', cap, cur, rfl, hg, hh, r⟩
  · exact .inl h
  · exact .inr ⟨g', cap, cur, rfl, hg, (t.block g' fun a ha e => hne a ha (by rw [← e]; rfl)).trans hh, r⟩
end Go.Proofs.Ytcljfdpjlkaagaa
