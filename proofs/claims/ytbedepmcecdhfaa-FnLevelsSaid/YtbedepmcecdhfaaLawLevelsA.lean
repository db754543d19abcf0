/- For the law FnLevels: what the answers have to do with each other. -/
import Derived.Test.YtbedepmcecdhfaaLawPlansA
namespace Go.Proofs.Ytbedepmcecdhfaa
open Go.RowKit
theorem reach_far (g : List Gauge) (D : List Ditch) (s : List Int) : (reachP g D s).2 = (farthP g D s).2.2 := by
  unfold reachP farthP
  split <;> rfl
/-- What is told of the farthest levels. -/
structure FarAt (g : List Gauge) (D : List Ditch) (s f : List Int) (d c : Int) (p : List Int) (a : Int) : Prop where
  plan : shortP g D s f = (p, true)
  loads : (p.length : Int) = d
  pos : 1 ≤ c
  all : c ≤ a
  below : d < c
  sum : countOK g (sumI s) = true
  gauges : areGauges g = true
  levels : areLevels g s = true
theorem far_facts {g : List Gauge} {D : List Ditch} {s f : List Int} {d c : Int} (h : farthP g D s = (f, d, true)) (hc : (reachP g D s).1 = c) : FarAt g D s f d c (shortP g D s f).1 (countP g (sumI s)) := by
  cases hq : asked g D s with
  | false => rw [farthP_no hq] at h; simp at h
  | true =>
    obtain ⟨hF, hg, hs⟩ := asked_at hq
    rw [farthP_yes hq] at h
    have hf := (Prod.mk.inj h).1
    have hd := (Prod.mk.inj (Prod.mk.inj h).2).1
    have hm := bestF_mem (fin_pos (g := g) (D := D) (s := s) (fwd := true)) _ (Nat.le_refl _)
    obtain ⟨b, hb⟩ : ∃ b, bestF (finP g D s true) (finP g D s true).length = b := ⟨_, rfl⟩
    rw [hb] at hf hd hm
    have hf2 := fin_ok (D := D) (fwd := true) hs b hm
    have hdf : dOf (finP g D s true) b.1 = some b.2 := (dOf_some fin_found.keys).2 hm
    rw [fin_turn hF hs hf2] at hdf
    have hdb : dOf (finP g D b.1 false) s = some b.2 := hdf
    have hsp := shortP_some hq hf2 hdb
    have hpl := (plan_ok hF hs hf2 hdb (Nat.le_refl _)).2
    rw [hf] at hsp hdb hpl hf2
    have hlow : b.2 < (finP g D s true).length := by
      obtain ⟨i, hi⟩ := List.getElem?_of_mem hm
      have h1 := (fin_found (g := g) (D := D) (s := s) (fwd := true)).low i b hi
      have h2 := (List.getElem?_eq_some_iff.1 hi).1
      omega
    have hpos := fin_pos (g := g) (D := D) (s := s) (fwd := true)
    have hc' : ((finP g D s true).length : Int) = c := by rw [← hc]; unfold reachP; rw [if_pos hq]
    have hsm := areLevels_small hg hs
    have hs0 : 0 ≤ sumI s := by
      have := (sumTo_rng hsm s.length (Nat.le_refl _)).1
      unfold sumTo at this
      rwa [List.take_length] at this
    have hok : countOK g (sumI s) = true := by simp [countOK, hg, hs0]
    have hall : (finP g D s true).length ≤ cntTo (goodN g (sumI s)) (7 ^ g.length) := by
      have := cnt_ge (f := goodN g (sumI s)) (7 ^ g.length) ((finP g D s true).map fun p => numN p.1) (keys_nodup hg hs) (fun k hk => by
        obtain ⟨p, hp, rfl⟩ := List.mem_map.1 hk
        have hpo := fin_ok (D := D) (fwd := true) hs p hp
        have hps := areLevels_small hg hpo
        refine ⟨numN_lt' hps (areLevels_len hpo), ?_⟩
        have hsum : sumI p.1 = sumI s := way_sum hF hs ((fin_least hg hs).1 ((dOf_some fin_found.keys).2 (show (p.1, p.2) ∈ finP g D s true from hp))).1
        have hdg := digs_num p.1 hps
        rw [areLevels_len hpo] at hdg
        rw [goodN, ← areLevels_eq, hdg, hpo, hsum]
        simp)
      rwa [List.length_map] at this
    have hcp : countP g (sumI s) = ((cntTo (goodN g (sumI s)) (7 ^ g.length) : Nat) : Int) := by rw [countP, if_pos hok, ← count_eq]
    refine ⟨by rw [hsp], ?_, by omega, by omega, by omega, hok, hg, hs⟩
    rw [hsp]
    simp only
    rw [hpl, hd]
theorem full_first {g : List Gauge} {D : List Ditch} {s : List Int} {p z : Int} (h : fullP g D s p = (z, true)) : ∃ (i : Nat) (x : Int), p = i ∧ i < g.length ∧ s.length = g.length ∧ s[i]? = some x ∧ x ≤ z := by
  unfold fullP at h
  split at h
  · rename_i hq
    rw [Bool.and_eq_true] at hq
    obtain ⟨hF, hg, hs⟩ := asked_at hq.1
    have hin := inB_true hq.2
    have hl := areLevels_len hs
    have hi : p.toNat < s.length := by omega
    have hx : s[p.toNat]? = some (s[p.toNat]'hi) := List.getElem?_eq_getElem _
    refine ⟨p.toNat, s[p.toNat]'hi, by omega, by omega, hl, hx, ?_⟩
    have hz := (Prod.mk.inj h).1
    rw [← hz]
    obtain ⟨j, hj⟩ := List.getElem?_of_mem (fin_found (g := g) (D := D) (s := s) (fwd := true)).first
    have hj2 := (List.getElem?_eq_some_iff.1 hj).1
    have := mxTo_ge (p := fun _ => true) (v := fun i => (finP g D s true)[i]!.1[p.toNat]!) hj2 rfl
    rw [List.getElem!_of_getElem? hj] at this
    simp only [List.getElem!_of_getElem? hx] at this
    exact this
  · cases (Prod.mk.inj h).2
/-- Three lists that can be read. -/
structure Three (w : World) (Ag Ad Al : Option Addr) (g : List Gauge) (D : List Ditch) (l : List Int) : Prop where
  sg : Sl encGauge w w.heap.size Ag g
  sd : Sl encDitch w w.heap.size Ad D
  sl : Sl encInt w w.heap.size Al l
theorem Three.past {w w' : World} {Ag Ad Al : Option Addr} {g : List Gauge} {D : List Ditch} {l : List Int} (h : Three w Ag Ad Al g D l) (hb : Below w.heap.size w w') : Three w' Ag Ad Al g D l :=
  ⟨h.sg.past hb, h.sd.past hb, h.sl.past hb⟩
end Go.Proofs.Ytbedepmcecdhfaa
