/- Walks of waves: what a wind makes of a lake. -/
import Derived.Test.YtopdbacgceoddaaWindC
namespace Go.Proofs.Ytopdbacgceoddaa
open Go.RowKit
set_option maxHeartbeats 400000 in
theorem l1Most_any (a b : Int) (w : World) :
    Calls Try.prog 62 #[.int .i64 a, .int .i64 b] w fun e w' => e = .returned (.int .i64 (max a b)) ∧ w = w' := by
  go_enter Try.func62, Try.ntmps62
  go_wp2
  all_goals go_ret
  all_goals exact ⟨ret_int (by first | omega | (simp; omega)), rfl⟩
set_option maxHeartbeats 400000 in
theorem l1Least_any (a b : Int) (w : World) :
    Calls Try.prog 74 #[.int .i64 a, .int .i64 b] w fun e w' => e = .returned (.int .i64 (min a b)) ∧ w = w' := by
  go_enter Try.func74, Try.ntmps74
  go_wp2
  all_goals go_ret
  all_goals exact ⟨ret_int (by first | omega | (simp; omega)), rfl⟩
def lakeIn (e n b : Int) : Prop := (1 ≤ e ∧ e ≤ 2000) ∧ (1 ≤ n ∧ n ≤ 2000) ∧ (0 ≤ b ∧ b ≤ 200)
theorem lakeOK_in {e n b : Int} (h : lakeOK e n b = true) : lakeIn e n b := by
  simp only [lakeOK, Bool.and_eq_true] at h
  exact ⟨inB_true h.1, inB_true h.2.1, inB_true h.2.2⟩
def reachP (e n f : Int) : Int := if f % 2 = 0 then n else e
def waveP (e n s f : Int) : Int := min (s * s * reachP e n f / 10000) 150
def spillP (e n b s f : Int) : Int := max (waveP e n s f - b) 0 * reachP n e f
theorem reachP_in {e n b f : Int} (h : lakeIn e n b) : 1 ≤ reachP e n f ∧ reachP e n f ≤ 2000 := by
  obtain ⟨⟨_, _⟩, ⟨_, _⟩, _⟩ := h
  unfold reachP; split <;> omega
theorem sq_in {s : Int} (h0 : 0 ≤ s) (h1 : s ≤ 60) : 0 ≤ s * s ∧ s * s ≤ 3600 := ⟨Int.mul_nonneg h0 h0, by have := Int.mul_le_mul h1 h1 h0 (by omega); simpa using this⟩
theorem prod_in {q r : Int} (h0 : 0 ≤ q) (h1 : q ≤ 3600) (h2 : 1 ≤ r) (h3 : r ≤ 2000) : 0 ≤ q * r ∧ q * r ≤ 7200000 :=
  ⟨Int.mul_nonneg h0 (by omega), by have := Int.mul_le_mul h1 h3 (by omega) (by omega); simpa using this⟩
theorem waveP_in {e n b s f : Int} (h : lakeIn e n b) (h0 : 0 ≤ s) (h1 : s ≤ 60) : 0 ≤ waveP e n s f ∧ waveP e n s f ≤ 150 := by
  have r := reachP_in (f := f) h
  have q := sq_in h0 h1
  have p := prod_in q.1 q.2 r.1 r.2
  unfold waveP
  omega
theorem spillP_in {e n b s f : Int} (h : lakeIn e n b) (h0 : 0 ≤ s) (h1 : s ≤ 60) : 0 ≤ spillP e n b s f ∧ spillP e n b s f ≤ 300000 := by
  have wv := waveP_in (f := f) h h0 h1
  have hb := h.2.2
  have r := reachP_in (f := f) (show lakeIn n e b from ⟨h.2.1, h.1, h.2.2⟩)
  unfold spillP
  have m : 0 ≤ max (waveP e n s f - b) 0 ∧ max (waveP e n s f - b) 0 ≤ 150 := by omega
  exact ⟨Int.mul_nonneg m.1 (by omega), by have := Int.mul_le_mul m.2 r.2 (by omega) (by omega); simpa using this⟩

set_option maxHeartbeats 1000000 in
theorem reach_any (x n b f : Int) (w : World) (hf : 0 ≤ f) :
    Calls Try.prog 75 #[.agg #[.int .i64 x, .int .i64 n, .int .i64 b], .int .i64 f] w fun e w' => e = .returned (.tuple #[.int .i64 (reachP x n f), .int .i64 (reachP n x f)]) ∧ Below w.heap.size w w' := by
  by_cases h : f % 2 = 0
  · have hr : reachP x n f = n ∧ reachP n x f = x := by simp [reachP, h]
    have h' : (f % 2 == 0) = true := by simp [h]
    rw [hr.1, hr.2]
    clear hr h
    go_enter Try.func75, Try.ntmps75
    go_wp2
    refine wp_region_gw (by kernel_rfl) (by kernel_rfl) ?_
    repeat (first | go_big_quiet_step ((fail)) | quiet_step ((fail)))
    refine wpQuiet_nil ?_
    rintro _ ⟨pq, rfl⟩
    go_wp2
    go_ret2
    exact ⟨rfl, (by repeat (first | assumption | exact Below.refl _ _ | apply bl_gw | apply bl_alloc | apply bl_drewN | apply bl_drew))⟩
  · have hr : reachP x n f = x ∧ reachP n x f = n := by simp [reachP, h]
    have h' : (f % 2 == 0) = false := by simp [h]
    rw [hr.1, hr.2]
    clear hr h
    go_enter Try.func75, Try.ntmps75
    go_wp2
    refine wp_region_gw (by kernel_rfl) (by kernel_rfl) ?_
    repeat (first | go_big_quiet_step ((fail)) | quiet_step ((fail)))
    refine wpQuiet_nil ?_
    rintro _ ⟨pq, rfl⟩
    go_wp2
    go_ret2
    exact ⟨rfl, (by repeat (first | assumption | exact Below.refl _ _ | apply bl_gw | apply bl_alloc | apply bl_drewN | apply bl_drew))⟩
set_option maxHeartbeats 1000000 in
theorem wave_any (x n b s f : Int) (w : World) (hk : lakeIn x n b) (h0 : 0 ≤ s) (h1 : s ≤ 60) (hf : 0 ≤ f) :
    Calls Try.prog 55 #[.agg #[.int .i64 x, .int .i64 n, .int .i64 b], .int .i64 s, .int .i64 f] w fun e w' => e = .returned (.int .i64 (waveP x n s f)) ∧ Below w.heap.size w w' := by
  have hr := reachP_in (f := f) hk
  have q := sq_in h0 h1
  obtain ⟨r, er⟩ : ∃ r, reachP x n f = r := ⟨_, rfl⟩
  rw [er] at hr
  have p := prod_in q.1 q.2 hr.1 hr.2
  have hd : waveP x n s f = min (s * s * r / 10000) 150 := by unfold waveP; rw [er]
  rw [hd]
  have HE := Lib.hid er
  clear hd er
  obtain ⟨q1, q2⟩ := q
  obtain ⟨p1, p2⟩ := p
  go_enter Try.func55, Try.ntmps55
  go_wp2_with (go_at_call 75; refine (reach_any _ _ _ _ _ hf).mono ?_; rintro e w1 ⟨rfl, hb⟩; obtain ⟨p, rfl⟩ := below_gw hb; clear hb; rw [HE.out])
  all_goals go_ret
  all_goals exact ⟨ret_int (by first | omega | (simp; omega)), (by repeat (first | assumption | exact Below.refl _ _ | apply bl_gw | apply bl_alloc | apply bl_drewN | apply bl_drew))⟩
set_option maxHeartbeats 1000000 in
theorem l19Wave_any (x n b s f : Int) (w : World) (hk : lakeIn x n b) (h0 : 0 ≤ s) (h1 : s ≤ 60) (hf : 0 ≤ f) :
    Calls Try.prog 52 #[.agg #[.int .i64 x, .int .i64 n, .int .i64 b], .int .i64 s, .int .i64 f] w fun e w' => e = .returned (.int .i64 (waveP x n s f)) ∧ Below w.heap.size w w' := by
  have hr := reachP_in (f := f) hk
  have q := sq_in h0 h1
  obtain ⟨q1, q2⟩ := q
  obtain ⟨⟨kx, kx'⟩, ⟨kn, kn'⟩, _⟩ := hk
  by_cases h : f % 2 = 1
  · have p := prod_in q1 q2 kx kx'
    have h' : (f % 2 == 1) = true := by simp [h]
    have hd : waveP x n s f = min (s * s * x / 10000) 150 := by simp [waveP, reachP, h]
    rw [hd]
    clear hd h hr
    obtain ⟨p1, p2⟩ := p
    go_enter Try.func52, Try.ntmps52
    go_wp2_with (go_at_call 74; refine (l1Least_any _ _ _).mono ?_; rintro e w1 ⟨rfl, rfl⟩)
    go_ret
    exact ⟨ret_int (by omega), (by repeat (first | assumption | exact Below.refl _ _ | apply bl_gw | apply bl_alloc | apply bl_drewN | apply bl_drew))⟩
  · have p := prod_in q1 q2 kn kn'
    have h' : (f % 2 == 1) = false := by simp [h]
    have hd : waveP x n s f = min (s * s * n / 10000) 150 := by simp [waveP, reachP, show f % 2 = 0 by omega]
    rw [hd]
    clear hd h hr
    obtain ⟨p1, p2⟩ := p
    go_enter Try.func52, Try.ntmps52
    go_wp2_with (go_at_call 74; refine (l1Least_any _ _ _).mono ?_; rintro e w1 ⟨rfl, rfl⟩)
    go_ret
    exact ⟨ret_int (by omega), (by repeat (first | assumption | exact Below.refl _ _ | apply bl_gw | apply bl_alloc | apply bl_drewN | apply bl_drew))⟩
theorem l1Most_q (a b : Int) (w : World) :
    Calls Try.prog 62 #[.int .i64 a, .int .i64 b] w fun e w' => e = .returned (.int .i64 (max a b)) ∧ w = w' := l1Most_any a b w
set_option maxHeartbeats 1000000 in
theorem spills_any (x n b h s f : Int) (w : World) (hk : lakeIn x n b) (h0 : 0 ≤ s) (h1 : s ≤ 60) (hf : 0 ≤ f) :
    Calls Try.prog 66 #[.agg #[.int .i64 x, .int .i64 n, .int .i64 b], .agg #[.int .i64 h, .int .i64 s, .int .i64 f]] w fun e w' => e = .returned (.int .i64 (spillP x n b s f)) ∧ Below w.heap.size w w' := by
  have hs := spillP_in (f := f) hk h0 h1
  have hw := waveP_in (f := f) hk h0 h1
  have hb := hk.2.2
  have hd : spillP x n b s f = max (waveP x n s f - b) 0 * reachP n x f := rfl
  obtain ⟨v, ev⟩ : ∃ v, waveP x n s f = v := ⟨_, rfl⟩
  obtain ⟨r, er⟩ : ∃ r, reachP n x f = r := ⟨_, rfl⟩
  rw [ev] at hw
  rw [hd, ev, er] at hs
  rw [hd, ev, er]
  have HV := Lib.hid ev
  have HR := Lib.hid er
  obtain ⟨b1, b2⟩ := hb
  obtain ⟨v1, v2⟩ := hw
  obtain ⟨s1, s2⟩ := hs
  clear hd ev er
  have k1 : IntKind.i64.wrap (v - b) = v - b := IntWalk.i64_in _ (by omega)
  by_cases hm : v < b
  · have e : max (v - b) 0 * r = 0 := by rw [show max (v - b) 0 = 0 by omega]; simp
    rw [e]
    clear e s1 s2
    go_enter Try.func66, Try.ntmps66
    go_wp2_with (go_at_call 75; refine (reach_any _ _ _ _ _ hf).mono ?_; rintro e w1 ⟨rfl, hb⟩; obtain ⟨p, rfl⟩ := below_gw hb; clear hb; rw [HR.out])
    refine wp_region_gw (by kernel_rfl) (by kernel_rfl) ?_
    repeat (first | go_big_quiet_step ((go_at_call 55; exact quiet_gw2 (v := .int .i64 v) ((wave_any _ _ _ _ _ _ hk h0 h1 hf).mono (fun _ _ ⟨he, hb⟩ => ⟨by rw [he, HV.out], hb⟩)))) | quiet_step ((go_at_call 55; exact quiet_gw2 (v := .int .i64 v) ((wave_any _ _ _ _ _ _ hk h0 h1 hf).mono (fun _ _ ⟨he, hb⟩ => ⟨by rw [he, HV.out], hb⟩)))))
    refine wpQuiet_nil ?_
    rintro _ ⟨pq, rfl⟩
    go_wp2
    all_goals go_ret
    all_goals exact ⟨ret_int (by first | rfl | omega | exact IntWalk.wrap64_in _ ⟨by omega, by omega⟩), (by repeat (first | assumption | exact Below.refl _ _ | apply bl_gw | apply bl_alloc | apply bl_drewN | apply bl_drew))⟩
  · have e : max (v - b) 0 = v - b := by omega
    rw [e] at s1 s2 ⊢
    clear e
    go_enter Try.func66, Try.ntmps66
    go_wp2_with (go_at_call 75; refine (reach_any _ _ _ _ _ hf).mono ?_; rintro e w1 ⟨rfl, hb⟩; obtain ⟨p, rfl⟩ := below_gw hb; clear hb; rw [HR.out])
    refine wp_region_gw (by kernel_rfl) (by kernel_rfl) ?_
    repeat (first | go_big_quiet_step ((go_at_call 55; exact quiet_gw2 (v := .int .i64 v) ((wave_any _ _ _ _ _ _ hk h0 h1 hf).mono (fun _ _ ⟨he, hb⟩ => ⟨by rw [he, HV.out], hb⟩)))) | quiet_step ((go_at_call 55; exact quiet_gw2 (v := .int .i64 v) ((wave_any _ _ _ _ _ _ hk h0 h1 hf).mono (fun _ _ ⟨he, hb⟩ => ⟨by rw [he, HV.out], hb⟩)))))
    refine wpQuiet_nil ?_
    rintro _ ⟨pq, rfl⟩
    go_wp2
    all_goals go_ret
    all_goals exact ⟨ret_int (by first | rfl | omega | exact IntWalk.wrap64_in _ ⟨by omega, by omega⟩), (by repeat (first | assumption | exact Below.refl _ _ | apply bl_gw | apply bl_alloc | apply bl_drewN | apply bl_drew))⟩
set_option maxHeartbeats 2000000 in
theorem l19Spills_any (x n b h s f : Int) (w : World) (hk : lakeIn x n b) (h0 : 0 ≤ s) (h1 : s ≤ 60) (hf : 0 ≤ f) :
    Calls Try.prog 65 #[.agg #[.int .i64 h, .int .i64 s, .int .i64 f], .agg #[.int .i64 x, .int .i64 n, .int .i64 b]] w fun e w' => e = .returned (.int .i64 (spillP x n b s f)) ∧ Below w.heap.size w w' := by
  have hs := spillP_in (f := f) hk h0 h1
  have hw := waveP_in (f := f) hk h0 h1
  have hb := hk.2.2
  have hd : spillP x n b s f = reachP n x f * max 0 (waveP x n s f - b) := by unfold spillP; rw [Int.mul_comm, Int.max_comm]
  obtain ⟨v, ev⟩ : ∃ v, waveP x n s f = v := ⟨_, rfl⟩
  rw [ev] at hw
  rw [hd, ev] at hs
  rw [hd, ev]
  have HV := Lib.hid ev
  obtain ⟨b1, b2⟩ := hb
  obtain ⟨v1, v2⟩ := hw
  clear hd ev
  have k1 : IntKind.i64.wrap (v - b) = v - b := IntWalk.i64_in _ (by omega)
  by_cases hr : f % 2 = 1
  · have h' : (f % 2 == 1) = true := by simp [hr]
    rw [show reachP n x f = n by simp [reachP, hr]] at hs ⊢
    clear hr
    have k2 : IntKind.i64.wrap (n * max 0 (v - b)) = n * max 0 (v - b) := IntWalk.i64_in _ (by omega)
    go_enter Try.func65, Try.ntmps65
    go_wp2
    refine wp_region_gw (by kernel_rfl) (by kernel_rfl) ?_
    repeat (first | go_big_quiet_step ((first | (go_at_call 52; exact quiet_gw (v := .int .i64 v) ((l19Wave_any _ _ _ _ _ _ hk h0 h1 hf).mono (fun _ _ ⟨he, hb⟩ => ⟨by rw [he, HV.out], hb⟩))) | (go_at_call 62; exact quiet_gw_same (l1Most_any _ _ _)))) | quiet_step ((first | (go_at_call 52; exact quiet_gw (v := .int .i64 v) ((l19Wave_any _ _ _ _ _ _ hk h0 h1 hf).mono (fun _ _ ⟨he, hb⟩ => ⟨by rw [he, HV.out], hb⟩))) | (go_at_call 62; exact quiet_gw_same (l1Most_any _ _ _)))))
    refine wpQuiet_nil ?_
    rintro _ ⟨pq, rfl⟩
    go_wp2
    go_ret
    exact ⟨ret_int rfl, (by repeat (first | assumption | exact Below.refl _ _ | apply bl_gw | apply bl_alloc | apply bl_drewN | apply bl_drew))⟩
  · have h' : (f % 2 == 1) = false := by simp [hr]
    rw [show reachP n x f = x by simp [reachP, show f % 2 = 0 by omega]] at hs ⊢
    clear hr
    have k2 : IntKind.i64.wrap (x * max 0 (v - b)) = x * max 0 (v - b) := IntWalk.i64_in _ (by omega)
    go_enter Try.func65, Try.ntmps65
    go_wp2
    refine wp_region_gw (by kernel_rfl) (by kernel_rfl) ?_
    repeat (first | go_big_quiet_step ((first | (go_at_call 52; exact quiet_gw (v := .int .i64 v) ((l19Wave_any _ _ _ _ _ _ hk h0 h1 hf).mono (fun _ _ ⟨he, hb⟩ => ⟨by rw [he, HV.out], hb⟩))) | (go_at_call 62; exact quiet_gw_same (l1Most_any _ _ _)))) | quiet_step ((first | (go_at_call 52; exact quiet_gw (v := .int .i64 v) ((l19Wave_any _ _ _ _ _ _ hk h0 h1 hf).mono (fun _ _ ⟨he, hb⟩ => ⟨by rw [he, HV.out], hb⟩))) | (go_at_call 62; exact quiet_gw_same (l1Most_any _ _ _)))))
    refine wpQuiet_nil ?_
    rintro _ ⟨pq, rfl⟩
    go_wp2
    go_ret
    exact ⟨ret_int rfl, (by repeat (first | assumption | exact Below.refl _ _ | apply bl_gw | apply bl_alloc | apply bl_drewN | apply bl_drew))⟩

def waveOfP (x n b s f : Int) : Int × Bool := if (lakeOK x n b && inB s 0 60) && inB f 0 3 then (waveP x n s f, true) else (0, false)
set_option maxHeartbeats 2000000 in
theorem impl_WaveOf_any (x n b s f : Int) (w : World) :
    Calls Try.prog 20 #[.agg #[.int .i64 x, .int .i64 n, .int .i64 b], .int .i64 s, .int .i64 f] w fun e w' => e = .returned (.tuple #[.int .i64 (waveOfP x n b s f).1, .bool (waveOfP x n b s f).2]) ∧ Below w.heap.size w w' := by
  rcases sp3 (lakeOK x n b) (inB s 0 60) (inB f 0 3) with t1 | ⟨t1, t2⟩ | ⟨t1, t2, t3⟩ | ⟨t1, t2, t3⟩
  case' inr.inr.inr =>
    have hd : waveOfP x n b s f = (waveP x n s f, true) := by simp [waveOfP, t1, t2, t3]
    have hk := lakeOK_in t1
    have hs := inB_true t2
    have hf := inB_true t3
  case' inl => have hd : waveOfP x n b s f = (0, false) := by simp [waveOfP, t1]
  case' inr.inl => have hd : waveOfP x n b s f = (0, false) := by simp [waveOfP, t1, t2]
  case' inr.inr.inl => have hd : waveOfP x n b s f = (0, false) := by simp [waveOfP, t1, t2, t3]
  all_goals
    rw [hd]
    clear hd
    go_enter Try.func20, Try.ntmps20
    go_wp2_with (first | (go_at_call 50; refine (isLake_any _ _ _ _).mono ?_; rintro e w1 ⟨rfl, hb⟩; obtain ⟨p, rfl⟩ := below_gw hb; clear hb) | (go_at_call 53; refine (isSpeed_any _ _).mono ?_; rintro e w1 ⟨rfl, rfl⟩) | (go_at_call 54; refine (isDirection_any _ _).mono ?_; rintro e w1 ⟨rfl, rfl⟩) | (go_at_call 55; refine (wave_any _ _ _ _ _ _ hk hs.1 hs.2 hf.1).mono ?_; rintro e w1 ⟨rfl, hb⟩; obtain ⟨p, rfl⟩ := below_gw hb; clear hb))
    go_ret2
    exact ⟨rfl, (by repeat (first | assumption | exact Below.refl _ _ | apply bl_gw | apply bl_alloc | apply bl_drewN | apply bl_drew))⟩
set_option maxHeartbeats 2000000 in
theorem spec_WaveOf_any (x n b s f : Int) (w : World) :
    Calls Try.prog 19 #[.agg #[.int .i64 x, .int .i64 n, .int .i64 b], .int .i64 s, .int .i64 f] w fun e w' => e = .returned (.tuple #[.int .i64 (waveOfP x n b s f).1, .bool (waveOfP x n b s f).2]) ∧ Below w.heap.size w w' := by
  rcases sp3 (lakeOK x n b) (inB s 0 60) (inB f 0 3) with t1 | ⟨t1, t2⟩ | ⟨t1, t2, t3⟩ | ⟨t1, t2, t3⟩
  case' inr.inr.inr =>
    have hd : waveOfP x n b s f = (waveP x n s f, true) := by simp [waveOfP, t1, t2, t3]
    have hk := lakeOK_in t1
    have hs := inB_true t2
    have hf := inB_true t3
  case' inl => have hd : waveOfP x n b s f = (0, false) := by simp [waveOfP, t1]
  case' inr.inl => have hd : waveOfP x n b s f = (0, false) := by simp [waveOfP, t1, t2]
  case' inr.inr.inl => have hd : waveOfP x n b s f = (0, false) := by simp [waveOfP, t1, t2, t3]
  all_goals
    rw [hd]
    clear hd
    go_enter Try.func19, Try.ntmps19
    go_wp2_with (first | (go_at_call 49; refine (l19Lake_any _ _ _ _).mono ?_; rintro e w1 ⟨rfl, hb⟩; obtain ⟨p, rfl⟩ := below_gw hb; clear hb) | (go_at_call 51; refine (l1In_any _ _ _ _).mono ?_; rintro e w1 ⟨rfl, rfl⟩) | (go_at_call 51; refine (l1In_any _ _ _ _).mono ?_; rintro e w1 ⟨rfl, rfl⟩) | (go_at_call 52; refine (l19Wave_any _ _ _ _ _ _ hk hs.1 hs.2 hf.1).mono ?_; rintro e w1 ⟨rfl, hb⟩; obtain ⟨p, rfl⟩ := below_gw hb; clear hb))
    go_ret2
    exact ⟨rfl, (by repeat (first | assumption | exact Below.refl _ _ | apply bl_gw | apply bl_alloc | apply bl_drewN | apply bl_drew))⟩

set_option maxHeartbeats 2000000 in
theorem impl_TurnLake_any (x n b : Int) (w : World) :
    Calls Try.prog 17 #[.agg #[.int .i64 x, .int .i64 n, .int .i64 b]] w fun e w' => e = .returned (if lakeOK x n b then .tuple #[.agg #[.int .i64 n, .int .i64 x, .int .i64 b], .bool true] else .tuple #[.agg #[.int .i64 0, .int .i64 0, .int .i64 0], .bool false]) ∧ Below w.heap.size w w' := by
  rcases sp1 (lakeOK x n b) with t1 | t1
  · rw [if_neg (by simp [t1])]
    go_enter Try.func17, Try.ntmps17
    go_wp2_with (go_at_call 50; refine (isLake_any _ _ _ _).mono ?_; rintro e w1 ⟨rfl, hb⟩; obtain ⟨p, rfl⟩ := below_gw hb; clear hb)
    exact bodyPost_ret (v := .tuple #[.agg #[.int .i64 0, .int .i64 0, .int .i64 0], .bool false]) (by simp [results, Try.results17, go_sem]) rfl ⟨rfl, (by repeat (first | assumption | exact Below.refl _ _ | apply bl_gw | apply bl_alloc | apply bl_drewN | apply bl_drew))⟩
  · rw [if_pos t1]
    go_enter Try.func17, Try.ntmps17
    go_wp2_with (go_at_call 50; refine (isLake_any _ _ _ _).mono ?_; rintro e w1 ⟨rfl, hb⟩; obtain ⟨p, rfl⟩ := below_gw hb; clear hb)
    exact bodyPost_ret (v := .tuple #[.agg #[.int .i64 n, .int .i64 x, .int .i64 b], .bool true]) (by simp [results, Try.results17, go_sem]) rfl ⟨rfl, (by repeat (first | assumption | exact Below.refl _ _ | apply bl_gw | apply bl_alloc | apply bl_drewN | apply bl_drew))⟩
set_option maxHeartbeats 2000000 in
theorem spec_TurnLake_any (x n b : Int) (w : World) :
    Calls Try.prog 15 #[.agg #[.int .i64 x, .int .i64 n, .int .i64 b]] w fun e w' => e = .returned (if lakeOK x n b then .tuple #[.agg #[.int .i64 n, .int .i64 x, .int .i64 b], .bool true] else .tuple #[.agg #[.int .i64 0, .int .i64 0, .int .i64 0], .bool false]) ∧ Below w.heap.size w w' := by
  rcases sp1 (lakeOK x n b) with t1 | t1
  · rw [if_neg (by simp [t1])]
    go_enter Try.func15, Try.ntmps15
    go_wp2_with (go_at_call 49; refine (l19Lake_any _ _ _ _).mono ?_; rintro e w1 ⟨rfl, hb⟩; obtain ⟨p, rfl⟩ := below_gw hb; clear hb)
    exact bodyPost_ret (v := .tuple #[.agg #[.int .i64 0, .int .i64 0, .int .i64 0], .bool false]) (by simp [results, Try.results15, go_sem]) rfl ⟨rfl, (by repeat (first | assumption | exact Below.refl _ _ | apply bl_gw | apply bl_alloc | apply bl_drewN | apply bl_drew))⟩
  · rw [if_pos t1]
    go_enter Try.func15, Try.ntmps15
    go_wp2_with (go_at_call 49; refine (l19Lake_any _ _ _ _).mono ?_; rintro e w1 ⟨rfl, hb⟩; obtain ⟨p, rfl⟩ := below_gw hb; clear hb)
    exact bodyPost_ret (v := .tuple #[.agg #[.int .i64 n, .int .i64 x, .int .i64 b], .bool true]) (by simp [results, Try.results15, go_sem]) rfl ⟨rfl, (by repeat (first | assumption | exact Below.refl _ _ | apply bl_gw | apply bl_alloc | apply bl_drewN | apply bl_drew))⟩
end Go.Proofs.Ytopdbacgceoddaa
