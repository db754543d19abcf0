/- Why there is no plan. -/
import Derived.Test.YtbedepmcecdhfaaServed
namespace Go.Proofs.Ytbedepmcecdhfaa
open Go.RowKit
theorem dec_beq (a b : Int) : decide (a = b) = (a == b) := by by_cases h : a = b <;> simp [h]
theorem firstTo_snoc (p : Nat → Bool) (k : Nat) : (!(firstTo p (k + 1)).isNone) = ((!(firstTo p k).isNone) || p k) := by
  cases h : firstTo p k with
  | some i => simp [firstTo, h]
  | none => cases hp : p k <;> simp [firstTo, h, hp]
def servedP (D : List Ditch) (s t : List Int) (n : Nat) : Bool := (firstTo (badPond D s t) n).isNone
inductive Reason where
  | bad | none | sum | ditch | gauge
def whyP (g : List Gauge) (D : List Ditch) (s t : List Int) : Reason :=
  if asked g D s && areLevels g t then
    if (dOf (finP g D t false) s).isSome then .none else if sumI s = sumI t then if servedP D s t g.length then .gauge else .ditch else .sum
  else .bad
def Reason.ok : Reason → Bool
  | .bad => false
  | _ => true
def Reason.text : Reason → ByteArray
  | .bad => ⟨#[]⟩
  | .none => ⟨#[110, 111, 110, 101]⟩
  | .sum => ⟨#[115, 117, 109]⟩
  | .ditch => ⟨#[100, 105, 116, 99, 104]⟩
  | .gauge => ⟨#[103, 97, 117, 103, 101]⟩
theorem whyP_bad {g : List Gauge} {D : List Ditch} {s t : List Int} (h : (asked g D s && areLevels g t) = false) : whyP g D s t = .bad := by unfold whyP; rw [h]; rfl
theorem whyP_at {g : List Gauge} {D : List Ditch} {s t : List Int} (h : (asked g D s && areLevels g t) = true) :
    whyP g D s t = if (dOf (finP g D t false) s).isSome then .none else if sumI s = sumI t then if servedP D s t g.length then .gauge else .ditch else .sum := by unfold whyP; rw [if_pos h]
theorem shortP_ok {g : List Gauge} {D : List Ditch} {s t : List Int} (h : (asked g D s && areLevels g t) = true) : (shortP g D s t).2 = (dOf (finP g D t false) s).isSome := by
  unfold shortP planP
  rw [if_pos h]
  cases dOf (finP g D t false) s <;> rfl
theorem badPond_of (D : List Ditch) {s t : List Int} {i : Nat} {a b : Int} (ha : s[i]! = a) (hb : t[i]! = b) {qi qo : Bool} (h1 : (!(firstTo (endsAt D i) D.length).isNone) = qi) (h2 : (!(firstTo (startsAt D i) D.length).isNone) = qo) :
    badPond D s t i = ((decide (a < b) && !qi) || (decide (b < a) && !qo)) := by
  subst ha hb h1 h2
  simp [badPond]
set_option maxRecDepth 4000 in
set_option maxHeartbeats 16000000 in
theorem l16Served_any (D : List Ditch) (s t : List Int) (n m : Nat) (hm : D.length = m) (hr : s.length = n) (hq : t.length = n) (A' R S : Option Addr) (cap' cr cs : Nat) (w : World) (hl : n ≤ 1048576) (hl' : m ≤ 1048576)
    (hd : Sl encDitch w w.heap.size A' D) (hs : Sl encInt w w.heap.size R s) (ht : Sl encInt w w.heap.size S t) :
    Calls Try.prog 76 #[.slice A' m cap', .slice R n cr, .slice S n cs] w fun e w' => e = .returned (.bool (servedP D s t n)) ∧ Below w.heap.size w w' := by
  have HD := Lib.hid hd; clear hd
  have HS := Lib.hid hs; clear hs
  have HT := Lib.hid ht; clear ht
  have HM := Lib.hid hm; clear hm
  have HR := Lib.hid hr; clear hr
  have HTL := Lib.hid hq; clear hq
  go_enter Try.func76, Try.ntmps76
  go_wp2
  go_loopw [7] (fun i wr => ∃ k : Nat, k ≤ n ∧ i = .int .i64 k ∧ firstTo (badPond D s t) k = none ∧ Below w.heap.size w wr) (fun i _ => n - (intOf i).toNat)
  case atStart => exact ⟨0, Nat.zero_le _, rfl, rfl, Below.refl _ _⟩
  case round =>
    obtain ⟨i, hi, rfl, hall, hbel⟩ := hrel
    have HA := Lib.hid hall
    have HBL := Lib.hid hbel
    have hsz := hbel.size
    clear hall hbel
    by_cases hlt : i < n
    · have k1 : (i : Int) < n := by omega
      have k2 : (0 : Int) ≤ i := by omega
      go_wp2
      obtain ⟨wo, hwo⟩ : ∃ wo : World, wo = wr := ⟨_, rfl⟩
      subst hwo
      go_loopw [8, 9, 10] (fun u v j wr => ∃ (k : Nat) (qi qo : Bool), k ≤ m ∧ j = .int .i64 k ∧ u = .bool qi ∧ v = .bool qo ∧ (!(firstTo (endsAt D i) k).isNone) = qi ∧ (!(firstTo (startsAt D i) k).isNone) = qo ∧ Below w.heap.size w wr) (fun _ _ j _ => m - (intOf j).toNat)
      case atStart => exact ⟨0, _, _, Nat.zero_le _, rfl, rfl, rfl, rfl, rfl, HBL.out⟩
      case round =>
        clear HBL hsz
        obtain ⟨k, qi, qo, hk, rfl, rfl, rfl, h1, h2, hbel⟩ := hrel
        have HBL := Lib.hid hbel
        have hsz := hbel.size
        have H1 := Lib.hid h1
        have H2 := Lib.hid h2
        clear h1 h2 hbel
        by_cases hkm : k < m
        · obtain ⟨b, off, rfl, hb, hcs⟩ := (HD.out.past HBL.out).ditch (by rw [HM.out]; omega)
          have hx : D[k]? = some (D[k]'(by rw [HM.out]; exact hkm)) := List.getElem?_eq_getElem _
          generalize D[k]'(by rw [HM.out]; exact hkm) = x at hx
          obtain ⟨a1, a2⟩ := x
          obtain ⟨c0, c1⟩ := hcs k _ hx
          dsimp only at c0 c1
          have HE1 := Lib.hid (show (!(firstTo (endsAt D i) (k + 1)).isNone) = (qi || (a2 == (i : Int))) by rw [← dec_beq, firstTo_snoc, H1.out, endsAt, List.getElem!_of_getElem? hx])
          have HE2 := Lib.hid (show (!(firstTo (startsAt D i) (k + 1)).isNone) = (qo || (a1 == (i : Int))) by rw [← dec_beq, firstTo_snoc, H2.out, startsAt, List.getElem!_of_getElem? hx])
          clear hcs hx
          have k3 : (k : Int) < m := by omega
          have k4 : (0 : Int) ≤ k := by omega
          cases qi <;> cases qo
          all_goals
            go_wp2
            go_roundw
            case rel => exact ⟨k + 1, _, _, by omega, by go_num, rfl, rfl, by rw [HE1.out] <;> simp, by rw [HE2.out] <;> simp, HBL.out⟩
            case measure => simp [intOf]; omega
        · obtain rfl : k = m := by omega
          obtain ⟨b1, o1, rfl, hb1, hs1⟩ := (HS.out.past HBL.out).int_ (by rw [HR.out]; omega)
          obtain ⟨b2, o2, rfl, hb2, hs2⟩ := (HT.out.past HBL.out).int_ (by rw [HTL.out]; omega)
          have hx : s[i]? = some (s[i]'(by rw [HR.out]; exact hlt)) := List.getElem?_eq_getElem _
          have hy : t[i]? = some (t[i]'(by rw [HTL.out]; exact hlt)) := List.getElem?_eq_getElem _
          generalize s[i]'(by rw [HR.out]; exact hlt) = a at hx
          generalize t[i]'(by rw [HTL.out]; exact hlt) = b at hy
          have c0 := hs1 i a hx
          have c1 := hs2 i b hy
          have HBP := Lib.hid (badPond_of D (List.getElem!_of_getElem? hx) (List.getElem!_of_getElem? hy) (qi := qi) (qo := qo) (by rw [HM.out]; exact H1.out) (by rw [HM.out]; exact H2.out))
          have HBAD := Lib.hid (fun h : badPond D s t i = true => show servedP D s t n = false by unfold servedP; rw [firstTo_hit HA.out h n hlt]; rfl)
          have HGOOD := Lib.hid (fun h : badPond D s t i = false => firstTo_miss HA.out h)
          clear hx hy hs1 hs2 H1 H2
          rcases (show (a < b ∧ qi = false) ∨ (a < b ∧ qi = true) ∨ (b < a ∧ qo = false) ∨ (b < a ∧ qo = true) ∨ a = b by
            cases qi <;> cases qo <;> simp <;> omega) with ⟨h1, rfl⟩ | ⟨h1, rfl⟩ | ⟨h1, rfl⟩ | ⟨h1, rfl⟩ | rfl
          case' inl =>
            have e0 : decide (a < b) = true := decide_eq_true h1
            have HX := Lib.hid (HBAD.out (by rw [HBP.out, e0]; rfl))
          case' inr.inl =>
            have e0 : decide (a < b) = true := decide_eq_true h1
            have e1 : decide (b < a) = false := decide_eq_false (by omega)
            have HX := Lib.hid (HGOOD.out (by rw [HBP.out, e0, e1]; rfl))
          case' inr.inr.inl =>
            have e0 : decide (a < b) = false := decide_eq_false (by omega)
            have e1 : decide (b < a) = true := decide_eq_true h1
            have HX := Lib.hid (HBAD.out (by rw [HBP.out, e0, e1]; rfl))
          case' inr.inr.inr.inl =>
            have e0 : decide (a < b) = false := decide_eq_false (by omega)
            have e1 : decide (b < a) = true := decide_eq_true h1
            have HX := Lib.hid (HGOOD.out (by rw [HBP.out, e0, e1]; rfl))
          case' inr.inr.inr.inr =>
            have e0 : decide (a < a) = false := decide_eq_false (by omega)
            have HX := Lib.hid (HGOOD.out (by rw [HBP.out, e0]; rfl))
          all_goals clear HBP HBAD HGOOD
          all_goals go_wp2
          all_goals
            refine wp_region_gw (by kernel_rfl) (by kernel_rfl) ?_
            repeat (first | go_big_quiet_step ((fail)) | quiet_step ((fail)))
            refine wpQuiet_nil ?_
            rintro _ ⟨pq, rfl⟩
          all_goals go_wp2
          all_goals first
            | (go_ret
               exact ⟨ret_bool HX.out.symm, HBL.out.trans ((show Below wr.heap.size wr _ from (by repeat (first | assumption | exact Below.refl _ _ | apply bl_gw | apply bl_alloc | apply bl_drewN | apply bl_drew))).mono hsz)⟩)
            | (go_roundw
               case rel => exact ⟨i + 1, by omega, by go_num, HX.out, HBL.out.trans ((show Below wr.heap.size wr _ from (by repeat (first | assumption | exact Below.refl _ _ | apply bl_gw | apply bl_alloc | apply bl_drewN | apply bl_drew))).mono hsz)⟩
               case measure => simp [intOf]; omega)
    · obtain rfl : i = n := by omega
      go_wp2
      go_ret
      exact ⟨ret_bool (by unfold servedP; rw [HA.out]; rfl), HBL.out⟩
end Go.Proofs.Ytbedepmcecdhfaa
