/- Orders of bittern: the reference's AfterOrder. -/
import Derived.Test.YtcajgadgdjopdaaAftM
import Derived.Test.YtcajgadgdjopdaaFillG
namespace Go.Proofs.Ytcajgadgdjopdaa
open Go.RowKit
theorem after_eq {l : List Bittern} {n : Nat} (hn : l.length = n) {k b : Int} (h : fillOK l k b = true) : afterP l k b = afterAt l (outTo l k (k * b) n) n := by
  unfold afterP
  rw [if_pos h, hn]
set_option maxRecDepth 4000 in
set_option maxHeartbeats 8000000 in
theorem spec_AfterOrder_any (l : List Bittern) (n : Nat) (hn : l.length = n) (A : Option Addr) (cap : Nat) (k b : Int) (w : World) (hl : n ≤ 1048576) (hc : Sl encBittern w w.heap.size A l) :
    Calls Try.prog 20 #[.slice A n cap, .int .i64 k, .int .i64 b] w fun e w' => ∃ v, e = .returned (.tuple #[v, .bool (fillOK l k b)]) ∧ Own encBittern w' w.heap.size 69 v (afterP l k b) ∧ Below w.heap.size w w' := by
  have HC := Lib.hid hc; clear hc
  have HN := Lib.hid hn; clear hn
  have HNO := Lib.hid (fun h => after_no (l := l) (k := k) (b := b) h)
  obtain ⟨i0, hinf, hz0, hz1, hz2⟩ := info_parts info_Bittern
  go_enter Try.func20, Try.ntmps20
  go_wp2_with fail
  refine (l15Asked_any l n HN.out A cap k b _ hl HC.out).mono ?_
  rintro e w1 ⟨rfl, bb⟩
  have B1 := Lib.hid bb
  have hz1' := bb.size
  clear bb
  cases hask : askedB l k b with
  | false =>
    have HF := Lib.hid (show fillOK l k b = false by simp [fillOK, hask])
    clear hask
    go_wp2
    go_ret2
    rw [HF.out, HNO.out HF.out]
    exact ⟨_, rfl, Own.nil_ B1.out.size _, bl_alloc B1.out _⟩
  | true =>
    have hn8 : n ≤ 8 := by have := areBitterns_len (askedB_in hask).1; rw [HN.out] at this; exact this
    have HK := Lib.hid hask
    clear hask
    go_wp2_with fail
    refine (l15Fill_any l n HN.out A cap k b HK.out _ ((HC.out.below B1.out).more B1.out.size)).mono ?_
    rintro e w2 ⟨v2, rfl, o2, b2⟩
    have B2 := Lib.hid (below_step B1.out b2)
    have hw2 := b2.size
    cases hF : fillOK l k b with
    | false =>
      have HF := Lib.hid hF
      clear hF o2 b2
      go_wp2
      go_ret2
      rw [HF.out, HNO.out HF.out]
      exact ⟨_, rfl, Own.nil_ B2.out.size _, bl_alloc B2.out _⟩
    | true =>
      rw [hF, if_pos rfl] at o2
      have HF := Lib.hid hF
      obtain ⟨hA, _, _, hfe⟩ := fill_feas hF
      obtain ⟨out, ho⟩ : ∃ out, outTo l k (k * b) n = out := ⟨_, rfl⟩
      have hol : out.length = n := by rw [← ho, outTo_length, HN.out]
      have HP := Lib.hid (show afterP l k b = afterAt l out n by rw [after_eq HN.out hF, ho])
      have HR := Lib.hid (fun i (hi : i < n) => (show (0 ≤ out[i]! ∧ out[i]! ≤ l[i]!.kilos) ∧ l[i]!.kilos ≤ 10000 from ⟨by have := out_rng hA hfe (i := i) (by rw [HN.out]; exact hi); rw [HN.out, ho] at this; exact this, (bitternOK_at (areBitterns_ok hA (show l[i]? = some l[i]! by rw [getElem!_pos l i (by rw [HN.out]; exact hi)]; exact List.getElem?_eq_getElem _))).2.1.2⟩))
      rw [ho] at o2
      obtain ⟨At, ct, rfl, _⟩ := o2.slice_at hol
      have T2 := Lib.hid o2
      have HOL := Lib.hid hol
      clear hF o2 b2 ho hol hA hfe
      go_wp2_with (at_builtin; refine halt ?_)
      unfold Halt
      refine wpList_app (E := encBittern) _ rfl (.tmp 28) (.tmp 29) 24 rfl w2.heap.size 69 i0 _ 24 Try.underlying24 hinf hz0 hz1 hz2 rfl (by decide) (.slice (some ⟨w2.heap.size, 0, none⟩) 0 0) [] rfl (Own.nil_ (Nat.le_refl _) _) _ A n cap l rfl HN.out (((HC.out.below B2.out).more B2.out.size).past (bl_alloc (Below.refl _ _) _)) (by simp [maxLen]; omega) (by simp; omega) (by simp) ?_
      intro v3 w3 o3 g3 _
      rw [List.nil_append] at o3
      have B3 := Lib.hid (below_grown (bl_alloc (Below.refl w2.heap.size w2) _) g3 (by intro k hk; simp [Value.ownBlock] at hk; omega))
      obtain ⟨A3, c3, rfl, _⟩ := o3.slice_at HN.out
      have O3 := Lib.hid o3
      have hz3 := B3.out.size
      clear o3 g3
      go_wp2
      go_loopw [11] (fun iv wr => ∃ i : Nat, i ≤ n ∧ iv = .int .i64 i ∧ Own encBittern wr w2.heap.size 69 (.slice A3 n c3) (afterAt l out i) ∧ Below w2.heap.size w2 wr) (fun iv _ => n - (intOf iv).toNat)
      case atStart => exact ⟨0, Nat.zero_le _, rfl, O3.out, B3.out⟩
      case round =>
        obtain ⟨i, hi, rfl, ho, hbel⟩ := hrel
        have HO := Lib.hid ho
        have HB := Lib.hid hbel
        have hz := hbel.size
        clear ho hbel
        by_cases hlt : i < n
        · obtain ⟨g, rfl⟩ := HO.out.some_ (by omega)
          obtain ⟨gt, rfl⟩ := T2.out.some_ (by omega)
          have hot : out[i]? = some out[i]! := by rw [getElem!_pos out i (by rw [HOL.out]; exact hlt)]; exact List.getElem?_eq_getElem _
          have hx : l[i]? = some l[i]! := by rw [getElem!_pos l i (by rw [HN.out]; exact hlt)]; exact List.getElem?_eq_getElem _
          obtain ⟨hgt, d0⟩ := T2.out.int hot
          obtain ⟨bk, off, rfl, hbk, hcs⟩ := HC.out.bittern (by rw [HN.out]; omega)
          obtain ⟨_, c1, _⟩ := hcs i _ hx
          obtain ⟨⟨r0, r1⟩, r2⟩ := HR.out i hlt
          have hget := afterAt_get (l := l) (out := out) (show i < l.length by rw [HN.out]; exact hlt) i
          rw [if_neg (Nat.lt_irrefl _)] at hget
          have hsu := afterAt_succ l out i
          have e1 := (HO.out.bittern hget).2.2.1
          have hgw := (HO.out.bittern hget).1
          have e2 := HO.out.thaw (i * 3 + 1)
          generalize l[i]! = x at *
          generalize out[i]! = a at *
          obtain ⟨x1, x2, x3⟩ := x
          dsimp only at c1 r0 r1 r2 e1
          rw [← HB.out.cell hgt] at d0
          rw [← B2.out.cell hbk, ← HB.out.cell (p := ⟨bk, off + i * 3 + 1, none⟩) (by have := B2.out.size; show bk < _; omega)] at c1
          have o6 := HO.out.setField (i := i) (j := 1) hlt hget (by decide) (y := subK ⟨x1, x2, x3⟩ a) (z := x2 - a) rfl (o := i * 3 + 1) rfl
          rw [← hsu] at o6
          have O6 := Lib.hid o6
          have hgl : w2.heap.size ≤ g := HO.out.lo ⟨g, 0, none⟩ rfl
          have B6 := Lib.hid (show Below w2.heap.size w2 (wr.setCell ⟨g, i * 3 + 1, none⟩ (.int .i64 (x2 - a))) from HB.out.setCell hgl _)
          have hbw : bk < wr.heap.size := by have := B2.out.size; omega
          have hgtw : gt < wr.heap.size := by omega
          have i1 : (i : Int) < n := by omega
          have i2 : (0 : Int) ≤ i := by omega
          have hi1 : i + 1 ≤ n := by omega
          have u2 : IntKind.i64.wrap (x2 - a) = x2 - a := IntWalk.i64_in _ (by omega)
          have u2' : wrap64 (x2 - a) = x2 - a := by unfold wrap64; omega
          clear hcs hx hot hget hsu o6
          go_wp2
          go_region
          have O7 := Lib.hid (O6.out.past (bl_drew (Below.refl _ _)) (Nat.le_refl _))
          clear d0 c1 e1 e2 u2 u2'
          go_wp2
          go_roundw
          case rel => exact ⟨i + 1, hi1, by go_num, O7.out, B6.out.drew⟩
          case measure => simp [intOf]; omega
        · obtain rfl : i = n := by omega
          go_wp2
          go_ret2
          rw [HF.out, HP.out]
          exact ⟨_, rfl, HO.out.lower (by omega), B2.out.trans (HB.out.mono (by omega))⟩
end Go.Proofs.Ytcajgadgdjopdaa
