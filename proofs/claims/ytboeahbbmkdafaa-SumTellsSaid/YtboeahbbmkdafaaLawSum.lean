/-
  The walks of inkhornref2.Of and of the four statements on sums.
-/
import Derived.Test.YtboeahbbmkdafaaSum
import Derived.Test.YtboeahbbmkdafaaLend
namespace Go.Proofs.Ytboeahbbmkdafaa
set_option linter.unusedVariables false
set_option linter.unusedSimpArgs false
open Go.RowKit
theorem refStep_yes {x b : Int} {q : Nat} (h : (x % 2 != (b / 2 ^ q).tmod 2) = true) : refStep b q x = Go.bits .xor .u32 (x / 2) 3988292384 := if_pos h
theorem refStep_no {x b : Int} {q : Nat} (h : (x % 2 != (b / 2 ^ q).tmod 2) = false) : refStep b q x = x / 2 := if_neg (by rw [h]; decide)
set_option maxHeartbeats 400000 in
theorem refof_any (A : Option Addr) (n cp : Nat) (zs : List Int) (w : World) (h : BReads w A n zs) :
    Calls Try.prog 15 #[.slice A n cp] w fun e w' => e = .returned (.int .u32 (refI zs)) ∧ w = w' := by
  have hm := h.2.1
  have HR := Lib.hid fun b hb => (h.range b hb)
  have HL := Lib.hid h.1
  have H := Lib.hid h
  clear h
  go_enter Try.func15, Try.ntmps15
  go_wp2
  go_loop [3, 4] (fun c i => ∃ (k : Nat) (x : Int), k ≤ n ∧ 0 ≤ x ∧ x < 4294967296 ∧ i = .int .i64 k ∧ c = .int .u32 x ∧ Hid (x = (zs.take k).foldl (fun x b => refTurn b 8 x) 4294967295)) (fun _ i => n - (intOf i).toNat)
  case atStart => exact ⟨0, 4294967295, by omega, by omega, by omega, rfl, rfl, rfl⟩
  case round =>
    obtain ⟨k, x, hk, x0, x1, rfl, rfl, HX⟩ := hrel
    by_cases hlt : k < n
    · obtain ⟨ad, rfl, hc⟩ := H.out.at_ k hlt
      obtain ⟨b0, b1⟩ := H.out.2.2.2 k
      have E := Lib.hid (foldl_take_succ (fun x b => refTurn b 8 x) 4294967295 zs k (by rw [HL.out]; exact hlt))
      go_wp2
      go_loop [3, 5, 6] (fun c j o => ∃ (q : Nat) (y : Int), q ≤ 8 ∧ 0 ≤ y ∧ y < 4294967296 ∧ j = .int .i64 q ∧ c = .int .u32 y ∧ Hid (y = refTurn (gi zs k) q x)) (fun _ j _ => 8 - (intOf j).toNat)
      case atStart => exact ⟨0, x, by omega, x0, x1, rfl, rfl, rfl⟩
      case round =>
        obtain ⟨q, y, hq, y0, y1, rfl, rfl, HY⟩ := hrel
        by_cases hlq : q < 8
        · cases hb : (y % 2 != (gi zs k / 2 ^ q).tmod 2) with
          | true =>
            have E1 := Lib.hid (refStep_yes hb)
            go_wp2
            go_round
            case rel => exact ⟨q + 1, Go.bits .xor .u32 (y / 2) 3988292384, by omega, (by
              have e : refTurn (gi zs k) (q + 1) x = Go.bits .xor .u32 (y / 2) 3988292384 := by rw [← E1.out, HY.out]; rfl
              rw [← e]; exact (refTurn_range (gi zs k) x (q + 1) b0 x0 x1).1), (by
              have e : refTurn (gi zs k) (q + 1) x = Go.bits .xor .u32 (y / 2) 3988292384 := by rw [← E1.out, HY.out]; rfl
              rw [← e]; exact (refTurn_range (gi zs k) x (q + 1) b0 x0 x1).2), by go_num, rfl, (by
              have e : refTurn (gi zs k) (q + 1) x = Go.bits .xor .u32 (y / 2) 3988292384 := by rw [← E1.out, HY.out]; rfl
              exact e.symm)⟩
            case measure => simp [intOf]; omega
          | false =>
            have E1 := Lib.hid (refStep_no hb)
            go_wp2
            go_round
            case rel => exact ⟨q + 1, y / 2, by omega, by omega, by omega, by go_num, rfl, (by
              have e : refTurn (gi zs k) (q + 1) x = y / 2 := by rw [← E1.out, HY.out]; rfl
              exact e.symm)⟩
            case measure => simp [intOf]; omega
        · obtain rfl : q = 8 := by omega
          go_wp2
          go_round
          case rel => exact ⟨k + 1, y, by omega, y0, y1, by go_num, rfl, (by
            have e := E.out
            rw [← HX.out, ← HY.out] at e
            exact e.symm)⟩
          case measure => simp [intOf]; omega
    · obtain rfl : k = n := by omega
      have E1 : Hid (4294967295 - x = refI zs) := by
        have e := HX.out
        rw [List.take_of_length_le (by rw [HL.out]; omega)] at e
        rw [e]; rfl
      go_wp2
      go_ret
      exact ⟨by rw [← E1.out]; rfl, rfl⟩
theorem doc_sum (zs : List Int) (h : ∀ z, z ∈ zs → 0 ≤ z ∧ z < 256) : (addI 0 zs == refI zs) = true := by
  rw [refI_eq zs h]; exact beq_self_eq_true _
set_option maxHeartbeats 800000 in
theorem sumTells_walk (A : Option Addr) (n cp : Nat) (zs : List Int) (w : World) (h : BReads w A n zs) :
    Calls Try.prog 3 #[.slice A n cp] w fun e w' => e = .returned (.bool true) ∧ Below w.heap.size w w' := by
  have hm := h.2.1
  have H := Lib.hid h
  have HR := Lib.hid h.range
  have HL := Lib.hid h.1
  clear h
  by_cases hn : 600 < n
  · go_enter Try.func3, Try.ntmps3
    go_wp2_with (go_at_call 12; refine (awake2_any _).mono ?_; rintro e w' ⟨rfl, hb⟩)
    go_ret
    exact ⟨rfl, hb⟩
  · have hn' : n ≤ 600 := by omega
    clear hn
    have e1 := doc_sum zs HR.out
    go_enter Try.func3, Try.ntmps3
    go_wp2_with (go_at_call 13; refine (lend_any _ _ _ _ _ H.out (by omega)).mono ?_; rintro e w' ⟨w1, rfl, rfl, hlent, hb1⟩)
    have HI := Lib.hid (hlent.breads n HL.out (by omega) HR.out)
    have HB := Lib.hid (H.out.below hb1)
    have HT := Lib.hid hlent
    clear hlent H
    go_wp2_with (first
      | (go_at_call 14; refine (of_any _ _ _ _ _ HI.out).mono ?_; rintro e w' ⟨rfl, rfl⟩)
      | (go_at_call 15; refine (refof_any _ _ _ _ _ HB.out).mono ?_; rintro e w' ⟨rfl, rfl⟩)
      | (go_at_call 16; refine (kept_any _ _ _ _ _ _ _ _ HT.out HL.out HR.out (Nat.le_trans hn' (by decide)) HB.out).mono ?_; rintro e w' ⟨rfl, q, rfl⟩)
      | (go_at_call 12; refine (awake2_any _).mono ?_; rintro e w' ⟨rfl, hb2⟩))
    go_ret
    exact ⟨rfl, hb1.trans ((below_drewN (Below.refl _ _) q).trans (hb2.mono (by simpa using hb1.size)))⟩
end Go.Proofs.Ytboeahbbmkdafaa
