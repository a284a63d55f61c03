/-
  The document's order of items: inkhornref1.Compare, inkhornref10.Less.
-/
import Derived.Test.YtajhkjikcgfhdaaLess2
namespace Go.Proofs.Ytajhkjikcgfhdaa
set_option linter.unusedVariables false
set_option linter.unusedSimpArgs false
set_option maxRecDepth 20000
open Go.RowKit
theorem bytes_at (a : ByteArray) (k : Nat) (h : k < a.size) : ∃ h' : k < a.data.toList.length, a.data.toList[k]'h' = a[k]'h := ⟨by simpa using h, by simp [ByteArray.getElem_eq_getElem_data]⟩
theorem bytes_len (a : ByteArray) : a.data.toList.length = a.size := by simp
set_option maxHeartbeats 2000000 in
theorem refCompare_any (a b : ByteArray) (w : World) (ha : a.size ≤ 9223372036854775807) (hb : b.size ≤ 9223372036854775807) :
    Calls Try.prog 87 #[.string a, .string b] w fun e w' => ∃ W, e = .returned (.int .i64 (cmpS a b)) ∧ W = w' ∧ Below w.heap.size w W := by
  go_enter Try.func87, Try.ntmps87
  go_wp2
  go_loopw [5] (fun i wr => ∃ k : Nat, k ≤ a.size ∧ k ≤ b.size ∧ i = .int .i64 k ∧ Hid (a.data.toList.take k = b.data.toList.take k) ∧ Hid (∃ q, wr = w.drewN q)) (fun i _ => a.size - (intOf i).toNat)
  case atStart => exact ⟨0, by omega, by omega, rfl, rfl, ⟨0, rfl⟩⟩
  case round =>
    obtain ⟨k, hka, hkb, rfl, HS, HW⟩ := hrel
    obtain ⟨q, rfl⟩ := HW.out
    clear HW
    by_cases h1 : k < a.size
    · by_cases h2 : k < b.size
      · obtain ⟨x, hx⟩ : ∃ x : Nat, (a[k]'h1).toNat = x := ⟨_, rfl⟩
        obtain ⟨y, hy⟩ : ∃ y : Nat, (b[k]'h2).toNat = y := ⟨_, rfl⟩
        have HX := Lib.hid hx
        have HY := Lib.hid hy
        by_cases hlt : x < y
        · have HE : Hid (cmpS a b = -1) := by
            obtain ⟨g1, e1⟩ := bytes_at a k h1
            obtain ⟨g2, e2⟩ := bytes_at b k h2
            unfold cmpS Hid
            rw [cmpS_byte _ _ k HS.out g1 g2 (fun e => by
              rw [e1, e2] at e
              have := congrArg UInt8.toNat e
              omega), if_pos]
            rw [e1, e2, UInt8.lt_iff_toNat_lt]
            omega
          go_wp2
          go_quiet (fail)
          go_wp2
          go_ret
          exact ⟨_, by rw [HE.out]; rfl, rfl, by first | exact below_drewN (Below.refl _ _) _ | exact below_drewN (below_drewN (Below.refl _ _) _) _ | exact below_drewN (below_drewN (below_drewN (Below.refl _ _) _) _) _⟩
        · by_cases hgt : y < x
          · have HE : Hid (cmpS a b = 1) := by
              obtain ⟨g1, e1⟩ := bytes_at a k h1
              obtain ⟨g2, e2⟩ := bytes_at b k h2
              unfold cmpS Hid
              rw [cmpS_byte _ _ k HS.out g1 g2 (fun e => by
                rw [e1, e2] at e
                have := congrArg UInt8.toNat e
                omega), if_neg]
              rw [e1, e2, UInt8.lt_iff_toNat_lt]
              omega
            go_wp2
            go_quiet (fail)
            go_wp2
            go_quiet (fail)
            go_wp2
            go_ret
            exact ⟨_, by rw [HE.out]; rfl, rfl, by first | exact below_drewN (Below.refl _ _) _ | exact below_drewN (below_drewN (Below.refl _ _) _) _ | exact below_drewN (below_drewN (below_drewN (Below.refl _ _) _) _) _⟩
          · have HS2 : Hid (a.data.toList.take (k + 1) = b.data.toList.take (k + 1)) := by
              obtain ⟨g1, e1⟩ := bytes_at a k h1
              obtain ⟨g2, e2⟩ := bytes_at b k h2
              unfold Hid
              rw [List.take_succ_eq_append_getElem g1, List.take_succ_eq_append_getElem g2, HS.out, e1, e2]
              congr 2
              apply UInt8.toNat_inj.1
              omega
            go_wp2
            go_quiet (fail)
            go_wp2
            go_quiet (fail)
            go_wp2
            go_roundw
            case rel => exact ⟨k + 1, by omega, by omega, by go_num, HS2, ⟨_, rfl⟩⟩
            case measure => simp [intOf]; omega
      · obtain rfl : k = b.size := by omega
        have HE : Hid (cmpS a b = 1) := by
          unfold cmpS Hid
          rw [cmpS_short _ _ (by rw [bytes_len, bytes_len, Nat.min_eq_right (by omega)]; exact HS.out), bytes_len, bytes_len, if_neg (by omega), if_pos (by omega)]
        have h3 : ¬ a.size < b.size := by omega
        go_wp2
        go_ret
        exact ⟨_, by rw [HE.out]; rfl, rfl, by first | exact below_drewN (Below.refl _ _) _ | exact below_drewN (below_drewN (Below.refl _ _) _) _ | exact below_drewN (below_drewN (below_drewN (Below.refl _ _) _) _) _⟩
    · obtain rfl : k = a.size := by omega
      have d1 : decide (a.size < a.size) = false := by simp
      by_cases h2 : a.size < b.size
      · have HE : Hid (cmpS a b = -1) := by
          unfold cmpS Hid
          rw [cmpS_short _ _ (by rw [bytes_len, bytes_len, Nat.min_eq_left (by omega)]; exact HS.out), bytes_len, bytes_len, if_pos (by omega)]
        go_wp2
        go_ret
        exact ⟨_, by rw [HE.out]; rfl, rfl, by first | exact below_drewN (Below.refl _ _) _ | exact below_drewN (below_drewN (Below.refl _ _) _) _ | exact below_drewN (below_drewN (below_drewN (Below.refl _ _) _) _) _⟩
      · have h3 : ¬ b.size < a.size := by omega
        have HE : Hid (cmpS a b = 0) := by
          unfold cmpS Hid
          rw [cmpS_short _ _ (by rw [bytes_len, bytes_len, Nat.min_eq_left (by omega)]; exact HS.out), bytes_len, bytes_len, if_neg (by omega), if_neg (by omega)]
        go_wp2
        go_ret
        exact ⟨_, by rw [HE.out]; rfl, rfl, by first | exact below_drewN (Below.refl _ _) _ | exact below_drewN (below_drewN (Below.refl _ _) _) _ | exact below_drewN (below_drewN (below_drewN (Below.refl _ _) _) _) _⟩
theorem cmpS_range (a b : ByteArray) : cmpS a b = -1 ∨ cmpS a b = 0 ∨ cmpS a b = 1 := by
  unfold cmpS
  generalize a.data.toList = l
  generalize b.data.toList = m
  induction l generalizing m with
  | nil => cases m <;> simp [Lib.compareBytes]
  | cons x l ih =>
    cases m with
    | nil => simp [Lib.compareBytes]
    | cons y m =>
      unfold Lib.compareBytes
      split
      · simp
      · split
        · simp
        · exact ih m
set_option maxHeartbeats 2000000 in
theorem refLess_any (d1 d2 : Int) (s1 s2 : ByteArray) (w : World) (h1 : s1.size ≤ 9223372036854775807) (h2 : s2.size ≤ 9223372036854775807) :
    Calls Try.prog 71 #[.agg #[.int .i64 d1, .string s1], .agg #[.int .i64 d2, .string s2]] w fun e w' => ∃ W, e = .returned (.bool (lessIt d1 s1 d2 s2)) ∧ W = w' ∧ Below w.heap.size w W := by
  have hb0 : Below w.heap.size w ((w.alloc (.cells #[.int .i64 d1, .string s1] 27)).alloc (.cells #[.int .i64 d2, .string s2] 27)) := ((Below.refl _ _).alloc (Nat.le_refl _) _).alloc (by simp) _
  by_cases g1 : d1 < d2
  · rw [show lessIt d1 s1 d2 s2 = true by unfold lessIt cmpIt cmpN; rw [if_pos g1]; rfl]
    go_enter Try.func71, Try.ntmps71
    go_wp2
    go_ret
    exact ⟨_, rfl, rfl, hb0⟩
  · have g1' : decide (d1 < d2) = false := decide_eq_false g1
    by_cases g2 : d1 = d2
    · subst g2
      have hL : lessIt d1 s1 d1 s2 = decide (cmpS s1 s2 < 0) := by unfold lessIt cmpIt cmpN; rw [if_neg g1, if_neg g1]; rfl
      rw [hL]
      have b1 : (d1 == d1) = true := by simp
      clear hL
      go_enter Try.func71, Try.ntmps71
      go_wp2_with (go_at_call 87; (with_reducible refine (refCompare_any _ _ _ h1 h2).mono ?_); rintro e w' ⟨w1, rfl, rfl, b1⟩)
      go_ret
      exact ⟨_, rfl, rfl, bel2 hb0 b1⟩
    · rw [show lessIt d1 s1 d2 s2 = false by unfold lessIt cmpIt cmpN; rw [if_neg g1, if_pos (by omega)]; rfl]
      have b1 : (d1 == d2) = false := by simpa using g2
      go_enter Try.func71, Try.ntmps71
      go_wp2
      go_ret
      first | exact ⟨_, rfl, rfl, hb0⟩ | exact ⟨rfl, hb0⟩
end Go.Proofs.Ytajhkjikcgfhdaa
