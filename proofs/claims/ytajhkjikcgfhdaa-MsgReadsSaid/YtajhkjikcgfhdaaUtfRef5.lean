/-
  inkhornref1's Len, Word, Asked.
-/
import Derived.Test.YtajhkjikcgfhdaaUtfRef4
namespace Go.Proofs.Ytajhkjikcgfhdaa
set_option linter.unusedVariables false
set_option linter.unusedSimpArgs false
set_option maxRecDepth 20000
open Go.RowKit
set_option maxHeartbeats 1000000 in
theorem reflen_any (s : ByteArray) (w : World) (hs : s.size ≤ 1000000) :
    Calls Try.prog 85 #[.string s] w fun e w' => ∃ W, e = .returned (.int .i64 (lenI s)) ∧ W = w' ∧ Below w.heap.size w W := by
  have hr := lenI_range s
  by_cases h : 0 ≤ lenI s
  · have H := Lib.hid h
    have HD : Hid (decide (0 ≤ lenI s) = true) := decide_eq_true h
    clear h hr
    go_enter Try.func85, Try.ntmps85
    go_wp2_with (go_at_call 93; (with_reducible refine (runes_any s w hs).mono ?_); rintro e w' ⟨A, m, c, ok, w1, rfl, hok, hm, rfl, b1⟩; rw [HD.out] at hok; subst hok; have HM := Lib.hid (hm H.out); clear hm)
    go_ret
    exact ⟨_, by rw [← HM.out]; rfl, rfl, b1⟩
  · have HD : Hid (decide (0 ≤ lenI s) = false) := decide_eq_false h
    have HE : Hid (lenI s = -1) := by unfold Hid; omega
    clear h hr
    go_enter Try.func85, Try.ntmps85
    go_wp2_with (go_at_call 93; (with_reducible refine (runes_any s w hs).mono ?_); rintro e w' ⟨A, m, c, ok, w1, rfl, hok, hm, rfl, b1⟩; rw [HD.out] at hok; subst hok; clear hm)
    go_ret
    exact ⟨_, by rw [HE.out]; rfl, rfl, b1⟩
theorem bel2 {a b c : World} (h : Below a.heap.size a b) (k : Below b.heap.size b c) : Below a.heap.size a c := h.trans (k.mono h.size)
set_option maxHeartbeats 1000000 in
theorem refWord_any (s : ByteArray) (w : World) (hs : s.size ≤ 1000000) :
    Calls Try.prog 86 #[.string s] w fun e w' => ∃ W, e = .returned (.bool (wordB s)) ∧ W = w' ∧ Below w.heap.size w W := by
  obtain ⟨n, hn⟩ : ∃ n, lenI s = n := ⟨_, rfl⟩
  have HN := Lib.hid hn
  have HW : Hid (wordB s = decide (1 ≤ n ∧ n ≤ 12)) := by unfold wordB Hid; rw [hn]
  rw [HW.out]
  clear hn
  by_cases h1 : 1 ≤ n
  · rw [show decide (1 ≤ n ∧ n ≤ 12) = decide (n ≤ 12) by simp [h1]]
    go_enter Try.func86, Try.ntmps86
    go_wp2_with (first
      | (go_at_call 85; (with_reducible refine (reflen_any s w hs).mono ?_); rintro e w' ⟨w1, rfl, rfl, b1⟩; rw [HN.out])
      | (go_at_call 85; (with_reducible refine (reflen_any s w1 hs).mono ?_); rintro e w' ⟨w2, rfl, rfl, b2⟩; rw [HN.out]))
    go_ret
    exact ⟨_, rfl, rfl, bel2 b1 b2⟩
  · rw [show decide (1 ≤ n ∧ n ≤ 12) = false from decide_eq_false fun h => h1 h.1]
    have hd : decide (1 ≤ n) = false := decide_eq_false h1
    go_enter Try.func86, Try.ntmps86
    go_wp2_with (go_at_call 85; (with_reducible refine (reflen_any s w hs).mono ?_); rintro e w' ⟨w1, rfl, rfl, b1⟩; rw [HN.out])
    go_ret
    exact ⟨_, rfl, rfl, b1⟩
set_option maxHeartbeats 1000000 in
theorem refAsked_any (s : ByteArray) (w : World) (hs : s.size ≤ 1000000) :
    Calls Try.prog 69 #[.string s] w fun e w' => ∃ W, e = .returned (.bool (askedB s)) ∧ W = w' ∧ Below w.heap.size w W := by
  obtain ⟨n, hn⟩ : ∃ n, lenI s = n := ⟨_, rfl⟩
  have HN := Lib.hid hn
  have HW : Hid (askedB s = decide (0 ≤ n ∧ n ≤ 16)) := by unfold askedB Hid; rw [hn]
  rw [HW.out]
  clear hn
  by_cases h1 : 0 ≤ n
  · rw [show decide (0 ≤ n ∧ n ≤ 16) = decide (n ≤ 16) by simp [h1]]
    go_enter Try.func69, Try.ntmps69
    go_wp2_with (first
      | (go_at_call 85; (with_reducible refine (reflen_any s w hs).mono ?_); rintro e w' ⟨w1, rfl, rfl, b1⟩; rw [HN.out])
      | (go_at_call 85; (with_reducible refine (reflen_any s w1 hs).mono ?_); rintro e w' ⟨w2, rfl, rfl, b2⟩; rw [HN.out]))
    go_ret
    exact ⟨_, rfl, rfl, bel2 b1 b2⟩
  · rw [show decide (0 ≤ n ∧ n ≤ 16) = false from decide_eq_false fun h => h1 h.1]
    have hd : decide (0 ≤ n) = false := decide_eq_false h1
    go_enter Try.func69, Try.ntmps69
    go_wp2_with (go_at_call 85; (with_reducible refine (reflen_any s w hs).mono ?_); rintro e w' ⟨w1, rfl, rfl, b1⟩; rw [HN.out])
    go_ret
    exact ⟨_, rfl, rfl, b1⟩
end Go.Proofs.Ytajhkjikcgfhdaa
