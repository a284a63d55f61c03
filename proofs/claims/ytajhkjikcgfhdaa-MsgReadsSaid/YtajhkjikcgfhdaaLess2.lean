/-
  The order of items: rank.compare, rank.Less, inkhornref1.Compare, inkhornref10.Less.
-/
import Derived.Test.YtajhkjikcgfhdaaLess
import Derived.Test.YtajhkjikcgfhdaaUtfRef5
namespace Go.Proofs.Ytajhkjikcgfhdaa
set_option linter.unusedVariables false
set_option linter.unusedSimpArgs false
set_option maxRecDepth 20000
open Go.RowKit
theorem cell_keep {w w1 : World} {a : Addr} {v : Value} (h : w.cell? a = some v) (hb : Below w.heap.size w w1) : w1.cell? a = some v := (hb.cell (World.block_lt_of_cell? w _ h)).trans h
theorem bel_alloc (w : World) (o : Obj) : Below w.heap.size w (w.alloc o) := (Below.refl _ _).alloc (Nat.le_refl _) _
/-- How two items compare. -/
def cmpIt (d1 : Int) (s1 : ByteArray) (d2 : Int) (s2 : ByteArray) : Int := orN (cmpN d1 d2) (cmpS s1 s2)
set_option maxHeartbeats 2000000 in
theorem rankCompare_any (d1 d2 : Int) (s1 s2 : ByteArray) (w : World) :
    Calls Try.prog 84 #[.agg #[.int .i64 d1, .string s1], .agg #[.int .i64 d2, .string s2]] w fun e w' => ∃ W, e = .returned (.int .i64 (cmpIt d1 s1 d2 s2)) ∧ W = w' ∧ Below w.heap.size w W := by
  go_enter Try.func84, Try.ntmps84
  go_wp2
  have hb0 : Below w.heap.size w ((w.alloc (.cells #[.int .i64 d1, .string s1] 27)).alloc (.cells #[.int .i64 d2, .string s2] 27)) := ((Below.refl _ _).alloc (Nat.le_refl _) _).alloc (by simp) _
  have hc0 : ((w.alloc (.cells #[.int .i64 d1, .string s1] 27)).alloc (.cells #[.int .i64 d2, .string s2] 27)).cell? ⟨w.heap.size, 0, none⟩ = some (.int .i64 d1) := by simp
  have hc1 : ((w.alloc (.cells #[.int .i64 d1, .string s1] 27)).alloc (.cells #[.int .i64 d2, .string s2] 27)).cell? ⟨w.heap.size, 1, none⟩ = some (.string s1) := by simp
  have hc2 : ((w.alloc (.cells #[.int .i64 d1, .string s1] 27)).alloc (.cells #[.int .i64 d2, .string s2] 27)).cell? ⟨w.heap.size + 1, 0, none⟩ = some (.int .i64 d2) := by simp
  have hc3 : ((w.alloc (.cells #[.int .i64 d1, .string s1] 27)).alloc (.cells #[.int .i64 d2, .string s2] 27)).cell? ⟨w.heap.size + 1, 1, none⟩ = some (.string s2) := by simp
  generalize (w.alloc (.cells #[.int .i64 d1, .string s1] 27)).alloc (.cells #[.int .i64 d2, .string s2] 27) = w0 at *
  have k0 : (w0.alloc (.cells #[.int .i64 (cmpN d1 d2), .int .i64 (cmpS s1 s2)] 3)).drew.cell? ⟨w0.heap.size, 0, none⟩ = some (.int .i64 (cmpN d1 d2)) := by simp
  have k1 : (w0.alloc (.cells #[.int .i64 (cmpN d1 d2), .int .i64 (cmpS s1 s2)] 3)).drew.cell? ⟨w0.heap.size, 1, none⟩ = some (.int .i64 (cmpS s1 s2)) := by simp
  have k2 : Below w0.heap.size w0 (w0.alloc (.cells #[.int .i64 (cmpN d1 d2), .int .i64 (cmpS s1 s2)] 3)).drew := (bel_alloc _ _).drew
  go_region_held3 (fun w' => w'.cell? ⟨w.heap.size, 0, none⟩ = some (.int .i64 d1) ∧ w'.cell? ⟨w.heap.size, 1, none⟩ = some (.string s1) ∧ w'.cell? ⟨w.heap.size + 1, 0, none⟩ = some (.int .i64 d2) ∧ w'.cell? ⟨w.heap.size + 1, 1, none⟩ = some (.string s2)) (first | exact ⟨hc0, hc1, hc2, hc3⟩ | exact ⟨cell_keep hc0 k2, cell_keep hc1 k2, cell_keep hc2 k2, cell_keep hc3 k2⟩)
    (first
    | (go_at_call 91; refine (cmpInt_any _ _ _).mono ?_; rintro e w' ⟨rfl, rfl⟩)
    | (go_at_call 92; refine (textCompare_any _ _ _).mono ?_; rintro e w' ⟨rfl, rfl⟩)
    | (go_at_call 90; refine (or_any _ _ _ _ k0 k1).mono ?_; rintro e w' ⟨rfl, rfl⟩))
  go_wp2
  go_ret
  exact ⟨_, rfl, rfl, bel2 hb0 k2⟩
def lessIt (d1 : Int) (s1 : ByteArray) (d2 : Int) (s2 : ByteArray) : Bool := decide (cmpIt d1 s1 d2 s2 < 0)
set_option maxHeartbeats 2000000 in
theorem rankLess_any (d1 d2 : Int) (s1 s2 : ByteArray) (w : World) :
    Calls Try.prog 68 #[.agg #[.int .i64 d1, .string s1], .agg #[.int .i64 d2, .string s2]] w fun e w' => ∃ W, e = .returned (.bool (lessIt d1 s1 d2 s2)) ∧ W = w' ∧ Below w.heap.size w W := by
  have hb0 : Below w.heap.size w ((w.alloc (.cells #[.int .i64 d1, .string s1] 27)).alloc (.cells #[.int .i64 d2, .string s2] 27)) := ((Below.refl _ _).alloc (Nat.le_refl _) _).alloc (by simp) _
  go_enter Try.func68, Try.ntmps68
  go_wp2_with (go_at_call 84; (with_reducible refine (rankCompare_any _ _ _ _ _).mono ?_); rintro e w' ⟨w1, rfl, rfl, b1⟩)
  go_ret
  exact ⟨_, rfl, rfl, bel2 hb0 b1⟩
theorem cmpS_byte (l m : List UInt8) (k : Nat) (hl : l.take k = m.take k) (h1 : k < l.length) (h2 : k < m.length) (h : l[k] ≠ m[k]) : Lib.compareBytes l m = if l[k] < m[k] then -1 else 1 := by
  induction k generalizing l m with
  | zero =>
    cases l with
    | nil => simp at h1
    | cons a l =>
      cases m with
      | nil => simp at h2
      | cons b m =>
        simp only [List.getElem_cons_zero] at h ⊢
        unfold Lib.compareBytes
        by_cases hab : a < b
        · rw [if_pos hab, if_pos hab]
        · rw [if_neg hab, if_neg hab, if_pos]
          rcases UInt8.lt_or_lt_of_ne h with k | k
          · exact absurd k hab
          · exact k
  | succ k ih =>
    cases l with
    | nil => simp at h1
    | cons a l =>
      cases m with
      | nil => simp at h2
      | cons b m =>
        simp only [List.take_succ_cons, List.cons.injEq] at hl
        obtain ⟨rfl, hl⟩ := hl
        simp only [List.getElem_cons_succ] at h ⊢
        unfold Lib.compareBytes
        rw [if_neg (UInt8.lt_irrefl a), if_neg (UInt8.lt_irrefl a)]
        exact ih l m hl (by simpa using h1) (by simpa using h2) h
theorem cmpS_short (l m : List UInt8) (h : l.take (min l.length m.length) = m.take (min l.length m.length)) : Lib.compareBytes l m = if l.length < m.length then -1 else if m.length < l.length then 1 else 0 := by
  induction l generalizing m with
  | nil =>
    cases m with
    | nil => rfl
    | cons b m => simp [Lib.compareBytes]
  | cons a l ih =>
    cases m with
    | nil => simp [Lib.compareBytes]
    | cons b m =>
      simp only [List.length_cons, Nat.succ_min_succ, List.take_succ_cons, List.cons.injEq] at h
      obtain ⟨rfl, h⟩ := h
      unfold Lib.compareBytes
      rw [if_neg (UInt8.lt_irrefl a), if_neg (UInt8.lt_irrefl a), ih m h]
      simp
end Go.Proofs.Ytajhkjikcgfhdaa
