/-
  Equality of items and of Asks.
-/
import Derived.Test.YtajhkjikcgfhdaaMay1
namespace Go.Proofs.Ytajhkjikcgfhdaa
set_option linter.unusedVariables false
set_option linter.unusedSimpArgs false
set_option maxRecDepth 20000
open Go.RowKit
theorem bs_beq (s t : ByteArray) : (s == t) = decide (s = t) := by
  rw [Bool.eq_iff_iff]
  simp only [decide_eq_true_eq]
  obtain ⟨⟨x⟩⟩ := s
  obtain ⟨⟨y⟩⟩ := t
  show ((⟨x⟩ : Array UInt8) == ⟨y⟩) = true ↔ _
  simp
theorem bs_toList (s t : ByteArray) : (s.toList = t.toList) = (s = t) := by
  rw [ByteArray.toList_eq, ByteArray.toList_eq]
  obtain ⟨⟨x⟩⟩ := s
  obtain ⟨⟨y⟩⟩ := t
  simp
set_option maxHeartbeats 1000000 in
theorem eql_item (d e : Int) (s t : ByteArray) (w : World) : (binOp .eql 27 (.agg #[.int .i64 d, .string s]) (.agg #[.int .i64 e, .string t])).run Try.prog w = .ok (.bool (decide (d = e ∧ s = t))) w := by
  go_simp
  simp only [bs_toList]
  repeat' split
  all_goals simp_all
set_option maxHeartbeats 4000000 in
theorem eql_ask (a0 a1 a2 a3 a4 a6 a7 a9 b0 b1 b2 b3 b4 b6 b7 b9 : Int) (a8 b8 : Bool) (a5 a10 b5 b10 : ByteArray) (w : World) :
    (binOp .eql 29 (.agg #[.int .i64 a0, .int .i64 a1, .int .i64 a2, .int .i64 a3, .int .i64 a4, .string a5, .int .i64 a6, .int .i64 a7, .bool a8, .int .i64 a9, .string a10]) (.agg #[.int .i64 b0, .int .i64 b1, .int .i64 b2, .int .i64 b3, .int .i64 b4, .string b5, .int .i64 b6, .int .i64 b7, .bool b8, .int .i64 b9, .string b10])).run Try.prog w =
      .ok (.bool (decide (a0 = b0 ∧ a1 = b1 ∧ a2 = b2 ∧ a3 = b3 ∧ a4 = b4 ∧ a5 = b5 ∧ a6 = b6 ∧ a7 = b7 ∧ a8 = b8 ∧ a9 = b9 ∧ a10 = b10))) w := by
  go_simp
  simp only [bs_toList]
  repeat' split
  all_goals simp_all
end Go.Proofs.Ytajhkjikcgfhdaa
