/-
  The walk of inkhornlaw17.TimerNone.
-/
import Derived.Test.YtkjjdbbogfjdlaaLawTimer
namespace Go.Proofs.Ytkjjdbbogfjdlaa
set_option linter.unusedVariables false
set_option linter.unusedSimpArgs false
open Go.RowKit
theorem cell_on {w w2 : World} {p : Addr} {v : Value} (h : w.cell? p = some v) (hb : Below w.heap.size w w2) : w2.cell? p = some v := (hb.cell (World.block_lt_of_cell? w p h)).trans h
set_option maxRecDepth 20000 in
set_option maxHeartbeats 2000000 in
theorem timerNone_walk (c : Bool) (id x : Int) (w : World) :
    Calls Try.prog 7 #[.agg #[.bool c, .int .i64 id, .int .i64 x]] w fun e w' => e = .returned (.bool true) ∧ Below w.heap.size w w' := by
  have c1 : (w.alloc (.cells #[.bool c, .int .i64 id, .int .i64 x] 46)).cell? ⟨w.heap.size, 1, none⟩ = some (.int .i64 id) := cell_of_row _ _ 1 _ _ _ (heap_alloc_new w _)
  have c2 : (w.alloc (.cells #[.bool c, .int .i64 id, .int .i64 x] 46)).cell? ⟨w.heap.size, 2, none⟩ = some (.int .i64 x) := cell_of_row _ _ 2 _ _ _ (heap_alloc_new w _)
  have b0 := b_alloc w (.cells #[.bool c, .int .i64 id, .int .i64 x] 46)
  have C1 := Lib.hid c1
  have C2 := Lib.hid c2
  have B0 := Lib.hid b0
  clear c1 c2 b0
  go_enter Try.func7, Try.ntmps7
  go_wp2_with (first
    | (go_at_call 15; (refine (at_nil _ _).mono ?_); rintro e w' ⟨w1, rfl, rfl, b1⟩; have d1 := cell_on C1.out b1; have d2 := cell_on C2.out b1; have D1 := Lib.hid d1; have D2 := Lib.hid d2; have B1 := Lib.hid (B0.out.trans (b1.mono B0.out.size)); clear b1)
    | (go_at_call 10; (refine (set_nil _ _ _).mono ?_); rintro e w' ⟨w2, rfl, rfl, b2⟩; have e1 := cell_on D1.out b2; have e2 := cell_on D2.out b2; have E2 := Lib.hid e2; have B2 := Lib.hid (B1.out.trans (b2.mono B1.out.size)); clear b2 d1 d2)
    | (go_at_call 16; (refine (cancel_nil _ _).mono ?_); rintro e w' ⟨w3, rfl, rfl, b3⟩; have f2 := cell_on E2.out b3; have B3 := Lib.hid (B2.out.trans (b3.mono B2.out.size)); clear b3 e1 e2)
    | (go_at_call 13; (refine (due_nil _ _).mono ?_); rintro e w' ⟨rfl, rfl⟩)
    | (go_at_call 14; (refine (tlen_nil _).mono ?_); rintro e w' ⟨rfl, rfl⟩)
    | (go_at_call 8; refine (awake_any _).mono ?_; rintro e w' ⟨w4, rfl, rfl, b4⟩))
  go_ret
  exact ⟨rfl, B3.out.trans (b4.mono B3.out.size)⟩
end Go.Proofs.Ytkjjdbbogfjdlaa
