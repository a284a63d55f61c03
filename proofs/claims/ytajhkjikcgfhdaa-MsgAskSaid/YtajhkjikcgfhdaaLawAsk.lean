/-
  msg.Ask; the walk of MsgAsk.
-/
import Derived.Test.YtajhkjikcgfhdaaGreat
namespace Go.Proofs.Ytajhkjikcgfhdaa
set_option linter.unusedVariables false
set_option linter.unusedSimpArgs false
set_option maxRecDepth 20000
open Go.RowKit
set_option maxHeartbeats 1000000 in
theorem msgask_any (sl q sh sq ep : Int) (t : ByteArray) (k b : Int) (f : Bool) (d : Int) (s : ByteArray) (w : World) :
    Calls Try.prog 31 #[.iface 29 (.agg #[.int .i64 sl, .int .i64 q, .int .i64 sh, .int .i64 sq, .int .i64 ep, .string t, .int .i64 k, .int .i64 b, .bool f, .int .i64 d, .string s])] w (Gives w (.agg #[.int .i64 sl, .int .i64 q, .int .i64 sh, .int .i64 sq, .int .i64 ep, .string t, .int .i64 k, .int .i64 b, .bool f, .int .i64 d, .string s])) := by
  have f_ask := as_ask_one
  go_enter Try.func31, Try.ntmps31
  go_wp2
  (try simp only [Exit.inBlock, Exit.then]); refine bodyPost_ret (by simp [results, Try.results31, go_sem]; try rfl) rfl ?_
  exact ⟨_, rfl, rfl, bel_alloc _ _⟩
theorem keep_all {w w1 w2 : World} {p : Addr} {v : Value} (h : w1.cell? p = some v) (hb : Below w1.heap.size w1 w2) : w2.cell? p = some v := cell_keep h hb
set_option maxHeartbeats 4000000 in
theorem msgAsk_walk (sl q sh sq ep : Int) (t : ByteArray) (k b : Int) (f : Bool) (d : Int) (s : ByteArray) (w : World) : Calls Try.prog 9 #[(.agg #[.int .i64 sl, .int .i64 q, .int .i64 sh, .int .i64 sq, .int .i64 ep, .string t, .int .i64 k, .int .i64 b, .bool f, .int .i64 d, .string s])] w (Gives w (.bool true)) := by
  by_cases h1 : 100 < t.size
  · have d1 : decide ((100 : Int) < (t.size : Int)) = true := decide_eq_true (by omega)
    go_enter Try.func9, Try.ntmps9
    go_wp2_with (go_at_call 11; (with_reducible refine (awake_any _).mono ?_); rintro e w' ⟨w9, rfl, rfl, hb9⟩)
    go_ret
    exact ⟨_, rfl, rfl, bel3 (bel_alloc _ _) hb9⟩
  by_cases h2 : 100 < s.size
  · have d1 : decide ((100 : Int) < (t.size : Int)) = false := decide_eq_false (by omega)
    have d2 : decide ((100 : Int) < (s.size : Int)) = true := decide_eq_true (by omega)
    go_enter Try.func9, Try.ntmps9
    go_wp2_with (go_at_call 11; (with_reducible refine (awake_any _).mono ?_); rintro e w' ⟨w9, rfl, rfl, hb9⟩)
    go_ret
    exact ⟨_, rfl, rfl, bel3 (bel_alloc _ _) hb9⟩
  · have d1 : decide ((100 : Int) < (t.size : Int)) = false := decide_eq_false (by omega)
    have d2 : decide ((100 : Int) < (s.size : Int)) = false := decide_eq_false (by omega)
    have hq : ∀ w, (binOp .eql 29 (.agg #[.int .i64 sl, .int .i64 q, .int .i64 sh, .int .i64 sq, .int .i64 ep, .string t, .int .i64 k, .int .i64 b, .bool f, .int .i64 d, .string s]) (.agg #[.int .i64 sl, .int .i64 q, .int .i64 sh, .int .i64 sq, .int .i64 ep, .string t, .int .i64 k, .int .i64 b, .bool f, .int .i64 d, .string s])).run Try.prog w = .ok (.bool true) w := fun w => by rw [eql_ask]; simp
    have mvh : ∀ w, MV w (.iface 29 (.agg #[.int .i64 sl, .int .i64 q, .int .i64 sh, .int .i64 sq, .int .i64 ep, .string t, .int .i64 k, .int .i64 b, .bool f, .int .i64 d, .string s])) (.ask sl q sh sq ep t k b f d s) := fun _ => rfl
    clear h1 h2
    have c0 : (w.alloc (.cells #[.int .i64 sl, .int .i64 q, .int .i64 sh, .int .i64 sq, .int .i64 ep, .string t, .int .i64 k, .int .i64 b, .bool f, .int .i64 d, .string s] 29)).cell? ⟨w.heap.size, 0, none⟩ = some (.int .i64 sl) := by simp
    have c1 : (w.alloc (.cells #[.int .i64 sl, .int .i64 q, .int .i64 sh, .int .i64 sq, .int .i64 ep, .string t, .int .i64 k, .int .i64 b, .bool f, .int .i64 d, .string s] 29)).cell? ⟨w.heap.size, 1, none⟩ = some (.int .i64 q) := by simp
    have c2 : (w.alloc (.cells #[.int .i64 sl, .int .i64 q, .int .i64 sh, .int .i64 sq, .int .i64 ep, .string t, .int .i64 k, .int .i64 b, .bool f, .int .i64 d, .string s] 29)).cell? ⟨w.heap.size, 2, none⟩ = some (.int .i64 sh) := by simp
    have c3 : (w.alloc (.cells #[.int .i64 sl, .int .i64 q, .int .i64 sh, .int .i64 sq, .int .i64 ep, .string t, .int .i64 k, .int .i64 b, .bool f, .int .i64 d, .string s] 29)).cell? ⟨w.heap.size, 3, none⟩ = some (.int .i64 sq) := by simp
    have c4 : (w.alloc (.cells #[.int .i64 sl, .int .i64 q, .int .i64 sh, .int .i64 sq, .int .i64 ep, .string t, .int .i64 k, .int .i64 b, .bool f, .int .i64 d, .string s] 29)).cell? ⟨w.heap.size, 4, none⟩ = some (.int .i64 ep) := by simp
    have c5 : (w.alloc (.cells #[.int .i64 sl, .int .i64 q, .int .i64 sh, .int .i64 sq, .int .i64 ep, .string t, .int .i64 k, .int .i64 b, .bool f, .int .i64 d, .string s] 29)).cell? ⟨w.heap.size, 5, none⟩ = some (.string t) := by simp
    have c6 : (w.alloc (.cells #[.int .i64 sl, .int .i64 q, .int .i64 sh, .int .i64 sq, .int .i64 ep, .string t, .int .i64 k, .int .i64 b, .bool f, .int .i64 d, .string s] 29)).cell? ⟨w.heap.size, 6, none⟩ = some (.int .i64 k) := by simp
    have c7 : (w.alloc (.cells #[.int .i64 sl, .int .i64 q, .int .i64 sh, .int .i64 sq, .int .i64 ep, .string t, .int .i64 k, .int .i64 b, .bool f, .int .i64 d, .string s] 29)).cell? ⟨w.heap.size, 7, none⟩ = some (.int .i64 b) := by simp
    have c8 : (w.alloc (.cells #[.int .i64 sl, .int .i64 q, .int .i64 sh, .int .i64 sq, .int .i64 ep, .string t, .int .i64 k, .int .i64 b, .bool f, .int .i64 d, .string s] 29)).cell? ⟨w.heap.size, 8, none⟩ = some (.bool f) := by simp
    have c9 : (w.alloc (.cells #[.int .i64 sl, .int .i64 q, .int .i64 sh, .int .i64 sq, .int .i64 ep, .string t, .int .i64 k, .int .i64 b, .bool f, .int .i64 d, .string s] 29)).cell? ⟨w.heap.size, 9, none⟩ = some (.int .i64 d) := by simp
    have c10 : (w.alloc (.cells #[.int .i64 sl, .int .i64 q, .int .i64 sh, .int .i64 sq, .int .i64 ep, .string t, .int .i64 k, .int .i64 b, .bool f, .int .i64 d, .string s] 29)).cell? ⟨w.heap.size, 10, none⟩ = some (.string s) := by simp
    have hb0 : Below w.heap.size w (w.alloc (.cells #[.int .i64 sl, .int .i64 q, .int .i64 sh, .int .i64 sq, .int .i64 ep, .string t, .int .i64 k, .int .i64 b, .bool f, .int .i64 d, .string s] 29)) := bel_alloc _ _
    go_enter Try.func9, Try.ntmps9
    go_wp2_with fail
    generalize w.alloc (.cells #[.int .i64 sl, .int .i64 q, .int .i64 sh, .int .i64 sq, .int .i64 ep, .string t, .int .i64 k, .int .i64 b, .bool f, .int .i64 d, .string s] 29) = w0 at *
    have c0 : w0.drew.cell? ⟨w.heap.size, 0, none⟩ = some (.int .i64 sl) := c0
    have c1 : w0.drew.cell? ⟨w.heap.size, 1, none⟩ = some (.int .i64 q) := c1
    have c2 : w0.drew.cell? ⟨w.heap.size, 2, none⟩ = some (.int .i64 sh) := c2
    have c3 : w0.drew.cell? ⟨w.heap.size, 3, none⟩ = some (.int .i64 sq) := c3
    have c4 : w0.drew.cell? ⟨w.heap.size, 4, none⟩ = some (.int .i64 ep) := c4
    have c5 : w0.drew.cell? ⟨w.heap.size, 5, none⟩ = some (.string t) := c5
    have c6 : w0.drew.cell? ⟨w.heap.size, 6, none⟩ = some (.int .i64 k) := c6
    have c7 : w0.drew.cell? ⟨w.heap.size, 7, none⟩ = some (.int .i64 b) := c7
    have c8 : w0.drew.cell? ⟨w.heap.size, 8, none⟩ = some (.bool f) := c8
    have c9 : w0.drew.cell? ⟨w.heap.size, 9, none⟩ = some (.int .i64 d) := c9
    have c10 : w0.drew.cell? ⟨w.heap.size, 10, none⟩ = some (.string s) := c10
    have hb0 : Below w.heap.size w w0.drew := hb0.drew
    go_region_held3 (fun w' => w'.cell? ⟨w.heap.size, 0, none⟩ = some (.int .i64 sl) ∧ w'.cell? ⟨w.heap.size, 1, none⟩ = some (.int .i64 q) ∧ w'.cell? ⟨w.heap.size, 2, none⟩ = some (.int .i64 sh) ∧ w'.cell? ⟨w.heap.size, 3, none⟩ = some (.int .i64 sq) ∧ w'.cell? ⟨w.heap.size, 4, none⟩ = some (.int .i64 ep) ∧ w'.cell? ⟨w.heap.size, 5, none⟩ = some (.string t) ∧ w'.cell? ⟨w.heap.size, 6, none⟩ = some (.int .i64 k) ∧ w'.cell? ⟨w.heap.size, 7, none⟩ = some (.int .i64 b) ∧ w'.cell? ⟨w.heap.size, 8, none⟩ = some (.bool f) ∧ w'.cell? ⟨w.heap.size, 9, none⟩ = some (.int .i64 d) ∧ w'.cell? ⟨w.heap.size, 10, none⟩ = some (.string s)) (first | exact ⟨c0, c1, c2, c3, c4, c5, c6, c7, c8, c9, c10⟩ | exact ⟨cell_keep c0 K1, cell_keep c1 K1, cell_keep c2 K1, cell_keep c3 K1, cell_keep c4 K1, cell_keep c5 K1, cell_keep c6 K1, cell_keep c7 K1, cell_keep c8 K1, cell_keep c9 K1, cell_keep c10 K1⟩ | exact ⟨cell_keep c0 K2, cell_keep c1 K2, cell_keep c2 K2, cell_keep c3 K2, cell_keep c4 K2, cell_keep c5 K2, cell_keep c6 K2, cell_keep c7 K2, cell_keep c8 K2, cell_keep c9 K2, cell_keep c10 K2⟩ | exact ⟨cell_keep c0 K3, cell_keep c1 K3, cell_keep c2 K3, cell_keep c3 K3, cell_keep c4 K3, cell_keep c5 K3, cell_keep c6 K3, cell_keep c7 K3, cell_keep c8 K3, cell_keep c9 K3, cell_keep c10 K3⟩)
      (first
      | (go_at_call 31; refine (msgask_any sl q sh sq ep t k b f d s _).mono ?_; rintro e w' ⟨w1, rfl, rfl, b1⟩; have K1 := b1)
      | (go_at_call 21; refine (kind_m _ (.ask sl q sh sq ep t k b f d s) _ (mvh _)).mono ?_; rintro e w' ⟨w2, rfl, rfl, b2⟩; have K2 := bel3 K1 b2)
      | (go_at_call 11; refine (awake_any _).mono ?_; rintro e w' ⟨w3, rfl, rfl, b3⟩; have K3 := bel3 K2 b3))
    go_wp2
    go_ret
    exact ⟨_, rfl, rfl, bel3 hb0 K3⟩
end Go.Proofs.Ytajhkjikcgfhdaa
