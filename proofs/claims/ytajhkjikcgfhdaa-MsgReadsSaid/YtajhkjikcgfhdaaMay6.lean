/-
  Which messages may be, and of which kind they are.
-/
import Derived.Test.YtajhkjikcgfhdaaIface
namespace Go.Proofs.Ytajhkjikcgfhdaa
set_option linter.unusedVariables false
set_option linter.unusedSimpArgs false
set_option maxRecDepth 20000
open Go.RowKit
set_option maxHeartbeats 1000000 in
theorem kind_hello (hw hl : Int) (w : World) :
    Calls Try.prog 21 #[.iface 23 (.agg #[.int .i64 hw, .int .i64 hl])] w (Gives w (.int .i64 1)) := by
  have f_hello := as_hello_hello
  go_enter Try.func21, Try.ntmps21
  go_wp2
  go_ret
  exact ⟨_, rfl, rfl, bel_alloc _ _⟩
set_option maxHeartbeats 1000000 in
theorem kind_grant (gw gl ge : Int) (w : World) :
    Calls Try.prog 21 #[.iface 25 (.agg #[.int .i64 gw, .int .i64 gl, .int .i64 ge])] w (Gives w (.int .i64 2)) := by
  have f_hello := as_grant_hello
  have f_grant := as_grant_grant
  go_enter Try.func21, Try.ntmps21
  go_wp2
  go_ret
  exact ⟨_, rfl, rfl, bel2 (bel_alloc _ _) (bel_alloc _ _)⟩
set_option maxHeartbeats 1000000 in
theorem kind_ask (sl q sh sq ep : Int) (t : ByteArray) (k b : Int) (f : Bool) (d : Int) (s : ByteArray) (w : World) :
    Calls Try.prog 21 #[.iface 29 (.agg #[.int .i64 sl, .int .i64 q, .int .i64 sh, .int .i64 sq, .int .i64 ep, .string t, .int .i64 k, .int .i64 b, .bool f, .int .i64 d, .string s])] w (Gives w (.int .i64 3)) := by
  have f_hello := as_ask_hello
  have f_grant := as_ask_grant
  have f_ask := as_ask_ask
  go_enter Try.func21, Try.ntmps21
  go_wp2
  go_ret
  exact ⟨_, rfl, rfl, bel2 (bel2 (bel_alloc _ _) (bel_alloc _ _)) (bel_alloc _ _)⟩
set_option maxHeartbeats 1000000 in
theorem kind_reply (sl q sh sq wk ep : Int) (A : Option Addr) (n c : Nat) (en : Bool) (w : World) :
    Calls Try.prog 21 #[.iface 32 (.agg #[.int .i64 sl, .int .i64 q, .int .i64 sh, .int .i64 sq, .int .i64 wk, .int .i64 ep, .slice A n c, .bool en])] w (Gives w (.int .i64 4)) := by
  have f_hello := as_reply_hello
  have f_grant := as_reply_grant
  have f_ask := as_reply_ask
  have f_reply := as_reply_reply
  go_enter Try.func21, Try.ntmps21
  go_wp2
  go_ret
  exact ⟨_, rfl, rfl, bel2 (bel2 (bel2 (bel_alloc _ _) (bel_alloc _ _)) (bel_alloc _ _)) (bel_alloc _ _)⟩
set_option maxHeartbeats 1000000 in
theorem kind_stop (sl q : Int) (w : World) :
    Calls Try.prog 21 #[.iface 34 (.agg #[.int .i64 sl, .int .i64 q])] w (Gives w (.int .i64 5)) := by
  have f_hello := as_stop_hello
  have f_grant := as_stop_grant
  have f_ask := as_stop_ask
  have f_reply := as_stop_reply
  have f_stop := as_stop_stop
  go_enter Try.func21, Try.ntmps21
  go_wp2
  go_ret
  exact ⟨_, rfl, rfl, bel2 (bel2 (bel2 (bel2 (bel_alloc _ _) (bel_alloc _ _)) (bel_alloc _ _)) (bel_alloc _ _)) (bel_alloc _ _)⟩
set_option maxHeartbeats 1000000 in
theorem kind_int (x : Int) (w : World) :
    Calls Try.prog 21 #[.iface 3 (.int .i64 x)] w (Gives w (.int .i64 0)) := by
  have f_hello := as_int_hello
  have f_grant := as_int_grant
  have f_ask := as_int_ask
  have f_reply := as_int_reply
  have f_stop := as_int_stop
  go_enter Try.func21, Try.ntmps21
  go_wp2
  go_ret
  exact ⟨_, rfl, rfl, bel2 (bel2 (bel2 (bel2 (bel_alloc _ _) (bel_alloc _ _)) (bel_alloc _ _)) (bel_alloc _ _)) (bel_alloc _ _)⟩
set_option maxHeartbeats 1000000 in
theorem kind_ptr (x : Option Addr) (w : World) :
    Calls Try.prog 21 #[.iface 53 (.pointer x)] w (Gives w (.int .i64 0)) := by
  have f_hello := as_ptr_hello
  have f_grant := as_ptr_grant
  have f_ask := as_ptr_ask
  have f_reply := as_ptr_reply
  have f_stop := as_ptr_stop
  go_enter Try.func21, Try.ntmps21
  go_wp2
  go_ret
  exact ⟨_, rfl, rfl, bel2 (bel2 (bel2 (bel2 (bel_alloc _ _) (bel_alloc _ _)) (bel_alloc _ _)) (bel_alloc _ _)) (bel_alloc _ _)⟩
set_option maxHeartbeats 1000000 in
theorem kind_nil  (w : World) :
    Calls Try.prog 21 #[.nilIface] w (Gives w (.int .i64 0)) := by
  have f_hello := as_nil_hello
  have f_grant := as_nil_grant
  have f_ask := as_nil_ask
  have f_reply := as_nil_reply
  have f_stop := as_nil_stop
  go_enter Try.func21, Try.ntmps21
  go_wp2
  go_ret
  exact ⟨_, rfl, rfl, bel2 (bel2 (bel2 (bel2 (bel_alloc _ _) (bel_alloc _ _)) (bel_alloc _ _)) (bel_alloc _ _)) (bel_alloc _ _)⟩
def helloB (hw hl : Int) : Bool := inB hw 1 5 && withinB [hl]
def grantB (gw gl ge : Int) : Bool := inB gw 1 5 && withinB [gl, ge]
def stopB (sl q : Int) : Bool := placeB sl 0 && withinB [q]
set_option maxHeartbeats 1000000 in
theorem may_hello (hw hl : Int) (w : World) :
    Calls Try.prog 19 #[.iface 23 (.agg #[.int .i64 hw, .int .i64 hl])] w (Gives w (.bool (helloB hw hl))) := by
  have R0 : Hid (NReads ((w.alloc (.cells #[.int .i64 hw, .int .i64 hl] 23)).alloc (.cells #[.int .i64 hl] 3)) (some ⟨w.heap.size + 1, 0, none⟩) 1 [hl]) := by
    have := nreads1 (w.alloc (.cells #[.int .i64 hw, .int .i64 hl] 23)) hl 3
    rwa [show (w.alloc (.cells #[.int .i64 hw, .int .i64 hl] 23)).heap.size = w.heap.size + 1 by simp] at this
  have f_hello := as_hello_hello
  obtain ⟨x1, h1⟩ : ∃ x, inB hw 1 5 = x := ⟨_, rfl⟩
  have HF := Lib.hid h1
  have HE : Hid (helloB hw hl = (x1 && withinB [hl])) := by unfold helloB Hid; rw [← h1]
  rw [HE.out]
  clear h1
  cases x1
  · go_enter Try.func19, Try.ntmps19
    go_wp2_with (first
      | (go_at_call 44; (with_reducible refine (worker_any _ _).mono ?_); rintro e w' ⟨rfl, rfl⟩; rw [HF.out])
      | (go_at_call 45; (with_reducible refine (within_any _ _ _ _ _ R0.out).mono ?_); rintro e w' ⟨rfl, rfl⟩))
    go_ret
    first | exact ⟨_, rfl, rfl, bel_alloc _ _⟩ | exact ⟨_, by simp; rfl, rfl, bel_alloc _ _⟩
  · go_enter Try.func19, Try.ntmps19
    go_wp2_with (first
      | (go_at_call 44; (with_reducible refine (worker_any _ _).mono ?_); rintro e w' ⟨rfl, rfl⟩; rw [HF.out])
      | (go_at_call 45; (with_reducible refine (within_any _ _ _ _ _ R0.out).mono ?_); rintro e w' ⟨rfl, rfl⟩))
    go_ret
    first | exact ⟨_, rfl, rfl, bel2 (bel_alloc _ _) (bel_alloc _ _)⟩ | exact ⟨_, by simp; rfl, rfl, bel2 (bel_alloc _ _) (bel_alloc _ _)⟩
set_option maxHeartbeats 1000000 in
theorem refmay_hello (hw hl : Int) (w : World) :
    Calls Try.prog 20 #[.agg #[.int .i64 1, .int .i64 hw, .int .i64 hl, .int .i64 0, .int .i64 0, .int .i64 0, .int .i64 0, .int .i64 0, .int .i64 0, .int .i64 0, .int .i64 0, .string ⟨#[]⟩, .int .i64 0, .int .i64 0, .bool false, .int .i64 0, .string ⟨#[]⟩, .int .i64 0, .int .i64 0, .int .i64 0, .int .i64 0, .int .i64 0, .int .i64 0, .slice none 0 0, .bool false, .int .i64 0, .int .i64 0]] w (Gives w (.bool (helloB hw hl))) := by
  have R0 : Hid (NReads ((w.alloc (.cells #[.int .i64 1, .int .i64 hw, .int .i64 hl, .int .i64 0, .int .i64 0, .int .i64 0, .int .i64 0, .int .i64 0, .int .i64 0, .int .i64 0, .int .i64 0, .string ⟨#[]⟩, .int .i64 0, .int .i64 0, .bool false, .int .i64 0, .string ⟨#[]⟩, .int .i64 0, .int .i64 0, .int .i64 0, .int .i64 0, .int .i64 0, .int .i64 0, .slice none 0 0, .bool false, .int .i64 0, .int .i64 0] 46)).alloc (.cells #[.int .i64 hl] 3)) (some ⟨w.heap.size + 1, 0, none⟩) 1 [hl]) := by
    have := nreads1 (w.alloc (.cells #[.int .i64 1, .int .i64 hw, .int .i64 hl, .int .i64 0, .int .i64 0, .int .i64 0, .int .i64 0, .int .i64 0, .int .i64 0, .int .i64 0, .int .i64 0, .string ⟨#[]⟩, .int .i64 0, .int .i64 0, .bool false, .int .i64 0, .string ⟨#[]⟩, .int .i64 0, .int .i64 0, .int .i64 0, .int .i64 0, .int .i64 0, .int .i64 0, .slice none 0 0, .bool false, .int .i64 0, .int .i64 0] 46)) hl 3
    rwa [show (w.alloc (.cells #[.int .i64 1, .int .i64 hw, .int .i64 hl, .int .i64 0, .int .i64 0, .int .i64 0, .int .i64 0, .int .i64 0, .int .i64 0, .int .i64 0, .int .i64 0, .string ⟨#[]⟩, .int .i64 0, .int .i64 0, .bool false, .int .i64 0, .string ⟨#[]⟩, .int .i64 0, .int .i64 0, .int .i64 0, .int .i64 0, .int .i64 0, .int .i64 0, .slice none 0 0, .bool false, .int .i64 0, .int .i64 0] 46)).heap.size = w.heap.size + 1 by simp] at this
  obtain ⟨x1, h1⟩ : ∃ x, inB hw 1 5 = x := ⟨_, rfl⟩
  have HF := Lib.hid h1
  have HE : Hid (helloB hw hl = (x1 && withinB [hl])) := by unfold helloB Hid; rw [← h1]
  rw [HE.out]
  clear h1
  cases x1
  · go_enter Try.func20, Try.ntmps20
    go_wp2_with (first
      | (go_at_call 49; (with_reducible refine (in_any _ _ _ _).mono ?_); rintro e w' ⟨rfl, rfl⟩; rw [HF.out])
      | (go_at_call 50; (with_reducible refine (nums_any _ _ _ _ _ R0.out).mono ?_); rintro e w' ⟨rfl, rfl⟩))
    go_ret
    first | exact ⟨_, rfl, rfl, bel_alloc _ _⟩ | exact ⟨_, by simp; rfl, rfl, bel_alloc _ _⟩
  · go_enter Try.func20, Try.ntmps20
    go_wp2_with (first
      | (go_at_call 49; (with_reducible refine (in_any _ _ _ _).mono ?_); rintro e w' ⟨rfl, rfl⟩; rw [HF.out])
      | (go_at_call 50; (with_reducible refine (nums_any _ _ _ _ _ R0.out).mono ?_); rintro e w' ⟨rfl, rfl⟩))
    go_ret
    first | exact ⟨_, rfl, rfl, bel2 (bel_alloc _ _) (bel_alloc _ _)⟩ | exact ⟨_, by simp; rfl, rfl, bel2 (bel_alloc _ _) (bel_alloc _ _)⟩
set_option maxHeartbeats 1000000 in
theorem may_grant (gw gl ge : Int) (w : World) :
    Calls Try.prog 19 #[.iface 25 (.agg #[.int .i64 gw, .int .i64 gl, .int .i64 ge])] w (Gives w (.bool (grantB gw gl ge))) := by
  have R0 : Hid (NReads ((w.alloc (.cells #[.int .i64 gw, .int .i64 gl, .int .i64 ge] 25)).alloc (.cells #[.int .i64 gl, .int .i64 ge] 3)) (some ⟨w.heap.size + 1, 0, none⟩) 2 [gl, ge]) := by
    have := nreads2 (w.alloc (.cells #[.int .i64 gw, .int .i64 gl, .int .i64 ge] 25)) gl ge 3
    rwa [show (w.alloc (.cells #[.int .i64 gw, .int .i64 gl, .int .i64 ge] 25)).heap.size = w.heap.size + 1 by simp] at this
  have f_hello := as_grant_hello
  have f_grant := as_grant_grant
  obtain ⟨x1, h1⟩ : ∃ x, inB gw 1 5 = x := ⟨_, rfl⟩
  have HF := Lib.hid h1
  have HE : Hid (grantB gw gl ge = (x1 && withinB [gl, ge])) := by unfold grantB Hid; rw [← h1]
  rw [HE.out]
  clear h1
  cases x1
  · go_enter Try.func19, Try.ntmps19
    go_wp2_with (first
      | (go_at_call 44; (with_reducible refine (worker_any _ _).mono ?_); rintro e w' ⟨rfl, rfl⟩; rw [HF.out])
      | (go_at_call 45; (with_reducible refine (within_any _ _ _ _ _ R0.out).mono ?_); rintro e w' ⟨rfl, rfl⟩))
    go_ret
    first | exact ⟨_, rfl, rfl, bel_alloc _ _⟩ | exact ⟨_, by simp; rfl, rfl, bel_alloc _ _⟩
  · go_enter Try.func19, Try.ntmps19
    go_wp2_with (first
      | (go_at_call 44; (with_reducible refine (worker_any _ _).mono ?_); rintro e w' ⟨rfl, rfl⟩; rw [HF.out])
      | (go_at_call 45; (with_reducible refine (within_any _ _ _ _ _ R0.out).mono ?_); rintro e w' ⟨rfl, rfl⟩))
    go_ret
    first | exact ⟨_, rfl, rfl, bel2 (bel_alloc _ _) (bel_alloc _ _)⟩ | exact ⟨_, by simp; rfl, rfl, bel2 (bel_alloc _ _) (bel_alloc _ _)⟩
set_option maxHeartbeats 1000000 in
theorem refmay_grant (gw gl ge : Int) (w : World) :
    Calls Try.prog 20 #[.agg #[.int .i64 2, .int .i64 0, .int .i64 0, .int .i64 gw, .int .i64 gl, .int .i64 ge, .int .i64 0, .int .i64 0, .int .i64 0, .int .i64 0, .int .i64 0, .string ⟨#[]⟩, .int .i64 0, .int .i64 0, .bool false, .int .i64 0, .string ⟨#[]⟩, .int .i64 0, .int .i64 0, .int .i64 0, .int .i64 0, .int .i64 0, .int .i64 0, .slice none 0 0, .bool false, .int .i64 0, .int .i64 0]] w (Gives w (.bool (grantB gw gl ge))) := by
  have R0 : Hid (NReads ((w.alloc (.cells #[.int .i64 2, .int .i64 0, .int .i64 0, .int .i64 gw, .int .i64 gl, .int .i64 ge, .int .i64 0, .int .i64 0, .int .i64 0, .int .i64 0, .int .i64 0, .string ⟨#[]⟩, .int .i64 0, .int .i64 0, .bool false, .int .i64 0, .string ⟨#[]⟩, .int .i64 0, .int .i64 0, .int .i64 0, .int .i64 0, .int .i64 0, .int .i64 0, .slice none 0 0, .bool false, .int .i64 0, .int .i64 0] 46)).alloc (.cells #[.int .i64 gl, .int .i64 ge] 3)) (some ⟨w.heap.size + 1, 0, none⟩) 2 [gl, ge]) := by
    have := nreads2 (w.alloc (.cells #[.int .i64 2, .int .i64 0, .int .i64 0, .int .i64 gw, .int .i64 gl, .int .i64 ge, .int .i64 0, .int .i64 0, .int .i64 0, .int .i64 0, .int .i64 0, .string ⟨#[]⟩, .int .i64 0, .int .i64 0, .bool false, .int .i64 0, .string ⟨#[]⟩, .int .i64 0, .int .i64 0, .int .i64 0, .int .i64 0, .int .i64 0, .int .i64 0, .slice none 0 0, .bool false, .int .i64 0, .int .i64 0] 46)) gl ge 3
    rwa [show (w.alloc (.cells #[.int .i64 2, .int .i64 0, .int .i64 0, .int .i64 gw, .int .i64 gl, .int .i64 ge, .int .i64 0, .int .i64 0, .int .i64 0, .int .i64 0, .int .i64 0, .string ⟨#[]⟩, .int .i64 0, .int .i64 0, .bool false, .int .i64 0, .string ⟨#[]⟩, .int .i64 0, .int .i64 0, .int .i64 0, .int .i64 0, .int .i64 0, .int .i64 0, .slice none 0 0, .bool false, .int .i64 0, .int .i64 0] 46)).heap.size = w.heap.size + 1 by simp] at this
  obtain ⟨x1, h1⟩ : ∃ x, inB gw 1 5 = x := ⟨_, rfl⟩
  have HF := Lib.hid h1
  have HE : Hid (grantB gw gl ge = (x1 && withinB [gl, ge])) := by unfold grantB Hid; rw [← h1]
  rw [HE.out]
  clear h1
  cases x1
  · go_enter Try.func20, Try.ntmps20
    go_wp2_with (first
      | (go_at_call 49; (with_reducible refine (in_any _ _ _ _).mono ?_); rintro e w' ⟨rfl, rfl⟩; rw [HF.out])
      | (go_at_call 50; (with_reducible refine (nums_any _ _ _ _ _ R0.out).mono ?_); rintro e w' ⟨rfl, rfl⟩))
    go_ret
    first | exact ⟨_, rfl, rfl, bel_alloc _ _⟩ | exact ⟨_, by simp; rfl, rfl, bel_alloc _ _⟩
  · go_enter Try.func20, Try.ntmps20
    go_wp2_with (first
      | (go_at_call 49; (with_reducible refine (in_any _ _ _ _).mono ?_); rintro e w' ⟨rfl, rfl⟩; rw [HF.out])
      | (go_at_call 50; (with_reducible refine (nums_any _ _ _ _ _ R0.out).mono ?_); rintro e w' ⟨rfl, rfl⟩))
    go_ret
    first | exact ⟨_, rfl, rfl, bel2 (bel_alloc _ _) (bel_alloc _ _)⟩ | exact ⟨_, by simp; rfl, rfl, bel2 (bel_alloc _ _) (bel_alloc _ _)⟩
set_option maxHeartbeats 1000000 in
theorem may_stop (sl q : Int) (w : World) :
    Calls Try.prog 19 #[.iface 34 (.agg #[.int .i64 sl, .int .i64 q])] w (Gives w (.bool (stopB sl q))) := by
  have R0 : Hid (NReads ((w.alloc (.cells #[.int .i64 sl, .int .i64 q] 34)).alloc (.cells #[.int .i64 q] 3)) (some ⟨w.heap.size + 1, 0, none⟩) 1 [q]) := by
    have := nreads1 (w.alloc (.cells #[.int .i64 sl, .int .i64 q] 34)) q 3
    rwa [show (w.alloc (.cells #[.int .i64 sl, .int .i64 q] 34)).heap.size = w.heap.size + 1 by simp] at this
  have f_hello := as_stop_hello
  have f_grant := as_stop_grant
  have f_ask := as_stop_ask
  have f_reply := as_stop_reply
  have f_stop := as_stop_stop
  obtain ⟨x1, h1⟩ : ∃ x, placeB sl 0 = x := ⟨_, rfl⟩
  have HF := Lib.hid h1
  have HE : Hid (stopB sl q = (x1 && withinB [q])) := by unfold stopB Hid; rw [← h1]
  rw [HE.out]
  clear h1
  cases x1
  · go_enter Try.func19, Try.ntmps19
    go_wp2_with (first
      | (go_at_call 48; (with_reducible refine (place_any _ _ _).mono ?_); rintro e w' ⟨rfl, rfl⟩; rw [HF.out])
      | (go_at_call 45; (with_reducible refine (within_any _ _ _ _ _ R0.out).mono ?_); rintro e w' ⟨rfl, rfl⟩))
    go_ret
    first | exact ⟨_, rfl, rfl, bel_alloc _ _⟩ | exact ⟨_, by simp; rfl, rfl, bel_alloc _ _⟩
  · go_enter Try.func19, Try.ntmps19
    go_wp2_with (first
      | (go_at_call 48; (with_reducible refine (place_any _ _ _).mono ?_); rintro e w' ⟨rfl, rfl⟩; rw [HF.out])
      | (go_at_call 45; (with_reducible refine (within_any _ _ _ _ _ R0.out).mono ?_); rintro e w' ⟨rfl, rfl⟩))
    go_ret
    first | exact ⟨_, rfl, rfl, bel2 (bel_alloc _ _) (bel_alloc _ _)⟩ | exact ⟨_, by simp; rfl, rfl, bel2 (bel_alloc _ _) (bel_alloc _ _)⟩
set_option maxHeartbeats 1000000 in
theorem refmay_stop (sl q : Int) (w : World) :
    Calls Try.prog 20 #[.agg #[.int .i64 5, .int .i64 0, .int .i64 0, .int .i64 0, .int .i64 0, .int .i64 0, .int .i64 0, .int .i64 0, .int .i64 0, .int .i64 0, .int .i64 0, .string ⟨#[]⟩, .int .i64 0, .int .i64 0, .bool false, .int .i64 0, .string ⟨#[]⟩, .int .i64 0, .int .i64 0, .int .i64 0, .int .i64 0, .int .i64 0, .int .i64 0, .slice none 0 0, .bool false, .int .i64 sl, .int .i64 q]] w (Gives w (.bool (stopB sl q))) := by
  have R0 : Hid (NReads ((w.alloc (.cells #[.int .i64 5, .int .i64 0, .int .i64 0, .int .i64 0, .int .i64 0, .int .i64 0, .int .i64 0, .int .i64 0, .int .i64 0, .int .i64 0, .int .i64 0, .string ⟨#[]⟩, .int .i64 0, .int .i64 0, .bool false, .int .i64 0, .string ⟨#[]⟩, .int .i64 0, .int .i64 0, .int .i64 0, .int .i64 0, .int .i64 0, .int .i64 0, .slice none 0 0, .bool false, .int .i64 sl, .int .i64 q] 46)).alloc (.cells #[.int .i64 q] 3)) (some ⟨w.heap.size + 1, 0, none⟩) 1 [q]) := by
    have := nreads1 (w.alloc (.cells #[.int .i64 5, .int .i64 0, .int .i64 0, .int .i64 0, .int .i64 0, .int .i64 0, .int .i64 0, .int .i64 0, .int .i64 0, .int .i64 0, .int .i64 0, .string ⟨#[]⟩, .int .i64 0, .int .i64 0, .bool false, .int .i64 0, .string ⟨#[]⟩, .int .i64 0, .int .i64 0, .int .i64 0, .int .i64 0, .int .i64 0, .int .i64 0, .slice none 0 0, .bool false, .int .i64 sl, .int .i64 q] 46)) q 3
    rwa [show (w.alloc (.cells #[.int .i64 5, .int .i64 0, .int .i64 0, .int .i64 0, .int .i64 0, .int .i64 0, .int .i64 0, .int .i64 0, .int .i64 0, .int .i64 0, .int .i64 0, .string ⟨#[]⟩, .int .i64 0, .int .i64 0, .bool false, .int .i64 0, .string ⟨#[]⟩, .int .i64 0, .int .i64 0, .int .i64 0, .int .i64 0, .int .i64 0, .int .i64 0, .slice none 0 0, .bool false, .int .i64 sl, .int .i64 q] 46)).heap.size = w.heap.size + 1 by simp] at this
  obtain ⟨x1, h1⟩ : ∃ x, inB sl 0 3 = x := ⟨_, rfl⟩
  have HF := Lib.hid h1
  have HE : Hid (stopB sl q = (x1 && withinB [q])) := by unfold stopB placeB Hid; rw [show inB 0 0 5 = true from rfl, Bool.and_true, ← h1]
  rw [HE.out]
  clear h1
  cases x1
  · go_enter Try.func20, Try.ntmps20
    go_wp2_with (first
      | (go_at_call 49; (with_reducible refine (in_any _ _ _ _).mono ?_); rintro e w' ⟨rfl, rfl⟩; rw [HF.out])
      | (go_at_call 50; (with_reducible refine (nums_any _ _ _ _ _ R0.out).mono ?_); rintro e w' ⟨rfl, rfl⟩))
    go_ret
    first | exact ⟨_, rfl, rfl, bel_alloc _ _⟩ | exact ⟨_, by simp; rfl, rfl, bel_alloc _ _⟩
  · go_enter Try.func20, Try.ntmps20
    go_wp2_with (first
      | (go_at_call 49; (with_reducible refine (in_any _ _ _ _).mono ?_); rintro e w' ⟨rfl, rfl⟩; rw [HF.out])
      | (go_at_call 50; (with_reducible refine (nums_any _ _ _ _ _ R0.out).mono ?_); rintro e w' ⟨rfl, rfl⟩))
    go_ret
    first | exact ⟨_, rfl, rfl, bel2 (bel_alloc _ _) (bel_alloc _ _)⟩ | exact ⟨_, by simp; rfl, rfl, bel2 (bel_alloc _ _) (bel_alloc _ _)⟩
set_option maxHeartbeats 1000000 in
theorem may_ask (sl q sh sq ep : Int) (t : ByteArray) (k b : Int) (f : Bool) (d : Int) (s : ByteArray) (w : World) (ht : t.size ≤ 1000000) (hs : s.size ≤ 1000000) :
    Calls Try.prog 19 #[.iface 29 (.agg #[.int .i64 sl, .int .i64 q, .int .i64 sh, .int .i64 sq, .int .i64 ep, .string t, .int .i64 k, .int .i64 b, .bool f, .int .i64 d, .string s])] w (Gives w (.bool (askB sl q sh sq ep t k b f d s))) := by
  have f_hello := as_ask_hello
  have f_grant := as_ask_grant
  have f_ask := as_ask_ask
  go_enter Try.func19, Try.ntmps19
  go_wp2_with (go_at_call 46; (with_reducible refine (ask_any _ _ _ _ _ _ _ _ _ _ _ _ (Nat.le_trans ht (by omega)) (Nat.le_trans hs (by omega))).mono ?_); rintro e w' ⟨w1, rfl, rfl, b1⟩)
  go_ret
  exact ⟨_, rfl, rfl, bel2 (bel_alloc _ _) b1⟩
set_option maxHeartbeats 1000000 in
theorem refmay_ask (sl q sh sq ep : Int) (t : ByteArray) (k b : Int) (f : Bool) (d : Int) (s : ByteArray) (w : World) (ht : t.size ≤ 1000000) (hs : s.size ≤ 1000000) :
    Calls Try.prog 20 #[.agg #[.int .i64 3, .int .i64 0, .int .i64 0, .int .i64 0, .int .i64 0, .int .i64 0, .int .i64 sl, .int .i64 q, .int .i64 sh, .int .i64 sq, .int .i64 ep, .string t, .int .i64 k, .int .i64 b, .bool f, .int .i64 d, .string s, .int .i64 0, .int .i64 0, .int .i64 0, .int .i64 0, .int .i64 0, .int .i64 0, .slice none 0 0, .bool false, .int .i64 0, .int .i64 0]] w (Gives w (.bool (askB sl q sh sq ep t k b f d s))) := by
  go_enter Try.func20, Try.ntmps20
  go_wp2_with (go_at_call 51; (with_reducible refine (mayAsk_any _ _ _ _ _ _ _ _ _ _ _ _ ht hs).mono ?_); rintro e w' ⟨w1, rfl, rfl, b1⟩)
  go_ret
  exact ⟨_, rfl, rfl, bel2 (bel_alloc _ _) b1⟩
set_option maxHeartbeats 1000000 in
theorem may_reply (sl q sh sq wk ep : Int) (A : Option Addr) (n c : Nat) (en : Bool) (xs : List (Int × ByteArray)) (w : World) (h : XReads w A n xs) (hs : Small 1000000 xs) :
    Calls Try.prog 19 #[.iface 32 (.agg #[.int .i64 sl, .int .i64 q, .int .i64 sh, .int .i64 sq, .int .i64 wk, .int .i64 ep, .slice A n c, .bool en])] w (Gives w (.bool (replyB sl q sh sq wk ep xs))) := by
  have H := Lib.hid (h.below (bel_alloc w (.cells #[.int .i64 sl, .int .i64 q, .int .i64 sh, .int .i64 sq, .int .i64 wk, .int .i64 ep, .slice A n c, .bool en] 32)))
  clear h
  have f_hello := as_reply_hello
  have f_grant := as_reply_grant
  have f_ask := as_reply_ask
  have f_reply := as_reply_reply
  go_enter Try.func19, Try.ntmps19
  go_wp2_with (go_at_call 47; (with_reducible refine (reply_any _ _ _ _ _ _ _ _ _ _ _ _ H.out hs).mono ?_); rintro e w' ⟨w1, rfl, rfl, b1⟩)
  go_ret
  exact ⟨_, rfl, rfl, bel2 (bel_alloc _ _) b1⟩
set_option maxHeartbeats 1000000 in
theorem refmay_reply (sl q sh sq wk ep : Int) (A : Option Addr) (n c : Nat) (en : Bool) (xs : List (Int × ByteArray)) (w : World) (h : XReads w A n xs) (hs : Small 1000000 xs) :
    Calls Try.prog 20 #[.agg #[.int .i64 4, .int .i64 0, .int .i64 0, .int .i64 0, .int .i64 0, .int .i64 0, .int .i64 0, .int .i64 0, .int .i64 0, .int .i64 0, .int .i64 0, .string ⟨#[]⟩, .int .i64 0, .int .i64 0, .bool false, .int .i64 0, .string ⟨#[]⟩, .int .i64 sl, .int .i64 q, .int .i64 sh, .int .i64 sq, .int .i64 wk, .int .i64 ep, .slice A n c, .bool en, .int .i64 0, .int .i64 0]] w (Gives w (.bool (replyB sl q sh sq wk ep xs))) := by
  have H := Lib.hid (h.below (bel_alloc w (.cells #[.int .i64 4, .int .i64 0, .int .i64 0, .int .i64 0, .int .i64 0, .int .i64 0, .int .i64 0, .int .i64 0, .int .i64 0, .int .i64 0, .int .i64 0, .string ⟨#[]⟩, .int .i64 0, .int .i64 0, .bool false, .int .i64 0, .string ⟨#[]⟩, .int .i64 sl, .int .i64 q, .int .i64 sh, .int .i64 sq, .int .i64 wk, .int .i64 ep, .slice A n c, .bool en, .int .i64 0, .int .i64 0] 46)))
  clear h
  go_enter Try.func20, Try.ntmps20
  go_wp2_with (go_at_call 52; (with_reducible refine (mayReply_any _ _ _ _ _ _ _ _ _ _ _ _ H.out hs).mono ?_); rintro e w' ⟨w1, rfl, rfl, b1⟩)
  go_ret
  exact ⟨_, rfl, rfl, bel2 (bel_alloc _ _) b1⟩
set_option maxHeartbeats 1000000 in
theorem may_int (x : Int) (w : World) :
    Calls Try.prog 19 #[.iface 3 (.int .i64 x)] w (Gives w (.bool false)) := by
  have f_hello := as_int_hello
  have f_grant := as_int_grant
  have f_ask := as_int_ask
  have f_reply := as_int_reply
  have f_stop := as_int_stop
  go_enter Try.func19, Try.ntmps19
  go_wp2
  go_ret
  exact ⟨_, rfl, rfl, Below.refl _ _⟩
set_option maxHeartbeats 1000000 in
theorem may_nil  (w : World) :
    Calls Try.prog 19 #[.nilIface] w (Gives w (.bool false)) := by
  have f_hello := as_nil_hello
  have f_grant := as_nil_grant
  have f_ask := as_nil_ask
  have f_reply := as_nil_reply
  have f_stop := as_nil_stop
  go_enter Try.func19, Try.ntmps19
  go_wp2
  go_ret
  exact ⟨_, rfl, rfl, Below.refl _ _⟩
set_option maxHeartbeats 1000000 in
theorem refmay_none (w : World) :
    Calls Try.prog 20 #[.agg #[.int .i64 0, .int .i64 0, .int .i64 0, .int .i64 0, .int .i64 0, .int .i64 0, .int .i64 0, .int .i64 0, .int .i64 0, .int .i64 0, .int .i64 0, .string ⟨#[]⟩, .int .i64 0, .int .i64 0, .bool false, .int .i64 0, .string ⟨#[]⟩, .int .i64 0, .int .i64 0, .int .i64 0, .int .i64 0, .int .i64 0, .int .i64 0, .slice none 0 0, .bool false, .int .i64 0, .int .i64 0]] w (Gives w (.bool false)) := by
  go_enter Try.func20, Try.ntmps20
  go_wp2
  go_ret
  exact ⟨_, rfl, rfl, bel_alloc _ _⟩
end Go.Proofs.Ytajhkjikcgfhdaa
