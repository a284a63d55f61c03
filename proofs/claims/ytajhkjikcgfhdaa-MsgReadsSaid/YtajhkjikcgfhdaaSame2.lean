/-
  SameReply, SameMsg.
-/
import Derived.Test.YtajhkjikcgfhdaaSame
namespace Go.Proofs.Ytajhkjikcgfhdaa
set_option linter.unusedVariables false
set_option linter.unusedSimpArgs false
set_option maxRecDepth 20000
open Go.RowKit
def sameR (a0 a1 a2 a3 a4 a5 : Int) (ea : Bool) (xs : List (Int × ByteArray)) (b0 b1 b2 b3 b4 b5 : Int) (eb : Bool) (ys : List (Int × ByteArray)) : Bool :=
  decide (a0 = b0 ∧ a1 = b1 ∧ a2 = b2 ∧ a3 = b3 ∧ a4 = b4 ∧ a5 = b5 ∧ ea = eb ∧ xs = ys)
set_option maxHeartbeats 4000000 in
theorem sameReply_any (a0 a1 a2 a3 a4 a5 b0 b1 b2 b3 b4 b5 : Int) (A B : Option Addr) (n c m d : Nat) (ea eb : Bool) (xs ys : List (Int × ByteArray)) (w : World) (hx : XReads w A n xs) (hy : XReads w B m ys) :
    Calls Try.prog 59 #[.agg #[.int .i64 a0, .int .i64 a1, .int .i64 a2, .int .i64 a3, .int .i64 a4, .int .i64 a5, .slice A n c, .bool ea], .agg #[.int .i64 b0, .int .i64 b1, .int .i64 b2, .int .i64 b3, .int .i64 b4, .int .i64 b5, .slice B m d, .bool eb]] w (Gives w (.bool (sameR a0 a1 a2 a3 a4 a5 ea xs b0 b1 b2 b3 b4 b5 eb ys))) := by
  have hb : Below w.heap.size w ((w.alloc (.cells #[.int .i64 a0, .int .i64 a1, .int .i64 a2, .int .i64 a3, .int .i64 a4, .int .i64 a5, .slice A n c, .bool ea] 32)).alloc (.cells #[.int .i64 b0, .int .i64 b1, .int .i64 b2, .int .i64 b3, .int .i64 b4, .int .i64 b5, .slice B m d, .bool eb] 32)) := bel2 (bel_alloc _ _) (bel_alloc _ _)
  have HB := Lib.hid hb
  have HX := Lib.hid (hx.below hb)
  have HY := Lib.hid (hy.below hb)
  clear hx hy hb
  obtain ⟨r, hr⟩ : ∃ r, sameR a0 a1 a2 a3 a4 a5 ea xs b0 b1 b2 b3 b4 b5 eb ys = r := ⟨_, rfl⟩
  have HR := Lib.hid hr
  rw [hr]
  clear hr
  by_cases e0 : a0 = b0
  · have HE0 := Lib.hid e0
    have q0 : (a0 == b0) = true := by simpa using e0
    clear e0
    by_cases e1 : a1 = b1
    · have HE1 := Lib.hid e1
      have q1 : (a1 == b1) = true := by simpa using e1
      clear e1
      by_cases e2 : a2 = b2
      · have HE2 := Lib.hid e2
        have q2 : (a2 == b2) = true := by simpa using e2
        clear e2
        by_cases e3 : a3 = b3
        · have HE3 := Lib.hid e3
          have q3 : (a3 == b3) = true := by simpa using e3
          clear e3
          by_cases e4 : a4 = b4
          · have HE4 := Lib.hid e4
            have q4 : (a4 == b4) = true := by simpa using e4
            clear e4
            by_cases e5 : a5 = b5
            · have HE5 := Lib.hid e5
              have q5 : (a5 == b5) = true := by simpa using e5
              clear e5
              cases ea
              · cases eb
                · have hr : r = decide (xs = ys) := by rw [← HR.out]; unfold sameR; simp [HE0.out, HE1.out, HE2.out, HE3.out, HE4.out, HE5.out]
                  subst hr
                  go_enter Try.func59, Try.ntmps59
                  go_wp2_with (go_at_call 53; (with_reducible refine (sameItems_any _ _ _ _ _ _ _ _ _ HX.out HY.out).mono ?_); rintro e w' ⟨rfl, q, rfl⟩)
                  go_ret
                  exact ⟨_, rfl, rfl, below_drewN HB.out q⟩
                · have hr : r = false := by rw [← HR.out]; unfold sameR; simp []
                  subst hr
                  go_enter Try.func59, Try.ntmps59
                  go_wp2
                  go_ret
                  first | exact ⟨_, rfl, rfl, HB.out⟩ | exact ⟨rfl, HB.out⟩
              · cases eb
                · have hr : r = false := by rw [← HR.out]; unfold sameR; simp []
                  subst hr
                  go_enter Try.func59, Try.ntmps59
                  go_wp2
                  go_ret
                  first | exact ⟨_, rfl, rfl, HB.out⟩ | exact ⟨rfl, HB.out⟩
                · have hr : r = decide (xs = ys) := by rw [← HR.out]; unfold sameR; simp [HE0.out, HE1.out, HE2.out, HE3.out, HE4.out, HE5.out]
                  subst hr
                  go_enter Try.func59, Try.ntmps59
                  go_wp2_with (go_at_call 53; (with_reducible refine (sameItems_any _ _ _ _ _ _ _ _ _ HX.out HY.out).mono ?_); rintro e w' ⟨rfl, q, rfl⟩)
                  go_ret
                  exact ⟨_, rfl, rfl, below_drewN HB.out q⟩
            · have q5 : (a5 == b5) = false := by simpa using e5
              have hr : r = false := by rw [← HR.out]; unfold sameR; simp [e5]
              subst hr
              go_enter Try.func59, Try.ntmps59
              go_wp2
              go_ret
              first | exact ⟨_, rfl, rfl, HB.out⟩ | exact ⟨rfl, HB.out⟩
          · have q4 : (a4 == b4) = false := by simpa using e4
            have hr : r = false := by rw [← HR.out]; unfold sameR; simp [e4]
            subst hr
            go_enter Try.func59, Try.ntmps59
            go_wp2
            go_ret
            first | exact ⟨_, rfl, rfl, HB.out⟩ | exact ⟨rfl, HB.out⟩
        · have q3 : (a3 == b3) = false := by simpa using e3
          have hr : r = false := by rw [← HR.out]; unfold sameR; simp [e3]
          subst hr
          go_enter Try.func59, Try.ntmps59
          go_wp2
          go_ret
          first | exact ⟨_, rfl, rfl, HB.out⟩ | exact ⟨rfl, HB.out⟩
      · have q2 : (a2 == b2) = false := by simpa using e2
        have hr : r = false := by rw [← HR.out]; unfold sameR; simp [e2]
        subst hr
        go_enter Try.func59, Try.ntmps59
        go_wp2
        go_ret
        first | exact ⟨_, rfl, rfl, HB.out⟩ | exact ⟨rfl, HB.out⟩
    · have q1 : (a1 == b1) = false := by simpa using e1
      have hr : r = false := by rw [← HR.out]; unfold sameR; simp [e1]
      subst hr
      go_enter Try.func59, Try.ntmps59
      go_wp2
      go_ret
      first | exact ⟨_, rfl, rfl, HB.out⟩ | exact ⟨rfl, HB.out⟩
  · have q0 : (a0 == b0) = false := by simpa using e0
    have hr : r = false := by rw [← HR.out]; unfold sameR; simp [e0]
    subst hr
    go_enter Try.func59, Try.ntmps59
    go_wp2
    go_ret
    first | exact ⟨_, rfl, rfl, HB.out⟩ | exact ⟨rfl, HB.out⟩
def sameM : M → M → Bool
  | .hello a b, .hello c d => decide (a = c ∧ b = d)
  | .grant a b c, .grant d e f => decide (a = d ∧ b = e ∧ c = f)
  | .ask a0 a1 a2 a3 a4 a5 a6 a7 a8 a9 a10, .ask b0 b1 b2 b3 b4 b5 b6 b7 b8 b9 b10 => decide (a0 = b0 ∧ a1 = b1 ∧ a2 = b2 ∧ a3 = b3 ∧ a4 = b4 ∧ a5 = b5 ∧ a6 = b6 ∧ a7 = b7 ∧ a8 = b8 ∧ a9 = b9 ∧ a10 = b10)
  | .reply a0 a1 a2 a3 a4 a5 xs ea, .reply b0 b1 b2 b3 b4 b5 ys eb => sameR a0 a1 a2 a3 a4 a5 ea xs b0 b1 b2 b3 b4 b5 eb ys
  | .stop a b, .stop c d => decide (a = c ∧ b = d)
  | _, _ => false
set_option maxHeartbeats 2000000 in
theorem same_hello (hw hl : Int) (x0 x1 : Int) (w : World) :
    Calls Try.prog 27 #[.iface 23 (.agg #[.int .i64 hw, .int .i64 hl]), .iface 23 (.agg #[.int .i64 x0, .int .i64 x1])] w (Gives w (.bool (sameM (.hello hw hl) (.hello x0 x1)))) := by
  have f_hello := as_hello_hello
  obtain ⟨r, hr⟩ : ∃ r, sameM (.hello hw hl) (.hello x0 x1) = r := ⟨_, rfl⟩
  have he : ∀ w, (binOp .eql 23 (.agg #[.int .i64 hw, .int .i64 hl]) (.agg #[.int .i64 x0, .int .i64 x1])).run Try.prog w = .ok (.bool r) w := fun w => by rw [← hr]; exact eql_two _ (.inl rfl) hw hl x0 x1 w
  rw [hr]
  clear hr
  go_enter Try.func27, Try.ntmps27
  go_wp2
  go_ret
  exact ⟨_, rfl, rfl, bel2 (bel_alloc _ _) (bel_alloc _ _)⟩
set_option maxHeartbeats 2000000 in
theorem unlike_hello_grant (hw hl : Int) (x0 x1 x2 : Int) (w : World) :
    Calls Try.prog 27 #[.iface 23 (.agg #[.int .i64 hw, .int .i64 hl]), .iface 25 (.agg #[.int .i64 x0, .int .i64 x1, .int .i64 x2])] w (Gives w (.bool false)) := by
  have f_hello := as_hello_hello
  have g_hello := as_grant_hello
  go_enter Try.func27, Try.ntmps27
  go_wp2
  go_ret
  exact ⟨_, rfl, rfl, bel2 (bel_alloc _ _) (bel_alloc _ _)⟩
set_option maxHeartbeats 2000000 in
theorem unlike_hello_ask (hw hl : Int) (x0 x1 x2 x3 x4 : Int) (x5 : ByteArray) (x6 x7 : Int) (x8 : Bool) (x9 : Int) (x10 : ByteArray) (w : World) :
    Calls Try.prog 27 #[.iface 23 (.agg #[.int .i64 hw, .int .i64 hl]), .iface 29 (.agg #[.int .i64 x0, .int .i64 x1, .int .i64 x2, .int .i64 x3, .int .i64 x4, .string x5, .int .i64 x6, .int .i64 x7, .bool x8, .int .i64 x9, .string x10])] w (Gives w (.bool false)) := by
  have f_hello := as_hello_hello
  have g_hello := as_ask_hello
  go_enter Try.func27, Try.ntmps27
  go_wp2
  go_ret
  exact ⟨_, rfl, rfl, bel2 (bel_alloc _ _) (bel_alloc _ _)⟩
set_option maxHeartbeats 2000000 in
theorem unlike_hello_reply (hw hl : Int) (x0 x1 x2 x3 x4 x5 : Int) (B : Option Addr) (m e : Nat) (x7 : Bool) (w : World) :
    Calls Try.prog 27 #[.iface 23 (.agg #[.int .i64 hw, .int .i64 hl]), .iface 32 (.agg #[.int .i64 x0, .int .i64 x1, .int .i64 x2, .int .i64 x3, .int .i64 x4, .int .i64 x5, .slice B m e, .bool x7])] w (Gives w (.bool false)) := by
  have f_hello := as_hello_hello
  have g_hello := as_reply_hello
  go_enter Try.func27, Try.ntmps27
  go_wp2
  go_ret
  exact ⟨_, rfl, rfl, bel2 (bel_alloc _ _) (bel_alloc _ _)⟩
set_option maxHeartbeats 2000000 in
theorem unlike_hello_stop (hw hl : Int) (x0 x1 : Int) (w : World) :
    Calls Try.prog 27 #[.iface 23 (.agg #[.int .i64 hw, .int .i64 hl]), .iface 34 (.agg #[.int .i64 x0, .int .i64 x1])] w (Gives w (.bool false)) := by
  have f_hello := as_hello_hello
  have g_hello := as_stop_hello
  go_enter Try.func27, Try.ntmps27
  go_wp2
  go_ret
  exact ⟨_, rfl, rfl, bel2 (bel_alloc _ _) (bel_alloc _ _)⟩
set_option maxHeartbeats 2000000 in
theorem unlike_hello_int (hw hl : Int) (x0 : Int) (w : World) :
    Calls Try.prog 27 #[.iface 23 (.agg #[.int .i64 hw, .int .i64 hl]), .iface 3 (.int .i64 x0)] w (Gives w (.bool false)) := by
  have f_hello := as_hello_hello
  have g_hello := as_int_hello
  go_enter Try.func27, Try.ntmps27
  go_wp2
  go_ret
  exact ⟨_, rfl, rfl, bel2 (bel_alloc _ _) (bel_alloc _ _)⟩
set_option maxHeartbeats 2000000 in
theorem unlike_hello_nil (hw hl : Int)  (w : World) :
    Calls Try.prog 27 #[.iface 23 (.agg #[.int .i64 hw, .int .i64 hl]), .nilIface] w (Gives w (.bool false)) := by
  have f_hello := as_hello_hello
  have g_hello := as_nil_hello
  go_enter Try.func27, Try.ntmps27
  go_wp2
  go_ret
  exact ⟨_, rfl, rfl, bel2 (bel_alloc _ _) (bel_alloc _ _)⟩
set_option maxHeartbeats 2000000 in
theorem same_grant (gw gl ge : Int) (x0 x1 x2 : Int) (w : World) :
    Calls Try.prog 27 #[.iface 25 (.agg #[.int .i64 gw, .int .i64 gl, .int .i64 ge]), .iface 25 (.agg #[.int .i64 x0, .int .i64 x1, .int .i64 x2])] w (Gives w (.bool (sameM (.grant gw gl ge) (.grant x0 x1 x2)))) := by
  have f_hello := as_grant_hello
  have f_grant := as_grant_grant
  obtain ⟨r, hr⟩ : ∃ r, sameM (.grant gw gl ge) (.grant x0 x1 x2) = r := ⟨_, rfl⟩
  have he : ∀ w, (binOp .eql 25 (.agg #[.int .i64 gw, .int .i64 gl, .int .i64 ge]) (.agg #[.int .i64 x0, .int .i64 x1, .int .i64 x2])).run Try.prog w = .ok (.bool r) w := fun w => by rw [← hr]; exact eql_grant gw gl ge x0 x1 x2 w
  rw [hr]
  clear hr
  go_enter Try.func27, Try.ntmps27
  go_wp2
  go_ret
  exact ⟨_, rfl, rfl, bel2 (bel_alloc _ _) (bel_alloc _ _)⟩
set_option maxHeartbeats 2000000 in
theorem unlike_grant_hello (gw gl ge : Int) (x0 x1 : Int) (w : World) :
    Calls Try.prog 27 #[.iface 25 (.agg #[.int .i64 gw, .int .i64 gl, .int .i64 ge]), .iface 23 (.agg #[.int .i64 x0, .int .i64 x1])] w (Gives w (.bool false)) := by
  have f_hello := as_grant_hello
  have f_grant := as_grant_grant
  have g_grant := as_hello_grant
  go_enter Try.func27, Try.ntmps27
  go_wp2
  go_ret
  exact ⟨_, rfl, rfl, bel2 (bel_alloc _ _) (bel_alloc _ _)⟩
set_option maxHeartbeats 2000000 in
theorem unlike_grant_ask (gw gl ge : Int) (x0 x1 x2 x3 x4 : Int) (x5 : ByteArray) (x6 x7 : Int) (x8 : Bool) (x9 : Int) (x10 : ByteArray) (w : World) :
    Calls Try.prog 27 #[.iface 25 (.agg #[.int .i64 gw, .int .i64 gl, .int .i64 ge]), .iface 29 (.agg #[.int .i64 x0, .int .i64 x1, .int .i64 x2, .int .i64 x3, .int .i64 x4, .string x5, .int .i64 x6, .int .i64 x7, .bool x8, .int .i64 x9, .string x10])] w (Gives w (.bool false)) := by
  have f_hello := as_grant_hello
  have f_grant := as_grant_grant
  have g_grant := as_ask_grant
  go_enter Try.func27, Try.ntmps27
  go_wp2
  go_ret
  exact ⟨_, rfl, rfl, bel2 (bel_alloc _ _) (bel_alloc _ _)⟩
set_option maxHeartbeats 2000000 in
theorem unlike_grant_reply (gw gl ge : Int) (x0 x1 x2 x3 x4 x5 : Int) (B : Option Addr) (m e : Nat) (x7 : Bool) (w : World) :
    Calls Try.prog 27 #[.iface 25 (.agg #[.int .i64 gw, .int .i64 gl, .int .i64 ge]), .iface 32 (.agg #[.int .i64 x0, .int .i64 x1, .int .i64 x2, .int .i64 x3, .int .i64 x4, .int .i64 x5, .slice B m e, .bool x7])] w (Gives w (.bool false)) := by
  have f_hello := as_grant_hello
  have f_grant := as_grant_grant
  have g_grant := as_reply_grant
  go_enter Try.func27, Try.ntmps27
  go_wp2
  go_ret
  exact ⟨_, rfl, rfl, bel2 (bel_alloc _ _) (bel_alloc _ _)⟩
set_option maxHeartbeats 2000000 in
theorem unlike_grant_stop (gw gl ge : Int) (x0 x1 : Int) (w : World) :
    Calls Try.prog 27 #[.iface 25 (.agg #[.int .i64 gw, .int .i64 gl, .int .i64 ge]), .iface 34 (.agg #[.int .i64 x0, .int .i64 x1])] w (Gives w (.bool false)) := by
  have f_hello := as_grant_hello
  have f_grant := as_grant_grant
  have g_grant := as_stop_grant
  go_enter Try.func27, Try.ntmps27
  go_wp2
  go_ret
  exact ⟨_, rfl, rfl, bel2 (bel_alloc _ _) (bel_alloc _ _)⟩
set_option maxHeartbeats 2000000 in
theorem unlike_grant_int (gw gl ge : Int) (x0 : Int) (w : World) :
    Calls Try.prog 27 #[.iface 25 (.agg #[.int .i64 gw, .int .i64 gl, .int .i64 ge]), .iface 3 (.int .i64 x0)] w (Gives w (.bool false)) := by
  have f_hello := as_grant_hello
  have f_grant := as_grant_grant
  have g_grant := as_int_grant
  go_enter Try.func27, Try.ntmps27
  go_wp2
  go_ret
  exact ⟨_, rfl, rfl, bel2 (bel_alloc _ _) (bel_alloc _ _)⟩
set_option maxHeartbeats 2000000 in
theorem unlike_grant_nil (gw gl ge : Int)  (w : World) :
    Calls Try.prog 27 #[.iface 25 (.agg #[.int .i64 gw, .int .i64 gl, .int .i64 ge]), .nilIface] w (Gives w (.bool false)) := by
  have f_hello := as_grant_hello
  have f_grant := as_grant_grant
  have g_grant := as_nil_grant
  go_enter Try.func27, Try.ntmps27
  go_wp2
  go_ret
  exact ⟨_, rfl, rfl, bel2 (bel_alloc _ _) (bel_alloc _ _)⟩
set_option maxHeartbeats 2000000 in
theorem same_ask (sl q sh sq ep : Int) (t : ByteArray) (k b : Int) (f : Bool) (d : Int) (s : ByteArray) (x0 x1 x2 x3 x4 : Int) (x5 : ByteArray) (x6 x7 : Int) (x8 : Bool) (x9 : Int) (x10 : ByteArray) (w : World) :
    Calls Try.prog 27 #[.iface 29 (.agg #[.int .i64 sl, .int .i64 q, .int .i64 sh, .int .i64 sq, .int .i64 ep, .string t, .int .i64 k, .int .i64 b, .bool f, .int .i64 d, .string s]), .iface 29 (.agg #[.int .i64 x0, .int .i64 x1, .int .i64 x2, .int .i64 x3, .int .i64 x4, .string x5, .int .i64 x6, .int .i64 x7, .bool x8, .int .i64 x9, .string x10])] w (Gives w (.bool (sameM (.ask sl q sh sq ep t k b f d s) (.ask x0 x1 x2 x3 x4 x5 x6 x7 x8 x9 x10)))) := by
  have f_hello := as_ask_hello
  have f_grant := as_ask_grant
  have f_ask := as_ask_ask
  obtain ⟨r, hr⟩ : ∃ r, sameM (.ask sl q sh sq ep t k b f d s) (.ask x0 x1 x2 x3 x4 x5 x6 x7 x8 x9 x10) = r := ⟨_, rfl⟩
  have he : ∀ w, (binOp .eql 29 (.agg #[.int .i64 sl, .int .i64 q, .int .i64 sh, .int .i64 sq, .int .i64 ep, .string t, .int .i64 k, .int .i64 b, .bool f, .int .i64 d, .string s]) (.agg #[.int .i64 x0, .int .i64 x1, .int .i64 x2, .int .i64 x3, .int .i64 x4, .string x5, .int .i64 x6, .int .i64 x7, .bool x8, .int .i64 x9, .string x10])).run Try.prog w = .ok (.bool r) w := fun w => by rw [← hr]; exact eql_ask sl q sh sq ep k b d x0 x1 x2 x3 x4 x6 x7 x9 f x8 t s x5 x10 w
  rw [hr]
  clear hr
  go_enter Try.func27, Try.ntmps27
  go_wp2
  go_ret
  exact ⟨_, rfl, rfl, bel2 (bel_alloc _ _) (bel_alloc _ _)⟩
set_option maxHeartbeats 2000000 in
theorem unlike_ask_hello (sl q sh sq ep : Int) (t : ByteArray) (k b : Int) (f : Bool) (d : Int) (s : ByteArray) (x0 x1 : Int) (w : World) :
    Calls Try.prog 27 #[.iface 29 (.agg #[.int .i64 sl, .int .i64 q, .int .i64 sh, .int .i64 sq, .int .i64 ep, .string t, .int .i64 k, .int .i64 b, .bool f, .int .i64 d, .string s]), .iface 23 (.agg #[.int .i64 x0, .int .i64 x1])] w (Gives w (.bool false)) := by
  have f_hello := as_ask_hello
  have f_grant := as_ask_grant
  have f_ask := as_ask_ask
  have g_ask := as_hello_ask
  go_enter Try.func27, Try.ntmps27
  go_wp2
  go_ret
  exact ⟨_, rfl, rfl, bel2 (bel_alloc _ _) (bel_alloc _ _)⟩
set_option maxHeartbeats 2000000 in
theorem unlike_ask_grant (sl q sh sq ep : Int) (t : ByteArray) (k b : Int) (f : Bool) (d : Int) (s : ByteArray) (x0 x1 x2 : Int) (w : World) :
    Calls Try.prog 27 #[.iface 29 (.agg #[.int .i64 sl, .int .i64 q, .int .i64 sh, .int .i64 sq, .int .i64 ep, .string t, .int .i64 k, .int .i64 b, .bool f, .int .i64 d, .string s]), .iface 25 (.agg #[.int .i64 x0, .int .i64 x1, .int .i64 x2])] w (Gives w (.bool false)) := by
  have f_hello := as_ask_hello
  have f_grant := as_ask_grant
  have f_ask := as_ask_ask
  have g_ask := as_grant_ask
  go_enter Try.func27, Try.ntmps27
  go_wp2
  go_ret
  exact ⟨_, rfl, rfl, bel2 (bel_alloc _ _) (bel_alloc _ _)⟩
set_option maxHeartbeats 2000000 in
theorem unlike_ask_reply (sl q sh sq ep : Int) (t : ByteArray) (k b : Int) (f : Bool) (d : Int) (s : ByteArray) (x0 x1 x2 x3 x4 x5 : Int) (B : Option Addr) (m e : Nat) (x7 : Bool) (w : World) :
    Calls Try.prog 27 #[.iface 29 (.agg #[.int .i64 sl, .int .i64 q, .int .i64 sh, .int .i64 sq, .int .i64 ep, .string t, .int .i64 k, .int .i64 b, .bool f, .int .i64 d, .string s]), .iface 32 (.agg #[.int .i64 x0, .int .i64 x1, .int .i64 x2, .int .i64 x3, .int .i64 x4, .int .i64 x5, .slice B m e, .bool x7])] w (Gives w (.bool false)) := by
  have f_hello := as_ask_hello
  have f_grant := as_ask_grant
  have f_ask := as_ask_ask
  have g_ask := as_reply_ask
  go_enter Try.func27, Try.ntmps27
  go_wp2
  go_ret
  exact ⟨_, rfl, rfl, bel2 (bel_alloc _ _) (bel_alloc _ _)⟩
set_option maxHeartbeats 2000000 in
theorem unlike_ask_stop (sl q sh sq ep : Int) (t : ByteArray) (k b : Int) (f : Bool) (d : Int) (s : ByteArray) (x0 x1 : Int) (w : World) :
    Calls Try.prog 27 #[.iface 29 (.agg #[.int .i64 sl, .int .i64 q, .int .i64 sh, .int .i64 sq, .int .i64 ep, .string t, .int .i64 k, .int .i64 b, .bool f, .int .i64 d, .string s]), .iface 34 (.agg #[.int .i64 x0, .int .i64 x1])] w (Gives w (.bool false)) := by
  have f_hello := as_ask_hello
  have f_grant := as_ask_grant
  have f_ask := as_ask_ask
  have g_ask := as_stop_ask
  go_enter Try.func27, Try.ntmps27
  go_wp2
  go_ret
  exact ⟨_, rfl, rfl, bel2 (bel_alloc _ _) (bel_alloc _ _)⟩
set_option maxHeartbeats 2000000 in
theorem unlike_ask_int (sl q sh sq ep : Int) (t : ByteArray) (k b : Int) (f : Bool) (d : Int) (s : ByteArray) (x0 : Int) (w : World) :
    Calls Try.prog 27 #[.iface 29 (.agg #[.int .i64 sl, .int .i64 q, .int .i64 sh, .int .i64 sq, .int .i64 ep, .string t, .int .i64 k, .int .i64 b, .bool f, .int .i64 d, .string s]), .iface 3 (.int .i64 x0)] w (Gives w (.bool false)) := by
  have f_hello := as_ask_hello
  have f_grant := as_ask_grant
  have f_ask := as_ask_ask
  have g_ask := as_int_ask
  go_enter Try.func27, Try.ntmps27
  go_wp2
  go_ret
  exact ⟨_, rfl, rfl, bel2 (bel_alloc _ _) (bel_alloc _ _)⟩
set_option maxHeartbeats 2000000 in
theorem unlike_ask_nil (sl q sh sq ep : Int) (t : ByteArray) (k b : Int) (f : Bool) (d : Int) (s : ByteArray)  (w : World) :
    Calls Try.prog 27 #[.iface 29 (.agg #[.int .i64 sl, .int .i64 q, .int .i64 sh, .int .i64 sq, .int .i64 ep, .string t, .int .i64 k, .int .i64 b, .bool f, .int .i64 d, .string s]), .nilIface] w (Gives w (.bool false)) := by
  have f_hello := as_ask_hello
  have f_grant := as_ask_grant
  have f_ask := as_ask_ask
  have g_ask := as_nil_ask
  go_enter Try.func27, Try.ntmps27
  go_wp2
  go_ret
  exact ⟨_, rfl, rfl, bel2 (bel_alloc _ _) (bel_alloc _ _)⟩
set_option maxHeartbeats 2000000 in
theorem same_reply (sl q sh sq wk ep : Int) (A : Option Addr) (n c : Nat) (en : Bool) (x0 x1 x2 x3 x4 x5 : Int) (B : Option Addr) (m e : Nat) (x7 : Bool) (xs ys : List (Int × ByteArray)) (w : World) (hx : XReads w A n xs) (hy : XReads w B m ys) :
    Calls Try.prog 27 #[.iface 32 (.agg #[.int .i64 sl, .int .i64 q, .int .i64 sh, .int .i64 sq, .int .i64 wk, .int .i64 ep, .slice A n c, .bool en]), .iface 32 (.agg #[.int .i64 x0, .int .i64 x1, .int .i64 x2, .int .i64 x3, .int .i64 x4, .int .i64 x5, .slice B m e, .bool x7])] w (Gives w (.bool (sameR sl q sh sq wk ep en xs x0 x1 x2 x3 x4 x5 x7 ys))) := by
  have f_hello := as_reply_hello
  have f_grant := as_reply_grant
  have f_ask := as_reply_ask
  have f_reply := as_reply_reply
  have HB : Hid (Below w.heap.size w ((w.alloc (.cells #[.int .i64 sl, .int .i64 q, .int .i64 sh, .int .i64 sq, .int .i64 wk, .int .i64 ep, .slice A n c, .bool en] 32)).alloc (.cells #[.int .i64 x0, .int .i64 x1, .int .i64 x2, .int .i64 x3, .int .i64 x4, .int .i64 x5, .slice B m e, .bool x7] 32))) := bel2 (bel_alloc _ _) (bel_alloc _ _)
  have HX := Lib.hid (hx.below HB.out)
  have HY := Lib.hid (hy.below HB.out)
  clear hx hy
  go_enter Try.func27, Try.ntmps27
  go_wp2_with (go_at_call 59; (with_reducible refine (sameReply_any _ _ _ _ _ _ _ _ _ _ _ _ _ _ _ _ _ _ _ _ _ _ _ HX.out HY.out).mono ?_); rintro e w' ⟨w1, rfl, rfl, b1⟩)
  go_ret
  exact ⟨_, rfl, rfl, bel2 HB.out b1⟩
set_option maxHeartbeats 2000000 in
theorem unlike_reply_hello (sl q sh sq wk ep : Int) (A : Option Addr) (n c : Nat) (en : Bool) (x0 x1 : Int) (w : World) :
    Calls Try.prog 27 #[.iface 32 (.agg #[.int .i64 sl, .int .i64 q, .int .i64 sh, .int .i64 sq, .int .i64 wk, .int .i64 ep, .slice A n c, .bool en]), .iface 23 (.agg #[.int .i64 x0, .int .i64 x1])] w (Gives w (.bool false)) := by
  have f_hello := as_reply_hello
  have f_grant := as_reply_grant
  have f_ask := as_reply_ask
  have f_reply := as_reply_reply
  have g_reply := as_hello_reply
  go_enter Try.func27, Try.ntmps27
  go_wp2
  go_ret
  exact ⟨_, rfl, rfl, bel2 (bel_alloc _ _) (bel_alloc _ _)⟩
set_option maxHeartbeats 2000000 in
theorem unlike_reply_grant (sl q sh sq wk ep : Int) (A : Option Addr) (n c : Nat) (en : Bool) (x0 x1 x2 : Int) (w : World) :
    Calls Try.prog 27 #[.iface 32 (.agg #[.int .i64 sl, .int .i64 q, .int .i64 sh, .int .i64 sq, .int .i64 wk, .int .i64 ep, .slice A n c, .bool en]), .iface 25 (.agg #[.int .i64 x0, .int .i64 x1, .int .i64 x2])] w (Gives w (.bool false)) := by
  have f_hello := as_reply_hello
  have f_grant := as_reply_grant
  have f_ask := as_reply_ask
  have f_reply := as_reply_reply
  have g_reply := as_grant_reply
  go_enter Try.func27, Try.ntmps27
  go_wp2
  go_ret
  exact ⟨_, rfl, rfl, bel2 (bel_alloc _ _) (bel_alloc _ _)⟩
set_option maxHeartbeats 2000000 in
theorem unlike_reply_ask (sl q sh sq wk ep : Int) (A : Option Addr) (n c : Nat) (en : Bool) (x0 x1 x2 x3 x4 : Int) (x5 : ByteArray) (x6 x7 : Int) (x8 : Bool) (x9 : Int) (x10 : ByteArray) (w : World) :
    Calls Try.prog 27 #[.iface 32 (.agg #[.int .i64 sl, .int .i64 q, .int .i64 sh, .int .i64 sq, .int .i64 wk, .int .i64 ep, .slice A n c, .bool en]), .iface 29 (.agg #[.int .i64 x0, .int .i64 x1, .int .i64 x2, .int .i64 x3, .int .i64 x4, .string x5, .int .i64 x6, .int .i64 x7, .bool x8, .int .i64 x9, .string x10])] w (Gives w (.bool false)) := by
  have f_hello := as_reply_hello
  have f_grant := as_reply_grant
  have f_ask := as_reply_ask
  have f_reply := as_reply_reply
  have g_reply := as_ask_reply
  go_enter Try.func27, Try.ntmps27
  go_wp2
  go_ret
  exact ⟨_, rfl, rfl, bel2 (bel_alloc _ _) (bel_alloc _ _)⟩
set_option maxHeartbeats 2000000 in
theorem unlike_reply_stop (sl q sh sq wk ep : Int) (A : Option Addr) (n c : Nat) (en : Bool) (x0 x1 : Int) (w : World) :
    Calls Try.prog 27 #[.iface 32 (.agg #[.int .i64 sl, .int .i64 q, .int .i64 sh, .int .i64 sq, .int .i64 wk, .int .i64 ep, .slice A n c, .bool en]), .iface 34 (.agg #[.int .i64 x0, .int .i64 x1])] w (Gives w (.bool false)) := by
  have f_hello := as_reply_hello
  have f_grant := as_reply_grant
  have f_ask := as_reply_ask
  have f_reply := as_reply_reply
  have g_reply := as_stop_reply
  go_enter Try.func27, Try.ntmps27
  go_wp2
  go_ret
  exact ⟨_, rfl, rfl, bel2 (bel_alloc _ _) (bel_alloc _ _)⟩
set_option maxHeartbeats 2000000 in
theorem unlike_reply_int (sl q sh sq wk ep : Int) (A : Option Addr) (n c : Nat) (en : Bool) (x0 : Int) (w : World) :
    Calls Try.prog 27 #[.iface 32 (.agg #[.int .i64 sl, .int .i64 q, .int .i64 sh, .int .i64 sq, .int .i64 wk, .int .i64 ep, .slice A n c, .bool en]), .iface 3 (.int .i64 x0)] w (Gives w (.bool false)) := by
  have f_hello := as_reply_hello
  have f_grant := as_reply_grant
  have f_ask := as_reply_ask
  have f_reply := as_reply_reply
  have g_reply := as_int_reply
  go_enter Try.func27, Try.ntmps27
  go_wp2
  go_ret
  exact ⟨_, rfl, rfl, bel2 (bel_alloc _ _) (bel_alloc _ _)⟩
set_option maxHeartbeats 2000000 in
theorem unlike_reply_nil (sl q sh sq wk ep : Int) (A : Option Addr) (n c : Nat) (en : Bool)  (w : World) :
    Calls Try.prog 27 #[.iface 32 (.agg #[.int .i64 sl, .int .i64 q, .int .i64 sh, .int .i64 sq, .int .i64 wk, .int .i64 ep, .slice A n c, .bool en]), .nilIface] w (Gives w (.bool false)) := by
  have f_hello := as_reply_hello
  have f_grant := as_reply_grant
  have f_ask := as_reply_ask
  have f_reply := as_reply_reply
  have g_reply := as_nil_reply
  go_enter Try.func27, Try.ntmps27
  go_wp2
  go_ret
  exact ⟨_, rfl, rfl, bel2 (bel_alloc _ _) (bel_alloc _ _)⟩
set_option maxHeartbeats 2000000 in
theorem same_stop (sl q : Int) (x0 x1 : Int) (w : World) :
    Calls Try.prog 27 #[.iface 34 (.agg #[.int .i64 sl, .int .i64 q]), .iface 34 (.agg #[.int .i64 x0, .int .i64 x1])] w (Gives w (.bool (sameM (.stop sl q) (.stop x0 x1)))) := by
  have f_hello := as_stop_hello
  have f_grant := as_stop_grant
  have f_ask := as_stop_ask
  have f_reply := as_stop_reply
  have f_stop := as_stop_stop
  obtain ⟨r, hr⟩ : ∃ r, sameM (.stop sl q) (.stop x0 x1) = r := ⟨_, rfl⟩
  have he : ∀ w, (binOp .eql 34 (.agg #[.int .i64 sl, .int .i64 q]) (.agg #[.int .i64 x0, .int .i64 x1])).run Try.prog w = .ok (.bool r) w := fun w => by rw [← hr]; exact eql_two _ (.inr rfl) sl q x0 x1 w
  rw [hr]
  clear hr
  go_enter Try.func27, Try.ntmps27
  go_wp2
  go_ret
  exact ⟨_, rfl, rfl, bel2 (bel_alloc _ _) (bel_alloc _ _)⟩
set_option maxHeartbeats 2000000 in
theorem unlike_stop_hello (sl q : Int) (x0 x1 : Int) (w : World) :
    Calls Try.prog 27 #[.iface 34 (.agg #[.int .i64 sl, .int .i64 q]), .iface 23 (.agg #[.int .i64 x0, .int .i64 x1])] w (Gives w (.bool false)) := by
  have f_hello := as_stop_hello
  have f_grant := as_stop_grant
  have f_ask := as_stop_ask
  have f_reply := as_stop_reply
  have f_stop := as_stop_stop
  have g_stop := as_hello_stop
  go_enter Try.func27, Try.ntmps27
  go_wp2
  go_ret
  exact ⟨_, rfl, rfl, bel2 (bel_alloc _ _) (bel_alloc _ _)⟩
set_option maxHeartbeats 2000000 in
theorem unlike_stop_grant (sl q : Int) (x0 x1 x2 : Int) (w : World) :
    Calls Try.prog 27 #[.iface 34 (.agg #[.int .i64 sl, .int .i64 q]), .iface 25 (.agg #[.int .i64 x0, .int .i64 x1, .int .i64 x2])] w (Gives w (.bool false)) := by
  have f_hello := as_stop_hello
  have f_grant := as_stop_grant
  have f_ask := as_stop_ask
  have f_reply := as_stop_reply
  have f_stop := as_stop_stop
  have g_stop := as_grant_stop
  go_enter Try.func27, Try.ntmps27
  go_wp2
  go_ret
  exact ⟨_, rfl, rfl, bel2 (bel_alloc _ _) (bel_alloc _ _)⟩
set_option maxHeartbeats 2000000 in
theorem unlike_stop_ask (sl q : Int) (x0 x1 x2 x3 x4 : Int) (x5 : ByteArray) (x6 x7 : Int) (x8 : Bool) (x9 : Int) (x10 : ByteArray) (w : World) :
    Calls Try.prog 27 #[.iface 34 (.agg #[.int .i64 sl, .int .i64 q]), .iface 29 (.agg #[.int .i64 x0, .int .i64 x1, .int .i64 x2, .int .i64 x3, .int .i64 x4, .string x5, .int .i64 x6, .int .i64 x7, .bool x8, .int .i64 x9, .string x10])] w (Gives w (.bool false)) := by
  have f_hello := as_stop_hello
  have f_grant := as_stop_grant
  have f_ask := as_stop_ask
  have f_reply := as_stop_reply
  have f_stop := as_stop_stop
  have g_stop := as_ask_stop
  go_enter Try.func27, Try.ntmps27
  go_wp2
  go_ret
  exact ⟨_, rfl, rfl, bel2 (bel_alloc _ _) (bel_alloc _ _)⟩
set_option maxHeartbeats 2000000 in
theorem unlike_stop_reply (sl q : Int) (x0 x1 x2 x3 x4 x5 : Int) (B : Option Addr) (m e : Nat) (x7 : Bool) (w : World) :
    Calls Try.prog 27 #[.iface 34 (.agg #[.int .i64 sl, .int .i64 q]), .iface 32 (.agg #[.int .i64 x0, .int .i64 x1, .int .i64 x2, .int .i64 x3, .int .i64 x4, .int .i64 x5, .slice B m e, .bool x7])] w (Gives w (.bool false)) := by
  have f_hello := as_stop_hello
  have f_grant := as_stop_grant
  have f_ask := as_stop_ask
  have f_reply := as_stop_reply
  have f_stop := as_stop_stop
  have g_stop := as_reply_stop
  go_enter Try.func27, Try.ntmps27
  go_wp2
  go_ret
  exact ⟨_, rfl, rfl, bel2 (bel_alloc _ _) (bel_alloc _ _)⟩
set_option maxHeartbeats 2000000 in
theorem unlike_stop_int (sl q : Int) (x0 : Int) (w : World) :
    Calls Try.prog 27 #[.iface 34 (.agg #[.int .i64 sl, .int .i64 q]), .iface 3 (.int .i64 x0)] w (Gives w (.bool false)) := by
  have f_hello := as_stop_hello
  have f_grant := as_stop_grant
  have f_ask := as_stop_ask
  have f_reply := as_stop_reply
  have f_stop := as_stop_stop
  have g_stop := as_int_stop
  go_enter Try.func27, Try.ntmps27
  go_wp2
  go_ret
  exact ⟨_, rfl, rfl, bel2 (bel_alloc _ _) (bel_alloc _ _)⟩
set_option maxHeartbeats 2000000 in
theorem unlike_stop_nil (sl q : Int)  (w : World) :
    Calls Try.prog 27 #[.iface 34 (.agg #[.int .i64 sl, .int .i64 q]), .nilIface] w (Gives w (.bool false)) := by
  have f_hello := as_stop_hello
  have f_grant := as_stop_grant
  have f_ask := as_stop_ask
  have f_reply := as_stop_reply
  have f_stop := as_stop_stop
  have g_stop := as_nil_stop
  go_enter Try.func27, Try.ntmps27
  go_wp2
  go_ret
  exact ⟨_, rfl, rfl, bel2 (bel_alloc _ _) (bel_alloc _ _)⟩
set_option maxHeartbeats 2000000 in
theorem unlike_int (x : Int) (v : Value) (w : World) :
    Calls Try.prog 27 #[.iface 3 (.int .i64 x), v] w (Gives w (.bool false)) := by
  have f_hello := as_int_hello
  have f_grant := as_int_grant
  have f_ask := as_int_ask
  have f_reply := as_int_reply
  have f_stop := as_int_stop
  go_enter Try.func27, Try.ntmps27
  go_wp2
  go_ret
  exact ⟨_, rfl, rfl, Below.refl _ _⟩
set_option maxHeartbeats 2000000 in
theorem unlike_nil  (v : Value) (w : World) :
    Calls Try.prog 27 #[.nilIface, v] w (Gives w (.bool false)) := by
  have f_hello := as_nil_hello
  have f_grant := as_nil_grant
  have f_ask := as_nil_ask
  have f_reply := as_nil_reply
  have f_stop := as_nil_stop
  go_enter Try.func27, Try.ntmps27
  go_wp2
  go_ret
  exact ⟨_, rfl, rfl, Below.refl _ _⟩
theorem same_m (v1 v2 : Value) (m1 m2 : M) (w : World) (h1 : MV w v1 m1) (h2 : MV w v2 m2) : Calls Try.prog 27 #[v1, v2] w (Gives w (.bool (sameM m1 m2))) := by
  cases m1 with
  | hello hw hl =>
    obtain rfl := h1
    cases m2 with
    | hello x0 x1 => obtain rfl := h2; exact same_hello hw hl x0 x1 w
    | grant x0 x1 x2 => obtain rfl := h2; exact unlike_hello_grant hw hl x0 x1 x2 w
    | ask x0 x1 x2 x3 x4 x5 x6 x7 x8 x9 x10 => obtain rfl := h2; exact unlike_hello_ask hw hl x0 x1 x2 x3 x4 x5 x6 x7 x8 x9 x10 w
    | reply x0 x1 x2 x3 x4 x5 ys x7 => obtain ⟨B, e, rfl, hy⟩ := h2; exact unlike_hello_reply hw hl x0 x1 x2 x3 x4 x5 B _ e x7 w
    | stop x0 x1 => obtain rfl := h2; exact unlike_hello_stop hw hl x0 x1 w
    | other x0 => obtain rfl := h2; exact unlike_hello_int hw hl x0 w
    | none => obtain rfl := h2; exact unlike_hello_nil hw hl w
  | grant gw gl ge =>
    obtain rfl := h1
    cases m2 with
    | hello x0 x1 => obtain rfl := h2; exact unlike_grant_hello gw gl ge x0 x1 w
    | grant x0 x1 x2 => obtain rfl := h2; exact same_grant gw gl ge x0 x1 x2 w
    | ask x0 x1 x2 x3 x4 x5 x6 x7 x8 x9 x10 => obtain rfl := h2; exact unlike_grant_ask gw gl ge x0 x1 x2 x3 x4 x5 x6 x7 x8 x9 x10 w
    | reply x0 x1 x2 x3 x4 x5 ys x7 => obtain ⟨B, e, rfl, hy⟩ := h2; exact unlike_grant_reply gw gl ge x0 x1 x2 x3 x4 x5 B _ e x7 w
    | stop x0 x1 => obtain rfl := h2; exact unlike_grant_stop gw gl ge x0 x1 w
    | other x0 => obtain rfl := h2; exact unlike_grant_int gw gl ge x0 w
    | none => obtain rfl := h2; exact unlike_grant_nil gw gl ge w
  | ask sl q sh sq ep t k b f d s =>
    obtain rfl := h1
    cases m2 with
    | hello x0 x1 => obtain rfl := h2; exact unlike_ask_hello sl q sh sq ep t k b f d s x0 x1 w
    | grant x0 x1 x2 => obtain rfl := h2; exact unlike_ask_grant sl q sh sq ep t k b f d s x0 x1 x2 w
    | ask x0 x1 x2 x3 x4 x5 x6 x7 x8 x9 x10 => obtain rfl := h2; exact same_ask sl q sh sq ep t k b f d s x0 x1 x2 x3 x4 x5 x6 x7 x8 x9 x10 w
    | reply x0 x1 x2 x3 x4 x5 ys x7 => obtain ⟨B, e, rfl, hy⟩ := h2; exact unlike_ask_reply sl q sh sq ep t k b f d s x0 x1 x2 x3 x4 x5 B _ e x7 w
    | stop x0 x1 => obtain rfl := h2; exact unlike_ask_stop sl q sh sq ep t k b f d s x0 x1 w
    | other x0 => obtain rfl := h2; exact unlike_ask_int sl q sh sq ep t k b f d s x0 w
    | none => obtain rfl := h2; exact unlike_ask_nil sl q sh sq ep t k b f d s w
  | reply sl q sh sq wk ep xs en =>
    obtain ⟨A, c, rfl, hx⟩ := h1
    cases m2 with
    | hello x0 x1 => obtain rfl := h2; exact unlike_reply_hello sl q sh sq wk ep A _ c en x0 x1 w
    | grant x0 x1 x2 => obtain rfl := h2; exact unlike_reply_grant sl q sh sq wk ep A _ c en x0 x1 x2 w
    | ask x0 x1 x2 x3 x4 x5 x6 x7 x8 x9 x10 => obtain rfl := h2; exact unlike_reply_ask sl q sh sq wk ep A _ c en x0 x1 x2 x3 x4 x5 x6 x7 x8 x9 x10 w
    | reply x0 x1 x2 x3 x4 x5 ys x7 => obtain ⟨B, e, rfl, hy⟩ := h2; exact same_reply sl q sh sq wk ep A _ c en x0 x1 x2 x3 x4 x5 B _ e x7 xs ys w hx hy
    | stop x0 x1 => obtain rfl := h2; exact unlike_reply_stop sl q sh sq wk ep A _ c en x0 x1 w
    | other x0 => obtain rfl := h2; exact unlike_reply_int sl q sh sq wk ep A _ c en x0 w
    | none => obtain rfl := h2; exact unlike_reply_nil sl q sh sq wk ep A _ c en w
  | stop sl q =>
    obtain rfl := h1
    cases m2 with
    | hello x0 x1 => obtain rfl := h2; exact unlike_stop_hello sl q x0 x1 w
    | grant x0 x1 x2 => obtain rfl := h2; exact unlike_stop_grant sl q x0 x1 x2 w
    | ask x0 x1 x2 x3 x4 x5 x6 x7 x8 x9 x10 => obtain rfl := h2; exact unlike_stop_ask sl q x0 x1 x2 x3 x4 x5 x6 x7 x8 x9 x10 w
    | reply x0 x1 x2 x3 x4 x5 ys x7 => obtain ⟨B, e, rfl, hy⟩ := h2; exact unlike_stop_reply sl q x0 x1 x2 x3 x4 x5 B _ e x7 w
    | stop x0 x1 => obtain rfl := h2; exact same_stop sl q x0 x1 w
    | other x0 => obtain rfl := h2; exact unlike_stop_int sl q x0 w
    | none => obtain rfl := h2; exact unlike_stop_nil sl q w
  | other x =>
    obtain rfl := h1
    have := unlike_int x v2 w
    cases m2 <;> exact this
  | none =>
    obtain rfl := h1
    have := unlike_nil v2 w
    cases m2 <;> exact this
theorem sameM_eq (m1 m2 : M) : sameM m1 m2 = true ↔ (m1 = m2 ∧ kindM m1 ≠ 0) := by
  cases m1 <;> cases m2 <;> simp [sameM, kindM, sameR]
  intros
  exact And.comm
end Go.Proofs.Ytajhkjikcgfhdaa
