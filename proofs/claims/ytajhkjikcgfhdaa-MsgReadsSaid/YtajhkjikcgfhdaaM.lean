/-
  Messages as data; may, kind, Encode of any of them.
-/
import Derived.Test.YtajhkjikcgfhdaaEncReply
import Derived.Test.YtajhkjikcgfhdaaEncHello
import Derived.Test.YtajhkjikcgfhdaaEncGrant
import Derived.Test.YtajhkjikcgfhdaaEncStop
namespace Go.Proofs.Ytajhkjikcgfhdaa
set_option linter.unusedVariables false
set_option linter.unusedSimpArgs false
set_option maxRecDepth 20000
open Go.RowKit
inductive M where
  | hello (hw hl : Int)
  | grant (gw gl ge : Int)
  | ask (sl q sh sq ep : Int) (t : ByteArray) (k b : Int) (f : Bool) (d : Int) (s : ByteArray)
  | reply (sl q sh sq wk ep : Int) (xs : List (Int × ByteArray)) (en : Bool)
  | stop (sl q : Int)
  | other (x : Int)
  | none
def mayM : M → Bool
  | .hello a b => helloB a b
  | .grant a b c => grantB a b c
  | .ask sl q sh sq ep t k b f d s => askB sl q sh sq ep t k b f d s
  | .reply sl q sh sq wk ep xs en => replyB sl q sh sq wk ep xs
  | .stop a b => stopB a b
  | .other _ => false
  | .none => false
def kindM : M → Nat
  | .hello .. => 1
  | .grant .. => 2
  | .ask .. => 3
  | .reply .. => 4
  | .stop .. => 5
  | .other _ => 0
  | .none => 0
def bodyM : M → List Int
  | .hello a b => helloI a b
  | .grant a b c => grantI a b c
  | .ask sl q sh sq ep t k b f d s => askI sl q sh sq ep t k b f d s
  | .reply sl q sh sq wk ep xs en => replyI sl q sh sq wk ep xs en
  | .stop a b => stopI a b
  | .other _ => []
  | .none => []
def frameM (m : M) : List Int := frameI (kindM m) (bodyM m)
/-- A value of the type 'any' that is a message. -/
def MV (w : World) (v : Value) : M → Prop
  | .hello hw hl => v = .iface 23 (.agg #[.int .i64 hw, .int .i64 hl])
  | .grant gw gl ge => v = .iface 25 (.agg #[.int .i64 gw, .int .i64 gl, .int .i64 ge])
  | .ask sl q sh sq ep t k b f d s => v = .iface 29 (.agg #[.int .i64 sl, .int .i64 q, .int .i64 sh, .int .i64 sq, .int .i64 ep, .string t, .int .i64 k, .int .i64 b, .bool f, .int .i64 d, .string s])
  | .reply sl q sh sq wk ep xs en => ∃ A c, v = .iface 32 (.agg #[.int .i64 sl, .int .i64 q, .int .i64 sh, .int .i64 sq, .int .i64 wk, .int .i64 ep, .slice A xs.length c, .bool en]) ∧ XReads w A xs.length xs
  | .stop sl q => v = .iface 34 (.agg #[.int .i64 sl, .int .i64 q])
  | .other x => v = .iface 3 (.int .i64 x)
  | .none => v = .nilIface
/-- All its texts are of at most n bytes. -/
def SmallM (n : Nat) : M → Prop
  | .ask sl q sh sq ep t k b f d s => t.size ≤ n ∧ s.size ≤ n
  | .reply sl q sh sq wk ep xs en => Small n xs
  | _ => True
theorem MV.below {w w1 : World} {v : Value} {m : M} (h : MV w v m) (hb : Below w.heap.size w w1) : MV w1 v m := by
  cases m <;> try exact h
  obtain ⟨A, c, e, hx⟩ := h
  exact ⟨A, c, e, hx.below hb⟩
theorem SmallM.le {n n' : Nat} {m : M} (h : SmallM n m) (hn : n ≤ n') : SmallM n' m := by
  cases m <;> try trivial
  · exact ⟨Nat.le_trans h.1 hn, Nat.le_trans h.2 hn⟩
  · exact fun x hx => Nat.le_trans (h x hx) hn
theorem may_m (v : Value) (m : M) (w : World) (h : MV w v m) (hs : SmallM 60000 m) : Calls Try.prog 19 #[v] w (Gives w (.bool (mayM m))) := by
  cases m with
  | hello hw hl => obtain rfl := h; exact may_hello hw hl w
  | grant gw gl ge => obtain rfl := h; exact may_grant gw gl ge w
  | ask sl q sh sq ep t k b f d s => obtain rfl := h; exact may_ask sl q sh sq ep t k b f d s w (Nat.le_trans hs.1 (by omega)) (Nat.le_trans hs.2 (by omega))
  | reply sl q sh sq wk ep xs en =>
    obtain ⟨A, c, rfl, hx⟩ := h
    exact may_reply sl q sh sq wk ep A _ c en xs w hx (fun x hx => Nat.le_trans (hs x hx) (by omega))
  | stop sl q => obtain rfl := h; exact may_stop sl q w
  | other x => obtain rfl := h; exact may_int x w
  | none => obtain rfl := h; exact may_nil w
theorem kind_m (v : Value) (m : M) (w : World) (h : MV w v m) : Calls Try.prog 21 #[v] w (Gives w (.int .i64 (kindM m))) := by
  cases m with
  | hello hw hl => obtain rfl := h; exact kind_hello hw hl w
  | grant gw gl ge => obtain rfl := h; exact kind_grant gw gl ge w
  | ask sl q sh sq ep t k b f d s => obtain rfl := h; exact kind_ask sl q sh sq ep t k b f d s w
  | reply sl q sh sq wk ep xs en =>
    obtain ⟨A, c, rfl, hx⟩ := h
    exact kind_reply sl q sh sq wk ep A _ c en w
  | stop sl q => obtain rfl := h; exact kind_stop sl q w
  | other x => obtain rfl := h; exact kind_int x w
  | none => obtain rfl := h; exact kind_nil w
set_option maxHeartbeats 1000000 in
theorem encno_nil (w : World) :
    Calls Try.prog 14 #[.nilIface] w (EncNo w) := by
  go_enter Try.func14, Try.ntmps14
  go_wp2_with (go_at_call 19; (with_reducible refine (may_nil _).mono ?_); rintro e w' ⟨w1, rfl, rfl, b1⟩)
  go_ret2
  exact ⟨_, rfl, rfl, b1⟩
theorem enc_yes (v : Value) (m : M) (w : World) (h : MV w v m) (hs : SmallM 60000 m) (hm : mayM m = true) : Calls Try.prog 14 #[v] w (EncOk w (frameM m)) := by
  cases m with
  | hello hw hl => obtain rfl := h; exact enc_hello hw hl w hm
  | grant gw gl ge => obtain rfl := h; exact enc_grant gw gl ge w hm
  | ask sl q sh sq ep t k b f d s => obtain rfl := h; exact enc_ask sl q sh sq ep t k b f d s w hs.1 hs.2 hm
  | reply sl q sh sq wk ep xs en =>
    obtain ⟨A, c, rfl, hx⟩ := h
    exact enc_reply sl q sh sq wk ep A _ c en xs w hx hs hm
  | stop sl q => obtain rfl := h; exact enc_stop sl q w hm
  | other x => cases hm
  | none => cases hm
theorem enc_no (v : Value) (m : M) (w : World) (h : MV w v m) (hs : SmallM 60000 m) (hm : mayM m = false) : Calls Try.prog 14 #[v] w (EncNo w) := by
  cases m with
  | hello hw hl => obtain rfl := h; exact encno_hello hw hl w hm
  | grant gw gl ge => obtain rfl := h; exact encno_grant gw gl ge w hm
  | ask sl q sh sq ep t k b f d s => obtain rfl := h; exact encno_ask sl q sh sq ep t k b f d s w hs.1 hs.2 hm
  | reply sl q sh sq wk ep xs en =>
    obtain ⟨A, c, rfl, hx⟩ := h
    exact encno_reply sl q sh sq wk ep A _ c en xs w hx hs hm
  | stop sl q => obtain rfl := h; exact encno_stop sl q w hm
  | other x => obtain rfl := h; exact encno_int x w
  | none => obtain rfl := h; exact encno_nil w
end Go.Proofs.Ytajhkjikcgfhdaa
