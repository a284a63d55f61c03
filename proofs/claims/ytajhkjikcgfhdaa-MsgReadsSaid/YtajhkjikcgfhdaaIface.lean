/-
  Type assertions on messages.
-/
import Derived.Test.YtajhkjikcgfhdaaMay5
namespace Go.Proofs.Ytajhkjikcgfhdaa
set_option linter.unusedVariables false
set_option linter.unusedSimpArgs false
set_option maxRecDepth 20000
open Go.RowKit
theorem as_hello_hello (v : Value) (w : World) : (Instr.typeAssert (.iface 23 v) 20 23 true).run Try.prog w = .ok (.tuple #[v, .bool true]) w := by kernel_rfl
theorem as_hello_grant (v : Value) (w : World) : (Instr.typeAssert (.iface 23 v) 20 25 true).run Try.prog w = .ok (.tuple #[.agg #[.int .i64 0, .int .i64 0, .int .i64 0], .bool false]) w := by kernel_rfl
theorem as_hello_ask (v : Value) (w : World) : (Instr.typeAssert (.iface 23 v) 20 29 true).run Try.prog w = .ok (.tuple #[.agg #[.int .i64 0, .int .i64 0, .int .i64 0, .int .i64 0, .int .i64 0, .string ⟨#[]⟩, .int .i64 0, .int .i64 0, .bool false, .int .i64 0, .string ⟨#[]⟩], .bool false]) w := by kernel_rfl
theorem as_hello_reply (v : Value) (w : World) : (Instr.typeAssert (.iface 23 v) 20 32 true).run Try.prog w = .ok (.tuple #[.agg #[.int .i64 0, .int .i64 0, .int .i64 0, .int .i64 0, .int .i64 0, .int .i64 0, .slice none 0 0, .bool false], .bool false]) w := by kernel_rfl
theorem as_hello_stop (v : Value) (w : World) : (Instr.typeAssert (.iface 23 v) 20 34 true).run Try.prog w = .ok (.tuple #[.agg #[.int .i64 0, .int .i64 0], .bool false]) w := by kernel_rfl
theorem as_grant_hello (v : Value) (w : World) : (Instr.typeAssert (.iface 25 v) 20 23 true).run Try.prog w = .ok (.tuple #[.agg #[.int .i64 0, .int .i64 0], .bool false]) w := by kernel_rfl
theorem as_grant_grant (v : Value) (w : World) : (Instr.typeAssert (.iface 25 v) 20 25 true).run Try.prog w = .ok (.tuple #[v, .bool true]) w := by kernel_rfl
theorem as_grant_ask (v : Value) (w : World) : (Instr.typeAssert (.iface 25 v) 20 29 true).run Try.prog w = .ok (.tuple #[.agg #[.int .i64 0, .int .i64 0, .int .i64 0, .int .i64 0, .int .i64 0, .string ⟨#[]⟩, .int .i64 0, .int .i64 0, .bool false, .int .i64 0, .string ⟨#[]⟩], .bool false]) w := by kernel_rfl
theorem as_grant_reply (v : Value) (w : World) : (Instr.typeAssert (.iface 25 v) 20 32 true).run Try.prog w = .ok (.tuple #[.agg #[.int .i64 0, .int .i64 0, .int .i64 0, .int .i64 0, .int .i64 0, .int .i64 0, .slice none 0 0, .bool false], .bool false]) w := by kernel_rfl
theorem as_grant_stop (v : Value) (w : World) : (Instr.typeAssert (.iface 25 v) 20 34 true).run Try.prog w = .ok (.tuple #[.agg #[.int .i64 0, .int .i64 0], .bool false]) w := by kernel_rfl
theorem as_ask_hello (v : Value) (w : World) : (Instr.typeAssert (.iface 29 v) 20 23 true).run Try.prog w = .ok (.tuple #[.agg #[.int .i64 0, .int .i64 0], .bool false]) w := by kernel_rfl
theorem as_ask_grant (v : Value) (w : World) : (Instr.typeAssert (.iface 29 v) 20 25 true).run Try.prog w = .ok (.tuple #[.agg #[.int .i64 0, .int .i64 0, .int .i64 0], .bool false]) w := by kernel_rfl
theorem as_ask_ask (v : Value) (w : World) : (Instr.typeAssert (.iface 29 v) 20 29 true).run Try.prog w = .ok (.tuple #[v, .bool true]) w := by kernel_rfl
theorem as_ask_reply (v : Value) (w : World) : (Instr.typeAssert (.iface 29 v) 20 32 true).run Try.prog w = .ok (.tuple #[.agg #[.int .i64 0, .int .i64 0, .int .i64 0, .int .i64 0, .int .i64 0, .int .i64 0, .slice none 0 0, .bool false], .bool false]) w := by kernel_rfl
theorem as_ask_stop (v : Value) (w : World) : (Instr.typeAssert (.iface 29 v) 20 34 true).run Try.prog w = .ok (.tuple #[.agg #[.int .i64 0, .int .i64 0], .bool false]) w := by kernel_rfl
theorem as_reply_hello (v : Value) (w : World) : (Instr.typeAssert (.iface 32 v) 20 23 true).run Try.prog w = .ok (.tuple #[.agg #[.int .i64 0, .int .i64 0], .bool false]) w := by kernel_rfl
theorem as_reply_grant (v : Value) (w : World) : (Instr.typeAssert (.iface 32 v) 20 25 true).run Try.prog w = .ok (.tuple #[.agg #[.int .i64 0, .int .i64 0, .int .i64 0], .bool false]) w := by kernel_rfl
theorem as_reply_ask (v : Value) (w : World) : (Instr.typeAssert (.iface 32 v) 20 29 true).run Try.prog w = .ok (.tuple #[.agg #[.int .i64 0, .int .i64 0, .int .i64 0, .int .i64 0, .int .i64 0, .string ⟨#[]⟩, .int .i64 0, .int .i64 0, .bool false, .int .i64 0, .string ⟨#[]⟩], .bool false]) w := by kernel_rfl
theorem as_reply_reply (v : Value) (w : World) : (Instr.typeAssert (.iface 32 v) 20 32 true).run Try.prog w = .ok (.tuple #[v, .bool true]) w := by kernel_rfl
theorem as_reply_stop (v : Value) (w : World) : (Instr.typeAssert (.iface 32 v) 20 34 true).run Try.prog w = .ok (.tuple #[.agg #[.int .i64 0, .int .i64 0], .bool false]) w := by kernel_rfl
theorem as_stop_hello (v : Value) (w : World) : (Instr.typeAssert (.iface 34 v) 20 23 true).run Try.prog w = .ok (.tuple #[.agg #[.int .i64 0, .int .i64 0], .bool false]) w := by kernel_rfl
theorem as_stop_grant (v : Value) (w : World) : (Instr.typeAssert (.iface 34 v) 20 25 true).run Try.prog w = .ok (.tuple #[.agg #[.int .i64 0, .int .i64 0, .int .i64 0], .bool false]) w := by kernel_rfl
theorem as_stop_ask (v : Value) (w : World) : (Instr.typeAssert (.iface 34 v) 20 29 true).run Try.prog w = .ok (.tuple #[.agg #[.int .i64 0, .int .i64 0, .int .i64 0, .int .i64 0, .int .i64 0, .string ⟨#[]⟩, .int .i64 0, .int .i64 0, .bool false, .int .i64 0, .string ⟨#[]⟩], .bool false]) w := by kernel_rfl
theorem as_stop_reply (v : Value) (w : World) : (Instr.typeAssert (.iface 34 v) 20 32 true).run Try.prog w = .ok (.tuple #[.agg #[.int .i64 0, .int .i64 0, .int .i64 0, .int .i64 0, .int .i64 0, .int .i64 0, .slice none 0 0, .bool false], .bool false]) w := by kernel_rfl
theorem as_stop_stop (v : Value) (w : World) : (Instr.typeAssert (.iface 34 v) 20 34 true).run Try.prog w = .ok (.tuple #[v, .bool true]) w := by kernel_rfl
theorem as_int_hello (v : Value) (w : World) : (Instr.typeAssert (.iface 3 v) 20 23 true).run Try.prog w = .ok (.tuple #[.agg #[.int .i64 0, .int .i64 0], .bool false]) w := by kernel_rfl
theorem as_int_grant (v : Value) (w : World) : (Instr.typeAssert (.iface 3 v) 20 25 true).run Try.prog w = .ok (.tuple #[.agg #[.int .i64 0, .int .i64 0, .int .i64 0], .bool false]) w := by kernel_rfl
theorem as_int_ask (v : Value) (w : World) : (Instr.typeAssert (.iface 3 v) 20 29 true).run Try.prog w = .ok (.tuple #[.agg #[.int .i64 0, .int .i64 0, .int .i64 0, .int .i64 0, .int .i64 0, .string ⟨#[]⟩, .int .i64 0, .int .i64 0, .bool false, .int .i64 0, .string ⟨#[]⟩], .bool false]) w := by kernel_rfl
theorem as_int_reply (v : Value) (w : World) : (Instr.typeAssert (.iface 3 v) 20 32 true).run Try.prog w = .ok (.tuple #[.agg #[.int .i64 0, .int .i64 0, .int .i64 0, .int .i64 0, .int .i64 0, .int .i64 0, .slice none 0 0, .bool false], .bool false]) w := by kernel_rfl
theorem as_int_stop (v : Value) (w : World) : (Instr.typeAssert (.iface 3 v) 20 34 true).run Try.prog w = .ok (.tuple #[.agg #[.int .i64 0, .int .i64 0], .bool false]) w := by kernel_rfl
theorem as_ptr_hello (v : Value) (w : World) : (Instr.typeAssert (.iface 53 v) 20 23 true).run Try.prog w = .ok (.tuple #[.agg #[.int .i64 0, .int .i64 0], .bool false]) w := by kernel_rfl
theorem as_ptr_grant (v : Value) (w : World) : (Instr.typeAssert (.iface 53 v) 20 25 true).run Try.prog w = .ok (.tuple #[.agg #[.int .i64 0, .int .i64 0, .int .i64 0], .bool false]) w := by kernel_rfl
theorem as_ptr_ask (v : Value) (w : World) : (Instr.typeAssert (.iface 53 v) 20 29 true).run Try.prog w = .ok (.tuple #[.agg #[.int .i64 0, .int .i64 0, .int .i64 0, .int .i64 0, .int .i64 0, .string ⟨#[]⟩, .int .i64 0, .int .i64 0, .bool false, .int .i64 0, .string ⟨#[]⟩], .bool false]) w := by kernel_rfl
theorem as_ptr_reply (v : Value) (w : World) : (Instr.typeAssert (.iface 53 v) 20 32 true).run Try.prog w = .ok (.tuple #[.agg #[.int .i64 0, .int .i64 0, .int .i64 0, .int .i64 0, .int .i64 0, .int .i64 0, .slice none 0 0, .bool false], .bool false]) w := by kernel_rfl
theorem as_ptr_stop (v : Value) (w : World) : (Instr.typeAssert (.iface 53 v) 20 34 true).run Try.prog w = .ok (.tuple #[.agg #[.int .i64 0, .int .i64 0], .bool false]) w := by kernel_rfl
theorem as_nil_hello (w : World) : (Instr.typeAssert .nilIface 20 23 true).run Try.prog w = .ok (.tuple #[.agg #[.int .i64 0, .int .i64 0], .bool false]) w := by kernel_rfl
theorem as_nil_grant (w : World) : (Instr.typeAssert .nilIface 20 25 true).run Try.prog w = .ok (.tuple #[.agg #[.int .i64 0, .int .i64 0, .int .i64 0], .bool false]) w := by kernel_rfl
theorem as_nil_ask (w : World) : (Instr.typeAssert .nilIface 20 29 true).run Try.prog w = .ok (.tuple #[.agg #[.int .i64 0, .int .i64 0, .int .i64 0, .int .i64 0, .int .i64 0, .string ⟨#[]⟩, .int .i64 0, .int .i64 0, .bool false, .int .i64 0, .string ⟨#[]⟩], .bool false]) w := by kernel_rfl
theorem as_nil_reply (w : World) : (Instr.typeAssert .nilIface 20 32 true).run Try.prog w = .ok (.tuple #[.agg #[.int .i64 0, .int .i64 0, .int .i64 0, .int .i64 0, .int .i64 0, .int .i64 0, .slice none 0 0, .bool false], .bool false]) w := by kernel_rfl
theorem as_nil_stop (w : World) : (Instr.typeAssert .nilIface 20 34 true).run Try.prog w = .ok (.tuple #[.agg #[.int .i64 0, .int .i64 0], .bool false]) w := by kernel_rfl
end Go.Proofs.Ytajhkjikcgfhdaa
