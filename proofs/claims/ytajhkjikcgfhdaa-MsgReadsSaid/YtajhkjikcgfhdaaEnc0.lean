/-
  What a frame is; a copy into a row of the call's own.
-/
import Derived.Test.YtajhkjikcgfhdaaWriter
import Derived.Test.YtajhkjikcgfhdaaLawSum
import Derived.Laws.CopyRow
import Derived.Deep.RegionHeld3
namespace Go.Proofs.Ytajhkjikcgfhdaa
set_option linter.unusedVariables false
set_option linter.unusedSimpArgs false
set_option maxRecDepth 20000
open Go.RowKit
theorem step_copy_run {P : Program} {ops : Array Oper} {o : Oper} {a : Act} {w : World} {K : Act → World → Prop} {Q : Exit → Act → World → Prop} {E : Prop}
    (hg : o.guard = none) (d x : Operand) (dT sT : TypeId) (hop : o.op = Op.call { callee := Callee.builtin Builtin.copy, args := #[d, x], argTypes := #[dT, sT] })
    (v u : Value) (hd : a.eval d = v) (hx : a.eval x = u) {v' : Value} {w' : World} (hr : (Builtin.copy_ #[dT, sT] o.type #[v, u]).run P w = .ok v' w') (hK : K (a.put o.dst v') w') :
    if Region.wanted o (yielded ops a.tmps) = true then Oper.wp P o a w K Q else E := by
  have hw : Region.wanted o (yielded ops a.tmps) = true := by simp [Region.wanted, hg]
  rw [if_pos hw]
  unfold Oper.wp
  simp [execOp, hop, resolve, invoke, builtin, hd, hx, hr, Result.andThen]
  exact hK
theorem only_setRow (w : World) (g : Nat) (cs : Array Value) : w.grownBy (w.setRow g cs) (some g) :=
  ⟨rfl, rfl, rfl, by simp, fun i _ hne => setRow_other w g i cs (fun e => hne (by rw [e]))⟩
/-- The first bytes of a row of the call's own are written over. -/
theorem copy_own (w : World) (ty : TypeId) {B n c n2 c2 : Nat} {A A2 : Option Addr} {zs ys : List Int} (h : w.ownsRow B 5 1 (.slice A n c) n (bvals zs)) (hy : BReads w A2 n2 ys) (hn : n2 ≤ n) (h0 : 0 < n2) :
    ∃ w', (Builtin.copy_ #[39, 39] ty #[.slice A n c, .slice A2 n2 c2]).run Try.prog w = .ok (.int .i64 n2) w' ∧ w'.ownsRow B 5 1 (.slice A n c) n (bvals (ys ++ zs.drop n2)) ∧ w.grownBy w' (Value.slice A n c).ownBlock := by
  have hl := h.1
  rcases h.2 with ⟨e, _⟩ | ⟨g, cap, cur, e, hb, hh, hc, hm, hs, hr⟩
  · injection e with _ e _
    omega
  injection e with e1 e2 e3
  subst e1
  subst e3
  obtain ⟨ad, rfl, hcell⟩ := hy.2.2.1 h0
  have hyl := hy.1
  have hrun := run_copy_row (P := Try.prog) w 39 39 ty 5 g 0 n c ad n2 c2 cur 5 (bvals ys) Try.underlying39 (by kernel_rfl) hh (by
    rw [bvals_length, hyl]; exact (Nat.min_eq_left hn).symm) (fun j u hu => by
    have hj : j < n2 := by
      have := (List.getElem?_eq_some_iff.1 hu).1
      rw [bvals_length, hyl] at this
      exact this
    rw [bvals_get ys j (by omega)] at hu
    injection hu with hu
    rw [← hu]
    exact hcell j hj) (by rw [bvals_length, hyl]; omega) (bvals_one ys)
  rw [List.take_zero, List.nil_append, Nat.zero_add, bvals_length, hyl] at hrun
  refine ⟨w.setRow g (bvals ys ++ cur.toList.drop n2).toArray, hrun, ?_, only_setRow w g _⟩
  have hzl : zs.length = n := by rw [bvals_length] at hl; omega
  refine ⟨?_, .inr ⟨g, c, _, rfl, hb, setRow_heap w g _ _ _ _ hh, hc, hm, ?_, ?_⟩⟩
  · rw [bvals_length, List.length_append, List.length_drop, hyl, hzl]
    omega
  · simp only [List.size_toArray, List.length_append, List.length_drop, bvals_length, hyl, Array.length_toList]
    omega
  · rw [Nat.mul_one] at hr
    rw [Nat.mul_one, List.take_append, List.take_of_length_le (by rw [bvals_length]; omega), bvals_length, hyl, ← List.drop_take, hr, bvals_append]
    simp only [bvals, List.map_drop]
/-- A frame: how many bytes, the kind, the fields, the sum. -/
def headI (kind : Int) (body : List Int) : List Int := putI (body.length + 7) 2 ++ ([kind] ++ body)
def frameI (kind : Int) (body : List Int) : List Int := headI kind body ++ putI (addI 0 (headI kind body)) 4
def helloI (hw hl : Int) : List Int := foursI [hw, hl]
def grantI (gw gl ge : Int) : List Int := foursI [gw, gl, ge]
def askI (sl q sh sq ep : Int) (t : ByteArray) (k b : Int) (f : Bool) (d : Int) (s : ByteArray) : List Int :=
  foursI [sl, q, sh, sq, ep] ++ (textI t ++ (putI k 1 ++ (putI b 1 ++ (putI (b2n f) 1 ++ itemI d s))))
def itemsI (xs : List (Int × ByteArray)) : List Int := xs.flatMap fun x => itemI x.1 x.2
def replyI (sl q sh sq wk ep : Int) (xs : List (Int × ByteArray)) (en : Bool) : List Int :=
  foursI [sl, q, sh, sq, wk, ep] ++ (putI xs.length 1 ++ (itemsI xs ++ putI (b2n en) 1))
def stopI (sl q : Int) : List Int := foursI [sl, q]
/-- Encode has laid a frame. -/
def EncOk (w : World) (zs : List Int) (e : Ending) (w' : World) : Prop :=
  ∃ A c W, e = .returned (.tuple #[.slice A zs.length c, .int .i64 0]) ∧ W = w' ∧ W.ownsRow w.heap.size 5 1 (.slice A zs.length c) zs.length (bvals zs) ∧ BReads W A zs.length zs ∧ zs.length ≤ c ∧ Below w.heap.size w W
def EncNo (w : World) (e : Ending) (w' : World) : Prop := ∃ W, e = .returned (.tuple #[.slice none 0 0, .int .i64 2]) ∧ W = w' ∧ Below w.heap.size w W
theorem enc_ok {w W w' : World} {e : Ending} {A : Option Addr} {c n : Nat} {zs : List Int} (hl : zs.length = n) (he : e = .returned (.tuple #[.slice A n c, .int .i64 0])) (hw : W = w') (ho : W.ownsRow w.heap.size 5 1 (.slice A n c) n (bvals zs)) (hr : BReads W A n zs) (hc : n ≤ c) (hb : Below w.heap.size w W) : EncOk w zs e w' := by
  subst hl
  exact ⟨A, c, W, he, hw, ho, hr, hc, hb⟩
theorem wr_start (w2 : World) (B : Nat) (k : Int) (hB : B ≤ w2.heap.size) (hk : 0 ≤ k ∧ k < 256) :
    Wr ((w2.alloc (.cells #[.int .u8 0, .int .u8 0, .int .u8 k] 5)).alloc (.cells #[.slice (some ⟨w2.heap.size, 0, none⟩) 3 3] 74)) (w2.heap.size + 1) B [0, 0, k] := by
  have hb := Blk.new (w2.alloc (.cells #[.int .u8 0, .int .u8 0, .int .u8 k] 5)) 74 #[.slice (some ⟨w2.heap.size, 0, none⟩) 3 3]
  rw [show (w2.alloc (.cells #[.int .u8 0, .int .u8 0, .int .u8 k] 5)).heap.size = w2.heap.size + 1 by simp] at hb
  refine ⟨_, 3, 3, hb, ?_, ?_, Nat.le_trans hB (by simp <;> omega)⟩
  · refine World.ownsRow.alloc ?_ _
    exact ⟨rfl, .inr ⟨w2.heap.size, 3, _, rfl, hB, heap_alloc_new w2 _, by omega, by simp only [maxLen]; omega, rfl, rfl⟩⟩
  · intro z hz
    simp at hz
    rcases hz with rfl | rfl | rfl <;> omega
end Go.Proofs.Ytajhkjikcgfhdaa
