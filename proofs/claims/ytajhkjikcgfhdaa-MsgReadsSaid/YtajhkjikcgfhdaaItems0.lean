/-
  Rows of items of the call's own.
-/
import Derived.Test.YtajhkjikcgfhdaaRmsgAsk
import Derived.Deep.RegionLaw
namespace Go.Proofs.Ytajhkjikcgfhdaa
set_option linter.unusedVariables false
set_option linter.unusedSimpArgs false
set_option maxRecDepth 20000
open Go.RowKit
/-- The cells of items. -/
def xvals (xs : List (Int × ByteArray)) : List Value := xs.flatMap fun x => [.int .i64 x.1, .string x.2]
theorem xvals_length (xs : List (Int × ByteArray)) : (xvals xs).length = xs.length * 2 := by
  induction xs with
  | nil => rfl
  | cons x xs ih =>
    simp only [xvals, List.flatMap_cons, List.length_append, List.length_cons, List.length_nil] at ih ⊢
    omega
theorem xvals_snoc (xs : List (Int × ByteArray)) (x : Int × ByteArray) : xvals (xs ++ [x]) = xvals xs ++ [.int .i64 x.1, .string x.2] := by
  simp [xvals, List.flatMap_append]
theorem xvals_get (xs : List (Int × ByteArray)) (k : Nat) (h : k < xs.length) : (xvals xs)[k * 2]? = some (.int .i64 (gx xs k).1) ∧ (xvals xs)[k * 2 + 1]? = some (.string (gx xs k).2) := by
  induction xs generalizing k with
  | nil => simp at h
  | cons x xs ih =>
    cases k with
    | zero => exact ⟨rfl, rfl⟩
    | succ k =>
      have := ih k (by simpa using h)
      have e : xvals (x :: xs) = .int .i64 x.1 :: .string x.2 :: xvals xs := rfl
      rw [e, show (k + 1) * 2 = (k * 2) + 1 + 1 by omega]
      simp only [List.getElem?_cons_succ]
      exact this
theorem info_item : (Try.prog.info? 27).map (fun i => (i.zero, i.size, i.bytes)) = some (some (.agg #[.int .i64 0, .string ⟨#[]⟩]), 2, 24) := by kernel_rfl
theorem own_xreads {w : World} {base n : Nat} {e : TypeId} {v : Value} {xs : List (Int × ByteArray)} (h : w.ownsRow base e 2 v n (xvals xs)) (hn : n ≤ 4611686018427387904) : ∃ A c, v = .slice A n c ∧ n ≤ c ∧ XReads w A n xs := by
  have hl : xs.length = n := by have := h.1; rw [xvals_length] at this; omega
  rcases h.2 with ⟨rfl, h0, _⟩ | ⟨g, cap, cur, rfl, hb, hh, hc, hm, hs, hr⟩
  · exact ⟨none, 0, rfl, Nat.le_refl _, ⟨hl, by omega, fun h0 => absurd h0 (by omega)⟩⟩
  · refine ⟨_, cap, rfl, hc, hl, hn, fun h0 => ⟨_, rfl, fun k hk => ?_⟩⟩
    have hcell := h.cells (g := g) rfl
    obtain ⟨e1, e2⟩ := xvals_get xs k (by omega)
    have c1 := hcell _ _ e1
    have c2 := hcell _ _ e2
    rw [add_zero] at c1 c2 ⊢
    exact ⟨c1, c2⟩
theorem xreads_new2 (w : World) (u u2 : Value) (t : TypeId) : Reads (w.alloc (.cells #[u, u2] t)) (w.heap.size + 1) 2 (some ⟨w.heap.size, 0, none⟩) 1 [u, u2] := by
  refine ⟨rfl, fun _ => ⟨_, rfl, by simp, fun j v hv => ?_⟩⟩
  rw [add_zero, cell_of_row _ _ _ _ _ _ (heap_alloc_new w _)]
  simpa using hv
/-- So many items, as long as nothing was bad. -/
def ritems (zs : List Int) : Nat → Nat → Bool → List (Int × ByteArray) × Nat × Bool
  | 0, a, bad => ([], a, bad)
  | n + 1, a, bad => if bad then ([], a, bad) else ((ritem zs a bad).1 :: (ritems zs n (ritem zs a bad).2.1 (ritem zs a bad).2.2).1, (ritems zs n (ritem zs a bad).2.1 (ritem zs a bad).2.2).2)
theorem ritems_bad (zs : List Int) (n a : Nat) : ritems zs n a true = ([], a, true) := by cases n <;> simp [ritems]
theorem ritems_next (zs : List Int) (n a a' : Nat) (b' : Bool) (x : Int × ByteArray) (h : ritem zs a false = (x, a', b')) : ritems zs (n + 1) a false = (x :: (ritems zs n a' b').1, (ritems zs n a' b').2) := by
  simp [ritems, h]
theorem Rd.mk_ {t : TypeId} {w w1 : World} {g c : Nat} {A : Option Addr} {zs : List Int} {a a' : Nat} {bad b' : Bool} (h : Rd t w g A c zs a bad) (hg : w.grownBy w1 (some g)) (hb : Blk w1 g t #[.slice A zs.length c, .int .i64 a', .bool b']) : Rd t w1 g A c zs a' b' :=
  ⟨hb, h.2.1.grown hg h.2.2.2.2, h.2.2⟩
theorem only_new {a b c : World} {g : Nat} {row : Option Nat} (h : a.grownBy b (some g)) (k : b.grownBy c row) (hr : ∀ q, row = some q → a.heap.size ≤ q) : a.grownBy c (some g) :=
  ⟨k.os.trans h.os, k.tape.trans h.tape, k.output.trans h.output, Nat.le_trans h.size k.size, fun i hi hne => (k.block i (Nat.lt_of_lt_of_le hi h.size) (fun e => by have := hr i e.symm; omega)).trans (h.block i hi hne)⟩
end Go.Proofs.Ytajhkjikcgfhdaa
