/-
  The walks of what container/heap asks of timer.moments: Len, Less, Swap, Push, Pop; and of cmp.Compare, cmp.Or at int.
-/
import Derived.Test.YtkjjdbbogfjdlaaWords
import Derived.WalkSpells
import Derived.WalkLawsBesides
import Derived.Deep.RegionWith
import Derived.Deep.RegionHeld3
import Derived.BigQuiet
import Derived.BigRegion
namespace Go.Proofs.Ytkjjdbbogfjdlaa
set_option linter.unusedVariables false
set_option linter.unusedSimpArgs false
open Go.RowKit
/-- What cmp.Compare answers of two whole numbers. -/
def cmpI (a b : Int) : Int := if a < b then -1 else if b < a then 1 else 0
set_option maxHeartbeats 400000 in
theorem compare_any (a b : Int) (w : World) :
    Calls Try.prog 54 #[.int .i64 a, .int .i64 b] w fun e w' => e = .returned (.int .i64 (cmpI a b)) ∧ w' = w := by
  by_cases h : a < b
  · have e : cmpI a b = -1 := if_pos h
    rw [e]
    clear e
    go_enter Try.func54, Try.ntmps54
    go_wp2
    go_ret
    exact ⟨rfl, rfl⟩
  · by_cases h2 : b < a
    · have e : cmpI a b = 1 := (if_neg h).trans (if_pos h2)
      rw [e]
      clear e
      go_enter Try.func54, Try.ntmps54
      go_wp2
      go_ret
      exact ⟨rfl, rfl⟩
    · have e : cmpI a b = 0 := (if_neg h).trans (if_neg h2)
      rw [e]
      clear e
      go_enter Try.func54, Try.ntmps54
      go_wp2
      go_ret
      exact ⟨rfl, rfl⟩
def orI (x y : Int) : Int := if x ≠ 0 then x else y
set_option maxHeartbeats 400000 in
theorem or_any (g : Nat) (x y : Int) (w : World) (h0 : w.cell? ⟨g, 0, none⟩ = some (.int .i64 x)) (h1 : w.cell? ⟨g, 1, none⟩ = some (.int .i64 y)) :
    Calls Try.prog 53 #[.slice (some ⟨g, 0, none⟩) 2 2] w fun e w' => e = .returned (.int .i64 (orI x y)) ∧ w' = w := by
  have H0 := Lib.hid h0
  have H1 := Lib.hid h1
  clear h0 h1
  go_enter Try.func53, Try.ntmps53
  go_wp2
  go_loop [8] (fun i => ∃ k : Nat, k ≤ 2 ∧ i = .int .i64 k ∧ Hid (1 ≤ k → x = 0) ∧ Hid (2 ≤ k → y = 0)) (fun i => 2 - (intOf i).toNat)
  case atStart => exact ⟨0, by omega, rfl, fun h => absurd h (by omega), fun h => absurd h (by omega)⟩
  case round =>
    obtain ⟨k, hk, rfl, HX, HY⟩ := hrel
    have hk3 : k = 0 ∨ k = 1 ∨ k = 2 := by omega
    rcases hk3 with rfl | rfl | rfl
    · have hc := H0.out
      by_cases hx : x = 0
      · have b : (x != 0) = false := by simp [hx]
        have HX2 := Lib.hid hx
        clear hx
        go_wp2
        go_round
        case rel => exact ⟨1, by omega, rfl, fun _ => HX2.out, fun h => absurd h (by omega)⟩
        case measure => simp [intOf]
      · have b : (x != 0) = true := by simp [hx]
        have e : Hid (orI x y = x) := if_pos hx
        clear hx
        go_wp2
        go_ret
        exact ⟨by rw [e.out]; rfl, rfl⟩
    · have hc := H1.out
      have e : Hid (orI x y = y) := if_neg (fun k => k (HX.out (by omega)))
      by_cases hy : y = 0
      · have b : (y != 0) = false := by simp [hy]
        have HY2 := Lib.hid hy
        clear hy
        go_wp2
        go_round
        case rel => exact ⟨2, by omega, rfl, fun _ => HX.out (by omega), fun _ => HY2.out⟩
        case measure => simp [intOf]
      · have b : (y != 0) = true := by simp [hy]
        clear hy
        go_wp2
        go_ret
        exact ⟨by rw [e.out]; rfl, rfl⟩
    · have e : Hid (orI x y = 0) := by
        have hx := HX.out (by omega)
        have hy := HY.out (by omega)
        subst hx; subst hy; rfl
      go_wp2
      go_ret
      exact ⟨by rw [e.out]; rfl, rfl⟩
theorem or_new (x y : Int) (w : World) :
    Calls Try.prog 53 #[.slice (some ⟨w.heap.size, 0, none⟩) 2 2] (w.alloc (.cells #[.int .i64 x, .int .i64 y] 3)).drew fun e w' => e = .returned (.int .i64 (orI x y)) ∧ w' = (w.alloc (.cells #[.int .i64 x, .int .i64 y] 3)).drew :=
  or_any w.heap.size x y _ (cell_of_row (w.alloc (.cells #[.int .i64 x, .int .i64 y] 3)) w.heap.size 0 _ _ _ (heap_alloc_new w _)) (cell_of_row (w.alloc (.cells #[.int .i64 x, .int .i64 y] 3)) w.heap.size 1 _ _ _ (heap_alloc_new w _))
/-! ### Rows of moments -/
abbrev P2 := Int × Int
def ocells (xs : List P2) : List Value := xs.flatMap fun p => [.int .i64 p.1, .int .i64 p.2]
def gp (xs : List P2) (i : Nat) : P2 := xs.getD i (0, 0)
theorem ocells_length (xs : List P2) : (ocells xs).length = xs.length * 2 := by
  induction xs with
  | nil => rfl
  | cons x xs ih => simp only [ocells, List.flatMap_cons, List.length_append, List.length_cons, List.length_nil] at ih ⊢; omega
theorem ocells_cons (x : P2) (xs : List P2) : ocells (x :: xs) = .int .i64 x.1 :: .int .i64 x.2 :: ocells xs := rfl
theorem ocells_append (xs ys : List P2) : ocells (xs ++ ys) = ocells xs ++ ocells ys := by simp [ocells]
theorem ocells_get (xs : List P2) (i : Nat) (h : i < xs.length) : (ocells xs)[i * 2]? = some (.int .i64 (gp xs i).1) ∧ (ocells xs)[i * 2 + 1]? = some (.int .i64 (gp xs i).2) := by
  induction xs generalizing i with
  | nil => simp at h
  | cons x xs ih =>
    rw [ocells_cons]
    cases i with
    | zero => exact ⟨rfl, rfl⟩
    | succ i =>
      have := ih i (by simpa using h)
      rw [show (i + 1) * 2 = i * 2 + 1 + 1 by omega]
      simpa [gp] using this
theorem ocells_set (xs : List P2) (i : Nat) (h : i < xs.length) (p : P2) : ((ocells xs).set (i * 2) (.int .i64 p.1)).set (i * 2 + 1) (.int .i64 p.2) = ocells (xs.set i p) := by
  induction xs generalizing i with
  | nil => simp at h
  | cons x xs ih =>
    cases i with
    | zero => rfl
    | succ i =>
      have := ih i (by simpa using h)
      rw [ocells_cons, show (i + 1) * 2 = i * 2 + 1 + 1 by omega]
      simp only [List.set_cons_succ]
      rw [this]
      rfl
/-- A slice of moments of the call's own. -/
def Row (w : World) (v : Value) (xs : List P2) : Prop := w.ownsRow 0 59 2 v xs.length (ocells xs)
theorem Row.form_ {w : World} {v : Value} {xs : List P2} (h : Row w v xs) (h0 : 0 < xs.length) : ∃ g cap, v = .slice (some ⟨g, 0, none⟩) xs.length cap ∧ g < w.heap.size := by
  obtain ⟨g, cap, hv, _, hlt⟩ := h.form h0
  exact ⟨g, cap, hv, hlt⟩
theorem Row.at_ {w : World} {g n cap : Nat} {xs : List P2} (h : Row w (.slice (some ⟨g, 0, none⟩) n cap) xs) (hn : xs.length = n) (i : Nat) (hi : i < n) :
    w.cell? ⟨g, i * 2, none⟩ = some (.int .i64 (gp xs i).1) ∧ w.cell? ⟨g, i * 2 + 1, none⟩ = some (.int .i64 (gp xs i).2) := by
  subst hn
  unfold Row at h
  rw [World.ownsRow.cellAt h _ (by omega), World.ownsRow.cellAt h _ (by omega)]
  exact ocells_get xs i hi
theorem Row.free {w : World} {g n cap : Nat} {xs : List P2} (h : Row w (.slice (some ⟨g, 0, none⟩) n cap) xs) (hn : xs.length = n) (k : Nat) : w.frozen? ⟨g, k, none⟩ = false := by
  subst hn
  exact World.ownsRow.frozenAt h k
theorem Row.below {w w1 : World} {v : Value} {xs : List P2} (h : Row w v xs) (hb : Below w.heap.size w w1) : Row w1 v xs :=
  World.ownsRow.kept h (only_of_below hb none) (by cases v.ownBlock <;> simp)
theorem cell_ad {w : World} {a : Addr} {v : Value} {o : Obj} (h : w.cell? a = some v) : (w.alloc o).drew.cell? a = some v := (World.cell?_alloc_lt w o a (World.block_lt_of_cell? w a h)).trans h
/-- Does a moment stand ahead of another one? -/
def lessP (a b : P2) : Bool := decide (a.1 < b.1) || (decide (a.1 = b.1) && decide (a.2 < b.2))
theorem less_walk (a b : P2) : decide (orI (cmpI a.1 b.1) (cmpI a.2 b.2) < 0) = lessP a b := by
  unfold orI cmpI lessP
  by_cases h1 : a.1 < b.1
  · simp [h1]
  · by_cases h2 : b.1 < a.1
    · have : ¬ a.1 = b.1 := by omega
      simp [h1, h2, this]
    · have : a.1 = b.1 := by omega
      by_cases h3 : a.2 < b.2
      · simp [this, h3]
      · by_cases h4 : b.2 < a.2 <;> simp [this, h3, h4]
set_option maxHeartbeats 1000000 in
theorem less_any (g n cap i j : Nat) (xs : List P2) (w : World) (h : Row w (.slice (some ⟨g, 0, none⟩) n cap) xs) (hn : xs.length = n) (hi : i < n) (hj : j < n) (hm : n ≤ 1000) :
    Calls Try.prog 51 #[.slice (some ⟨g, 0, none⟩) n cap, .int .i64 i, .int .i64 j] w fun e w' => ∃ W, e = .returned (.bool (lessP (gp xs i) (gp xs j))) ∧ W = w' ∧ Below w.heap.size w W := by
  obtain ⟨a1, a2⟩ := h.at_ hn i hi
  obtain ⟨b1, b2⟩ := h.at_ hn j hj
  have e := less_walk (gp xs i) (gp xs j)
  clear h hn
  go_enter Try.func51, Try.ntmps51
  go_wp2
  go_region_held3 (fun w' => w'.cell? ⟨g, i * 2, none⟩ = some (.int .i64 (gp xs i).1) ∧ w'.cell? ⟨g, i * 2 + 1, none⟩ = some (.int .i64 (gp xs i).2) ∧ w'.cell? ⟨g, j * 2, none⟩ = some (.int .i64 (gp xs j).1) ∧ w'.cell? ⟨g, j * 2 + 1, none⟩ = some (.int .i64 (gp xs j).2)) (first | exact ⟨a1, a2, b1, b2⟩ | exact ⟨cell_ad a1, cell_ad a2, cell_ad b1, cell_ad b2⟩)
    (first
    | (go_at_call 54; refine (compare_any _ _ _).mono ?_; rintro e w' ⟨rfl, rfl⟩)
    | (go_at_call 53; refine (or_new _ _ _).mono ?_; rintro e w' ⟨rfl, rfl⟩))
  all_goals (go_wp2; go_ret; exact ⟨_, rfl, rfl, ((Below.refl _ _).alloc (Nat.le_refl _) _).drew⟩)
theorem grownBy_drew_ {w w1 : World} {row : Option Nat} (h : w.grownBy w1 row) : w.grownBy w1.drew row := ⟨h.os, h.tape, h.output, h.size, h.block⟩
theorem grownBy_trans_ {w w1 w2 : World} {row : Option Nat} (h : w.grownBy w1 row) (k : w1.grownBy w2 row) : w.grownBy w2 row :=
  ⟨k.os.trans h.os, k.tape.trans h.tape, k.output.trans h.output, Nat.le_trans h.size k.size, fun i hi hn => (k.block i (Nat.lt_of_lt_of_le hi h.size) hn).trans (h.block i hi hn)⟩
theorem Row.set_ {w : World} {g n cap : Nat} {xs : List P2} (h : Row w (.slice (some ⟨g, 0, none⟩) n cap) xs) (i : Nat) (hi : i < n) (hn : xs.length = n) (p : P2) :
    Row ((w.setCell ⟨g, i * 2, none⟩ (.int .i64 p.1)).setCell ⟨g, i * 2 + 1, none⟩ (.int .i64 p.2)) (.slice (some ⟨g, 0, none⟩) n cap) (xs.set i p) ∧
      w.grownBy ((w.setCell ⟨g, i * 2, none⟩ (.int .i64 p.1)).setCell ⟨g, i * 2 + 1, none⟩ (.int .i64 p.2)) (some g) := by
  subst hn
  unfold Row at h ⊢
  obtain ⟨r1, q1⟩ := World.ownsRow.stored h (i * 2) (.int .i64 p.1)
  obtain ⟨r2, q2⟩ := World.ownsRow.stored r1 (i * 2 + 1) (.int .i64 p.2)
  rw [ocells_set xs i hi p] at r2
  rw [List.length_set]
  exact ⟨r2, grownBy_trans_ q1 q2⟩
def swapP (xs : List P2) (i j : Nat) : List P2 := (xs.set i (gp xs j)).set j (gp xs i)
set_option maxHeartbeats 1000000 in
theorem swap_any (g n cap i j : Nat) (xs : List P2) (w : World) (h : Row w (.slice (some ⟨g, 0, none⟩) n cap) xs) (hn : xs.length = n) (hi : i < n) (hj : j < n) (hm : n ≤ 1000) (hij : i ≠ j) :
    Calls Try.prog 52 #[.slice (some ⟨g, 0, none⟩) n cap, .int .i64 i, .int .i64 j] w fun e w' => ∃ W, e = .returned (.tuple #[]) ∧ W = w' ∧ Row W (.slice (some ⟨g, 0, none⟩) n cap) (swapP xs i j) ∧ w.grownBy W (some g) := by
  obtain ⟨a1, a2⟩ := h.at_ hn i hi
  obtain ⟨b1, b2⟩ := h.at_ hn j hj
  have f1 := h.free hn (i * 2)
  have f2 := h.free hn (i * 2 + 1)
  have f3 := h.free hn (j * 2)
  have f4 := h.free hn (j * 2 + 1)
  have H := Lib.hid h
  have HN := Lib.hid hn
  clear h hn
  go_enter Try.func52, Try.ntmps52
  go_wp2
  go_region
  go_end0
  obtain ⟨r1, q1⟩ := H.out.set_ i hi HN.out (gp xs j)
  obtain ⟨r2, q2⟩ := r1.set_ j hj (by rw [List.length_set]; exact HN.out) (gp xs i)
  exact ⟨_, rfl, rfl, r2, grownBy_drew_ (grownBy_trans_ q1 q2)⟩
set_option maxHeartbeats 1000000 in
theorem swap_same (g n cap i : Nat) (xs : List P2) (w : World) (h : Row w (.slice (some ⟨g, 0, none⟩) n cap) xs) (hn : xs.length = n) (hi : i < n) (hm : n ≤ 1000) :
    Calls Try.prog 52 #[.slice (some ⟨g, 0, none⟩) n cap, .int .i64 i, .int .i64 i] w fun e w' => ∃ W, e = .returned (.tuple #[]) ∧ W = w' ∧ Row W (.slice (some ⟨g, 0, none⟩) n cap) (swapP xs i i) ∧ w.grownBy W (some g) := by
  obtain ⟨a1, a2⟩ := h.at_ hn i hi
  have f1 := h.free hn (i * 2)
  have f2 := h.free hn (i * 2 + 1)
  have H := Lib.hid h
  have HN := Lib.hid hn
  clear h hn
  go_enter Try.func52, Try.ntmps52
  go_wp2
  go_region
  go_end0
  obtain ⟨r1, q1⟩ := H.out.set_ i hi HN.out (gp xs i)
  obtain ⟨r2, q2⟩ := r1.set_ i hi (by rw [List.length_set]; exact HN.out) (gp xs i)
  exact ⟨_, rfl, rfl, r2, grownBy_drew_ (grownBy_trans_ q1 q2)⟩
theorem swap_all (g n cap i j : Nat) (xs : List P2) (w : World) (h : Row w (.slice (some ⟨g, 0, none⟩) n cap) xs) (hn : xs.length = n) (hi : i < n) (hj : j < n) (hm : n ≤ 1000) :
    Calls Try.prog 52 #[.slice (some ⟨g, 0, none⟩) n cap, .int .i64 i, .int .i64 j] w fun e w' => ∃ W, e = .returned (.tuple #[]) ∧ W = w' ∧ Row W (.slice (some ⟨g, 0, none⟩) n cap) (swapP xs i j) ∧ w.grownBy W (some g) := by
  by_cases e : i = j
  · subst e
    exact swap_same g n cap i xs w h hn hi hm
  · exact swap_any g n cap i j xs w h hn hi hj hm e
end Go.Proofs.Ytkjjdbbogfjdlaa
