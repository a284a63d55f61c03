/-
  Which numbers and items may be: msg's worker, place, within, item; inkhornref15's in, nums, item.
-/
import Derived.Test.YtajhkjikcgfhdaaLess3
import Derived.Test.YtajhkjikcgfhdaaUtfRef5
namespace Go.Proofs.Ytajhkjikcgfhdaa
set_option linter.unusedVariables false
set_option linter.unusedSimpArgs false
set_option maxRecDepth 20000
open Go.RowKit
/-- A slice of n ints that reads as zs. -/
def NReads (w : World) (A : Option Addr) (n : Nat) (zs : List Int) : Prop :=
  zs.length = n ∧ n ≤ 9223372036854775807 ∧ (0 < n → ∃ ad, A = some ad ∧ ∀ j, j < n → w.cell? (ad.add j) = some (.int .i64 (gi zs j)))
theorem NReads.at_ {w : World} {A : Option Addr} {n : Nat} {zs : List Int} (h : NReads w A n zs) (k : Nat) (hk : k < n) : ∃ ad, A = some ad ∧ w.cell? (ad.add k) = some (.int .i64 (gi zs k)) := by
  obtain ⟨ad, e, hc⟩ := h.2.2 (by omega)
  exact ⟨ad, e, hc k hk⟩
def nvals (zs : List Int) : List Value := zs.map fun z => .int .i64 z
theorem nvals_get (zs : List Int) (k : Nat) (h : k < zs.length) : (nvals zs)[k]? = some (.int .i64 (gi zs k)) := by
  simp [nvals, gi_eq zs k h]
theorem nreads_lit (w : World) (zs : List Int) (t : TypeId) (hm : zs.length ≤ 9223372036854775807) : NReads (w.alloc (.cells (nvals zs).toArray t)) (some ⟨w.heap.size, 0, none⟩) zs.length zs :=
  ⟨rfl, hm, fun _ => ⟨_, rfl, fun j hj => by rw [add_zero, cell_of_row _ _ _ _ _ _ (heap_alloc_new w _)]; simpa using nvals_get zs j hj⟩⟩
theorem NReads.below {w w1 : World} {A : Option Addr} {n : Nat} {zs : List Int} (h : NReads w A n zs) (hb : Below w.heap.size w w1) : NReads w1 A n zs :=
  ⟨h.1, h.2.1, fun hn => by
    obtain ⟨ad, e, hc⟩ := h.2.2 hn
    exact ⟨ad, e, fun j hj => (hb.cell (World.block_lt_of_cell? w _ (hc j hj))).trans (hc j hj)⟩⟩
theorem nreads1 (w : World) (a : Int) (t : TypeId) : NReads (w.alloc (.cells #[.int .i64 a] t)) (some ⟨w.heap.size, 0, none⟩) 1 [a] := nreads_lit w [a] t (by simp)
theorem nreads2 (w : World) (a b : Int) (t : TypeId) : NReads (w.alloc (.cells #[.int .i64 a, .int .i64 b] t)) (some ⟨w.heap.size, 0, none⟩) 2 [a, b] := nreads_lit w [a, b] t (by simp)
theorem nreads3 (w : World) (a b c : Int) (t : TypeId) : NReads (w.alloc (.cells #[.int .i64 a, .int .i64 b, .int .i64 c] t)) (some ⟨w.heap.size, 0, none⟩) 3 [a, b, c] := nreads_lit w [a, b, c] t (by simp)
def okN (n : Int) : Bool := decide (0 ≤ n ∧ n ≤ 2147483647)
def withinB (zs : List Int) : Bool := zs.all okN
theorem all_take_succ (zs : List Int) (p : Int → Bool) (k : Nat) (h : k < zs.length) : (zs.take (k + 1)).all p = ((zs.take k).all p && p (gi zs k)) := by
  rw [List.take_succ_eq_append_getElem h, List.all_append]
  simp [gi, List.getD_eq_getElem?_getD, h]
theorem all_no (zs : List Int) (p : Int → Bool) (k : Nat) (h : k < zs.length) (hp : p (gi zs k) = false) : zs.all p = false := by
  rw [Bool.eq_false_iff]
  intro ha
  have : gi zs k ∈ zs := List.mem_of_getElem? (gi_eq zs k h)
  have := List.all_eq_true.1 ha _ this
  rw [hp] at this
  cases this
set_option maxHeartbeats 1000000 in
theorem within_any (A : Option Addr) (n c : Nat) (zs : List Int) (w : World) (h : NReads w A n zs) :
    Calls Try.prog 45 #[.slice A n c] w fun e w' => e = .returned (.bool (withinB zs)) ∧ w = w' := by
  have hm := h.2.1
  have HL := Lib.hid h.1
  have H := Lib.hid h
  clear h
  go_enter Try.func45, Try.ntmps45
  go_wp2
  go_loop [7] (fun i => ∃ k : Nat, k ≤ n ∧ i = .int .i64 k ∧ Hid ((zs.take k).all okN = true)) (fun i => n - (intOf i).toNat)
  case atStart => exact ⟨0, by omega, rfl, rfl⟩
  case round =>
    obtain ⟨k, hk, rfl, HS⟩ := hrel
    by_cases hlt : k < n
    · obtain ⟨ad, rfl, hc⟩ := H.out.at_ k hlt
      obtain ⟨x, hx⟩ : ∃ x, gi zs k = x := ⟨_, rfl⟩
      rw [hx] at hc
      have HX := Lib.hid hx
      clear hx
      by_cases h1 : x < 0
      · have HE : Hid (withinB zs = false) := all_no zs okN k (by rw [HL.out]; exact hlt) (by rw [HX.out]; exact decide_eq_false (by omega))
        go_wp2
        go_ret
        exact ⟨by rw [HE.out]; rfl, rfl⟩
      · have h1' : decide (x < 0) = false := decide_eq_false h1
        by_cases h2 : 2147483647 < x
        · have HE : Hid (withinB zs = false) := all_no zs okN k (by rw [HL.out]; exact hlt) (by rw [HX.out]; exact decide_eq_false (by omega))
          go_wp2
          go_ret
          exact ⟨by rw [HE.out]; rfl, rfl⟩
        · have h2' : decide (2147483647 < x) = false := decide_eq_false h2
          have HS2 : Hid ((zs.take (k + 1)).all okN = true) := by
            unfold Hid
            rw [all_take_succ zs okN k (by rw [HL.out]; exact hlt), HS.out, HX.out]
            exact decide_eq_true (by omega)
          go_wp2
          go_round
          case rel => exact ⟨k + 1, by omega, by go_num, HS2⟩
          case measure => simp [intOf]; omega
    · obtain rfl : k = n := by omega
      have HE : Hid (withinB zs = true) := by
        have := HS.out
        rwa [List.take_of_length_le (by rw [HL.out]; exact Nat.le_refl _)] at this
      go_wp2
      go_ret
      exact ⟨by rw [HE.out]; rfl, rfl⟩
set_option maxHeartbeats 1000000 in
theorem nums_any (A : Option Addr) (n c : Nat) (zs : List Int) (w : World) (h : NReads w A n zs) :
    Calls Try.prog 50 #[.slice A n c] w fun e w' => e = .returned (.bool (withinB zs)) ∧ w = w' := by
  have hm := h.2.1
  have HL := Lib.hid h.1
  have H := Lib.hid h
  clear h
  go_enter Try.func50, Try.ntmps50
  go_wp2
  go_loop [3] (fun i => ∃ k : Nat, k ≤ n ∧ i = .int .i64 k ∧ Hid ((zs.take k).all okN = true)) (fun i => n - (intOf i).toNat)
  case atStart => exact ⟨0, by omega, rfl, rfl⟩
  case round =>
    obtain ⟨k, hk, rfl, HS⟩ := hrel
    by_cases hlt : k < n
    · obtain ⟨ad, rfl, hc⟩ := H.out.at_ k hlt
      obtain ⟨x, hx⟩ : ∃ x, gi zs k = x := ⟨_, rfl⟩
      rw [hx] at hc
      have HX := Lib.hid hx
      clear hx
      by_cases h1 : x < 0
      · have HE : Hid (withinB zs = false) := all_no zs okN k (by rw [HL.out]; exact hlt) (by rw [HX.out]; exact decide_eq_false (by omega))
        go_wp2
        go_ret
        exact ⟨by rw [HE.out]; rfl, rfl⟩
      · have h1' : decide (x < 0) = false := decide_eq_false h1
        by_cases h2 : 2147483647 < x
        · have HE : Hid (withinB zs = false) := all_no zs okN k (by rw [HL.out]; exact hlt) (by rw [HX.out]; exact decide_eq_false (by omega))
          go_wp2
          go_ret
          exact ⟨by rw [HE.out]; rfl, rfl⟩
        · have h2' : decide (2147483647 < x) = false := decide_eq_false h2
          have HS2 : Hid ((zs.take (k + 1)).all okN = true) := by
            unfold Hid
            rw [all_take_succ zs okN k (by rw [HL.out]; exact hlt), HS.out, HX.out]
            exact decide_eq_true (by omega)
          go_wp2
          go_round
          case rel => exact ⟨k + 1, by omega, by go_num, HS2⟩
          case measure => simp [intOf]; omega
    · obtain rfl : k = n := by omega
      have HE : Hid (withinB zs = true) := by
        have := HS.out
        rwa [List.take_of_length_le (by rw [HL.out]; exact Nat.le_refl _)] at this
      go_wp2
      go_ret
      exact ⟨by rw [HE.out]; rfl, rfl⟩
def inB (n lo hi : Int) : Bool := decide (lo ≤ n ∧ n ≤ hi)
theorem inB_no {n lo hi : Int} (h : ¬ lo ≤ n) : inB n lo hi = false := decide_eq_false fun k => h k.1
theorem inB_yes {n lo hi : Int} (h : lo ≤ n) : inB n lo hi = decide (n ≤ hi) := by simp [inB, h]
theorem in_any (n lo hi : Int) (w : World) :
    Calls Try.prog 49 #[.int .i64 n, .int .i64 lo, .int .i64 hi] w fun e w' => e = .returned (.bool (inB n lo hi)) ∧ w = w' := by
  by_cases h : lo ≤ n
  · rw [inB_yes h]
    go_enter Try.func49, Try.ntmps49
    go_wp2
    go_ret
    exact ⟨rfl, rfl⟩
  · rw [inB_no h]
    have h' : decide (lo ≤ n) = false := decide_eq_false h
    go_enter Try.func49, Try.ntmps49
    go_wp2
    go_ret
    exact ⟨rfl, rfl⟩
theorem worker_any (n : Int) (w : World) :
    Calls Try.prog 44 #[.int .i64 n] w fun e w' => e = .returned (.bool (inB n 1 5)) ∧ w = w' := by
  by_cases h : 1 ≤ n
  · rw [inB_yes h]
    go_enter Try.func44, Try.ntmps44
    go_wp2
    go_ret
    exact ⟨rfl, rfl⟩
  · rw [inB_no h]
    have h' : decide (1 ≤ n) = false := decide_eq_false h
    go_enter Try.func44, Try.ntmps44
    go_wp2
    go_ret
    exact ⟨rfl, rfl⟩
def placeB (s h : Int) : Bool := inB s 0 3 && inB h 0 5
theorem inB_lt {n hi : Int} (h : 0 ≤ n) : inB n 0 hi = decide (n < hi + 1) := by
  rw [inB_yes h, decide_eq_decide]; omega
set_option maxHeartbeats 1000000 in
theorem place_any (s h : Int) (w : World) :
    Calls Try.prog 48 #[.int .i64 s, .int .i64 h] w fun e w' => e = .returned (.bool (placeB s h)) ∧ w = w' := by
  by_cases h1 : 0 ≤ s
  · by_cases h2 : s < 4
    · by_cases h3 : 0 ≤ h
      · rw [show placeB s h = decide (h < 6) by unfold placeB; rw [inB_lt h1, inB_lt h3]; simp [h2]]
        go_enter Try.func48, Try.ntmps48
        go_wp2
        go_ret
        exact ⟨rfl, rfl⟩
      · rw [show placeB s h = false by unfold placeB; rw [inB_no h3]; simp]
        have h3' : decide (0 ≤ h) = false := decide_eq_false h3
        go_enter Try.func48, Try.ntmps48
        go_wp2
        go_ret
        exact ⟨rfl, rfl⟩
    · rw [show placeB s h = false by unfold placeB; rw [inB_lt h1, show decide (s < 3 + 1) = false from decide_eq_false (by omega)]; simp]
      have h2' : decide (s < 4) = false := decide_eq_false h2
      go_enter Try.func48, Try.ntmps48
      go_wp2
      go_ret
      exact ⟨rfl, rfl⟩
  · rw [show placeB s h = false by unfold placeB; rw [inB_no h1]; simp]
    have h1' : decide (0 ≤ s) = false := decide_eq_false h1
    go_enter Try.func48, Try.ntmps48
    go_wp2
    go_ret
    exact ⟨rfl, rfl⟩
def itemB (d : Int) (s : ByteArray) : Bool := inB d 0 4 && wordB s
set_option maxHeartbeats 1000000 in
theorem item_any (d : Int) (s : ByteArray) (w : World) (hs : s.size ≤ 9223372036854775000) :
    Calls Try.prog 66 #[.agg #[.int .i64 d, .string s]] w fun e w' => ∃ W, e = .returned (.bool (itemB d s)) ∧ W = w' ∧ Below w.heap.size w W := by
  have hb0 : Below w.heap.size w (w.alloc (.cells #[.int .i64 d, .string s] 27)) := bel_alloc _ _
  by_cases h1 : 0 ≤ d
  · by_cases h2 : d ≤ 4
    · rw [show itemB d s = wordB s by unfold itemB; rw [inB_yes h1]; simp [h2]]
      go_enter Try.func66, Try.ntmps66
      go_wp2_with (go_at_call 82; (with_reducible refine (textWord_any _ _ hs).mono ?_); rintro e w' ⟨w1, rfl, rfl, b1⟩)
      go_ret
      exact ⟨_, rfl, rfl, bel2 hb0 b1⟩
    · rw [show itemB d s = false by unfold itemB; rw [inB_yes h1]; simp [h2]]
      have h2' : decide (d ≤ 4) = false := decide_eq_false h2
      go_enter Try.func66, Try.ntmps66
      go_wp2
      go_ret
      first | exact ⟨_, rfl, rfl, hb0⟩ | exact ⟨rfl, hb0⟩
  · rw [show itemB d s = false by unfold itemB; rw [inB_no h1]; simp]
    have h1' : decide (0 ≤ d) = false := decide_eq_false h1
    go_enter Try.func66, Try.ntmps66
    go_wp2
    go_ret
    first | exact ⟨_, rfl, rfl, hb0⟩ | exact ⟨rfl, hb0⟩
set_option maxHeartbeats 1000000 in
theorem refitem_any (d : Int) (s : ByteArray) (w : World) (hs : s.size ≤ 1000000) :
    Calls Try.prog 70 #[.agg #[.int .i64 d, .string s]] w fun e w' => ∃ W, e = .returned (.bool (itemB d s)) ∧ W = w' ∧ Below w.heap.size w W := by
  have hb0 : Below w.heap.size w (w.alloc (.cells #[.int .i64 d, .string s] 27)) := bel_alloc _ _
  obtain ⟨b, hb⟩ : ∃ b, inB d 0 4 = b := ⟨_, rfl⟩
  have HB := Lib.hid hb
  have HI : Hid (itemB d s = (b && wordB s)) := by unfold itemB Hid; rw [hb]
  rw [HI.out]
  clear hb
  cases b with
  | true =>
    go_enter Try.func70, Try.ntmps70
    go_wp2_with (first
      | (go_at_call 49; (with_reducible refine (in_any _ _ _ _).mono ?_); rintro e w' ⟨rfl, rfl⟩; rw [HB.out])
      | (go_at_call 86; (with_reducible refine (refWord_any _ _ hs).mono ?_); rintro e w' ⟨w1, rfl, rfl, b1⟩))
    go_ret
    exact ⟨_, rfl, rfl, bel2 hb0 b1⟩
  | false =>
    go_enter Try.func70, Try.ntmps70
    go_wp2_with (go_at_call 49; (with_reducible refine (in_any _ _ _ _).mono ?_); rintro e w' ⟨rfl, rfl⟩; rw [HB.out])
    go_ret
    first | exact ⟨_, rfl, rfl, hb0⟩ | exact ⟨rfl, hb0⟩
end Go.Proofs.Ytajhkjikcgfhdaa
