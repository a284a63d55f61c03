/-
  Slices of ints that read as lists of numbers; the walks of inkhornlaw0.Low, SameInts, OverInts and Num.
-/
import Derived.Test.YtkjjdbbogfjdlaaBytes
import Derived.WalkSpells
import Derived.WalkLawsBesides
namespace Go.Proofs.Ytkjjdbbogfjdlaa
set_option linter.unusedVariables false
set_option linter.unusedSimpArgs false
open Go.RowKit
theorem toInts_eq (xs ys : List Int) (n : Nat) (h1 : xs.length = n) (h2 : ys.length = n) (h : ∀ j, j < n → gi xs j = gi ys j) : xs = ys := by
  apply List.ext_getElem? 
  intro j
  by_cases hj : j < n
  · rw [gi_eq xs j (by omega), gi_eq ys j (by omega), h j hj]
  · rw [List.getElem?_eq_none (by omega), List.getElem?_eq_none (by omega)]

/-- A slice of n ints that reads as zs. -/
def IReads (w : World) (A : Option Addr) (n : Nat) (zs : List Int) : Prop :=
  zs.length = n ∧ n ≤ 9223372036854775807 ∧ (0 < n → ∃ ad, A = some ad ∧ ∀ j, j < n → w.cell? (ad.add j) = some (.int .i64 (gi zs j)))
theorem IReads.at_ {w : World} {A : Option Addr} {n : Nat} {zs : List Int} (h : IReads w A n zs) (k : Nat) (hk : k < n) : ∃ ad, A = some ad ∧ w.cell? (ad.add k) = some (.int .i64 (gi zs k)) := by
  obtain ⟨ad, e, hc⟩ := h.2.2 (by omega)
  exact ⟨ad, e, hc k hk⟩
theorem IReads.below {w w1 : World} {A : Option Addr} {n : Nat} {zs : List Int} (h : IReads w A n zs) (hb : Below w.heap.size w w1) : IReads w1 A n zs :=
  ⟨h.1, h.2.1, fun hn => by
    obtain ⟨ad, e, hc⟩ := h.2.2 hn
    exact ⟨ad, e, fun j hj => (hb.cell (World.block_lt_of_cell? w _ (hc j hj))).trans (hc j hj)⟩⟩
theorem ireads_nil (w : World) (A : Option Addr) : IReads w A 0 [] := ⟨rfl, by omega, fun h => absurd h (by omega)⟩
def ivals (zs : List Int) : List Value := zs.map fun z => .int .i64 z
theorem ivals_get (zs : List Int) (k : Nat) (h : k < zs.length) : (ivals zs)[k]? = some (.int .i64 (gi zs k)) := by
  simp [ivals, gi_eq zs k h]
theorem ivals_length (zs : List Int) : (ivals zs).length = zs.length := by simp [ivals]
theorem Reads.ireads {w : World} {B : Nat} {A : Option Addr} {n : Nat} {zs : List Int} (h : Reads w B 1 A n (ivals zs)) (hn : n ≤ 9223372036854775807) : IReads w A n zs := by
  have hl : zs.length = n := by have := h.1; rw [ivals_length] at this; omega
  refine ⟨hl, hn, fun h0 => ?_⟩
  obtain ⟨ad, e, _, hc⟩ := h.2 h0
  exact ⟨ad, e, fun j hj => hc j _ (ivals_get zs j (by omega))⟩
theorem own_ireads {w : World} {base n : Nat} {e : TypeId} {v : Value} {zs : List Int} (h : w.ownsRow base e 1 v n (ivals zs)) : ∃ A c, v = .slice A n c ∧ n ≤ c ∧ IReads w A n zs := by
  rcases h.2 with ⟨rfl, rfl⟩ | ⟨g, cap, cur, rfl, hb, hh, hc, hm, hr⟩
  · obtain rfl : zs = [] := List.eq_nil_of_length_eq_zero (by have := h.1; simpa [ivals] using this)
    exact ⟨none, 0, rfl, Nat.le_refl _, ireads_nil _ _⟩
  · exact ⟨_, cap, rfl, hc, (Reads.of_own h).ireads (by simp only [maxLen] at hm; omega)⟩
theorem ireads_lit (w : World) (zs : List Int) (t : TypeId) (hm : zs.length ≤ 9223372036854775807) : IReads (w.alloc (.cells (ivals zs).toArray t)) (some ⟨w.heap.size, 0, none⟩) zs.length zs :=
  ⟨rfl, hm, fun _ => ⟨_, rfl, fun j hj => by rw [add_zero, cell_of_row _ _ _ _ _ _ (heap_alloc_new w _)]; simpa using ivals_get zs j hj⟩⟩
theorem IReads.take_ {w : World} {A : Option Addr} {n : Nat} {zs : List Int} (h : IReads w A n zs) (k : Nat) (hk : k ≤ n) : IReads w A k (zs.take k) := by
  have hl := h.1
  refine ⟨by rw [List.length_take]; omega, by have := h.2.1; omega, fun h0 => ?_⟩
  obtain ⟨ad, e, hc⟩ := h.2.2 (by omega)
  refine ⟨ad, e, fun j hj => ?_⟩
  rw [hc j (by omega)]
  simp [gi, List.getD_eq_getElem?_getD, List.getElem?_take, hj]
/-- What the shell of a law hands over of a slice of ints. -/
theorem ireads_row {w : World} {a : Option Addr} {len cap : Nat} {zs : List Int} (h : (a = none ∧ len = 0 ∧ cap = 0 ∧ zs = []) ∨
    ∃ x, a = some x ∧ len ≤ cap ∧ cap ≤ maxLen ∧ zs.length = cap ∧ (∀ i, i < zs.length → w.cell? (x.add i) = some (.int .i64 (zs.getD i 0))) ∧ ∀ n ∈ zs, (Lit.int .i64 n).wf = true) : IReads w a len (zs.take len) := by
  rcases h with ⟨rfl, rfl, rfl, rfl⟩ | ⟨x, rfl, hl, hm, hz, hc, hw⟩
  · exact ireads_nil _ _
  · have full : IReads w (some x) cap zs := ⟨hz, by simp only [maxLen] at hm; omega, fun _ => ⟨x, rfl, fun j hj => hc j (by omega)⟩⟩
    exact full.take_ len hl
set_option maxHeartbeats 400000 in
theorem sameints_any (A B : Option Addr) (n m c d : Nat) (xs ys : List Int) (w : World) (hx : IReads w A n xs) (hy : IReads w B m ys) :
    Calls Try.prog 12 #[.slice A n c, .slice B m d] w fun e w' => e = .returned (.bool (decide (xs = ys))) ∧ ∃ k, w' = w.drewN k := by
  have hn := hx.2.1
  have hm := hy.2.1
  have HX := Lib.hid hx
  have HY := Lib.hid hy
  clear hx hy
  by_cases hnm : n = m
  · subst hnm
    go_enter Try.func12, Try.ntmps12
    go_wp2
    go_loopw [5] (fun i wr => ∃ k : Nat, k ≤ n ∧ i = .int .i64 k ∧ Hid (∀ j, j < k → gi xs j = gi ys j) ∧ Hid (∃ q, wr = w.drewN q)) (fun i _ => n - (intOf i).toNat)
    case atStart => exact ⟨0, by omega, rfl, fun j hj => absurd hj (by omega), ⟨0, rfl⟩⟩
    case round =>
      obtain ⟨k, hk, rfl, HS, HW⟩ := hrel
      obtain ⟨q, rfl⟩ := HW.out
      clear HW
      by_cases hlt : k < n
      · obtain ⟨ad, rfl, hc⟩ := HX.out.at_ k hlt
        obtain ⟨bd, rfl, hd⟩ := HY.out.at_ k hlt
        by_cases he : gi xs k = gi ys k
        · have b1 : (gi xs k != gi ys k) = false := by simp [he]
          have HE := Lib.hid he
          clear he
          go_wp2
          go_quiet (fail)
          go_wp2
          go_roundw
          case rel => exact ⟨k + 1, by omega, by go_num, (fun j hj => by
            rcases Nat.lt_or_ge j k with h | h
            · exact HS.out j h
            · obtain rfl : j = k := by omega
              exact HE.out), ⟨_, rfl⟩⟩
          case measure => simp [intOf]; omega
        · have b1 : (gi xs k != gi ys k) = true := by simp [he]
          have e1 : Hid (decide (xs = ys) = false) := by
            apply decide_eq_false
            rintro rfl
            exact he rfl
          clear he
          go_wp2
          go_quiet (fail)
          go_wp2
          go_ret
          exact ⟨by rw [e1.out]; rfl, _, World.drewN_drewN _ _ _⟩
      · have e1 : Hid (decide (xs = ys) = true) := decide_eq_true (toInts_eq xs ys n HX.out.1 HY.out.1 fun j hj => HS.out j (by omega))
        go_wp2
        go_ret
        exact ⟨by rw [e1.out]; rfl, _, rfl⟩
  · have e1 : decide (xs = ys) = false := by
      apply decide_eq_false
      rintro rfl
      exact hnm (HX.out.1.symm.trans HY.out.1)
    have E := Lib.hid e1
    clear e1
    go_enter Try.func12, Try.ntmps12
    go_wp2
    go_ret
    exact ⟨by rw [E.out]; rfl, 0, rfl⟩
/-- A number from 0 to below n: the remainder of x taken as a number of 64 bits without a sign. -/
def lowI (x n : Int) : Int := x % 18446744073709551616 % n
theorem lowI_range (x n : Int) (h : 0 < n) : 0 ≤ lowI x n ∧ lowI x n < n := ⟨Int.emod_nonneg _ (by omega), Int.emod_lt_of_pos _ h⟩
theorem lowI_walk (x n : Int) (h : 0 < n) (hb : n ≤ 9223372036854775807) : wrap64 ((IntKind.u64.wrap x).tmod n) = lowI x n := by
  have e : IntKind.u64.wrap x = x % 18446744073709551616 := by simp [IntKind.wrap, IntKind.signed, IntKind.bits]
  have h0 : 0 ≤ x % 18446744073709551616 := Int.emod_nonneg _ (by omega)
  have e2 : (x % 18446744073709551616).tmod n = lowI x n := by unfold lowI; exact Int.tmod_eq_emod_of_nonneg h0
  rw [e, e2]
  obtain ⟨a, b⟩ := lowI_range x n h
  unfold wrap64
  omega
set_option maxHeartbeats 400000 in
theorem low_any (x n : Int) (w : World) (hn : 0 < n) (hb : n ≤ 9223372036854775807) :
    Calls Try.prog 11 #[.int .i64 x, .int .i64 n] w fun e w' => e = .returned (.int .i64 (lowI x n)) ∧ w = w' := by
  go_enter Try.func11, Try.ntmps11
  go_wp2
  go_ret
  exact ⟨by rw [← lowI_walk x n hn hb]; rfl, rfl⟩

theorem num_any (x : Int) (w : World) : Calls Try.prog 18 #[.int .i64 x] w fun e w' => e = .returned (.int .i64 x) ∧ w = w' := by
  go_enter Try.func18, Try.ntmps18
  go_wp2
  go_ret
  exact ⟨rfl, rfl⟩
end Go.Proofs.Ytkjjdbbogfjdlaa
