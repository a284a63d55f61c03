/-
  Slices of bytes that read as lists of numbers.
-/
import Derived.Test.YtajhkjikcgfhdaaWords
namespace Go.Proofs.Ytajhkjikcgfhdaa
set_option linter.unusedVariables false
set_option linter.unusedSimpArgs false
open Go.RowKit
/-- The k-th number of a list. -/
def gi (zs : List Int) (k : Nat) : Int := zs.getD k 0
/-- A slice of n bytes that reads as zs. -/
def BReads (w : World) (A : Option Addr) (n : Nat) (zs : List Int) : Prop :=
  zs.length = n ∧ n ≤ 9223372036854775807 ∧ (0 < n → ∃ ad, A = some ad ∧ ∀ j, j < n → w.cell? (ad.add j) = some (.int .u8 (gi zs j))) ∧ ∀ j, 0 ≤ gi zs j ∧ gi zs j < 256
theorem gi_eq (zs : List Int) (k : Nat) (h : k < zs.length) : zs[k]? = some (gi zs k) := by
  simp [gi, List.getD_eq_getElem?_getD, h]
theorem gi_range (zs : List Int) (h : ∀ z, z ∈ zs → 0 ≤ z ∧ z < 256) (j : Nat) : 0 ≤ gi zs j ∧ gi zs j < 256 := by
  by_cases hj : j < zs.length
  · have : gi zs j ∈ zs := List.mem_of_getElem? (gi_eq zs j hj)
    exact h _ this
  · simp [gi, List.getD_eq_getElem?_getD, List.getElem?_eq_none (Nat.le_of_not_lt hj)]
def bvals (zs : List Int) : List Value := zs.map fun z => .int .u8 z
theorem bvals_get (zs : List Int) (k : Nat) (h : k < zs.length) : (bvals zs)[k]? = some (.int .u8 (gi zs k)) := by
  simp [bvals, gi_eq zs k h]
theorem add_zero (g j : Nat) : (⟨g, 0, none⟩ : Addr).add j = ⟨g, j, none⟩ := by unfold Addr.add; split <;> simp_all
/-- A block that holds zs, of whatever mark. -/
theorem breads_blk {w : World} {g : Nat} {t : TypeId} {m : Nat × Nat} {cs : Array Value} (hb : w.heap[g]? = some (.cells cs t m)) (n : Nat) (zs : List Int) (hn : zs.length = n) (hm : n ≤ 9223372036854775807)
    (hc : ∀ j, j < n → cs[j]? = some (.int .u8 (gi zs j))) (hz : ∀ z, z ∈ zs → 0 ≤ z ∧ z < 256) : BReads w (some ⟨g, 0, none⟩) n zs :=
  ⟨hn, hm, fun _ => ⟨_, rfl, fun j hj => by rw [add_zero]; simp only [World.cell?, hb]; exact hc j hj⟩, gi_range zs hz⟩
theorem breads_lit (w : World) (zs : List Int) (t : TypeId) (m : Nat × Nat) (hm : zs.length ≤ 9223372036854775807) (hz : ∀ z, z ∈ zs → 0 ≤ z ∧ z < 256) :
    BReads (w.alloc (.cells (bvals zs).toArray t m)) (some ⟨w.heap.size, 0, none⟩) zs.length zs :=
  breads_blk (heap_alloc_new w _) _ zs rfl hm (fun j hj => by simpa using bvals_get zs j hj) hz
theorem breads_nil (w : World) (A : Option Addr) : BReads w A 0 [] := ⟨rfl, by omega, fun h => absurd h (by omega), fun j => by simp [gi]⟩
theorem BReads.below {w w1 : World} {A : Option Addr} {n : Nat} {zs : List Int} (h : BReads w A n zs) (hb : Below w.heap.size w w1) : BReads w1 A n zs :=
  ⟨h.1, h.2.1, fun hn => by
    obtain ⟨ad, e, hc⟩ := h.2.2.1 hn
    exact ⟨ad, e, fun j hj => (hb.cell (World.block_lt_of_cell? w _ (hc j hj))).trans (hc j hj)⟩, h.2.2.2⟩
theorem BReads.range {w : World} {A : Option Addr} {n : Nat} {zs : List Int} (h : BReads w A n zs) : ∀ z, z ∈ zs → 0 ≤ z ∧ z < 256 := by
  intro z hz
  obtain ⟨j, hj, e⟩ := List.getElem_of_mem hz
  have := h.2.2.2 j
  rw [gi, List.getD_eq_getElem?_getD, List.getElem?_eq_getElem hj, e] at this
  exact this
theorem foldl_take_succ {α : Type} (f : α → Int → α) (a : α) (zs : List Int) (k : Nat) (h : k < zs.length) : (zs.take (k + 1)).foldl f a = f ((zs.take k).foldl f a) (gi zs k) := by
  rw [List.take_succ_eq_append_getElem h, List.foldl_append]
  simp [gi, List.getD_eq_getElem?_getD, h]
theorem BReads.at_ {w : World} {A : Option Addr} {n : Nat} {zs : List Int} (h : BReads w A n zs) (k : Nat) (hk : k < n) : ∃ ad, A = some ad ∧ w.cell? (ad.add k) = some (.int .u8 (gi zs k)) := by
  obtain ⟨ad, e, hc⟩ := h.2.2.1 (by omega)
  exact ⟨ad, e, hc k hk⟩
theorem bvals_length (zs : List Int) : (bvals zs).length = zs.length := by simp [bvals]
theorem bvals_append (xs ys : List Int) : bvals (xs ++ ys) = bvals xs ++ bvals ys := by simp [bvals]
theorem bvals_one (zs : List Int) : ∀ u ∈ bvals zs, u.oneCell' = true := by
  intro u hu
  simp only [bvals, List.mem_map] at hu
  obtain ⟨z, _, rfl⟩ := hu
  rfl
theorem BReads.reads {w : World} {A : Option Addr} {n : Nat} {zs : List Int} (h : BReads w A n zs) : Reads w w.heap.size 1 A n (bvals zs) := by
  refine ⟨by rw [bvals_length, h.1, Nat.mul_one], fun hn => ?_⟩
  obtain ⟨ad, e, hc⟩ := h.2.2.1 hn
  refine ⟨ad, e, ?_, fun j u hu => ?_⟩
  · have := World.block_lt_of_cell? w _ (hc 0 hn)
    rwa [block_of_add] at this
  · have hj : j < n := by
      have := (List.getElem?_eq_some_iff.1 hu).1
      rw [bvals_length, h.1] at this
      exact this
    rw [bvals_get zs j (by rw [h.1]; exact hj)] at hu
    injection hu with hu
    subst hu
    exact hc j hj
theorem Reads.breads {w : World} {B : Nat} {A : Option Addr} {n : Nat} {zs : List Int} (h : Reads w B 1 A n (bvals zs)) (hn : n ≤ 9223372036854775807) (hz : ∀ z, z ∈ zs → 0 ≤ z ∧ z < 256) : BReads w A n zs := by
  have hl : zs.length = n := by have := h.1; rw [bvals_length] at this; omega
  refine ⟨hl, hn, fun h0 => ?_, gi_range zs hz⟩
  obtain ⟨ad, e, _, hc⟩ := h.2 h0
  exact ⟨ad, e, fun j hj => hc j _ (bvals_get zs j (by omega))⟩
theorem own_breads {w : World} {base n : Nat} {e : TypeId} {v : Value} {zs : List Int} (h : w.ownsRow base e 1 v n (bvals zs)) (hz : ∀ z, z ∈ zs → 0 ≤ z ∧ z < 256) : ∃ A c, v = .slice A n c ∧ n ≤ c ∧ BReads w A n zs := by
  rcases h.2 with ⟨rfl, rfl⟩ | ⟨g, cap, cur, rfl, hb, hh, hc, hm, hr⟩
  · obtain rfl : zs = [] := List.eq_nil_of_length_eq_zero (by have := h.1; simpa [bvals] using this)
    exact ⟨none, 0, rfl, Nat.le_refl _, breads_nil _ _⟩
  · exact ⟨_, cap, rfl, hc, (Reads.of_own h).breads (by simp only [maxLen] at hm; omega) hz⟩
theorem BReads.take_ {w : World} {A : Option Addr} {n : Nat} {zs : List Int} (h : BReads w A n zs) (k : Nat) (hk : k ≤ n) : BReads w A k (zs.take k) := by
  have hl := h.1
  refine ⟨by rw [List.length_take]; omega, by have := h.2.1; omega, fun h0 => ?_, gi_range _ fun z hz => h.range z (List.mem_of_mem_take hz)⟩
  obtain ⟨ad, e, hc⟩ := h.2.2.1 (by omega)
  refine ⟨ad, e, fun j hj => ?_⟩
  rw [hc j (by omega)]
  simp [gi, List.getD_eq_getElem?_getD, List.getElem?_take, hj]
theorem BReads.drop_ {w : World} {A : Option Addr} {n c : Nat} {zs : List Int} (h : BReads w A n zs) (k : Nat) (hk : k ≤ n) (hc : n ≤ c) : BReads w (if c = k then A else A.map (·.add k)) (n - k) (zs.drop k) := by
  have hl := h.1
  refine ⟨by rw [List.length_drop]; omega, by have := h.2.1; omega, fun h0 => ?_, gi_range _ fun z hz => h.range z (List.mem_of_mem_drop hz)⟩
  obtain ⟨ad, rfl, hcell⟩ := h.2.2.1 (by omega)
  rw [if_neg (by omega)]
  refine ⟨ad.add k, rfl, fun j hj => ?_⟩
  rw [add_of_add, hcell (k + j) (by omega)]
  simp [gi, List.getD_eq_getElem?_getD, List.getElem?_drop]
theorem BReads.one_ {w : World} {ad : Addr} {n : Nat} {zs : List Int} (h : BReads w (some ad) n zs) (k : Nat) (hk : k < n) : BReads w (some (ad.add k)) 1 [gi zs k] := by
  refine ⟨rfl, by omega, fun _ => ⟨_, rfl, fun j hj => ?_⟩, gi_range _ fun z hz => ?_⟩
  · obtain rfl : j = 0 := by omega
    obtain ⟨a, e, hc⟩ := h.2.2.1 (by omega)
    injection e with e
    subst e
    rw [add_of_add]
    exact hc k hk
  · simp only [List.mem_singleton] at hz
    subst hz
    exact h.2.2.2 k
theorem take_snoc_gi (zs : List Int) (k : Nat) (h : k < zs.length) : zs.take (k + 1) = zs.take k ++ [gi zs k] := by
  rw [List.take_succ_eq_append_getElem h]
  simp [gi, List.getD_eq_getElem?_getD, h]
theorem bvals_set (zs : List Int) (j : Nat) (x : Int) : (bvals zs).set j (.int .u8 x) = bvals (zs.set j x) := by simp [bvals, List.map_set]
theorem BReads.drewN {w : World} {A : Option Addr} {n : Nat} {zs : List Int} (h : BReads w A n zs) (k : Nat) : BReads (w.drewN k) A n zs := h
theorem gi_append_left (xs ys : List Int) (j : Nat) (h : j < xs.length) : gi (xs ++ ys) j = gi xs j := by
  simp [gi, List.getD_eq_getElem?_getD, List.getElem?_append_left h]
theorem gi_append_right (xs ys : List Int) (j : Nat) : gi (xs ++ ys) (xs.length + j) = gi ys j := by
  unfold gi
  rw [List.getD_eq_getElem?_getD, List.getD_eq_getElem?_getD, List.getElem?_append_right (by omega), Nat.add_sub_cancel_left]
/-- What the shell of a law hands over of a slice of bytes. -/
theorem breads_row {w : World} {a : Option Addr} {len cap : Nat} {zs : List Int} (h : (a = none ∧ len = 0 ∧ cap = 0 ∧ zs = []) ∨
    ∃ x, a = some x ∧ len ≤ cap ∧ cap ≤ maxLen ∧ zs.length = cap ∧ (∀ i, i < zs.length → w.cell? (x.add i) = some (.int .u8 (zs.getD i 0))) ∧ ∀ n ∈ zs, (Lit.int .u8 n).wf = true) : BReads w a len (zs.take len) := by
  rcases h with ⟨rfl, rfl, rfl, rfl⟩ | ⟨x, rfl, hl, hm, hz, hc, hw⟩
  · exact breads_nil _ _
  · have hm' : cap ≤ 9223372036854775807 := by simp only [maxLen] at hm; omega
    have full : BReads w (some x) cap zs := ⟨hz, hm', fun _ => ⟨x, rfl, fun j hj => hc j (by omega)⟩, gi_range zs fun z h => by
      have := hw z h
      simp [Lit.wf, IntKind.min, IntKind.max, IntKind.signed, IntKind.bits] at this
      omega⟩
    exact full.take_ len hl
theorem row_cap {w : World} {a : Option Addr} {len cap : Nat} {zs : List Int} (h : (a = none ∧ len = 0 ∧ cap = 0 ∧ zs = []) ∨
    ∃ x, a = some x ∧ len ≤ cap ∧ cap ≤ maxLen ∧ zs.length = cap ∧ (∀ i, i < zs.length → w.cell? (x.add i) = some (.int .u8 (zs.getD i 0))) ∧ ∀ n ∈ zs, (Lit.int .u8 n).wf = true) : len ≤ cap ∧ cap ≤ 9223372036854775807 := by
  rcases h with ⟨rfl, rfl, rfl, rfl⟩ | ⟨x, rfl, hl, hm, hz, hc, hw⟩
  · exact ⟨Nat.le_refl _, by omega⟩
  · exact ⟨hl, by simp only [maxLen] at hm; omega⟩
theorem i64_wf {x : Int} (h : (Lit.int .i64 x).wf = true) : -9223372036854775808 ≤ x ∧ x ≤ 9223372036854775807 := by
  simp [Lit.wf, IntKind.min, IntKind.max, IntKind.signed, IntKind.bits] at h
  omega
theorem u32_wf {x : Int} (h : (Lit.int .u32 x).wf = true) : 0 ≤ x ∧ x ≤ 4294967295 := by
  simp [Lit.wf, IntKind.min, IntKind.max, IntKind.signed, IntKind.bits] at h
  omega
theorem info_u8 : (Try.prog.info? 5).map (fun i => (i.zero, i.size, i.bytes)) = some (some (.int .u8 0), 1, 1) := by kernel_rfl
end Go.Proofs.Ytajhkjikcgfhdaa
