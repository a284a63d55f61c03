/-
  The walk of inkhornref17's Cancel.
-/
import Derived.Test.YtkjjdbbogfjdlaaRef17
import Derived.Deep.RegionLaw
namespace Go.Proofs.Ytkjjdbbogfjdlaa
set_option linter.unusedVariables false
set_option linter.unusedSimpArgs false
open Go.RowKit
open HP
theorem info_rone : (Try.prog.info? 68).map (fun i => (i.zero, i.size, i.bytes)) = some (some (.agg #[.int .i64 0, .int .i64 0]), 2, 16) := by kernel_rfl
theorem RRow.reads {w : World} {b n cap : Nat} {xs : List P2} (h : RRow w (.slice (some ⟨b, 0, none⟩) n cap) xs) (hn : xs.length = n) : Reads w w.heap.size 2 (some ⟨b, 0, none⟩) n (rcells xs) := by
  subst hn
  unfold RRow at h
  refine ⟨rcells_length xs, fun h0 => ⟨_, rfl, ?_, fun j u hu => ?_⟩⟩
  · obtain ⟨b', cap', e, _, hlt⟩ := h.form h0
    injection e with e
    injection e with e
    injection e with e
    subst e
    exact hlt
  · have hadd : (⟨b, 0, none⟩ : Addr).add j = ⟨b, j, none⟩ := by unfold Addr.add; split <;> simp_all
    have hj : j < (rcells xs).length := (List.getElem?_eq_some_iff.1 hu).1
    rw [rcells_length] at hj
    rw [hadd, World.ownsRow.cellAt h j (by omega)]
    exact hu
theorem rcells_take (xs : List P2) (k : Nat) : rcells (xs.take k) = (rcells xs).take (k * 2) := by
  induction xs generalizing k with
  | nil => simp [rcells]
  | cons x xs ih =>
    cases k with
    | zero => simp [rcells]
    | succ k =>
      rw [List.take_succ_cons, rcells_cons, rcells_cons, ih, show (k + 1) * 2 = k * 2 + 1 + 1 by omega]
      rfl
theorem rcells_drop (xs : List P2) (k : Nat) : rcells (xs.drop k) = (rcells xs).drop (k * 2) := by
  induction xs generalizing k with
  | nil => simp [rcells]
  | cons x xs ih =>
    cases k with
    | zero => simp
    | succ k =>
      rw [List.drop_succ_cons, rcells_cons, ih, show (k + 1) * 2 = k * 2 + 1 + 1 by omega]
      rfl
theorem RRow.take_ {w : World} {b n cap : Nat} {xs : List P2} (h : RRow w (.slice (some ⟨b, 0, none⟩) n cap) xs) (hn : xs.length = n) (k : Nat) (hk : k ≤ n) : Reads w w.heap.size 2 (some ⟨b, 0, none⟩) k (rcells (xs.take k)) := by
  obtain ⟨r1, r2⟩ := h.reads hn
  refine ⟨by rw [rcells_length, List.length_take]; omega, fun h0 => ?_⟩
  obtain ⟨ad, e, hlt, hc⟩ := r2 (by omega)
  refine ⟨ad, e, hlt, fun j u hu => hc j u ?_⟩
  rw [rcells_take, List.getElem?_take] at hu
  split at hu
  · exact hu
  · cases hu
theorem RRow.drop_ {w : World} {b n cap : Nat} {xs : List P2} (h : RRow w (.slice (some ⟨b, 0, none⟩) n cap) xs) (hn : xs.length = n) (k : Nat) (hk : k ≤ n) (A : Option Addr) (hA : k < n → A = some ⟨b, k * 2, none⟩) : Reads w w.heap.size 2 A (n - k) (rcells (xs.drop k)) := by
  obtain ⟨r1, r2⟩ := h.reads hn
  refine ⟨by rw [rcells_length, List.length_drop]; omega, fun h0 => ?_⟩
  obtain ⟨ad, e, hlt, hc⟩ := r2 (by omega)
  injection e with e
  subst e
  refine ⟨_, hA (by omega), hlt, fun j u hu => ?_⟩
  rw [rcells_drop, List.getElem?_drop] at hu
  have := hc _ u hu
  have e1 : (⟨b, 0, none⟩ : Addr).add (k * 2 + j) = ⟨b, k * 2 + j, none⟩ := by unfold Addr.add; split <;> simp_all
  have e2 : (⟨b, k * 2, none⟩ : Addr).add j = ⟨b, k * 2 + j, none⟩ := by unfold Addr.add; split <;> simp_all
  rw [e2, ← e1]
  exact this
theorem below_none {w w2 : World} (h : w.grownBy w2 none) : Below w.heap.size w w2 := ⟨h.os, h.tape, h.output, h.size, fun k hk => h.block k hk (by simp)⟩
/-- What stands behind Cancel's second append. -/
theorem rcancel_facts {w w2 w3 : World} {g b n cap k : Nat} {most : Int} {xs : List P2} {v2 v3 : Value} (h : Rf w g most (.slice (some ⟨b, 0, none⟩) n cap) xs) (hn : xs.length = n) (hk : k < n) (hg2 : w.drew.grownBy w2 none) (hat2 : v2.ownBlock = none ∨ v2.ownBlock = some w.drew.heap.size)
    (hown3 : w3.ownsRow 0 68 2 v3 (0 + k + (n - (k + 1))) ([] ++ rcells (xs.take k) ++ rcells (xs.drop (k + 1)))) (hg3 : w2.grownBy w3 v2.ownBlock) :
    (∃ A m c, v3 = .slice A m c) ∧ w3.cell? ⟨g, 0, none⟩ = some (.slice (some ⟨b, 0, none⟩) n cap) ∧ w3.frozen? ⟨g, 0, none⟩ = false ∧ Rf (w3.setCell ⟨g, 0, none⟩ v3) g most v3 (xs.eraseIdx k) ∧ w.grownBy (w3.setCell ⟨g, 0, none⟩ v3) (some g) := by
  have hgl := h.blk.lt
  have b2 : Below w.heap.size w w2 := below_none ⟨hg2.os, hg2.tape, hg2.output, hg2.size, hg2.block⟩
  have b3 : Below w.heap.size w w3 := b2.grown hg3 b2.size (fun q hq => by
    rcases hat2 with e | e
    · rw [e] at hq; cases hq
    · rw [e] at hq; injection hq with hq; subst hq; exact Nat.le_refl _)
  have r3 := h.below b3
  refine ⟨?_, r3.c0, r3.blk.frozen 0, ⟨r3.blk.set_ 0 v3, ?_⟩, ⟨b3.os, b3.tape, b3.output, by simpa [World.setCell] using b3.size, fun q hq hne => ?_⟩⟩
  · rcases hown3.2 with ⟨rfl, _⟩ | ⟨g', cap', cur, rfl, _⟩
    · exact ⟨_, _, _, rfl⟩
    · exact ⟨_, _, _, rfl⟩
  · unfold RRow
    have e1 : (xs.eraseIdx k).length = 0 + k + (n - (k + 1)) := by rw [List.length_eraseIdx, if_pos (by omega)]; omega
    have e2 : rcells (xs.eraseIdx k) = [] ++ rcells (xs.take k) ++ rcells (xs.drop (k + 1)) := by rw [List.eraseIdx_eq_take_drop_succ, rcells_append]; rfl
    rw [e1, e2]
    refine World.ownsRow.kept hown3 (row := some g) ⟨rfl, rfl, rfl, by simp [World.setCell], fun q _ hq => Below.heap_setCell _ _ _ _ (fun e => hq (by rw [e]))⟩ (.inr (own_blk_ne hown3 r3.blk (by decide)))
  · rw [Below.heap_setCell _ _ _ _ (fun e => hne (by rw [e])), b3.block q hq]
set_option maxHeartbeats 2000000 in
theorem rcancel_any (g : Nat) (most : Int) (v : Value) (xs : List P2) (id : Int) (w : World) (h : Rf w g most v xs) (hm : xs.length ≤ 1000) :
    Calls Try.prog 19 #[.pointer (some ⟨g, 0, none⟩), .int .i64 id] w fun e w' => ∃ W v2, e = .returned (.bool (decide (findN xs id < xs.length))) ∧ W = w' ∧ Rf W g most v2 (xs.eraseIdx (findN xs id)) ∧ w.grownBy W (some g) := by
  obtain ⟨i0, hi, hz0, hz1, hz2⟩ := info_parts info_rone
  have I := Lib.hid (And.intro hi (And.intro hz0 (And.intro hz1 hz2)))
  obtain ⟨A, cap, rfl⟩ := h.row.len_
  have hc := h.c0
  have hcap : xs.length ≤ cap := by
    rcases h.row.2 with ⟨e, hz⟩ | ⟨_, _, _, e, _, _, hle, _⟩
    · omega
    · injection e with _ _ e
      omega
  have H := Lib.hid h
  clear h hi hz0 hz1 hz2
  go_enter Try.func19, Try.ntmps19
  go_wp2
  go_loop [5] (fun i => ∃ k : Nat, k ≤ xs.length ∧ i = .int .i64 k ∧ Hid (∀ j, j < k → (gp xs j).2 ≠ id)) (fun i => xs.length - (intOf i).toNat)
  case atStart => exact ⟨0, by omega, rfl, fun j hj => absurd hj (by omega)⟩
  case round =>
    obtain ⟨k, hk, rfl, HA⟩ := hrel
    by_cases hkn : k < xs.length
    · obtain ⟨b, hA, a1, a2⟩ := H.out.row.at_ rfl k hkn
      subst hA
      cases hb : (gp xs k).2 == id with
      | true =>
        have e0 : findN xs id = k := findN_at xs id k hkn HA.out (by simpa using hb)
        have e : Hid (findN xs id = k ∧ decide (findN xs id < xs.length) = true) := by
          unfold Hid
          rw [e0]
          exact ⟨rfl, by simp [hkn]⟩
        clear e0
        have hwr : IntKind.i64.wrap ((k : Int) + 1) = (k : Int) + 1 := IntWalk.i64_in _ (by omega)
        have hkc : k ≤ cap := by omega
        have hkc1 : k + 1 ≤ cap := by omega
        have HKN := Lib.hid hkn
        have hbd : 0 ≤ (k : Int) + 1 ∧ (k : Int) + 1 ≤ (xs.length : Int) := by omega
        go_wp2_with fail
        go_region_law (first
          | (refine step_append_any _ rfl (.const (.slice none 0 0)) (.tmp 31) 47 rfl 0 68 i0 (.agg #[.int .i64 0, .int .i64 0]) 2 16 Try.underlying47 I.out.1 I.out.2.1 I.out.2.2.1 I.out.2.2.2 rfl (by omega) (.slice none 0 0) 0 [] (by simp [Act.eval, Act.put]) (World.ownsRow_nil _ _ _ _) w.heap.size (some ⟨b, 0, none⟩) k cap (rcells (xs.take k)) (by simp [Act.eval, Act.put]) (H.out.row.take_ rfl k hk) (rcells_one _) (by simp only [maxLen]; omega) (by omega) (Nat.zero_le _) ?_; intro v2 w2 hown2 hg2 hat2; have O2 := Lib.hid hown2; have G2 := Lib.hid hg2; have T2 := Lib.hid hat2; have H2 := Lib.hid (H.out.below (below_none ⟨hg2.os, hg2.tape, hg2.output, hg2.size, hg2.block⟩)); have d0 := H2.out.c0; clear hown2 hg2 hat2)
          | (refine step_append_any _ rfl (.tmp 32) (.tmp 39) 47 rfl 0 68 i0 (.agg #[.int .i64 0, .int .i64 0]) 2 16 Try.underlying47 I.out.1 I.out.2.1 I.out.2.2.1 I.out.2.2.2 rfl (by omega) v2 (0 + k) ([] ++ rcells (xs.take k)) (by simp [Act.eval, Act.put]) O2.out w2.heap.size (if cap = k + 1 then some ⟨b, 0, none⟩ else some ⟨b, (k + 1) * 2, none⟩) (xs.length - (k + 1)) (cap - (k + 1)) (rcells (xs.drop (k + 1))) (by simp [Act.eval, Act.put]) (H2.out.row.drop_ rfl (k + 1) (by omega) _ (fun q => if_neg (by omega))) (rcells_one _) (by simp only [maxLen]; omega) (by omega) (Nat.zero_le _) ?_; intro v3 w3 hown3 hg3 hat3; have F := Lib.hid (rcancel_facts H.out rfl HKN.out G2.out T2.out hown3 hg3); obtain ⟨A3, m3, c3, hv3⟩ := F.out.1; have f0 := F.out.2.1; have f1 := F.out.2.2.1; clear hown3 hg3 hat3; rw [hv3]))
        all_goals go_wp2
        all_goals
          go_ret
          rw [← hv3]
          rw [e.out.2, e.out.1]
          first | exact ⟨_, _, rfl, rfl, F.out.2.2.2.1, F.out.2.2.2.2⟩ | exact ⟨rfl, ⟨_, F.out.2.2.2.1⟩, F.out.2.2.2.2⟩
      | false =>
        have HA2 : Hid (∀ j, j < k + 1 → (gp xs j).2 ≠ id) := by
          intro j hj
          rcases Nat.lt_succ_iff_lt_or_eq.1 hj with hj | rfl
          · exact HA.out j hj
          · simpa using hb
        go_wp2
        go_round
        case rel => exact ⟨k + 1, by omega, by go_num, HA2⟩
        case measure => simp [intOf]; omega
    · obtain rfl : k = xs.length := by omega
      have e0 : findN xs id = xs.length := findN_none xs id HA.out
      have e : Hid (findN xs id = xs.length ∧ decide (findN xs id < xs.length) = false) := by
        unfold Hid
        rw [e0]
        exact ⟨rfl, by simp⟩
      clear e0
      go_wp2
      go_ret
      have p1 := H.out
      have e3 : xs.eraseIdx (findN xs id) = xs := by rw [e.out.1, List.eraseIdx_of_length_le (Nat.le_refl _)]
      rw [e3, e.out.2]
      first | exact ⟨_, _, rfl, rfl, p1, World.grownBy.refl _ _⟩ | exact ⟨rfl, ⟨_, p1⟩, World.grownBy.refl _ _⟩
end Go.Proofs.Ytkjjdbbogfjdlaa
