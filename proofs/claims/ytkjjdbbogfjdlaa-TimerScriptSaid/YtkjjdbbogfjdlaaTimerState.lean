/-
  Timers as sets of moments: what Set, Cancel, At and Due make of them; the contracts in these words.
-/
import Derived.Test.YtkjjdbbogfjdlaaHeapPure
namespace Go.Proofs.Ytkjjdbbogfjdlaa
set_option linter.unusedVariables false
set_option linter.unusedSimpArgs false
open Go.RowKit
namespace HP
/-- A heap of moments with no number twice. -/
structure HGood (xs : List P2) : Prop where
  heap : HeapP xs.length xs
  nd : (xs.map (·.2)).Nodup
theorem good_nil : HGood [] := ⟨fun c h0 hc => absurd hc (by simp), by simp⟩
theorem HGood.nodup {xs : List P2} (h : HGood xs) : xs.Nodup := (List.Pairwise.of_map _ (fun a b q e => q (by rw [e])) h.nd)
theorem HGood.uniq {xs : List P2} (h : HGood xs) {p q : P2} (hp : p ∈ xs) (hq : q ∈ xs) (e : p.2 = q.2) : p = q := by
  have h2 := h.nd
  clear h
  induction xs with
  | nil => cases hp
  | cons x xs ih =>
    rw [List.map_cons, List.nodup_cons] at h2
    rcases List.mem_cons.1 hp with hp1 | hp1
    · rcases List.mem_cons.1 hq with hq1 | hq1
      · rw [hp1, hq1]
      · exact absurd (List.mem_map.2 ⟨q, hq1, by rw [← e, hp1]⟩) h2.1
    · rcases List.mem_cons.1 hq with hq1 | hq1
      · exact absurd (List.mem_map.2 ⟨p, hp1, by rw [e, hq1]⟩) h2.1
      · exact ih hp1 hq1 h2.2
theorem gp_mem (xs : List P2) (k : Nat) (h : k < xs.length) : gp xs k ∈ xs := List.mem_of_getElem? (gp_get xs k h)
theorem found_get (xs : List P2) (id : Int) (h : findN xs id < xs.length) : (gp xs (findN xs id)).2 = id := by
  have h1 := List.findIdx_getElem (w := h)
  have h2 := gp_get xs _ h
  rw [List.getElem?_eq_getElem h] at h2
  injection h2 with h2
  unfold findN at h2 ⊢
  rw [h2] at h1
  simpa using h1
theorem found_iff (xs : List P2) (id : Int) : findN xs id < xs.length ↔ ∃ a, (a, id) ∈ xs := by
  constructor
  · intro h
    refine ⟨(gp xs (findN xs id)).1, ?_⟩
    have := gp_mem xs _ h
    rw [show ((gp xs (findN xs id)).1, id) = gp xs (findN xs id) from Prod.ext rfl (found_get xs id h).symm]
    exact this
  · rintro ⟨a, ha⟩
    exact List.findIdx_lt_length.2 ⟨(a, id), ha, by simp⟩
theorem atI_mem (xs : List P2) (id a : Int) (hg : HGood xs) (h : (a, id) ∈ xs) : atI xs id = a := by
  have hf := (found_iff xs id).2 ⟨a, h⟩
  have := hg.uniq (gp_mem xs _ hf) h (found_get xs id hf)
  unfold atI
  rw [if_pos hf, this]
theorem HGood.of_perm {xs ys : List P2} (h : HeapP xs.length xs) (hp : xs.Perm ys) (hn : (ys.map (·.2)).Nodup) : HGood xs := ⟨h, (hp.map _).nodup_iff.2 hn⟩
theorem set_perm (xs : List P2) (i : Nat) (p : P2) (h : i < xs.length) : ∃ ys, xs.Perm (gp xs i :: ys) ∧ (xs.set i p).Perm (p :: ys) := by
  induction xs generalizing i with
  | nil => simp at h
  | cons x xs ih =>
    cases i with
    | zero => exact ⟨xs, List.Perm.refl _, List.Perm.refl _⟩
    | succ i =>
      obtain ⟨ys, h1, h2⟩ := ih i (by simpa using h)
      exact ⟨x :: ys, (h1.cons x).trans (List.Perm.swap ..), (h2.cons x).trans (List.Perm.swap ..)⟩
/-- Set at a number that is there. -/
theorem set_old_spec (xs : List P2) (id x : Int) (hg : HGood xs) (hf : findN xs id < xs.length) :
    HGood (hfix (xs.set (findN xs id) (x, (gp xs (findN xs id)).2)) (findN xs id)) ∧ (hfix (xs.set (findN xs id) (x, (gp xs (findN xs id)).2)) (findN xs id)).length = xs.length ∧
      ∀ p, p ∈ hfix (xs.set (findN xs id) (x, (gp xs (findN xs id)).2)) (findN xs id) ↔ p = (x, id) ∨ (p ∈ xs ∧ p.2 ≠ id) := by
  obtain ⟨f1, f2⟩ := fix_spec xs (findN xs id) (x, (gp xs (findN xs id)).2) hf hg.heap
  obtain ⟨ys, g1, g2⟩ := set_perm xs (findN xs id) (x, (gp xs (findN xs id)).2) hf
  have hid := found_get xs id hf
  have hn := (g1.map (·.2)).nodup_iff.1 hg.nd
  rw [List.map_cons, List.nodup_cons, hid] at hn
  have hp := f1.trans g2
  rw [hid] at hp f2 ⊢
  refine ⟨HGood.of_perm f2 hp (by rw [List.map_cons, List.nodup_cons]; exact hn), by rw [hp.length_eq, g1.length_eq]; rfl, fun p => ?_⟩
  rw [hp.mem_iff, List.mem_cons, g1.mem_iff, List.mem_cons]
  constructor
  · rintro (h | h)
    · exact .inl h
    · exact .inr ⟨.inr h, fun e => hn.1 (List.mem_map.2 ⟨p, h, e⟩)⟩
  · rintro (h | ⟨h | h, he⟩)
    · exact .inl h
    · subst h; exact absurd hid he
    · exact .inr h
theorem set_new_spec (xs : List P2) (id x : Int) (hg : HGood xs) (hf : ¬ findN xs id < xs.length) :
    HGood (hpush xs (x, id)) ∧ (hpush xs (x, id)).length = xs.length + 1 ∧ ∀ p, p ∈ hpush xs (x, id) ↔ p = (x, id) ∨ (p ∈ xs ∧ p.2 ≠ id) := by
  obtain ⟨f1, f2⟩ := push_spec xs (x, id) hg.heap
  have hno : ∀ p, p ∈ xs → p.2 ≠ id := fun p hp e => hf ((found_iff xs id).2 ⟨p.1, by rw [← e]; exact hp⟩)
  refine ⟨HGood.of_perm f2 f1 ?_, by rw [f1.length_eq]; rfl, fun p => ?_⟩
  · rw [List.map_cons, List.nodup_cons]
    refine ⟨fun h => ?_, hg.nd⟩
    obtain ⟨p, hp, e⟩ := List.mem_map.1 h
    exact hno p hp e
  · rw [f1.mem_iff, List.mem_cons]
    constructor
    · rintro (h | h)
      · exact .inl h
      · exact .inr ⟨h, hno p h⟩
    · rintro (h | h)
      · exact .inl h
      · exact .inr h.1
theorem cancel_spec (xs : List P2) (id : Int) (hg : HGood xs) :
    HGood (cancelP xs id) ∧ (cancelP xs id).length = (if findN xs id < xs.length then xs.length - 1 else xs.length) ∧ ∀ p, p ∈ cancelP xs id ↔ p ∈ xs ∧ p.2 ≠ id := by
  unfold cancelP
  by_cases hf : findN xs id < xs.length
  · rw [if_pos hf, if_pos hf]
    obtain ⟨n, hn⟩ : ∃ n, xs.length = n + 1 := ⟨xs.length - 1, by omega⟩
    rw [hn, Nat.add_sub_cancel]
    obtain ⟨r1, r2⟩ := rem_spec xs n (findN xs id) hn (by omega) hg.heap
    have hl : ((hrem xs n (findN xs id)).take n).length = n := by rw [List.length_take, hrem_length, hn]; omega
    have hid := found_get xs id hf
    have hp := (List.perm_append_singleton _ _).symm.trans r1
    have hnd := (hp.map (·.2)).nodup_iff.2 hg.nd
    rw [List.map_cons, List.nodup_cons, hid] at hnd
    refine ⟨⟨by rw [hl]; exact r2, hnd.2⟩, hl, fun p => ?_⟩
    rw [← hp.mem_iff, List.mem_cons]
    constructor
    · intro h
      exact ⟨.inr h, fun e => hnd.1 (List.mem_map.2 ⟨p, h, e⟩)⟩
    · rintro ⟨h | h, he⟩
      · subst h; exact absurd hid he
      · exact h
  · rw [if_neg hf, if_neg hf]
    refine ⟨hg, rfl, fun p => ⟨fun h => ⟨h, fun e => hf ((found_iff xs id).2 ⟨p.1, by rw [← e]; exact h⟩)⟩, fun h => h.1⟩⟩
/-! ### Due -/
def dueOf (xs : List P2) (now : Int) : List Int := dueL xs.length xs now
/-- The moments in order. -/
def inOrder (xs : List P2) : List P2 := xs.mergeSort (fun a b => !lessP b a)
theorem inOrder_perm (xs : List P2) : (inOrder xs).Perm xs := List.mergeSort_perm _ _
theorem inOrder_sorted (xs : List P2) : (inOrder xs).Pairwise le := by
  have h := List.pairwise_mergeSort (le := fun a b => !lessP b a) (l := xs) ?_ ?_
  · refine h.imp fun {a b} q => ?_
    unfold le
    simpa using q
  · intro a b c p q
    have h1 : le a b := by unfold le; simpa using p
    have h2 : le b c := by unfold le; simpa using q
    have := le_trans h1 h2
    unfold le at this
    simp [this]
  · intro a b
    have := le_total a b
    unfold le at this
    simpa using this
theorem takeWhile_filter (now : Int) (ys : List P2) (h : ys.Pairwise le) : ys.takeWhile (fun p => decide (p.1 ≤ now)) = ys.filter (fun p => decide (p.1 ≤ now)) := by
  induction ys with
  | nil => rfl
  | cons y ys ih =>
    rw [List.pairwise_cons] at h
    rw [List.takeWhile_cons, List.filter_cons]
    by_cases hy : y.1 ≤ now
    · simp only [hy, decide_true, if_true]
      rw [ih h.2]
    · simp only [hy, decide_false, Bool.false_eq_true, if_false]
      symm
      rw [List.filter_eq_nil_iff]
      intro p hp
      have := h.1 p hp
      rw [le_iff] at this
      simp
      omega
theorem dueOf_eq (xs ys : List P2) (now : Int) (hg : HGood xs) (hp : ys.Perm xs) (hs : ys.Pairwise le) : dueOf xs now = (ys.filter (fun p => decide (p.1 ≤ now))).map (·.2) := by
  unfold dueOf
  rw [due_spec now xs.length xs ys rfl hg.heap hp hs, takeWhile_filter now ys hs]
theorem dueOf_order (xs : List P2) (now : Int) (hg : HGood xs) : dueOf xs now = ((inOrder xs).filter (fun p => decide (p.1 ≤ now))).map (·.2) := dueOf_eq xs _ now hg (inOrder_perm xs) (inOrder_sorted xs)
theorem dueOf_congr (xs ys : List P2) (now : Int) (hx : HGood xs) (hy : HGood ys) (h : ∀ p, p ∈ xs ↔ p ∈ ys) : dueOf xs now = dueOf ys now := by
  have hp : xs.Perm ys := (List.perm_ext_iff_of_nodup hx.nodup hy.nodup).2 (fun p => h p)
  rw [dueOf_eq xs (inOrder ys) now hx ((inOrder_perm ys).trans hp.symm) (inOrder_sorted ys), dueOf_order ys now hy]
theorem dueOf_length (xs : List P2) (now : Int) (hg : HGood xs) : (dueOf xs now).length ≤ xs.length := by
  rw [dueOf_order xs now hg, List.length_map]
  exact Nat.le_trans (List.length_filter_le _ _) (by rw [(inOrder_perm xs).length_eq]; exact Nat.le_refl _)
end HP
open HP
/-! ### The contracts -/
/-- Timers of the call's own, at a world that has come of W. -/
structure St (W w : World) (g : Nat) (most : Int) (v : Value) (xs : List P2) : Prop where
  bel : Below W.heap.size W w
  tm : Tm w g most v xs
  gb : W.heap.size ≤ g
  vb : ∀ k, v.ownBlock = some k → W.heap.size ≤ k
  good : HGood xs
  small : xs.length ≤ 999
theorem St.below {W w w2 : World} {g : Nat} {most : Int} {v : Value} {xs : List P2} (h : St W w g most v xs) (hb : Below w.heap.size w w2) : St W w2 g most v xs :=
  ⟨h.bel.trans (hb.mono h.bel.size), h.tm.below hb, h.gb, h.vb, h.good, h.small⟩
theorem St.drewN {W w : World} {g : Nat} {most : Int} {v : Value} {xs : List P2} (h : St W w g most v xs) (k : Nat) : St W (w.drewN k) g most v xs := h.below (below_drewN (Below.refl _ _) k)
theorem St.moved {W w w2 : World} {g : Nat} {most : Int} {v v2 : Value} {xs ys : List P2} (h : St W w g most v xs) (ht : Tm w2 g most v2 ys) (hm : Moved g v v2 w w2) (hy : HGood ys) (hs : ys.length ≤ 999) : St W w2 g most v2 ys :=
  ⟨h.bel.trans (hm.below_ h.bel.size h.gb h.vb), ht, h.gb, fun k hk => by
    rcases hm.own with e | ⟨b, e, hb⟩
    · exact h.vb k (by rw [← e]; exact hk)
    · rw [e] at hk
      injection hk with hk
      have := h.bel.size
      omega, hy, hs⟩
/-- The other timers are as they were. -/
theorem St.other {W w w2 : World} {g g2 : Nat} {most most2 : Int} {v v2 u : Value} {xs ys : List P2} (h : St W w g most v xs) (k : St W w g2 most2 u ys) (hm : Moved g v v2 w w2) (hg : g ≠ g2) (hv : ∀ c, u.ownBlock = some c → v.ownBlock ≠ some c) :
    St W w2 g2 most2 u ys ∧ ∀ c, u.ownBlock = some c → v2.ownBlock ≠ some c := by
  have hgl := k.tm.blk.lt
  have hb2 : Blk w2 g2 56 #[.int .i64 most2, u] := by
    unfold Blk
    rw [hm.block g2 hgl (Ne.symm hg) (fun e => own_blk_ne h.tm.row k.tm.blk (by decide) e)]
    exact k.tm.blk
  refine ⟨⟨h.bel.trans (hm.below_ h.bel.size h.gb h.vb), ⟨hb2, k.tm.at_, row_moved k.tm.row hm (fun e => own_blk_ne k.tm.row h.tm.blk (by decide) e) hv, k.tm.ne⟩, k.gb, k.vb, k.good, k.small⟩, fun c hc => ?_⟩
  rcases hm.own with e | ⟨b, e, hb⟩
  · rw [e]; exact hv c hc
  · rw [e]
    intro q
    injection q with q
    have := k.tm.row.2
    rcases this with ⟨e0, _⟩ | ⟨g', cap', cur, e0, _, hh, _⟩
    · rw [e0] at hc; simp [Value.ownBlock] at hc
    · rw [e0] at hc
      have hgc : g' = c := by simpa [Value.ownBlock] using hc
      rw [Array.getElem?_eq_none (by omega)] at hh
      cases hh
theorem new_st (W w : World) (most : Int) (hW : Below W.heap.size W w) (h1 : 1 ≤ most) (h2 : most ≤ 24) :
    Calls Try.prog 9 #[.int .i64 most] w fun e w' => ∃ w2, e = .returned (.tuple #[.pointer (some ⟨w.heap.size, 0, none⟩), .int .i64 0]) ∧ w2 = w' ∧ St W w2 w.heap.size most (.slice none 0 0) [] ∧ Below w.heap.size w w2 :=
  (new_ok most w h1 h2).mono fun e w' ⟨w2, he, hw, ht, hb⟩ => ⟨w2, he, hw, ⟨hW.trans (hb.mono hW.size), ht, hW.size, fun k hk => by simp [Value.ownBlock] at hk, good_nil, by simp⟩, hb⟩
/-- Set of a number that there is room for. -/
theorem set_st (W w : World) (g : Nat) (most : Int) (v : Value) (xs : List P2) (id x : Int) (h : St W w g most v xs) (h1 : 0 ≤ id) (h2 : 0 ≤ x) (h3 : x ≤ 1099511627776) (hr : findN xs id < xs.length ∨ (xs.length : Int) ≠ most) (hm : xs.length ≤ 500) :
    Calls Try.prog 10 #[.pointer (some ⟨g, 0, none⟩), .int .i64 id, .int .i64 x] w fun e w' => ∃ w2 v2 ys, e = .returned (.int .i64 0) ∧ w2 = w' ∧ St W w2 g most v2 ys ∧ Moved g v v2 w w2 ∧ ys.length = (if findN xs id < xs.length then xs.length else xs.length + 1) ∧ ∀ p, p ∈ ys ↔ p = (x, id) ∨ (p ∈ xs ∧ p.2 ≠ id) := by
  refine (set_any g most v xs id x w h.tm h.small).mono fun e w' ⟨w2, v2, he, hw, ht, hmv⟩ => ?_
  unfold setP at he ht
  rw [if_neg (by omega)] at he ht
  by_cases hf : findN xs id < xs.length
  · rw [if_pos hf] at he ht ⊢
    obtain ⟨s1, s2, s3⟩ := set_old_spec xs id x h.good hf
    exact ⟨w2, v2, _, he, hw, h.moved ht hmv s1 (by rw [s2]; exact h.small), hmv, s2, s3⟩
  · rw [if_neg hf] at he ht ⊢
    have hr2 : ¬ (xs.length : Int) = most := fun q => by
      rcases hr with k | k
      · exact hf k
      · exact k q
    rw [if_neg hr2] at he ht
    obtain ⟨s1, s2, s3⟩ := set_new_spec xs id x h.good hf
    exact ⟨w2, v2, _, he, hw, h.moved ht hmv s1 (by rw [s2]; omega), hmv, s2, s3⟩
/-- Set when all places are taken. -/
theorem set_st_full (W w : World) (g : Nat) (most : Int) (v : Value) (xs : List P2) (id x : Int) (h : St W w g most v xs) (h1 : 0 ≤ id) (h2 : 0 ≤ x) (h3 : x ≤ 1099511627776) (hf : ¬ findN xs id < xs.length) (hl : (xs.length : Int) = most) :
    Calls Try.prog 10 #[.pointer (some ⟨g, 0, none⟩), .int .i64 id, .int .i64 x] w fun e w' => ∃ w2, e = .returned (.int .i64 3) ∧ w2 = w' ∧ St W w2 g most v xs ∧ Below w.heap.size w w2 :=
  (set_full g most v xs id x w h.tm (by have := h.small; omega) (by omega) (by omega) (by omega) hf hl).mono fun e w' ⟨w2, he, hw, hb⟩ => ⟨w2, he, hw, h.below hb, hb⟩
theorem cancel_st (W w : World) (g : Nat) (most : Int) (v : Value) (xs : List P2) (id : Int) (h : St W w g most v xs) :
    Calls Try.prog 16 #[.pointer (some ⟨g, 0, none⟩), .int .i64 id] w fun e w' => ∃ w2 v2 ys, e = .returned (.bool (decide (findN xs id < xs.length))) ∧ w2 = w' ∧ St W w2 g most v2 ys ∧ Moved g v v2 w w2 ∧ ys.length = (if findN xs id < xs.length then xs.length - 1 else xs.length) ∧ ∀ p, p ∈ ys ↔ p ∈ xs ∧ p.2 ≠ id := by
  refine (cancel_any g most v xs id w h.tm (by have := h.small; omega)).mono fun e w' ⟨w2, v2, he, hw, ht, hmv⟩ => ?_
  obtain ⟨s1, s2, s3⟩ := cancel_spec xs id h.good
  refine ⟨w2, v2, _, he, hw, h.moved ht hmv s1 ?_, hmv, s2, s3⟩
  rw [s2]
  have := h.small
  split <;> omega
theorem due_st (W w : World) (g : Nat) (most : Int) (v : Value) (xs : List P2) (now : Int) (h : St W w g most v xs) :
    Calls Try.prog 13 #[.pointer (some ⟨g, 0, none⟩), .int .i64 now] w fun e w' => ∃ w2 A c, e = .returned (.slice A (dueOf xs now).length c) ∧ w2 = w' ∧ St W w2 g most v xs ∧ IReads w2 A (dueOf xs now).length (dueOf xs now) ∧ Below w.heap.size w w2 ∧ w2.ownsRow w.heap.size 3 1 (.slice A (dueOf xs now).length c) (dueOf xs now).length (ivals (dueOf xs now)) := by
  refine (due_any g most v xs now w h.tm (by have := h.small; omega)).mono fun e w' ⟨w2, l, he, hw, hr, hb⟩ => ?_
  obtain ⟨A, c, rfl, _, hI⟩ := own_ireads hr
  exact ⟨w2, A, c, he, hw, h.below hb, hI, hb, hr⟩
theorem at_st (W w : World) (g : Nat) (most : Int) (v : Value) (xs : List P2) (id : Int) (h : St W w g most v xs) :
    Calls Try.prog 15 #[.pointer (some ⟨g, 0, none⟩), .int .i64 id] w fun e w' => ∃ w2, e = .returned (.tuple #[.int .i64 (atI xs id), .bool (decide (findN xs id < xs.length))]) ∧ w2 = w' ∧ St W w2 g most v xs ∧ Below w.heap.size w w2 :=
  (at_any g most v xs id w h.tm (by have := h.small; omega)).mono fun e w' ⟨w2, he, hw, hb⟩ => ⟨w2, he, hw, h.below hb, hb⟩
theorem len_st (W w : World) (g : Nat) (most : Int) (v : Value) (xs : List P2) (h : St W w g most v xs) :
    Calls Try.prog 14 #[.pointer (some ⟨g, 0, none⟩)] w fun e w' => e = .returned (.int .i64 xs.length) ∧ w = w' := tlen_any g most v xs w h.tm (by have := h.small; omega)
theorem due_nil (now : Int) (w : World) : Calls Try.prog 13 #[.pointer none, .int .i64 now] w fun e w' => e = .returned (.slice none 0 0) ∧ w = w' := by
  go_enter Try.func13, Try.ntmps13
  go_wp2
  go_ret
  exact ⟨rfl, rfl⟩
end Go.Proofs.Ytkjjdbbogfjdlaa
