/-
  The heap of moments and the reference's list in order answer alike; the walk of OverInts.
-/
import Derived.Test.YtkjjdbbogfjdlaaRef17c
namespace Go.Proofs.Ytkjjdbbogfjdlaa
set_option linter.unusedVariables false
set_option linter.unusedSimpArgs false
open Go.RowKit
open HP
/-- The reference's list goes with the heap. -/
structure Lk (xs ys : List P2) : Prop where
  good : HGood xs
  perm : ys.Perm xs
  sorted : ys.Pairwise le
theorem lk_nil : Lk [] [] := ⟨good_nil, List.Perm.refl _, List.Pairwise.nil⟩
theorem Lk.mem {xs ys : List P2} (h : Lk xs ys) (p : P2) : p ∈ ys ↔ p ∈ xs := h.perm.mem_iff
theorem Lk.nd {xs ys : List P2} (h : Lk xs ys) : (ys.map (·.2)).Nodup := (h.perm.map _).nodup_iff.2 h.good.nd
theorem nd_nodup {ys : List P2} (h : (ys.map (·.2)).Nodup) : ys.Nodup := List.Pairwise.of_map _ (fun a b q e => q (by rw [e])) h
theorem Lk.length {xs ys : List P2} (h : Lk xs ys) : ys.length = xs.length := h.perm.length_eq
theorem Lk.found {xs ys : List P2} (h : Lk xs ys) (id : Int) : findN ys id < ys.length ↔ findN xs id < xs.length := by
  rw [found_iff, found_iff]
  exact ⟨fun ⟨a, q⟩ => ⟨a, (h.mem _).1 q⟩, fun ⟨a, q⟩ => ⟨a, (h.mem _).2 q⟩⟩
theorem Lk.at_ {xs ys : List P2} (h : Lk xs ys) (id : Int) : atI ys id = atI xs id := by
  by_cases hf : findN ys id < ys.length
  · have hm := (h.mem _).1 (gp_mem ys _ hf)
    have h2 := found_get ys id hf
    have e : gp ys (findN ys id) = ((gp ys (findN ys id)).1, id) := Prod.ext rfl h2
    rw [e] at hm
    rw [atI_mem xs id _ h.good hm]
    unfold atI
    rw [if_pos hf]
  · have hf2 : ¬ findN xs id < xs.length := fun q => hf ((h.found id).2 q)
    unfold atI
    rw [if_neg hf, if_neg hf2]
theorem Lk.due {xs ys : List P2} (h : Lk xs ys) (now : Int) : dueOf xs now = rdue ys now := due_spec now xs.length xs ys rfl h.good.heap h.perm h.sorted
theorem erase_perm (xs : List P2) (i : Nat) (h : i < xs.length) : xs.Perm (gp xs i :: xs.eraseIdx i) := by
  induction xs generalizing i with
  | nil => simp at h
  | cons x xs ih =>
    cases i with
    | zero => exact List.Perm.refl _
    | succ i => exact ((ih i (by simpa using h)).cons x).trans (List.Perm.swap ..)
theorem erase_spec (ys : List P2) (id : Int) (hn : (ys.map (·.2)).Nodup) (hs : ys.Pairwise le) :
    ((ys.eraseIdx (findN ys id)).map (·.2)).Nodup ∧ (ys.eraseIdx (findN ys id)).Pairwise le ∧ (∀ p, p ∈ ys.eraseIdx (findN ys id) ↔ p ∈ ys ∧ p.2 ≠ id) := by
  have hsub := List.eraseIdx_sublist ys (findN ys id)
  refine ⟨(hsub.map _).nodup hn, hs.sublist hsub, fun p => ?_⟩
  by_cases hf : findN ys id < ys.length
  · have hp := erase_perm ys _ hf
    have hid := found_get ys id hf
    have h2 := (hp.map (·.2)).nodup_iff.1 hn
    rw [List.map_cons, List.nodup_cons, hid] at h2
    rw [hp.mem_iff, List.mem_cons]
    constructor
    · exact fun q => ⟨.inr q, fun e => h2.1 (List.mem_map.2 ⟨p, q, e⟩)⟩
    · rintro ⟨q | q, he⟩
      · subst q; exact absurd hid he
      · exact q
  · rw [List.eraseIdx_of_length_le (by omega)]
    exact ⟨fun q => ⟨q, fun e => hf ((found_iff ys id).2 ⟨p.1, by rw [← e]; exact q⟩)⟩, fun q => q.1⟩
theorem insP_perm (x : P2) (ys : List P2) : (insP x ys).Perm (x :: ys) := by
  induction ys with
  | nil => exact List.Perm.refl _
  | cons y ys ih =>
    simp only [insP]
    split
    · exact List.Perm.refl _
    · exact (ih.cons y).trans (List.Perm.swap ..)
theorem insP_sorted (x : P2) (ys : List P2) (h : ys.Pairwise le) : (insP x ys).Pairwise le := by
  induction ys with
  | nil => simp [insP]
  | cons y ys ih =>
    obtain ⟨h1, h2⟩ := List.pairwise_cons.1 h
    simp only [insP]
    split
    · next hl =>
      refine List.pairwise_cons.2 ⟨fun p hp => ?_, h⟩
      rcases List.mem_cons.1 hp with rfl | hp
      · exact le_of_less hl
      · exact le_trans (le_of_less hl) (h1 p hp)
    · next hl =>
      refine List.pairwise_cons.2 ⟨fun p hp => ?_, ih h2⟩
      rcases List.mem_cons.1 ((insP_perm x ys).mem_iff.1 hp) with rfl | hp
      · rcases less_or p y with q | q
        · exact absurd q hl
        · exact q
      · exact h1 p hp
theorem Lk.of_mem {xs ys : List P2} (hg : HGood xs) (hn : ys.Nodup) (hs : ys.Pairwise le) (hm : ∀ p, p ∈ ys ↔ p ∈ xs) : Lk xs ys := ⟨hg, (List.perm_ext_iff_of_nodup hn hg.nodup).2 hm, hs⟩
theorem Lk.cancel {xs ys : List P2} (h : Lk xs ys) (id : Int) : Lk (cancelP xs id) (ys.eraseIdx (findN ys id)) := by
  obtain ⟨c1, _, c3⟩ := cancel_spec xs id h.good
  obtain ⟨e1, e2, e3⟩ := erase_spec ys id h.nd h.sorted
  exact Lk.of_mem c1 (nd_nodup e1) e2 (fun p => by rw [e3, c3, h.mem])
theorem Lk.ins {xs ys zs : List P2} (h : Lk xs ys) (id x : Int) (hg : HGood zs) (hm : ∀ p, p ∈ zs ↔ p = (x, id) ∨ (p ∈ xs ∧ p.2 ≠ id)) : Lk zs (insP (x, id) (ys.eraseIdx (findN ys id))) := by
  obtain ⟨e1, e2, e3⟩ := erase_spec ys id h.nd h.sorted
  have hp := insP_perm (x, id) (ys.eraseIdx (findN ys id))
  refine Lk.of_mem hg (hp.nodup_iff.2 ?_) (insP_sorted _ _ e2) (fun p => ?_)
  · rw [List.nodup_cons]
    refine ⟨fun q => ?_, nd_nodup e1⟩
    exact ((e3 _).1 q).2 rfl
  · rw [hp.mem_iff, List.mem_cons, e3, hm, h.mem]
/-- Set answers alike, and leaves both alike. -/
theorem Lk.set {xs ys : List P2} (h : Lk xs ys) (most id x : Int) (hl : (xs.length : Int) ≤ most) :
    (setP most xs id x).1 = (rsetP most ys id x).1 ∧ Lk (setP most xs id x).2 (rsetP most ys id x).2 ∧ ((setP most xs id x).2.length : Int) ≤ most ∧ HGood (setP most xs id x).2 := by
  unfold setP rsetP
  by_cases hb : id < 0 ∨ x < 0 ∨ 1099511627776 < x
  · rw [if_pos hb, if_pos hb]
    exact ⟨rfl, h, hl, h.good⟩
  · rw [if_neg hb, if_neg hb]
    have hlen := h.length
    have hf := h.found id
    by_cases hfx : findN xs id < xs.length
    · rw [if_pos hfx, if_neg (fun q => q.1 (hf.2 hfx))]
      obtain ⟨s1, s2, s3⟩ := set_old_spec xs id x h.good hfx
      exact ⟨rfl, h.ins id x s1 s3, by rw [s2]; exact hl, s1⟩
    · rw [if_neg hfx]
      by_cases hm : (xs.length : Int) = most
      · rw [if_pos hm, if_pos ⟨fun q => hfx (hf.1 q), by rw [hlen]; omega⟩]
        exact ⟨rfl, h, hl, h.good⟩
      · rw [if_neg hm, if_neg (fun q => by rw [hlen] at q; exact hm (by omega))]
        obtain ⟨s1, s2, s3⟩ := set_new_spec xs id x h.good hfx
        exact ⟨rfl, h.ins id x s1 s3, by rw [s2]; omega, s1⟩
/-- The reference's Set, all ways. -/
theorem rset_any (g : Nat) (most : Int) (v : Value) (xs : List P2) (id x : Int) (w : World) (h : Rf w g most v xs) (hm : xs.length ≤ 999) :
    Calls Try.prog 20 #[.pointer (some ⟨g, 0, none⟩), .int .i64 id, .int .i64 x] w fun e w' => ∃ W v2, e = .returned (.int .i64 (rsetP most xs id x).1) ∧ W = w' ∧ Rf W g most v2 (rsetP most xs id x).2 ∧ w.grownBy W (some g) := by
  unfold rsetP
  split
  · next hb => exact (rset_bad g id x w hb).mono fun e w' ⟨he, hw⟩ => ⟨w, v, he, hw, h, World.grownBy.refl _ _⟩
  · next hb =>
    split
    · next hf => exact (rset_full g most v xs id x w h (by omega) (by omega) (by omega) (by omega) hf.1 hf.2).mono fun e w' ⟨W, he, hw, hbl⟩ => ⟨W, v, he, hw, h.below hbl, only_of_below hbl _⟩
    · next hf => exact rset_ok g most v xs id x w h hm (by omega) (by omega) (by omega) (by
        by_cases q : findN xs id < xs.length
        · exact .inl q
        · exact .inr (fun k => hf ⟨q, k⟩))
set_option maxHeartbeats 1000000 in
theorem overints_any (A : Option Addr) (n c base : Nat) (xs : List Value) (w : World) (h : w.ownsRow base 3 1 (.slice A n c) n xs) (hm : n ≤ 1000) (hbase : base ≤ w.heap.size) :
    Calls Try.prog 23 #[.slice A n c] w fun e w' => ∃ W, e = .returned (.tuple #[]) ∧ W = w' ∧ w.grownBy W (Value.slice A n c).ownBlock := by
  obtain ⟨i0, hi, hz0, hz1, hz2⟩ := info_parts info_int
  have I := Lib.hid (And.intro hi (And.intro hz0 (And.intro hz1 hz2)))
  have H := Lib.hid h
  have HB := Lib.hid hbase
  have HM := Lib.hid hm
  clear h hi hz0 hz1 hz2 hbase
  go_enter Try.func23, Try.ntmps23
  go_wp2
  go_loopw [2] (fun i wr => ∃ (k : Nat) (ys : List Value), k ≤ n ∧ i = .int .i64 k ∧ Hid (wr.ownsRow base 3 1 (.slice A n c) n ys) ∧ Hid (w.grownBy wr (Value.slice A n c).ownBlock)) (fun i _ => n - (intOf i).toNat)
  case atStart => exact ⟨0, xs, by omega, rfl, H, World.grownBy.refl _ _⟩
  case round =>
    obtain ⟨k, ys, hk, rfl, HO, HG⟩ := hrel
    by_cases hkn : k < n
    · obtain ⟨b, cap, hv, _, hlt⟩ := World.ownsRow.form HO.out (by omega)
      injection hv with hv1 hv2 hv3
      subst hv1; subst hv3
      have hcell := World.ownsRow.cellAt HO.out k (by omega)
      have hlen := HO.out.1
      obtain ⟨u, hu⟩ : ∃ u, ys[k]? = some u := ⟨ys[k]'(by omega), List.getElem?_eq_getElem (by omega)⟩
      rw [hu] at hcell
      have hfr := World.ownsRow.frozenAt HO.out k
      have HS := Lib.hid (World.ownsRow.stored HO.out k (.int .i64 (-999)))
      clear hlen hu
      go_wp2
      go_roundw
      case rel => exact ⟨k + 1, _, by omega, by go_num, HS.out.1, grownBy_trans_ HG.out HS.out.2⟩
      case measure => simp [intOf]; omega
    · obtain rfl : k = n := by omega
      go_wp2_with (at_builtin; refine wpList_append_any _ rfl (.tmp 12) (.tmp 13) 22 rfl base 3 i0 (.int .i64 0) 1 8 Try.underlying22 I.out.1 I.out.2.1 I.out.2.2.1 I.out.2.2.2 rfl (by omega) (.slice A k c) k ys rfl (World.ownsRow.alloc HO.out _) (wr.heap.size + 1) (some ⟨wr.heap.size, 0, none⟩) 1 1 [.int .i64 (-999)] rfl (reads_new wr _ _) (by simp [Value.oneCell']) (by have := HM.out; simp only [maxLen]; omega) (by have := HM.out; omega) (by have := HG.out.size; have := HB.out; simp only [World.size_alloc]; omega) ?_; intro v4 w4 hown4 hg4 hat4; have G4 := Lib.hid hg4; clear hown4 hg4 hat4)
      go_end0
      have G := grownBy_trans_ HG.out (grownBy_trans_ (only_of_below (b_alloc _ _) _) G4.out)
      first | exact ⟨_, rfl, rfl, G⟩ | exact ⟨rfl, G⟩ | exact G
end Go.Proofs.Ytkjjdbbogfjdlaa
