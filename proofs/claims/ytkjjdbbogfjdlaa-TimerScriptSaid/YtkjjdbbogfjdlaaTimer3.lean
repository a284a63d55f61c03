/-
  The walks of timer's Cancel and Set, and of slices.Clone at moments.
-/
import Derived.Test.YtkjjdbbogfjdlaaTimer2
namespace Go.Proofs.Ytkjjdbbogfjdlaa
set_option linter.unusedVariables false
set_option linter.unusedSimpArgs false
open Go.RowKit
theorem Moved.below_then {g : Nat} {v v2 : Value} {w w1 w2 : World} (hb : Below w.heap.size w w1) (h : Moved g v v2 w1 w2) : Moved g v v2 w w2 := (Moved.of_below hb).trans h
theorem Tm.of_set {w : World} {g : Nat} {most : Int} {v x : Value} {ys : List P2} (h : HeapAt w g 1 56 ((#[.int .i64 most, v] : Array Value).setIfInBounds 1 x) x ys) : Tm w g most x ys := by
  have h' := h
  simp at h'
  exact h'
/-- What Cancel leaves. -/
def cancelP (xs : List P2) (id : Int) : List P2 := if findN xs id < xs.length then (hrem xs (xs.length - 1) (findN xs id)).take (xs.length - 1) else xs
set_option maxHeartbeats 1000000 in
theorem cancel_any (g : Nat) (most : Int) (v : Value) (xs : List P2) (id : Int) (w : World) (h : Tm w g most v xs) (hm : xs.length ≤ 1000) :
    Calls Try.prog 16 #[.pointer (some ⟨g, 0, none⟩), .int .i64 id] w fun e w' => ∃ W v2, e = .returned (.bool (decide (findN xs id < xs.length))) ∧ W = w' ∧ Tm W g most v2 (cancelP xs id) ∧ Moved g v v2 w W := by
  have H := Lib.hid h
  by_cases hf : findN xs id < xs.length
  · obtain ⟨n, hn⟩ : ∃ n, xs.length = n + 1 := ⟨xs.length - 1, by omega⟩
    have e1 : Hid (findI xs id = (findN xs id : Int)) := if_pos hf
    have e2 : Hid (cancelP xs id = (hrem xs n (findN xs id)).take n) := (if_pos hf).trans (by rw [hn]; rfl)
    have e3 : Hid (decide (findN xs id < xs.length) = true) := by simp [Hid, hf]
    obtain ⟨b, cap, hv, hlt⟩ := h.row.form_ (by omega)
    rw [hn] at hv
    subst hv
    rw [e3.out]
    have HN := Lib.hid hn
    have hi : findN xs id < n + 1 := by omega
    have hnm : n < 1000 := by omega
    generalize findN xs id = i at *
    clear h hf e3 hlt hn
    go_enter Try.func16, Try.ntmps16
    go_wp2_with (first
      | (go_at_call 24; (refine (find_any g most _ xs id _ H.out hm).mono ?_); rintro e w' ⟨w1, rfl, rfl, hb1⟩; rw [e1.out]; have H1 := Lib.hid (H.out.below hb1))
      | (go_at_call 29; (with_reducible refine (hremove_any g 1 b n cap _ _ _ xs _ H1.out HN.out (by omega) (by omega)).mono ?_); rintro e w' ⟨w2, r2, rfl, rfl, h2, q2⟩; have H2 := Lib.hid (Tm.of_set h2); clear h2))
    go_ret
    have p1 := H2.out
    have p2 := Moved.below_then hb1 q2
    rw [← e2.out] at p1
    exact ⟨_, _, rfl, rfl, p1, p2⟩
  · have e1 : Hid (findI xs id = -1) := if_neg hf
    have e2 : Hid (cancelP xs id = xs) := if_neg hf
    have e3 : Hid (decide (findN xs id < xs.length) = false) := by simp [Hid]; omega
    clear h
    go_enter Try.func16, Try.ntmps16
    go_wp2_with (go_at_call 24; (refine (find_any g most _ xs id _ H.out hm).mono ?_); rintro e w' ⟨w1, rfl, rfl, hb1⟩; rw [e1.out])
    go_ret
    have p1 := H.out.below hb1
    rw [← e2.out] at p1
    exact ⟨_, _, by rw [e3.out]; rfl, rfl, p1, Moved.of_below hb1⟩
theorem cancel_nil (id : Int) (w : World) :
    Calls Try.prog 16 #[.pointer none, .int .i64 id] w fun e w' => ∃ W, e = .returned (.bool false) ∧ W = w' ∧ Below w.heap.size w W := by
  go_enter Try.func16, Try.ntmps16
  go_wp2_with (go_at_call 24; (refine (find_nil id _).mono ?_); rintro e w' ⟨w1, rfl, rfl, hb1⟩)
  go_ret
  exact ⟨_, rfl, rfl, hb1⟩
theorem set_nil (id x : Int) (w : World) :
    Calls Try.prog 10 #[.pointer none, .int .i64 id, .int .i64 x] w fun e w' => ∃ W, e = .returned (.int .i64 1) ∧ W = w' ∧ Below w.heap.size w W := by
  go_enter Try.func10, Try.ntmps10
  go_wp2_with (go_at_call 24; (refine (find_nil id _).mono ?_); rintro e w' ⟨w1, rfl, rfl, hb1⟩)
  go_ret
  exact ⟨_, rfl, rfl, hb1⟩
/-- What Set answers, and what it leaves. -/
def setP (most : Int) (xs : List P2) (id x : Int) : Int × List P2 :=
  if id < 0 ∨ x < 0 ∨ 1099511627776 < x then (2, xs)
  else if findN xs id < xs.length then (0, hfix (xs.set (findN xs id) (x, (gp xs (findN xs id)).2)) (findN xs id))
  else if (xs.length : Int) = most then (3, xs) else (0, hpush xs (x, id))
set_option maxHeartbeats 400000 in
theorem set_bad (g : Nat) (most : Int) (v : Value) (xs : List P2) (id x : Int) (w : World) (h : Tm w g most v xs) (hm : xs.length ≤ 1000) (hbad : id < 0 ∨ x < 0 ∨ 1099511627776 < x) :
    Calls Try.prog 10 #[.pointer (some ⟨g, 0, none⟩), .int .i64 id, .int .i64 x] w fun e w' => ∃ W, e = .returned (.int .i64 2) ∧ W = w' ∧ Below w.heap.size w W := by
  have H := Lib.hid h
  clear h
  by_cases h1 : id < 0
  · have b1 : decide (id < 0) = true := by simp [h1]
    clear hbad h1
    go_enter Try.func10, Try.ntmps10
    go_wp2_with (go_at_call 24; (refine (find_any g most _ xs id _ H.out hm).mono ?_); rintro e w' ⟨w1, rfl, rfl, hb1⟩)
    go_ret
    exact ⟨_, rfl, rfl, hb1⟩
  · by_cases h2 : x < 0
    · have b1 : decide (id < 0) = false := by simp; omega
      have b2 : decide (x < 0) = true := by simp [h2]
      clear hbad h1 h2
      go_enter Try.func10, Try.ntmps10
      go_wp2_with (go_at_call 24; (refine (find_any g most _ xs id _ H.out hm).mono ?_); rintro e w' ⟨w1, rfl, rfl, hb1⟩)
      go_ret
      exact ⟨_, rfl, rfl, hb1⟩
    · have b1 : decide (id < 0) = false := by simp; omega
      have b2 : decide (x < 0) = false := by simp; omega
      have b3 : decide (1099511627776 < x) = true := by simp; omega
      clear hbad h1 h2
      go_enter Try.func10, Try.ntmps10
      go_wp2_with (go_at_call 24; (refine (find_any g most _ xs id _ H.out hm).mono ?_); rintro e w' ⟨w1, rfl, rfl, hb1⟩)
      go_ret
      exact ⟨_, rfl, rfl, hb1⟩
theorem ocells_set1 (xs : List P2) (i : Nat) (h : i < xs.length) (x : Int) : (ocells xs).set (i * 2) (.int .i64 x) = ocells (xs.set i (x, (gp xs i).2)) := by
  induction xs generalizing i with
  | nil => simp at h
  | cons y xs ih =>
    cases i with
    | zero => rfl
    | succ i =>
      have := ih i (by simpa using h)
      rw [ocells_cons, show (i + 1) * 2 = i * 2 + 1 + 1 by omega]
      simp only [List.set_cons_succ]
      rw [this]
      rfl
theorem Tm.set1 {w : World} {g b n cap : Nat} {most : Int} {xs : List P2} (h : Tm w g most (.slice (some ⟨b, 0, none⟩) n cap) xs) (i : Nat) (hi : i < n) (hn : xs.length = n) (x : Int) :
    Tm (w.setCell ⟨b, i * 2, none⟩ (.int .i64 x)) g most (.slice (some ⟨b, 0, none⟩) n cap) (xs.set i (x, (gp xs i).2)) ∧ w.grownBy (w.setCell ⟨b, i * 2, none⟩ (.int .i64 x)) (some b) := by
  subst hn
  obtain ⟨r1, q1⟩ := World.ownsRow.stored h.row (i * 2) (.int .i64 x)
  rw [ocells_set1 xs i hi x] at r1
  have r2 : Row (w.setCell ⟨b, i * 2, none⟩ (.int .i64 x)) (.slice (some ⟨b, 0, none⟩) xs.length cap) (xs.set i (x, (gp xs i).2)) := by
    unfold Row
    rw [List.length_set]
    exact r1
  exact ⟨HeapAt.moved h q1 r2, q1⟩
set_option maxHeartbeats 1000000 in
theorem set_old (g b n cap i : Nat) (most : Int) (xs : List P2) (id x : Int) (w : World) (h : Tm w g most (.slice (some ⟨b, 0, none⟩) n cap) xs) (hn : xs.length = n) (hm : n ≤ 1000) (h1 : ¬ id < 0) (h2 : ¬ x < 0) (h3 : ¬ 1099511627776 < x) (hf : findN xs id = i) (hi : i < n) :
    Calls Try.prog 10 #[.pointer (some ⟨g, 0, none⟩), .int .i64 id, .int .i64 x] w fun e w' => ∃ W, e = .returned (.int .i64 0) ∧ W = w' ∧ Tm W g most (.slice (some ⟨b, 0, none⟩) n cap) (hfix (xs.set i (x, (gp xs i).2)) i) ∧ w.grownBy W (some b) := by
  have H := Lib.hid h
  have e1 : Hid (findI xs id = (i : Int)) := by
    unfold Hid findI
    rw [hf, hn, if_pos hi]
  have b1 : decide (id < 0) = false := by simp; omega
  have b2 : decide (x < 0) = false := by simp; omega
  have b3 : decide (1099511627776 < x) = false := by simp; omega
  have HN := Lib.hid hn
  have HM : Hid (xs.length ≤ 1000) := by unfold Hid; omega
  clear h hn h1 h2 h3 hf
  go_enter Try.func10, Try.ntmps10
  go_wp2_with (first
    | (go_at_call 24; (refine (find_any g most _ xs id _ H.out HM.out).mono ?_); rintro e w' ⟨w1, rfl, rfl, hb1⟩; rw [e1.out]; have h1 := H.out.below hb1; have hc := h1.c1; obtain ⟨a1, a2⟩ := h1.row.at_ HN.out _ hi; have f1 := h1.row.free HN.out (i * 2); have S1 := Lib.hid (h1.set1 i hi HN.out x); clear h1)
    | (go_at_call 25; (with_reducible refine (hfix_any g 1 b n cap i _ _ _ _ S1.out.1 ((List.length_set).trans HN.out) hi hm).mono ?_); rintro e w' ⟨w2, rfl, rfl, h2, q2⟩))
  go_ret
  exact ⟨_, rfl, rfl, h2, grownBy_trans_ (only_of_below hb1 _) (grownBy_trans_ S1.out.2 q2)⟩
set_option maxHeartbeats 1000000 in
theorem set_full (g : Nat) (most : Int) (v : Value) (xs : List P2) (id x : Int) (w : World) (h : Tm w g most v xs) (hm : xs.length ≤ 1000) (h1 : ¬ id < 0) (h2 : ¬ x < 0) (h3 : ¬ 1099511627776 < x) (hf : ¬ findN xs id < xs.length) (hl : (xs.length : Int) = most) :
    Calls Try.prog 10 #[.pointer (some ⟨g, 0, none⟩), .int .i64 id, .int .i64 x] w fun e w' => ∃ W, e = .returned (.int .i64 3) ∧ W = w' ∧ Below w.heap.size w W := by
  obtain ⟨A, cap, rfl⟩ := h.row.len_
  have H := Lib.hid h
  have e1 : Hid (findI xs id = -1) := if_neg hf
  have b1 : decide (id < 0) = false := by simp; omega
  have b2 : decide (x < 0) = false := by simp; omega
  have b3 : decide (1099511627776 < x) = false := by simp; omega
  have b4 : ((xs.length : Int) == most) = true := by simp [hl]
  have HM := Lib.hid hm
  clear h h1 h2 h3 hf hl
  go_enter Try.func10, Try.ntmps10
  go_wp2_with (go_at_call 24; (refine (find_any g most _ xs id _ H.out HM.out).mono ?_); rintro e w' ⟨w1, rfl, rfl, hb1⟩; rw [e1.out]; have h1 := H.out.below hb1; have hc0 := h1.c0; have hc1 := h1.c1; clear h1)
  go_region
  all_goals (go_wp2; go_ret; exact ⟨_, rfl, rfl, hb1.drew⟩)
set_option maxHeartbeats 1000000 in
theorem set_new (g : Nat) (most : Int) (v : Value) (xs : List P2) (id x : Int) (w : World) (h : Tm w g most v xs) (hm : xs.length ≤ 999) (h1 : ¬ id < 0) (h2 : ¬ x < 0) (h3 : ¬ 1099511627776 < x) (hf : ¬ findN xs id < xs.length) (hl : ¬ (xs.length : Int) = most) :
    Calls Try.prog 10 #[.pointer (some ⟨g, 0, none⟩), .int .i64 id, .int .i64 x] w fun e w' => ∃ W v2, e = .returned (.int .i64 0) ∧ W = w' ∧ Tm W g most v2 (hpush xs (x, id)) ∧ Moved g v v2 w W := by
  obtain ⟨A, cap, rfl⟩ := h.row.len_
  have H := Lib.hid h
  have e1 : Hid (findI xs id = -1) := if_neg hf
  have b1 : decide (id < 0) = false := by simp; omega
  have b2 : decide (x < 0) = false := by simp; omega
  have b3 : decide (1099511627776 < x) = false := by simp; omega
  have b4 : ((xs.length : Int) == most) = false := by simp; omega
  have HM : Hid (xs.length ≤ 1000) := by unfold Hid; omega
  have HM2 := Lib.hid hm
  clear h h1 h2 h3 hf hl hm
  go_enter Try.func10, Try.ntmps10
  go_wp2_with (go_at_call 24; (refine (find_any g most _ xs id _ H.out HM.out).mono ?_); rintro e w' ⟨w1, rfl, rfl, hb1⟩; rw [e1.out]; have h1 := H.out.below hb1; have hc0 := h1.c0; have hc1 := h1.c1; have H1 := Lib.hid (HeapAt.drew h1); clear h1)
  go_region
  all_goals
    go_wp2_with (go_at_call 26; (with_reducible refine (hpush_any g 1 _ _ _ xs (x, id) _ H1.out HM2.out).mono ?_); rintro e w' ⟨w2, b2, c2, rfl, rfl, h2, q2⟩; have H2 := Lib.hid (Tm.of_set h2); clear h2)
    go_ret
    exact ⟨_, _, rfl, rfl, H2.out, Moved.below_then hb1.drew q2⟩
theorem set_any (g : Nat) (most : Int) (v : Value) (xs : List P2) (id x : Int) (w : World) (h : Tm w g most v xs) (hm : xs.length ≤ 999) :
    Calls Try.prog 10 #[.pointer (some ⟨g, 0, none⟩), .int .i64 id, .int .i64 x] w fun e w' => ∃ W v2, e = .returned (.int .i64 (setP most xs id x).1) ∧ W = w' ∧ Tm W g most v2 (setP most xs id x).2 ∧ Moved g v v2 w W := by
  unfold setP
  split
  · next hbad => exact (set_bad g most v xs id x w h (by omega) hbad).mono fun e w' ⟨W, he, hw, hb⟩ => ⟨W, v, he, hw, h.below hb, Moved.of_below hb⟩
  · next hok =>
    split
    · next hf =>
      obtain ⟨b, cap, rfl, _⟩ := h.row.form_ (by omega)
      exact (set_old g b _ cap _ most xs id x w h rfl (by omega) (by omega) (by omega) (by omega) rfl hf).mono fun e w' ⟨W, he, hw, h2, q2⟩ => ⟨W, _, he, hw, h2, Moved.of_grown q2⟩
    · next hf =>
      split
      · next hl => exact (set_full g most v xs id x w h (by omega) (by omega) (by omega) (by omega) hf hl).mono fun e w' ⟨W, he, hw, hb⟩ => ⟨W, v, he, hw, h.below hb, Moved.of_below hb⟩
      · next hl => exact set_new g most v xs id x w h (by omega) (by omega) (by omega) (by omega) hf hl
theorem Row.reads {w : World} {b n cap : Nat} {xs : List P2} (h : Row w (.slice (some ⟨b, 0, none⟩) n cap) xs) (hn : xs.length = n) : Reads w w.heap.size 2 (some ⟨b, 0, none⟩) n (ocells xs) := by
  subst hn
  unfold Row at h
  refine ⟨ocells_length xs, fun h0 => ⟨_, rfl, ?_, fun j u hu => ?_⟩⟩
  · obtain ⟨b', cap', e, _, hlt⟩ := h.form h0
    injection e with e
    injection e with e
    injection e with e
    subst e
    exact hlt
  · have hadd : (⟨b, 0, none⟩ : Addr).add j = ⟨b, j, none⟩ := by unfold Addr.add; split <;> simp_all
    have hj : j < (ocells xs).length := (List.getElem?_eq_some_iff.1 hu).1
    rw [ocells_length] at hj
    rw [hadd, World.ownsRow.cellAt h j (by omega)]
    exact hu
theorem ocells_one (xs : List P2) : ∀ u ∈ ocells xs, u.oneCell' = true := by
  intro u hu
  simp only [ocells, List.mem_flatMap] at hu
  obtain ⟨p, _, hu⟩ := hu
  simp only [List.mem_cons, List.not_mem_nil, or_false] at hu
  rcases hu with rfl | rfl <;> rfl
set_option maxHeartbeats 1000000 in
theorem clonem_any (v : Value) (xs : List P2) (w : World) (h : Row w v xs) (hm : xs.length ≤ 1000) :
    Calls Try.prog 27 #[v] w fun e w' => ∃ W v2, e = .returned v2 ∧ W = w' ∧ W.ownsRow w.heap.size 59 2 v2 xs.length (ocells xs) ∧ Below w.heap.size w W := by
  obtain ⟨i0, hi, hz0, hz1, hz2⟩ := info_parts info_one
  rcases h.cases_ with ⟨rfl, rfl⟩ | ⟨b, cap, rfl⟩
  · have hq := fun w => Lib.run_eql_slice_nil (P := Try.prog) w 54 59 none 0 0 0 0 Try.underlying54
    clear h hi hz0 hz1 hz2
    go_enter Try.func27, Try.ntmps27
    go_wp2
    go_ret
    exact ⟨_, _, rfl, rfl, World.ownsRow_nil _ _ _ _, Below.refl _ _⟩
  · have hq := fun w => Lib.run_eql_slice_nil (P := Try.prog) w 54 59 (some ⟨b, 0, none⟩) xs.length cap 0 0 Try.underlying54
    have H := Lib.hid h
    have HM := Lib.hid hm
    have I := Lib.hid (And.intro hi (And.intro hz0 (And.intro hz1 hz2)))
    have hb0 : Below w.heap.size w (w.alloc (.cells #[] 59)) := (Below.refl _ _).alloc (Nat.le_refl _) _
    clear h hi hz0 hz1 hz2 hm
    go_enter Try.func27, Try.ntmps27
    go_wp2_with (at_builtin; refine wpList_append_any _ rfl (.tmp 5) (.tmp 6) _ rfl w.heap.size 59 i0 (.agg #[.int .i64 0, .int .i64 0]) 2 16 Try.underlying54 I.out.1 I.out.2.1 I.out.2.2.1 I.out.2.2.2 rfl (by omega) (.slice (some ⟨w.heap.size, 0, none⟩) 0 0) 0 [] rfl (World.ownsRow_made w #[] 0 (Nat.le_refl _) (by simp only [maxLen]; omega) rfl) w.heap.size (some ⟨b, 0, none⟩) xs.length cap (ocells xs) rfl ((H.out.reads rfl).alloc (Nat.le_refl _) _) (ocells_one _) (by have := HM.out; simp only [maxLen]; omega) (by have := HM.out; omega) hb0.size ?_; intro v1 w1 hown1 hg1 hat1)
    simp only [Nat.zero_add, List.nil_append] at hown1
    go_ret
    exact ⟨_, _, rfl, rfl, hown1, hb0.grown hg1 hb0.size (fun k hk => by simp [Value.ownBlock] at hk; omega)⟩
end Go.Proofs.Ytkjjdbbogfjdlaa
