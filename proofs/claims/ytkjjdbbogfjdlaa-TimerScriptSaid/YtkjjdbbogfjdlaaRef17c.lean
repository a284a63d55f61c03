/-
  The walk of inkhornref17's Set.
-/
import Derived.Test.YtkjjdbbogfjdlaaRef17b
import Derived.Test.YtkjjdbbogfjdlaaLawTimer5
import Derived.BigQuiet
import Derived.BigRegion
namespace Go.Proofs.Ytkjjdbbogfjdlaa
set_option linter.unusedVariables false
set_option linter.unusedSimpArgs false
open Go.RowKit
open HP
/-- A moment put into a list in order. -/
def insP (x : P2) : List P2 → List P2
  | [] => [x]
  | y :: ys => if lessP x y = true then x :: y :: ys else y :: insP x ys
theorem insP_length (x : P2) (ys : List P2) : (insP x ys).length = ys.length + 1 := by
  induction ys with
  | nil => rfl
  | cons y ys ih => simp only [insP]; split <;> simp [ih]
def rsetP (most : Int) (xs : List P2) (id x : Int) : Int × List P2 :=
  if id < 0 ∨ x < 0 ∨ 1099511627776 < x then (2, xs)
  else if ¬ findN xs id < xs.length ∧ most ≤ (xs.length : Int) then (3, xs) else (0, insP (x, id) (xs.eraseIdx (findN xs id)))
theorem grow_fact {B : Nat} {W1 wr w4 : World} {e : TypeId} {s n : Nat} {l : Value} {xs : List Value} {O : Obj} (hb : Below B W1 wr) (ho : wr.ownsRow B e s l n xs) (hg : (wr.alloc O).grownBy w4 l.ownBlock) (hB : B ≤ W1.heap.size) : Below B W1 w4 :=
  (hb.alloc (Nat.le_trans hB hb.size) O).grown hg (by have := hb.size; simp only [World.size_alloc]; omega) (fun q hq => own_base ho q hq)
/-- What is known within Set's loop: W1 is the world ahead of it. -/
structure RI (W1 wr : World) (l : Value) (dn ys : List P2) (k : Nat) (b : Bool) (p : P2) : Prop where
  bel : Below W1.heap.size W1 wr
  row : wr.ownsRow W1.heap.size 68 2 l dn.length (rcells dn)
  eq : dn ++ (if b then ys.drop k else insP p (ys.drop k)) = insP p ys
  len : dn.length = k + (if b then 1 else 0)
theorem RI.grow {W1 wr w4 : World} {l v4 : Value} {dn ys : List P2} {k : Nat} {b : Bool} {p q : P2} {O : Obj} (h : RI W1 wr l dn ys k b p) (ho : w4.ownsRow W1.heap.size 68 2 v4 (dn.length + 1) (rcells dn ++ [.int .i64 q.2, .int .i64 q.1])) (hg : (wr.alloc O).grownBy w4 l.ownBlock) :
    Below W1.heap.size W1 w4 ∧ w4.ownsRow W1.heap.size 68 2 v4 (dn ++ [q]).length (rcells (dn ++ [q])) := by
  refine ⟨grow_fact h.bel h.row hg (Nat.le_refl _), ?_⟩
  rw [rcells_append, List.length_append]
  exact ho
theorem app_assoc (a b c : List P2) : a ++ b ++ c = a ++ (b ++ c) := List.append_assoc _ _ _
theorem app3 (a : List P2) (b c : P2) (d : List P2) : a ++ [b] ++ [c] ++ d = a ++ (b :: c :: d) := by simp
theorem insP_yes (p : P2) (ys : List P2) (k : Nat) (hk : k < ys.length) (h : lessP p (gp ys k) = true) : insP p (ys.drop k) = p :: gp ys k :: ys.drop (k + 1) := by
  rw [drop_gp ys k hk]; simp [insP, h]
theorem insP_no (p : P2) (ys : List P2) (k : Nat) (hk : k < ys.length) (h : lessP p (gp ys k) = false) : insP p (ys.drop k) = gp ys k :: insP p (ys.drop (k + 1)) := by
  rw [drop_gp ys k hk]; simp [insP, h]
theorem load_new2 (w : World) (a b : Value) (t : TypeId) : (w.alloc (.cells #[a, b] t)).cell? ⟨w.heap.size, 0, none⟩ = some a ∧ (w.alloc (.cells #[a, b] t)).cell? ⟨w.heap.size, 1, none⟩ = some b :=
  ⟨cell_of_row _ _ 0 _ _ _ (heap_alloc_new w _), cell_of_row _ _ 1 _ _ _ (heap_alloc_new w _)⟩
set_option maxRecDepth 20000 in
set_option maxHeartbeats 400000 in
theorem rset_bad (g : Nat) (id x : Int) (w : World) (h : id < 0 ∨ x < 0 ∨ 1099511627776 < x) :
    Calls Try.prog 20 #[.pointer (some ⟨g, 0, none⟩), .int .i64 id, .int .i64 x] w fun e w' => e = .returned (.int .i64 2) ∧ w = w' := by
  by_cases h1 : id < 0
  · have b1 : decide (id < 0) = true := by simp [h1]
    clear h h1
    go_enter Try.func20, Try.ntmps20
    go_wp2
    go_ret
    exact ⟨rfl, rfl⟩
  · by_cases h2 : x < 0
    · have b1 : decide (id < 0) = false := by simp; omega
      have b2 : decide (x < 0) = true := by simp [h2]
      clear h h1 h2
      go_enter Try.func20, Try.ntmps20
      go_wp2
      go_ret
      exact ⟨rfl, rfl⟩
    · have b1 : decide (id < 0) = false := by simp; omega
      have b2 : decide (x < 0) = false := by simp; omega
      have b3 : decide (1099511627776 < x) = true := by simp; omega
      clear h h1 h2
      go_enter Try.func20, Try.ntmps20
      go_wp2
      go_ret
      exact ⟨rfl, rfl⟩
set_option maxRecDepth 20000 in
set_option maxHeartbeats 1000000 in
theorem rset_full (g : Nat) (most : Int) (v : Value) (xs : List P2) (id x : Int) (w : World) (h : Rf w g most v xs) (hm : xs.length ≤ 1000) (h1 : ¬ id < 0) (h2 : ¬ x < 0) (h3 : ¬ 1099511627776 < x) (hf : ¬ findN xs id < xs.length) (hl : most ≤ (xs.length : Int)) :
    Calls Try.prog 20 #[.pointer (some ⟨g, 0, none⟩), .int .i64 id, .int .i64 x] w fun e w' => ∃ W, e = .returned (.int .i64 3) ∧ W = w' ∧ Below w.heap.size w W := by
  obtain ⟨A, cap, rfl⟩ := h.row.len_
  have hc0 := h.c0
  have hc1 := h.c1
  have H := Lib.hid h
  have e3 : Hid (decide (findN xs id < xs.length) = false) := by simp [Hid]; omega
  have b1 : decide (id < 0) = false := decide_eq_false h1
  have b2 : decide (x < 0) = false := decide_eq_false h2
  have b3 : decide (1099511627776 < x) = false := decide_eq_false h3
  have b4 : decide (most ≤ (xs.length : Int)) = true := decide_eq_true hl
  have HM := Lib.hid hm
  clear h h1 h2 h3 hf hl
  go_enter Try.func20, Try.ntmps20
  go_wp2_with (go_at_call 21; refine (rat_any g most _ xs id _ H.out HM.out).mono ?_; rintro e w' ⟨rfl, rfl⟩; rw [e3.out])
  go_quiet (fail)
  go_wp2
  go_ret
  exact ⟨_, rfl, rfl, below_drewN (Below.refl _ _) _⟩
theorem reads_new2' (w : World) (u1 u2 : Value) (t : TypeId) : Reads (w.alloc (.cells #[u1, u2] t)) (w.heap.size + 1) 2 (some ⟨w.heap.size, 0, none⟩) 1 [u1, u2] := reads_new2 w u1 u2 t
theorem own_len {w : World} {base n m : Nat} {e : TypeId} {s : Nat} {v : Value} {xs : List Value} (h : w.ownsRow base e s v n xs) (hn : n = m) : w.ownsRow base e s v m xs := by
  subst hn
  exact h
theorem own_slice {w : World} {base n : Nat} {e : TypeId} {s : Nat} {v : Value} {xs : List Value} (h : w.ownsRow base e s v n xs) : ∃ A m c, v = .slice A m c := by
  rcases h.2 with ⟨rfl, _⟩ | ⟨g', cap', cur, rfl, _⟩
  · exact ⟨_, _, _, rfl⟩
  · exact ⟨_, _, _, rfl⟩
/-- What Set's last store leaves. -/
theorem rset_end {w W1 w5 : World} {g : Nat} {most : Int} {v2 v5 : Value} {ys zs : List P2} (hw : w.grownBy W1 (some g)) (hr : Rf W1 g most v2 ys) (hb : Below W1.heap.size W1 w5) (ho : w5.ownsRow W1.heap.size 68 2 v5 zs.length (rcells zs)) :
    Rf (w5.setCell ⟨g, 0, none⟩ v5) g most v5 zs ∧ w.grownBy (w5.setCell ⟨g, 0, none⟩ v5) (some g) := by
  have r5 := hr.below hb
  refine ⟨⟨r5.blk.set_ 0 v5, ?_⟩, grownBy_trans_ hw (grownBy_trans_ (only_of_below hb _) ⟨rfl, rfl, rfl, by simp [World.setCell], fun q _ hq => Below.heap_setCell _ _ _ _ (fun e => hq (by rw [e]))⟩)⟩
  refine World.ownsRow.kept (own_zero ho) (row := some g) ⟨rfl, rfl, rfl, by simp [World.setCell], fun q _ hq => Below.heap_setCell _ _ _ _ (fun e => hq (by rw [e]))⟩ (.inr (own_blk_ne (own_zero ho) r5.blk (by decide)))
theorem RRow.atb {w : World} {b n cap : Nat} {xs : List P2} (h : RRow w (.slice (some ⟨b, 0, none⟩) n cap) xs) (hn : xs.length = n) (i : Nat) (hi : i < n) :
    w.cell? ⟨b, i * 2, none⟩ = some (.int .i64 (gp xs i).2) ∧ w.cell? ⟨b, i * 2 + 1, none⟩ = some (.int .i64 (gp xs i).1) := by
  obtain ⟨b', e, h1, h2⟩ := h.at_ hn i hi
  injection e with e
  injection e with e
  subst e
  exact ⟨h1, h2⟩
theorem rcancel_sl (g : Nat) (most : Int) (v : Value) (xs ys : List P2) (id : Int) (w : World) (h : Rf w g most v xs) (hm : xs.length ≤ 1000) (hy : xs.eraseIdx (findN xs id) = ys) :
    Calls Try.prog 19 #[.pointer (some ⟨g, 0, none⟩), .int .i64 id] w fun e w' => ∃ W A c, e = .returned (.bool (decide (findN xs id < xs.length))) ∧ W = w' ∧ Rf W g most (.slice A ys.length c) ys ∧ w.grownBy W (some g) := by
  subst hy
  refine (rcancel_any g most v xs id w h hm).mono fun e w' ⟨W, v2, he, hw, hr, hg⟩ => ?_
  obtain ⟨A, c, rfl⟩ := hr.row.len_
  exact ⟨W, A, c, he, hw, hr, hg⟩
set_option maxRecDepth 20000 in
set_option maxHeartbeats 4000000 in
theorem rset_ok (g : Nat) (most : Int) (v : Value) (xs : List P2) (id x : Int) (w : World) (h : Rf w g most v xs) (hm : xs.length ≤ 999) (h1 : ¬ id < 0) (h2 : ¬ x < 0) (h3 : ¬ 1099511627776 < x) (hr : findN xs id < xs.length ∨ ¬ most ≤ (xs.length : Int)) :
    Calls Try.prog 20 #[.pointer (some ⟨g, 0, none⟩), .int .i64 id, .int .i64 x] w fun e w' => ∃ W v2, e = .returned (.int .i64 0) ∧ W = w' ∧ Rf W g most v2 (insP (x, id) (xs.eraseIdx (findN xs id))) ∧ w.grownBy W (some g) := by
  obtain ⟨i0, hi, hz0, hz1, hz2⟩ := info_parts info_rone
  have I := Lib.hid (And.intro hi (And.intro hz0 (And.intro hz1 hz2)))
  obtain ⟨A, cap, rfl⟩ := h.row.len_
  have hc0 := h.c0
  have hc1 := h.c1
  have H := Lib.hid h
  have b1 : decide (id < 0) = false := decide_eq_false h1
  have b2 : decide (x < 0) = false := decide_eq_false h2
  have b3 : decide (1099511627776 < x) = false := decide_eq_false h3
  have HM : Hid (xs.length ≤ 1000) := by unfold Hid; omega
  obtain ⟨f, hf⟩ : ∃ f, decide (findN xs id < xs.length) = f := ⟨_, rfl⟩
  have HF := Lib.hid hf
  have hr2 : f = true ∨ (f = false ∧ decide (most ≤ (xs.length : Int)) = false) := by
    by_cases q : findN xs id < xs.length
    · left; rw [← hf]; exact decide_eq_true q
    · right
      rcases hr with k | k
      · exact absurd k q
      · exact ⟨by rw [← hf]; exact decide_eq_false q, decide_eq_false k⟩
  clear h h1 h2 h3 hf hr hi hz0 hz1 hz2
  have hys : (xs.eraseIdx (findN xs id)).length ≤ 999 := Nat.le_trans (List.length_eraseIdx_le _ _) hm
  generalize hyy : xs.eraseIdx (findN xs id) = ys at *
  have HYY := Lib.hid hyy
  clear hyy hm
  rcases hr2 with rfl | ⟨rfl, b4⟩
  all_goals
    go_enter Try.func20, Try.ntmps20
    go_wp2_with (go_at_call 21; refine (rat_any g most _ xs id _ H.out HM.out).mono ?_; rintro e w' ⟨rfl, rfl⟩; rw [HF.out])
    go_quiet (fail)
    go_wp2_with (go_at_call 19; refine (rcancel_sl g most _ xs ys id _ (H.out.below (below_drewN (Below.refl _ _) _)) HM.out HYY.out).mono ?_; rintro e w' ⟨w1, A2, cp2, rfl, rfl, hr1, hg1⟩; have H1 := Lib.hid hr1; have G1 := Lib.hid (grownBy_trans_ (only_of_below (below_drewN (Below.refl w.heap.size w) _) (some g)) hg1); clear hr1 hg1)
    have hx := load_new2 w1 (.int .i64 id) (.int .i64 x) 68
    have h2 := H1.out.below (b_alloc w1 (.cells #[.int .i64 id, .int .i64 x] 68))
    have g2 := grownBy_trans_ G1.out (only_of_below (b_alloc w1 (.cells #[.int .i64 id, .int .i64 x] 68)) (some g))
    generalize w1.alloc (.cells #[.int .i64 id, .int .i64 x] 68) = w2 at *
    have HX := Lib.hid hx
    have H2 := Lib.hid h2
    have G2 := Lib.hid g2
    clear hx h2 g2 hc0 hc1
    go_loopw [10, 11, 12] (fun l f i wr => ∃ (k : Nat) (dn : List P2) (b : Bool), k ≤ ys.length ∧ f = .bool b ∧ i = .int .i64 k ∧ Hid (RI w2 wr l dn ys k b (x, id))) (fun _ _ i _ => ys.length - (intOf i).toNat)
    case atStart => exact ⟨0, [], false, by omega, rfl, rfl, ⟨Below.refl _ _, World.ownsRow_nil _ _ _ _, by simp, by simp⟩⟩
    case round =>
      obtain ⟨k, dn, b, hk, rfl, rfl, HD⟩ := hrel
      have HDL : Hid (dn.length ≤ k + 1 ∧ k ≤ 999) := ⟨by have := HD.out.len; split at this <;> omega, by omega⟩
      have hr := H2.out.below HD.out.bel
      have hc0 := hr.c0
      have x0 := cell_on HX.out.1 HD.out.bel
      have x1 := cell_on HX.out.2 HD.out.bel
      by_cases hkn : k < ys.length
      · obtain ⟨b2, hA, a1, a2⟩ := hr.row.at_ rfl k hkn
        subst hA
        have HKN := Lib.hid hkn
        clear hr
        cases b with
        | true =>
          have EQ : Hid ((dn ++ [gp ys k]) ++ ys.drop (k + 1) = insP (x, id) ys) := by
            have := HD.out.eq
            rw [if_pos rfl, drop_gp ys k hkn] at this
            exact (app_assoc _ _ _).trans this
          go_wp2_with (first
            | (at_builtin; refine wpList_append_any _ rfl (.tmp 100) (.tmp 108) 47 rfl w2.heap.size 68 i0 (.agg #[.int .i64 0, .int .i64 0]) 2 16 Try.underlying47 I.out.1 I.out.2.1 I.out.2.2.1 I.out.2.2.2 rfl (by omega) u10 dn.length (rcells dn) rfl (World.ownsRow.alloc HD.out.row _) (wr.heap.size + 1) (some ⟨wr.heap.size, 0, none⟩) 1 1 [.int .i64 (gp ys k).2, .int .i64 (gp ys k).1] rfl (reads_new2' wr _ _ _) (by simp [Value.oneCell']) (by have := HDL.out; simp only [maxLen]; omega) (by have := HDL.out; omega) (by have := HD.out.bel.size; simp only [World.size_alloc]; omega) ?_; intro v4 w4 hown4 hg4 hat4; have G4 := Lib.hid (RI.grow (q := gp ys k) HD.out hown4 hg4); clear hown4 hg4 hat4)
            | fail)
          go_roundw
          case rel => exact ⟨k + 1, dn ++ [gp ys k], true, by omega, rfl, by go_num, ⟨G4.out.1, G4.out.2, EQ.out, by have := HD.out.len; simp only [List.length_append, List.length_cons, List.length_nil] at this ⊢; simp at this ⊢; omega⟩⟩
          case measure => simp [intOf]; omega
        | false =>
          by_cases q1 : x < (gp ys k).1
          · have HL : Hid (lessP (x, id) (gp ys k) = true) := by unfold Hid; rw [lessP_iff]; left; exact q1
            have b5 : decide (x < (gp ys k).1) = true := decide_eq_true q1
            clear q1
            have EQ : Hid ((dn ++ [(x, id)] ++ [gp ys k]) ++ ys.drop (k + 1) = insP (x, id) ys) := by
              have := HD.out.eq
              rw [if_neg (by decide), insP_yes (x, id) ys k hkn HL.out] at this
              exact (app3 _ _ _ _).trans this
            go_wp2_with (first
              | (at_builtin; refine wpList_append_any _ rfl (.tmp 96) (.tmp 98) 47 rfl w2.heap.size 68 i0 (.agg #[.int .i64 0, .int .i64 0]) 2 16 Try.underlying47 I.out.1 I.out.2.1 I.out.2.2.1 I.out.2.2.2 rfl (by omega) u10 dn.length (rcells dn) rfl (World.ownsRow.alloc HD.out.row _) (wr.heap.size + 1) (some ⟨wr.heap.size, 0, none⟩) 1 1 [.int .i64 id, .int .i64 x] rfl (reads_new2' wr _ _ _) (by simp [Value.oneCell']) (by have := HDL.out; simp only [maxLen]; omega) (by have := HDL.out; omega) (by have := HD.out.bel.size; simp only [World.size_alloc]; omega) ?_; intro v4 w4 hown4 hg4 hat4; have G4 := Lib.hid (RI.grow (q := (x, id)) HD.out hown4 hg4); have R4 := H2.out.below G4.out.1; have d0 := R4.c0; have d1 := (R4.row.atb rfl k HKN.out).1; have d2 := (R4.row.atb rfl k HKN.out).2; clear R4 hown4 hg4 hat4)
              | (at_builtin; refine wpList_append_any _ rfl (.tmp 100) (.tmp 108) 47 rfl w2.heap.size 68 i0 (.agg #[.int .i64 0, .int .i64 0]) 2 16 Try.underlying47 I.out.1 I.out.2.1 I.out.2.2.1 I.out.2.2.2 rfl (by omega) v4 (dn.length + 1) (rcells (dn ++ [(x, id)])) rfl (World.ownsRow.alloc (own_len G4.out.2 (by rw [List.length_append]; rfl)) _) (w4.heap.size + 1) (some ⟨w4.heap.size, 0, none⟩) 1 1 [.int .i64 (gp ys k).2, .int .i64 (gp ys k).1] rfl (reads_new2' w4 _ _ _) (by simp [Value.oneCell']) (by have := HDL.out; simp only [maxLen]; omega) (by have := HDL.out; omega) (by have := G4.out.1.size; simp only [World.size_alloc]; omega) ?_; intro v5 w5 hown5 hg5 hat5; have G5 := Lib.hid (grow_fact G4.out.1 G4.out.2 hg5 (Nat.le_refl _)); have O5 := Lib.hid hown5; clear hown5 hg5 hat5))
            go_roundw
            case rel => exact ⟨k + 1, dn ++ [(x, id)] ++ [gp ys k], true, by omega, rfl, by go_num, ⟨G5.out, (by rw [rcells_append, List.length_append, List.length_append]; exact O5.out), EQ.out, by have := HD.out.len; simp only [List.length_append, List.length_cons, List.length_nil] at this ⊢; simp at this ⊢; omega⟩⟩
            case measure => simp [intOf]; omega
          · have b5 : decide (x < (gp ys k).1) = false := decide_eq_false q1
            by_cases q2 : (gp ys k).1 = x
            · have b6 : ((gp ys k).1 == x) = true := by simp [q2]
              by_cases q3 : id < (gp ys k).2
              · have HL : Hid (lessP (x, id) (gp ys k) = true) := by unfold Hid; rw [lessP_iff]; right; exact ⟨q2.symm, q3⟩
                have b7 : decide (id < (gp ys k).2) = true := decide_eq_true q3
                clear q1 q2 q3
                have EQ : Hid ((dn ++ [(x, id)] ++ [gp ys k]) ++ ys.drop (k + 1) = insP (x, id) ys) := by
                  have := HD.out.eq
                  rw [if_neg (by decide), insP_yes (x, id) ys k hkn HL.out] at this
                  exact (app3 _ _ _ _).trans this
                go_wp2_with (first
                  | (at_builtin; refine wpList_append_any _ rfl (.tmp 96) (.tmp 98) 47 rfl w2.heap.size 68 i0 (.agg #[.int .i64 0, .int .i64 0]) 2 16 Try.underlying47 I.out.1 I.out.2.1 I.out.2.2.1 I.out.2.2.2 rfl (by omega) u10 dn.length (rcells dn) rfl (World.ownsRow.alloc HD.out.row _) (wr.heap.size + 1) (some ⟨wr.heap.size, 0, none⟩) 1 1 [.int .i64 id, .int .i64 x] rfl (reads_new2' wr _ _ _) (by simp [Value.oneCell']) (by have := HDL.out; simp only [maxLen]; omega) (by have := HDL.out; omega) (by have := HD.out.bel.size; simp only [World.size_alloc]; omega) ?_; intro v4 w4 hown4 hg4 hat4; have G4 := Lib.hid (RI.grow (q := (x, id)) HD.out hown4 hg4); have R4 := H2.out.below G4.out.1; have d0 := R4.c0; have d1 := (R4.row.atb rfl k HKN.out).1; have d2 := (R4.row.atb rfl k HKN.out).2; clear R4 hown4 hg4 hat4)
                  | (at_builtin; refine wpList_append_any _ rfl (.tmp 100) (.tmp 108) 47 rfl w2.heap.size 68 i0 (.agg #[.int .i64 0, .int .i64 0]) 2 16 Try.underlying47 I.out.1 I.out.2.1 I.out.2.2.1 I.out.2.2.2 rfl (by omega) v4 (dn.length + 1) (rcells (dn ++ [(x, id)])) rfl (World.ownsRow.alloc (own_len G4.out.2 (by rw [List.length_append]; rfl)) _) (w4.heap.size + 1) (some ⟨w4.heap.size, 0, none⟩) 1 1 [.int .i64 (gp ys k).2, .int .i64 (gp ys k).1] rfl (reads_new2' w4 _ _ _) (by simp [Value.oneCell']) (by have := HDL.out; simp only [maxLen]; omega) (by have := HDL.out; omega) (by have := G4.out.1.size; simp only [World.size_alloc]; omega) ?_; intro v5 w5 hown5 hg5 hat5; have G5 := Lib.hid (grow_fact G4.out.1 G4.out.2 hg5 (Nat.le_refl _)); have O5 := Lib.hid hown5; clear hown5 hg5 hat5))
                go_roundw
                case rel => exact ⟨k + 1, dn ++ [(x, id)] ++ [gp ys k], true, by omega, rfl, by go_num, ⟨G5.out, (by rw [rcells_append, List.length_append, List.length_append]; exact O5.out), EQ.out, by have := HD.out.len; simp only [List.length_append, List.length_cons, List.length_nil] at this ⊢; simp at this ⊢; omega⟩⟩
                case measure => simp [intOf]; omega
              · have HL : Hid (lessP (x, id) (gp ys k) = false) := by unfold Hid; rw [← Bool.not_eq_true, lessP_iff]; simp only; omega
                have b7 : decide (id < (gp ys k).2) = false := decide_eq_false q3
                clear q1 q2 q3
                have EQ : Hid ((dn ++ [gp ys k]) ++ insP (x, id) (ys.drop (k + 1)) = insP (x, id) ys) := by
                  have := HD.out.eq
                  rw [if_neg (by decide), insP_no (x, id) ys k hkn HL.out] at this
                  exact (app_assoc _ _ _).trans this
                go_wp2_with (first
                  | (at_builtin; refine wpList_append_any _ rfl (.tmp 100) (.tmp 108) 47 rfl w2.heap.size 68 i0 (.agg #[.int .i64 0, .int .i64 0]) 2 16 Try.underlying47 I.out.1 I.out.2.1 I.out.2.2.1 I.out.2.2.2 rfl (by omega) u10 dn.length (rcells dn) rfl (World.ownsRow.alloc HD.out.row _) (wr.heap.size + 1) (some ⟨wr.heap.size, 0, none⟩) 1 1 [.int .i64 (gp ys k).2, .int .i64 (gp ys k).1] rfl (reads_new2' wr _ _ _) (by simp [Value.oneCell']) (by have := HDL.out; simp only [maxLen]; omega) (by have := HDL.out; omega) (by have := HD.out.bel.size; simp only [World.size_alloc]; omega) ?_; intro v4 w4 hown4 hg4 hat4; have G4 := Lib.hid (RI.grow (q := gp ys k) HD.out hown4 hg4); clear hown4 hg4 hat4)
                  | fail)
                go_roundw
                case rel => exact ⟨k + 1, dn ++ [gp ys k], false, by omega, rfl, by go_num, ⟨G4.out.1, G4.out.2, EQ.out, by have := HD.out.len; simp only [List.length_append, List.length_cons, List.length_nil] at this ⊢; simp at this ⊢; omega⟩⟩
                case measure => simp [intOf]; omega
            · have b6 : ((gp ys k).1 == x) = false := by simp [q2]
              have HL : Hid (lessP (x, id) (gp ys k) = false) := by unfold Hid; rw [← Bool.not_eq_true, lessP_iff]; simp only; omega
              clear q1 q2
              have EQ : Hid ((dn ++ [gp ys k]) ++ insP (x, id) (ys.drop (k + 1)) = insP (x, id) ys) := by
                have := HD.out.eq
                rw [if_neg (by decide), insP_no (x, id) ys k hkn HL.out] at this
                exact (app_assoc _ _ _).trans this
              go_wp2_with (first
                | (at_builtin; refine wpList_append_any _ rfl (.tmp 100) (.tmp 108) 47 rfl w2.heap.size 68 i0 (.agg #[.int .i64 0, .int .i64 0]) 2 16 Try.underlying47 I.out.1 I.out.2.1 I.out.2.2.1 I.out.2.2.2 rfl (by omega) u10 dn.length (rcells dn) rfl (World.ownsRow.alloc HD.out.row _) (wr.heap.size + 1) (some ⟨wr.heap.size, 0, none⟩) 1 1 [.int .i64 (gp ys k).2, .int .i64 (gp ys k).1] rfl (reads_new2' wr _ _ _) (by simp [Value.oneCell']) (by have := HDL.out; simp only [maxLen]; omega) (by have := HDL.out; omega) (by have := HD.out.bel.size; simp only [World.size_alloc]; omega) ?_; intro v4 w4 hown4 hg4 hat4; have G4 := Lib.hid (RI.grow (q := gp ys k) HD.out hown4 hg4); clear hown4 hg4 hat4)
                | fail)
              go_roundw
              case rel => exact ⟨k + 1, dn ++ [gp ys k], false, by omega, rfl, by go_num, ⟨G4.out.1, G4.out.2, EQ.out, by have := HD.out.len; simp only [List.length_append, List.length_cons, List.length_nil] at this ⊢; simp at this ⊢; omega⟩⟩
              case measure => simp [intOf]; omega
      · obtain rfl : k = ys.length := by omega
        have f0 := hr.blk.frozen 0
        clear hr
        cases b with
        | true =>
          have e : Hid (dn = insP (x, id) ys) := by
            have := HD.out.eq
            rw [if_pos rfl, List.drop_length, List.append_nil] at this
            exact this
          have F := rset_end G2.out H2.out HD.out.bel HD.out.row
          obtain ⟨A4, m4, c4, hv4⟩ := own_slice HD.out.row
          rw [e.out] at F
          have HF2 := Lib.hid F
          clear F
          rw [hv4]
          go_wp2
          go_ret
          rw [← hv4]
          first | exact ⟨_, _, rfl, rfl, HF2.out.1, HF2.out.2⟩ | exact ⟨rfl, ⟨_, HF2.out.1⟩, HF2.out.2⟩
        | false =>
          have e : Hid (dn ++ [(x, id)] = insP (x, id) ys) := by
            have := HD.out.eq
            rw [if_neg (by decide), List.drop_length] at this
            exact this
          go_wp2_with (first
            | (at_builtin; refine wpList_append_any _ rfl (.tmp 112) (.tmp 114) 47 rfl w2.heap.size 68 i0 (.agg #[.int .i64 0, .int .i64 0]) 2 16 Try.underlying47 I.out.1 I.out.2.1 I.out.2.2.1 I.out.2.2.2 rfl (by omega) u10 dn.length (rcells dn) rfl (World.ownsRow.alloc HD.out.row _) (wr.heap.size + 1) (some ⟨wr.heap.size, 0, none⟩) 1 1 [.int .i64 id, .int .i64 x] rfl (reads_new2' wr _ _ _) (by simp [Value.oneCell']) (by have := HDL.out; simp only [maxLen]; omega) (by have := HDL.out; omega) (by have := HD.out.bel.size; simp only [World.size_alloc]; omega) ?_; intro v4 w4 hown4 hg4 hat4; have G4 := Lib.hid (RI.grow (q := (x, id)) HD.out hown4 hg4); have R4 := H2.out.below G4.out.1; have d0 := R4.c0; have d1 := R4.blk.frozen 0; obtain ⟨A4, m4, c4, hv4⟩ := own_slice G4.out.2; clear R4 hown4 hg4 hat4; rw [hv4])
            | fail)
          go_ret
          have F := rset_end G2.out H2.out G4.out.1 G4.out.2
          rw [e.out] at F
          rw [← hv4]
          first | exact ⟨_, _, rfl, rfl, F.1, F.2⟩ | exact ⟨rfl, ⟨_, F.1⟩, F.2⟩
end Go.Proofs.Ytkjjdbbogfjdlaa
