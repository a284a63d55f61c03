/-
  The walks of inkhornref17: New, At, Due; the reference's list is kept in order.
-/
import Derived.Test.YtkjjdbbogfjdlaaLawTimer
namespace Go.Proofs.Ytkjjdbbogfjdlaa
set_option linter.unusedVariables false
set_option linter.unusedSimpArgs false
open Go.RowKit
open HP
/-- The cells of the reference's moments: the number, the moment. -/
def rcells (xs : List P2) : List Value := xs.flatMap fun p => [.int .i64 p.2, .int .i64 p.1]
theorem rcells_length (xs : List P2) : (rcells xs).length = xs.length * 2 := by
  induction xs with
  | nil => rfl
  | cons x xs ih => simp only [rcells, List.flatMap_cons, List.length_append, List.length_cons, List.length_nil] at ih ⊢; omega
theorem rcells_cons (x : P2) (xs : List P2) : rcells (x :: xs) = .int .i64 x.2 :: .int .i64 x.1 :: rcells xs := rfl
theorem rcells_append (xs ys : List P2) : rcells (xs ++ ys) = rcells xs ++ rcells ys := by simp [rcells]
theorem rcells_get (xs : List P2) (i : Nat) (h : i < xs.length) : (rcells xs)[i * 2]? = some (.int .i64 (gp xs i).2) ∧ (rcells xs)[i * 2 + 1]? = some (.int .i64 (gp xs i).1) := by
  induction xs generalizing i with
  | nil => simp at h
  | cons x xs ih =>
    rw [rcells_cons]
    cases i with
    | zero => exact ⟨rfl, rfl⟩
    | succ i =>
      have := ih i (by simpa using h)
      rw [show (i + 1) * 2 = i * 2 + 1 + 1 by omega]
      simpa [gp] using this
theorem rcells_one (xs : List P2) : ∀ u ∈ rcells xs, u.oneCell' = true := by
  intro u hu
  simp only [rcells, List.mem_flatMap] at hu
  obtain ⟨p, _, hu⟩ := hu
  simp only [List.mem_cons, List.not_mem_nil, or_false] at hu
  rcases hu with rfl | rfl <;> rfl
def RRow (w : World) (v : Value) (xs : List P2) : Prop := w.ownsRow 0 68 2 v xs.length (rcells xs)
/-- The reference's timers, in block g. -/
structure Rf (w : World) (g : Nat) (most : Int) (v : Value) (xs : List P2) : Prop where
  blk : Blk w g 49 #[v, .int .i64 most]
  row : RRow w v xs
theorem RRow.cases_ {w : World} {v : Value} {xs : List P2} (h : RRow w v xs) : (v = .slice none 0 0 ∧ xs = []) ∨ ∃ b cap, v = .slice (some ⟨b, 0, none⟩) xs.length cap := by
  rcases h.2 with ⟨e, hn⟩ | ⟨g', cap', cur, e, _⟩
  · exact .inl ⟨e, List.eq_nil_of_length_eq_zero hn⟩
  · exact .inr ⟨_, _, e⟩
theorem RRow.len_ {w : World} {v : Value} {xs : List P2} (h : RRow w v xs) : ∃ A cap, v = .slice A xs.length cap := by
  rcases h.cases_ with ⟨rfl, rfl⟩ | ⟨b, cap, rfl⟩
  · exact ⟨none, 0, rfl⟩
  · exact ⟨_, cap, rfl⟩
theorem RRow.at_ {w : World} {A : Option Addr} {n cap : Nat} {xs : List P2} (h : RRow w (.slice A n cap) xs) (hn : xs.length = n) (i : Nat) (hi : i < n) :
    ∃ b, A = some ⟨b, 0, none⟩ ∧ w.cell? ⟨b, i * 2, none⟩ = some (.int .i64 (gp xs i).2) ∧ w.cell? ⟨b, i * 2 + 1, none⟩ = some (.int .i64 (gp xs i).1) := by
  subst hn
  rcases h.cases_ with ⟨e, e2⟩ | ⟨b, cap, e⟩
  · subst e2; simp at hi
  · injection e with e1 e2 e3
    subst e1; subst e3
    unfold RRow at h
    refine ⟨b, rfl, ?_⟩
    rw [World.ownsRow.cellAt h _ (by omega), World.ownsRow.cellAt h _ (by omega)]
    exact rcells_get xs i hi
theorem Rf.c0 {w : World} {g : Nat} {most : Int} {v : Value} {xs : List P2} (h : Rf w g most v xs) : w.cell? ⟨g, 0, none⟩ = some v := h.blk.cell 0
theorem Rf.c1 {w : World} {g : Nat} {most : Int} {v : Value} {xs : List P2} (h : Rf w g most v xs) : w.cell? ⟨g, 1, none⟩ = some (.int .i64 most) := h.blk.cell 1
theorem Rf.below {w w1 : World} {g : Nat} {most : Int} {v : Value} {xs : List P2} (h : Rf w g most v xs) (hb : Below w.heap.size w w1) : Rf w1 g most v xs :=
  ⟨h.blk.below hb h.blk.lt, World.ownsRow.kept h.row (only_of_below hb none) (by cases v.ownBlock <;> simp)⟩
set_option maxHeartbeats 400000 in
theorem rnew_ok (most : Int) (w : World) (h1 : 1 ≤ most) (h2 : most ≤ 24) :
    Calls Try.prog 17 #[.int .i64 most] w fun e w' => ∃ W, e = .returned (.tuple #[.pointer (some ⟨w.heap.size, 0, none⟩), .int .i64 0]) ∧ W = w' ∧ Rf W w.heap.size most (.slice none 0 0) [] ∧ Below w.heap.size w W := by
  have b1 : decide (most < 1) = false := by simp; omega
  have b2 : decide (24 < most) = false := by simp; omega
  go_enter Try.func17, Try.ntmps17
  go_wp2
  go_ret2
  exact ⟨_, rfl, rfl, ⟨Blk.new _ _ _, World.ownsRow_nil _ _ _ _⟩, b_alloc _ _⟩
set_option maxHeartbeats 400000 in
theorem rnew_bad (most : Int) (w : World) (h : most < 1 ∨ 24 < most) :
    Calls Try.prog 17 #[.int .i64 most] w fun e w' => e = .returned (.tuple #[.pointer none, .int .i64 2]) ∧ w = w' := by
  rcases Int.lt_or_le most 1 with h1 | h1
  · have b1 : decide (most < 1) = true := by simp; omega
    go_enter Try.func17, Try.ntmps17
    go_wp2
    go_ret2
    exact ⟨rfl, rfl⟩
  · have b1 : decide (most < 1) = false := by simp; omega
    have b2 : decide (24 < most) = true := by simp; omega
    go_enter Try.func17, Try.ntmps17
    go_wp2
    go_ret2
    exact ⟨rfl, rfl⟩
set_option maxHeartbeats 1000000 in
theorem rat_any (g : Nat) (most : Int) (v : Value) (xs : List P2) (id : Int) (w : World) (h : Rf w g most v xs) (hm : xs.length ≤ 1000) :
    Calls Try.prog 21 #[.pointer (some ⟨g, 0, none⟩), .int .i64 id] w fun e w' => e = .returned (.tuple #[.int .i64 (atI xs id), .bool (decide (findN xs id < xs.length))]) ∧ w = w' := by
  obtain ⟨A, cap, rfl⟩ := h.row.len_
  have hc := h.c0
  have H := Lib.hid h
  clear h
  go_enter Try.func21, Try.ntmps21
  go_wp2
  go_loop [6] (fun i => ∃ k : Nat, k ≤ xs.length ∧ i = .int .i64 k ∧ Hid (∀ j, j < k → (gp xs j).2 ≠ id)) (fun i => xs.length - (intOf i).toNat)
  case atStart => exact ⟨0, by omega, rfl, fun j hj => absurd hj (by omega)⟩
  case round =>
    obtain ⟨k, hk, rfl, HA⟩ := hrel
    by_cases hkn : k < xs.length
    · obtain ⟨b, hA, a1, a2⟩ := H.out.row.at_ rfl k hkn
      subst hA
      cases hb : (gp xs k).2 == id with
      | true =>
        have e0 : findN xs id = k := findN_at xs id k hkn HA.out (by simpa using hb)
        have e : Hid (atI xs id = (gp xs k).1 ∧ decide (findN xs id < xs.length) = true) := by
          unfold Hid atI
          rw [e0, if_pos hkn]
          exact ⟨rfl, by simp [hkn]⟩
        clear e0
        go_wp2
        go_ret2
        exact ⟨by rw [e.out.1, e.out.2]; rfl, rfl⟩
      | false =>
        have HA2 : Hid (∀ j, j < k + 1 → (gp xs j).2 ≠ id) := by
          intro j hj
          rcases Nat.lt_succ_iff_lt_or_eq.1 hj with hj | rfl
          · exact HA.out j hj
          · simpa using hb
        go_wp2
        go_round
        case rel => exact ⟨k + 1, by omega, by go_num, HA2⟩
        case measure => simp [intOf]; omega
    · obtain rfl : k = xs.length := by omega
      have e0 : findN xs id = xs.length := findN_none xs id HA.out
      have e : Hid (atI xs id = 0 ∧ decide (findN xs id < xs.length) = false) := by
        unfold Hid atI
        rw [e0, if_neg (by omega)]
        exact ⟨rfl, by simp⟩
      clear e0
      go_wp2
      go_ret2
      exact ⟨by rw [e.out.1, e.out.2]; rfl, rfl⟩
/-- What the reference says is due. -/
def rdue (xs : List P2) (now : Int) : List Int := (xs.takeWhile (fun p => decide (p.1 ≤ now))).map (·.2)
theorem drop_gp (xs : List P2) (k : Nat) (hk : k < xs.length) : xs.drop k = gp xs k :: xs.drop (k + 1) := by
  rw [List.drop_eq_getElem_cons hk]
  have := gp_get xs k hk
  rw [List.getElem?_eq_getElem hk] at this
  injection this with this
  rw [this]
theorem rdue_yes (xs : List P2) (now : Int) (k : Nat) (hk : k < xs.length) (h : (gp xs k).1 ≤ now) : rdue (xs.drop k) now = (gp xs k).2 :: rdue (xs.drop (k + 1)) now := by
  unfold rdue
  rw [drop_gp xs k hk, List.takeWhile_cons, if_pos (by simpa using h)]
  rfl
theorem rdue_no (xs : List P2) (now : Int) (k : Nat) (hk : k < xs.length) (h : ¬ (gp xs k).1 ≤ now) : rdue (xs.drop k) now = [] := by
  unfold rdue
  rw [drop_gp xs k hk, List.takeWhile_cons, if_neg (by simpa using h)]
  rfl
set_option maxHeartbeats 2000000 in
theorem rdue_any (g : Nat) (most : Int) (v : Value) (xs : List P2) (now : Int) (w : World) (h : Rf w g most v xs) (hm : xs.length ≤ 1000) :
    Calls Try.prog 22 #[.pointer (some ⟨g, 0, none⟩), .int .i64 now] w fun e w' => ∃ W l, e = .returned l ∧ W = w' ∧ W.ownsRow w.heap.size 3 1 l (rdue xs now).length (ivals (rdue xs now)) ∧ Below w.heap.size w W := by
  obtain ⟨i0, hi, hz0, hz1, hz2⟩ := info_parts info_int
  have I := Lib.hid (And.intro hi (And.intro hz0 (And.intro hz1 hz2)))
  obtain ⟨A, cap, rfl⟩ := h.row.len_
  have H := Lib.hid h
  clear h hi hz0 hz1 hz2
  go_enter Try.func22, Try.ntmps22
  go_wp2
  go_loopw [5, 6] (fun l i wr => ∃ (k : Nat) (dn : List Int), k ≤ xs.length ∧ i = .int .i64 k ∧ Hid (dn.length = k ∧ wr.ownsRow w.heap.size 3 1 l dn.length (ivals dn) ∧ Below w.heap.size w wr ∧ dn ++ rdue (xs.drop k) now = rdue xs now)) (fun _ i _ => xs.length - (intOf i).toNat)
  case atStart => exact ⟨0, [], by omega, rfl, rfl, World.ownsRow_nil _ _ _ _, Below.refl _ _, by simp⟩
  case round =>
    obtain ⟨k, dn, hk, rfl, HD⟩ := hrel
    have hr := H.out.below HD.out.2.2.1
    have hc := hr.c0
    by_cases hkn : k < xs.length
    · obtain ⟨b, hA, a1, a2⟩ := hr.row.at_ rfl k hkn
      subst hA
      clear hr
      by_cases hd : (gp xs k).1 ≤ now
      · have hb : decide ((gp xs k).1 ≤ now) = true := by simp [hd]
        have e : Hid ((dn ++ [(gp xs k).2]) ++ rdue (xs.drop (k + 1)) now = rdue xs now) := by
          have := HD.out.2.2.2
          rw [rdue_yes xs now k hkn hd] at this
          rw [List.append_assoc]
          exact this
        have HDN : Hid (dn.length ≤ 1000) := by have := HD.out.1; unfold Hid; omega
        clear hd
        go_wp2_with (at_builtin; refine wpList_append_any _ rfl (.tmp 28) (.tmp 37) 22 rfl w.heap.size 3 i0 (.int .i64 0) 1 8 Try.underlying22 I.out.1 I.out.2.1 I.out.2.2.1 I.out.2.2.2 rfl (by omega) u5 dn.length (ivals dn) rfl (World.ownsRow.alloc HD.out.2.1 _) (wr.heap.size + 1) (some ⟨wr.heap.size, 0, none⟩) 1 1 [.int .i64 (gp xs k).2] rfl (reads_new wr _ _) (by simp [Value.oneCell']) (by have := HDN.out; simp only [maxLen]; omega) (by have := HDN.out; omega) (by have := HD.out.2.2.1.size; simp only [World.size_alloc]; omega) ?_; intro v4 w4 hown4 hg4 hat4; have H4 := Lib.hid hown4; have G4 := Lib.hid hg4; clear hown4 hg4 hat4)
        go_roundw
        case rel =>
          refine ⟨k + 1, dn ++ [(gp xs k).2], by omega, by go_num, by rw [List.length_append, HD.out.1]; rfl, ?_, ?_, e.out⟩
          · rw [ivals_append, List.length_append]
            exact H4.out
          · refine (HD.out.2.2.1.alloc HD.out.2.2.1.size _).grown G4.out ?_ (fun q hq => own_base HD.out.2.1 q hq)
            have := HD.out.2.2.1.size
            simp only [World.size_alloc]; omega
        case measure => simp [intOf]; omega
      · have hb : decide ((gp xs k).1 ≤ now) = false := by simp; omega
        have e : Hid (dn = rdue xs now) := by
          have := HD.out.2.2.2
          rw [rdue_no xs now k hkn hd, List.append_nil] at this
          exact this
        clear hd
        go_wp2
        go_ret
        have p1 := HD.out.2.1
        rw [e.out] at p1
        exact ⟨_, _, rfl, rfl, p1, HD.out.2.2.1⟩
    · obtain rfl : k = xs.length := by omega
      have e : Hid (dn = rdue xs now) := by
        have := HD.out.2.2.2
        rw [List.drop_length] at this
        rwa [show rdue [] now = [] from rfl, List.append_nil] at this
      clear hr
      go_wp2
      go_ret
      have p1 := HD.out.2.1
      rw [e.out] at p1
      exact ⟨_, _, rfl, rfl, p1, HD.out.2.2.1⟩
end Go.Proofs.Ytkjjdbbogfjdlaa
