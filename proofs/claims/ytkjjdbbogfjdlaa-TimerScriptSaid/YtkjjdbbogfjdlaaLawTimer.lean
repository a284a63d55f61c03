/-
  The walks of inkhornlaw17: awake, TimerNone.
-/
import Derived.Test.YtkjjdbbogfjdlaaTimerState
namespace Go.Proofs.Ytkjjdbbogfjdlaa
set_option linter.unusedVariables false
set_option linter.unusedSimpArgs false
open Go.RowKit
open HP
/-- Timers of the call's own whose moments are known one by one. -/
structure S0 (W w : World) (g : Nat) (most : Int) (v : Value) (xs : List P2) : Prop where
  bel : Below W.heap.size W w
  tm : Tm w g most v xs
  gb : W.heap.size ≤ g
  vb : ∀ k, v.ownBlock = some k → W.heap.size ≤ k
theorem S0.below {W w w2 : World} {g : Nat} {most : Int} {v : Value} {xs : List P2} (h : S0 W w g most v xs) (hb : Below w.heap.size w w2) : S0 W w2 g most v xs :=
  ⟨h.bel.trans (hb.mono h.bel.size), h.tm.below hb, h.gb, h.vb⟩
theorem set_s0 (W w : World) (g : Nat) (most : Int) (v : Value) (xs ys : List P2) (id x r : Int) (h : S0 W w g most v xs) (hm : xs.length ≤ 999) (hs : setP most xs id x = (r, ys)) :
    Calls Try.prog 10 #[.pointer (some ⟨g, 0, none⟩), .int .i64 id, .int .i64 x] w fun e w' => ∃ w2 v2, e = .returned (.int .i64 r) ∧ w2 = w' ∧ S0 W w2 g most v2 ys := by
  refine (set_any g most v xs id x w h.tm hm).mono fun e w' ⟨w2, v2, he, hw, ht, hmv⟩ => ?_
  rw [hs] at he ht
  refine ⟨w2, v2, he, hw, h.bel.trans (hmv.below_ h.bel.size h.gb h.vb), ht, h.gb, fun k hk => ?_⟩
  rcases hmv.own with e | ⟨b, e, hb⟩
  · exact h.vb k (by rw [← e]; exact hk)
  · rw [e] at hk
    injection hk with hk
    have := h.bel.size
    omega
theorem due_s0 (W w : World) (g : Nat) (most : Int) (v : Value) (xs : List P2) (now : Int) (l : List Int) (n : Nat) (h : S0 W w g most v xs) (hm : xs.length ≤ 999) (hl : dueL xs.length xs now = l) (hn : l.length = n) :
    Calls Try.prog 13 #[.pointer (some ⟨g, 0, none⟩), .int .i64 now] w fun e w' => ∃ w2 A c, e = .returned (.slice A n c) ∧ w2 = w' ∧ S0 W w2 g most v xs ∧ IReads w2 A n l := by
  subst hl; subst hn
  refine (due_any g most v xs now w h.tm (by omega)).mono fun e w' ⟨w2, l, he, hw, hr, hb⟩ => ?_
  obtain ⟨A, c, rfl, _, hI⟩ := own_ireads hr
  exact ⟨w2, A, c, he, hw, h.below hb, hI⟩
theorem sameints_eq (A B : Option Addr) (n m c d : Nat) (xs : List Int) (w : World) (hx : IReads w A n xs) (hy : IReads w B m xs) :
    Calls Try.prog 12 #[.slice A n c, .slice B m d] w fun e w' => ∃ w2, e = .returned (.bool true) ∧ w2 = w' ∧ Below w.heap.size w w2 :=
  (sameints_any A B n m c d xs xs w hx hy).mono fun e w' ⟨he, k, hw⟩ => ⟨w', by rw [he]; simp, rfl, by rw [hw]; exact below_drewN (Below.refl _ _) k⟩
theorem b_alloc (w : World) (o : Obj) : Below w.heap.size w (w.alloc o) := (Below.refl _ _).alloc (Nat.le_refl _) _
set_option maxHeartbeats 2000000 in
theorem awake_any (w : World) : Calls Try.prog 8 #[] w fun e w' => ∃ W, e = .returned (.bool true) ∧ W = w' ∧ Below w.heap.size w W := by
  have tok1 : True := trivial
  have tok2 : True := trivial
  have tok3 : True := trivial
  go_enter Try.func8, Try.ntmps8
  go_wp2_with (first
    | (go_at_call 9; (with_reducible refine (new_ok 3 _ (by omega) (by omega)).mono ?_); rintro e w' ⟨w1, rfl, rfl, t1, b1⟩; have S1 : Hid (S0 w w1 w.heap.size 3 (.slice none 0 0) []) := (S0.mk b1 t1 (Nat.le_refl _) (fun k hk => by simp [Value.ownBlock] at hk)); clear t1 b1)
    | (go_at_call 10; have _t := tok1; (with_reducible refine (set_s0 w _ _ 3 _ [] [(9, 3)] 3 9 0 S1.out (by simp) (by decide)).mono ?_); rintro e w' ⟨w2, v2, rfl, rfl, s2⟩; have S2 := Lib.hid s2; clear s2 tok1)
    | (go_at_call 10; (with_reducible refine (set_s0 w _ _ 3 _ [(9, 3)] [(5, 1), (9, 3)] 1 5 0 S2.out (by simp) (by decide)).mono ?_); rintro e w' ⟨w3, v3, rfl, rfl, s3⟩; have S3 := Lib.hid s3; clear s3)
    | (go_at_call 13; have _t := tok2; (with_reducible refine (due_s0 w _ _ 3 _ [(5, 1), (9, 3)] 5 [1] 1 S3.out (by simp) (by decide) rfl).mono ?_); rintro e w' ⟨w4, A4, c4, rfl, rfl, s4, i4⟩; have S4 := Lib.hid s4; have I4 := Lib.hid i4; clear s4 i4 tok2)
    | (go_at_call 12; have _t := tok3; (refine (sameints_eq A4 _ 1 1 c4 1 [1] _ (I4.out.below (b_alloc _ _)) (ireads_lit w4 [1] 3 (by simp))).mono ?_); rintro e w' ⟨w5, rfl, rfl, b5⟩; have S5 := Lib.hid ((S4.out.below (b_alloc _ _)).below b5); clear b5 tok3)
    | (go_at_call 13; (with_reducible refine (due_s0 w _ _ 3 _ [(5, 1), (9, 3)] 9 [1, 3] 2 S5.out (by simp) (by decide) rfl).mono ?_); rintro e w' ⟨w6, A6, c6, rfl, rfl, s6, i6⟩; have S6 := Lib.hid s6; have I6 := Lib.hid i6; clear s6 i6)
    | (go_at_call 12; (refine (sameints_eq A6 _ 2 2 c6 2 [1, 3] _ (I6.out.below (b_alloc _ _)) (ireads_lit w6 [1, 3] 3 (by simp))).mono ?_); rintro e w' ⟨w7, rfl, rfl, b7⟩; have S7 := Lib.hid ((S6.out.below (b_alloc _ _)).below b7); clear b7)
    | (go_at_call 14; (refine (tlen_any _ 3 _ [(5, 1), (9, 3)] _ S7.out.tm (by simp)).mono ?_); rintro e w' ⟨rfl, rfl⟩))
  go_ret
  exact ⟨_, rfl, rfl, S7.out.bel⟩
end Go.Proofs.Ytkjjdbbogfjdlaa
