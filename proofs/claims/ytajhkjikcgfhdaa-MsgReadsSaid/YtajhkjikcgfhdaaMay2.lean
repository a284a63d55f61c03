/-
  Which Asks may be.
-/
import Derived.Test.YtajhkjikcgfhdaaEql
namespace Go.Proofs.Ytajhkjikcgfhdaa
set_option linter.unusedVariables false
set_option linter.unusedSimpArgs false
set_option maxRecDepth 20000
open Go.RowKit
theorem bcell {W w1 : World} (hb : Below W.heap.size W w1) : (∀ b o, b < W.heap.size → w1.cell? ⟨b, o, none⟩ = W.cell? ⟨b, o, none⟩) ∧ (∀ b o, b < W.heap.size → w1.frozen? ⟨b, o, none⟩ = W.frozen? ⟨b, o, none⟩) :=
  ⟨fun b o h => hb.cell (p := ⟨b, o, none⟩) h, fun b o h => hb.frozen (p := ⟨b, o, none⟩) h⟩
/-- A call that answers v and makes memory alone. -/
def Gives (w : World) (v : Value) (e : Ending) (w' : World) : Prop := ∃ W, e = .returned v ∧ W = w' ∧ Below w.heap.size w W
def zeroItB (d : Int) (s : ByteArray) : Bool := decide (d = 0 ∧ s = ⟨#[]⟩)
def askB (sl q sh sq ep : Int) (t : ByteArray) (k b : Int) (f : Bool) (d : Int) (s : ByteArray) : Bool :=
  (if f then zeroItB d s else itemB d s) && (placeB sl sh && (withinB [q, sq, ep] && (askedB t && (inB k 0 4 && inB b 1 5))))
set_option maxHeartbeats 4000000 in
theorem ask_false (sl q sh sq ep : Int) (t : ByteArray) (k b : Int) (d : Int) (s : ByteArray) (w : World) (ht : t.size ≤ 9223372036854775000) (hs : s.size ≤ 9223372036854775000) :
    Calls Try.prog 46 #[.agg #[.int .i64 sl, .int .i64 q, .int .i64 sh, .int .i64 sq, .int .i64 ep, .string t, .int .i64 k, .int .i64 b, .bool false, .int .i64 d, .string s]] w (Gives w (.bool (askB sl q sh sq ep t k b false d s))) := by
  obtain ⟨it, hi⟩ : ∃ x, itemB d s = x := ⟨_, rfl⟩
  obtain ⟨p, hp⟩ : ∃ x, placeB sl sh = x := ⟨_, rfl⟩
  obtain ⟨wi, hw⟩ : ∃ x, withinB [q, sq, ep] = x := ⟨_, rfl⟩
  obtain ⟨as_, ha⟩ : ∃ x, askedB t = x := ⟨_, rfl⟩
  have HI := Lib.hid hi
  have HP := Lib.hid hp
  have HW := Lib.hid hw
  have HA := Lib.hid ha
  have hE : askB sl q sh sq ep t k b false d s = (it && (p && (wi && (as_ && (inB k 0 4 && inB b 1 5))))) := by unfold askB; rw [hp, hw, ha, ← hi]; rfl
  rw [hE]
  clear hE hi hp hw ha
  cases it with
  | false =>
    rw [Bool.false_and]
    go_enter Try.func46, Try.ntmps46
    go_wp2_with (first
      | (go_at_call 66; (with_reducible refine (item_any _ _ _ hs).mono ?_); rintro e w' ⟨w1, rfl, rfl, b1⟩; rw [HI.out]; obtain ⟨hc1, hf1⟩ := bcell b1; have hz1 : w.heap.size < w1.heap.size := by have := b1.size; simp at this; omega)
      | (go_at_call 48; (with_reducible refine (place_any _ _ _).mono ?_); rintro e w' ⟨rfl, rfl⟩; rw [HP.out])
      | (go_at_call 45; (with_reducible refine (within_any _ _ _ [q, sq, ep] _ (nreads3 _ _ _ _ _)).mono ?_); rintro e w' ⟨rfl, rfl⟩; rw [HW.out])
      | (go_at_call 67; (with_reducible refine (textAsked_any _ _ ht).mono ?_); rintro e w' ⟨w2, rfl, rfl, b2⟩; rw [HA.out]; obtain ⟨hc2, hf2⟩ := bcell b2; have hz2 : w1.heap.size < w2.heap.size := by have := b2.size; simp at this; omega))
    go_ret
    exact ⟨_, rfl, rfl, bel2 (bel_alloc _ _) b1⟩
  | true =>
    rw [Bool.true_and]
    cases p with
    | false =>
      rw [Bool.false_and]
      go_enter Try.func46, Try.ntmps46
      go_wp2_with (first
        | (go_at_call 66; (with_reducible refine (item_any _ _ _ hs).mono ?_); rintro e w' ⟨w1, rfl, rfl, b1⟩; rw [HI.out]; obtain ⟨hc1, hf1⟩ := bcell b1; have hz1 : w.heap.size < w1.heap.size := by have := b1.size; simp at this; omega)
        | (go_at_call 48; (with_reducible refine (place_any _ _ _).mono ?_); rintro e w' ⟨rfl, rfl⟩; rw [HP.out])
        | (go_at_call 45; (with_reducible refine (within_any _ _ _ [q, sq, ep] _ (nreads3 _ _ _ _ _)).mono ?_); rintro e w' ⟨rfl, rfl⟩; rw [HW.out])
        | (go_at_call 67; (with_reducible refine (textAsked_any _ _ ht).mono ?_); rintro e w' ⟨w2, rfl, rfl, b2⟩; rw [HA.out]; obtain ⟨hc2, hf2⟩ := bcell b2; have hz2 : w1.heap.size < w2.heap.size := by have := b2.size; simp at this; omega))
      go_ret
      exact ⟨_, rfl, rfl, bel2 (bel_alloc _ _) b1⟩
    | true =>
      rw [Bool.true_and]
      cases wi with
      | false =>
        rw [Bool.false_and]
        go_enter Try.func46, Try.ntmps46
        go_wp2_with (first
          | (go_at_call 66; (with_reducible refine (item_any _ _ _ hs).mono ?_); rintro e w' ⟨w1, rfl, rfl, b1⟩; rw [HI.out]; obtain ⟨hc1, hf1⟩ := bcell b1; have hz1 : w.heap.size < w1.heap.size := by have := b1.size; simp at this; omega)
          | (go_at_call 48; (with_reducible refine (place_any _ _ _).mono ?_); rintro e w' ⟨rfl, rfl⟩; rw [HP.out])
          | (go_at_call 45; (with_reducible refine (within_any _ _ _ [q, sq, ep] _ (nreads3 _ _ _ _ _)).mono ?_); rintro e w' ⟨rfl, rfl⟩; rw [HW.out])
          | (go_at_call 67; (with_reducible refine (textAsked_any _ _ ht).mono ?_); rintro e w' ⟨w2, rfl, rfl, b2⟩; rw [HA.out]; obtain ⟨hc2, hf2⟩ := bcell b2; have hz2 : w1.heap.size < w2.heap.size := by have := b2.size; simp at this; omega))
        go_ret
        exact ⟨_, rfl, rfl, bel2 (bel2 (bel_alloc _ _) b1) (bel_alloc _ _)⟩
      | true =>
        rw [Bool.true_and]
        cases as_ with
        | false =>
          rw [Bool.false_and]
          go_enter Try.func46, Try.ntmps46
          go_wp2_with (first
            | (go_at_call 66; (with_reducible refine (item_any _ _ _ hs).mono ?_); rintro e w' ⟨w1, rfl, rfl, b1⟩; rw [HI.out]; obtain ⟨hc1, hf1⟩ := bcell b1; have hz1 : w.heap.size < w1.heap.size := by have := b1.size; simp at this; omega)
            | (go_at_call 48; (with_reducible refine (place_any _ _ _).mono ?_); rintro e w' ⟨rfl, rfl⟩; rw [HP.out])
            | (go_at_call 45; (with_reducible refine (within_any _ _ _ [q, sq, ep] _ (nreads3 _ _ _ _ _)).mono ?_); rintro e w' ⟨rfl, rfl⟩; rw [HW.out])
            | (go_at_call 67; (with_reducible refine (textAsked_any _ _ ht).mono ?_); rintro e w' ⟨w2, rfl, rfl, b2⟩; rw [HA.out]; obtain ⟨hc2, hf2⟩ := bcell b2; have hz2 : w1.heap.size < w2.heap.size := by have := b2.size; simp at this; omega))
          go_ret
          exact ⟨_, rfl, rfl, bel2 (bel2 (bel2 (bel_alloc _ _) b1) (bel_alloc _ _)) b2⟩
        | true =>
          rw [Bool.true_and]
          by_cases k0 : 0 ≤ k
          · by_cases k1 : k ≤ 4
            · by_cases k2 : 1 ≤ b
              · rw [inB_yes k0, inB_yes k2, decide_eq_true k1, Bool.true_and]
                go_enter Try.func46, Try.ntmps46
                go_wp2_with (first
                  | (go_at_call 66; (with_reducible refine (item_any _ _ _ hs).mono ?_); rintro e w' ⟨w1, rfl, rfl, b1⟩; rw [HI.out]; obtain ⟨hc1, hf1⟩ := bcell b1; have hz1 : w.heap.size < w1.heap.size := by have := b1.size; simp at this; omega)
                  | (go_at_call 48; (with_reducible refine (place_any _ _ _).mono ?_); rintro e w' ⟨rfl, rfl⟩; rw [HP.out])
                  | (go_at_call 45; (with_reducible refine (within_any _ _ _ [q, sq, ep] _ (nreads3 _ _ _ _ _)).mono ?_); rintro e w' ⟨rfl, rfl⟩; rw [HW.out])
                  | (go_at_call 67; (with_reducible refine (textAsked_any _ _ ht).mono ?_); rintro e w' ⟨w2, rfl, rfl, b2⟩; rw [HA.out]; obtain ⟨hc2, hf2⟩ := bcell b2; have hz2 : w1.heap.size < w2.heap.size := by have := b2.size; simp at this; omega))
                go_ret
                exact ⟨_, rfl, rfl, bel2 (bel2 (bel2 (bel_alloc _ _) b1) (bel_alloc _ _)) b2⟩
              · have k2' : decide (1 ≤ b) = false := decide_eq_false k2
                rw [inB_no k2, Bool.and_false]
                go_enter Try.func46, Try.ntmps46
                go_wp2_with (first
                  | (go_at_call 66; (with_reducible refine (item_any _ _ _ hs).mono ?_); rintro e w' ⟨w1, rfl, rfl, b1⟩; rw [HI.out]; obtain ⟨hc1, hf1⟩ := bcell b1; have hz1 : w.heap.size < w1.heap.size := by have := b1.size; simp at this; omega)
                  | (go_at_call 48; (with_reducible refine (place_any _ _ _).mono ?_); rintro e w' ⟨rfl, rfl⟩; rw [HP.out])
                  | (go_at_call 45; (with_reducible refine (within_any _ _ _ [q, sq, ep] _ (nreads3 _ _ _ _ _)).mono ?_); rintro e w' ⟨rfl, rfl⟩; rw [HW.out])
                  | (go_at_call 67; (with_reducible refine (textAsked_any _ _ ht).mono ?_); rintro e w' ⟨w2, rfl, rfl, b2⟩; rw [HA.out]; obtain ⟨hc2, hf2⟩ := bcell b2; have hz2 : w1.heap.size < w2.heap.size := by have := b2.size; simp at this; omega))
                go_ret
                exact ⟨_, rfl, rfl, bel2 (bel2 (bel2 (bel_alloc _ _) b1) (bel_alloc _ _)) b2⟩
            · have k1' : decide (k ≤ 4) = false := decide_eq_false k1
              rw [inB_yes k0, k1', Bool.false_and]
              go_enter Try.func46, Try.ntmps46
              go_wp2_with (first
                | (go_at_call 66; (with_reducible refine (item_any _ _ _ hs).mono ?_); rintro e w' ⟨w1, rfl, rfl, b1⟩; rw [HI.out]; obtain ⟨hc1, hf1⟩ := bcell b1; have hz1 : w.heap.size < w1.heap.size := by have := b1.size; simp at this; omega)
                | (go_at_call 48; (with_reducible refine (place_any _ _ _).mono ?_); rintro e w' ⟨rfl, rfl⟩; rw [HP.out])
                | (go_at_call 45; (with_reducible refine (within_any _ _ _ [q, sq, ep] _ (nreads3 _ _ _ _ _)).mono ?_); rintro e w' ⟨rfl, rfl⟩; rw [HW.out])
                | (go_at_call 67; (with_reducible refine (textAsked_any _ _ ht).mono ?_); rintro e w' ⟨w2, rfl, rfl, b2⟩; rw [HA.out]; obtain ⟨hc2, hf2⟩ := bcell b2; have hz2 : w1.heap.size < w2.heap.size := by have := b2.size; simp at this; omega))
              go_ret
              exact ⟨_, rfl, rfl, bel2 (bel2 (bel2 (bel_alloc _ _) b1) (bel_alloc _ _)) b2⟩
          · have k0' : decide (0 ≤ k) = false := decide_eq_false k0
            rw [inB_no k0, Bool.false_and]
            go_enter Try.func46, Try.ntmps46
            go_wp2_with (first
              | (go_at_call 66; (with_reducible refine (item_any _ _ _ hs).mono ?_); rintro e w' ⟨w1, rfl, rfl, b1⟩; rw [HI.out]; obtain ⟨hc1, hf1⟩ := bcell b1; have hz1 : w.heap.size < w1.heap.size := by have := b1.size; simp at this; omega)
              | (go_at_call 48; (with_reducible refine (place_any _ _ _).mono ?_); rintro e w' ⟨rfl, rfl⟩; rw [HP.out])
              | (go_at_call 45; (with_reducible refine (within_any _ _ _ [q, sq, ep] _ (nreads3 _ _ _ _ _)).mono ?_); rintro e w' ⟨rfl, rfl⟩; rw [HW.out])
              | (go_at_call 67; (with_reducible refine (textAsked_any _ _ ht).mono ?_); rintro e w' ⟨w2, rfl, rfl, b2⟩; rw [HA.out]; obtain ⟨hc2, hf2⟩ := bcell b2; have hz2 : w1.heap.size < w2.heap.size := by have := b2.size; simp at this; omega))
            go_ret
            exact ⟨_, rfl, rfl, bel2 (bel2 (bel2 (bel_alloc _ _) b1) (bel_alloc _ _)) b2⟩
set_option maxHeartbeats 4000000 in
theorem ask_true (sl q sh sq ep : Int) (t : ByteArray) (k b : Int) (d : Int) (s : ByteArray) (w : World) (ht : t.size ≤ 9223372036854775000) (hs : s.size ≤ 9223372036854775000) :
    Calls Try.prog 46 #[.agg #[.int .i64 sl, .int .i64 q, .int .i64 sh, .int .i64 sq, .int .i64 ep, .string t, .int .i64 k, .int .i64 b, .bool true, .int .i64 d, .string s]] w (Gives w (.bool (askB sl q sh sq ep t k b true d s))) := by
  obtain ⟨it, hi⟩ : ∃ x, itemB d s = x := ⟨_, rfl⟩
  obtain ⟨p, hp⟩ : ∃ x, placeB sl sh = x := ⟨_, rfl⟩
  obtain ⟨wi, hw⟩ : ∃ x, withinB [q, sq, ep] = x := ⟨_, rfl⟩
  obtain ⟨as_, ha⟩ : ∃ x, askedB t = x := ⟨_, rfl⟩
  have HI := Lib.hid hi
  have HP := Lib.hid hp
  have HW := Lib.hid hw
  have HA := Lib.hid ha
  obtain ⟨z, hz⟩ : ∃ x, zeroItB d s = x := ⟨_, rfl⟩
  have he : ∀ w, (binOp .eql 27 (.agg #[.int .i64 d, .string s]) (.agg #[.int .i64 0, .string ⟨#[]⟩])).run Try.prog w = .ok (.bool z) w := fun w => by
    rw [← hz]; exact eql_item d 0 s ⟨#[]⟩ w
  have hE : askB sl q sh sq ep t k b true d s = (z && (p && (wi && (as_ && (inB k 0 4 && inB b 1 5))))) := by unfold askB; rw [hp, hw, ha, ← hz]; rfl
  rw [hE]
  clear hE hi hp hw ha hz
  cases z with
  | false =>
    rw [Bool.false_and]
    go_enter Try.func46, Try.ntmps46
    go_wp2_with (first
      | (go_at_call 66; (with_reducible refine (item_any _ _ _ hs).mono ?_); rintro e w' ⟨w1, rfl, rfl, b1⟩; rw [HI.out]; obtain ⟨hc1, hf1⟩ := bcell b1; have hz1 : w.heap.size < w1.heap.size := by have := b1.size; simp at this; omega)
      | (go_at_call 48; (with_reducible refine (place_any _ _ _).mono ?_); rintro e w' ⟨rfl, rfl⟩; rw [HP.out])
      | (go_at_call 45; (with_reducible refine (within_any _ _ _ [q, sq, ep] _ (nreads3 _ _ _ _ _)).mono ?_); rintro e w' ⟨rfl, rfl⟩; rw [HW.out])
      | (go_at_call 67; (with_reducible refine (textAsked_any _ _ ht).mono ?_); rintro e w' ⟨w2, rfl, rfl, b2⟩; rw [HA.out]; obtain ⟨hc2, hf2⟩ := bcell b2; have hz2 : w1.heap.size < w2.heap.size := by have := b2.size; simp at this; omega))
    go_ret
    exact ⟨_, rfl, rfl, bel2 (bel_alloc _ _) b1⟩
  | true =>
    rw [Bool.true_and]
    cases p with
    | false =>
      rw [Bool.false_and]
      go_enter Try.func46, Try.ntmps46
      go_wp2_with (first
        | (go_at_call 66; (with_reducible refine (item_any _ _ _ hs).mono ?_); rintro e w' ⟨w1, rfl, rfl, b1⟩; rw [HI.out]; obtain ⟨hc1, hf1⟩ := bcell b1; have hz1 : w.heap.size < w1.heap.size := by have := b1.size; simp at this; omega)
        | (go_at_call 48; (with_reducible refine (place_any _ _ _).mono ?_); rintro e w' ⟨rfl, rfl⟩; rw [HP.out])
        | (go_at_call 45; (with_reducible refine (within_any _ _ _ [q, sq, ep] _ (nreads3 _ _ _ _ _)).mono ?_); rintro e w' ⟨rfl, rfl⟩; rw [HW.out])
        | (go_at_call 67; (with_reducible refine (textAsked_any _ _ ht).mono ?_); rintro e w' ⟨w2, rfl, rfl, b2⟩; rw [HA.out]; obtain ⟨hc2, hf2⟩ := bcell b2; have hz2 : w1.heap.size < w2.heap.size := by have := b2.size; simp at this; omega))
      go_ret
      exact ⟨_, rfl, rfl, bel2 (bel_alloc _ _) b1⟩
    | true =>
      rw [Bool.true_and]
      cases wi with
      | false =>
        rw [Bool.false_and]
        go_enter Try.func46, Try.ntmps46
        go_wp2_with (first
          | (go_at_call 66; (with_reducible refine (item_any _ _ _ hs).mono ?_); rintro e w' ⟨w1, rfl, rfl, b1⟩; rw [HI.out]; obtain ⟨hc1, hf1⟩ := bcell b1; have hz1 : w.heap.size < w1.heap.size := by have := b1.size; simp at this; omega)
          | (go_at_call 48; (with_reducible refine (place_any _ _ _).mono ?_); rintro e w' ⟨rfl, rfl⟩; rw [HP.out])
          | (go_at_call 45; (with_reducible refine (within_any _ _ _ [q, sq, ep] _ (nreads3 _ _ _ _ _)).mono ?_); rintro e w' ⟨rfl, rfl⟩; rw [HW.out])
          | (go_at_call 67; (with_reducible refine (textAsked_any _ _ ht).mono ?_); rintro e w' ⟨w2, rfl, rfl, b2⟩; rw [HA.out]; obtain ⟨hc2, hf2⟩ := bcell b2; have hz2 : w1.heap.size < w2.heap.size := by have := b2.size; simp at this; omega))
        go_ret
        exact ⟨_, rfl, rfl, bel2 (bel2 (bel_alloc _ _) b1) (bel_alloc _ _)⟩
      | true =>
        rw [Bool.true_and]
        cases as_ with
        | false =>
          rw [Bool.false_and]
          go_enter Try.func46, Try.ntmps46
          go_wp2_with (first
            | (go_at_call 66; (with_reducible refine (item_any _ _ _ hs).mono ?_); rintro e w' ⟨w1, rfl, rfl, b1⟩; rw [HI.out]; obtain ⟨hc1, hf1⟩ := bcell b1; have hz1 : w.heap.size < w1.heap.size := by have := b1.size; simp at this; omega)
            | (go_at_call 48; (with_reducible refine (place_any _ _ _).mono ?_); rintro e w' ⟨rfl, rfl⟩; rw [HP.out])
            | (go_at_call 45; (with_reducible refine (within_any _ _ _ [q, sq, ep] _ (nreads3 _ _ _ _ _)).mono ?_); rintro e w' ⟨rfl, rfl⟩; rw [HW.out])
            | (go_at_call 67; (with_reducible refine (textAsked_any _ _ ht).mono ?_); rintro e w' ⟨w2, rfl, rfl, b2⟩; rw [HA.out]; obtain ⟨hc2, hf2⟩ := bcell b2; have hz2 : w1.heap.size < w2.heap.size := by have := b2.size; simp at this; omega))
          go_ret
          exact ⟨_, rfl, rfl, bel2 (bel2 (bel2 (bel_alloc _ _) b1) (bel_alloc _ _)) b2⟩
        | true =>
          rw [Bool.true_and]
          by_cases k0 : 0 ≤ k
          · by_cases k1 : k ≤ 4
            · by_cases k2 : 1 ≤ b
              · rw [inB_yes k0, inB_yes k2, decide_eq_true k1, Bool.true_and]
                go_enter Try.func46, Try.ntmps46
                go_wp2_with (first
                  | (go_at_call 66; (with_reducible refine (item_any _ _ _ hs).mono ?_); rintro e w' ⟨w1, rfl, rfl, b1⟩; rw [HI.out]; obtain ⟨hc1, hf1⟩ := bcell b1; have hz1 : w.heap.size < w1.heap.size := by have := b1.size; simp at this; omega)
                  | (go_at_call 48; (with_reducible refine (place_any _ _ _).mono ?_); rintro e w' ⟨rfl, rfl⟩; rw [HP.out])
                  | (go_at_call 45; (with_reducible refine (within_any _ _ _ [q, sq, ep] _ (nreads3 _ _ _ _ _)).mono ?_); rintro e w' ⟨rfl, rfl⟩; rw [HW.out])
                  | (go_at_call 67; (with_reducible refine (textAsked_any _ _ ht).mono ?_); rintro e w' ⟨w2, rfl, rfl, b2⟩; rw [HA.out]; obtain ⟨hc2, hf2⟩ := bcell b2; have hz2 : w1.heap.size < w2.heap.size := by have := b2.size; simp at this; omega))
                go_ret
                exact ⟨_, rfl, rfl, bel2 (bel2 (bel2 (bel_alloc _ _) b1) (bel_alloc _ _)) b2⟩
              · have k2' : decide (1 ≤ b) = false := decide_eq_false k2
                rw [inB_no k2, Bool.and_false]
                go_enter Try.func46, Try.ntmps46
                go_wp2_with (first
                  | (go_at_call 66; (with_reducible refine (item_any _ _ _ hs).mono ?_); rintro e w' ⟨w1, rfl, rfl, b1⟩; rw [HI.out]; obtain ⟨hc1, hf1⟩ := bcell b1; have hz1 : w.heap.size < w1.heap.size := by have := b1.size; simp at this; omega)
                  | (go_at_call 48; (with_reducible refine (place_any _ _ _).mono ?_); rintro e w' ⟨rfl, rfl⟩; rw [HP.out])
                  | (go_at_call 45; (with_reducible refine (within_any _ _ _ [q, sq, ep] _ (nreads3 _ _ _ _ _)).mono ?_); rintro e w' ⟨rfl, rfl⟩; rw [HW.out])
                  | (go_at_call 67; (with_reducible refine (textAsked_any _ _ ht).mono ?_); rintro e w' ⟨w2, rfl, rfl, b2⟩; rw [HA.out]; obtain ⟨hc2, hf2⟩ := bcell b2; have hz2 : w1.heap.size < w2.heap.size := by have := b2.size; simp at this; omega))
                go_ret
                exact ⟨_, rfl, rfl, bel2 (bel2 (bel2 (bel_alloc _ _) b1) (bel_alloc _ _)) b2⟩
            · have k1' : decide (k ≤ 4) = false := decide_eq_false k1
              rw [inB_yes k0, k1', Bool.false_and]
              go_enter Try.func46, Try.ntmps46
              go_wp2_with (first
                | (go_at_call 66; (with_reducible refine (item_any _ _ _ hs).mono ?_); rintro e w' ⟨w1, rfl, rfl, b1⟩; rw [HI.out]; obtain ⟨hc1, hf1⟩ := bcell b1; have hz1 : w.heap.size < w1.heap.size := by have := b1.size; simp at this; omega)
                | (go_at_call 48; (with_reducible refine (place_any _ _ _).mono ?_); rintro e w' ⟨rfl, rfl⟩; rw [HP.out])
                | (go_at_call 45; (with_reducible refine (within_any _ _ _ [q, sq, ep] _ (nreads3 _ _ _ _ _)).mono ?_); rintro e w' ⟨rfl, rfl⟩; rw [HW.out])
                | (go_at_call 67; (with_reducible refine (textAsked_any _ _ ht).mono ?_); rintro e w' ⟨w2, rfl, rfl, b2⟩; rw [HA.out]; obtain ⟨hc2, hf2⟩ := bcell b2; have hz2 : w1.heap.size < w2.heap.size := by have := b2.size; simp at this; omega))
              go_ret
              exact ⟨_, rfl, rfl, bel2 (bel2 (bel2 (bel_alloc _ _) b1) (bel_alloc _ _)) b2⟩
          · have k0' : decide (0 ≤ k) = false := decide_eq_false k0
            rw [inB_no k0, Bool.false_and]
            go_enter Try.func46, Try.ntmps46
            go_wp2_with (first
              | (go_at_call 66; (with_reducible refine (item_any _ _ _ hs).mono ?_); rintro e w' ⟨w1, rfl, rfl, b1⟩; rw [HI.out]; obtain ⟨hc1, hf1⟩ := bcell b1; have hz1 : w.heap.size < w1.heap.size := by have := b1.size; simp at this; omega)
              | (go_at_call 48; (with_reducible refine (place_any _ _ _).mono ?_); rintro e w' ⟨rfl, rfl⟩; rw [HP.out])
              | (go_at_call 45; (with_reducible refine (within_any _ _ _ [q, sq, ep] _ (nreads3 _ _ _ _ _)).mono ?_); rintro e w' ⟨rfl, rfl⟩; rw [HW.out])
              | (go_at_call 67; (with_reducible refine (textAsked_any _ _ ht).mono ?_); rintro e w' ⟨w2, rfl, rfl, b2⟩; rw [HA.out]; obtain ⟨hc2, hf2⟩ := bcell b2; have hz2 : w1.heap.size < w2.heap.size := by have := b2.size; simp at this; omega))
            go_ret
            exact ⟨_, rfl, rfl, bel2 (bel2 (bel2 (bel_alloc _ _) b1) (bel_alloc _ _)) b2⟩
theorem ask_any (sl q sh sq ep : Int) (t : ByteArray) (k b : Int) (f : Bool) (d : Int) (s : ByteArray) (w : World) (ht : t.size ≤ 9223372036854775000) (hs : s.size ≤ 9223372036854775000) :
    Calls Try.prog 46 #[.agg #[.int .i64 sl, .int .i64 q, .int .i64 sh, .int .i64 sq, .int .i64 ep, .string t, .int .i64 k, .int .i64 b, .bool f, .int .i64 d, .string s]] w (Gives w (.bool (askB sl q sh sq ep t k b f d s))) := by
  cases f
  · exact ask_false sl q sh sq ep t k b d s w ht hs
  · exact ask_true sl q sh sq ep t k b d s w ht hs
end Go.Proofs.Ytajhkjikcgfhdaa
