/-
  Which Asks may be: the document's answer.
-/
import Derived.Test.YtajhkjikcgfhdaaMay2
namespace Go.Proofs.Ytajhkjikcgfhdaa
set_option linter.unusedVariables false
set_option linter.unusedSimpArgs false
set_option maxRecDepth 20000
open Go.RowKit
set_option maxHeartbeats 4000000 in
theorem mayAsk_false (sl q sh sq ep : Int) (t : ByteArray) (k b : Int) (d : Int) (s : ByteArray) (w : World) (ht : t.size ≤ 1000000) (hs : s.size ≤ 1000000) :
    Calls Try.prog 51 #[.agg #[.int .i64 sl, .int .i64 q, .int .i64 sh, .int .i64 sq, .int .i64 ep, .string t, .int .i64 k, .int .i64 b, .bool false, .int .i64 d, .string s]] w (Gives w (.bool (askB sl q sh sq ep t k b false d s))) := by
  have R0 : Hid (NReads ((w.alloc (.cells #[.int .i64 sl, .int .i64 q, .int .i64 sh, .int .i64 sq, .int .i64 ep, .string t, .int .i64 k, .int .i64 b, .bool false, .int .i64 d, .string s] 29)).alloc (.cells #[.int .i64 q, .int .i64 sq, .int .i64 ep] 3)) (some ⟨w.heap.size + 1, 0, none⟩) 3 [q, sq, ep]) := by
    have := nreads3 (w.alloc (.cells #[.int .i64 sl, .int .i64 q, .int .i64 sh, .int .i64 sq, .int .i64 ep, .string t, .int .i64 k, .int .i64 b, .bool false, .int .i64 d, .string s] 29)) q sq ep 3
    rwa [show (w.alloc (.cells #[.int .i64 sl, .int .i64 q, .int .i64 sh, .int .i64 sq, .int .i64 ep, .string t, .int .i64 k, .int .i64 b, .bool false, .int .i64 d, .string s] 29)).heap.size = w.heap.size + 1 by simp] at this
  obtain ⟨wi, hw⟩ : ∃ x, withinB [q, sq, ep] = x := ⟨_, rfl⟩
  obtain ⟨p1, h1⟩ : ∃ x, inB sl 0 3 = x := ⟨_, rfl⟩
  obtain ⟨p2, h2⟩ : ∃ x, inB sh 0 5 = x := ⟨_, rfl⟩
  obtain ⟨kk, h3⟩ : ∃ x, inB k 0 4 = x := ⟨_, rfl⟩
  obtain ⟨bb, h4⟩ : ∃ x, inB b 1 5 = x := ⟨_, rfl⟩
  obtain ⟨as_, ha⟩ : ∃ x, askedB t = x := ⟨_, rfl⟩
  have HW := Lib.hid hw
  have HA := Lib.hid ha
  have H1 := Lib.hid h1
  have H2 := Lib.hid h2
  have H3 := Lib.hid h3
  have H4 := Lib.hid h4
  have hE : askB sl q sh sq ep t k b false d s = (itemB d s && ((p1 && p2) && (wi && (as_ && (kk && bb))))) := by unfold askB placeB; rw [h1, h2, h3, h4, hw, ha]; rfl
  rw [hE]
  clear hE h1 h2 h3 h4 hw ha
  cases wi with
  | false =>
    simp only [Bool.and_false, Bool.false_and, Bool.true_and, Bool.and_true]
    go_enter Try.func51, Try.ntmps51
    go_wp2_with (first
      | (go_at_call 50; (with_reducible refine (nums_any _ _ _ [q, sq, ep] _ R0.out).mono ?_); rintro e w' ⟨rfl, rfl⟩; rw [HW.out])
      | (go_at_call 49; (with_reducible refine (in_any sl _ _ _).mono ?_); rintro e w' ⟨rfl, rfl⟩; rw [H1.out])
      | (go_at_call 49; (with_reducible refine (in_any sh _ _ _).mono ?_); rintro e w' ⟨rfl, rfl⟩; rw [H2.out])
      | (go_at_call 49; (with_reducible refine (in_any k _ _ _).mono ?_); rintro e w' ⟨rfl, rfl⟩; rw [H3.out])
      | (go_at_call 49; (with_reducible refine (in_any b _ _ _).mono ?_); rintro e w' ⟨rfl, rfl⟩; rw [H4.out])
      | (go_at_call 69; (with_reducible refine (refAsked_any _ _ ht).mono ?_); rintro e w' ⟨w2, rfl, rfl, b2⟩; rw [HA.out]; obtain ⟨hc2, hf2⟩ := bcell b2; have hz2 : w.heap.size + 1 < w2.heap.size := by have := b2.size; simp at this; omega)
      | (go_at_call 70; (with_reducible refine (refitem_any _ _ _ hs).mono ?_); rintro e w' ⟨w3, rfl, rfl, b3⟩))
    go_ret
    exact ⟨_, rfl, rfl, bel2 (bel_alloc _ _) (bel_alloc _ _)⟩
  | true =>
    cases p1 with
    | false =>
      simp only [Bool.and_false, Bool.false_and, Bool.true_and, Bool.and_true]
      go_enter Try.func51, Try.ntmps51
      go_wp2_with (first
        | (go_at_call 50; (with_reducible refine (nums_any _ _ _ [q, sq, ep] _ R0.out).mono ?_); rintro e w' ⟨rfl, rfl⟩; rw [HW.out])
        | (go_at_call 49; (with_reducible refine (in_any sl _ _ _).mono ?_); rintro e w' ⟨rfl, rfl⟩; rw [H1.out])
        | (go_at_call 49; (with_reducible refine (in_any sh _ _ _).mono ?_); rintro e w' ⟨rfl, rfl⟩; rw [H2.out])
        | (go_at_call 49; (with_reducible refine (in_any k _ _ _).mono ?_); rintro e w' ⟨rfl, rfl⟩; rw [H3.out])
        | (go_at_call 49; (with_reducible refine (in_any b _ _ _).mono ?_); rintro e w' ⟨rfl, rfl⟩; rw [H4.out])
        | (go_at_call 69; (with_reducible refine (refAsked_any _ _ ht).mono ?_); rintro e w' ⟨w2, rfl, rfl, b2⟩; rw [HA.out]; obtain ⟨hc2, hf2⟩ := bcell b2; have hz2 : w.heap.size + 1 < w2.heap.size := by have := b2.size; simp at this; omega)
        | (go_at_call 70; (with_reducible refine (refitem_any _ _ _ hs).mono ?_); rintro e w' ⟨w3, rfl, rfl, b3⟩))
      go_ret
      exact ⟨_, rfl, rfl, bel2 (bel_alloc _ _) (bel_alloc _ _)⟩
    | true =>
      cases p2 with
      | false =>
        simp only [Bool.and_false, Bool.false_and, Bool.true_and, Bool.and_true]
        go_enter Try.func51, Try.ntmps51
        go_wp2_with (first
          | (go_at_call 50; (with_reducible refine (nums_any _ _ _ [q, sq, ep] _ R0.out).mono ?_); rintro e w' ⟨rfl, rfl⟩; rw [HW.out])
          | (go_at_call 49; (with_reducible refine (in_any sl _ _ _).mono ?_); rintro e w' ⟨rfl, rfl⟩; rw [H1.out])
          | (go_at_call 49; (with_reducible refine (in_any sh _ _ _).mono ?_); rintro e w' ⟨rfl, rfl⟩; rw [H2.out])
          | (go_at_call 49; (with_reducible refine (in_any k _ _ _).mono ?_); rintro e w' ⟨rfl, rfl⟩; rw [H3.out])
          | (go_at_call 49; (with_reducible refine (in_any b _ _ _).mono ?_); rintro e w' ⟨rfl, rfl⟩; rw [H4.out])
          | (go_at_call 69; (with_reducible refine (refAsked_any _ _ ht).mono ?_); rintro e w' ⟨w2, rfl, rfl, b2⟩; rw [HA.out]; obtain ⟨hc2, hf2⟩ := bcell b2; have hz2 : w.heap.size + 1 < w2.heap.size := by have := b2.size; simp at this; omega)
          | (go_at_call 70; (with_reducible refine (refitem_any _ _ _ hs).mono ?_); rintro e w' ⟨w3, rfl, rfl, b3⟩))
        go_ret
        exact ⟨_, rfl, rfl, bel2 (bel_alloc _ _) (bel_alloc _ _)⟩
      | true =>
        cases kk with
        | false =>
          simp only [Bool.and_false, Bool.false_and, Bool.true_and, Bool.and_true]
          go_enter Try.func51, Try.ntmps51
          go_wp2_with (first
            | (go_at_call 50; (with_reducible refine (nums_any _ _ _ [q, sq, ep] _ R0.out).mono ?_); rintro e w' ⟨rfl, rfl⟩; rw [HW.out])
            | (go_at_call 49; (with_reducible refine (in_any sl _ _ _).mono ?_); rintro e w' ⟨rfl, rfl⟩; rw [H1.out])
            | (go_at_call 49; (with_reducible refine (in_any sh _ _ _).mono ?_); rintro e w' ⟨rfl, rfl⟩; rw [H2.out])
            | (go_at_call 49; (with_reducible refine (in_any k _ _ _).mono ?_); rintro e w' ⟨rfl, rfl⟩; rw [H3.out])
            | (go_at_call 49; (with_reducible refine (in_any b _ _ _).mono ?_); rintro e w' ⟨rfl, rfl⟩; rw [H4.out])
            | (go_at_call 69; (with_reducible refine (refAsked_any _ _ ht).mono ?_); rintro e w' ⟨w2, rfl, rfl, b2⟩; rw [HA.out]; obtain ⟨hc2, hf2⟩ := bcell b2; have hz2 : w.heap.size + 1 < w2.heap.size := by have := b2.size; simp at this; omega)
            | (go_at_call 70; (with_reducible refine (refitem_any _ _ _ hs).mono ?_); rintro e w' ⟨w3, rfl, rfl, b3⟩))
          go_ret
          exact ⟨_, rfl, rfl, bel2 (bel_alloc _ _) (bel_alloc _ _)⟩
        | true =>
          cases bb with
          | false =>
            simp only [Bool.and_false, Bool.false_and, Bool.true_and, Bool.and_true]
            go_enter Try.func51, Try.ntmps51
            go_wp2_with (first
              | (go_at_call 50; (with_reducible refine (nums_any _ _ _ [q, sq, ep] _ R0.out).mono ?_); rintro e w' ⟨rfl, rfl⟩; rw [HW.out])
              | (go_at_call 49; (with_reducible refine (in_any sl _ _ _).mono ?_); rintro e w' ⟨rfl, rfl⟩; rw [H1.out])
              | (go_at_call 49; (with_reducible refine (in_any sh _ _ _).mono ?_); rintro e w' ⟨rfl, rfl⟩; rw [H2.out])
              | (go_at_call 49; (with_reducible refine (in_any k _ _ _).mono ?_); rintro e w' ⟨rfl, rfl⟩; rw [H3.out])
              | (go_at_call 49; (with_reducible refine (in_any b _ _ _).mono ?_); rintro e w' ⟨rfl, rfl⟩; rw [H4.out])
              | (go_at_call 69; (with_reducible refine (refAsked_any _ _ ht).mono ?_); rintro e w' ⟨w2, rfl, rfl, b2⟩; rw [HA.out]; obtain ⟨hc2, hf2⟩ := bcell b2; have hz2 : w.heap.size + 1 < w2.heap.size := by have := b2.size; simp at this; omega)
              | (go_at_call 70; (with_reducible refine (refitem_any _ _ _ hs).mono ?_); rintro e w' ⟨w3, rfl, rfl, b3⟩))
            go_ret
            exact ⟨_, rfl, rfl, bel2 (bel_alloc _ _) (bel_alloc _ _)⟩
          | true =>
            cases as_ with
            | false =>
              simp only [Bool.and_false, Bool.false_and, Bool.true_and, Bool.and_true]
              go_enter Try.func51, Try.ntmps51
              go_wp2_with (first
                | (go_at_call 50; (with_reducible refine (nums_any _ _ _ [q, sq, ep] _ R0.out).mono ?_); rintro e w' ⟨rfl, rfl⟩; rw [HW.out])
                | (go_at_call 49; (with_reducible refine (in_any sl _ _ _).mono ?_); rintro e w' ⟨rfl, rfl⟩; rw [H1.out])
                | (go_at_call 49; (with_reducible refine (in_any sh _ _ _).mono ?_); rintro e w' ⟨rfl, rfl⟩; rw [H2.out])
                | (go_at_call 49; (with_reducible refine (in_any k _ _ _).mono ?_); rintro e w' ⟨rfl, rfl⟩; rw [H3.out])
                | (go_at_call 49; (with_reducible refine (in_any b _ _ _).mono ?_); rintro e w' ⟨rfl, rfl⟩; rw [H4.out])
                | (go_at_call 69; (with_reducible refine (refAsked_any _ _ ht).mono ?_); rintro e w' ⟨w2, rfl, rfl, b2⟩; rw [HA.out]; obtain ⟨hc2, hf2⟩ := bcell b2; have hz2 : w.heap.size + 1 < w2.heap.size := by have := b2.size; simp at this; omega)
                | (go_at_call 70; (with_reducible refine (refitem_any _ _ _ hs).mono ?_); rintro e w' ⟨w3, rfl, rfl, b3⟩))
              go_ret
              exact ⟨_, rfl, rfl, bel2 (bel2 (bel_alloc _ _) (bel_alloc _ _)) b2⟩
            | true =>
              simp only [Bool.and_false, Bool.false_and, Bool.true_and, Bool.and_true]
              go_enter Try.func51, Try.ntmps51
              go_wp2_with (first
                | (go_at_call 50; (with_reducible refine (nums_any _ _ _ [q, sq, ep] _ R0.out).mono ?_); rintro e w' ⟨rfl, rfl⟩; rw [HW.out])
                | (go_at_call 49; (with_reducible refine (in_any sl _ _ _).mono ?_); rintro e w' ⟨rfl, rfl⟩; rw [H1.out])
                | (go_at_call 49; (with_reducible refine (in_any sh _ _ _).mono ?_); rintro e w' ⟨rfl, rfl⟩; rw [H2.out])
                | (go_at_call 49; (with_reducible refine (in_any k _ _ _).mono ?_); rintro e w' ⟨rfl, rfl⟩; rw [H3.out])
                | (go_at_call 49; (with_reducible refine (in_any b _ _ _).mono ?_); rintro e w' ⟨rfl, rfl⟩; rw [H4.out])
                | (go_at_call 69; (with_reducible refine (refAsked_any _ _ ht).mono ?_); rintro e w' ⟨w2, rfl, rfl, b2⟩; rw [HA.out]; obtain ⟨hc2, hf2⟩ := bcell b2; have hz2 : w.heap.size + 1 < w2.heap.size := by have := b2.size; simp at this; omega)
                | (go_at_call 70; (with_reducible refine (refitem_any _ _ _ hs).mono ?_); rintro e w' ⟨w3, rfl, rfl, b3⟩))
              go_ret
              exact ⟨_, rfl, rfl, bel2 (bel2 (bel2 (bel_alloc _ _) (bel_alloc _ _)) b2) b3⟩
set_option maxHeartbeats 4000000 in
theorem mayAsk_true (sl q sh sq ep : Int) (t : ByteArray) (k b : Int) (d : Int) (s : ByteArray) (w : World) (ht : t.size ≤ 1000000) (hs : s.size ≤ 1000000) :
    Calls Try.prog 51 #[.agg #[.int .i64 sl, .int .i64 q, .int .i64 sh, .int .i64 sq, .int .i64 ep, .string t, .int .i64 k, .int .i64 b, .bool true, .int .i64 d, .string s]] w (Gives w (.bool (askB sl q sh sq ep t k b true d s))) := by
  have R0 : Hid (NReads ((w.alloc (.cells #[.int .i64 sl, .int .i64 q, .int .i64 sh, .int .i64 sq, .int .i64 ep, .string t, .int .i64 k, .int .i64 b, .bool true, .int .i64 d, .string s] 29)).alloc (.cells #[.int .i64 q, .int .i64 sq, .int .i64 ep] 3)) (some ⟨w.heap.size + 1, 0, none⟩) 3 [q, sq, ep]) := by
    have := nreads3 (w.alloc (.cells #[.int .i64 sl, .int .i64 q, .int .i64 sh, .int .i64 sq, .int .i64 ep, .string t, .int .i64 k, .int .i64 b, .bool true, .int .i64 d, .string s] 29)) q sq ep 3
    rwa [show (w.alloc (.cells #[.int .i64 sl, .int .i64 q, .int .i64 sh, .int .i64 sq, .int .i64 ep, .string t, .int .i64 k, .int .i64 b, .bool true, .int .i64 d, .string s] 29)).heap.size = w.heap.size + 1 by simp] at this
  obtain ⟨wi, hw⟩ : ∃ x, withinB [q, sq, ep] = x := ⟨_, rfl⟩
  obtain ⟨p1, h1⟩ : ∃ x, inB sl 0 3 = x := ⟨_, rfl⟩
  obtain ⟨p2, h2⟩ : ∃ x, inB sh 0 5 = x := ⟨_, rfl⟩
  obtain ⟨kk, h3⟩ : ∃ x, inB k 0 4 = x := ⟨_, rfl⟩
  obtain ⟨bb, h4⟩ : ∃ x, inB b 1 5 = x := ⟨_, rfl⟩
  obtain ⟨as_, ha⟩ : ∃ x, askedB t = x := ⟨_, rfl⟩
  have HW := Lib.hid hw
  have HA := Lib.hid ha
  have H1 := Lib.hid h1
  have H2 := Lib.hid h2
  have H3 := Lib.hid h3
  have H4 := Lib.hid h4
  obtain ⟨z, hz⟩ : ∃ x, zeroItB d s = x := ⟨_, rfl⟩
  have he : ∀ w, (binOp .eql 27 (.agg #[.int .i64 d, .string s]) (.agg #[.int .i64 0, .string ⟨#[]⟩])).run Try.prog w = .ok (.bool z) w := fun w => by
    rw [← hz]; exact eql_item d 0 s ⟨#[]⟩ w
  have hE : askB sl q sh sq ep t k b true d s = (z && ((p1 && p2) && (wi && (as_ && (kk && bb))))) := by unfold askB placeB; rw [h1, h2, h3, h4, hw, ha, ← hz]; rfl
  rw [hE]
  clear hE h1 h2 h3 h4 hw ha hz
  cases wi with
  | false =>
    simp only [Bool.and_false, Bool.false_and, Bool.true_and, Bool.and_true]
    go_enter Try.func51, Try.ntmps51
    go_wp2_with (first
      | (go_at_call 50; (with_reducible refine (nums_any _ _ _ [q, sq, ep] _ R0.out).mono ?_); rintro e w' ⟨rfl, rfl⟩; rw [HW.out])
      | (go_at_call 49; (with_reducible refine (in_any sl _ _ _).mono ?_); rintro e w' ⟨rfl, rfl⟩; rw [H1.out])
      | (go_at_call 49; (with_reducible refine (in_any sh _ _ _).mono ?_); rintro e w' ⟨rfl, rfl⟩; rw [H2.out])
      | (go_at_call 49; (with_reducible refine (in_any k _ _ _).mono ?_); rintro e w' ⟨rfl, rfl⟩; rw [H3.out])
      | (go_at_call 49; (with_reducible refine (in_any b _ _ _).mono ?_); rintro e w' ⟨rfl, rfl⟩; rw [H4.out])
      | (go_at_call 69; (with_reducible refine (refAsked_any _ _ ht).mono ?_); rintro e w' ⟨w2, rfl, rfl, b2⟩; rw [HA.out]; obtain ⟨hc2, hf2⟩ := bcell b2; have hz2 : w.heap.size + 1 < w2.heap.size := by have := b2.size; simp at this; omega)
      | (go_at_call 70; (with_reducible refine (refitem_any _ _ _ hs).mono ?_); rintro e w' ⟨w3, rfl, rfl, b3⟩))
    go_ret
    exact ⟨_, rfl, rfl, bel2 (bel_alloc _ _) (bel_alloc _ _)⟩
  | true =>
    cases p1 with
    | false =>
      simp only [Bool.and_false, Bool.false_and, Bool.true_and, Bool.and_true]
      go_enter Try.func51, Try.ntmps51
      go_wp2_with (first
        | (go_at_call 50; (with_reducible refine (nums_any _ _ _ [q, sq, ep] _ R0.out).mono ?_); rintro e w' ⟨rfl, rfl⟩; rw [HW.out])
        | (go_at_call 49; (with_reducible refine (in_any sl _ _ _).mono ?_); rintro e w' ⟨rfl, rfl⟩; rw [H1.out])
        | (go_at_call 49; (with_reducible refine (in_any sh _ _ _).mono ?_); rintro e w' ⟨rfl, rfl⟩; rw [H2.out])
        | (go_at_call 49; (with_reducible refine (in_any k _ _ _).mono ?_); rintro e w' ⟨rfl, rfl⟩; rw [H3.out])
        | (go_at_call 49; (with_reducible refine (in_any b _ _ _).mono ?_); rintro e w' ⟨rfl, rfl⟩; rw [H4.out])
        | (go_at_call 69; (with_reducible refine (refAsked_any _ _ ht).mono ?_); rintro e w' ⟨w2, rfl, rfl, b2⟩; rw [HA.out]; obtain ⟨hc2, hf2⟩ := bcell b2; have hz2 : w.heap.size + 1 < w2.heap.size := by have := b2.size; simp at this; omega)
        | (go_at_call 70; (with_reducible refine (refitem_any _ _ _ hs).mono ?_); rintro e w' ⟨w3, rfl, rfl, b3⟩))
      go_ret
      exact ⟨_, rfl, rfl, bel2 (bel_alloc _ _) (bel_alloc _ _)⟩
    | true =>
      cases p2 with
      | false =>
        simp only [Bool.and_false, Bool.false_and, Bool.true_and, Bool.and_true]
        go_enter Try.func51, Try.ntmps51
        go_wp2_with (first
          | (go_at_call 50; (with_reducible refine (nums_any _ _ _ [q, sq, ep] _ R0.out).mono ?_); rintro e w' ⟨rfl, rfl⟩; rw [HW.out])
          | (go_at_call 49; (with_reducible refine (in_any sl _ _ _).mono ?_); rintro e w' ⟨rfl, rfl⟩; rw [H1.out])
          | (go_at_call 49; (with_reducible refine (in_any sh _ _ _).mono ?_); rintro e w' ⟨rfl, rfl⟩; rw [H2.out])
          | (go_at_call 49; (with_reducible refine (in_any k _ _ _).mono ?_); rintro e w' ⟨rfl, rfl⟩; rw [H3.out])
          | (go_at_call 49; (with_reducible refine (in_any b _ _ _).mono ?_); rintro e w' ⟨rfl, rfl⟩; rw [H4.out])
          | (go_at_call 69; (with_reducible refine (refAsked_any _ _ ht).mono ?_); rintro e w' ⟨w2, rfl, rfl, b2⟩; rw [HA.out]; obtain ⟨hc2, hf2⟩ := bcell b2; have hz2 : w.heap.size + 1 < w2.heap.size := by have := b2.size; simp at this; omega)
          | (go_at_call 70; (with_reducible refine (refitem_any _ _ _ hs).mono ?_); rintro e w' ⟨w3, rfl, rfl, b3⟩))
        go_ret
        exact ⟨_, rfl, rfl, bel2 (bel_alloc _ _) (bel_alloc _ _)⟩
      | true =>
        cases kk with
        | false =>
          simp only [Bool.and_false, Bool.false_and, Bool.true_and, Bool.and_true]
          go_enter Try.func51, Try.ntmps51
          go_wp2_with (first
            | (go_at_call 50; (with_reducible refine (nums_any _ _ _ [q, sq, ep] _ R0.out).mono ?_); rintro e w' ⟨rfl, rfl⟩; rw [HW.out])
            | (go_at_call 49; (with_reducible refine (in_any sl _ _ _).mono ?_); rintro e w' ⟨rfl, rfl⟩; rw [H1.out])
            | (go_at_call 49; (with_reducible refine (in_any sh _ _ _).mono ?_); rintro e w' ⟨rfl, rfl⟩; rw [H2.out])
            | (go_at_call 49; (with_reducible refine (in_any k _ _ _).mono ?_); rintro e w' ⟨rfl, rfl⟩; rw [H3.out])
            | (go_at_call 49; (with_reducible refine (in_any b _ _ _).mono ?_); rintro e w' ⟨rfl, rfl⟩; rw [H4.out])
            | (go_at_call 69; (with_reducible refine (refAsked_any _ _ ht).mono ?_); rintro e w' ⟨w2, rfl, rfl, b2⟩; rw [HA.out]; obtain ⟨hc2, hf2⟩ := bcell b2; have hz2 : w.heap.size + 1 < w2.heap.size := by have := b2.size; simp at this; omega)
            | (go_at_call 70; (with_reducible refine (refitem_any _ _ _ hs).mono ?_); rintro e w' ⟨w3, rfl, rfl, b3⟩))
          go_ret
          exact ⟨_, rfl, rfl, bel2 (bel_alloc _ _) (bel_alloc _ _)⟩
        | true =>
          cases bb with
          | false =>
            simp only [Bool.and_false, Bool.false_and, Bool.true_and, Bool.and_true]
            go_enter Try.func51, Try.ntmps51
            go_wp2_with (first
              | (go_at_call 50; (with_reducible refine (nums_any _ _ _ [q, sq, ep] _ R0.out).mono ?_); rintro e w' ⟨rfl, rfl⟩; rw [HW.out])
              | (go_at_call 49; (with_reducible refine (in_any sl _ _ _).mono ?_); rintro e w' ⟨rfl, rfl⟩; rw [H1.out])
              | (go_at_call 49; (with_reducible refine (in_any sh _ _ _).mono ?_); rintro e w' ⟨rfl, rfl⟩; rw [H2.out])
              | (go_at_call 49; (with_reducible refine (in_any k _ _ _).mono ?_); rintro e w' ⟨rfl, rfl⟩; rw [H3.out])
              | (go_at_call 49; (with_reducible refine (in_any b _ _ _).mono ?_); rintro e w' ⟨rfl, rfl⟩; rw [H4.out])
              | (go_at_call 69; (with_reducible refine (refAsked_any _ _ ht).mono ?_); rintro e w' ⟨w2, rfl, rfl, b2⟩; rw [HA.out]; obtain ⟨hc2, hf2⟩ := bcell b2; have hz2 : w.heap.size + 1 < w2.heap.size := by have := b2.size; simp at this; omega)
              | (go_at_call 70; (with_reducible refine (refitem_any _ _ _ hs).mono ?_); rintro e w' ⟨w3, rfl, rfl, b3⟩))
            go_ret
            exact ⟨_, rfl, rfl, bel2 (bel_alloc _ _) (bel_alloc _ _)⟩
          | true =>
            cases as_ with
            | false =>
              simp only [Bool.and_false, Bool.false_and, Bool.true_and, Bool.and_true]
              go_enter Try.func51, Try.ntmps51
              go_wp2_with (first
                | (go_at_call 50; (with_reducible refine (nums_any _ _ _ [q, sq, ep] _ R0.out).mono ?_); rintro e w' ⟨rfl, rfl⟩; rw [HW.out])
                | (go_at_call 49; (with_reducible refine (in_any sl _ _ _).mono ?_); rintro e w' ⟨rfl, rfl⟩; rw [H1.out])
                | (go_at_call 49; (with_reducible refine (in_any sh _ _ _).mono ?_); rintro e w' ⟨rfl, rfl⟩; rw [H2.out])
                | (go_at_call 49; (with_reducible refine (in_any k _ _ _).mono ?_); rintro e w' ⟨rfl, rfl⟩; rw [H3.out])
                | (go_at_call 49; (with_reducible refine (in_any b _ _ _).mono ?_); rintro e w' ⟨rfl, rfl⟩; rw [H4.out])
                | (go_at_call 69; (with_reducible refine (refAsked_any _ _ ht).mono ?_); rintro e w' ⟨w2, rfl, rfl, b2⟩; rw [HA.out]; obtain ⟨hc2, hf2⟩ := bcell b2; have hz2 : w.heap.size + 1 < w2.heap.size := by have := b2.size; simp at this; omega)
                | (go_at_call 70; (with_reducible refine (refitem_any _ _ _ hs).mono ?_); rintro e w' ⟨w3, rfl, rfl, b3⟩))
              go_ret
              exact ⟨_, rfl, rfl, bel2 (bel2 (bel_alloc _ _) (bel_alloc _ _)) b2⟩
            | true =>
              simp only [Bool.and_false, Bool.false_and, Bool.true_and, Bool.and_true]
              go_enter Try.func51, Try.ntmps51
              go_wp2_with (first
                | (go_at_call 50; (with_reducible refine (nums_any _ _ _ [q, sq, ep] _ R0.out).mono ?_); rintro e w' ⟨rfl, rfl⟩; rw [HW.out])
                | (go_at_call 49; (with_reducible refine (in_any sl _ _ _).mono ?_); rintro e w' ⟨rfl, rfl⟩; rw [H1.out])
                | (go_at_call 49; (with_reducible refine (in_any sh _ _ _).mono ?_); rintro e w' ⟨rfl, rfl⟩; rw [H2.out])
                | (go_at_call 49; (with_reducible refine (in_any k _ _ _).mono ?_); rintro e w' ⟨rfl, rfl⟩; rw [H3.out])
                | (go_at_call 49; (with_reducible refine (in_any b _ _ _).mono ?_); rintro e w' ⟨rfl, rfl⟩; rw [H4.out])
                | (go_at_call 69; (with_reducible refine (refAsked_any _ _ ht).mono ?_); rintro e w' ⟨w2, rfl, rfl, b2⟩; rw [HA.out]; obtain ⟨hc2, hf2⟩ := bcell b2; have hz2 : w.heap.size + 1 < w2.heap.size := by have := b2.size; simp at this; omega)
                | (go_at_call 70; (with_reducible refine (refitem_any _ _ _ hs).mono ?_); rintro e w' ⟨w3, rfl, rfl, b3⟩))
              go_ret
              exact ⟨_, rfl, rfl, bel2 (bel2 (bel_alloc _ _) (bel_alloc _ _)) b2⟩
theorem mayAsk_any (sl q sh sq ep : Int) (t : ByteArray) (k b : Int) (f : Bool) (d : Int) (s : ByteArray) (w : World) (ht : t.size ≤ 1000000) (hs : s.size ≤ 1000000) :
    Calls Try.prog 51 #[.agg #[.int .i64 sl, .int .i64 q, .int .i64 sh, .int .i64 sq, .int .i64 ep, .string t, .int .i64 k, .int .i64 b, .bool f, .int .i64 d, .string s]] w (Gives w (.bool (askB sl q sh sq ep t k b f d s))) := by
  cases f
  · exact mayAsk_false sl q sh sq ep t k b d s w ht hs
  · exact mayAsk_true sl q sh sq ep t k b d s w ht hs
end Go.Proofs.Ytajhkjikcgfhdaa
