/-
  The walks of heap.Remove, slices.IndexFunc, slices.Clone at moments, and of timer's find.
-/
import Derived.Test.YtkjjdbbogfjdlaaHeap2
namespace Go.Proofs.Ytkjjdbbogfjdlaa
set_option linter.unusedVariables false
set_option linter.unusedSimpArgs false
open Go.RowKit
theorem Row.cases_ {w : World} {v : Value} {xs : List P2} (h : Row w v xs) : (v = .slice none 0 0 ∧ xs = []) ∨ ∃ b cap, v = .slice (some ⟨b, 0, none⟩) xs.length cap := by
  rcases h.2 with ⟨e, hn⟩ | ⟨g', cap', cur, e, _⟩
  · exact .inl ⟨e, List.eq_nil_of_length_eq_zero hn⟩
  · exact .inr ⟨_, _, e⟩
/-- What heap.Remove leaves ahead of the Pop: n is the last place. -/
def hrem (xs : List P2) (n i : Nat) : List P2 :=
  if i = n then xs else if i < (downP n (n - i) (swapP xs i n) i).2 then (downP n (n - i) (swapP xs i n) i).1 else upP i (downP n (n - i) (swapP xs i n) i).1 i
theorem hrem_length (xs : List P2) (n i : Nat) : (hrem xs n i).length = xs.length := by
  unfold hrem
  split
  · rfl
  · split
    · rw [downP_length, swapP_length]
    · rw [upP_length, downP_length, swapP_length]
theorem HeapAt.as_ {w : World} {g o : Nat} {t : TypeId} {cs : Array Value} {v : Value} {xs ys : List P2} (h : HeapAt w g o t cs v xs) (e : xs = ys) : HeapAt w g o t cs v ys := by
  subst e
  exact h
set_option maxHeartbeats 1000000 in
theorem hremove_any (g o b n cap i : Nat) (t : TypeId) (cs : Array Value) (xs : List P2) (w : World) (h : HeapAt w g o t cs (.slice (some ⟨b, 0, none⟩) (n + 1) cap) xs) (hn : xs.length = n + 1) (hi : i ≤ n) (hm : n < 1000) :
    Calls Try.prog 29 #[.iface 61 (.pointer (some ⟨g, o, none⟩)), .int .i64 i] w fun e w' => ∃ W r, e = .returned r ∧ W = w' ∧ HeapAt W g o t (cs.setIfInBounds o (.slice (some ⟨b, 0, none⟩) n cap)) (.slice (some ⟨b, 0, none⟩) n cap) ((hrem xs n i).take n) ∧ Moved g (.slice (some ⟨b, 0, none⟩) (n + 1) cap) (.slice (some ⟨b, 0, none⟩) n cap) w W := by
  have hcap := h.cap_le hn
  have H := Lib.hid h
  have HN := Lib.hid hn
  have hML := fun N (hN : 0 < N) => method_val "Len" _ m_len N hN ⟨g, o, none⟩ w _ h.cell
  have hMS := fun N (hN : 0 < N) => method_val "Swap" _ m_swap N hN ⟨g, o, none⟩ w _ h.cell
  have hMP0 := fun N (hN : 0 < N) => method_ptr "Pop" _ m_pop N hN ⟨g, o, none⟩ w
  have hl : (hrem xs n i).length = n + 1 := by rw [hrem_length, hn]
  have HS := Lib.hid (split_last _ n hl)
  have HL : Hid (((hrem xs n i).take n).length = n) := Lib.hid (by rw [List.length_take]; omega)
  clear h hn hl
  by_cases hin : i = n
  · subst hin
    have hb : ((i : Int) != (i : Int)) = false := by simp
    have H2 : Hid (HeapAt w g o t cs (.slice (some ⟨b, 0, none⟩) (i + 1) cap) ((hrem xs i i).take i ++ [gp (hrem xs i i) i])) := H.out.as_ ((if_pos rfl : hrem xs i i = xs).symm.trans HS.out)
    go_enter Try.func29, Try.ntmps29
    go_wp2_with (first
      | (go_at_call 50; (with_reducible refine (len_any _ _ _ _).mono ?_); rintro e w' ⟨rfl, rfl⟩)
      | (go_at_call 56; (with_reducible refine (pop_any _ _ _ _ _ _ _ _ _ _ H2.out HL.out (by omega) (by omega)).mono ?_); rintro e w' ⟨w3, v3, rfl, rfl, hv3, h3, q3⟩))
    go_ret
    subst hv3
    exact ⟨_, _, rfl, rfl, h3, q3⟩
  · have hb : ((n : Int) != (i : Int)) = true := by simp; omega
    have hin2 : i < n := by omega
    clear hMP0
    by_cases hd : i < (downP n (n - i) (swapP xs i n) i).2
    · have e : Hid ((downP n (n - i) (swapP xs i n) i).1 = (hrem xs n i).take n ++ [gp (hrem xs n i) n]) := (((if_neg hin).trans (if_pos hd) : hrem xs n i = (downP n (n - i) (swapP xs i n) i).1).symm.trans HS.out)
      go_enter Try.func29, Try.ntmps29
      go_wp2_with (first
        | (go_at_call 50; (with_reducible refine (len_any _ _ _ _).mono ?_); rintro e w' ⟨rfl, rfl⟩)
        | (go_at_call 52; (with_reducible refine (swap_at b (n + 1) cap i n _ _ xs _ H.out.row rfl rfl HN.out (by omega) (by omega) (by omega)).mono ?_); rintro e w' ⟨w1, rfl, rfl, hr1, hg1⟩; have H1 := Lib.hid (H.out.moved hg1 hr1); clear hr1 hML hMS)
        | (go_at_call 32; (with_reducible refine (down_at g o (n + 1) cap i n _ _ t _ b _ w1 H1.out rfl rfl ((swapP_length _ _ _).trans HN.out) (by omega) (by omega) (by omega)).mono ?_); rintro e w' ⟨w2, rfl, rfl, h2, q2⟩; have hMP := fun N (hN : 0 < N) => method_ptr "Pop" _ m_pop N hN ⟨g, o, none⟩ w2; have H2 := Lib.hid (h2.as_ e.out); clear h2)
        | (go_at_call 56; (with_reducible refine (pop_any _ _ _ _ _ _ _ _ _ _ H2.out HL.out (by omega) (by omega)).mono ?_); rintro e w' ⟨w3, v3, rfl, rfl, hv3, h3, q3⟩))
      go_ret
      subst hv3
      exact ⟨_, _, rfl, rfl, h3, (Moved.of_grown (grownBy_trans_ hg1 q2)).trans q3⟩
    · have e : Hid (upP i (downP n (n - i) (swapP xs i n) i).1 i = (hrem xs n i).take n ++ [gp (hrem xs n i) n]) := (((if_neg hin).trans (if_neg hd) : hrem xs n i = upP i (downP n (n - i) (swapP xs i n) i).1 i).symm.trans HS.out)
      go_enter Try.func29, Try.ntmps29
      go_wp2_with (first
        | (go_at_call 50; (with_reducible refine (len_any _ _ _ _).mono ?_); rintro e w' ⟨rfl, rfl⟩)
        | (go_at_call 52; (with_reducible refine (swap_at b (n + 1) cap i n _ _ xs _ H.out.row rfl rfl HN.out (by omega) (by omega) (by omega)).mono ?_); rintro e w' ⟨w1, rfl, rfl, hr1, hg1⟩; have H1 := Lib.hid (H.out.moved hg1 hr1); clear hr1 hML hMS)
        | (go_at_call 32; (with_reducible refine (down_at g o (n + 1) cap i n _ _ t _ b _ w1 H1.out rfl rfl ((swapP_length _ _ _).trans HN.out) (by omega) (by omega) (by omega)).mono ?_); rintro e w' ⟨w2, rfl, rfl, h2, q2⟩; have H2 := Lib.hid h2; clear h2)
        | (go_at_call 33; (with_reducible refine (up_any g o (n + 1) cap i t _ b _ w2 H2.out ((downP_length _ _ _ _).trans ((swapP_length _ _ _).trans HN.out)) (by omega) (by omega)).mono ?_); rintro e w' ⟨w4, rfl, rfl, h4, q4⟩; have hMP := fun N (hN : 0 < N) => method_ptr "Pop" _ m_pop N hN ⟨g, o, none⟩ w4; have H4 := Lib.hid (h4.as_ e.out); clear h4)
        | (go_at_call 56; (with_reducible refine (pop_any _ _ _ _ _ _ _ _ _ _ H4.out HL.out (by omega) (by omega)).mono ?_); rintro e w' ⟨w3, v3, rfl, rfl, hv3, h3, q3⟩))
      go_ret
      subst hv3
      exact ⟨_, _, rfl, rfl, h3, (Moved.of_grown (grownBy_trans_ hg1 (grownBy_trans_ q2 q4))).trans q3⟩
end Go.Proofs.Ytkjjdbbogfjdlaa
