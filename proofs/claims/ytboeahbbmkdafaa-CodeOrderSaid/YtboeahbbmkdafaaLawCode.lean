/-
  The walks of the five statements on encoded numbers and texts.
-/
import Derived.Test.YtboeahbbmkdafaaRefCode
import Derived.Deep.RegionWith
import Derived.BigQuiet
namespace Go.Proofs.Ytboeahbbmkdafaa
set_option linter.unusedVariables false
set_option linter.unusedSimpArgs false
open Go.RowKit
theorem beq_i (x : Int) : (x == x) = true := beq_self_eq_true x
theorem beq_s (s : ByteArray) : (s == s) = true := by
  show (s.data == s.data) = true
  simp
set_option maxHeartbeats 1000000 in
theorem codeGets_00 (A : Option Addr) (n cp : Nat) (a s : Int) (zs : List Int) (w : World) (h : BReads w A n zs) (hc : n ≤ cp) (hcm : cp ≤ 9223372036854775807) (hn : n ≤ 300) (h1 : ¬ numOk n a s) (h2 : ¬ textOk n zs a) :
    Calls Try.prog 10 #[.slice A n cp, .int .i64 a, .int .i64 s] w fun e w' => e = .returned (.bool true) ∧ Below w.heap.size w w' := by
  have hm := h.2.1
  have H := Lib.hid h
  have HN := Lib.hid h1
  have HT := Lib.hid h2
  clear h h1 h2
  go_enter Try.func10, Try.ntmps10
  go_wp2_with (first
    | (go_at_call 26; (with_reducible refine (num_no _ _ _ _ _ _ hm HN.out).mono ?_); rintro e w' ⟨rfl, rfl⟩)
    | (go_at_call 27; (with_reducible refine (refnum_no _ _ _ _ _ _ hm HN.out).mono ?_); rintro e w' ⟨rfl, rfl⟩)
    | (go_at_call 28; (with_reducible refine (text_no _ _ _ _ _ _ H.out HT.out).mono ?_); rintro e w' ⟨rfl, rfl⟩)
    | (go_at_call 29; (with_reducible refine (reftext_no _ _ _ _ _ _ H.out HT.out).mono ?_); rintro e w' ⟨rfl, rfl⟩)
    | (go_at_call 19; (with_reducible refine (awake3_any _).mono ?_); rintro e w' ⟨rfl, hb9⟩))
  go_ret
  exact ⟨rfl, hb9⟩
set_option maxHeartbeats 1000000 in
theorem codeGets_01 (A : Option Addr) (n cp : Nat) (a s : Int) (zs : List Int) (w : World) (h : BReads w A n zs) (hc : n ≤ cp) (hcm : cp ≤ 9223372036854775807) (hn : n ≤ 300) (h1 : ¬ numOk n a s) (h2 : textOk n zs a) :
    Calls Try.prog 10 #[.slice A n cp, .int .i64 a, .int .i64 s] w fun e w' => e = .returned (.bool true) ∧ Below w.heap.size w w' := by
  have hm := h.2.1
  have H := Lib.hid h
  have HN := Lib.hid h1
  have HT := Lib.hid h2
  have e2 := beq_i (a + 2 + numI zs a 2)
  have e3 := beq_s (textS zs a)
  clear h h1 h2
  go_enter Try.func10, Try.ntmps10
  go_wp2_with (first
    | (go_at_call 26; (with_reducible refine (num_no _ _ _ _ _ _ hm HN.out).mono ?_); rintro e w' ⟨rfl, rfl⟩)
    | (go_at_call 27; (with_reducible refine (refnum_no _ _ _ _ _ _ hm HN.out).mono ?_); rintro e w' ⟨rfl, rfl⟩)
    | (go_at_call 28; (with_reducible refine (text_yes _ _ _ _ _ _ H.out hc hcm HT.out).mono ?_); rintro e w' ⟨rfl, rfl⟩)
    | (go_at_call 29; (with_reducible refine (reftext_yes _ _ _ _ _ _ H.out hc hcm HT.out).mono ?_); rintro e w' ⟨rfl, rfl⟩)
    | (go_at_call 19; (with_reducible refine (awake3_any _).mono ?_); rintro e w' ⟨rfl, hb9⟩))
  go_ret
  exact ⟨rfl, hb9⟩
set_option maxHeartbeats 1000000 in
theorem codeGets_10 (A : Option Addr) (n cp : Nat) (a s : Int) (zs : List Int) (w : World) (h : BReads w A n zs) (hc : n ≤ cp) (hcm : cp ≤ 9223372036854775807) (hn : n ≤ 300) (h1 : numOk n a s) (h2 : ¬ textOk n zs a) :
    Calls Try.prog 10 #[.slice A n cp, .int .i64 a, .int .i64 s] w fun e w' => e = .returned (.bool true) ∧ Below w.heap.size w w' := by
  have hm := h.2.1
  have H := Lib.hid h
  have HN := Lib.hid h1
  have HT := Lib.hid h2
  have e1 := beq_i (numI zs a s)
  clear h h1 h2
  go_enter Try.func10, Try.ntmps10
  go_wp2_with (first
    | (go_at_call 26; (with_reducible refine (num_yes _ _ _ _ _ _ _ H.out HN.out).mono ?_); rintro e w' ⟨rfl, rfl⟩)
    | (go_at_call 27; (with_reducible refine (refnum_yes _ _ _ _ _ _ _ H.out HN.out).mono ?_); rintro e w' ⟨rfl, rfl⟩)
    | (go_at_call 28; (with_reducible refine (text_no _ _ _ _ _ _ H.out HT.out).mono ?_); rintro e w' ⟨rfl, rfl⟩)
    | (go_at_call 29; (with_reducible refine (reftext_no _ _ _ _ _ _ H.out HT.out).mono ?_); rintro e w' ⟨rfl, rfl⟩)
    | (go_at_call 19; (with_reducible refine (awake3_any _).mono ?_); rintro e w' ⟨rfl, hb9⟩))
  go_ret
  exact ⟨rfl, hb9⟩
set_option maxHeartbeats 1000000 in
theorem codeGets_11 (A : Option Addr) (n cp : Nat) (a s : Int) (zs : List Int) (w : World) (h : BReads w A n zs) (hc : n ≤ cp) (hcm : cp ≤ 9223372036854775807) (hn : n ≤ 300) (h1 : numOk n a s) (h2 : textOk n zs a) :
    Calls Try.prog 10 #[.slice A n cp, .int .i64 a, .int .i64 s] w fun e w' => e = .returned (.bool true) ∧ Below w.heap.size w w' := by
  have hm := h.2.1
  have H := Lib.hid h
  have HN := Lib.hid h1
  have HT := Lib.hid h2
  have e1 := beq_i (numI zs a s)
  have e2 := beq_i (a + 2 + numI zs a 2)
  have e3 := beq_s (textS zs a)
  clear h h1 h2
  go_enter Try.func10, Try.ntmps10
  go_wp2_with (first
    | (go_at_call 26; (with_reducible refine (num_yes _ _ _ _ _ _ _ H.out HN.out).mono ?_); rintro e w' ⟨rfl, rfl⟩)
    | (go_at_call 27; (with_reducible refine (refnum_yes _ _ _ _ _ _ _ H.out HN.out).mono ?_); rintro e w' ⟨rfl, rfl⟩)
    | (go_at_call 28; (with_reducible refine (text_yes _ _ _ _ _ _ H.out hc hcm HT.out).mono ?_); rintro e w' ⟨rfl, rfl⟩)
    | (go_at_call 29; (with_reducible refine (reftext_yes _ _ _ _ _ _ H.out hc hcm HT.out).mono ?_); rintro e w' ⟨rfl, rfl⟩)
    | (go_at_call 19; (with_reducible refine (awake3_any _).mono ?_); rintro e w' ⟨rfl, hb9⟩))
  go_ret
  exact ⟨rfl, hb9⟩
theorem codeGets_walk (A : Option Addr) (n cp : Nat) (a s : Int) (zs : List Int) (w : World) (h : BReads w A n zs) (hc : n ≤ cp) (hcm : cp ≤ 9223372036854775807) :
    Calls Try.prog 10 #[.slice A n cp, .int .i64 a, .int .i64 s] w fun e w' => e = .returned (.bool true) ∧ Below w.heap.size w w' := by
  have hm := h.2.1
  by_cases h0 : 300 < n
  · clear h
    go_enter Try.func10, Try.ntmps10
    go_wp2_with (go_at_call 19; (with_reducible refine (awake3_any _).mono ?_); rintro e w' ⟨rfl, hb9⟩)
    go_ret
    exact ⟨rfl, hb9⟩
  by_cases h1 : numOk n a s <;> by_cases h2 : textOk n zs a
  · exact codeGets_11 A n cp a s zs w h hc hcm (by omega) h1 h2
  · exact codeGets_10 A n cp a s zs w h hc hcm (by omega) h1 h2
  · exact codeGets_01 A n cp a s zs w h hc hcm (by omega) h1 h2
  · exact codeGets_00 A n cp a s zs w h hc hcm (by omega) h1 h2
theorem low_same (x n : Int) (w : World) (hn : 0 < n) (hb : n ≤ 9223372036854775807) :
    Calls Try.prog 18 #[.int .i64 x, .int .i64 n] w fun e w' => e = .returned (.int .i64 (lowI x n)) ∧ w' = w :=
  (low_any x n w hn hb).mono fun _ _ ⟨he, hw⟩ => ⟨he, hw.symm⟩
theorem put_nil (x s : Int) (q : Nat) (w : World) (hs : s = q) (hq : q ≤ 8) :
    Calls Try.prog 20 #[.slice none 0 0, .int .i64 x, .int .i64 s] w fun e w' => ∃ A2 c2 W, e = .returned (.slice A2 q c2) ∧ W = w' ∧ BReads W A2 q (putI x q) ∧ Below w.heap.size w W := by
  subst hs
  have e : sizeI (q : Int) = q := by unfold sizeI; split <;> (try split) <;> omega
  refine (put_sl none 0 0 [] x q w (breads_nil _ _) (by omega)).mono fun e' w' ⟨A2, c2, W, he, hw, _, hr, _, hb⟩ => ?_
  rw [e, Nat.zero_add] at he hr
  exact ⟨A2, c2, W, he, hw, hr, hb⟩
set_option maxHeartbeats 1000000 in
theorem codeOrder_walk (a b s : Int) (w : World) :
    Calls Try.prog 9 #[.int .i64 a, .int .i64 b, .int .i64 s] w fun e w' => e = .returned (.bool true) ∧ Below w.heap.size w w' := by
  obtain ⟨l0, l1⟩ := lowI_range s 7 (by omega)
  obtain ⟨m, hm⟩ := Int.eq_ofNat_of_zero_le l0
  rw [hm] at l1
  have hm7 : m < 7 := by omega
  have HM := Lib.hid hm
  have p0 : (0 : Int) < 2 ^ (8 * (1 + m)) := Int.pow_pos (by omega)
  have p1 : (2 : Int) ^ (8 * (1 + m)) ≤ 9223372036854775807 := Int.le_trans (pow_le_two (1 + m) (by omega) (by omega)) (by decide)
  obtain ⟨x0, x1⟩ := lowI_range a (2 ^ (8 * (1 + m))) p0
  obtain ⟨y0, y1⟩ := lowI_range b (2 ^ (8 * (1 + m))) p0
  have f1 := order_less _ _ (1 + m) (by omega) x0 x1 y0 y1
  have f2 := order_eq _ _ (1 + m) (by omega) x0 x1 y0 y1
  have f3 : (strOfNums (putI (lowI a (2 ^ (8 * (1 + m)))) (1 + m))).size = 1 + m := by rw [strOfNums_size, putI_length]
  clear l0 hm l1 x0 x1 y0 y1
  go_enter Try.func9, Try.ntmps9
  go_wp2_with (go_at_call 18; (with_reducible refine (low_any _ _ _ (by omega) (by omega)).mono ?_); rintro e w' ⟨rfl, rfl⟩; rw [HM.out])
  go_quiet ((go_at_call 18; exact Calls.quiet_of_same (low_same _ _ _ p0 p1)))
  have tok1 : True := trivial
  have hq : (1 : Int) + (m : Int) = ((1 + m : Nat) : Int) := by omega
  have HQ := Lib.hid hq
  clear hq
  go_wp2
  go_region_with (first
    | (go_at_call 20; have _t := tok1; (with_reducible refine (put_nil _ _ (1 + m) _ HQ.out (by omega)).mono ?_); rintro e w' ⟨A1, c1, w1, rfl, rfl, hr1, hb1⟩; clear tok1; have k1 := conv_any hr1 c1)
    | (go_at_call 20; (with_reducible refine (put_nil _ _ (1 + m) _ HQ.out (by omega)).mono ?_); rintro e w' ⟨A2, c2, w2, rfl, rfl, hr2, hb2⟩; have k2 := conv_any (hr1.below hb2) c1; have k3 := conv_any hr2 c2))
  all_goals
    have b1 : Below w.heap.size w w1 := (below_drewN (Below.refl _ _) _).trans hb1
    have b2 : Below w.heap.size w w2 := b1.trans (hb2.mono b1.size)
    clear hb1 hb2 hr1 hr2 k1 k2 k3
    go_wp2_with (go_at_call 19; (with_reducible refine (awake3_any _).mono ?_); rintro e w' ⟨rfl, hb9⟩)
    go_ret
    exact ⟨rfl, b2.trans (hb9.mono b2.size)⟩
set_option maxHeartbeats 1000000 in
theorem codeBack_go (A : Option Addr) (n cp : Nat) (zs : List Int) (a s : Int) (t : ByteArray) (w : World) (h : BReads w A n zs) (hn : n ≤ 200) (ht : t.size ≤ 1000) :
    Calls Try.prog 11 #[.slice A n cp, .int .i64 a, .int .i64 s, .string t] w fun e w' => e = .returned (.bool true) ∧ Below w.heap.size w w' := by
  obtain ⟨l0, l1⟩ := lowI_range s 7 (by omega)
  obtain ⟨m, hm⟩ := Int.eq_ofNat_of_zero_le l0
  rw [hm] at l1
  have hm7 : m < 7 := by omega
  have HM := Lib.hid hm
  have p0 : (0 : Int) < 2 ^ (8 * (1 + m)) := Int.pow_pos (by omega)
  have p1 : (2 : Int) ^ (8 * (1 + m)) ≤ 9223372036854775807 := Int.le_trans (pow_le_two (1 + m) (by omega) (by omega)) (by decide)
  obtain ⟨x0, x1⟩ := lowI_range a (2 ^ (8 * (1 + m))) p0
  obtain ⟨x, hx⟩ : ∃ x, x = lowI a (2 ^ (8 * (1 + m))) := ⟨_, rfl⟩
  rw [← hx] at x0 x1
  have HX := Lib.hid hx
  have HQ : Hid ((1 : Int) + (m : Int) = ((1 + m : Nat) : Int)) := by unfold Hid; omega
  have hl := h.1
  have hr : ∀ z, z ∈ (zs ++ putI x (1 + m)) ++ (putI t.size 2 ++ strB t) → 0 ≤ z ∧ z < 256 := by
    intro z hz
    rcases List.mem_append.1 hz with k | k
    · rcases List.mem_append.1 k with k | k
      · exact h.range z k
      · exact putI_range _ _ z k
    · rcases List.mem_append.1 k with k | k
      · exact putI_range _ _ z k
      · exact strB_range _ z k
  have hlen : ((zs ++ putI x (1 + m)).length : Int) = n + (1 + m) := by rw [List.length_append, putI_length, hl]; omega
  have g1 : numI ((zs ++ putI x (1 + m)) ++ (putI t.size 2 ++ strB t)) (n : Int) (1 + (m : Int)) = x := by
    rw [List.append_assoc] at hr ⊢
    exact numI_mid zs _ x _ _ (1 + m) (by rw [hl]) HQ.out hr (by omega) x0 x1
  have g2 : numI ((zs ++ putI x (1 + m)) ++ (putI t.size 2 ++ strB t)) ((n : Int) + (1 + (m : Int))) 2 = t.size := num_text _ t _ hlen.symm hr (by omega)
  have g3 : textS ((zs ++ putI x (1 + m)) ++ (putI t.size 2 ++ strB t)) ((n : Int) + (1 + (m : Int))) = t := text_mid _ t _ hlen.symm hr (by omega)
  obtain ⟨X, hX⟩ : ∃ X, X = (zs ++ putI x (1 + m)) ++ (putI t.size 2 ++ strB t) := ⟨_, rfl⟩
  rw [← hX] at g1 g2 g3
  have HXX := Lib.hid hX.symm
  have o1 : Hid (numOk (n + (1 + m) + (2 + t.size)) (n : Int) (1 + (m : Int))) := by unfold Hid numOk; omega
  have o2 : Hid (textOk (n + (1 + m) + (2 + t.size)) X ((n : Int) + (1 + (m : Int)))) := by
    unfold Hid textOk
    rw [g2]
    unfold numOk
    omega
  clear hX
  have f1 := beq_i x
  have f2 := beq_s t
  have H := Lib.hid h
  clear h hl hr hlen l0 hm l1 x0 x1 hx
  go_enter Try.func11, Try.ntmps11
  go_wp2_with (first
    | (go_at_call 18; (with_reducible refine (low_any s 7 _ (by omega) (by omega)).mono ?_); rintro e w' ⟨rfl, rfl⟩; rw [HM.out])
    | (go_at_call 18; (with_reducible refine (low_any a _ _ p0 p1).mono ?_); rintro e w' ⟨rfl, rfl⟩; rw [← HX.out])
    | (go_at_call 20; (with_reducible refine (put_q _ _ _ _ _ _ (1 + m) _ H.out (by omega) HQ.out (by omega)).mono ?_); rintro e w' ⟨A1, c1, w1, rfl, rfl, _, hr1, hc1, hb1⟩)
    | (go_at_call 21; (with_reducible refine (putText_small _ _ _ _ _ _ hr1 (by omega) (by omega)).mono ?_); rintro e w' ⟨A2, c2, w2, rfl, rfl, ho2, hr2, hc2, hb2⟩; rw [HXX.out] at hr2; have oc := Lib.hid (own_cap ho2); clear ho2)
    | (go_at_call 26; (with_reducible refine (num_yes _ _ _ _ _ _ _ hr2 o1.out).mono ?_); rintro e w' ⟨rfl, rfl⟩)
    | (go_at_call 28; (with_reducible refine (text_yes _ _ _ _ _ _ hr2 hc2 oc.out o2.out).mono ?_); rintro e w' ⟨rfl, rfl⟩)
    | (go_at_call 19; (with_reducible refine (awake3_any _).mono ?_); rintro e w' ⟨rfl, hb9⟩))
  go_ret
  exact ⟨rfl, (hb1.trans (hb2.mono hb1.size)).trans (hb9.mono (Nat.le_trans hb1.size hb2.size))⟩
theorem codeBack_walk (A : Option Addr) (n cp : Nat) (zs : List Int) (a s : Int) (t : ByteArray) (w : World) (h : BReads w A n zs) (ht : t.size ≤ 9223372036854775807) :
    Calls Try.prog 11 #[.slice A n cp, .int .i64 a, .int .i64 s, .string t] w fun e w' => e = .returned (.bool true) ∧ Below w.heap.size w w' := by
  have hm := h.2.1
  by_cases h1 : 200 < n
  · clear h
    go_enter Try.func11, Try.ntmps11
    go_wp2_with (go_at_call 19; (with_reducible refine (awake3_any _).mono ?_); rintro e w' ⟨rfl, hb9⟩)
    go_ret
    exact ⟨rfl, hb9⟩
  by_cases h2 : 1000 < t.size
  · clear h
    go_enter Try.func11, Try.ntmps11
    go_wp2_with (go_at_call 19; (with_reducible refine (awake3_any _).mono ?_); rintro e w' ⟨rfl, hb9⟩)
    go_ret
    exact ⟨rfl, hb9⟩
  exact codeBack_go A n cp zs a s t w h (by omega) (by omega)
theorem bt {a b c : World} (h : Below a.heap.size a b) (k : Below b.heap.size b c) : Below a.heap.size a c := h.trans (k.mono h.size)
theorem bd {a : World} (q : Nat) : Below a.heap.size a (a.drewN q) := below_drewN (Below.refl _ _) q
set_option maxHeartbeats 2000000 in
theorem codePuts_go (A : Option Addr) (n cp : Nat) (zs : List Int) (a s : Int) (t : ByteArray) (w : World) (h : BReads w A n zs) (hn : n ≤ 200) (ht : t.size ≤ 70000) :
    Calls Try.prog 7 #[.slice A n cp, .int .i64 a, .int .i64 s, .string t] w fun e w' => e = .returned (.bool true) ∧ Below w.heap.size w w' := by
  have H := Lib.hid h
  have HR := Lib.hid h.range
  have HL := Lib.hid h.1
  have hS : sizeI s ≤ 8 := by unfold sizeI; split <;> (try split) <;> omega
  have c1 := (cutI_le t).2
  have hts : t.size ≤ 9223372036854775807 := by omega
  clear h
  go_enter Try.func7, Try.ntmps7
  go_wp2_with (go_at_call 13; (with_reducible refine (lend_any _ _ _ _ _ H.out (by omega)).mono ?_); rintro e w' ⟨w1, rfl, rfl, hlent, hb1⟩)
  have HI := Lib.hid (hlent.breads n HL.out (by omega) HR.out)
  have HB := Lib.hid (H.out.below hb1)
  have hlt1 : w.heap.size < w1.heap.size := (Array.getElem?_eq_some_iff.1 hlent).1
  have HT := Lib.hid hlent
  clear hlent H
  go_wp2_with (first
    | (go_at_call 20; (with_reducible refine (put_sl _ _ _ _ _ _ _ HI.out (by omega)).mono ?_); rintro e w' ⟨A2, c2, w2, rfl, rfl, ho2, hr2, hc2, hb2⟩)
    | (go_at_call 21; (with_reducible refine (putText_sl _ _ _ _ _ _ (HI.out.below hb2) (by omega) hts).mono ?_); rintro e w' ⟨A3, c3, w3, rfl, rfl, ho3, hr3, hc3, hb3⟩)
    | (go_at_call 23; (with_reducible refine (refput_sl _ _ _ _ _ _ _ (HB.out.below (bt hb2 hb3)) (by omega)).mono ?_); rintro e w' ⟨A4, c4, w4, rfl, rfl, ho4, hr4, hc4, hb4⟩)
    | (go_at_call 22; (with_reducible refine (same_any A2 A4 _ _ _ _ _ _ _ (hr2.below (bt hb3 hb4)) hr4).mono ?_); rintro e w' ⟨rfl, q4, rfl⟩)
    | (go_at_call 24; (with_reducible refine (refputText_sl _ _ _ _ _ _ (HB.out.below (bt (bt (bt hb2 hb3) hb4) (bd q4))) (by omega) hts).mono ?_); rintro e w' ⟨A5, c5, w5, rfl, rfl, ho5, hr5, hc5, hb5⟩)
    | (go_at_call 22; (with_reducible refine (same_any A3 A5 _ _ _ _ _ _ _ (hr3.below (bt (bt hb4 (bd q4)) hb5)) hr5).mono ?_); rintro e w' ⟨rfl, q5, rfl⟩)
    | (go_at_call 16; (with_reducible refine (kept_any _ _ _ _ _ _ _ _ (HT.out.below (bt (bt (bt (bt (bt hb2 hb3) hb4) (bd q4)) hb5) (bd q5)) hlt1) HL.out HR.out (Nat.le_trans hn (by decide)) (HB.out.below (bt (bt (bt (bt (bt hb2 hb3) hb4) (bd q4)) hb5) (bd q5)))).mono ?_); rintro e w' ⟨rfl, q6, rfl⟩))
  have hb6 : Below w1.heap.size w1 (w5.drewN (q5 + q6)) := bt (bt (bt (bt (bt hb2 hb3) hb4) (bd q4)) hb5) (bd _)
  have ho6 := own_below ho2 (bt (bt (bt (bt hb3 hb4) (bd q4)) hb5) (bd (q5 + q6)))
  clear ho2 ho3 ho4 ho5 hr2 hr3 hr4 hr5 hc2 hc3 hc4 hc5 hb2 hb3 hb4 hb5
  go_wp2_with (first
    | (go_at_call 25; (with_reducible refine (over_any _ _ _ _ _ ho6 hb6.size (by omega)).mono ?_); rintro e w' ⟨w7, rfl, rfl, hb7⟩)
    | (go_at_call 22; (with_reducible refine (same_any _ _ _ _ _ _ _ _ _ (HI.out.below (hb6.trans hb7)) (HB.out.below (hb6.trans hb7))).mono ?_); rintro e w' ⟨rfl, q7, rfl⟩)
    | (go_at_call 19; (with_reducible refine (awake3_any _).mono ?_); rintro e w' ⟨rfl, hb9⟩))
  go_ret
  exact ⟨rfl, bt hb1 (bt (bt (hb6.trans hb7) (bd q7)) hb9)⟩
theorem codePuts_walk (A : Option Addr) (n cp : Nat) (zs : List Int) (a s : Int) (t : ByteArray) (w : World) (h : BReads w A n zs) (ht : t.size ≤ 9223372036854775807) :
    Calls Try.prog 7 #[.slice A n cp, .int .i64 a, .int .i64 s, .string t] w fun e w' => e = .returned (.bool true) ∧ Below w.heap.size w w' := by
  have hm := h.2.1
  by_cases h1 : 200 < n
  · clear h
    go_enter Try.func7, Try.ntmps7
    go_wp2_with (go_at_call 19; (with_reducible refine (awake3_any _).mono ?_); rintro e w' ⟨rfl, hb9⟩)
    go_ret
    exact ⟨rfl, hb9⟩
  by_cases h2 : 70000 < t.size
  · clear h
    go_enter Try.func7, Try.ntmps7
    go_wp2_with (go_at_call 19; (with_reducible refine (awake3_any _).mono ?_); rintro e w' ⟨rfl, hb9⟩)
    go_ret
    exact ⟨rfl, hb9⟩
  exact codePuts_go A n cp zs a s t w h (by omega) (by omega)
set_option maxHeartbeats 2000000 in
theorem codeParts_go (A : Option Addr) (n cp : Nat) (zs : List Int) (a s l : Int) (w : World) (h : BReads w A n zs) (hn : n ≤ 100) (ha0 : -9223372036854775808 ≤ a) (ha1 : a ≤ 9223372036854775807) :
    Calls Try.prog 8 #[.slice A n cp, .int .i64 a, .int .i64 s, .int .i64 l] w fun e w' => e = .returned (.bool true) ∧ Below w.heap.size w w' := by
  obtain ⟨l0, l1⟩ := lowI_range s 8 (by omega)
  obtain ⟨m, hm⟩ := Int.eq_ofNat_of_zero_le l0
  rw [hm] at l1
  have hm7 : m < 8 := by omega
  have HM := Lib.hid hm
  obtain ⟨k0, k1⟩ := lowI_range l (1 + (m : Int) + 1) (by omega)
  obtain ⟨c, hc⟩ := Int.eq_ofNat_of_zero_le k0
  rw [hc] at k1
  have hc7 : c ≤ 1 + m := by omega
  have HC := Lib.hid hc
  have H := Lib.hid h
  have HL := Lib.hid h.1
  have HQ : Hid ((1 : Int) + (m : Int) = ((1 + m : Nat) : Int)) := by unfold Hid; omega
  have HD : Hid ((1 : Int) + (m : Int) - (c : Int) = ((1 + m - c : Nat) : Int)) := by unfold Hid; omega
  have hpe : putI a (1 + m) = putI (upI a c) (1 + m - c) ++ putI a c := by
    have := putI_parts a c (1 + m - c) (by omega)
    rwa [show c + (1 + m - c) = 1 + m by omega] at this
  have hxe : zs ++ putI a (1 + m) = (zs ++ putI (upI a c) (1 + m - c)) ++ putI a c := by rw [hpe, List.append_assoc]
  have HX := Lib.hid hxe
  clear h l0 l1 hm k0 k1 hc hpe hxe
  go_enter Try.func8, Try.ntmps8
  go_wp2_with (first
    | (go_at_call 18; (with_reducible refine (low_any s 8 _ (by omega) (by omega)).mono ?_); rintro e w' ⟨rfl, rfl⟩; rw [HM.out])
    | (go_at_call 18; (with_reducible refine (low_any l _ _ (by omega) (by omega)).mono ?_); rintro e w' ⟨rfl, rfl⟩; rw [HC.out])
    | (go_at_call 20; (with_reducible refine (put_q _ _ _ _ _ _ (1 + m) _ H.out (by omega) HQ.out (by omega)).mono ?_); rintro e w' ⟨A1, c1, w1, rfl, rfl, ho1, hr1, hc1, hb1⟩))
  have R1 := Lib.hid hr1
  have O1 := Lib.hid (own_cap ho1)
  clear hr1 ho1
  go_loop [10, 11] (fun u i => ∃ k : Nat, k ≤ c ∧ i = .int .i64 k ∧ u = .int .i64 (upI a k)) (fun _ i => c - (intOf i).toNat)
  case atStart => exact ⟨0, by omega, rfl, rfl⟩
  case round =>
    obtain ⟨k, hk, rfl, rfl⟩ := hrel
    by_cases hlt : k < c
    · go_wp2
      go_round
      case rel => exact ⟨k + 1, by omega, by go_num, rfl⟩
      case measure => simp [intOf]; omega
    · obtain rfl : k = c := by omega
      have HB := Lib.hid (H.out.below hb1)
      have R0 : Hid (BReads w1 A1 n zs) := by
        have := R1.out.take_ n (by omega)
        rwa [List.take_left' HL.out] at this
      go_wp2_with (first
        | (go_at_call 20; (with_reducible refine (put_q A _ _ _ _ _ (1 + m - k) _ HB.out (by omega) HD.out (by omega)).mono ?_); rintro e w' ⟨A2, c2, w2, rfl, rfl, _, hr2, hc2, hb2⟩)
        | (go_at_call 20; (with_reducible refine (put_q A2 _ _ _ _ _ k _ hr2 (by omega) rfl (by omega)).mono ?_); rintro e w' ⟨A3, c3, w3, rfl, rfl, ho3, hr3, hc3, hb3⟩; rw [← HX.out] at hr3)
        | (go_at_call 22; (with_reducible refine (same_any A1 A3 _ _ _ _ _ _ _ (R1.out.below (bt hb2 hb3)) hr3).mono ?_); rintro e w' ⟨rfl, q4, rfl⟩)
        | (go_at_call 22; (with_reducible refine (same_any A1 A _ _ _ _ _ _ _ (R0.out.below (bt (bt hb2 hb3) (bd q4))) (HB.out.below (bt (bt hb2 hb3) (bd q4)))).mono ?_); rintro e w' ⟨rfl, q5, rfl⟩)
        | (go_at_call 19; (with_reducible refine (awake3_any _).mono ?_); rintro e w' ⟨rfl, hb9⟩))
      go_ret
      exact ⟨rfl, bt (bt hb1 (bt (bt hb2 hb3) (bd _))) hb9⟩
theorem codeParts_walk (A : Option Addr) (n cp : Nat) (zs : List Int) (a s l : Int) (w : World) (h : BReads w A n zs) (ha0 : -9223372036854775808 ≤ a) (ha1 : a ≤ 9223372036854775807) :
    Calls Try.prog 8 #[.slice A n cp, .int .i64 a, .int .i64 s, .int .i64 l] w fun e w' => e = .returned (.bool true) ∧ Below w.heap.size w w' := by
  have hm := h.2.1
  by_cases h1 : 100 < n
  · clear h
    go_enter Try.func8, Try.ntmps8
    go_wp2_with (go_at_call 19; (with_reducible refine (awake3_any _).mono ?_); rintro e w' ⟨rfl, hb9⟩)
    go_ret
    exact ⟨rfl, hb9⟩
  exact codeParts_go A n cp zs a s l w h (by omega) ha0 ha1
end Go.Proofs.Ytboeahbbmkdafaa
