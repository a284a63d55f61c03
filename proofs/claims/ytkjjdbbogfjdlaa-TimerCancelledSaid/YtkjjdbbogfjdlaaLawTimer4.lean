/-
  The walk of inkhornlaw17.TimerCancelled.
-/
import Derived.Test.YtkjjdbbogfjdlaaLawTimer3
namespace Go.Proofs.Ytkjjdbbogfjdlaa
set_option linter.unusedVariables false
set_option linter.unusedSimpArgs false
open Go.RowKit
namespace HP
/-- The numbers below m that are not off, each with its moment. -/
def MR (f : Nat → Int) (off : Nat → Bool) (m : Nat) (xs : List P2) : Prop := ∀ p, p ∈ xs ↔ ∃ j : Nat, j < m ∧ off j = false ∧ p = (f j, (j : Int))
theorem MR.of_mm {f : Nat → Int} {m : Nat} {xs : List P2} (h : MM f 0 m xs) (off : Nat → Bool) (ho : ∀ j, j < m → off j = false) : MR f off m xs := fun p =>
  (h.2 p).trans ⟨fun ⟨j, _, h2, h3⟩ => ⟨j, h2, ho j h2, h3⟩, fun ⟨j, h2, _, h3⟩ => ⟨j, Nat.zero_le _, h2, h3⟩⟩
theorem MR.congr_ {f : Nat → Int} {off off2 : Nat → Bool} {m : Nat} {xs : List P2} (h : MR f off m xs) (e : ∀ j, j < m → off j = off2 j) : MR f off2 m xs := fun p =>
  (h p).trans ⟨fun ⟨j, h1, h2, h3⟩ => ⟨j, h1, by rw [← e j h1]; exact h2, h3⟩, fun ⟨j, h1, h2, h3⟩ => ⟨j, h1, by rw [e j h1]; exact h2, h3⟩⟩
theorem MR.found {f : Nat → Int} {off : Nat → Bool} {m : Nat} {xs : List P2} (h : MR f off m xs) (j : Nat) (h1 : j < m) (h2 : off j = false) : findN xs (j : Int) < xs.length :=
  (found_iff xs _).2 ⟨f j, (h _).2 ⟨j, h1, h2, rfl⟩⟩
theorem MR.absent {f : Nat → Int} {off : Nat → Bool} {m : Nat} {xs : List P2} (h : MR f off m xs) (id : Int) (h1 : ∀ j : Nat, j < m → off j = false → (j : Int) ≠ id) : ¬ findN xs id < xs.length := by
  rw [found_iff]
  rintro ⟨x, hx⟩
  obtain ⟨j, q1, q2, q3⟩ := (h _).1 hx
  injection q3 with _ q3
  exact h1 j q1 q2 q3.symm
theorem MR.cancel {f : Nat → Int} {off off2 : Nat → Bool} {m : Nat} {xs ys : List P2} (i : Nat) (h : MR f off m xs) (hm : ∀ p, p ∈ ys ↔ p ∈ xs ∧ p.2 ≠ (i : Int)) (e : ∀ j, j < m → off2 j = (off j || decide (j = i))) : MR f off2 m ys := fun p => by
  rw [hm p, h p]
  constructor
  · rintro ⟨⟨j, h1, h2, h3⟩, h4⟩
    have hj : j ≠ i := by
      rintro rfl
      rw [h3] at h4
      exact h4 rfl
    exact ⟨j, h1, by rw [e j h1, h2]; simp [hj], h3⟩
  · rintro ⟨j, h1, h2, h3⟩
    rw [e j h1] at h2
    simp at h2
    refine ⟨⟨j, h1, h2.1, h3⟩, ?_⟩
    rw [h3]
    simp
    omega
theorem MR.same {f : Nat → Int} {off : Nat → Bool} {m : Nat} {xs ys : List P2} (i : Nat) (h : MR f off m xs) (hm : ∀ p, p ∈ ys ↔ p ∈ xs ∧ p.2 ≠ (i : Int)) (e : i < m → off i = true) : MR f off m ys := fun p => by
  rw [hm p]
  refine ⟨fun q => (h p).1 q.1, fun q => ⟨(h p).2 q, ?_⟩⟩
  obtain ⟨j, h1, h2, h3⟩ := q
  rw [h3]
  intro e2
  have : j = i := by simp only at e2; omega
  subst this
  rw [e h1] at h2
  cases h2
/-- Is bit j set? -/
def bitI (b : Int) (j : Nat) : Bool := Go.bits BinOp.and IntKind.u32 (b / 2 ^ j) 1 == 1
theorem due_all (xs : List P2) (now : Int) (hg : HGood xs) (h : ∀ p, p ∈ xs → p.1 ≤ now) : (dueOf xs now).length = xs.length := by
  rw [dueP_length xs now hg]
  unfold dueP
  rw [List.filter_eq_self.2 (fun p hp => by simpa using h p ((inOrder_perm xs).mem_iff.1 hp)), (inOrder_perm xs).length_eq]
end HP
open HP
set_option maxRecDepth 20000 in
set_option maxHeartbeats 1500000 in
theorem timerCancelled_walk (many bits : Int) (w : World) (hb0 : 0 ≤ bits) (hb1 : bits ≤ 4294967295) :
    Calls Try.prog 5 #[.int .i64 many, .int .u32 bits] w fun e w' => e = .returned (.bool true) ∧ Below w.heap.size w w' := by
  obtain ⟨m, hm⟩ : ∃ m : Nat, 1 + lowI many 24 = (m : Int) := ⟨(1 + lowI many 24).toNat, by have := lowI_range many 24 (by omega); omega⟩
  have hmr : 1 ≤ m ∧ m ≤ 24 := by have := lowI_range many 24 (by omega); omega
  obtain ⟨hm1, hm24⟩ := hmr
  go_enter Try.func5, Try.ntmps5
  go_wp2_with (first
    | (go_at_call 11; refine (low_any _ 24 _ (by omega) (by omega)).mono ?_; rintro e w' ⟨rfl, rfl⟩)
    | (go_at_call 9; (refine (new_st w _ (m : Int) (Below.refl _ _) (by omega) (by omega)).mono ?_); rintro e w' ⟨w1, rfl, rfl, s1, b1⟩; have S1 := Lib.hid s1; clear s1 b1))
  go_loopw [8] (fun i0 wr => ∃ (k : Nat) (v1 : Value) (xs : List P2), k ≤ m ∧ i0 = .int .i64 k ∧ Hid (St w wr w.heap.size (m : Int) v1 xs) ∧ Hid (MM (fun j => 30 - (j : Int)) 0 k xs)) (fun i0 _ => m - (intOf i0).toNat)
  case atStart => exact ⟨0, _, [], by omega, rfl, S1, mm_nil _ _⟩
  case round =>
    obtain ⟨k, v1, xs, hk, rfl, H1, M1⟩ := hrel
    have l1 := M1.out.1
    by_cases hlt : k < m
    · go_wp2_with (first
        | (go_at_call 10; refine (set_st w _ _ (m : Int) _ xs _ _ H1.out (by omega) (by omega) (by omega) (.inr (by omega)) (by omega)).mono ?_; rintro e w' ⟨w3, v3, xs3, rfl, rfl, s3, q3, ln3, m3⟩; have T3 := Lib.hid (M1.out.right ln3 m3 rfl rfl (Nat.zero_le _)); have S3 := Lib.hid s3; clear s3 q3 ln3 m3))
      go_roundw
      case rel => exact ⟨k + 1, _, _, by omega, by go_num, S3, T3⟩
      case measure => simp [intOf]; omega
    · obtain rfl : k = m := by omega
      clear hlt
      have hab := M1.out.absent 99 (fun j _ hj => by omega)
      have HAB := Lib.hid hab
      have hlm : (xs.length : Int) = (k : Int) := by omega
      have HLM := Lib.hid hlm
      clear hab hlm
      go_wp2_with (first
        | (go_at_call 10; refine (set_st_full w _ _ (k : Int) _ xs _ _ H1.out (by omega) (by omega) (by omega) HAB.out HLM.out).mono ?_; rintro e w' ⟨w4, rfl, rfl, s4, b4⟩; have S4 := Lib.hid s4; clear s4 b4))
      go_loopw [7, 9] (fun n0 i0 wr => ∃ (i : Nat) (v2 : Value) (ys : List P2) (c : Nat), i ≤ k ∧ i0 = .int .i64 i ∧ n0 = .int .i64 c ∧ c ≤ i ∧ Hid (St w wr w.heap.size (k : Int) v2 ys) ∧ Hid (MR (fun j => 30 - (j : Int)) (fun j => decide (j < i) && bitI bits j) k ys) ∧ Hid (ys.length + c = k)) (fun _ i0 _ => k - (intOf i0).toNat)
      case atStart => exact ⟨0, _, xs, 0, by omega, rfl, rfl, by omega, S4, MR.of_mm M1.out _ (fun j _ => by simp), by unfold Hid; omega⟩
      case round =>
        obtain ⟨i, v2, ys, c, hi, rfl, rfl, hci, K1, N1, HL⟩ := hrel
        by_cases hlt2 : i < k
        · cases hb : bitI bits i with
          | true =>
            have hb1 : (Go.bits BinOp.and IntKind.u32 (bits / 2 ^ i) 1 == 1) = true := hb
            have hf := N1.out.found i hlt2 (by simp)
            have D1 : Hid (decide (findN ys (i : Int) < ys.length) = true) := by simp [Hid, hf]
            have N2 (zs : List P2) (hm : ∀ p, p ∈ zs ↔ p ∈ ys ∧ p.2 ≠ (i : Int)) : MR (fun j => 30 - (j : Int)) (fun j => decide (j < i + 1) && bitI bits j) k zs := N1.out.cancel i hm (fun j _ => by
              by_cases q : j = i
              · subst q; simp [hb]
              · by_cases q2 : j < i
                · simp [q, q2, show j < i + 1 by omega]
                · simp [q, q2, show ¬ j < i + 1 by omega])
            have HB := Lib.hid hb
            have HF := Lib.hid hf
            clear hb hf
            have tok1 : True := trivial
            go_wp2_with (first
              | (go_at_call 16; have _t := tok1; refine (cancel_st w _ _ (k : Int) _ ys _ K1.out).mono ?_; rintro e w' ⟨w5, v5, ys5, rfl, rfl, s5, q5, ln5, m5⟩; rw [D1.out]; have T5 := Lib.hid (N2 _ m5); have L5 := Lib.hid (ln5.trans (if_pos HF.out)); have A5 := Lib.hid (T5.out.absent (i : Int) (fun j _ ho e => by (have e2 : j = i := by omega); rw [e2] at ho; simp [HB.out] at ho)); have D5 : Hid (decide (findN ys5 (i : Int) < ys5.length) = false) := (by have := A5.out; simp only [Hid, decide_eq_false_iff_not]; exact this); have S5 := Lib.hid s5; clear s5 q5 ln5 m5 tok1)
              | (go_at_call 16; refine (cancel_st w _ _ (k : Int) _ ys5 _ S5.out).mono ?_; rintro e w' ⟨w6, v6, ys6, rfl, rfl, s6, q6, ln6, m6⟩; rw [D5.out]; have T6 := Lib.hid (T5.out.same i m6 (fun _ => by simp [HB.out])); have L6 := Lib.hid (ln6.trans (if_neg A5.out)); have S6 := Lib.hid s6; clear s6 q6 ln6 m6))
            go_roundw
            case rel => exact ⟨i + 1, _, _, c + 1, by omega, by go_num, by go_num, by omega, S6, T6, by have h1 := L5.out; have h2 := L6.out; have h3 := HL.out; have h4 := HF.out; unfold Hid; omega⟩
            case measure => simp [intOf]; omega
          | false =>
            have hb1 : (Go.bits BinOp.and IntKind.u32 (bits / 2 ^ i) 1 == 1) = false := hb
            have N2 : Hid (MR (fun j => 30 - (j : Int)) (fun j => decide (j < i + 1) && bitI bits j) k ys) := N1.out.congr_ (fun j _ => by
              by_cases q : j = i
              · subst q; simp [hb]
              · by_cases q2 : j < i
                · simp [q2, show j < i + 1 by omega]
                · simp [q2, show ¬ j < i + 1 by omega])
            clear hb
            go_wp2
            go_roundw
            case rel => exact ⟨i + 1, _, _, c, by omega, by go_num, rfl, by omega, K1, N2, HL⟩
            case measure => simp [intOf]; omega
        · obtain rfl : i = k := by omega
          clear hlt2
          have N3 : Hid (MR (fun j => 30 - (j : Int)) (bitI bits) i ys) := N1.out.congr_ (fun j hj => by simp [hj])
          have hda := due_all ys 100 K1.out.good (fun p hp => by
            obtain ⟨j, h1, _, h3⟩ := (N3.out p).1 hp
            rw [h3]
            show 30 - (j : Int) ≤ 100
            omega)
          have hlc := HL.out
          generalize hL : (dueOf ys 100).length = L at *
          have HLL := Lib.hid hL
          have hLc : L + c = i := by omega
          have HLY : Hid (ys.length = L) := hda.symm
          have hsub1 : ((i : Int) - (c : Int)) = (L : Int) := by omega
          clear hL hda hlc
          go_wp2_with (first
            | (go_at_call 13; refine (due_st w _ _ (i : Int) _ ys 100 K1.out).mono ?_; rintro e w' ⟨w7, A7, c7, rfl, rfl, s7, i7, b7, _⟩; rw [HLL.out] at i7; rw [HLL.out]; have S7 := Lib.hid s7; have I7 := Lib.hid i7; clear s7 i7 b7))
          go_loopw [11] (fun t0 wr => ∃ (t : Nat), t ≤ L ∧ t0 = .int .i64 t ∧ Hid (St w wr w.heap.size (i : Int) v2 ys) ∧ Hid (IReads wr A7 L (dueOf ys 100))) (fun t0 _ => L - (intOf t0).toNat)
          case atStart => exact ⟨0, by omega, rfl, S7, I7⟩
          case round =>
            obtain ⟨t, ht, rfl, K7, J7⟩ := hrel
            by_cases hlt3 : t < L
            · have hg := K7.out.good
              have val (s : Nat) (hs : s < L) : ∃ j : Nat, j < i ∧ bitI bits j = false ∧ gp (dueP ys 100) s = (30 - (j : Int), (j : Int)) ∧ ∃ ad, A7 = some ad ∧ wr.cell? (ad.add s) = some (.int .i64 (j : Int)) := by
                have hs2 : s < (dueOf ys 100).length := by rw [HLL.out]; exact hs
                obtain ⟨j, h1, h2, h3⟩ := (N3.out _).1 (due_in ys 100 hg s hs2).1
                obtain ⟨ad, hA, hc⟩ := J7.out.at_ s hs
                rw [due_gi ys 100 hg s hs2, h3] at hc
                exact ⟨j, h1, h2, h3, ad, hA, hc⟩
              obtain ⟨j, hj, hbj, hgj, ad, hA, hc⟩ := val t hlt3
              have hb1 : (Go.bits BinOp.and IntKind.u32 (bits / 2 ^ j) 1 == 1) = false := hbj
              have b1 : ¬ i ≤ j := by omega
              have b5 : decide ((i : Int) ≤ (j : Int)) = false := decide_eq_false (by omega)
              have b6 : decide ((j : Int) < 0) = false := decide_eq_false (by omega)
              rcases Nat.eq_zero_or_pos t with h0 | h0
              · have b2 : ¬ 0 < t := by omega
                have b7 : decide ((0 : Int) < (t : Int)) = false := decide_eq_false (by omega)
                clear val hgj hbj h0 hg
                subst hA
                go_wp2_with fail
                go_quiet (fail)
                go_wp2
                go_roundw
                case rel => exact ⟨t + 1, by omega, by go_num, K7.out.drewN _, J7.out.drewN _⟩
                case measure => simp [intOf]; omega
              · obtain ⟨s, hts⟩ : ∃ s, t = s + 1 := ⟨t - 1, by omega⟩
                obtain ⟨j0, hj0, _, hgj0, ad0, hA0, hc0⟩ := val s (by omega)
                have hsub : (t : Int) - 1 = (s : Int) := by omega
                have hsl : s < L := by omega
                have b7 : decide ((0 : Int) < (t : Int)) = true := decide_eq_true (by omega)
                have hord := due_ord ys 100 hg s (by rw [HLL.out]; omega)
                rw [← hts, hgj, hgj0] at hord
                have b3 : ¬ j0 ≤ j := by
                  simp only at hord
                  omega
                have b4 : decide ((j0 : Int) ≤ (j : Int)) = false := decide_eq_false (by omega)
                rw [hA] at hA0
                injection hA0 with hA0
                subst hA0
                clear val hgj hgj0 hbj hts hord hg
                subst hA
                go_wp2_with fail
                go_quiet (fail)
                go_wp2
                go_roundw
                case rel => exact ⟨t + 1, by omega, by go_num, K7.out.drewN _, J7.out.drewN _⟩
                case measure => simp [intOf]; omega
            · obtain rfl : t = L := by omega
              clear hlt3
              have hab := N3.out.absent 99 (fun j _ _ hj => by omega)
              have HAB := Lib.hid hab
              clear hab
              rcases Nat.eq_zero_or_pos c with h0 | h0
              · subst h0
                have hlm : Hid ((ys.length : Int) = (i : Int)) := by have := HLY.out; unfold Hid; omega
                go_wp2_with (first
                  | (go_at_call 10; refine (set_st_full w _ _ (i : Int) _ ys _ _ K7.out (by omega) (by omega) (by omega) HAB.out hlm.out).mono ?_; rintro e w' ⟨w8, rfl, rfl, s8, b8⟩; have S8 := Lib.hid s8; clear s8 b8)
                  | (go_at_call 8; refine (awake_any _).mono ?_; rintro e w' ⟨w10, rfl, rfl, b10⟩))
                go_ret
                exact ⟨rfl, (S8.out.below b10).bel⟩
              · have hlm : Hid ((ys.length : Int) ≠ (i : Int)) := by have := HLY.out; unfold Hid; omega
                have hsm : Hid (ys.length ≤ 500) := by have := HLY.out; unfold Hid; omega
                go_wp2_with (first
                  | (go_at_call 10; refine (set_st w _ _ (i : Int) _ ys _ _ K7.out (by omega) (by omega) (by omega) (.inr hlm.out) hsm.out).mono ?_; rintro e w' ⟨w8, v8, ys8, rfl, rfl, s8, q8, ln8, m8⟩; have S8 := Lib.hid s8; clear s8 q8 ln8 m8)
                  | (go_at_call 8; refine (awake_any _).mono ?_; rintro e w' ⟨w10, rfl, rfl, b10⟩))
                go_ret
                exact ⟨rfl, (S8.out.below b10).bel⟩
end Go.Proofs.Ytkjjdbbogfjdlaa
