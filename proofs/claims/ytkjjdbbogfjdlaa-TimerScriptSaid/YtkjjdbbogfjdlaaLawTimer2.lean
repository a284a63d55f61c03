/-
  The walk of inkhornlaw17.TimerTurned.
-/
import Derived.Test.YtkjjdbbogfjdlaaLawTimer
namespace Go.Proofs.Ytkjjdbbogfjdlaa
set_option linter.unusedVariables false
set_option linter.unusedSimpArgs false
open Go.RowKit
open HP
/-- The numbers from a to below b, each with its moment. -/
def MM (f : Nat → Int) (a b : Nat) (xs : List P2) : Prop := xs.length = b - a ∧ ∀ p, p ∈ xs ↔ ∃ j : Nat, a ≤ j ∧ j < b ∧ p = (f j, (j : Int))
theorem mm_nil (f : Nat → Int) (a : Nat) : MM f a a [] := ⟨by simp, fun p => Iff.intro (fun h => absurd h (by simp)) (fun ⟨j, h1, h2, _⟩ => absurd h2 (by omega))⟩
theorem MM.found {f : Nat → Int} {a b : Nat} {xs : List P2} (h : MM f a b xs) (j : Nat) (h1 : a ≤ j) (h2 : j < b) : findN xs (j : Int) < xs.length :=
  (found_iff xs _).2 ⟨f j, (h.2 _).2 ⟨j, h1, h2, rfl⟩⟩
theorem MM.absent {f : Nat → Int} {a b : Nat} {xs : List P2} (h : MM f a b xs) (id : Int) (h1 : ∀ j : Nat, a ≤ j → j < b → (j : Int) ≠ id) : ¬ findN xs id < xs.length := by
  rw [found_iff]
  rintro ⟨x, hx⟩
  obtain ⟨j, q1, q2, q3⟩ := (h.2 _).1 hx
  injection q3 with _ q3
  exact h1 j q1 q2 q3.symm
theorem MM.at_ {f : Nat → Int} {a b : Nat} {xs : List P2} (h : MM f a b xs) (hg : HGood xs) (j : Nat) (h1 : a ≤ j) (h2 : j < b) : atI xs (j : Int) = f j := atI_mem xs _ _ hg ((h.2 _).2 ⟨j, h1, h2, rfl⟩)
theorem MM.congr_ {f f2 : Nat → Int} {a b : Nat} {xs : List P2} (h : MM f a b xs) (e : ∀ j, a ≤ j → j < b → f j = f2 j) : MM f2 a b xs :=
  ⟨h.1, fun p => (h.2 p).trans ⟨fun ⟨j, q1, q2, q3⟩ => ⟨j, q1, q2, by rw [← e j q1 q2]; exact q3⟩, fun ⟨j, q1, q2, q3⟩ => ⟨j, q1, q2, by rw [e j q1 q2]; exact q3⟩⟩⟩
/-- One more ahead of those that are there. -/
theorem MM.left {f : Nat → Int} {a b : Nat} {xs ys : List P2} {id x : Int} (h : MM f (a + 1) b xs) (hl : ys.length = (if findN xs id < xs.length then xs.length else xs.length + 1)) (hm : ∀ p, p ∈ ys ↔ p = (x, id) ∨ (p ∈ xs ∧ p.2 ≠ id)) (hid : id = (a : Int)) (hx : x = f a) (hab : a < b) : MM f a b ys := by
  subst hid; subst hx
  rw [if_neg (h.absent _ (fun j h1 h2 => by omega))] at hl
  refine ⟨by rw [hl, h.1]; omega, fun p => (hm p).trans ⟨?_, ?_⟩⟩
  · rintro (q | ⟨q, _⟩)
    · exact ⟨a, Nat.le_refl _, hab, q⟩
    · obtain ⟨j, q1, q2, q3⟩ := (h.2 p).1 q
      exact ⟨j, by omega, q2, q3⟩
  · rintro ⟨j, q1, q2, q3⟩
    by_cases hj : j = a
    · subst hj; exact .inl q3
    · exact .inr ⟨(h.2 p).2 ⟨j, by omega, q2, q3⟩, by rw [q3]; simp; omega⟩
/-- One more behind those that are there. -/
theorem MM.right {f : Nat → Int} {a b : Nat} {xs ys : List P2} {id x : Int} (h : MM f a b xs) (hl : ys.length = (if findN xs id < xs.length then xs.length else xs.length + 1)) (hm : ∀ p, p ∈ ys ↔ p = (x, id) ∨ (p ∈ xs ∧ p.2 ≠ id)) (hid : id = (b : Int)) (hx : x = f b) (hab : a ≤ b) : MM f a (b + 1) ys := by
  subst hid; subst hx
  rw [if_neg (h.absent _ (fun j h1 h2 => by omega))] at hl
  refine ⟨by rw [hl, h.1]; omega, fun p => (hm p).trans ⟨?_, ?_⟩⟩
  · rintro (q | ⟨q, _⟩)
    · exact ⟨b, hab, by omega, q⟩
    · obtain ⟨j, q1, q2, q3⟩ := (h.2 p).1 q
      exact ⟨j, q1, by omega, q3⟩
  · rintro ⟨j, q1, q2, q3⟩
    by_cases hj : j = b
    · subst hj; exact .inl q3
    · exact .inr ⟨(h.2 p).2 ⟨j, q1, by omega, q3⟩, by rw [q3]; simp; omega⟩
/-- One of those that are there, anew. -/
theorem MM.anew {f f2 : Nat → Int} {a b i : Nat} {xs ys : List P2} {id x : Int} (h : MM f a b xs) (hl : ys.length = (if findN xs id < xs.length then xs.length else xs.length + 1)) (hm : ∀ p, p ∈ ys ↔ p = (x, id) ∨ (p ∈ xs ∧ p.2 ≠ id)) (hid : id = (i : Int)) (h1 : a ≤ i) (h2 : i < b) (hx : x = f2 i) (he : ∀ j, j ≠ i → f j = f2 j) : MM f2 a b ys := by
  subst hid; subst hx
  rw [if_pos (h.found i h1 h2)] at hl
  refine ⟨by rw [hl, h.1], fun p => (hm p).trans ⟨?_, ?_⟩⟩
  · rintro (q | ⟨q, q'⟩)
    · exact ⟨i, h1, h2, q⟩
    · obtain ⟨j, q1, q2, q3⟩ := (h.2 p).1 q
      have hj : j ≠ i := by
        rintro rfl
        rw [q3] at q'
        exact q' rfl
      exact ⟨j, q1, q2, by rw [← he j hj]; exact q3⟩
  · rintro ⟨j, q1, q2, q3⟩
    by_cases hj : j = i
    · subst hj; exact .inl q3
    · exact .inr ⟨(h.2 p).2 ⟨j, q1, q2, by rw [he j hj]; exact q3⟩, by rw [q3]; simp; omega⟩
/-- Rows of two timers are two. -/
def Apart (v u : Value) : Prop := ∀ c, u.ownBlock = some c → v.ownBlock ≠ some c
theorem Apart.symm {v u : Value} (h : Apart v u) : Apart u v := fun c hc hu => h c hu hc
theorem sameints_of (A B : Option Addr) (n m c d : Nat) (xs ys : List Int) (w : World) (hx : IReads w A n xs) (hy : IReads w B m ys) (h : xs = ys) :
    Calls Try.prog 12 #[.slice A n c, .slice B m d] w fun e w' => ∃ w2, e = .returned (.bool true) ∧ w2 = w' ∧ Below w.heap.size w w2 := by
  subst h
  exact sameints_eq A B n m c d xs w hx hy
def lowAt (zs : List Int) (n : Int) (j : Nat) : Int := lowI (gi zs j) n
set_option maxHeartbeats 4000000 in
theorem timerTurned_walk (A : Option Addr) (n cap : Nat) (zs : List Int) (now : Int) (w : World) (h : IReads w A n zs) :
    Calls Try.prog 3 #[.slice A n cap, .int .i64 now] w fun e w' => e = .returned (.bool true) ∧ Below w.heap.size w w' := by
  have hn := h.2.1
  have HI := Lib.hid h
  clear h
  by_cases hbig : 24 < n
  · go_enter Try.func3, Try.ntmps3
    go_wp2_with (go_at_call 8; refine (awake_any _).mono ?_; rintro e w' ⟨w1, rfl, rfl, b1⟩)
    go_ret
    exact ⟨rfl, b1⟩
  · have hn24 : n ≤ 24 := by omega
    clear hbig
    have tok1 : True := trivial
    go_enter Try.func3, Try.ntmps3
    go_wp2_with (first
      | (go_at_call 9; have _t := tok1; (refine (new_st w _ 24 (Below.refl _ _) (by omega) (by omega)).mono ?_); rintro e w' ⟨w1, rfl, rfl, s1, b1⟩; have S1 := Lib.hid s1; have B1 := Lib.hid b1; clear s1 b1 tok1)
      | (go_at_call 9; (refine (new_st w _ 24 S1.out.bel (by omega) (by omega)).mono ?_); rintro e w' ⟨w2, rfl, rfl, s2, b2⟩; have S2 := Lib.hid s2; have B2 := Lib.hid b2; clear s2 b2))
    have SA := Lib.hid (S1.out.below B2.out)
    have HG : Hid (w.heap.size ≠ w1.heap.size) := by
      have := S1.out.tm.blk.lt
      unfold Hid; omega
    go_loopw [9, 10] (fun i0 k0 wr => ∃ (k : Nat) (v1 v2 : Value) (xs ys : List P2), k ≤ n ∧ i0 = .int .i64 k ∧ Hid (St w wr w.heap.size 24 v1 xs) ∧ Hid (St w wr w1.heap.size 24 v2 ys) ∧ Hid (Apart v1 v2) ∧ Hid (MM (lowAt zs 50) 0 k xs) ∧ Hid (MM (fun _ => 7) (n - k) n ys)) (fun i0 _ _ => n - (intOf i0).toNat)
    case atStart => exact ⟨0, _, _, [], [], by omega, rfl, SA, S2, (fun c hc => by simp [Value.ownBlock] at hc), mm_nil _ _, mm_nil _ _⟩
    case round =>
      obtain ⟨k, v1, v2, xs, ys, hk, rfl, H1, H2, HA, M1, M2⟩ := hrel
      by_cases hlt : k < n
      · obtain ⟨ad, hA, hc⟩ := (HI.out.below H1.out.bel).at_ k hlt
        subst hA
        have hl := lowI_range (gi zs k) 50 (by omega)
        have l1 := M1.out.1
        have l2 := M2.out.1
        have tok1 : True := trivial
        go_wp2_with (first
          | (go_at_call 11; refine (low_any _ 50 _ (by omega) (by omega)).mono ?_; rintro e w' ⟨rfl, rfl⟩)
          | (go_at_call 10; have _t := tok1; refine (set_st w _ _ 24 _ xs _ _ H1.out (by omega) hl.1 (by omega) (.inr (by omega)) (by omega)).mono ?_; rintro e w' ⟨w3, v3, xs3, rfl, rfl, s3, q3, ln3, m3⟩; have T3 := Lib.hid (M1.out.right ln3 m3 rfl rfl (Nat.zero_le _)); have P3 := Lib.hid (H1.out.other H2.out q3 HG.out HA.out); have S3 := Lib.hid s3; clear s3 q3 ln3 m3 tok1)
          | (go_at_call 10; refine (set_st w _ _ 24 _ ys _ 7 P3.out.1 (by omega) (by omega) (by omega) (.inr (by omega)) (by omega)).mono ?_; rintro e w' ⟨w4, v4, ys4, rfl, rfl, s4, q4, ln4, m4⟩; have T4 := Lib.hid (MM.left (a := n - (k + 1)) (by rw [show n - (k + 1) + 1 = n - k by omega]; exact M2.out) ln4 m4 (by omega) rfl (by omega)); have P4 := Lib.hid (P3.out.1.other S3.out q4 HG.out.symm (Apart.symm P3.out.2)); have S4 := Lib.hid s4; clear s4 q4 ln4 m4))
        go_roundw
        case rel => exact ⟨k + 1, _, _, _, _, by omega, by go_num, P4.out.1, S4, Apart.symm P4.out.2, T3, T4⟩
        case measure => simp [intOf]; omega
      · obtain rfl : k = n := by omega
        have M3 : Hid (MM (fun j => if j < 0 then lowAt zs 50 j else 7) 0 k ys) := by
          have := M2.out
          rw [Nat.sub_self] at this
          exact this.congr_ (fun j _ _ => by simp)
        have HI2 := HI
        have hn2 := hn24
        generalize hkk : k = n at *
        go_wp2
        go_loopw [11] (fun i0 wr => ∃ (i : Nat) (v2 : Value) (ys : List P2), i ≤ n ∧ i0 = .int .i64 i ∧ Hid (St w wr w.heap.size 24 v1 xs) ∧ Hid (St w wr w1.heap.size 24 v2 ys) ∧ Hid (Apart v2 v1) ∧ Hid (MM (fun j => if j < i then lowAt zs 50 j else 7) 0 n ys)) (fun i0 _ => n - (intOf i0).toNat)
        case atStart => exact ⟨0, _, ys, by omega, rfl, H1, H2, Apart.symm HA.out, M3⟩
        case round =>
          obtain ⟨i, v5, ys5, hi, rfl, K1, K2, KA, N2⟩ := hrel
          by_cases hlt2 : i < n
          · obtain ⟨ad, hA, hc⟩ := (HI.out.below K1.out.bel).at_ i hlt2
            subst hA
            have hl := lowI_range (gi zs i) 50 (by omega)
            have l2 := N2.out.1
            go_wp2_with (first
              | (go_at_call 11; refine (low_any _ 50 _ (by omega) (by omega)).mono ?_; rintro e w' ⟨rfl, rfl⟩)
              | (go_at_call 10; refine (set_st w _ _ 24 _ ys5 _ _ K2.out (by omega) hl.1 (by omega) (.inl (N2.out.found i (Nat.zero_le _) hlt2)) (by omega)).mono ?_; rintro e w' ⟨w6, v6, ys6, rfl, rfl, s6, q6, ln6, m6⟩; have T6 := Lib.hid (N2.out.anew (f2 := fun j => if j < i + 1 then lowAt zs 50 j else 7) ln6 m6 rfl (Nat.zero_le _) hlt2 (by simp [lowAt]) (fun j hj => by by_cases q : j < i <;> simp [q] <;> omega)); have P6 := Lib.hid (K2.out.other K1.out q6 HG.out.symm KA.out); have S6 := Lib.hid s6; clear s6 q6 ln6 m6))
            go_roundw
            case rel => exact ⟨i + 1, _, _, by omega, by go_num, P6.out.1, S6, P6.out.2, T6⟩
            case measure => simp [intOf]; omega
          · obtain rfl : i = n := by omega
            have N3 : Hid (MM (lowAt zs 50) 0 i ys5) := N2.out.congr_ (fun j _ hj => by simp [hj])
            have hcg (t : Int) : dueOf xs t = dueOf ys5 t := dueOf_congr xs ys5 t K1.out.good K2.out.good (fun p => by rw [M1.out.2 p, N3.out.2 p])
            have HC := Lib.hid (hcg (lowI now 60))
            have L1 : Hid (xs.length = i) := M1.out.1
            have L2 : Hid (ys5.length = i) := N3.out.1
            clear hcg
            have tok1 : True := trivial
            have tok2 : True := trivial
            go_wp2_with (first
              | (go_at_call 11; refine (low_any _ 60 _ (by omega) (by omega)).mono ?_; rintro e w' ⟨rfl, rfl⟩)
              | (go_at_call 13; have _t := tok1; refine (due_st w _ _ 24 _ xs _ K1.out).mono ?_; rintro e w' ⟨w7, A7, c7, rfl, rfl, s7, i7, b7, _⟩; have S7 := Lib.hid s7; have I7 := Lib.hid i7; have S7' := Lib.hid (K2.out.below b7); clear s7 i7 b7 tok1)
              | (go_at_call 13; refine (due_st w _ _ 24 _ ys5 _ S7'.out).mono ?_; rintro e w' ⟨w8, A8, c8, rfl, rfl, s8, i8, b8, _⟩; have S8 := Lib.hid s8; have I8 := Lib.hid i8; have S8' := Lib.hid (S7.out.below b8); have I78 := Lib.hid (I7.out.below b8); clear s8 i8 b8)
              | (go_at_call 12; refine (sameints_of A7 A8 _ _ c7 c8 _ _ _ I78.out I8.out HC.out).mono ?_; rintro e w' ⟨w9, rfl, rfl, b9⟩; have S9 := Lib.hid (S8.out.below b9); have S9' := Lib.hid (S8'.out.below b9); clear b9)
              | (go_at_call 14; have _t := tok2; refine (len_st w _ _ 24 _ xs S9'.out).mono ?_; rintro e w' ⟨rfl, rfl⟩; rw [L1.out]; clear tok2)
              | (go_at_call 14; refine (len_st w _ _ 24 _ ys5 S9.out).mono ?_; rintro e w' ⟨rfl, rfl⟩; rw [L2.out])
              | (go_at_call 8; refine (awake_any _).mono ?_; rintro e w' ⟨w10, rfl, rfl, b10⟩))
            go_ret
            exact ⟨rfl, (S9.out.below b10).bel⟩
end Go.Proofs.Ytkjjdbbogfjdlaa
