/-
  inkhornref1's one, Good, Runes, Len, Word, Asked; both programs count alike.
-/
import Derived.Test.YtajhkjikcgfhdaaUtfRef
namespace Go.Proofs.Ytajhkjikcgfhdaa
set_option linter.unusedVariables false
set_option linter.unusedSimpArgs false
set_option maxRecDepth 20000
open Go.RowKit
/-- The rune at a place and how many bytes it has, out of the first byte and what the next three tell. -/
def oneI (c a b d : Int) (x y z : Bool) : Int × Int :=
  if c < 128 then (c, 1)
  else if 194 ≤ c ∧ c ≤ 223 ∧ x = true then ((c - 192) * 64 + a, 2)
  else if 224 ≤ c ∧ c ≤ 239 ∧ x = true ∧ y = true then ((c - 224) * 4096 + a * 64 + b, 3)
  else if 240 ≤ c ∧ c ≤ 244 ∧ x = true ∧ y = true ∧ z = true then ((c - 240) * 262144 + a * 4096 + b * 64 + d, 4)
  else (0, 0)
set_option maxHeartbeats 4000000 in
theorem one_cases (s : ByteArray) (i : Nat) (w : World) (hi : i < s.size) (hs : s.size ≤ 9223372036854775000) (c a b d R N : Int) (x y z : Bool)
    (hc : bI s i = c) (hx : moreB s (i + 1) = x) (hy : moreB s (i + 2) = y) (hz : moreB s (i + 3) = z) (ha : moreR s (i + 1) = a) (hb : moreR s (i + 2) = b) (hd : moreR s (i + 3) = d) (hR : oneI c a b d x y z = (R, N)) :
    Calls Try.prog 96 #[.string s, .int .i64 i] w fun e w' => e = .returned (.tuple #[.int .i32 R, .int .i64 N]) ∧ w = w' := by
  have hc' : ((s[i]'hi).toNat : Int) = c := (bI_at s i hi).trans hc
  obtain ⟨c0, c1⟩ := bI_range s i
  rw [hc] at c0 c1
  obtain ⟨a0, a1⟩ := moreR_range s (i + 1)
  obtain ⟨b0, b1⟩ := moreR_range s (i + 2)
  obtain ⟨d0, d1⟩ := moreR_range s (i + 3)
  rw [ha] at a0 a1
  rw [hb] at b0 b1
  rw [hd] at d0 d1
  have HX := Lib.hid hx
  have HY := Lib.hid hy
  have HZ := Lib.hid hz
  have HA := Lib.hid ha
  have HB := Lib.hid hb
  have HD := Lib.hid hd
  clear hx hy hz ha hb hd hc
  have M1 : Hid (∀ w : World, Calls Try.prog 99 #[.string s, .int .i64 ((i : Int) + 1)] w fun e w' => e = .returned (.tuple #[.int .i32 a, .bool x]) ∧ w = w') := fun w => by
    have := more_any s (i + 1) w (by omega) hs
    rwa [HA.out, HX.out] at this
  have M2 : Hid (∀ w : World, Calls Try.prog 99 #[.string s, .int .i64 ((i : Int) + 2)] w fun e w' => e = .returned (.tuple #[.int .i32 b, .bool y]) ∧ w = w') := fun w => by
    have := more_any s (i + 2) w (by omega) hs
    rwa [HB.out, HY.out] at this
  have M3 : Hid (∀ w : World, Calls Try.prog 99 #[.string s, .int .i64 ((i : Int) + 3)] w fun e w' => e = .returned (.tuple #[.int .i32 d, .bool z]) ∧ w = w') := fun w => by
    have := more_any s (i + 3) w (by omega) hs
    rwa [HD.out, HZ.out] at this
  clear HX HY HZ HA HB HD
  unfold oneI at hR
  by_cases g1 : c < 128
  · rw [if_pos g1] at hR
    injection hR with r1 r2
    subst r1
    subst r2
    go_enter Try.func96, Try.ntmps96
    go_wp2_with (first
      | (go_at_call 99; (with_reducible refine (M1.out _).mono ?_); rintro e w' ⟨rfl, rfl⟩)
      | (go_at_call 99; (with_reducible refine (M2.out _).mono ?_); rintro e w' ⟨rfl, rfl⟩)
      | (go_at_call 99; (with_reducible refine (M3.out _).mono ?_); rintro e w' ⟨rfl, rfl⟩))
    go_ret2
    exact ⟨rfl, rfl⟩
  rw [if_neg g1] at hR
  by_cases g2 : 194 ≤ c
  · by_cases g3 : c ≤ 223
    · cases x with
      | true =>
        rw [if_pos ⟨g2, g3, rfl⟩] at hR
        injection hR with r1 r2
        subst r1
        subst r2
        go_enter Try.func96, Try.ntmps96
        go_wp2_with (first
          | (go_at_call 99; (with_reducible refine (M1.out _).mono ?_); rintro e w' ⟨rfl, rfl⟩)
          | (go_at_call 99; (with_reducible refine (M2.out _).mono ?_); rintro e w' ⟨rfl, rfl⟩)
          | (go_at_call 99; (with_reducible refine (M3.out _).mono ?_); rintro e w' ⟨rfl, rfl⟩))
        go_ret2
        exact ⟨rfl, rfl⟩
      | false =>
        rw [if_neg (fun h => by cases h.2.2), if_neg (by omega), if_neg (by omega)] at hR
        injection hR with r1 r2
        subst r1
        subst r2
        go_enter Try.func96, Try.ntmps96
        go_wp2_with (first
          | (go_at_call 99; (with_reducible refine (M1.out _).mono ?_); rintro e w' ⟨rfl, rfl⟩)
          | (go_at_call 99; (with_reducible refine (M2.out _).mono ?_); rintro e w' ⟨rfl, rfl⟩)
          | (go_at_call 99; (with_reducible refine (M3.out _).mono ?_); rintro e w' ⟨rfl, rfl⟩))
        go_ret2
        exact ⟨rfl, rfl⟩
    · rw [if_neg (by omega)] at hR
      have n1 : 224 ≤ c := by omega
      have n2 : decide (c ≤ 223) = false := decide_eq_false g3
      by_cases g4 : c ≤ 239
      · have n3 : ¬ 240 ≤ c := by omega
        have n4 : decide (240 ≤ c) = false := decide_eq_false n3
        clear g2
        have g2 : 194 ≤ c := by omega
        cases x with
        | true =>
          cases y with
          | true =>
            rw [if_pos ⟨n1, g4, rfl, rfl⟩] at hR
            injection hR with r1 r2
            subst r1
            subst r2
            go_enter Try.func96, Try.ntmps96
            go_wp2_with (first
              | (go_at_call 99; (with_reducible refine (M1.out _).mono ?_); rintro e w' ⟨rfl, rfl⟩)
              | (go_at_call 99; (with_reducible refine (M2.out _).mono ?_); rintro e w' ⟨rfl, rfl⟩)
              | (go_at_call 99; (with_reducible refine (M3.out _).mono ?_); rintro e w' ⟨rfl, rfl⟩))
            go_ret2
            exact ⟨rfl, rfl⟩
          | false =>
            rw [if_neg (fun h => by cases h.2.2.2), if_neg (by omega)] at hR
            injection hR with r1 r2
            subst r1
            subst r2
            go_enter Try.func96, Try.ntmps96
            go_wp2_with (first
              | (go_at_call 99; (with_reducible refine (M1.out _).mono ?_); rintro e w' ⟨rfl, rfl⟩)
              | (go_at_call 99; (with_reducible refine (M2.out _).mono ?_); rintro e w' ⟨rfl, rfl⟩)
              | (go_at_call 99; (with_reducible refine (M3.out _).mono ?_); rintro e w' ⟨rfl, rfl⟩))
            go_ret2
            exact ⟨rfl, rfl⟩
        | false =>
          rw [if_neg (fun h => by cases h.2.2.1), if_neg (by omega)] at hR
          injection hR with r1 r2
          subst r1
          subst r2
          go_enter Try.func96, Try.ntmps96
          go_wp2_with (first
            | (go_at_call 99; (with_reducible refine (M1.out _).mono ?_); rintro e w' ⟨rfl, rfl⟩)
            | (go_at_call 99; (with_reducible refine (M2.out _).mono ?_); rintro e w' ⟨rfl, rfl⟩)
            | (go_at_call 99; (with_reducible refine (M3.out _).mono ?_); rintro e w' ⟨rfl, rfl⟩))
          go_ret2
          exact ⟨rfl, rfl⟩
      · rw [if_neg (by omega)] at hR
        have n3 : 240 ≤ c := by omega
        have n4 : decide (c ≤ 239) = false := decide_eq_false g4
        by_cases g5 : c ≤ 244
        · cases x with
          | true =>
            cases y with
            | true =>
              cases z with
              | true =>
                rw [if_pos ⟨n3, g5, rfl, rfl, rfl⟩] at hR
                injection hR with r1 r2
                subst r1
                subst r2
                go_enter Try.func96, Try.ntmps96
                go_wp2_with (first
                  | (go_at_call 99; (with_reducible refine (M1.out _).mono ?_); rintro e w' ⟨rfl, rfl⟩)
                  | (go_at_call 99; (with_reducible refine (M2.out _).mono ?_); rintro e w' ⟨rfl, rfl⟩)
                  | (go_at_call 99; (with_reducible refine (M3.out _).mono ?_); rintro e w' ⟨rfl, rfl⟩))
                go_ret2
                exact ⟨rfl, rfl⟩
              | false =>
                rw [if_neg (fun h => by cases h.2.2.2.2)] at hR
                injection hR with r1 r2
                subst r1
                subst r2
                go_enter Try.func96, Try.ntmps96
                go_wp2_with (first
                  | (go_at_call 99; (with_reducible refine (M1.out _).mono ?_); rintro e w' ⟨rfl, rfl⟩)
                  | (go_at_call 99; (with_reducible refine (M2.out _).mono ?_); rintro e w' ⟨rfl, rfl⟩)
                  | (go_at_call 99; (with_reducible refine (M3.out _).mono ?_); rintro e w' ⟨rfl, rfl⟩))
                go_ret2
                exact ⟨rfl, rfl⟩
            | false =>
              rw [if_neg (fun h => by cases h.2.2.2.1)] at hR
              injection hR with r1 r2
              subst r1
              subst r2
              go_enter Try.func96, Try.ntmps96
              go_wp2_with (first
                | (go_at_call 99; (with_reducible refine (M1.out _).mono ?_); rintro e w' ⟨rfl, rfl⟩)
                | (go_at_call 99; (with_reducible refine (M2.out _).mono ?_); rintro e w' ⟨rfl, rfl⟩)
                | (go_at_call 99; (with_reducible refine (M3.out _).mono ?_); rintro e w' ⟨rfl, rfl⟩))
              go_ret2
              exact ⟨rfl, rfl⟩
          | false =>
            rw [if_neg (fun h => by cases h.2.2.1)] at hR
            injection hR with r1 r2
            subst r1
            subst r2
            go_enter Try.func96, Try.ntmps96
            go_wp2_with (first
              | (go_at_call 99; (with_reducible refine (M1.out _).mono ?_); rintro e w' ⟨rfl, rfl⟩)
              | (go_at_call 99; (with_reducible refine (M2.out _).mono ?_); rintro e w' ⟨rfl, rfl⟩)
              | (go_at_call 99; (with_reducible refine (M3.out _).mono ?_); rintro e w' ⟨rfl, rfl⟩))
            go_ret2
            exact ⟨rfl, rfl⟩
        · rw [if_neg (by omega)] at hR
          injection hR with r1 r2
          subst r1
          subst r2
          have n5 : decide (c ≤ 244) = false := decide_eq_false g5
          go_enter Try.func96, Try.ntmps96
          go_wp2_with (first
            | (go_at_call 99; (with_reducible refine (M1.out _).mono ?_); rintro e w' ⟨rfl, rfl⟩)
            | (go_at_call 99; (with_reducible refine (M2.out _).mono ?_); rintro e w' ⟨rfl, rfl⟩)
            | (go_at_call 99; (with_reducible refine (M3.out _).mono ?_); rintro e w' ⟨rfl, rfl⟩))
          go_ret2
          exact ⟨rfl, rfl⟩
  · rw [if_neg (by omega), if_neg (by omega), if_neg (by omega)] at hR
    injection hR with r1 r2
    subst r1
    subst r2
    have n1 : ¬ 224 ≤ c := by omega
    have n2 : ¬ 240 ≤ c := by omega
    go_enter Try.func96, Try.ntmps96
    go_wp2_with (first
      | (go_at_call 99; (with_reducible refine (M1.out _).mono ?_); rintro e w' ⟨rfl, rfl⟩)
      | (go_at_call 99; (with_reducible refine (M2.out _).mono ?_); rintro e w' ⟨rfl, rfl⟩)
      | (go_at_call 99; (with_reducible refine (M3.out _).mono ?_); rintro e w' ⟨rfl, rfl⟩))
    go_ret2
    exact ⟨rfl, rfl⟩
end Go.Proofs.Ytajhkjikcgfhdaa
