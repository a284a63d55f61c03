/-
  inkhornref1's Good, Runes, Len, Word, Asked; both programs count alike.
-/
import Derived.Test.YtajhkjikcgfhdaaUtfRef2
namespace Go.Proofs.Ytajhkjikcgfhdaa
set_option linter.unusedVariables false
set_option linter.unusedSimpArgs false
set_option maxRecDepth 20000
open Go.RowKit
def goodB (r : Int) : Bool := decide (0 ≤ r ∧ r ≤ 1114111 ∧ (r < 55296 ∨ 57343 < r) ∧ r ≠ 65533)
def badB (r n : Int) : Bool := decide (n = 0 ∨ goodB r = false ∨ (n = 3 ∧ r < 2048) ∨ (n = 4 ∧ r < 65536))
/-- What inkhornref1.one answers at a place. -/
def oneAt (s : ByteArray) (i : Nat) : Int × Int := oneI (bI s i) (moreR s (i + 1)) (moreR s (i + 2)) (moreR s (i + 3)) (moreB s (i + 1)) (moreB s (i + 2)) (moreB s (i + 3))
theorem one_any (s : ByteArray) (i : Nat) (w : World) (hi : i < s.size) (hs : s.size ≤ 9223372036854775000) :
    Calls Try.prog 96 #[.string s, .int .i64 i] w fun e w' => e = .returned (.tuple #[.int .i32 (oneAt s i).1, .int .i64 (oneAt s i).2]) ∧ w = w' :=
  one_cases s i w hi hs _ _ _ _ _ _ _ _ _ rfl rfl rfl rfl rfl rfl rfl rfl
theorem oneI_n (c a b d : Int) (x y z : Bool) : (oneI c a b d x y z).2 = 0 ∨ (oneI c a b d x y z).2 = 1 ∨ (oneI c a b d x y z).2 = 2 ∨ (oneI c a b d x y z).2 = 3 ∨ (oneI c a b d x y z).2 = 4 := by
  unfold oneI
  repeat' split
  all_goals simp
theorem moreB_iff0 (s : ByteArray) (i : Nat) : moreB s i = true ↔ (i < s.size ∧ 128 ≤ bI s i ∧ bI s i ≤ 191) := by
  unfold moreB
  exact decide_eq_true_iff
theorem moreB_iff (s : ByteArray) (i k : Nat) : moreB s (i + k) = true ↔ (k < s.size - i ∧ (s.get! (i + k)).toNat / 64 = 2) := by
  rw [moreB_iff0]
  have := (s.get! (i + k)).toNat_lt
  unfold bI
  generalize (s.get! (i + k)).toNat = b at *
  constructor
  · rintro ⟨h1, h2, h3⟩
    exact ⟨by omega, by omega⟩
  · rintro ⟨h1, h2⟩
    exact ⟨by omega, by omega, by omega⟩
theorem moreR_mod (s : ByteArray) (i : Nat) (h : moreB s i = true) : moreR s i = ((s.get! i).toNat % 64 : Nat) := by
  obtain ⟨_, h1, h2⟩ := (moreB_iff0 s i).1 h
  unfold moreR
  rw [if_pos h]
  unfold bI at *
  generalize (s.get! i).toNat = b at *
  omega
set_option maxHeartbeats 4000000 in
/-- The document's way to read a rune is Go's. -/
theorem one_decode (s : ByteArray) (i : Nat) (hi : i < s.size) :
    (badB (oneAt s i).1 (oneAt s i).2 = true → (Utf8.decode s i).1 = 65533) ∧
    (badB (oneAt s i).1 (oneAt s i).2 = false → (Utf8.decode s i).1 ≠ 65533 ∧ ((Utf8.decode s i).1 : Int) = (oneAt s i).1 ∧ ((Utf8.decode s i).2 : Int) = (oneAt s i).2) := by
  rw [Lib.decode_at s i]
  have c1 := (s.get! i).toNat_lt
  have hx := moreB_iff s i 1
  have hy := moreB_iff s i 2
  have hz := moreB_iff s i 3
  have hxr := moreR_mod s (i + 1)
  have hyr := moreR_mod s (i + 2)
  have hzr := moreR_mod s (i + 3)
  unfold oneAt
  have hn : 0 < s.size - i := by omega
  rw [show bI s i = ((s.get! i).toNat : Int) from rfl]
  generalize s.size - i = n at *
  generalize (s.get! i).toNat = b0 at *
  generalize (s.get! (i + 1)).toNat = b1 at *
  generalize (s.get! (i + 2)).toNat = b2 at *
  generalize (s.get! (i + 3)).toNat = b3 at *
  generalize moreR s (i + 1) = r1 at *
  generalize moreR s (i + 2) = r2 at *
  generalize moreR s (i + 3) = r3 at *
  generalize moreB s (i + 1) = x at *
  generalize moreB s (i + 2) = y at *
  generalize moreB s (i + 3) = z at *
  have hx' : (1 < n ∧ b1 / 64 = 2) = (x = true) := propext hx.symm
  have hy' : (2 < n ∧ b2 / 64 = 2) = (y = true) := propext hy.symm
  have hz' : (3 < n ∧ b3 / 64 = 2) = (z = true) := propext hz.symm
  obtain ⟨p, hp⟩ : ∃ p, oneI (b0 : Int) r1 r2 r3 x y z = p := ⟨_, rfl⟩
  obtain ⟨q, hq⟩ : ∃ q, Lib.decodeN n b0 b1 b2 b3 = q := ⟨_, rfl⟩
  rw [hp, hq]
  unfold oneI at hp
  unfold Lib.decodeN at hq
  unfold badB goodB
  simp only [hx', hy', hz'] at hq
  simp only [decide_eq_true_eq, decide_eq_false_iff_not]
  clear hx hy hz hx' hy' hz' hi
  by_cases g1 : b0 < 128
  · rw [if_pos (by omega)] at hp
    rw [if_pos g1] at hq
    subst hp
    subst hq
    refine ⟨fun h => ?_, fun h => ⟨?_, ?_, ?_⟩⟩ <;> simp only [true_and] at * <;> omega
  rw [if_neg (by omega)] at hp
  rw [if_neg g1] at hq
  cases x with
  | false =>
    rw [if_neg (fun h => by cases h.2.2), if_neg (fun h => by cases h.2.2.1), if_neg (fun h => by cases h.2.2.1)] at hp
    rw [if_neg (fun h => by cases h.2), if_neg (fun h => by cases h.2.1), if_neg (fun h => by cases h.2.1)] at hq
    subst hp
    subst hq
    simp
  | true =>
    have hxr' := hxr rfl
    clear hxr
    by_cases g2 : 194 ≤ b0 ∧ b0 ≤ 223
    · rw [if_pos ⟨by omega, by omega, rfl⟩] at hp
      rw [if_pos ⟨by omega, rfl⟩] at hq
      subst hp
      split at hq <;> subst hq <;> (refine ⟨fun h => ?_, fun h => ⟨?_, ?_, ?_⟩⟩) <;> simp only [true_and] at * <;> omega
    rw [if_neg (by omega)] at hp
    by_cases g2' : b0 / 32 = 6
    · rw [if_neg (by omega), if_neg (by omega)] at hp
      rw [if_pos ⟨g2', rfl⟩, if_neg (by omega)] at hq
      subst hp
      subst hq
      simp
    rw [if_neg (fun h => g2' h.1)] at hq
    cases y with
    | false =>
      rw [if_neg (fun h => by cases h.2.2.2), if_neg (fun h => by cases h.2.2.2.1)] at hp
      rw [if_neg (fun h => by cases h.2.2), if_neg (fun h => by cases h.2.2.1)] at hq
      subst hp
      subst hq
      simp
    | true =>
      have hyr' := hyr rfl
      clear hyr
      by_cases g3 : b0 / 16 = 14
      · rw [if_pos ⟨by omega, by omega, rfl, rfl⟩] at hp
        rw [if_pos ⟨g3, rfl, rfl⟩] at hq
        subst hp
        split at hq <;> subst hq <;> (refine ⟨fun h => ?_, fun h => ⟨?_, ?_, ?_⟩⟩) <;> simp only [true_and] at * <;> omega
      rw [if_neg (by omega)] at hp
      rw [if_neg (fun h => g3 h.1)] at hq
      cases z with
      | false =>
        rw [if_neg (fun h => by cases h.2.2.2.2)] at hp
        rw [if_neg (fun h => by cases h.2.2.2)] at hq
        subst hp
        subst hq
        simp
      | true =>
        have hzr' := hzr rfl
        clear hzr
        by_cases g4 : 240 ≤ b0 ∧ b0 ≤ 244
        · rw [if_pos ⟨by omega, by omega, rfl, rfl, rfl⟩] at hp
          rw [if_pos ⟨by omega, rfl, rfl, rfl⟩] at hq
          subst hp
          split at hq <;> subst hq <;> (refine ⟨fun h => ?_, fun h => ⟨?_, ?_, ?_⟩⟩) <;> simp only [true_and] at * <;> omega
        rw [if_neg (by omega)] at hp
        by_cases g5 : b0 / 8 = 30
        · rw [if_pos ⟨g5, rfl, rfl, rfl⟩, if_neg (by omega)] at hq
          subst hp
          subst hq
          simp
        · rw [if_neg (fun h => g5 h.1)] at hq
          subst hp
          subst hq
          simp
set_option maxHeartbeats 1000000 in
theorem good_any (r : Int) (w : World) :
    Calls Try.prog 97 #[.int .i32 r] w fun e w' => e = .returned (.bool (goodB r)) ∧ w = w' := by
  by_cases h1 : 0 ≤ r
  · by_cases h2 : r ≤ 1114111
    · by_cases h3 : r < 55296
      · rw [show goodB r = (r != 65533) by unfold goodB; rw [Bool.eq_iff_iff]; simp [h1, h2, h3]]
        go_enter Try.func97, Try.ntmps97
        go_wp2
        go_ret
        exact ⟨rfl, rfl⟩
      · have h3' : decide (r < 55296) = false := decide_eq_false h3
        by_cases h4 : 57343 < r
        · rw [show goodB r = (r != 65533) by unfold goodB; rw [Bool.eq_iff_iff]; simp [h1, h2, h4]]
          go_enter Try.func97, Try.ntmps97
          go_wp2
          go_ret
          exact ⟨rfl, rfl⟩
        · have h4' : decide (57343 < r) = false := decide_eq_false h4
          rw [show goodB r = false from decide_eq_false (by omega)]
          go_enter Try.func97, Try.ntmps97
          go_wp2
          go_ret
          exact ⟨rfl, rfl⟩
    · have h2' : decide (r ≤ 1114111) = false := decide_eq_false h2
      rw [show goodB r = false from decide_eq_false (by omega)]
      go_enter Try.func97, Try.ntmps97
      go_wp2
      go_ret
      exact ⟨rfl, rfl⟩
  · have h1' : decide (0 ≤ r) = false := decide_eq_false h1
    rw [show goodB r = false from decide_eq_false (by omega)]
    go_enter Try.func97, Try.ntmps97
    go_wp2
    go_ret
    exact ⟨rfl, rfl⟩
end Go.Proofs.Ytajhkjikcgfhdaa
