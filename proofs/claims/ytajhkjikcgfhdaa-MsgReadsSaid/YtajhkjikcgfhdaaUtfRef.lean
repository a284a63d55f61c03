/-
  inkhornref1's reading of texts: the walks of more, one, Good, Runes, Len, Word, Asked.
-/
import Derived.Test.YtajhkjikcgfhdaaUtf
namespace Go.Proofs.Ytajhkjikcgfhdaa
set_option linter.unusedVariables false
set_option linter.unusedSimpArgs false
set_option maxRecDepth 20000
open Go.RowKit
/-- The byte at a place (0 beyond the end). -/
def bI (s : ByteArray) (i : Nat) : Int := (s.get! i).toNat
def moreB (s : ByteArray) (i : Nat) : Bool := decide (i < s.size ∧ 128 ≤ bI s i ∧ bI s i ≤ 191)
def moreR (s : ByteArray) (i : Nat) : Int := if moreB s i then bI s i - 128 else 0
theorem bI_at (s : ByteArray) (i : Nat) (h : i < s.size) : ((s[i]'h).toNat : Int) = bI s i := by
  unfold bI
  congr 2
  simp [ByteArray.get!, getElem!_pos, h]
  rfl
theorem bI_range (s : ByteArray) (i : Nat) : 0 ≤ bI s i ∧ bI s i < 256 := by
  have := (s.get! i).toNat_lt
  unfold bI
  omega
theorem moreR_range (s : ByteArray) (i : Nat) : 0 ≤ moreR s i ∧ moreR s i ≤ 63 := by
  unfold moreR
  split
  · rename_i h
    simp only [moreB, decide_eq_true_eq] at h
    omega
  · omega
set_option maxHeartbeats 1000000 in
theorem more_any (s : ByteArray) (i : Nat) (w : World) (hi : i ≤ 9223372036854775807) (hs : s.size ≤ 9223372036854775000) :
    Calls Try.prog 99 #[.string s, .int .i64 i] w fun e w' => e = .returned (.tuple #[.int .i32 (moreR s i), .bool (moreB s i)]) ∧ w = w' := by
  by_cases h : i < s.size
  · obtain ⟨b, hb⟩ : ∃ b : Int, ((s[i]'h).toNat : Int) = b := ⟨_, rfl⟩
    have hbi : bI s i = b := (bI_at s i h).symm.trans hb
    have hr := bI_range s i
    rw [hbi] at hr
    obtain ⟨r0, r1⟩ := hr
    by_cases h1 : b < 128
    · have HB : Hid (moreB s i = false) := decide_eq_false (by rw [hbi]; omega)
      have HR : Hid (moreR s i = 0) := by unfold moreR Hid; rw [HB.out]; rfl
      rw [HB.out, HR.out]
      clear hbi
      go_enter Try.func99, Try.ntmps99
      go_wp2
      go_ret2
      exact ⟨rfl, rfl⟩
    · by_cases h2 : 191 < b
      · have HB : Hid (moreB s i = false) := decide_eq_false (by rw [hbi]; omega)
        have HR : Hid (moreR s i = 0) := by unfold moreR Hid; rw [HB.out]; rfl
        rw [HB.out, HR.out]
        clear hbi
        go_enter Try.func99, Try.ntmps99
        go_wp2
        go_ret2
        exact ⟨rfl, rfl⟩
      · have HB : Hid (moreB s i = true) := decide_eq_true (by rw [hbi]; omega)
        have HR : Hid (moreR s i = b - 128) := by unfold moreR Hid; rw [HB.out, hbi]; rfl
        rw [HB.out, HR.out]
        clear hbi
        go_enter Try.func99, Try.ntmps99
        go_wp2
        go_ret2
        exact ⟨rfl, rfl⟩
  · have HB : Hid (moreB s i = false) := decide_eq_false (by omega)
    have HR : Hid (moreR s i = 0) := by unfold moreR Hid; rw [HB.out]; rfl
    rw [HB.out, HR.out]
    go_enter Try.func99, Try.ntmps99
    go_wp2
    go_ret2
    exact ⟨rfl, rfl⟩
end Go.Proofs.Ytajhkjikcgfhdaa
