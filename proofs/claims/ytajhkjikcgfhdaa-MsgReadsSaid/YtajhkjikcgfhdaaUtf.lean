/-
  Texts in runes: the walks of text.Len, Word, Asked, and of inkhornref1's more, one, Good, Runes, Len, Word, Asked; both count alike.
-/
import Derived.Test.YtajhkjikcgfhdaaBytes
import Derived.WalkSpells
import Derived.WalkLawsBesides
import Derived.Laws.RangeAny
import Derived.Laws.RangeString
import Derived.Lib.DecodeN
import Derived.Lib.RuneCount
namespace Go.Proofs.Ytajhkjikcgfhdaa
set_option linter.unusedVariables false
set_option linter.unusedSimpArgs false
set_option maxRecDepth 20000
open Go.RowKit
/-- How many runes from a place on, or -1. -/
def lenFrom (s : ByteArray) : Nat → Nat → Int → Int
  | 0, _, acc => acc
  | f + 1, pos, acc => if pos < s.size then (if (Utf8.decode s pos).1 = 65533 then -1 else lenFrom s f (pos + (Utf8.decode s pos).2) (acc + 1)) else acc
def lenI (s : ByteArray) : Int := lenFrom s s.size 0 0
theorem lenFrom_end (s : ByteArray) (f pos : Nat) (acc : Int) (h : ¬ pos < s.size) : lenFrom s f pos acc = acc := by
  cases f <;> simp [lenFrom, h]
theorem lenFrom_bad (s : ByteArray) (f pos : Nat) (acc : Int) (h : pos < s.size) (hf : s.size ≤ pos + f) (hb : (Utf8.decode s pos).1 = 65533) : lenFrom s f pos acc = -1 := by
  cases f with
  | zero => omega
  | succ f => simp [lenFrom, h, hb]
theorem lenFrom_good (s : ByteArray) (f pos : Nat) (acc : Int) (h : pos < s.size) (hb : (Utf8.decode s pos).1 ≠ 65533) : lenFrom s (f + 1) pos acc = lenFrom s f (pos + (Utf8.decode s pos).2) (acc + 1) := by
  simp [lenFrom, h, hb]
theorem lenFrom_range (s : ByteArray) : ∀ (f pos : Nat) (acc : Int), -1 ≤ acc → -1 ≤ lenFrom s f pos acc ∧ lenFrom s f pos acc ≤ acc + f
  | 0, pos, acc, h => by simp only [lenFrom]; omega
  | f + 1, pos, acc, h => by
    have ih := lenFrom_range s f (pos + (Utf8.decode s pos).2) (acc + 1) (by omega)
    simp only [lenFrom]
    split
    · split <;> omega
    · omega
theorem lenI_range (s : ByteArray) : -1 ≤ lenI s ∧ lenI s ≤ s.size := by
  have := lenFrom_range s s.size 0 0 (by omega)
  unfold lenI
  omega
def wordB (s : ByteArray) : Bool := decide (1 ≤ lenI s ∧ lenI s ≤ 12)
def askedB (s : ByteArray) : Bool := decide (0 ≤ lenI s ∧ lenI s ≤ 16)
theorem iter_below (w : World) (s : ByteArray) (p : Nat) : Below w.heap.size w (w.iter s p) := (Below.refl _ _).alloc (Nat.le_refl _) _
set_option maxHeartbeats 1000000 in
theorem textLen_any (s : ByteArray) (w : World) (hs : s.size ≤ 9223372036854775000) :
    Calls Try.prog 83 #[.string s] w fun e w' => ∃ W, e = .returned (.int .i64 (lenI s)) ∧ W = w' ∧ Below w.heap.size w W := by
  go_enter Try.func83, Try.ntmps83
  go_wp2
  go_loopw [3] (fun n wr => ∃ (pos b : Nat) (acc : Int), Hid (lenFrom s b pos acc = lenI s) ∧ s.size ≤ pos + b ∧ 0 ≤ acc ∧ acc ≤ pos ∧ wr = w.iter s pos ∧ n = .int .i64 acc) (fun _ wr => s.size - wr.iterPos w.heap.size)
  case atStart => exact ⟨0, s.size, 0, rfl, by omega, by omega, by omega, rfl, rfl⟩
  case round =>
    obtain ⟨pos, b, acc, HC, hb, h0, h1, rfl, rfl⟩ := hrel
    by_cases hp : pos < s.size
    · have hwd := Lib.decode_width_pos s pos hp
      by_cases hbad : (Utf8.decode s pos).1 = 65533
      · have hnx : ∀ ty, (Instr.next (.pointer (some ⟨w.heap.size, 0, none⟩)) true ty).run Try.prog (w.iter s pos) = .ok (.tuple #[.bool true, .int .i64 pos, .int .i32 65533]) (w.iter s (pos + (Utf8.decode s pos).2)) := fun ty => by
          rw [run_next_any w s pos ty hp, hbad]; rfl
        have HE : Hid (lenI s = -1) := by
          have := HC.out
          rw [lenFrom_bad s b pos acc hp (by omega) hbad] at this
          exact this.symm
        clear hbad hwd HC
        go_wp2
        go_ret
        exact ⟨_, by rw [HE.out]; rfl, rfl, iter_below _ _ _⟩
      · obtain ⟨r, hr⟩ : ∃ r : Nat, (Utf8.decode s pos).1 = r := ⟨_, rfl⟩
        have hnx : ∀ ty, (Instr.next (.pointer (some ⟨w.heap.size, 0, none⟩)) true ty).run Try.prog (w.iter s pos) = .ok (.tuple #[.bool true, .int .i64 pos, .int .i32 r]) (w.iter s (pos + (Utf8.decode s pos).2)) := fun ty => by
          rw [run_next_any w s pos ty hp, hr]
        have b1 : ((r : Int) == 65533) = false := by
          rw [beq_eq_false_iff_ne]
          rw [hr] at hbad
          omega
        have HC2 : Hid (∃ b', lenFrom s b' (pos + (Utf8.decode s pos).2) (acc + 1) = lenI s ∧ s.size ≤ pos + (Utf8.decode s pos).2 + b') := by
          cases b with
          | zero => omega
          | succ b' =>
            have := HC.out
            rw [lenFrom_good s b' pos acc hp hbad] at this
            exact ⟨b', this, by omega⟩
        clear hr hbad HC
        go_wp2
        go_roundw
        case rel =>
          obtain ⟨b', e1, e2⟩ := HC2.out
          exact ⟨_, b', acc + 1, e1, e2, by omega, by omega, rfl, by go_num⟩
        case measure =>
          simp
          omega
    · have hnx : ∀ ty, (Instr.next (.pointer (some ⟨w.heap.size, 0, none⟩)) true ty).run Try.prog (w.iter s pos) = _ := fun ty => run_next_end w s pos ty hp
      have HE : Hid (lenI s = acc) := by
        have := HC.out
        rw [lenFrom_end s b pos acc hp] at this
        exact this.symm
      go_wp2
      go_ret
      exact ⟨_, by rw [HE.out]; rfl, rfl, iter_below _ _ _⟩
theorem range_dec (n lo hi : Int) : decide (lo ≤ n ∧ n ≤ hi) = (decide (lo ≤ n) && decide (n ≤ hi)) := by simp
set_option maxHeartbeats 1000000 in
theorem textWord_any (s : ByteArray) (w : World) (hs : s.size ≤ 9223372036854775000) :
    Calls Try.prog 82 #[.string s] w fun e w' => ∃ W, e = .returned (.bool (wordB s)) ∧ W = w' ∧ Below w.heap.size w W := by
  obtain ⟨n, hn⟩ : ∃ n, lenI s = n := ⟨_, rfl⟩
  have HN := Lib.hid hn
  have HW : Hid (wordB s = decide (1 ≤ n ∧ n ≤ 12)) := by unfold wordB Hid; rw [hn]
  rw [HW.out]
  clear hn
  by_cases h1 : 1 ≤ n
  · rw [show decide (1 ≤ n ∧ n ≤ 12) = decide (n ≤ 12) by simp [h1]]
    go_enter Try.func82, Try.ntmps82
    go_wp2_with (go_at_call 83; (with_reducible refine (textLen_any _ _ hs).mono ?_); rintro e w' ⟨w1, rfl, rfl, b1⟩; rw [HN.out])
    go_ret
    exact ⟨_, rfl, rfl, b1⟩
  · rw [show decide (1 ≤ n ∧ n ≤ 12) = false from decide_eq_false fun h => h1 h.1]
    have hd : decide (1 ≤ n) = false := decide_eq_false h1
    go_enter Try.func82, Try.ntmps82
    go_wp2_with (go_at_call 83; (with_reducible refine (textLen_any _ _ hs).mono ?_); rintro e w' ⟨w1, rfl, rfl, b1⟩; rw [HN.out])
    go_ret
    exact ⟨_, rfl, rfl, b1⟩
set_option maxHeartbeats 1000000 in
theorem textAsked_any (s : ByteArray) (w : World) (hs : s.size ≤ 9223372036854775000) :
    Calls Try.prog 67 #[.string s] w fun e w' => ∃ W, e = .returned (.bool (askedB s)) ∧ W = w' ∧ Below w.heap.size w W := by
  obtain ⟨n, hn⟩ : ∃ n, lenI s = n := ⟨_, rfl⟩
  have HN := Lib.hid hn
  have HW : Hid (askedB s = decide (0 ≤ n ∧ n ≤ 16)) := by unfold askedB Hid; rw [hn]
  rw [HW.out]
  clear hn
  by_cases h1 : 0 ≤ n
  · rw [show decide (0 ≤ n ∧ n ≤ 16) = decide (n ≤ 16) by simp [h1]]
    go_enter Try.func67, Try.ntmps67
    go_wp2_with (go_at_call 83; (with_reducible refine (textLen_any _ _ hs).mono ?_); rintro e w' ⟨w1, rfl, rfl, b1⟩; rw [HN.out])
    go_ret
    exact ⟨_, rfl, rfl, b1⟩
  · rw [show decide (0 ≤ n ∧ n ≤ 16) = false from decide_eq_false fun h => h1 h.1]
    have hd : decide (0 ≤ n) = false := decide_eq_false h1
    go_enter Try.func67, Try.ntmps67
    go_wp2_with (go_at_call 83; (with_reducible refine (textLen_any _ _ hs).mono ?_); rintro e w' ⟨w1, rfl, rfl, b1⟩; rw [HN.out])
    go_ret
    exact ⟨_, rfl, rfl, b1⟩
end Go.Proofs.Ytajhkjikcgfhdaa
