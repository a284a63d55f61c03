/-
  The walk of msg.Decode.
-/
import Derived.Test.YtajhkjikcgfhdaaDec0
namespace Go.Proofs.Ytajhkjikcgfhdaa
set_option linter.unusedVariables false
set_option linter.unusedSimpArgs false
set_option maxRecDepth 20000
open Go.RowKit
def decI (zs : List Int) : Int × M :=
  if zs.length < 7 ∨ 1024 < zs.length ∨ numI zs 0 2 ≠ zs.length then (8, .none)
  else if numI zs ((zs.length - 4 : Nat) : Int) 4 ≠ addI 0 (zs.take (zs.length - 4)) then (9, .none)
  else if (readM (zs.take (zs.length - 4)) (gi zs 2) 3 false).2.2 = true ∨ (readM (zs.take (zs.length - 4)) (gi zs 2) 3 false).2.1 ≠ zs.length - 4 ∨ mayM (readM (zs.take (zs.length - 4)) (gi zs 2) 3 false).1 = false then (8, .none)
  else (0, (readM (zs.take (zs.length - 4)) (gi zs 2) 3 false).1)
/-- Decode has answered. -/
def DecTo (w : World) (r : Int × M) (e : Ending) (w' : World) : Prop := ∃ v W, e = .returned (.tuple #[v, .int .i64 r.1]) ∧ W = w' ∧ MV W v r.2 ∧ SmallM 60000 r.2 ∧ Below w.heap.size w W
set_option maxHeartbeats 4000000 in
theorem dec_short (A : Option Addr) (n c : Nat) (zs : List Int) (w : World) (h : n < 7 ∨ 1024 < n) (hn : n ≤ 9223372036854775807) :
    Calls Try.prog 25 #[.slice A n c] w (DecTo w (8, .none)) := by
  by_cases h1 : n < 7
  · have h1' : decide ((n : Int) - 4 < 3) = true := decide_eq_true (by omega)
    have h2' : (n : Int) - 4 < 3 := by omega
    go_enter Try.func25, Try.ntmps25
    go_wp2
    go_ret2
    exact ⟨_, _, rfl, rfl, rfl, trivial, Below.refl _ _⟩
  · have h3 : 1024 < n := by omega
    have h1' : decide ((n : Int) - 4 < 3) = false := decide_eq_false (by omega)
    have h2' : decide ((1024 : Int) < (n : Int)) = true := decide_eq_true (by omega)
    clear h h1
    go_enter Try.func25, Try.ntmps25
    go_wp2
    go_ret2
    exact ⟨_, _, rfl, rfl, rfl, trivial, Below.refl _ _⟩
set_option maxHeartbeats 4000000 in
theorem dec_told (A : Option Addr) (n c : Nat) (zs : List Int) (w : World) (h : BReads w A n zs) (h1 : 7 ≤ n) (h2 : n ≤ 1024) (h3 : numI zs 0 2 ≠ n) :
    Calls Try.prog 25 #[.slice A n c] w (DecTo w (8, .none)) := by
  obtain ⟨L, hL⟩ : ∃ L, numI zs 0 2 = L := ⟨_, rfl⟩
  have HL := Lib.hid hL
  have b1 : (L != (n : Int)) = true := by rw [← hL]; simpa using h3
  have h1' : decide ((n : Int) - 4 < 3) = false := decide_eq_false (by omega)
  have h2' : decide ((1024 : Int) < (n : Int)) = false := decide_eq_false (by omega)
  have H := Lib.hid h
  have HO : Hid (numOk n 0 2) := ⟨by omega, by omega, by omega, by omega⟩
  clear h h3 hL
  go_enter Try.func25, Try.ntmps25
  go_wp2_with (go_at_call 54; (with_reducible refine (num_yes _ _ _ _ _ _ _ H.out HO.out).mono ?_); rintro e w' ⟨rfl, rfl⟩; rw [HL.out])
  go_ret2
  exact ⟨_, _, rfl, rfl, rfl, trivial, Below.refl _ _⟩
theorem u32_in (x : Int) (h0 : 0 ≤ x) (h1 : x < 4294967296) : IntKind.u32.wrap x = x := by
  simp only [IntKind.wrap, IntKind.signed, IntKind.bits]
  simp
  omega
set_option maxHeartbeats 4000000 in
theorem dec_sum (A : Option Addr) (m c : Nat) (zs : List Int) (w : World) (h : BReads w A (m + 4) zs) (hc : m + 4 ≤ c) (h1 : 3 ≤ m) (h2 : m ≤ 1020) (h3 : numI zs 0 2 = (m + 4 : Nat)) (h4 : numI zs m 4 ≠ addI 0 (zs.take m)) :
    Calls Try.prog 25 #[.slice A (m + 4 : Nat) c] w (DecTo w (9, .none)) := by
  have hr4 := numI_up zs h.range m 4 (by omega)
  obtain ⟨r0, r1⟩ := hr4
  have hS := h.take_ m (by omega)
  have hra : 0 ≤ addI 0 (zs.take m) ∧ addI 0 (zs.take m) < 4294967296 := addI_range 0 _ (by omega) hS.range
  obtain ⟨L, hL⟩ : ∃ L, numI zs m 4 = L := ⟨_, rfl⟩
  obtain ⟨S, hSS⟩ : ∃ S, addI 0 (zs.take m) = S := ⟨_, rfl⟩
  rw [show (((4 : Nat) : Int)) = 4 from rfl] at r0 r1
  rw [hL] at r0 r1
  rw [hL, hSS] at h4
  rw [hSS] at hra
  have hw : IntKind.u32.wrap L = L := u32_in L r0 (by simpa using r1)
  have b1 : (L != S) = true := by simpa using h4
  have b0 : (((m + 4 : Nat) : Int) != ((m + 4 : Nat) : Int)) = false := by simp
  have HL := Lib.hid hL
  have HSS := Lib.hid hSS
  have HS := Lib.hid hS
  have h1' : decide (((m + 4 : Nat) : Int) - 4 < 3) = false := decide_eq_false (by omega)
  have h2' : decide ((1024 : Int) < ((m + 4 : Nat) : Int)) = false := decide_eq_false (by omega)
  have H := Lib.hid h
  have HT := Lib.hid h3
  have HO : Hid (numOk (m + 4) 0 2) := ⟨by omega, by omega, by omega, by omega⟩
  have HO4 : Hid (numOk (m + 4) m 4) := ⟨by omega, by omega, by omega, by omega⟩
  have hcc : m ≤ c := by omega
  clear h h3 hL h4 hSS hS r0 r1
  go_enter Try.func25, Try.ntmps25
  go_wp2_with (first
    | (go_at_call 54; (with_reducible refine (num_yes _ _ _ 0 2 _ _ H.out HO.out).mono ?_); rintro e w' ⟨rfl, rfl⟩; rw [HT.out])
    | (go_at_call 54; (with_reducible refine (num_yes _ _ _ m 4 _ _ H.out HO4.out).mono ?_); rintro e w' ⟨rfl, rfl⟩; rw [HL.out])
    | (go_at_call 40; (with_reducible refine (of_any _ _ _ _ _ HS.out).mono ?_); rintro e w' ⟨rfl, rfl⟩; rw [HSS.out]))
  go_ret2
  exact ⟨_, _, rfl, rfl, rfl, trivial, Below.refl _ _⟩
end Go.Proofs.Ytajhkjikcgfhdaa
