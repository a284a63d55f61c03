/-
  The walks of package sum (turn, Add, Of) and of inkhornlaw2.awake, inkhornlaw0.Low: what each call answers, in any memory that reads as it is told.
-/
import Derived.Test.YtajhkjikcgfhdaaBytes
import Derived.Test.YtajhkjikcgfhdaaCrc
import Derived.WalkSpells
import Derived.WalkLawsBesides
import Derived.Lib.SlBytesConst
namespace Go.Proofs.Ytajhkjikcgfhdaa
set_option linter.unusedVariables false
set_option linter.unusedSimpArgs false
open Go.RowKit
set_option maxHeartbeats 400000 in
theorem turn_any (c b : Int) (w : World) (h0 : 0 ≤ b) (h1 : b < 256) :
    Calls Try.prog 79 #[.int .u32 c, .int .u8 b] w fun e w' => e = .returned (.int .u32 (turnI c b)) ∧ w = w' := by
  go_enter Try.func79, Try.ntmps79
  go_wp2
  go_loop [0, 10] (fun v i => ∃ k : Nat, k ≤ 8 ∧ i = .int .i64 k ∧ v = .int .u32 (stepN k (Go.bits .xor .u32 c b))) (fun _ i => 8 - (intOf i).toNat)
  case atStart => exact ⟨0, by omega, rfl, rfl⟩
  case round =>
    obtain ⟨k, hk, rfl, rfl⟩ := hrel
    have hs : stepN (k + 1) (Go.bits .xor .u32 c b) = step1 (stepN k (Go.bits .xor .u32 c b)) := rfl
    by_cases hlt : k < 8
    · by_cases hb : Go.bits .and .u32 (stepN k (Go.bits .xor .u32 c b)) 1 = 1
      · have e1 : step1 (stepN k (Go.bits .xor .u32 c b)) = Go.bits .xor .u32 (stepN k (Go.bits .xor .u32 c b) / 2) 3988292384 := if_pos hb
        have E : Hid (stepN (k + 1) (Go.bits .xor .u32 c b) = Go.bits .xor .u32 (stepN k (Go.bits .xor .u32 c b) / 2) 3988292384) := Lib.hid (hs.trans e1)
        clear hs e1
        go_wp2
        go_round
        case rel => exact ⟨k + 1, by omega, by go_num, by rw [E.out]⟩
        case measure => simp [intOf]; omega
      · have e1 : step1 (stepN k (Go.bits .xor .u32 c b)) = (stepN k (Go.bits .xor .u32 c b) / 2) := if_neg hb
        have E : Hid (stepN (k + 1) (Go.bits .xor .u32 c b) = (stepN k (Go.bits .xor .u32 c b) / 2)) := Lib.hid (hs.trans e1)
        clear hs e1
        go_wp2
        go_round
        case rel => exact ⟨k + 1, by omega, by go_num, by rw [E.out]⟩
        case measure => simp [intOf]; omega
    · have : k = 8 := by omega
      subst this
      clear hs
      go_wp2
      go_ret
      exact ⟨rfl, rfl⟩
set_option maxHeartbeats 400000 in
theorem add_any (c : Int) (A : Option Addr) (n cp : Nat) (zs : List Int) (w : World) (h : BReads w A n zs) :
    Calls Try.prog 61 #[.int .u32 c, .slice A n cp] w fun e w' => e = .returned (.int .u32 (addI c zs)) ∧ w = w' := by
  obtain rfl := h.1
  have hm := h.2.1
  have H := Lib.hid h
  clear h
  go_enter Try.func61, Try.ntmps61
  go_wp2
  go_loop [0, 11] (fun v i => ∃ k : Nat, k ≤ zs.length ∧ i = .int .i64 k ∧ v = .int .u32 ((zs.take k).foldl turnI (notI c))) (fun _ i => zs.length - (intOf i).toNat)
  case atStart => exact ⟨0, by omega, rfl, rfl⟩
  case round =>
    obtain ⟨k, hk, rfl, rfl⟩ := hrel
    by_cases hlt : k < zs.length
    · obtain ⟨ad, rfl, hc⟩ := H.out.at_ k hlt
      obtain ⟨b0, b1⟩ := H.out.2.2.2 k
      have E := Lib.hid (foldl_take_succ turnI (notI c) zs k hlt)
      go_wp2_with (go_at_call 79; refine (turn_any _ _ _ b0 b1).mono ?_; rintro e w' ⟨rfl, rfl⟩)
      go_round
      case rel => exact ⟨k + 1, by omega, by go_num, by rw [E.out]⟩
      case measure => simp [intOf]; omega
    · have : k = zs.length := by omega
      subst this
      go_wp2
      go_ret
      exact ⟨rfl, rfl⟩
set_option maxHeartbeats 400000 in
theorem of_any (A : Option Addr) (n cp : Nat) (zs : List Int) (w : World) (h : BReads w A n zs) :
    Calls Try.prog 40 #[.slice A n cp] w fun e w' => e = .returned (.int .u32 (addI 0 zs)) ∧ w = w' := by
  have H := Lib.hid h
  clear h
  go_enter Try.func40, Try.ntmps40
  go_wp2_with (go_at_call 61; refine (add_any _ _ _ _ _ _ H.out).mono ?_; rintro e w' ⟨rfl, rfl⟩)
  go_ret
  exact ⟨rfl, rfl⟩
end Go.Proofs.Ytajhkjikcgfhdaa
