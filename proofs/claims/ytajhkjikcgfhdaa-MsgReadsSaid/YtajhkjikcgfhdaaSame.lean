/-
  Equality of items, replies, messages: the walks of inkhornlaw0.SameItems, SameReply.
-/
import Derived.Test.YtajhkjikcgfhdaaDec2
namespace Go.Proofs.Ytajhkjikcgfhdaa
set_option linter.unusedVariables false
set_option linter.unusedSimpArgs false
set_option maxRecDepth 20000
open Go.RowKit
set_option maxHeartbeats 1000000 in
theorem neq_item (d e : Int) (s t : ByteArray) (w : World) : (binOp .neq 27 (.agg #[.int .i64 d, .string s]) (.agg #[.int .i64 e, .string t])).run Try.prog w = .ok (.bool (!decide (d = e ∧ s = t))) w := by
  go_simp
  simp only [bs_toList]
  repeat' split
  all_goals simp_all
theorem eql_two (t1 : TypeId) (h1 : t1 = 23 ∨ t1 = 34) (a b c d : Int) (w : World) : (binOp .eql t1 (.agg #[.int .i64 a, .int .i64 b]) (.agg #[.int .i64 c, .int .i64 d])).run Try.prog w = .ok (.bool (decide (a = c ∧ b = d))) w := by
  rcases h1 with rfl | rfl
  · go_simp
    repeat' split
    all_goals simp_all
  · go_simp
    repeat' split
    all_goals simp_all
theorem eql_grant (a b c d e f : Int) (w : World) : (binOp .eql 25 (.agg #[.int .i64 a, .int .i64 b, .int .i64 c]) (.agg #[.int .i64 d, .int .i64 e, .int .i64 f])).run Try.prog w = .ok (.bool (decide (a = d ∧ b = e ∧ c = f))) w := by
  go_simp
  repeat' split
  all_goals simp_all
theorem toItems_eq (xs ys : List (Int × ByteArray)) (n : Nat) (h1 : xs.length = n) (h2 : ys.length = n) (h : ∀ j, j < n → gx xs j = gx ys j) : xs = ys := by
  apply List.ext_getElem?
  intro j
  by_cases hj : j < n
  · rw [gx_eq xs j (by omega), gx_eq ys j (by omega), h j hj]
  · rw [List.getElem?_eq_none (by omega), List.getElem?_eq_none (by omega)]
theorem XReads.drewN {w : World} {A : Option Addr} {n : Nat} {xs : List (Int × ByteArray)} (h : XReads w A n xs) (q : Nat) : XReads (w.drewN q) A n xs := h.below (below_drewN (Below.refl _ _) q)
set_option maxHeartbeats 2000000 in
theorem sameItems_any (A B : Option Addr) (n m c d : Nat) (xs ys : List (Int × ByteArray)) (w : World) (hx : XReads w A n xs) (hy : XReads w B m ys) :
    Calls Try.prog 53 #[.slice A n c, .slice B m d] w fun e w' => e = .returned (.bool (decide (xs = ys))) ∧ ∃ k, w' = w.drewN k := by
  have hn := hx.2.1
  have hm := hy.2.1
  have HX := Lib.hid hx
  have HY := Lib.hid hy
  clear hx hy
  by_cases hnm : n = m
  · subst hnm
    go_enter Try.func53, Try.ntmps53
    go_wp2
    go_loopw [5] (fun i wr => ∃ k : Nat, k ≤ n ∧ i = .int .i64 k ∧ Hid (∀ j, j < k → gx xs j = gx ys j) ∧ Hid (∃ q, wr = w.drewN q)) (fun i _ => n - (intOf i).toNat)
    case atStart => exact ⟨0, by omega, rfl, fun j hj => absurd hj (by omega), ⟨0, rfl⟩⟩
    case round =>
      obtain ⟨k, hk, rfl, HS, HW⟩ := hrel
      obtain ⟨q, rfl⟩ := HW.out
      clear HW
      by_cases hlt : k < n
      · obtain ⟨ad, rfl, a0, a1⟩ := HX.out.at_ k hlt
        obtain ⟨bd, rfl, b0, b1⟩ := HY.out.at_ k hlt
        obtain ⟨x0, hx0⟩ : ∃ x, (gx xs k).1 = x := ⟨_, rfl⟩
        obtain ⟨x1, hx1⟩ : ∃ x, (gx xs k).2 = x := ⟨_, rfl⟩
        obtain ⟨y0, hy0⟩ : ∃ x, (gx ys k).1 = x := ⟨_, rfl⟩
        obtain ⟨y1, hy1⟩ : ∃ x, (gx ys k).2 = x := ⟨_, rfl⟩
        rw [hx0] at a0
        rw [hx1] at a1
        rw [hy0] at b0
        rw [hy1] at b1
        by_cases he : x0 = y0 ∧ x1 = y1
        · have hne : ∀ w, (binOp .neq 27 (.agg #[.int .i64 x0, .string x1]) (.agg #[.int .i64 y0, .string y1])).run Try.prog w = .ok (.bool false) w := fun w => by rw [neq_item, decide_eq_true he]; rfl
          have HE : Hid (gx xs k = gx ys k) := Prod.ext (by rw [hx0, hy0]; exact he.1) (by rw [hx1, hy1]; exact he.2)
          clear he hx0 hx1 hy0 hy1
          go_wp2
          go_quiet (fail)
          go_wp2
          go_roundw
          case rel => exact ⟨k + 1, by omega, by go_num, (fun j hj => by
            rcases Nat.lt_or_ge j k with h | h
            · exact HS.out j h
            · obtain rfl : j = k := by omega
              exact HE.out), ⟨_, rfl⟩⟩
          case measure => simp [intOf]; omega
        · have hne : ∀ w, (binOp .neq 27 (.agg #[.int .i64 x0, .string x1]) (.agg #[.int .i64 y0, .string y1])).run Try.prog w = .ok (.bool true) w := fun w => by rw [neq_item, decide_eq_false he]; rfl
          have e1 : Hid (decide (xs = ys) = false) := by
            apply decide_eq_false
            rintro rfl
            exact he ⟨hx0.symm.trans hy0, hx1.symm.trans hy1⟩
          clear he hx0 hx1 hy0 hy1
          go_wp2
          go_quiet (fail)
          go_wp2
          go_ret
          exact ⟨by rw [e1.out]; rfl, _, World.drewN_drewN _ _ _⟩
      · have e1 : Hid (decide (xs = ys) = true) := decide_eq_true (toItems_eq xs ys n HX.out.1 HY.out.1 fun j hj => HS.out j (by omega))
        go_wp2
        go_ret
        exact ⟨by rw [e1.out]; rfl, _, rfl⟩
  · have e1 : decide (xs = ys) = false := by
      apply decide_eq_false
      rintro rfl
      exact hnm (HX.out.1.symm.trans HY.out.1)
    have E := Lib.hid e1
    clear e1
    go_enter Try.func53, Try.ntmps53
    go_wp2
    go_ret
    exact ⟨by rw [E.out]; rfl, 0, rfl⟩
end Go.Proofs.Ytajhkjikcgfhdaa
