/-
  The walks of inkhornref2.Of and of the four statements on sums.
-/
import Derived.Test.YtajhkjikcgfhdaaSum
import Derived.Test.YtajhkjikcgfhdaaLend
namespace Go.Proofs.Ytajhkjikcgfhdaa
set_option linter.unusedVariables false
set_option linter.unusedSimpArgs false
set_option maxRecDepth 20000
open Go.RowKit
theorem refStep_yes {x b : Int} {q : Nat} (h : (x % 2 != (b / 2 ^ q).tmod 2) = true) : refStep b q x = Go.bits .xor .u32 (x / 2) 3988292384 := if_pos h
theorem refStep_no {x b : Int} {q : Nat} (h : (x % 2 != (b / 2 ^ q).tmod 2) = false) : refStep b q x = x / 2 := if_neg (by rw [h]; decide)
set_option maxHeartbeats 400000 in
theorem refof_any (A : Option Addr) (n cp : Nat) (zs : List Int) (w : World) (h : BReads w A n zs) :
    Calls Try.prog 65 #[.slice A n cp] w fun e w' => e = .returned (.int .u32 (refI zs)) ∧ w = w' := by
  have hm := h.2.1
  have HR := Lib.hid fun b hb => (h.range b hb)
  have HL := Lib.hid h.1
  have H := Lib.hid h
  clear h
  go_enter Try.func65, Try.ntmps65
  go_wp2
  go_loop [3, 4] (fun c i => ∃ (k : Nat) (x : Int), k ≤ n ∧ 0 ≤ x ∧ x < 4294967296 ∧ i = .int .i64 k ∧ c = .int .u32 x ∧ Hid (x = (zs.take k).foldl (fun x b => refTurn b 8 x) 4294967295)) (fun _ i => n - (intOf i).toNat)
  case atStart => exact ⟨0, 4294967295, by omega, by omega, by omega, rfl, rfl, rfl⟩
  case round =>
    obtain ⟨k, x, hk, x0, x1, rfl, rfl, HX⟩ := hrel
    by_cases hlt : k < n
    · obtain ⟨ad, rfl, hc⟩ := H.out.at_ k hlt
      obtain ⟨b0, b1⟩ := H.out.2.2.2 k
      have E := Lib.hid (foldl_take_succ (fun x b => refTurn b 8 x) 4294967295 zs k (by rw [HL.out]; exact hlt))
      go_wp2
      go_loop [3, 5, 6] (fun c j o => ∃ (q : Nat) (y : Int), q ≤ 8 ∧ 0 ≤ y ∧ y < 4294967296 ∧ j = .int .i64 q ∧ c = .int .u32 y ∧ Hid (y = refTurn (gi zs k) q x)) (fun _ j _ => 8 - (intOf j).toNat)
      case atStart => exact ⟨0, x, by omega, x0, x1, rfl, rfl, rfl⟩
      case round =>
        obtain ⟨q, y, hq, y0, y1, rfl, rfl, HY⟩ := hrel
        by_cases hlq : q < 8
        · cases hb : (y % 2 != (gi zs k / 2 ^ q).tmod 2) with
          | true =>
            have E1 := Lib.hid (refStep_yes hb)
            go_wp2
            go_round
            case rel => exact ⟨q + 1, Go.bits .xor .u32 (y / 2) 3988292384, by omega, (by
              have e : refTurn (gi zs k) (q + 1) x = Go.bits .xor .u32 (y / 2) 3988292384 := by rw [← E1.out, HY.out]; rfl
              rw [← e]; exact (refTurn_range (gi zs k) x (q + 1) b0 x0 x1).1), (by
              have e : refTurn (gi zs k) (q + 1) x = Go.bits .xor .u32 (y / 2) 3988292384 := by rw [← E1.out, HY.out]; rfl
              rw [← e]; exact (refTurn_range (gi zs k) x (q + 1) b0 x0 x1).2), by go_num, rfl, (by
              have e : refTurn (gi zs k) (q + 1) x = Go.bits .xor .u32 (y / 2) 3988292384 := by rw [← E1.out, HY.out]; rfl
              exact e.symm)⟩
            case measure => simp [intOf]; omega
          | false =>
            have E1 := Lib.hid (refStep_no hb)
            go_wp2
            go_round
            case rel => exact ⟨q + 1, y / 2, by omega, by omega, by omega, by go_num, rfl, (by
              have e : refTurn (gi zs k) (q + 1) x = y / 2 := by rw [← E1.out, HY.out]; rfl
              exact e.symm)⟩
            case measure => simp [intOf]; omega
        · obtain rfl : q = 8 := by omega
          go_wp2
          go_round
          case rel => exact ⟨k + 1, y, by omega, y0, y1, by go_num, rfl, (by
            have e := E.out
            rw [← HX.out, ← HY.out] at e
            exact e.symm)⟩
          case measure => simp [intOf]; omega
    · obtain rfl : k = n := by omega
      have E1 : Hid (4294967295 - x = refI zs) := by
        have e := HX.out
        rw [List.take_of_length_le (by rw [HL.out]; omega)] at e
        rw [e]; rfl
      go_wp2
      go_ret
      exact ⟨by rw [← E1.out]; rfl, rfl⟩
theorem doc_sum (zs : List Int) (h : ∀ z, z ∈ zs → 0 ≤ z ∧ z < 256) : (addI 0 zs == refI zs) = true := by
  rw [refI_eq zs h]; exact beq_self_eq_true _
theorem join_ok (xs ys : List Int) (hx : ∀ z, z ∈ xs → 0 ≤ z ∧ z < 256) (hy : ∀ z, z ∈ ys → 0 ≤ z ∧ z < 256) : (addI (addI 0 xs) ys == addI 0 (xs ++ ys)) = true := by
  rw [add0_join xs ys hx hy]; exact beq_self_eq_true _
theorem range_append {xs ys : List Int} (hx : ∀ z, z ∈ xs → 0 ≤ z ∧ z < 256) (hy : ∀ z, z ∈ ys → 0 ≤ z ∧ z < 256) : ∀ z, z ∈ xs ++ ys → 0 ≤ z ∧ z < 256 := by
  intro z hz
  rcases List.mem_append.1 hz with h | h
  · exact hx z h
  · exact hy z h
/-- What stands where some of the four bytes have been turned. -/
def tw (zs : List Int) (k : Nat) (t : Int) : Nat → List Int
  | 0 => zs
  | i + 1 => (tw zs k t i).set (k + i) (Go.bits .xor .u8 (gi (tw zs k t i) (k + i)) (t / 2 ^ (8 * i) % 256))
theorem tw_length (zs : List Int) (k : Nat) (t : Int) (i : Nat) : (tw zs k t i).length = zs.length := by
  induction i with
  | zero => rfl
  | succ i ih => simp [tw, ih]
def x8 (a t : Int) (i : Nat) : Int := Go.bits .xor .u8 a (t / 2 ^ (8 * i) % 256)
theorem split4 (zs : List Int) (k : Nat) (h : k + 4 ≤ zs.length) : ∃ pre a0 a1 a2 a3 post, zs = pre ++ (a0 :: a1 :: a2 :: a3 :: post) ∧ pre.length = k := by
  refine ⟨zs.take k, ?_⟩
  have hl : 4 ≤ (zs.drop k).length := by rw [List.length_drop]; omega
  have e := (List.take_append_drop k zs).symm
  match hd : zs.drop k, hl with
  | a0 :: a1 :: a2 :: a3 :: post, _ => exact ⟨a0, a1, a2, a3, post, by rw [← hd]; exact e, by rw [List.length_take]; omega⟩
theorem tw_split (pre : List Int) (a0 a1 a2 a3 : Int) (post : List Int) (t : Int) : tw (pre ++ (a0 :: a1 :: a2 :: a3 :: post)) pre.length t 4 = pre ++ (x8 a0 t 0 :: x8 a1 t 1 :: x8 a2 t 2 :: x8 a3 t 3 :: post) := by
  simp only [tw, gi_append_right, x8]
  rw [List.set_append_right _ _ (by omega), Nat.add_sub_cancel_left]
  simp only [gi_append_right, List.set_cons_zero]
  rw [List.set_append_right _ _ (by omega), Nat.add_sub_cancel_left]
  simp only [gi_append_right, List.set_cons_zero, List.set_cons_succ]
  rw [List.set_append_right _ _ (by omega), Nat.add_sub_cancel_left]
  simp only [gi_append_right, List.set_cons_zero, List.set_cons_succ]
  rw [List.set_append_right _ _ (by omega), Nat.add_sub_cancel_left]
  simp only [List.set_cons_zero, List.set_cons_succ]
  rfl
theorem x8_nat (a t i : Nat) (ha : a < 256) : x8 (a : Int) (t : Int) i = ((a ^^^ (t / 2 ^ (8 * i) % 256) : Nat) : Int) := by
  unfold x8
  have e : ((t : Int) / 2 ^ (8 * i) % 256) = ((t / 2 ^ (8 * i) % 256 : Nat) : Int) := by
    have : ((t : Int) / 2 ^ (8 * i)) = ((t / 2 ^ (8 * i) : Nat) : Int) := by rw [Int.natCast_ediv, Int.natCast_pow]; rfl
    rw [this]; rfl
  rw [e]
  exact u8_xor_nat a _ ha (Nat.mod_lt _ (by omega))
theorem xor8_lt (a b : Nat) (ha : a < 256) (hb : b < 256) : a ^^^ b < 256 := Nat.xor_lt_two_pow (n := 8) ha hb
theorem x8_range (a t : Int) (i : Nat) (ha : 0 ≤ a) (ha' : a < 256) (ht : 0 ≤ t) : 0 ≤ x8 a t i ∧ x8 a t i < 256 := by
  obtain ⟨a, rfl⟩ := Int.eq_ofNat_of_zero_le ha
  obtain ⟨t, rfl⟩ := Int.eq_ofNat_of_zero_le ht
  rw [x8_nat a t i (by omega)]
  have := xor8_lt a (t / 2 ^ (8 * i) % 256) (by omega) (Nat.mod_lt _ (by omega))
  omega
theorem x8_self (a t : Int) (i : Nat) (ha : 0 ≤ a) (ha' : a < 256) (ht : 0 ≤ t) (h : (x8 a t i).toNat = a.toNat) : t.toNat / 2 ^ (8 * i) % 256 = 0 := by
  obtain ⟨a, rfl⟩ := Int.eq_ofNat_of_zero_le ha
  obtain ⟨t, rfl⟩ := Int.eq_ofNat_of_zero_le ht
  rw [x8_nat a t i (by omega)] at h
  simp only [Int.toNat_natCast] at h ⊢
  have h1 : a ^^^ (a ^^^ (t / 2 ^ (8 * i) % 256)) = a ^^^ a := by rw [h]
  rwa [← Nat.xor_assoc, Nat.xor_self, Nat.zero_xor] at h1
theorem tw_range (zs : List Int) (k : Nat) (t : Int) (hk : k + 4 ≤ zs.length) (hz : ∀ z, z ∈ zs → 0 ≤ z ∧ z < 256) (ht : 0 ≤ t) : ∀ z, z ∈ tw zs k t 4 → 0 ≤ z ∧ z < 256 := by
  obtain ⟨pre, a0, a1, a2, a3, post, rfl, rfl⟩ := split4 zs k hk
  rw [tw_split]
  intro z h
  have g0 := hz a0 (by simp)
  have g1 := hz a1 (by simp)
  have g2 := hz a2 (by simp)
  have g3 := hz a3 (by simp)
  simp only [List.mem_append, List.mem_cons] at h
  rcases h with h | rfl | rfl | rfl | rfl | h
  · exact hz z (by simp [h])
  · exact x8_range _ _ _ g0.1 g0.2 ht
  · exact x8_range _ _ _ g1.1 g1.2 ht
  · exact x8_range _ _ _ g2.1 g2.2 ht
  · exact x8_range _ _ _ g3.1 g3.2 ht
  · exact hz z (by simp [h])
theorem tw_apart (zs : List Int) (k : Nat) (t : Int) (hk : k + 4 ≤ zs.length) (hz : ∀ z, z ∈ zs → 0 ≤ z ∧ z < 256) (t0 : 0 < t) (t1 : t ≤ 4294967295) : addI 0 (tw zs k t 4) ≠ addI 0 zs := by
  have hz2 := tw_range zs k t hk hz (by omega)
  intro h
  have e1 := addI_nat 0 (tw zs k t 4) (by omega) hz2
  have e2 := addI_nat 0 zs (by omega) hz
  rw [show ((0 : Nat) : Int) = 0 from rfl] at e1 e2
  rw [e1, e2] at h
  have l1 := rN_lt 4294967295 (bytesN (tw zs k t 4)) (by omega) (bytesN_lt _ hz2)
  have l2 := rN_lt 4294967295 (bytesN zs) (by omega) (bytesN_lt _ hz)
  simp only [Nat.sub_zero] at h
  have hr : rN 4294967295 (bytesN (tw zs k t 4)) = rN 4294967295 (bytesN zs) := by omega
  clear h e1 e2 l1 l2
  obtain ⟨pre, a0, a1, a2, a3, post, rfl, rfl⟩ := split4 zs k hk
  rw [tw_split] at hr hz2
  have hpre : ∀ z, z ∈ pre → 0 ≤ z ∧ z < 256 := fun z h => hz z (by simp [h])
  have hpost : ∀ z, z ∈ post → 0 ≤ z ∧ z < 256 := fun z h => hz z (by simp [h])
  have g0 := hz a0 (by simp)
  have g1 := hz a1 (by simp)
  have g2 := hz a2 (by simp)
  have g3 := hz a3 (by simp)
  have f0 := x8_range a0 t 0 g0.1 g0.2 (by omega)
  have f1 := x8_range a1 t 1 g1.1 g1.2 (by omega)
  have f2 := x8_range a2 t 2 g2.1 g2.2 (by omega)
  have f3 := x8_range a3 t 3 g3.1 g3.2 (by omega)
  have part (b0 b1 b2 b3 : Int) : rN 4294967295 (bytesN (pre ++ (b0 :: b1 :: b2 :: b3 :: post))) = rN (rN (rN 4294967295 (bytesN pre)) [b0.toNat, b1.toNat, b2.toNat, b3.toNat]) (bytesN post) := by
    simp [rN, bytesN]
  rw [part, part] at hr
  have c0 := rN_lt 4294967295 (bytesN pre) (by omega) (bytesN_lt _ hpre)
  have four_lt (b0 b1 b2 b3 : Int) (h0 : b0 < 256) (h1 : b1 < 256) (h2 : b2 < 256) (h3 : b3 < 256) : rN (rN 4294967295 (bytesN pre)) [b0.toNat, b1.toNat, b2.toNat, b3.toNat] < 4294967296 :=
    rN_lt _ _ c0 (by
      intro b hb
      simp only [List.mem_cons, List.not_mem_nil, or_false] at hb
      rcases hb with rfl | rfl | rfl | rfl <;> omega)
  have h4 := rN_inj _ _ _ (four_lt _ _ _ _ f0.2 f1.2 f2.2 f3.2) (four_lt _ _ _ _ g0.2 g1.2 g2.2 g3.2) (bytesN_lt _ hpost) hr
  obtain ⟨q0, q1, q2, q3⟩ := four_apart _ _ _ _ _ _ _ _ _ c0 (by omega) (by omega) (by omega) (by omega) (by omega) (by omega) (by omega) (by omega) h4
  have r0 := x8_self a0 t 0 g0.1 g0.2 (by omega) q0
  have r1 := x8_self a1 t 1 g1.1 g1.2 (by omega) q1
  have r2 := x8_self a2 t 2 g2.1 g2.2 (by omega) q2
  have r3 := x8_self a3 t 3 g3.1 g3.2 (by omega) q3
  simp only [Nat.reduceMul, Nat.reducePow, Nat.div_one] at r0 r1 r2 r3
  omega
end Go.Proofs.Ytajhkjikcgfhdaa
