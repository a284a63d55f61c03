/-
  The walks of inkhornref2.Of and of the four statements on sums.
-/
import Derived.Test.YtboeahbbmkdafaaSum
import Derived.Test.YtboeahbbmkdafaaLend
namespace Go.Proofs.Ytboeahbbmkdafaa
set_option linter.unusedVariables false
set_option linter.unusedSimpArgs false
open Go.RowKit
theorem refStep_yes {x b : Int} {q : Nat} (h : (x % 2 != (b / 2 ^ q).tmod 2) = true) : refStep b q x = Go.bits .xor .u32 (x / 2) 3988292384 := if_pos h
theorem refStep_no {x b : Int} {q : Nat} (h : (x % 2 != (b / 2 ^ q).tmod 2) = false) : refStep b q x = x / 2 := if_neg (by rw [h]; decide)
set_option maxHeartbeats 400000 in
theorem refof_any (A : Option Addr) (n cp : Nat) (zs : List Int) (w : World) (h : BReads w A n zs) :
    Calls Try.prog 15 #[.slice A n cp] w fun e w' => e = .returned (.int .u32 (refI zs)) ∧ w = w' := by
  have hm := h.2.1
  have HR := Lib.hid fun b hb => (h.range b hb)
  have HL := Lib.hid h.1
  have H := Lib.hid h
  clear h
  go_enter Try.func15, Try.ntmps15
  go_wp2
  go_loop [3, 4] (fun c i => ∃ (k : Nat) (x : Int), k ≤ n ∧ 0 ≤ x ∧ x < 4294967296 ∧ i = .int .i64 k ∧ c = .int .u32 x ∧ Hid (x = (zs.take k).foldl (fun x b => refTurn b 8 x) 4294967295)) (fun _ i => n - (intOf i).toNat)
  case atStart => exact ⟨0, 4294967295, by omega, by omega, by omega, rfl, rfl, rfl⟩
  case round =>
    obtain ⟨k, x, hk, x0, x1, rfl, rfl, HX⟩ := hrel
    by_cases hlt : k < n
    · obtain ⟨ad, rfl, hc⟩ := H.out.at_ k hlt
      obtain ⟨b0, b1⟩ := H.out.2.2.2 k
      have E := Lib.hid (foldl_take_succ (fun x b => refTurn b 8 x) 4294967295 zs k (by rw [HL.out]; exact hlt))
      go_wp2
      go_loop [3, 5, 6] (fun c j o => ∃ (q : Nat) (y : Int), q ≤ 8 ∧ 0 ≤ y ∧ y < 4294967296 ∧ j = .int .i64 q ∧ c = .int .u32 y ∧ Hid (y = refTurn (gi zs k) q x)) (fun _ j _ => 8 - (intOf j).toNat)
      case atStart => exact ⟨0, x, by omega, x0, x1, rfl, rfl, rfl⟩
      case round =>
        obtain ⟨q, y, hq, y0, y1, rfl, rfl, HY⟩ := hrel
        by_cases hlq : q < 8
        · cases hb : (y % 2 != (gi zs k / 2 ^ q).tmod 2) with
          | true =>
            have E1 := Lib.hid (refStep_yes hb)
            go_wp2
            go_round
            case rel => exact ⟨q + 1, Go.bits .xor .u32 (y / 2) 3988292384, by omega, (by
              have e : refTurn (gi zs k) (q + 1) x = Go.bits .xor .u32 (y / 2) 3988292384 := by rw [← E1.out, HY.out]; rfl
              rw [← e]; exact (refTurn_range (gi zs k) x (q + 1) b0 x0 x1).1), (by
              have e : refTurn (gi zs k) (q + 1) x = Go.bits .xor .u32 (y / 2) 3988292384 := by rw [← E1.out, HY.out]; rfl
              rw [← e]; exact (refTurn_range (gi zs k) x (q + 1) b0 x0 x1).2), by go_num, rfl, (by
              have e : refTurn (gi zs k) (q + 1) x = Go.bits .xor .u32 (y / 2) 3988292384 := by rw [← E1.out, HY.out]; rfl
              exact e.symm)⟩
            case measure => simp [intOf]; omega
          | false =>
            have E1 := Lib.hid (refStep_no hb)
            go_wp2
            go_round
            case rel => exact ⟨q + 1, y / 2, by omega, by omega, by omega, by go_num, rfl, (by
              have e : refTurn (gi zs k) (q + 1) x = y / 2 := by rw [← E1.out, HY.out]; rfl
              exact e.symm)⟩
            case measure => simp [intOf]; omega
        · obtain rfl : q = 8 := by omega
          go_wp2
          go_round
          case rel => exact ⟨k + 1, y, by omega, y0, y1, by go_num, rfl, (by
            have e := E.out
            rw [← HX.out, ← HY.out] at e
            exact e.symm)⟩
          case measure => simp [intOf]; omega
    · obtain rfl : k = n := by omega
      have E1 : Hid (4294967295 - x = refI zs) := by
        have e := HX.out
        rw [List.take_of_length_le (by rw [HL.out]; omega)] at e
        rw [e]; rfl
      go_wp2
      go_ret
      exact ⟨by rw [← E1.out]; rfl, rfl⟩
theorem doc_sum (zs : List Int) (h : ∀ z, z ∈ zs → 0 ≤ z ∧ z < 256) : (addI 0 zs == refI zs) = true := by
  rw [refI_eq zs h]; exact beq_self_eq_true _
set_option maxHeartbeats 800000 in
theorem sumTells_walk (A : Option Addr) (n cp : Nat) (zs : List Int) (w : World) (h : BReads w A n zs) :
    Calls Try.prog 3 #[.slice A n cp] w fun e w' => e = .returned (.bool true) ∧ Below w.heap.size w w' := by
  have hm := h.2.1
  have H := Lib.hid h
  have HR := Lib.hid h.range
  have HL := Lib.hid h.1
  clear h
  by_cases hn : 600 < n
  · go_enter Try.func3, Try.ntmps3
    go_wp2_with (go_at_call 12; refine (awake2_any _).mono ?_; rintro e w' ⟨rfl, hb⟩)
    go_ret
    exact ⟨rfl, hb⟩
  · have hn' : n ≤ 600 := by omega
    clear hn
    have e1 := doc_sum zs HR.out
    go_enter Try.func3, Try.ntmps3
    go_wp2_with (go_at_call 13; refine (lend_any _ _ _ _ _ H.out (by omega)).mono ?_; rintro e w' ⟨w1, rfl, rfl, hlent, hb1⟩)
    have HI := Lib.hid (hlent.breads n HL.out (by omega) HR.out)
    have HB := Lib.hid (H.out.below hb1)
    have HT := Lib.hid hlent
    clear hlent H
    go_wp2_with (first
      | (go_at_call 14; refine (of_any _ _ _ _ _ HI.out).mono ?_; rintro e w' ⟨rfl, rfl⟩)
      | (go_at_call 15; refine (refof_any _ _ _ _ _ HB.out).mono ?_; rintro e w' ⟨rfl, rfl⟩)
      | (go_at_call 16; refine (kept_any _ _ _ _ _ _ _ _ HT.out HL.out HR.out (Nat.le_trans hn' (by decide)) HB.out).mono ?_; rintro e w' ⟨rfl, q, rfl⟩)
      | (go_at_call 12; refine (awake2_any _).mono ?_; rintro e w' ⟨rfl, hb2⟩))
    go_ret
    exact ⟨rfl, hb1.trans ((below_drewN (Below.refl _ _) q).trans (hb2.mono (by simpa using hb1.size)))⟩
theorem join_ok (xs ys : List Int) (hx : ∀ z, z ∈ xs → 0 ≤ z ∧ z < 256) (hy : ∀ z, z ∈ ys → 0 ≤ z ∧ z < 256) : (addI (addI 0 xs) ys == addI 0 (xs ++ ys)) = true := by
  rw [add0_join xs ys hx hy]; exact beq_self_eq_true _
theorem range_append {xs ys : List Int} (hx : ∀ z, z ∈ xs → 0 ≤ z ∧ z < 256) (hy : ∀ z, z ∈ ys → 0 ≤ z ∧ z < 256) : ∀ z, z ∈ xs ++ ys → 0 ≤ z ∧ z < 256 := by
  intro z hz
  rcases List.mem_append.1 hz with h | h
  · exact hx z h
  · exact hy z h
set_option maxHeartbeats 800000 in
theorem sumJoins_go (A B : Option Addr) (n cp m cq : Nat) (xs ys : List Int) (w : World) (h : BReads w A n xs) (k : BReads w B m ys) (hn : n ≤ 600) (hm : m ≤ 600) :
    Calls Try.prog 4 #[.slice A n cp, .slice B m cq] w fun e w' => e = .returned (.bool true) ∧ Below w.heap.size w w' := by
  obtain ⟨i0, hi, hz0, hz1, hz2⟩ := info_parts info_u8
  have H := Lib.hid h
  have K := Lib.hid k
  have HR := Lib.hid h.range
  have KR := Lib.hid k.range
  have HL := Lib.hid h.1
  have KL := Lib.hid k.1
  have I := Lib.hid (And.intro hi (And.intro hz0 (And.intro hz1 hz2)))
  have e1 := join_ok xs ys h.range k.range
  have e2 : (addI 0 ys == addI 0 ys) = true := beq_self_eq_true _
  clear h k hi hz0 hz1 hz2
  go_enter Try.func4, Try.ntmps4
  go_wp2_with (first
    | (go_at_call 14; (with_reducible refine (of_any _ _ _ _ _ H.out).mono ?_); rintro e w' ⟨rfl, rfl⟩)
    | (go_at_call 17; (with_reducible refine (add_any _ _ _ _ _ _ K.out).mono ?_); rintro e w' ⟨rfl, rfl⟩)
    | (at_builtin; refine wpList_append_any _ rfl (.const (.slice none 0 0)) (.tmp 18) _ rfl w.heap.size 5 i0 _ 1 1 Try.underlying22 I.out.1 I.out.2.1 I.out.2.2.1 I.out.2.2.2 rfl (by omega) (.slice none 0 0) 0 [] rfl (World.ownsRow_nil _ _ _ _) w.heap.size A n cp (bvals xs) rfl H.out.reads (bvals_one _) (by simp only [maxLen]; omega) (by omega) (Nat.le_refl _) ?_; intro v1 w1 hown1 hg1 hat1; have hb1 : Below w.heap.size w w1 := (Below.refl _ _).grown hg1 (Nat.le_refl _) (by simp [Value.ownBlock]); simp only [Nat.zero_add, List.nil_append] at hown1)
    | (at_builtin; refine wpList_append_any _ rfl (.tmp 19) (.tmp 20) _ rfl w.heap.size 5 i0 _ 1 1 Try.underlying22 I.out.1 I.out.2.1 I.out.2.2.1 I.out.2.2.2 rfl (by omega) v1 n (bvals xs) rfl hown1 w.heap.size B m cq (bvals ys) rfl (K.out.reads.below hb1) (bvals_one _) (by simp only [maxLen]; omega) (by omega) hb1.size ?_; intro v2 w2 hown2 hg2 hat2))
  have hb2 : Below w.heap.size w w2 := hb1.grown hg2 hb1.size (fun k hk => (hown1.lt k hk).1)
  rw [← bvals_append] at hown2
  obtain ⟨A2, c2, hv2, hc2, hr2⟩ := own_breads hown2 (range_append HR.out KR.out)
  rw [hv2]
  have R2 := Lib.hid hr2
  have K2 := Lib.hid (K.out.below hb2)
  clear hr2 hown1 hown2 hat1 hat2 hg1 hg2 hc2 hv2
  go_wp2_with (first
    | (go_at_call 14; (with_reducible refine (of_any _ _ _ _ _ R2.out).mono ?_); rintro e w' ⟨rfl, rfl⟩; clear R2)
    | (go_at_call 14; (with_reducible refine (of_any _ _ _ _ _ K2.out).mono ?_); rintro e w' ⟨rfl, rfl⟩)
    | (go_at_call 17; (with_reducible refine (add_any _ _ _ _ _ _ K2.out).mono ?_); rintro e w' ⟨rfl, rfl⟩)
    | (go_at_call 12; (with_reducible refine (awake2_any _).mono ?_); rintro e w' ⟨rfl, hb3⟩))
  go_ret
  exact ⟨rfl, hb2.trans (hb3.mono hb2.size)⟩
/-- What stands where some of the four bytes have been turned. -/
def tw (zs : List Int) (k : Nat) (t : Int) : Nat → List Int
  | 0 => zs
  | i + 1 => (tw zs k t i).set (k + i) (Go.bits .xor .u8 (gi (tw zs k t i) (k + i)) (t / 2 ^ (8 * i) % 256))
theorem tw_length (zs : List Int) (k : Nat) (t : Int) (i : Nat) : (tw zs k t i).length = zs.length := by
  induction i with
  | zero => rfl
  | succ i ih => simp [tw, ih]
def x8 (a t : Int) (i : Nat) : Int := Go.bits .xor .u8 a (t / 2 ^ (8 * i) % 256)
theorem split4 (zs : List Int) (k : Nat) (h : k + 4 ≤ zs.length) : ∃ pre a0 a1 a2 a3 post, zs = pre ++ (a0 :: a1 :: a2 :: a3 :: post) ∧ pre.length = k := by
  refine ⟨zs.take k, ?_⟩
  have hl : 4 ≤ (zs.drop k).length := by rw [List.length_drop]; omega
  have e := (List.take_append_drop k zs).symm
  match hd : zs.drop k, hl with
  | a0 :: a1 :: a2 :: a3 :: post, _ => exact ⟨a0, a1, a2, a3, post, by rw [← hd]; exact e, by rw [List.length_take]; omega⟩
theorem tw_split (pre : List Int) (a0 a1 a2 a3 : Int) (post : List Int) (t : Int) : tw (pre ++ (a0 :: a1 :: a2 :: a3 :: post)) pre.length t 4 = pre ++ (x8 a0 t 0 :: x8 a1 t 1 :: x8 a2 t 2 :: x8 a3 t 3 :: post) := by
  simp only [tw, gi_append_right, x8]
  rw [List.set_append_right _ _ (by omega), Nat.add_sub_cancel_left]
  simp only [gi_append_right, List.set_cons_zero]
  rw [List.set_append_right _ _ (by omega), Nat.add_sub_cancel_left]
  simp only [gi_append_right, List.set_cons_zero, List.set_cons_succ]
  rw [List.set_append_right _ _ (by omega), Nat.add_sub_cancel_left]
  simp only [gi_append_right, List.set_cons_zero, List.set_cons_succ]
  rw [List.set_append_right _ _ (by omega), Nat.add_sub_cancel_left]
  simp only [List.set_cons_zero, List.set_cons_succ]
  rfl
theorem x8_nat (a t i : Nat) (ha : a < 256) : x8 (a : Int) (t : Int) i = ((a ^^^ (t / 2 ^ (8 * i) % 256) : Nat) : Int) := by
  unfold x8
  have e : ((t : Int) / 2 ^ (8 * i) % 256) = ((t / 2 ^ (8 * i) % 256 : Nat) : Int) := by
    have : ((t : Int) / 2 ^ (8 * i)) = ((t / 2 ^ (8 * i) : Nat) : Int) := by rw [Int.natCast_ediv, Int.natCast_pow]; rfl
    rw [this]; rfl
  rw [e]
  exact u8_xor_nat a _ ha (Nat.mod_lt _ (by omega))
theorem xor8_lt (a b : Nat) (ha : a < 256) (hb : b < 256) : a ^^^ b < 256 := Nat.xor_lt_two_pow (n := 8) ha hb
theorem x8_range (a t : Int) (i : Nat) (ha : 0 ≤ a) (ha' : a < 256) (ht : 0 ≤ t) : 0 ≤ x8 a t i ∧ x8 a t i < 256 := by
  obtain ⟨a, rfl⟩ := Int.eq_ofNat_of_zero_le ha
  obtain ⟨t, rfl⟩ := Int.eq_ofNat_of_zero_le ht
  rw [x8_nat a t i (by omega)]
  have := xor8_lt a (t / 2 ^ (8 * i) % 256) (by omega) (Nat.mod_lt _ (by omega))
  omega
theorem x8_self (a t : Int) (i : Nat) (ha : 0 ≤ a) (ha' : a < 256) (ht : 0 ≤ t) (h : (x8 a t i).toNat = a.toNat) : t.toNat / 2 ^ (8 * i) % 256 = 0 := by
  obtain ⟨a, rfl⟩ := Int.eq_ofNat_of_zero_le ha
  obtain ⟨t, rfl⟩ := Int.eq_ofNat_of_zero_le ht
  rw [x8_nat a t i (by omega)] at h
  simp only [Int.toNat_natCast] at h ⊢
  have h1 : a ^^^ (a ^^^ (t / 2 ^ (8 * i) % 256)) = a ^^^ a := by rw [h]
  rwa [← Nat.xor_assoc, Nat.xor_self, Nat.zero_xor] at h1
theorem tw_range (zs : List Int) (k : Nat) (t : Int) (hk : k + 4 ≤ zs.length) (hz : ∀ z, z ∈ zs → 0 ≤ z ∧ z < 256) (ht : 0 ≤ t) : ∀ z, z ∈ tw zs k t 4 → 0 ≤ z ∧ z < 256 := by
  obtain ⟨pre, a0, a1, a2, a3, post, rfl, rfl⟩ := split4 zs k hk
  rw [tw_split]
  intro z h
  have g0 := hz a0 (by simp)
  have g1 := hz a1 (by simp)
  have g2 := hz a2 (by simp)
  have g3 := hz a3 (by simp)
  simp only [List.mem_append, List.mem_cons] at h
  rcases h with h | rfl | rfl | rfl | rfl | h
  · exact hz z (by simp [h])
  · exact x8_range _ _ _ g0.1 g0.2 ht
  · exact x8_range _ _ _ g1.1 g1.2 ht
  · exact x8_range _ _ _ g2.1 g2.2 ht
  · exact x8_range _ _ _ g3.1 g3.2 ht
  · exact hz z (by simp [h])
theorem tw_apart (zs : List Int) (k : Nat) (t : Int) (hk : k + 4 ≤ zs.length) (hz : ∀ z, z ∈ zs → 0 ≤ z ∧ z < 256) (t0 : 0 < t) (t1 : t ≤ 4294967295) : addI 0 (tw zs k t 4) ≠ addI 0 zs := by
  have hz2 := tw_range zs k t hk hz (by omega)
  intro h
  have e1 := addI_nat 0 (tw zs k t 4) (by omega) hz2
  have e2 := addI_nat 0 zs (by omega) hz
  rw [show ((0 : Nat) : Int) = 0 from rfl] at e1 e2
  rw [e1, e2] at h
  have l1 := rN_lt 4294967295 (bytesN (tw zs k t 4)) (by omega) (bytesN_lt _ hz2)
  have l2 := rN_lt 4294967295 (bytesN zs) (by omega) (bytesN_lt _ hz)
  simp only [Nat.sub_zero] at h
  have hr : rN 4294967295 (bytesN (tw zs k t 4)) = rN 4294967295 (bytesN zs) := by omega
  clear h e1 e2 l1 l2
  obtain ⟨pre, a0, a1, a2, a3, post, rfl, rfl⟩ := split4 zs k hk
  rw [tw_split] at hr hz2
  have hpre : ∀ z, z ∈ pre → 0 ≤ z ∧ z < 256 := fun z h => hz z (by simp [h])
  have hpost : ∀ z, z ∈ post → 0 ≤ z ∧ z < 256 := fun z h => hz z (by simp [h])
  have g0 := hz a0 (by simp)
  have g1 := hz a1 (by simp)
  have g2 := hz a2 (by simp)
  have g3 := hz a3 (by simp)
  have f0 := x8_range a0 t 0 g0.1 g0.2 (by omega)
  have f1 := x8_range a1 t 1 g1.1 g1.2 (by omega)
  have f2 := x8_range a2 t 2 g2.1 g2.2 (by omega)
  have f3 := x8_range a3 t 3 g3.1 g3.2 (by omega)
  have part (b0 b1 b2 b3 : Int) : rN 4294967295 (bytesN (pre ++ (b0 :: b1 :: b2 :: b3 :: post))) = rN (rN (rN 4294967295 (bytesN pre)) [b0.toNat, b1.toNat, b2.toNat, b3.toNat]) (bytesN post) := by
    simp [rN, bytesN]
  rw [part, part] at hr
  have c0 := rN_lt 4294967295 (bytesN pre) (by omega) (bytesN_lt _ hpre)
  have four_lt (b0 b1 b2 b3 : Int) (h0 : b0 < 256) (h1 : b1 < 256) (h2 : b2 < 256) (h3 : b3 < 256) : rN (rN 4294967295 (bytesN pre)) [b0.toNat, b1.toNat, b2.toNat, b3.toNat] < 4294967296 :=
    rN_lt _ _ c0 (by
      intro b hb
      simp only [List.mem_cons, List.not_mem_nil, or_false] at hb
      rcases hb with rfl | rfl | rfl | rfl <;> omega)
  have h4 := rN_inj _ _ _ (four_lt _ _ _ _ f0.2 f1.2 f2.2 f3.2) (four_lt _ _ _ _ g0.2 g1.2 g2.2 g3.2) (bytesN_lt _ hpost) hr
  obtain ⟨q0, q1, q2, q3⟩ := four_apart _ _ _ _ _ _ _ _ _ c0 (by omega) (by omega) (by omega) (by omega) (by omega) (by omega) (by omega) (by omega) h4
  have r0 := x8_self a0 t 0 g0.1 g0.2 (by omega) q0
  have r1 := x8_self a1 t 1 g1.1 g1.2 (by omega) q1
  have r2 := x8_self a2 t 2 g2.1 g2.2 (by omega) q2
  have r3 := x8_self a3 t 3 g3.1 g3.2 (by omega) q3
  simp only [Nat.reduceMul, Nat.reducePow, Nat.div_one] at r0 r1 r2 r3
  omega
theorem bvals_set (zs : List Int) (j : Nat) (x : Int) : (bvals zs).set j (.int .u8 x) = bvals (zs.set j x) := by simp [bvals, List.map_set]
set_option maxHeartbeats 800000 in
theorem sumTurned_go (A : Option Addr) (n cp : Nat) (zs : List Int) (at_ turn : Int) (w : World) (h : BReads w A n zs) (hn : n ≤ 600) (hn4 : 4 ≤ n) (t0 : 0 < turn) (t1 : turn ≤ 4294967295) :
    Calls Try.prog 5 #[.slice A n cp, .int .i64 at_, .int .u32 turn] w fun e w' => e = .returned (.bool true) ∧ Below w.heap.size w w' := by
  obtain ⟨i0, hi, hz0, hz1, hz2⟩ := info_parts info_u8
  have H := Lib.hid h
  have HR := Lib.hid h.range
  have HL := Lib.hid h.1
  have I := Lib.hid (And.intro hi (And.intro hz0 (And.intro hz1 hz2)))
  obtain ⟨l0, l1⟩ := lowI_range at_ ((n : Int) - 3) (by omega)
  obtain ⟨k, hk⟩ := Int.eq_ofNat_of_zero_le l0
  rw [hk] at l1
  have HK := Lib.hid hk
  have tb : (turn == 0) = false := by simp; omega
  clear h hi hz0 hz1 hz2 l0 hk
  go_enter Try.func5, Try.ntmps5
  go_wp2_with (first
    | (go_at_call 18; (with_reducible refine (low_any _ _ _ (by omega) (by omega)).mono ?_); rintro e w' ⟨rfl, rfl⟩; rw [HK.out])
    | (at_builtin; refine wpList_append_any _ rfl (.const (.slice none 0 0)) (.tmp 28) _ rfl w.heap.size 5 i0 _ 1 1 Try.underlying22 I.out.1 I.out.2.1 I.out.2.2.1 I.out.2.2.2 rfl (by omega) (.slice none 0 0) 0 [] rfl (World.ownsRow_nil _ _ _ _) w.heap.size A n cp (bvals zs) rfl H.out.reads (bvals_one _) (by simp only [maxLen]; omega) (by omega) (Nat.le_refl _) ?_; intro v1 w1 hown1 hg1 hat1))
  have hb1 : Below w.heap.size w w1 := (Below.refl _ _).grown hg1 (Nat.le_refl _) (by simp [Value.ownBlock])
  simp only [Nat.zero_add, List.nil_append] at hown1
  obtain ⟨g, cap, hv1, hbg, hlt⟩ := hown1.form (by omega)
  rw [hv1]
  rw [hv1] at hown1
  clear hv1 hat1 hg1
  go_loopw [9] (fun i wr => ∃ j : Nat, j ≤ 4 ∧ i = .int .i64 j ∧ Hid (wr.ownsRow w.heap.size 5 1 (.slice (some ⟨g, 0, none⟩) n cap) n (bvals (tw zs k turn j))) ∧ Hid (Below w.heap.size w wr)) (fun i _ => 4 - (intOf i).toNat)
  case atStart => exact ⟨0, by omega, rfl, hown1, hb1⟩
  case round =>
    clear hown1 hb1
    obtain ⟨j, hj, rfl, HO, HB⟩ := hrel
    by_cases hlt : j < 4
    · have hc : wr.cell? ⟨g, k + j, none⟩ = some (.int .u8 (gi (tw zs k turn j) (k + j))) := by
        rw [World.ownsRow.cellAt HO.out _ (by omega)]
        exact bvals_get _ _ (by rw [tw_length, HL.out]; omega)
      have hf : wr.frozen? ⟨g, k + j, none⟩ = false := World.ownsRow.frozenAt HO.out _
      have hlow : k + j < n := by omega
      go_wp2
      go_region
      clear hc hf
      go_wp2
      go_roundw
      case rel => exact ⟨j + 1, by omega, by go_num, (by
        have hs := World.ownsRow.stored HO.out (k + j) (.int .u8 (Go.bits .xor .u8 (gi (tw zs k turn j) (k + j)) (turn / 2 ^ (8 * j) % 256)))
        rw [bvals_set] at hs
        exact hs.1), (HB.out.setCell hbg _).drew⟩
      case measure => simp [intOf]; omega
    · obtain rfl : j = 4 := by omega
      have RX : Hid (BReads wr (some ⟨g, 0, none⟩) n (tw zs k turn 4)) := (Reads.of_own HO.out).breads (by omega) (tw_range zs k turn (by rw [HL.out]; omega) HR.out (by omega))
      have RB := Lib.hid (H.out.below HB.out)
      have ne : (addI 0 (tw zs k turn 4) != addI 0 zs) = true := bne_iff_ne.2 (tw_apart zs k turn (by rw [HL.out]; omega) HR.out t0 t1)
      go_wp2_with (first
        | (go_at_call 14; (with_reducible refine (of_any _ _ _ _ _ RX.out).mono ?_); rintro e w' ⟨rfl, rfl⟩; clear RX)
        | (go_at_call 14; (with_reducible refine (of_any _ _ _ _ _ RB.out).mono ?_); rintro e w' ⟨rfl, rfl⟩)
        | (go_at_call 12; (with_reducible refine (awake2_any _).mono ?_); rintro e w' ⟨rfl, hb3⟩))
      go_ret
      exact ⟨rfl, HB.out.trans (hb3.mono HB.out.size)⟩
theorem sumTurned_walk (A : Option Addr) (n cp : Nat) (zs : List Int) (at_ turn : Int) (w : World) (h : BReads w A n zs) (t0 : 0 ≤ turn) (t1 : turn ≤ 4294967295) :
    Calls Try.prog 5 #[.slice A n cp, .int .i64 at_, .int .u32 turn] w fun e w' => e = .returned (.bool true) ∧ Below w.heap.size w w' := by
  have hm := h.2.1
  by_cases h1 : 600 < n
  · clear h
    go_enter Try.func5, Try.ntmps5
    go_wp2_with (go_at_call 12; (with_reducible refine (awake2_any _).mono ?_); rintro e w' ⟨rfl, hb⟩)
    go_ret
    exact ⟨rfl, hb⟩
  by_cases h2 : n < 4
  · clear h
    go_enter Try.func5, Try.ntmps5
    go_wp2_with (go_at_call 12; (with_reducible refine (awake2_any _).mono ?_); rintro e w' ⟨rfl, hb⟩)
    go_ret
    exact ⟨rfl, hb⟩
  by_cases h3 : turn = 0
  · subst h3
    clear h
    go_enter Try.func5, Try.ntmps5
    go_wp2_with (go_at_call 12; (with_reducible refine (awake2_any _).mono ?_); rintro e w' ⟨rfl, hb⟩)
    go_ret
    exact ⟨rfl, hb⟩
  exact sumTurned_go A n cp zs at_ turn w h (by omega) (by omega) (by omega) t1
theorem sumJoins_walk (A B : Option Addr) (n cp m cq : Nat) (xs ys : List Int) (w : World) (h : BReads w A n xs) (k : BReads w B m ys) :
    Calls Try.prog 4 #[.slice A n cp, .slice B m cq] w fun e w' => e = .returned (.bool true) ∧ Below w.heap.size w w' := by
  have hn := h.2.1
  have hm := k.2.1
  by_cases h1 : 600 < n
  · clear h k
    go_enter Try.func4, Try.ntmps4
    go_wp2_with (go_at_call 12; (with_reducible refine (awake2_any _).mono ?_); rintro e w' ⟨rfl, hb⟩)
    go_ret
    exact ⟨rfl, hb⟩
  by_cases h2 : 600 < m
  · clear h k
    go_enter Try.func4, Try.ntmps4
    go_wp2_with (go_at_call 12; (with_reducible refine (awake2_any _).mono ?_); rintro e w' ⟨rfl, hb⟩)
    go_ret
    exact ⟨rfl, hb⟩
  exact sumJoins_go A B n cp m cq xs ys w h k (by omega) (by omega)
set_option maxHeartbeats 800000 in
theorem sumSteps_walk (A : Option Addr) (n cp : Nat) (zs : List Int) (w : World) (h : BReads w A n zs) (hc : n ≤ cp) (hcm : cp ≤ 9223372036854775807) :
    Calls Try.prog 6 #[.slice A n cp] w fun e w' => e = .returned (.bool true) ∧ Below w.heap.size w w' := by
  have hm := h.2.1
  by_cases h1 : 300 < n
  · clear h
    go_enter Try.func6, Try.ntmps6
    go_wp2_with (go_at_call 12; (with_reducible refine (awake2_any _).mono ?_); rintro e w' ⟨rfl, hb⟩)
    go_ret
    exact ⟨rfl, hb⟩
  have hn : n ≤ 300 := by omega
  have H := Lib.hid h
  have HR := Lib.hid h.range
  have HL := Lib.hid h.1
  clear h h1
  go_enter Try.func6, Try.ntmps6
  go_wp2
  go_loop [3, 4] (fun c i => ∃ k : Nat, k ≤ n ∧ i = .int .i64 k ∧ c = .int .u32 (addI 0 (zs.take k))) (fun _ i => n - (intOf i).toNat)
  case atStart => exact ⟨0, by omega, rfl, by rw [List.take_zero, addI_nil]⟩
  case round =>
    obtain ⟨k, hk, rfl, rfl⟩ := hrel
    by_cases hlt : k < n
    · obtain ⟨ad, rfl, _⟩ := H.out.at_ k hlt
      have R1 := Lib.hid (H.out.one_ k hlt)
      have R2 := Lib.hid (H.out.take_ (k + 1) hlt)
      have e1 : addI (addI 0 (zs.take k)) [gi zs k] = addI 0 (zs.take (k + 1)) := by
        rw [add0_join _ _ (fun z hz => HR.out z (List.mem_of_mem_take hz)) (fun z hz => by
          simp only [List.mem_singleton] at hz
          subst hz
          exact H.out.2.2.2 k), ← take_snoc_gi zs k (by rw [HL.out]; exact hlt)]
      have e2 : (addI 0 (zs.take (k + 1)) != addI 0 (zs.take (k + 1))) = false := bne_self_eq_false _
      go_wp2_with (first
        | (go_at_call 17; (with_reducible refine (add_any _ _ _ _ _ _ R1.out).mono ?_); rintro e w' ⟨rfl, rfl⟩)
        | (go_at_call 14; (with_reducible refine (of_any _ _ _ _ _ R2.out).mono ?_); rintro e w' ⟨rfl, rfl⟩))
      go_round
      case rel => exact ⟨k + 1, by omega, by go_num, by rw [← e1]⟩
      case measure => simp [intOf]; omega
    · obtain rfl : k = n := by omega
      have e1 : zs.take k = zs := List.take_of_length_le (by rw [HL.out]; omega)
      have e2 : (addI 0 zs == addI 0 zs) = true := beq_self_eq_true _
      go_wp2_with (first
        | (go_at_call 14; (with_reducible refine (of_any _ _ _ _ _ H.out).mono ?_); rintro e w' ⟨rfl, rfl⟩)
        | (go_at_call 12; (with_reducible refine (awake2_any _).mono ?_); rintro e w' ⟨rfl, hb⟩))
      go_ret
      exact ⟨rfl, hb⟩
end Go.Proofs.Ytboeahbbmkdafaa
