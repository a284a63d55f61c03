/-
  The walk of MsgSizes.
-/
import Derived.Test.YtajhkjikcgfhdaaGreat
namespace Go.Proofs.Ytajhkjikcgfhdaa
set_option linter.unusedVariables false
set_option linter.unusedSimpArgs false
set_option maxRecDepth 20000
open Go.RowKit
theorem two_keep (w w1 : World) (t0 t1 : TypeId) (c0 c1 : Array Value) (hb : Below ((w.alloc (.cells c0 t0)).alloc (.cells c1 t1)).heap.size ((w.alloc (.cells c0 t0)).alloc (.cells c1 t1)) w1) :
    Blk w1 w.heap.size t0 c0 ∧ Blk w1 (w.heap.size + 1) t1 c1 := by
  have e1 : (w.alloc (.cells c0 t0)).heap.size = w.heap.size + 1 := by simp
  have e2 : ((w.alloc (.cells c0 t0)).alloc (.cells c1 t1)).heap.size = w.heap.size + 2 := by simp
  have k0 := (Blk.new w t0 c0).alloc (.cells c1 t1)
  have k1 := Blk.new (w.alloc (.cells c0 t0)) t1 c1
  rw [e1] at k1
  rw [e2] at hb
  exact ⟨k0.below hb (by omega), k1.below hb (by omega)⟩
theorem itemI_len2 (d : Int) (s : ByteArray) : (itemI d s).length = 3 + s.size := by
  have := itemI_length d s
  omega
theorem itemsI_next (xs : List (Int × ByteArray)) (k : Nat) (h : k < xs.length) : (itemsI (xs.take (k + 1))).length = (itemsI (xs.take k)).length + (3 + (gx xs k).2.size) := by
  have e : xs.take (k + 1) = xs.take k ++ [gx xs k] := by rw [List.take_add_one, gx_eq xs k h]; rfl
  rw [e]
  unfold itemsI
  rw [List.flatMap_append, List.length_append, List.flatMap_singleton, itemI_len2]
theorem itemsI_small (xs : List (Int × ByteArray)) (k : Nat) (hk : k ≤ xs.length) (h : ∀ j, j < k → (gx xs j).2.size ≤ 100) : (itemsI (xs.take k)).length ≤ 103 * k := by
  induction k with
  | zero => simp [itemsI]
  | succ k ih =>
    rw [itemsI_next xs k (by omega)]
    have := ih (by omega) (fun j hj => h j (by omega))
    have := h k (by omega)
    omega
set_option maxHeartbeats 4000000 in
theorem msgSizes_f1 (al aq ah as_ ae : Int) (t : ByteArray) (ak ab : Int) (af : Bool) (ad : Int) (s : ByteArray) (sl q sh sq wk ep : Int) (A : Option Addr) (n c : Nat) (en : Bool) (w : World) (hn : n ≤ 9223372036854775807) (h1 : 100 < t.size) :
    Calls Try.prog 8 #[.agg #[.int .i64 al, .int .i64 aq, .int .i64 ah, .int .i64 as_, .int .i64 ae, .string t, .int .i64 ak, .int .i64 ab, .bool af, .int .i64 ad, .string s], .agg #[.int .i64 sl, .int .i64 q, .int .i64 sh, .int .i64 sq, .int .i64 wk, .int .i64 ep, .slice A n c, .bool en]] w (Gives w (.bool true)) := by
  have d1 : decide ((100 : Int) < (t.size : Int)) = true := decide_eq_true (by omega)
  go_enter Try.func8, Try.ntmps8
  go_wp2_with
    (go_at_call 11; (with_reducible refine (awake_any _).mono ?_); rintro e w' ⟨w9, rfl, rfl, b9⟩)
  go_ret
  exact ⟨_, rfl, rfl, bel3 (bel2 (bel_alloc _ _) (bel_alloc _ _)) b9⟩
set_option maxHeartbeats 4000000 in
theorem msgSizes_f2 (al aq ah as_ ae : Int) (t : ByteArray) (ak ab : Int) (af : Bool) (ad : Int) (s : ByteArray) (sl q sh sq wk ep : Int) (A : Option Addr) (n c : Nat) (en : Bool) (w : World) (hn : n ≤ 9223372036854775807) (h1 : ¬ 100 < t.size) (h2 : 100 < s.size) :
    Calls Try.prog 8 #[.agg #[.int .i64 al, .int .i64 aq, .int .i64 ah, .int .i64 as_, .int .i64 ae, .string t, .int .i64 ak, .int .i64 ab, .bool af, .int .i64 ad, .string s], .agg #[.int .i64 sl, .int .i64 q, .int .i64 sh, .int .i64 sq, .int .i64 wk, .int .i64 ep, .slice A n c, .bool en]] w (Gives w (.bool true)) := by
  have d1 : decide ((100 : Int) < (t.size : Int)) = false := decide_eq_false (by omega)
  have d2 : decide ((100 : Int) < (s.size : Int)) = true := decide_eq_true (by omega)
  go_enter Try.func8, Try.ntmps8
  go_wp2_with
    (go_at_call 11; (with_reducible refine (awake_any _).mono ?_); rintro e w' ⟨w9, rfl, rfl, b9⟩)
  go_ret
  exact ⟨_, rfl, rfl, bel3 (bel2 (bel_alloc _ _) (bel_alloc _ _)) b9⟩
set_option maxHeartbeats 4000000 in
theorem msgSizes_f3 (al aq ah as_ ae : Int) (t : ByteArray) (ak ab : Int) (af : Bool) (ad : Int) (s : ByteArray) (sl q sh sq wk ep : Int) (A : Option Addr) (n c : Nat) (en : Bool) (w : World) (hn : n ≤ 9223372036854775807) (h1 : ¬ 100 < t.size) (h2 : ¬ 100 < s.size) (h3 : 10 < n) :
    Calls Try.prog 8 #[.agg #[.int .i64 al, .int .i64 aq, .int .i64 ah, .int .i64 as_, .int .i64 ae, .string t, .int .i64 ak, .int .i64 ab, .bool af, .int .i64 ad, .string s], .agg #[.int .i64 sl, .int .i64 q, .int .i64 sh, .int .i64 sq, .int .i64 wk, .int .i64 ep, .slice A n c, .bool en]] w (Gives w (.bool true)) := by
  have d1 : decide ((100 : Int) < (t.size : Int)) = false := decide_eq_false (by omega)
  have d2 : decide ((100 : Int) < (s.size : Int)) = false := decide_eq_false (by omega)
  have d3 : decide ((10 : Int) < (n : Int)) = true := decide_eq_true (by omega)
  go_enter Try.func8, Try.ntmps8
  go_wp2_with
    (go_at_call 11; (with_reducible refine (awake_any _).mono ?_); rintro e w' ⟨w9, rfl, rfl, b9⟩)
  go_ret
  exact ⟨_, rfl, rfl, bel3 (bel2 (bel_alloc _ _) (bel_alloc _ _)) b9⟩
set_option maxHeartbeats 8000000 in
theorem msgSizes_yes (al aq ah as_ ae : Int) (t : ByteArray) (ak ab : Int) (af : Bool) (ad : Int) (s : ByteArray) (sl q sh sq wk ep : Int) (A : Option Addr) (n c : Nat) (en : Bool) (xs : List (Int × ByteArray)) (w : World) (hx : XReads w A n xs) (hn : n ≤ 10) (ht : t.size ≤ 100) (hs : s.size ≤ 100) (hma : mayM (.ask al aq ah as_ ae t ak ab af ad s) = true) :
    Calls Try.prog 8 #[.agg #[.int .i64 al, .int .i64 aq, .int .i64 ah, .int .i64 as_, .int .i64 ae, .string t, .int .i64 ak, .int .i64 ab, .bool af, .int .i64 ad, .string s], .agg #[.int .i64 sl, .int .i64 q, .int .i64 sh, .int .i64 sq, .int .i64 wk, .int .i64 ep, .slice A n c, .bool en]] w (Gives w (.bool true)) := by
  have d1 : decide ((100 : Int) < (t.size : Int)) = false := decide_eq_false (by omega)
  have d2 : decide ((100 : Int) < (s.size : Int)) = false := decide_eq_false (by omega)
  have d3 : decide ((10 : Int) < (n : Int)) = false := decide_eq_false (by omega)
  have b1 : (((35 + t.size + s.size : Nat) : Int) != 29 + (t.size : Int) + 3 + 1 + 2 + (s.size : Int)) = false := by
    rw [bne_eq_false_iff_eq]
    omega
  have HLA : Hid ((frameM (.ask al aq ah as_ ae t ak ab af ad s)).length = 35 + t.size + s.size) := by
    unfold Hid
    rw [frameM_length]
    simp only [bodyM, askI_length]
    omega
  have HXL := Lib.hid hx.1
  have HXX := Lib.hid hx
  have HMA := Lib.hid hma
  have HSA : Hid (SmallM 60000 (.ask al aq ah as_ ae t ak ab af ad s)) := ⟨by omega, by omega⟩
  have HB0 : Hid (Below w.heap.size w ((w.alloc (.cells #[.int .i64 al, .int .i64 aq, .int .i64 ah, .int .i64 as_, .int .i64 ae, .string t, .int .i64 ak, .int .i64 ab, .bool af, .int .i64 ad, .string s] 29)).alloc (.cells #[.int .i64 sl, .int .i64 q, .int .i64 sh, .int .i64 sq, .int .i64 wk, .int .i64 ep, .slice A n c, .bool en] 32))) := bel2 (bel_alloc _ _) (bel_alloc _ _)
  have mva : ∀ w, MV w (.iface 29 (.agg #[.int .i64 al, .int .i64 aq, .int .i64 ah, .int .i64 as_, .int .i64 ae, .string t, .int .i64 ak, .int .i64 ab, .bool af, .int .i64 ad, .string s])) (.ask al aq ah as_ ae t ak ab af ad s) := fun _ => rfl
  have mvr : ∀ w, XReads w A n xs → MV w (.iface 32 (.agg #[.int .i64 sl, .int .i64 q, .int .i64 sh, .int .i64 sq, .int .i64 wk, .int .i64 ep, .slice A n c, .bool en])) (.reply sl q sh sq wk ep xs en) := fun w hx => by
    have e := HXL.out
    subst e
    exact ⟨A, c, rfl, hx⟩
  clear hx hma
  go_enter Try.func8, Try.ntmps8
  go_wp2_with (first
    | (go_at_call 14; (with_reducible refine (enc_len _ (.ask al aq ah as_ ae t ak ab af ad s) (35 + t.size + s.size) _ (mva _) HSA.out HMA.out HLA.out).mono ?_); rintro e w' ⟨A1, c1, w1, rfl, rfl, ho, hr, hc, hcm, hb⟩; obtain ⟨K0, K1⟩ := two_keep _ _ _ _ _ _ hb; have aw1_0 : w1.cell? ⟨w.heap.size, 0, none⟩ = some (.int .i64 al) := (K0.cell 0).trans rfl; have aw1_1 : w1.cell? ⟨w.heap.size, 1, none⟩ = some (.int .i64 aq) := (K0.cell 1).trans rfl; have aw1_2 : w1.cell? ⟨w.heap.size, 2, none⟩ = some (.int .i64 ah) := (K0.cell 2).trans rfl; have aw1_3 : w1.cell? ⟨w.heap.size, 3, none⟩ = some (.int .i64 as_) := (K0.cell 3).trans rfl; have aw1_4 : w1.cell? ⟨w.heap.size, 4, none⟩ = some (.int .i64 ae) := (K0.cell 4).trans rfl; have aw1_5 : w1.cell? ⟨w.heap.size, 5, none⟩ = some (.string t) := (K0.cell 5).trans rfl; have aw1_6 : w1.cell? ⟨w.heap.size, 6, none⟩ = some (.int .i64 ak) := (K0.cell 6).trans rfl; have aw1_7 : w1.cell? ⟨w.heap.size, 7, none⟩ = some (.int .i64 ab) := (K0.cell 7).trans rfl; have aw1_8 : w1.cell? ⟨w.heap.size, 8, none⟩ = some (.bool af) := (K0.cell 8).trans rfl; have aw1_9 : w1.cell? ⟨w.heap.size, 9, none⟩ = some (.int .i64 ad) := (K0.cell 9).trans rfl; have aw1_10 : w1.cell? ⟨w.heap.size, 10, none⟩ = some (.string s) := (K0.cell 10).trans rfl; have HB1 := Lib.hid (bel3 HB0.out hb); have HK1 := Lib.hid K1; have HK0 := Lib.hid K0; clear ho hr hb hc hcm K0 K1)
    | (go_at_call 19; (with_reducible refine (may_m _ (.ask al aq ah as_ ae t ak ab af ad s) w1 (mva _) HSA.out).mono ?_); rintro e w' ⟨w2, rfl, rfl, hb⟩; rw [HMA.out]; have K1 := HK1.out.below hb (Nat.lt_of_lt_of_le HK1.out.lt (Nat.le_refl _)); have K0 := HK0.out.below hb (Nat.lt_of_lt_of_le HK0.out.lt (Nat.le_refl _)); have rw2_0 : w2.cell? ⟨w.heap.size + 1, 0, none⟩ = some (.int .i64 sl) := (K1.cell 0).trans rfl; have rw2_1 : w2.cell? ⟨w.heap.size + 1, 1, none⟩ = some (.int .i64 q) := (K1.cell 1).trans rfl; have rw2_2 : w2.cell? ⟨w.heap.size + 1, 2, none⟩ = some (.int .i64 sh) := (K1.cell 2).trans rfl; have rw2_3 : w2.cell? ⟨w.heap.size + 1, 3, none⟩ = some (.int .i64 sq) := (K1.cell 3).trans rfl; have rw2_4 : w2.cell? ⟨w.heap.size + 1, 4, none⟩ = some (.int .i64 wk) := (K1.cell 4).trans rfl; have rw2_5 : w2.cell? ⟨w.heap.size + 1, 5, none⟩ = some (.int .i64 ep) := (K1.cell 5).trans rfl; have rw2_6 : w2.cell? ⟨w.heap.size + 1, 6, none⟩ = some (.slice A n c) := (K1.cell 6).trans rfl; have rw2_7 : w2.cell? ⟨w.heap.size + 1, 7, none⟩ = some (.bool en) := (K1.cell 7).trans rfl; have aw2_0 : w2.cell? ⟨w.heap.size, 0, none⟩ = some (.int .i64 al) := (K0.cell 0).trans rfl; have aw2_1 : w2.cell? ⟨w.heap.size, 1, none⟩ = some (.int .i64 aq) := (K0.cell 1).trans rfl; have aw2_2 : w2.cell? ⟨w.heap.size, 2, none⟩ = some (.int .i64 ah) := (K0.cell 2).trans rfl; have aw2_3 : w2.cell? ⟨w.heap.size, 3, none⟩ = some (.int .i64 as_) := (K0.cell 3).trans rfl; have aw2_4 : w2.cell? ⟨w.heap.size, 4, none⟩ = some (.int .i64 ae) := (K0.cell 4).trans rfl; have aw2_5 : w2.cell? ⟨w.heap.size, 5, none⟩ = some (.string t) := (K0.cell 5).trans rfl; have aw2_6 : w2.cell? ⟨w.heap.size, 6, none⟩ = some (.int .i64 ak) := (K0.cell 6).trans rfl; have aw2_7 : w2.cell? ⟨w.heap.size, 7, none⟩ = some (.int .i64 ab) := (K0.cell 7).trans rfl; have aw2_8 : w2.cell? ⟨w.heap.size, 8, none⟩ = some (.bool af) := (K0.cell 8).trans rfl; have aw2_9 : w2.cell? ⟨w.heap.size, 9, none⟩ = some (.int .i64 ad) := (K0.cell 9).trans rfl; have aw2_10 : w2.cell? ⟨w.heap.size, 10, none⟩ = some (.string s) := (K0.cell 10).trans rfl; have HB2 := Lib.hid (bel3 HB1.out hb); have HX2 := Lib.hid (HXX.out.below (bel3 HB1.out hb)); have HK2 := Lib.hid K1; clear hb K1 K0))
  go_loop [7, 8] (fun zv i => ∃ k z : Nat, k ≤ n ∧ i = .int .i64 k ∧ zv = .int .i64 (33 + z : Nat) ∧ z ≤ 103 * k ∧ Hid (∀ j, j < k → (gx xs j).2.size ≤ 100) ∧ Hid ((itemsI (xs.take k)).length = z)) (fun _ i => n - (intOf i).toNat)
  case atStart => exact ⟨0, 0, by omega, rfl, rfl, by omega, fun j hj => absurd hj (by omega), rfl⟩
  case round =>
    obtain ⟨k, z, hk, rfl, rfl, hz, HS, HZ⟩ := hrel
    by_cases hlt : k < n
    · obtain ⟨ad', rfl, a0, a1⟩ := HX2.out.at_ k hlt
      obtain ⟨s', hs'⟩ : ∃ s, (gx xs k).2 = s := ⟨_, rfl⟩
      rw [hs'] at a1
      have HSS := Lib.hid hs'
      clear hs' a0
      by_cases hg : 100 < s'.size
      · go_wp2_with
          (go_at_call 11; (with_reducible refine (awake_any _).mono ?_); rintro e w' ⟨w9, rfl, rfl, b9⟩)
        go_ret
        exact ⟨_, rfl, rfl, bel3 HB2.out b9⟩
      · have hz2 : z + (3 + s'.size) ≤ 103 * (k + 1) := by omega
        have E1 : Hid ((itemsI (xs.take (k + 1))).length = z + (3 + s'.size)) := by
          unfold Hid
          rw [itemsI_next xs k (by rw [HXL.out]; exact hlt), HZ.out, HSS.out]
        have hk10 : k < 10 := by omega
        go_wp2
        go_round
        case rel => exact ⟨k + 1, z + (3 + s'.size), by omega, by go_num, by go_num, hz2, fun j hj => (by
          rcases Nat.lt_or_ge j k with h | h
          · exact HS.out j h
          · obtain rfl : j = k := by omega
            rw [HSS.out]
            omega), E1⟩
        case measure => simp [intOf]; omega
    · obtain rfl : n = k := by omega
      have HSR : Hid (SmallM 60000 (.reply sl q sh sq wk ep xs en)) := fun x hx => by
        obtain ⟨j, hj, e⟩ := List.getElem_of_mem hx
        have e2 : gx xs j = x := by simp [gx, List.getD_eq_getElem?_getD, hj, e]
        have := HS.out j (by rw [HXL.out] at hj; exact hj)
        rw [e2] at this
        omega
      cases hmr : mayM (.reply sl q sh sq wk ep xs en) with
      | true =>
        obtain ⟨L, hL⟩ : ∃ L, (frameM (.reply sl q sh sq wk ep xs en)).length = L := ⟨_, rfl⟩
        have HLR := Lib.hid hL
        have hLN : L = 33 + z := by
          rw [← hL, frameM_length]
          simp only [bodyM, replyI_length]
          rw [← HZ.out, List.take_of_length_le (by rw [HXL.out]; omega)]
          omega
        have hLB : L ≤ 1024 := by
          rw [← hL, frameM_length]
          have := bodyM_length _ hmr
          omega
        subst hLN
        clear hL
        have HMR := Lib.hid hmr
        clear hmr
        go_wp2_with (first
          | (go_at_call 14; (with_reducible refine (enc_len _ (.reply sl q sh sq wk ep xs en) (33 + z) w2 (mvr _ HX2.out) HSR.out HMR.out HLR.out).mono ?_); rintro e w' ⟨A3, c3, w3, rfl, rfl, ho, hr, hc, hcm, hb⟩; have K1 := HK2.out.below hb (Nat.lt_of_lt_of_le HK2.out.lt (Nat.le_refl _)); have rw3_0 : w3.cell? ⟨w.heap.size + 1, 0, none⟩ = some (.int .i64 sl) := (K1.cell 0).trans rfl; have rw3_1 : w3.cell? ⟨w.heap.size + 1, 1, none⟩ = some (.int .i64 q) := (K1.cell 1).trans rfl; have rw3_2 : w3.cell? ⟨w.heap.size + 1, 2, none⟩ = some (.int .i64 sh) := (K1.cell 2).trans rfl; have rw3_3 : w3.cell? ⟨w.heap.size + 1, 3, none⟩ = some (.int .i64 sq) := (K1.cell 3).trans rfl; have rw3_4 : w3.cell? ⟨w.heap.size + 1, 4, none⟩ = some (.int .i64 wk) := (K1.cell 4).trans rfl; have rw3_5 : w3.cell? ⟨w.heap.size + 1, 5, none⟩ = some (.int .i64 ep) := (K1.cell 5).trans rfl; have rw3_6 : w3.cell? ⟨w.heap.size + 1, 6, none⟩ = some (.slice A n c) := (K1.cell 6).trans rfl; have rw3_7 : w3.cell? ⟨w.heap.size + 1, 7, none⟩ = some (.bool en) := (K1.cell 7).trans rfl; have HB3 := Lib.hid (bel3 HB2.out hb); have HX3 := Lib.hid (HX2.out.below hb); clear ho hr hb hc hcm K1)
          | (go_at_call 19; (with_reducible refine (may_m _ (.reply sl q sh sq wk ep xs en) w3 (mvr _ HX3.out) HSR.out).mono ?_); rintro e w' ⟨w4, rfl, rfl, hb⟩; rw [HMR.out]; have HB4 := Lib.hid (bel3 HB3.out hb); clear hb)
          | (go_at_call 11; (with_reducible refine (awake_any w4).mono ?_); rintro e w' ⟨w9, rfl, rfl, b9⟩; have HB9 := Lib.hid (bel3 HB4.out b9); clear b9))
        go_ret
        exact ⟨_, rfl, rfl, HB9.out⟩
      | false =>
        have HMR := Lib.hid hmr
        clear hmr
        go_wp2_with (first
          | (go_at_call 14; (with_reducible refine (enc_no _ (.reply sl q sh sq wk ep xs en) w2 (mvr _ HX2.out) HSR.out HMR.out).mono ?_); rintro e w' ⟨w3, rfl, rfl, hb⟩; have K1 := HK2.out.below hb (Nat.lt_of_lt_of_le HK2.out.lt (Nat.le_refl _)); have rw3_0 : w3.cell? ⟨w.heap.size + 1, 0, none⟩ = some (.int .i64 sl) := (K1.cell 0).trans rfl; have rw3_1 : w3.cell? ⟨w.heap.size + 1, 1, none⟩ = some (.int .i64 q) := (K1.cell 1).trans rfl; have rw3_2 : w3.cell? ⟨w.heap.size + 1, 2, none⟩ = some (.int .i64 sh) := (K1.cell 2).trans rfl; have rw3_3 : w3.cell? ⟨w.heap.size + 1, 3, none⟩ = some (.int .i64 sq) := (K1.cell 3).trans rfl; have rw3_4 : w3.cell? ⟨w.heap.size + 1, 4, none⟩ = some (.int .i64 wk) := (K1.cell 4).trans rfl; have rw3_5 : w3.cell? ⟨w.heap.size + 1, 5, none⟩ = some (.int .i64 ep) := (K1.cell 5).trans rfl; have rw3_6 : w3.cell? ⟨w.heap.size + 1, 6, none⟩ = some (.slice A n c) := (K1.cell 6).trans rfl; have rw3_7 : w3.cell? ⟨w.heap.size + 1, 7, none⟩ = some (.bool en) := (K1.cell 7).trans rfl; have HB3 := Lib.hid (bel3 HB2.out hb); have HX3 := Lib.hid (HX2.out.below hb); clear hb K1)
          | (go_at_call 19; (with_reducible refine (may_m _ (.reply sl q sh sq wk ep xs en) w3 (mvr _ HX3.out) HSR.out).mono ?_); rintro e w' ⟨w4, rfl, rfl, hb⟩; rw [HMR.out]; have HB4 := Lib.hid (bel3 HB3.out hb); clear hb)
          | (go_at_call 11; (with_reducible refine (awake_any w4).mono ?_); rintro e w' ⟨w9, rfl, rfl, b9⟩; have HB9 := Lib.hid (bel3 HB4.out b9); clear b9))
        go_ret
        exact ⟨_, rfl, rfl, HB9.out⟩
set_option maxHeartbeats 8000000 in
theorem msgSizes_no (al aq ah as_ ae : Int) (t : ByteArray) (ak ab : Int) (af : Bool) (ad : Int) (s : ByteArray) (sl q sh sq wk ep : Int) (A : Option Addr) (n c : Nat) (en : Bool) (xs : List (Int × ByteArray)) (w : World) (hx : XReads w A n xs) (hn : n ≤ 10) (ht : t.size ≤ 100) (hs : s.size ≤ 100) (hma : mayM (.ask al aq ah as_ ae t ak ab af ad s) = false) :
    Calls Try.prog 8 #[.agg #[.int .i64 al, .int .i64 aq, .int .i64 ah, .int .i64 as_, .int .i64 ae, .string t, .int .i64 ak, .int .i64 ab, .bool af, .int .i64 ad, .string s], .agg #[.int .i64 sl, .int .i64 q, .int .i64 sh, .int .i64 sq, .int .i64 wk, .int .i64 ep, .slice A n c, .bool en]] w (Gives w (.bool true)) := by
  have d1 : decide ((100 : Int) < (t.size : Int)) = false := decide_eq_false (by omega)
  have d2 : decide ((100 : Int) < (s.size : Int)) = false := decide_eq_false (by omega)
  have d3 : decide ((10 : Int) < (n : Int)) = false := decide_eq_false (by omega)
  have HXL := Lib.hid hx.1
  have HXX := Lib.hid hx
  have HMA := Lib.hid hma
  have HSA : Hid (SmallM 60000 (.ask al aq ah as_ ae t ak ab af ad s)) := ⟨by omega, by omega⟩
  have HB0 : Hid (Below w.heap.size w ((w.alloc (.cells #[.int .i64 al, .int .i64 aq, .int .i64 ah, .int .i64 as_, .int .i64 ae, .string t, .int .i64 ak, .int .i64 ab, .bool af, .int .i64 ad, .string s] 29)).alloc (.cells #[.int .i64 sl, .int .i64 q, .int .i64 sh, .int .i64 sq, .int .i64 wk, .int .i64 ep, .slice A n c, .bool en] 32))) := bel2 (bel_alloc _ _) (bel_alloc _ _)
  have mva : ∀ w, MV w (.iface 29 (.agg #[.int .i64 al, .int .i64 aq, .int .i64 ah, .int .i64 as_, .int .i64 ae, .string t, .int .i64 ak, .int .i64 ab, .bool af, .int .i64 ad, .string s])) (.ask al aq ah as_ ae t ak ab af ad s) := fun _ => rfl
  have mvr : ∀ w, XReads w A n xs → MV w (.iface 32 (.agg #[.int .i64 sl, .int .i64 q, .int .i64 sh, .int .i64 sq, .int .i64 wk, .int .i64 ep, .slice A n c, .bool en])) (.reply sl q sh sq wk ep xs en) := fun w hx => by
    have e := HXL.out
    subst e
    exact ⟨A, c, rfl, hx⟩
  clear hx hma
  go_enter Try.func8, Try.ntmps8
  go_wp2_with (first
    | (go_at_call 14; (with_reducible refine (enc_no _ (.ask al aq ah as_ ae t ak ab af ad s) _ (mva _) HSA.out HMA.out).mono ?_); rintro e w' ⟨w1, rfl, rfl, hb⟩; obtain ⟨K0, K1⟩ := two_keep _ _ _ _ _ _ hb; have aw1_0 : w1.cell? ⟨w.heap.size, 0, none⟩ = some (.int .i64 al) := (K0.cell 0).trans rfl; have aw1_1 : w1.cell? ⟨w.heap.size, 1, none⟩ = some (.int .i64 aq) := (K0.cell 1).trans rfl; have aw1_2 : w1.cell? ⟨w.heap.size, 2, none⟩ = some (.int .i64 ah) := (K0.cell 2).trans rfl; have aw1_3 : w1.cell? ⟨w.heap.size, 3, none⟩ = some (.int .i64 as_) := (K0.cell 3).trans rfl; have aw1_4 : w1.cell? ⟨w.heap.size, 4, none⟩ = some (.int .i64 ae) := (K0.cell 4).trans rfl; have aw1_5 : w1.cell? ⟨w.heap.size, 5, none⟩ = some (.string t) := (K0.cell 5).trans rfl; have aw1_6 : w1.cell? ⟨w.heap.size, 6, none⟩ = some (.int .i64 ak) := (K0.cell 6).trans rfl; have aw1_7 : w1.cell? ⟨w.heap.size, 7, none⟩ = some (.int .i64 ab) := (K0.cell 7).trans rfl; have aw1_8 : w1.cell? ⟨w.heap.size, 8, none⟩ = some (.bool af) := (K0.cell 8).trans rfl; have aw1_9 : w1.cell? ⟨w.heap.size, 9, none⟩ = some (.int .i64 ad) := (K0.cell 9).trans rfl; have aw1_10 : w1.cell? ⟨w.heap.size, 10, none⟩ = some (.string s) := (K0.cell 10).trans rfl; have HB1 := Lib.hid (bel3 HB0.out hb); have HK1 := Lib.hid K1; have HK0 := Lib.hid K0; clear hb K0 K1)
    | (go_at_call 19; (with_reducible refine (may_m _ (.ask al aq ah as_ ae t ak ab af ad s) w1 (mva _) HSA.out).mono ?_); rintro e w' ⟨w2, rfl, rfl, hb⟩; rw [HMA.out]; have K1 := HK1.out.below hb (Nat.lt_of_lt_of_le HK1.out.lt (Nat.le_refl _)); have K0 := HK0.out.below hb (Nat.lt_of_lt_of_le HK0.out.lt (Nat.le_refl _)); have rw2_0 : w2.cell? ⟨w.heap.size + 1, 0, none⟩ = some (.int .i64 sl) := (K1.cell 0).trans rfl; have rw2_1 : w2.cell? ⟨w.heap.size + 1, 1, none⟩ = some (.int .i64 q) := (K1.cell 1).trans rfl; have rw2_2 : w2.cell? ⟨w.heap.size + 1, 2, none⟩ = some (.int .i64 sh) := (K1.cell 2).trans rfl; have rw2_3 : w2.cell? ⟨w.heap.size + 1, 3, none⟩ = some (.int .i64 sq) := (K1.cell 3).trans rfl; have rw2_4 : w2.cell? ⟨w.heap.size + 1, 4, none⟩ = some (.int .i64 wk) := (K1.cell 4).trans rfl; have rw2_5 : w2.cell? ⟨w.heap.size + 1, 5, none⟩ = some (.int .i64 ep) := (K1.cell 5).trans rfl; have rw2_6 : w2.cell? ⟨w.heap.size + 1, 6, none⟩ = some (.slice A n c) := (K1.cell 6).trans rfl; have rw2_7 : w2.cell? ⟨w.heap.size + 1, 7, none⟩ = some (.bool en) := (K1.cell 7).trans rfl; have aw2_0 : w2.cell? ⟨w.heap.size, 0, none⟩ = some (.int .i64 al) := (K0.cell 0).trans rfl; have aw2_1 : w2.cell? ⟨w.heap.size, 1, none⟩ = some (.int .i64 aq) := (K0.cell 1).trans rfl; have aw2_2 : w2.cell? ⟨w.heap.size, 2, none⟩ = some (.int .i64 ah) := (K0.cell 2).trans rfl; have aw2_3 : w2.cell? ⟨w.heap.size, 3, none⟩ = some (.int .i64 as_) := (K0.cell 3).trans rfl; have aw2_4 : w2.cell? ⟨w.heap.size, 4, none⟩ = some (.int .i64 ae) := (K0.cell 4).trans rfl; have aw2_5 : w2.cell? ⟨w.heap.size, 5, none⟩ = some (.string t) := (K0.cell 5).trans rfl; have aw2_6 : w2.cell? ⟨w.heap.size, 6, none⟩ = some (.int .i64 ak) := (K0.cell 6).trans rfl; have aw2_7 : w2.cell? ⟨w.heap.size, 7, none⟩ = some (.int .i64 ab) := (K0.cell 7).trans rfl; have aw2_8 : w2.cell? ⟨w.heap.size, 8, none⟩ = some (.bool af) := (K0.cell 8).trans rfl; have aw2_9 : w2.cell? ⟨w.heap.size, 9, none⟩ = some (.int .i64 ad) := (K0.cell 9).trans rfl; have aw2_10 : w2.cell? ⟨w.heap.size, 10, none⟩ = some (.string s) := (K0.cell 10).trans rfl; have HB2 := Lib.hid (bel3 HB1.out hb); have HX2 := Lib.hid (HXX.out.below (bel3 HB1.out hb)); have HK2 := Lib.hid K1; clear hb K1 K0))
  go_loop [7, 8] (fun zv i => ∃ k z : Nat, k ≤ n ∧ i = .int .i64 k ∧ zv = .int .i64 (33 + z : Nat) ∧ z ≤ 103 * k ∧ Hid (∀ j, j < k → (gx xs j).2.size ≤ 100) ∧ Hid ((itemsI (xs.take k)).length = z)) (fun _ i => n - (intOf i).toNat)
  case atStart => exact ⟨0, 0, by omega, rfl, rfl, by omega, fun j hj => absurd hj (by omega), rfl⟩
  case round =>
    obtain ⟨k, z, hk, rfl, rfl, hz, HS, HZ⟩ := hrel
    by_cases hlt : k < n
    · obtain ⟨ad', rfl, a0, a1⟩ := HX2.out.at_ k hlt
      obtain ⟨s', hs'⟩ : ∃ s, (gx xs k).2 = s := ⟨_, rfl⟩
      rw [hs'] at a1
      have HSS := Lib.hid hs'
      clear hs' a0
      by_cases hg : 100 < s'.size
      · go_wp2_with
          (go_at_call 11; (with_reducible refine (awake_any _).mono ?_); rintro e w' ⟨w9, rfl, rfl, b9⟩)
        go_ret
        exact ⟨_, rfl, rfl, bel3 HB2.out b9⟩
      · have hz2 : z + (3 + s'.size) ≤ 103 * (k + 1) := by omega
        have E1 : Hid ((itemsI (xs.take (k + 1))).length = z + (3 + s'.size)) := by
          unfold Hid
          rw [itemsI_next xs k (by rw [HXL.out]; exact hlt), HZ.out, HSS.out]
        have hk10 : k < 10 := by omega
        go_wp2
        go_round
        case rel => exact ⟨k + 1, z + (3 + s'.size), by omega, by go_num, by go_num, hz2, fun j hj => (by
          rcases Nat.lt_or_ge j k with h | h
          · exact HS.out j h
          · obtain rfl : j = k := by omega
            rw [HSS.out]
            omega), E1⟩
        case measure => simp [intOf]; omega
    · obtain rfl : n = k := by omega
      have HSR : Hid (SmallM 60000 (.reply sl q sh sq wk ep xs en)) := fun x hx => by
        obtain ⟨j, hj, e⟩ := List.getElem_of_mem hx
        have e2 : gx xs j = x := by simp [gx, List.getD_eq_getElem?_getD, hj, e]
        have := HS.out j (by rw [HXL.out] at hj; exact hj)
        rw [e2] at this
        omega
      cases hmr : mayM (.reply sl q sh sq wk ep xs en) with
      | true =>
        obtain ⟨L, hL⟩ : ∃ L, (frameM (.reply sl q sh sq wk ep xs en)).length = L := ⟨_, rfl⟩
        have HLR := Lib.hid hL
        have hLN : L = 33 + z := by
          rw [← hL, frameM_length]
          simp only [bodyM, replyI_length]
          rw [← HZ.out, List.take_of_length_le (by rw [HXL.out]; omega)]
          omega
        have hLB : L ≤ 1024 := by
          rw [← hL, frameM_length]
          have := bodyM_length _ hmr
          omega
        subst hLN
        clear hL
        have HMR := Lib.hid hmr
        clear hmr
        go_wp2_with (first
          | (go_at_call 14; (with_reducible refine (enc_len _ (.reply sl q sh sq wk ep xs en) (33 + z) w2 (mvr _ HX2.out) HSR.out HMR.out HLR.out).mono ?_); rintro e w' ⟨A3, c3, w3, rfl, rfl, ho, hr, hc, hcm, hb⟩; have K1 := HK2.out.below hb (Nat.lt_of_lt_of_le HK2.out.lt (Nat.le_refl _)); have rw3_0 : w3.cell? ⟨w.heap.size + 1, 0, none⟩ = some (.int .i64 sl) := (K1.cell 0).trans rfl; have rw3_1 : w3.cell? ⟨w.heap.size + 1, 1, none⟩ = some (.int .i64 q) := (K1.cell 1).trans rfl; have rw3_2 : w3.cell? ⟨w.heap.size + 1, 2, none⟩ = some (.int .i64 sh) := (K1.cell 2).trans rfl; have rw3_3 : w3.cell? ⟨w.heap.size + 1, 3, none⟩ = some (.int .i64 sq) := (K1.cell 3).trans rfl; have rw3_4 : w3.cell? ⟨w.heap.size + 1, 4, none⟩ = some (.int .i64 wk) := (K1.cell 4).trans rfl; have rw3_5 : w3.cell? ⟨w.heap.size + 1, 5, none⟩ = some (.int .i64 ep) := (K1.cell 5).trans rfl; have rw3_6 : w3.cell? ⟨w.heap.size + 1, 6, none⟩ = some (.slice A n c) := (K1.cell 6).trans rfl; have rw3_7 : w3.cell? ⟨w.heap.size + 1, 7, none⟩ = some (.bool en) := (K1.cell 7).trans rfl; have HB3 := Lib.hid (bel3 HB2.out hb); have HX3 := Lib.hid (HX2.out.below hb); clear ho hr hb hc hcm K1)
          | (go_at_call 19; (with_reducible refine (may_m _ (.reply sl q sh sq wk ep xs en) w3 (mvr _ HX3.out) HSR.out).mono ?_); rintro e w' ⟨w4, rfl, rfl, hb⟩; rw [HMR.out]; have HB4 := Lib.hid (bel3 HB3.out hb); clear hb)
          | (go_at_call 11; (with_reducible refine (awake_any w4).mono ?_); rintro e w' ⟨w9, rfl, rfl, b9⟩; have HB9 := Lib.hid (bel3 HB4.out b9); clear b9))
        go_ret
        exact ⟨_, rfl, rfl, HB9.out⟩
      | false =>
        have HMR := Lib.hid hmr
        clear hmr
        go_wp2_with (first
          | (go_at_call 14; (with_reducible refine (enc_no _ (.reply sl q sh sq wk ep xs en) w2 (mvr _ HX2.out) HSR.out HMR.out).mono ?_); rintro e w' ⟨w3, rfl, rfl, hb⟩; have K1 := HK2.out.below hb (Nat.lt_of_lt_of_le HK2.out.lt (Nat.le_refl _)); have rw3_0 : w3.cell? ⟨w.heap.size + 1, 0, none⟩ = some (.int .i64 sl) := (K1.cell 0).trans rfl; have rw3_1 : w3.cell? ⟨w.heap.size + 1, 1, none⟩ = some (.int .i64 q) := (K1.cell 1).trans rfl; have rw3_2 : w3.cell? ⟨w.heap.size + 1, 2, none⟩ = some (.int .i64 sh) := (K1.cell 2).trans rfl; have rw3_3 : w3.cell? ⟨w.heap.size + 1, 3, none⟩ = some (.int .i64 sq) := (K1.cell 3).trans rfl; have rw3_4 : w3.cell? ⟨w.heap.size + 1, 4, none⟩ = some (.int .i64 wk) := (K1.cell 4).trans rfl; have rw3_5 : w3.cell? ⟨w.heap.size + 1, 5, none⟩ = some (.int .i64 ep) := (K1.cell 5).trans rfl; have rw3_6 : w3.cell? ⟨w.heap.size + 1, 6, none⟩ = some (.slice A n c) := (K1.cell 6).trans rfl; have rw3_7 : w3.cell? ⟨w.heap.size + 1, 7, none⟩ = some (.bool en) := (K1.cell 7).trans rfl; have HB3 := Lib.hid (bel3 HB2.out hb); have HX3 := Lib.hid (HX2.out.below hb); clear hb K1)
          | (go_at_call 19; (with_reducible refine (may_m _ (.reply sl q sh sq wk ep xs en) w3 (mvr _ HX3.out) HSR.out).mono ?_); rintro e w' ⟨w4, rfl, rfl, hb⟩; rw [HMR.out]; have HB4 := Lib.hid (bel3 HB3.out hb); clear hb)
          | (go_at_call 11; (with_reducible refine (awake_any w4).mono ?_); rintro e w' ⟨w9, rfl, rfl, b9⟩; have HB9 := Lib.hid (bel3 HB4.out b9); clear b9))
        go_ret
        exact ⟨_, rfl, rfl, HB9.out⟩
theorem msgSizes_walk (al aq ah as_ ae : Int) (t : ByteArray) (ak ab : Int) (af : Bool) (ad : Int) (s : ByteArray) (sl q sh sq wk ep : Int) (A : Option Addr) (n c : Nat) (en : Bool) (xs : List (Int × ByteArray)) (w : World) (hx : n ≤ 80 → XReads w A n xs) (hn : n ≤ 9223372036854775807) :
    Calls Try.prog 8 #[.agg #[.int .i64 al, .int .i64 aq, .int .i64 ah, .int .i64 as_, .int .i64 ae, .string t, .int .i64 ak, .int .i64 ab, .bool af, .int .i64 ad, .string s], .agg #[.int .i64 sl, .int .i64 q, .int .i64 sh, .int .i64 sq, .int .i64 wk, .int .i64 ep, .slice A n c, .bool en]] w (Gives w (.bool true)) := by
  by_cases h1 : 100 < t.size
  · exact msgSizes_f1 _ _ _ _ _ _ _ _ _ _ _ _ _ _ _ _ _ _ _ _ _ w hn h1
  by_cases h2 : 100 < s.size
  · exact msgSizes_f2 _ _ _ _ _ _ _ _ _ _ _ _ _ _ _ _ _ _ _ _ _ w hn h1 h2
  by_cases h3 : 10 < n
  · exact msgSizes_f3 _ _ _ _ _ _ _ _ _ _ _ _ _ _ _ _ _ _ _ _ _ w hn h1 h2 h3
  cases hm : mayM (.ask al aq ah as_ ae t ak ab af ad s) with
  | true => exact msgSizes_yes _ _ _ _ _ _ _ _ _ _ _ _ _ _ _ _ _ _ _ _ _ xs w (hx (by omega)) (by omega) (by omega) (by omega) hm
  | false => exact msgSizes_no _ _ _ _ _ _ _ _ _ _ _ _ _ _ _ _ _ _ _ _ _ xs w (hx (by omega)) (by omega) (by omega) (by omega) hm
end Go.Proofs.Ytajhkjikcgfhdaa
