/-
  Encode of an ask.
-/
import Derived.Test.YtajhkjikcgfhdaaEnc0
import Derived.Deep.RegionWith
import Derived.Outline
namespace Go.Proofs.Ytajhkjikcgfhdaa
set_option linter.unusedVariables false
set_option linter.unusedSimpArgs false
set_option maxRecDepth 20000
open Go.RowKit
set_option maxHeartbeats 4000000 in
theorem enc_ask (sl q sh sq ep : Int) (t : ByteArray) (k b : Int) (f : Bool) (d : Int) (s : ByteArray) (w : World) (ht : t.size ≤ 60000) (hs : s.size ≤ 60000) (h : askB sl q sh sq ep t k b f d s = true) :
    Calls Try.prog 14 #[.iface 29 (.agg #[.int .i64 sl, .int .i64 q, .int .i64 sh, .int .i64 sq, .int .i64 ep, .string t, .int .i64 k, .int .i64 b, .bool f, .int .i64 d, .string s])] w (EncOk w (frameI 3 (askI sl q sh sq ep t k b f d s))) := by
  have f_hello := as_ask_hello
  have f_grant := as_ask_grant
  have f_ask := as_ask_ask
  have HM := Lib.hid h
  clear h
  go_enter Try.func14, Try.ntmps14
  go_wp2_with (first
    | (go_at_call 19; (with_reducible refine (may_ask sl q sh sq ep t k b f d s _ (Nat.le_trans ht (by omega)) (Nat.le_trans hs (by omega))).mono ?_); rintro e w' ⟨w1, rfl, rfl, b1⟩; rw [HM.out])
    | (go_at_call 21; (with_reducible refine (kind_ask sl q sh sq ep t k b f d s _).mono ?_); rintro e w' ⟨w2, rfl, rfl, b2⟩; have HB2 := Lib.hid (bel2 b1 b2); clear b1 b2; have HW0 : Hid (Wr ((((w2.alloc (.cells #[.int .u8 0, .int .u8 0, .int .u8 3] 5)).alloc (.cells #[.slice (some ⟨w2.heap.size, 0, none⟩) 3 3] 74)).alloc (.cells #[.int .i64 sl, .int .i64 q, .int .i64 sh, .int .i64 sq, .int .i64 ep, .string t, .int .i64 k, .int .i64 b, .bool f, .int .i64 d, .string s] 29)).alloc (.cells #[.int .i64 sl, .int .i64 q, .int .i64 sh, .int .i64 sq, .int .i64 ep] 3)) (w2.heap.size + 1) w.heap.size [0, 0, 3]) := ((wr_start w2 w.heap.size 3 HB2.out.size (by omega)).below (bel_alloc _ _)).below (bel_alloc _ _); have HN0 : Hid (NReads ((((w2.alloc (.cells #[.int .u8 0, .int .u8 0, .int .u8 3] 5)).alloc (.cells #[.slice (some ⟨w2.heap.size, 0, none⟩) 3 3] 74)).alloc (.cells #[.int .i64 sl, .int .i64 q, .int .i64 sh, .int .i64 sq, .int .i64 ep, .string t, .int .i64 k, .int .i64 b, .bool f, .int .i64 d, .string s] 29)).alloc (.cells #[.int .i64 sl, .int .i64 q, .int .i64 sh, .int .i64 sq, .int .i64 ep] 3)) (some ⟨w2.heap.size + 3, 0, none⟩) 5 [sl, q, sh, sq, ep]) := (by have h3 := nreads_lit (((w2.alloc (.cells #[.int .u8 0, .int .u8 0, .int .u8 3] 5)).alloc (.cells #[.slice (some ⟨w2.heap.size, 0, none⟩) 3 3] 74)).alloc (.cells #[.int .i64 sl, .int .i64 q, .int .i64 sh, .int .i64 sq, .int .i64 ep, .string t, .int .i64 k, .int .i64 b, .bool f, .int .i64 d, .string s] 29)) [sl, q, sh, sq, ep] 3 (by simp); rwa [show (((w2.alloc (.cells #[.int .u8 0, .int .u8 0, .int .u8 3] 5)).alloc (.cells #[.slice (some ⟨w2.heap.size, 0, none⟩) 3 3] 74)).alloc (.cells #[.int .i64 sl, .int .i64 q, .int .i64 sh, .int .i64 sq, .int .i64 ep, .string t, .int .i64 k, .int .i64 b, .bool f, .int .i64 d, .string s] 29)).heap.size = w2.heap.size + 3 by simp] at h3); have HX6 : Hid (Blk ((((w2.alloc (.cells #[.int .u8 0, .int .u8 0, .int .u8 3] 5)).alloc (.cells #[.slice (some ⟨w2.heap.size, 0, none⟩) 3 3] 74)).alloc (.cells #[.int .i64 sl, .int .i64 q, .int .i64 sh, .int .i64 sq, .int .i64 ep, .string t, .int .i64 k, .int .i64 b, .bool f, .int .i64 d, .string s] 29)).alloc (.cells #[.int .i64 sl, .int .i64 q, .int .i64 sh, .int .i64 sq, .int .i64 ep] 3)) (w2.heap.size + 2) 29 #[.int .i64 sl, .int .i64 q, .int .i64 sh, .int .i64 sq, .int .i64 ep, .string t, .int .i64 k, .int .i64 b, .bool f, .int .i64 d, .string s]) := (by have h3 := (Blk.new ((w2.alloc (.cells #[.int .u8 0, .int .u8 0, .int .u8 3] 5)).alloc (.cells #[.slice (some ⟨w2.heap.size, 0, none⟩) 3 3] 74)) 29 #[.int .i64 sl, .int .i64 q, .int .i64 sh, .int .i64 sq, .int .i64 ep, .string t, .int .i64 k, .int .i64 b, .bool f, .int .i64 d, .string s]).alloc (.cells #[.int .i64 sl, .int .i64 q, .int .i64 sh, .int .i64 sq, .int .i64 ep] 3); rwa [show ((w2.alloc (.cells #[.int .u8 0, .int .u8 0, .int .u8 3] 5)).alloc (.cells #[.slice (some ⟨w2.heap.size, 0, none⟩) 3 3] 74)).heap.size = w2.heap.size + 2 by simp] at h3))
    | (go_at_call 34; (with_reducible refine (wnums_any (w2.heap.size + 1) w.heap.size [0, 0, 3] (some ⟨w2.heap.size + 3, 0, none⟩) 5 5 [sl, q, sh, sq, ep] _ HW0.out (by decide) HN0.out (by omega) (by intro ad e; injection e with e; subst e; simp)).mono ?_); rintro e w' ⟨w7, rfl, rfl, h7, g7⟩; have HW7 := Lib.hid h7; have HG7 := Lib.hid g7; have HX7 := Lib.hid (HX6.out.grown g7 (by intro e; injection e with e; omega)); clear h7 g7))
  obtain ⟨z7, hz7⟩ : ∃ z, [0, 0, 3] ++ foursI [sl, q, sh, sq, ep] = z := ⟨_, rfl⟩
  have HZ7 := Lib.hid hz7
  rw [hz7] at HW7
  have HL7 : Hid (z7.length = 23) := by unfold Hid; rw [← hz7, List.length_append, foursI_length]; rfl
  clear hz7
  have HD7 : Hid (Below w.heap.size w w7) := (((((HB2.out.alloc HB2.out.size _).alloc (Nat.le_trans HB2.out.size (by simp <;> omega)) _).alloc (Nat.le_trans HB2.out.size (by simp <;> omega)) _).alloc (Nat.le_trans HB2.out.size (by simp <;> omega)) _).grown HG7.out (Nat.le_trans HB2.out.size (by simp <;> omega)) (fun q hq => by injection hq with hq; subst hq; exact Nat.le_trans HB2.out.size (by omega)))
  obtain ⟨z8, hz8⟩ : ∃ z, z7 ++ textI t = z := ⟨_, rfl⟩
  obtain ⟨z9, hz9⟩ : ∃ z, z8 ++ putI k 1 = z := ⟨_, rfl⟩
  obtain ⟨z10, hz10⟩ : ∃ z, z9 ++ putI b 1 = z := ⟨_, rfl⟩
  obtain ⟨z11, hz11⟩ : ∃ z, z10 ++ putI (b2n f) 1 = z := ⟨_, rfl⟩
  obtain ⟨z12, hz12⟩ : ∃ z, z11 ++ itemI d s = z := ⟨_, rfl⟩
  have HZ8 := Lib.hid hz8
  have HZ9 := Lib.hid hz9
  have HZ10 := Lib.hid hz10
  have HZ11 := Lib.hid hz11
  have HZ12 := Lib.hid hz12
  clear hz8 hz9 hz10 hz11 hz12
  have c7_5 : w7.cell? ⟨w2.heap.size + 2, 5, none⟩ = some (.string t) := (HX7.out.cell 5).trans rfl
  obtain ⟨A7, c7, hc7, hf7, hrd7, hcc7⟩ := HW7.out.cell0
  rw [HL7.out] at hc7 hrd7
  have HR7 := Lib.hid hrd7.range
  have HRD7 := Lib.hid hrd7
  clear hrd7 hcc7
  go_wp2_with fail
  go_region_with (first
    | (go_at_call 35; (with_reducible refine (putText_small _ _ _ _ _ _ (HRD7.out.below (Below.refl _ _).drew) (by omega) (Nat.le_trans ht (by omega))).mono ?_); rintro e w' ⟨A2, c2, w7b, rfl, rfl, ho, hr2, hc2, b1⟩; have k0 := cell_keep (w := w7.drew) hc7 b1; have k1 : w7b.frozen? ⟨w2.heap.size + 1, 0, none⟩ = false := (b1.frozen (p := ⟨w2.heap.size + 1, 0, none⟩) HW7.out.lt).trans hf7; have HO := Lib.hid ho; have HBB := Lib.hid b1; clear ho hr2 hc2 b1))
  all_goals
    have h8 : Wr (w7b.setCell ⟨w2.heap.size + 1, 0, none⟩ (.slice A2 (23 + (2 + t.size)) c2)) (w2.heap.size + 1) w.heap.size (z7 ++ textI t) := HW7.out.drew.set_ HBB.out HO.out (range_app HR7.out (textI_range t))
    have g8 : w7.grownBy (w7b.setCell ⟨w2.heap.size + 1, 0, none⟩ (.slice A2 (23 + (2 + t.size)) c2)) (some (w2.heap.size + 1)) := only_setCell (only_of_below (bel2 (Below.refl _ _).drew HBB.out) _) (.inl rfl) _
    generalize w7b.setCell ⟨w2.heap.size + 1, 0, none⟩ (.slice A2 (23 + (2 + t.size)) c2) = w8 at *
    have HW8 : Hid (Wr w8 (w2.heap.size + 1) w.heap.size z8) := (by unfold Hid; rw [← HZ8.out]; exact h8)
    have HL8 : Hid (z8.length = z7.length + (2 + t.size)) := (by unfold Hid; rw [← HZ8.out, List.length_append, textI_length])
    have HX8 := Lib.hid (HX7.out.grown g8 (by intro e; injection e with e; omega))
    have HD8 : Hid (Below w.heap.size w w8) := HD7.out.grown g8 HD7.out.size (fun q hq => by injection hq with hq; subst hq; exact Nat.le_trans HB2.out.size (by omega))
    clear h8 g8
    have hlz8 : z8.length ≤ 65000 := by rw [HL8.out, HL7.out]; omega
    have hlz9 : z9.length ≤ 65001 := by rw [← HZ9.out, List.length_append, putI_length]; omega
    have hlz10 : z10.length ≤ 65002 := by rw [← HZ10.out, List.length_append, putI_length]; omega
    have hlz11 : z11.length ≤ 65003 := by rw [← HZ11.out, List.length_append, putI_length]; omega
    have c8_6 : w8.cell? ⟨w2.heap.size + 2, 6, none⟩ = some (.int .i64 k) := (HX8.out.cell 6).trans rfl
    clear c7_5 hc7 hf7
    go_wp2_with (first
      | (go_at_call 36; (with_reducible refine (wsmall_any _ _ z8 _ w8 HW8.out (by omega)).mono ?_); rintro e w' ⟨w9, rfl, rfl, h9, g9⟩; have HW9 : Hid (Wr w9 (w2.heap.size + 1) w.heap.size z9) := (by unfold Hid; rw [← HZ9.out]; exact h9); have HL9 : Hid (z9.length = z8.length + 1) := (by unfold Hid; rw [← HZ9.out, List.length_append, putI_length]); have HX9 := Lib.hid (HX8.out.grown g9 (by intro e; injection e with e; omega)); have HD9 : Hid (Below w.heap.size w w9) := HD8.out.grown g9 HD8.out.size (fun q hq => by injection hq with hq; subst hq; exact Nat.le_trans HB2.out.size (by omega)); clear h9 g9; have c9_7 : w9.cell? ⟨w2.heap.size + 2, 7, none⟩ = some (.int .i64 b) := (HX9.out.cell 7).trans rfl)
      | (go_at_call 36; (with_reducible refine (wsmall_any _ _ z9 _ w9 HW9.out (by omega)).mono ?_); rintro e w' ⟨w10, rfl, rfl, h10, g10⟩; have HW10 : Hid (Wr w10 (w2.heap.size + 1) w.heap.size z10) := (by unfold Hid; rw [← HZ10.out]; exact h10); have HL10 : Hid (z10.length = z9.length + 1) := (by unfold Hid; rw [← HZ10.out, List.length_append, putI_length]); have HX10 := Lib.hid (HX9.out.grown g10 (by intro e; injection e with e; omega)); have HD10 : Hid (Below w.heap.size w w10) := HD9.out.grown g10 HD9.out.size (fun q hq => by injection hq with hq; subst hq; exact Nat.le_trans HB2.out.size (by omega)); clear h10 g10; have c10_8 : w10.cell? ⟨w2.heap.size + 2, 8, none⟩ = some (.bool f) := (HX10.out.cell 8).trans rfl)
      | (go_at_call 37; (with_reducible refine (wflag_any _ _ z10 _ w10 HW10.out (by omega)).mono ?_); rintro e w' ⟨w11, rfl, rfl, h11, g11⟩; have HW11 : Hid (Wr w11 (w2.heap.size + 1) w.heap.size z11) := (by unfold Hid; rw [← HZ11.out]; exact h11); have HL11 : Hid (z11.length = z10.length + 1) := (by unfold Hid; rw [← HZ11.out, List.length_append, putI_length]); have HX11 := Lib.hid (HX10.out.grown g11 (by intro e; injection e with e; omega)); have HD11 : Hid (Below w.heap.size w w11) := HD10.out.grown g11 HD10.out.size (fun q hq => by injection hq with hq; subst hq; exact Nat.le_trans HB2.out.size (by omega)); clear h11 g11; have c11_9 : w11.cell? ⟨w2.heap.size + 2, 9, none⟩ = some (.int .i64 d) := (HX11.out.cell 9).trans rfl; have c11_10 : w11.cell? ⟨w2.heap.size + 2, 10, none⟩ = some (.string s) := (HX11.out.cell 10).trans rfl)
      | (go_at_call 38; (with_reducible refine (witem_any _ _ z11 _ _ w11 HW11.out (by omega) (Nat.le_trans hs (by omega))).mono ?_); rintro e w' ⟨w12, rfl, rfl, h12, g12⟩; have HW12 : Hid (Wr w12 (w2.heap.size + 1) w.heap.size z12) := (by unfold Hid; rw [← HZ12.out]; exact h12); have HL12 : Hid (z12.length = z11.length + (3 + s.size)) := (by unfold Hid; rw [← HZ12.out, List.length_append, itemI_length]); have HX12 := Lib.hid (HX11.out.grown g12 (by intro e; injection e with e; omega)); have HD12 : Hid (Below w.heap.size w w12) := HD11.out.grown g12 HD11.out.size (fun q hq => by injection hq with hq; subst hq; exact Nat.le_trans HB2.out.size (by omega)); clear h12 g12))
    obtain ⟨A0, n0, c0, hbk0, how0, hrg0, hB0⟩ := HW12.out
    have hn0 : (z12).length = n0 := by have := how0.1; rw [bvals_length] at this; omega
    have hm0 : 3 ≤ n0 ∧ n0 ≤ 900000 := by
      rw [← hn0]
      rw [HL12.out, HL11.out, HL10.out, HL9.out, HL8.out, HL7.out]
      omega
    have hn1 := hm0.1
    have hn2 := hm0.2
    have HN := Lib.hid hn0
    have HBK := Lib.hid hbk0
    have HOW := Lib.hid how0
    have HRG := Lib.hid hrg0
    have HBL : Hid (Below w.heap.size w w12) := HD12.out
    have sm : IntKind.i64.wrap ((n0 : Int) + 4) = (n0 : Int) + 4 := by
      simp only [IntKind.wrap, IntKind.signed, IntKind.bits]
      simp
      omega
    have E2 : Hid ((2 : Int) = ((2 : Nat) : Int)) := rfl
    have E4 : Hid ((4 : Int) = ((4 : Nat) : Int)) := rfl
    have hc0 : w12.drew.cell? ⟨w2.heap.size + 1, 0, none⟩ = some (.slice A0 n0 c0) := hbk0.cell 0
    clear hn0 hm0 hbk0 how0 hrg0
    go_wp2_with fail
    go_region_held3 (fun w' => w'.cell? ⟨w2.heap.size + 1, 0, none⟩ = some (.slice A0 n0 c0)) (first | exact hc0 | exact k8 | exact k9)
      (first
      | (go_at_call 39; refine (put_q none 0 0 [] _ 2 2 _ (breads_nil _ _) (by omega) E2.out (by omega)).mono ?_; rintro e w' ⟨A8, c8, w8, rfl, rfl, ho8, hr8, hc8, b8⟩; simp only [Nat.zero_add, List.nil_append] at hr8; have k8 := cell_keep hc0 b8; obtain ⟨w9, hrun, ho9, hg9⟩ := copy_own w8 3 (c2 := c8) (own_below (own_below HOW.out (Below.refl _ _).drew) b8) hr8 (by omega) (by omega); have k9 : w9.cell? ⟨w2.heap.size + 1, 0, none⟩ = some (.slice A0 n0 c0) := ((HBK.out.drew.below b8 (HBK.out.lt)).grown hg9 (fun e => own_blk_ne (own_below (own_below HOW.out (Below.refl _ _).drew) b8) (HBK.out.drew.below b8 (HBK.out.lt)) (by decide) e.symm)).cell 0; have HRUN := Lib.hid hrun; have HO9 := Lib.hid ho9; have HG9 := Lib.hid hg9; have HB8 := Lib.hid b8; clear hrun ho9 hg9 ho8 hr8 hc8 b8)
      | (refine step_copy_run rfl (.tmp 137) (.tmp 144) _ _ rfl _ _ rfl rfl HRUN.out ?_))
    obtain ⟨hd, hhd⟩ : ∃ hd, putI ((n0 : Int) + 4) 2 ++ (z12).drop 2 = hd := ⟨_, rfl⟩
    have HHD := Lib.hid hhd
    rw [hhd] at HO9
    have HRH : Hid (∀ z, z ∈ hd → 0 ≤ z ∧ z < 256) := by
      rw [← hhd]
      exact range_app (putI_range _ _) (fun z hz => HRG.out z (List.mem_of_mem_drop hz))
    clear hhd
    obtain ⟨A0', c0', e0, hcc, hrd9⟩ := own_breads HO9.out HRH.out
    injection e0 with e1 e2 e3
    subst e1
    subst e3
    have HRD := Lib.hid hrd9
    have HAR : Hid (0 ≤ addI 0 hd ∧ addI 0 hd < 4294967296) := addI_range 0 hd (by omega) HRH.out
    obtain ⟨a0, a1⟩ := HAR.out
    have HWR : Hid (IntKind.i64.wrap (addI 0 hd) = addI 0 hd) := by
      unfold Hid
      simp only [IntKind.wrap, IntKind.signed, IntKind.bits]
      simp
      omega
    have hc9 : w9.drew.cell? ⟨w2.heap.size + 1, 0, none⟩ = some (.slice A0 n0 c0) := k9
    clear hrd9 hcc
    go_wp2_with fail
    go_region_held3 (fun w' => w'.cell? ⟨w2.heap.size + 1, 0, none⟩ = some (.slice A0 n0 c0)) (first | exact hc9 | exact k10)
      (first
      | (go_at_call 40; refine (of_any _ _ _ _ _ (HRD.out.below (Below.refl _ _).drew)).mono ?_; rintro e w' ⟨rfl, rfl⟩)
      | (go_at_call 39; refine (put_q _ _ _ _ _ 4 4 _ (HRD.out.below (Below.refl _ _).drew) (by omega) E4.out (by omega)).mono ?_; rintro e w' ⟨A10, c10, w10, rfl, rfl, ho10, hr10, hc10, b10⟩; have k10 := cell_keep hc9 b10; rw [HWR.out] at ho10 hr10; have HO10 := Lib.hid ho10; have HR10 := Lib.hid hr10; have HC10 := Lib.hid hc10; have HB10 := Lib.hid b10; clear ho10 hr10 hc10 b10))
    go_wp2
    go_ret2
    have hF : hd = headI 3 (askI sl q sh sq ep t k b f d s) := by
      rw [← HHD.out, ← HN.out]
      unfold headI
      have e1 := HZ12.out
      rw [← HZ11.out, ← HZ10.out, ← HZ9.out, ← HZ8.out, ← HZ7.out] at e1
      have e2 : (askI sl q sh sq ep t k b f d s).length + 7 = z12.length + 4 := by
        rw [← e1]
        unfold askI
        simp only [List.length_append, List.length_cons, List.length_nil]
        omega
      rw [show ((z12.length : Int) + 4) = (((askI sl q sh sq ep t k b f d s).length : Int) + 7) by omega, ← e1]
      unfold askI
      simp only [List.append_assoc, List.cons_append, List.nil_append, List.drop_succ_cons, List.drop_zero]
    unfold frameI
    rw [← hF]
    exact enc_ok (by rw [List.length_append, putI_length, HRD.out.1]) rfl rfl (own_low HO10.out (Nat.le_trans HBL.out.size (Nat.le_trans HB8.out.size HG9.out.size))) HR10.out HC10.out ((((HBL.out.drew.trans (HB8.out.mono HBL.out.size)).grown HG9.out (Nat.le_trans HBL.out.size HB8.out.size) (fun q hq => (HOW.out.lt q hq).1)).drew).trans (HB10.out.mono (Nat.le_trans HBL.out.size (Nat.le_trans HB8.out.size HG9.out.size))))
set_option maxHeartbeats 1000000 in
theorem encno_ask (sl q sh sq ep : Int) (t : ByteArray) (k b : Int) (f : Bool) (d : Int) (s : ByteArray) (w : World) (ht : t.size ≤ 60000) (hs : s.size ≤ 60000) (h : askB sl q sh sq ep t k b f d s = false) :
    Calls Try.prog 14 #[.iface 29 (.agg #[.int .i64 sl, .int .i64 q, .int .i64 sh, .int .i64 sq, .int .i64 ep, .string t, .int .i64 k, .int .i64 b, .bool f, .int .i64 d, .string s])] w (EncNo w) := by
  have HM := Lib.hid h
  clear h
  go_enter Try.func14, Try.ntmps14
  go_wp2_with (go_at_call 19; (with_reducible refine (may_ask sl q sh sq ep t k b f d s _ (Nat.le_trans ht (by omega)) (Nat.le_trans hs (by omega))).mono ?_); rintro e w' ⟨w1, rfl, rfl, b1⟩; rw [HM.out])
  go_ret2
  exact ⟨_, rfl, rfl, b1⟩
end Go.Proofs.Ytajhkjikcgfhdaa
