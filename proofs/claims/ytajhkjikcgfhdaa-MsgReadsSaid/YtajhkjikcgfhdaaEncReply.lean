/-
  Encode of a reply.
-/
import Derived.Test.YtajhkjikcgfhdaaEncAsk
namespace Go.Proofs.Ytajhkjikcgfhdaa
set_option linter.unusedVariables false
set_option linter.unusedSimpArgs false
set_option maxRecDepth 20000
open Go.RowKit
theorem itemsI_take (xs : List (Int × ByteArray)) (k : Nat) (h : k < xs.length) : itemsI (xs.take (k + 1)) = itemsI (xs.take k) ++ itemI (gx xs k).1 (gx xs k).2 := by
  rw [List.take_succ_eq_append_getElem h]
  unfold itemsI
  rw [List.flatMap_append]
  congr 1
  simp [gx, List.getD_eq_getElem?_getD, h]
theorem itemsI_len (xs : List (Int × ByteArray)) (m : Nat) (h : Small m xs) : (itemsI xs).length ≤ (3 + m) * xs.length := by
  induction xs with
  | nil => simp [itemsI]
  | cons x xs ih =>
    have := ih fun y hy => h y (List.mem_cons_of_mem _ hy)
    have h1 := h x (List.mem_cons_self ..)
    unfold itemsI at *
    rw [List.flatMap_cons, List.length_append, itemI_length, List.length_cons, Nat.mul_succ]
    omega
theorem itemsI_range (xs : List (Int × ByteArray)) : ∀ z, z ∈ itemsI xs → 0 ≤ z ∧ z < 256 := by
  intro z hz
  simp only [itemsI, List.mem_flatMap] at hz
  obtain ⟨x, _, hx⟩ := hz
  exact range_app (putI_range _ _) (textI_range _) z hx
theorem Small.take_ {m : Nat} {xs : List (Int × ByteArray)} (h : Small m xs) (k : Nat) : Small m (xs.take k) := fun x hx => h x (List.mem_of_mem_take hx)
theorem replyB_len {sl q sh sq wk ep : Int} {xs : List (Int × ByteArray)} (h : replyB sl q sh sq wk ep xs = true) : xs.length ≤ 5 := by
  unfold replyB at h
  simp only [Bool.and_eq_true, decide_eq_true_eq] at h
  exact h.2.1
set_option maxHeartbeats 4000000 in
theorem enc_reply (sl q sh sq wk ep : Int) (A : Option Addr) (n c : Nat) (en : Bool) (xs : List (Int × ByteArray)) (w : World) (hx : XReads w A n xs) (hs : Small 60000 xs) (h : replyB sl q sh sq wk ep xs = true) :
    Calls Try.prog 14 #[.iface 32 (.agg #[.int .i64 sl, .int .i64 q, .int .i64 sh, .int .i64 sq, .int .i64 wk, .int .i64 ep, .slice A n c, .bool en])] w (EncOk w (frameI 4 (replyI sl q sh sq wk ep xs en))) := by
  have hlen := replyB_len h
  have hn5 : n ≤ 5 := by rw [← hx.1]; exact hlen
  have HXR := Lib.hid hx
  have HXL := Lib.hid hx.1
  have HS := Lib.hid hs
  have HS2 : Hid (Small 1000000 xs) := fun x hx => Nat.le_trans (hs x hx) (by omega)
  clear hx hs hlen
  have f_hello := as_reply_hello
  have f_grant := as_reply_grant
  have f_ask := as_reply_ask
  have f_reply := as_reply_reply
  have HM := Lib.hid h
  clear h
  go_enter Try.func14, Try.ntmps14
  go_wp2_with (first
    | (go_at_call 19; (with_reducible refine (may_reply sl q sh sq wk ep A n c en xs _ HXR.out HS2.out).mono ?_); rintro e w' ⟨w1, rfl, rfl, b1⟩; rw [HM.out])
    | (go_at_call 21; (with_reducible refine (kind_reply sl q sh sq wk ep A n c en _).mono ?_); rintro e w' ⟨w2, rfl, rfl, b2⟩; have HB2 := Lib.hid (bel2 b1 b2); clear b1 b2; have HW0 : Hid (Wr ((((w2.alloc (.cells #[.int .u8 0, .int .u8 0, .int .u8 4] 5)).alloc (.cells #[.slice (some ⟨w2.heap.size, 0, none⟩) 3 3] 74)).alloc (.cells #[.int .i64 sl, .int .i64 q, .int .i64 sh, .int .i64 sq, .int .i64 wk, .int .i64 ep, .slice A n c, .bool en] 32)).alloc (.cells #[.int .i64 sl, .int .i64 q, .int .i64 sh, .int .i64 sq, .int .i64 wk, .int .i64 ep] 3)) (w2.heap.size + 1) w.heap.size [0, 0, 4]) := ((wr_start w2 w.heap.size 4 HB2.out.size (by omega)).below (bel_alloc _ _)).below (bel_alloc _ _); have HN0 : Hid (NReads ((((w2.alloc (.cells #[.int .u8 0, .int .u8 0, .int .u8 4] 5)).alloc (.cells #[.slice (some ⟨w2.heap.size, 0, none⟩) 3 3] 74)).alloc (.cells #[.int .i64 sl, .int .i64 q, .int .i64 sh, .int .i64 sq, .int .i64 wk, .int .i64 ep, .slice A n c, .bool en] 32)).alloc (.cells #[.int .i64 sl, .int .i64 q, .int .i64 sh, .int .i64 sq, .int .i64 wk, .int .i64 ep] 3)) (some ⟨w2.heap.size + 3, 0, none⟩) 6 [sl, q, sh, sq, wk, ep]) := (by have h3 := nreads_lit (((w2.alloc (.cells #[.int .u8 0, .int .u8 0, .int .u8 4] 5)).alloc (.cells #[.slice (some ⟨w2.heap.size, 0, none⟩) 3 3] 74)).alloc (.cells #[.int .i64 sl, .int .i64 q, .int .i64 sh, .int .i64 sq, .int .i64 wk, .int .i64 ep, .slice A n c, .bool en] 32)) [sl, q, sh, sq, wk, ep] 3 (by simp); rwa [show (((w2.alloc (.cells #[.int .u8 0, .int .u8 0, .int .u8 4] 5)).alloc (.cells #[.slice (some ⟨w2.heap.size, 0, none⟩) 3 3] 74)).alloc (.cells #[.int .i64 sl, .int .i64 q, .int .i64 sh, .int .i64 sq, .int .i64 wk, .int .i64 ep, .slice A n c, .bool en] 32)).heap.size = w2.heap.size + 3 by simp] at h3); have HX6 : Hid (Blk ((((w2.alloc (.cells #[.int .u8 0, .int .u8 0, .int .u8 4] 5)).alloc (.cells #[.slice (some ⟨w2.heap.size, 0, none⟩) 3 3] 74)).alloc (.cells #[.int .i64 sl, .int .i64 q, .int .i64 sh, .int .i64 sq, .int .i64 wk, .int .i64 ep, .slice A n c, .bool en] 32)).alloc (.cells #[.int .i64 sl, .int .i64 q, .int .i64 sh, .int .i64 sq, .int .i64 wk, .int .i64 ep] 3)) (w2.heap.size + 2) 32 #[.int .i64 sl, .int .i64 q, .int .i64 sh, .int .i64 sq, .int .i64 wk, .int .i64 ep, .slice A n c, .bool en]) := (by have h3 := (Blk.new ((w2.alloc (.cells #[.int .u8 0, .int .u8 0, .int .u8 4] 5)).alloc (.cells #[.slice (some ⟨w2.heap.size, 0, none⟩) 3 3] 74)) 32 #[.int .i64 sl, .int .i64 q, .int .i64 sh, .int .i64 sq, .int .i64 wk, .int .i64 ep, .slice A n c, .bool en]).alloc (.cells #[.int .i64 sl, .int .i64 q, .int .i64 sh, .int .i64 sq, .int .i64 wk, .int .i64 ep] 3); rwa [show ((w2.alloc (.cells #[.int .u8 0, .int .u8 0, .int .u8 4] 5)).alloc (.cells #[.slice (some ⟨w2.heap.size, 0, none⟩) 3 3] 74)).heap.size = w2.heap.size + 2 by simp] at h3))
    | (go_at_call 34; (with_reducible refine (wnums_any (w2.heap.size + 1) w.heap.size [0, 0, 4] (some ⟨w2.heap.size + 3, 0, none⟩) 6 6 [sl, q, sh, sq, wk, ep] _ HW0.out (by decide) HN0.out (by omega) (by intro ad e; injection e with e; subst e; simp)).mono ?_); rintro e w' ⟨w7, rfl, rfl, h7, g7⟩; have HW7 := Lib.hid h7; have HG7 := Lib.hid g7; have HX7 := Lib.hid (HX6.out.grown g7 (by intro e; injection e with e; omega)); clear h7 g7; have c7_6 : w7.cell? ⟨w2.heap.size + 2, 6, none⟩ = some (.slice A n c) := (HX7.out.cell 6).trans rfl; obtain ⟨z7, hz7⟩ : ∃ z, [0, 0, 4] ++ foursI [sl, q, sh, sq, wk, ep] = z := ⟨_, rfl⟩; have HZ7 := Lib.hid hz7; rw [hz7] at HW7; have HL7 : Hid (z7.length = 27) := (by unfold Hid; rw [← hz7, List.length_append, foursI_length]; rfl); clear hz7; have HD7 : Hid (Below w.heap.size w w7) := (((((HB2.out.alloc HB2.out.size _).alloc (Nat.le_trans HB2.out.size (by simp <;> omega)) _).alloc (Nat.le_trans HB2.out.size (by simp <;> omega)) _).alloc (Nat.le_trans HB2.out.size (by simp <;> omega)) _).grown HG7.out (Nat.le_trans HB2.out.size (by simp <;> omega)) (fun q hq => by injection hq with hq; subst hq; exact Nat.le_trans HB2.out.size (by omega))); obtain ⟨z8, hz8⟩ : ∃ z, z7 ++ putI n 1 = z := ⟨_, rfl⟩; have HZ8 := Lib.hid hz8; clear hz8; have hl7 : z7.length ≤ 27 := (by rw [HL7.out]; omega))
    | (go_at_call 36; (with_reducible refine (wsmall_any _ _ z7 _ w7 HW7.out (by omega)).mono ?_); rintro e w' ⟨w8, rfl, rfl, h8, g8⟩; have HW8 : Hid (Wr w8 (w2.heap.size + 1) w.heap.size z8) := (by unfold Hid; rw [← HZ8.out]; exact h8); have HL8 : Hid (z8.length = z7.length + 1) := (by unfold Hid; rw [← HZ8.out, List.length_append, putI_length]); have HX8 := Lib.hid (HX7.out.grown g8 (by intro e; injection e with e; omega)); have HD8 : Hid (Below w.heap.size w w8) := HD7.out.grown g8 HD7.out.size (fun q hq => by injection hq with hq; subst hq; exact Nat.le_trans HB2.out.size (by omega)); clear h8 g8; have c8_6 : w8.cell? ⟨w2.heap.size + 2, 6, none⟩ = some (.slice A n c) := (HX8.out.cell 6).trans rfl))
  clear hl7
  go_loopw [112] (fun i wr => ∃ k : Nat, k ≤ n ∧ i = .int .i64 k ∧ Hid (Wr wr (w2.heap.size + 1) w.heap.size (z8 ++ itemsI (xs.take k))) ∧ Hid (w8.grownBy wr (some (w2.heap.size + 1)))) (fun i _ => n - (intOf i).toNat)
  case atStart => exact ⟨0, by omega, rfl, (by unfold Hid; simpa [itemsI] using HW8.out), World.grownBy.refl _ _⟩
  case round =>
    clear c7_6 c8_6
    obtain ⟨k, hk, rfl, HW, HG⟩ := hrel
    have HDR : Hid (Below w.heap.size w wr) := HD8.out.grown HG.out HD8.out.size (fun q hq => by injection hq with hq; subst hq; exact Nat.le_trans HB2.out.size (by omega))
    have hzlen : (z8 ++ itemsI (xs.take k)).length ≤ 28 + 60003 * 5 := by
      have h1 := itemsI_len (xs.take k) 60000 (HS.out.take_ k)
      have h2 : (xs.take k).length ≤ 5 := by rw [List.length_take]; omega
      have h3 : (3 + 60000) * (xs.take k).length ≤ 60003 * 5 := Nat.mul_le_mul (by omega) h2
      rw [List.length_append, HL8.out, HL7.out]
      omega
    by_cases hlt : k < n
    · obtain ⟨ad, rfl, y0, y1⟩ := (HXR.out.below HDR.out).at_ k hlt
      have HSZ : Hid ((gx xs k).2.size ≤ 65535) := Nat.le_trans (HS.out.gx_ k) (by omega)
      have HE : Hid (z8 ++ itemsI (xs.take (k + 1)) = (z8 ++ itemsI (xs.take k)) ++ itemI (gx xs k).1 (gx xs k).2) := by
        unfold Hid
        rw [itemsI_take xs k (by rw [HXL.out]; exact hlt), List.append_assoc]
      have HWA : Hid (Wr (wr.alloc (.cells #[.int .i64 (gx xs k).1, .string (gx xs k).2] 27)) (w2.heap.size + 1) w.heap.size (z8 ++ itemsI (xs.take k))) := HW.out.below (bel_alloc _ _)
      go_wp2_with (go_at_call 38; (with_reducible refine (witem_any _ _ _ _ _ _ HWA.out (by omega) HSZ.out).mono ?_); rintro e w' ⟨w9, rfl, rfl, h9, g9⟩; rw [← HE.out] at h9; have HW9 := Lib.hid h9; have HG9 := Lib.hid g9; clear h9 g9)
      go_roundw
      case rel => exact ⟨k + 1, by omega, by go_num, HW9, only_trans HG.out (only_trans (only_of_below (bel_alloc wr _) _) HG9.out (fun q hq => by injection hq with hq; subst hq; exact HW.out.lt)) (fun q hq => by injection hq with hq; subst hq; exact HW8.out.lt)⟩
      case measure => simp [intOf]; omega
    · obtain rfl : k = n := by omega
      obtain ⟨z11, hz11⟩ : ∃ z, z8 ++ itemsI xs = z := ⟨_, rfl⟩
      have HZ11 := Lib.hid hz11
      have HW11 : Hid (Wr wr (w2.heap.size + 1) w.heap.size z11) := by
        have := HW.out
        rw [List.take_of_length_le (by rw [HXL.out]; exact Nat.le_refl _)] at this
        unfold Hid
        rw [← hz11]
        exact this
      rw [List.take_of_length_le (by rw [HXL.out]; exact Nat.le_refl _), hz11] at hzlen
      clear hz11
      obtain ⟨z12, hz12⟩ : ∃ z, z11 ++ putI (b2n en) 1 = z := ⟨_, rfl⟩
      have HZ12 := Lib.hid hz12
      clear hz12
      have HX11 := Lib.hid (HX8.out.grown HG.out (by intro e; injection e with e; omega))
      have HD11 := HDR
      have c11_7 : wr.cell? ⟨w2.heap.size + 2, 7, none⟩ = some (.bool en) := (HX11.out.cell 7).trans rfl
      go_wp2_with (go_at_call 37; (with_reducible refine (wflag_any _ _ z11 _ wr HW11.out (by omega)).mono ?_); rintro e w' ⟨w12, rfl, rfl, h12, g12⟩; have HW12 : Hid (Wr w12 (w2.heap.size + 1) w.heap.size z12) := (by unfold Hid; rw [← HZ12.out]; exact h12); have HL12 : Hid (z12.length = z11.length + 1) := (by unfold Hid; rw [← HZ12.out, List.length_append, putI_length]); have HX12 := Lib.hid (HX11.out.grown g12 (by intro e; injection e with e; omega)); have HD12 : Hid (Below w.heap.size w w12) := HD11.out.grown g12 HD11.out.size (fun q hq => by injection hq with hq; subst hq; exact Nat.le_trans HB2.out.size (by omega)); clear h12 g12)
      have hzl12 : z12.length ≤ 29 + 60003 * 5 := by rw [HL12.out]; omega
      have hzg12 : 28 ≤ z12.length := by rw [HL12.out, ← HZ11.out, List.length_append, HL8.out, HL7.out]; omega
      obtain ⟨A0, n0, c0, hbk0, how0, hrg0, hB0⟩ := HW12.out
      have hn0 : (z12).length = n0 := by have := how0.1; rw [bvals_length] at this; omega
      have hm0 : 3 ≤ n0 ∧ n0 ≤ 900000 := by
        rw [← hn0]
        omega
      have hn1 := hm0.1
      have hn2 := hm0.2
      have HN := Lib.hid hn0
      have HBK := Lib.hid hbk0
      have HOW := Lib.hid how0
      have HRG := Lib.hid hrg0
      have HBL : Hid (Below w.heap.size w w12) := HD12.out
      have sm : IntKind.i64.wrap ((n0 : Int) + 4) = (n0 : Int) + 4 := by
        simp only [IntKind.wrap, IntKind.signed, IntKind.bits]
        simp
        omega
      have E2 : Hid ((2 : Int) = ((2 : Nat) : Int)) := rfl
      have E4 : Hid ((4 : Int) = ((4 : Nat) : Int)) := rfl
      have hc0 : w12.drew.cell? ⟨w2.heap.size + 1, 0, none⟩ = some (.slice A0 n0 c0) := hbk0.cell 0
      clear hn0 hm0 hbk0 how0 hrg0
      go_wp2_with fail
      go_region_held3 (fun w' => w'.cell? ⟨w2.heap.size + 1, 0, none⟩ = some (.slice A0 n0 c0)) (first | exact hc0 | exact k8 | exact k9)
        (first
        | (go_at_call 39; refine (put_q none 0 0 [] _ 2 2 _ (breads_nil _ _) (by omega) E2.out (by omega)).mono ?_; rintro e w' ⟨A8, c8, w8, rfl, rfl, ho8, hr8, hc8, b8⟩; simp only [Nat.zero_add, List.nil_append] at hr8; have k8 := cell_keep hc0 b8; obtain ⟨w9, hrun, ho9, hg9⟩ := copy_own w8 3 (c2 := c8) (own_below (own_below HOW.out (Below.refl _ _).drew) b8) hr8 (by omega) (by omega); have k9 : w9.cell? ⟨w2.heap.size + 1, 0, none⟩ = some (.slice A0 n0 c0) := ((HBK.out.drew.below b8 (HBK.out.lt)).grown hg9 (fun e => own_blk_ne (own_below (own_below HOW.out (Below.refl _ _).drew) b8) (HBK.out.drew.below b8 (HBK.out.lt)) (by decide) e.symm)).cell 0; have HRUN := Lib.hid hrun; have HO9 := Lib.hid ho9; have HG9 := Lib.hid hg9; have HB8 := Lib.hid b8; clear hrun ho9 hg9 ho8 hr8 hc8 b8)
        | (refine step_copy_run rfl (.tmp 137) (.tmp 144) _ _ rfl _ _ rfl rfl HRUN.out ?_))
      obtain ⟨hd, hhd⟩ : ∃ hd, putI ((n0 : Int) + 4) 2 ++ (z12).drop 2 = hd := ⟨_, rfl⟩
      have HHD := Lib.hid hhd
      rw [hhd] at HO9
      have HRH : Hid (∀ z, z ∈ hd → 0 ≤ z ∧ z < 256) := by
        rw [← hhd]
        exact range_app (putI_range _ _) (fun z hz => HRG.out z (List.mem_of_mem_drop hz))
      clear hhd
      obtain ⟨A0', c0', e0, hcc, hrd9⟩ := own_breads HO9.out HRH.out
      injection e0 with e1 e2 e3
      subst e1
      subst e3
      have HRD := Lib.hid hrd9
      have HAR : Hid (0 ≤ addI 0 hd ∧ addI 0 hd < 4294967296) := addI_range 0 hd (by omega) HRH.out
      obtain ⟨a0, a1⟩ := HAR.out
      have HWR : Hid (IntKind.i64.wrap (addI 0 hd) = addI 0 hd) := by
        unfold Hid
        simp only [IntKind.wrap, IntKind.signed, IntKind.bits]
        simp
        omega
      have hc9 : w9.drew.cell? ⟨w2.heap.size + 1, 0, none⟩ = some (.slice A0 n0 c0) := k9
      clear hrd9 hcc
      go_wp2_with fail
      go_region_held3 (fun w' => w'.cell? ⟨w2.heap.size + 1, 0, none⟩ = some (.slice A0 n0 c0)) (first | exact hc9 | exact k10)
        (first
        | (go_at_call 40; refine (of_any _ _ _ _ _ (HRD.out.below (Below.refl _ _).drew)).mono ?_; rintro e w' ⟨rfl, rfl⟩)
        | (go_at_call 39; refine (put_q _ _ _ _ _ 4 4 _ (HRD.out.below (Below.refl _ _).drew) (by omega) E4.out (by omega)).mono ?_; rintro e w' ⟨A10, c10, w10, rfl, rfl, ho10, hr10, hc10, b10⟩; have k10 := cell_keep hc9 b10; rw [HWR.out] at ho10 hr10; have HO10 := Lib.hid ho10; have HR10 := Lib.hid hr10; have HC10 := Lib.hid hc10; have HB10 := Lib.hid b10; clear ho10 hr10 hc10 b10))
      go_wp2
      go_ret2
      have hF : hd = headI 4 (replyI sl q sh sq wk ep xs en) := by
        rw [← HHD.out, ← HN.out]
        unfold headI
        have e1 := HZ12.out
        rw [← HZ11.out, ← HZ8.out, ← HZ7.out] at e1
        have e2 : (replyI sl q sh sq wk ep xs en).length + 7 = z12.length + 4 := by
          rw [← e1]
          unfold replyI
          simp only [List.length_append, List.length_cons, List.length_nil, putI_length]
          omega
        rw [show ((z12.length : Int) + 4) = (((replyI sl q sh sq wk ep xs en).length : Int) + 7) by omega, ← e1]
        unfold replyI
        rw [HXL.out]
        simp only [List.append_assoc, List.cons_append, List.nil_append, List.drop_succ_cons, List.drop_zero]
      unfold frameI
      rw [← hF]
      exact enc_ok (by rw [List.length_append, putI_length, HRD.out.1]) rfl rfl (own_low HO10.out (Nat.le_trans HBL.out.size (Nat.le_trans HB8.out.size HG9.out.size))) HR10.out HC10.out ((((HBL.out.drew.trans (HB8.out.mono HBL.out.size)).grown HG9.out (Nat.le_trans HBL.out.size HB8.out.size) (fun q hq => (HOW.out.lt q hq).1)).drew).trans (HB10.out.mono (Nat.le_trans HBL.out.size (Nat.le_trans HB8.out.size HG9.out.size))))
set_option maxHeartbeats 1000000 in
theorem encno_reply (sl q sh sq wk ep : Int) (A : Option Addr) (n c : Nat) (en : Bool) (xs : List (Int × ByteArray)) (w : World) (hx : XReads w A n xs) (hs : Small 60000 xs) (h : replyB sl q sh sq wk ep xs = false) :
    Calls Try.prog 14 #[.iface 32 (.agg #[.int .i64 sl, .int .i64 q, .int .i64 sh, .int .i64 sq, .int .i64 wk, .int .i64 ep, .slice A n c, .bool en])] w (EncNo w) := by
  have HM := Lib.hid h
  have HXR := Lib.hid hx
  have HS2 : Hid (Small 1000000 xs) := fun x hx => Nat.le_trans (hs x hx) (by omega)
  clear h hx hs
  go_enter Try.func14, Try.ntmps14
  go_wp2_with (go_at_call 19; (with_reducible refine (may_reply sl q sh sq wk ep A n c en xs _ HXR.out HS2.out).mono ?_); rintro e w' ⟨w1, rfl, rfl, b1⟩; rw [HM.out])
  go_ret2
  exact ⟨_, rfl, rfl, b1⟩
set_option maxHeartbeats 1000000 in
theorem encno_int (x : Int) (w : World) :
    Calls Try.prog 14 #[.iface 3 (.int .i64 x)] w (EncNo w) := by
  go_enter Try.func14, Try.ntmps14
  go_wp2_with (go_at_call 19; (with_reducible refine (may_int x _).mono ?_); rintro e w' ⟨w1, rfl, rfl, b1⟩)
  go_ret2
  exact ⟨_, rfl, rfl, b1⟩
end Go.Proofs.Ytajhkjikcgfhdaa
