/-
  Encode of a grant.
-/
import Derived.Test.YtajhkjikcgfhdaaEnc0
namespace Go.Proofs.Ytajhkjikcgfhdaa
set_option linter.unusedVariables false
set_option linter.unusedSimpArgs false
set_option maxRecDepth 20000
open Go.RowKit
set_option maxHeartbeats 4000000 in
theorem enc_grant (gw gl ge : Int) (w : World) (h : grantB gw gl ge = true) :
    Calls Try.prog 14 #[.iface 25 (.agg #[.int .i64 gw, .int .i64 gl, .int .i64 ge])] w (EncOk w (frameI 2 (grantI gw gl ge))) := by
  have f_hello := as_grant_hello
  have f_grant := as_grant_grant
  have HM := Lib.hid h
  clear h
  go_enter Try.func14, Try.ntmps14
  go_wp2_with (first
    | (go_at_call 19; (with_reducible refine (may_grant gw gl ge _).mono ?_); rintro e w' ⟨w1, rfl, rfl, b1⟩; rw [HM.out])
    | (go_at_call 21; (with_reducible refine (kind_grant gw gl ge _).mono ?_); rintro e w' ⟨w2, rfl, rfl, b2⟩; have HB2 := Lib.hid (bel2 b1 b2); clear b1 b2; have HW0 : Hid (Wr ((((w2.alloc (.cells #[.int .u8 0, .int .u8 0, .int .u8 2] 5)).alloc (.cells #[.slice (some ⟨w2.heap.size, 0, none⟩) 3 3] 74)).alloc (.cells #[.int .i64 gw, .int .i64 gl, .int .i64 ge] 25)).alloc (.cells #[.int .i64 gw, .int .i64 gl, .int .i64 ge] 3)) (w2.heap.size + 1) w.heap.size [0, 0, 2]) := ((wr_start w2 w.heap.size 2 HB2.out.size (by omega)).below (bel_alloc _ _)).below (bel_alloc _ _); have HN0 : Hid (NReads ((((w2.alloc (.cells #[.int .u8 0, .int .u8 0, .int .u8 2] 5)).alloc (.cells #[.slice (some ⟨w2.heap.size, 0, none⟩) 3 3] 74)).alloc (.cells #[.int .i64 gw, .int .i64 gl, .int .i64 ge] 25)).alloc (.cells #[.int .i64 gw, .int .i64 gl, .int .i64 ge] 3)) (some ⟨w2.heap.size + 3, 0, none⟩) 3 [gw, gl, ge]) := (by have h3 := nreads3 (((w2.alloc (.cells #[.int .u8 0, .int .u8 0, .int .u8 2] 5)).alloc (.cells #[.slice (some ⟨w2.heap.size, 0, none⟩) 3 3] 74)).alloc (.cells #[.int .i64 gw, .int .i64 gl, .int .i64 ge] 25)) gw gl ge 3; rwa [show (((w2.alloc (.cells #[.int .u8 0, .int .u8 0, .int .u8 2] 5)).alloc (.cells #[.slice (some ⟨w2.heap.size, 0, none⟩) 3 3] 74)).alloc (.cells #[.int .i64 gw, .int .i64 gl, .int .i64 ge] 25)).heap.size = w2.heap.size + 3 by simp] at h3))
    | (go_at_call 34; (with_reducible refine (wnums_any (w2.heap.size + 1) w.heap.size [0, 0, 2] (some ⟨w2.heap.size + 3, 0, none⟩) 3 3 [gw, gl, ge] _ HW0.out (by decide) HN0.out (by omega) (by intro ad e; injection e with e; subst e; simp)).mono ?_); rintro e w' ⟨w7, rfl, rfl, h7, g7⟩; have HW1 := Lib.hid h7; have HG7 := Lib.hid g7; clear h7 g7))
  obtain ⟨A0, n0, c0, hbk0, how0, hrg0, hB0⟩ := HW1.out
  have hn0 : ([0, 0, 2] ++ foursI [gw, gl, ge]).length = n0 := by have := how0.1; rw [bvals_length] at this; omega
  have hm0 : 3 ≤ n0 ∧ n0 ≤ 900000 := by
    rw [← hn0]
    rw [List.length_append, foursI_length]
    simp
  have hn1 := hm0.1
  have hn2 := hm0.2
  have HN := Lib.hid hn0
  have HBK := Lib.hid hbk0
  have HOW := Lib.hid how0
  have HRG := Lib.hid hrg0
  have HBL : Hid (Below w.heap.size w w7) := (((((HB2.out.alloc HB2.out.size _).alloc (Nat.le_trans HB2.out.size (by simp <;> omega)) _).alloc (Nat.le_trans HB2.out.size (by simp <;> omega)) _).alloc (Nat.le_trans HB2.out.size (by simp <;> omega)) _).grown HG7.out (Nat.le_trans HB2.out.size (by simp <;> omega)) (fun q hq => by injection hq with hq; subst hq; exact Nat.le_trans HB2.out.size (by omega)))
  have sm : IntKind.i64.wrap ((n0 : Int) + 4) = (n0 : Int) + 4 := by
    simp only [IntKind.wrap, IntKind.signed, IntKind.bits]
    simp
    omega
  have E2 : Hid ((2 : Int) = ((2 : Nat) : Int)) := rfl
  have E4 : Hid ((4 : Int) = ((4 : Nat) : Int)) := rfl
  have hc0 : w7.drew.cell? ⟨w2.heap.size + 1, 0, none⟩ = some (.slice A0 n0 c0) := hbk0.cell 0
  clear hn0 hm0 hbk0 how0 hrg0
  go_wp2_with fail
  go_region_held3 (fun w' => w'.cell? ⟨w2.heap.size + 1, 0, none⟩ = some (.slice A0 n0 c0)) (first | exact hc0 | exact k8 | exact k9)
    (first
    | (go_at_call 39; refine (put_q none 0 0 [] _ 2 2 _ (breads_nil _ _) (by omega) E2.out (by omega)).mono ?_; rintro e w' ⟨A8, c8, w8, rfl, rfl, ho8, hr8, hc8, b8⟩; simp only [Nat.zero_add, List.nil_append] at hr8; have k8 := cell_keep hc0 b8; obtain ⟨w9, hrun, ho9, hg9⟩ := copy_own w8 3 (c2 := c8) (own_below (own_below HOW.out (Below.refl _ _).drew) b8) hr8 (by omega) (by omega); have k9 : w9.cell? ⟨w2.heap.size + 1, 0, none⟩ = some (.slice A0 n0 c0) := ((HBK.out.drew.below b8 (HBK.out.lt)).grown hg9 (fun e => own_blk_ne (own_below (own_below HOW.out (Below.refl _ _).drew) b8) (HBK.out.drew.below b8 (HBK.out.lt)) (by decide) e.symm)).cell 0; have HRUN := Lib.hid hrun; have HO9 := Lib.hid ho9; have HG9 := Lib.hid hg9; have HB8 := Lib.hid b8; clear hrun ho9 hg9 ho8 hr8 hc8 b8)
    | (refine step_copy_run rfl (.tmp 137) (.tmp 144) _ _ rfl _ _ rfl rfl HRUN.out ?_))
  obtain ⟨hd, hhd⟩ : ∃ hd, putI ((n0 : Int) + 4) 2 ++ ([0, 0, 2] ++ foursI [gw, gl, ge]).drop 2 = hd := ⟨_, rfl⟩
  have HHD := Lib.hid hhd
  rw [hhd] at HO9
  have HRH : Hid (∀ z, z ∈ hd → 0 ≤ z ∧ z < 256) := by
    rw [← hhd]
    exact range_app (putI_range _ _) (fun z hz => HRG.out z (List.mem_of_mem_drop hz))
  clear hhd
  obtain ⟨A0', c0', e0, hcc, hrd9⟩ := own_breads HO9.out HRH.out
  injection e0 with e1 e2 e3
  subst e1
  subst e3
  have HRD := Lib.hid hrd9
  have HAR : Hid (0 ≤ addI 0 hd ∧ addI 0 hd < 4294967296) := addI_range 0 hd (by omega) HRH.out
  obtain ⟨a0, a1⟩ := HAR.out
  have HWR : Hid (IntKind.i64.wrap (addI 0 hd) = addI 0 hd) := by
    unfold Hid
    simp only [IntKind.wrap, IntKind.signed, IntKind.bits]
    simp
    omega
  have hc9 : w9.drew.cell? ⟨w2.heap.size + 1, 0, none⟩ = some (.slice A0 n0 c0) := k9
  clear hrd9 hcc
  go_wp2_with fail
  go_region_held3 (fun w' => w'.cell? ⟨w2.heap.size + 1, 0, none⟩ = some (.slice A0 n0 c0)) (first | exact hc9 | exact k10)
    (first
    | (go_at_call 40; refine (of_any _ _ _ _ _ (HRD.out.below (Below.refl _ _).drew)).mono ?_; rintro e w' ⟨rfl, rfl⟩)
    | (go_at_call 39; refine (put_q _ _ _ _ _ 4 4 _ (HRD.out.below (Below.refl _ _).drew) (by omega) E4.out (by omega)).mono ?_; rintro e w' ⟨A10, c10, w10, rfl, rfl, ho10, hr10, hc10, b10⟩; have k10 := cell_keep hc9 b10; rw [HWR.out] at ho10 hr10; have HO10 := Lib.hid ho10; have HR10 := Lib.hid hr10; have HC10 := Lib.hid hc10; have HB10 := Lib.hid b10; clear ho10 hr10 hc10 b10))
  go_wp2
  go_ret2
  have hF : hd = headI 2 (grantI gw gl ge) := by
    rw [← HHD.out, ← HN.out]
    unfold headI
    unfold grantI
    rw [List.length_append, foursI_length]
    rfl
  unfold frameI
  rw [← hF]
  exact enc_ok (by rw [List.length_append, putI_length, HRD.out.1]) rfl rfl (own_low HO10.out (Nat.le_trans HBL.out.size (Nat.le_trans HB8.out.size HG9.out.size))) HR10.out HC10.out ((((HBL.out.drew.trans (HB8.out.mono HBL.out.size)).grown HG9.out (Nat.le_trans HBL.out.size HB8.out.size) (fun q hq => (HOW.out.lt q hq).1)).drew).trans (HB10.out.mono (Nat.le_trans HBL.out.size (Nat.le_trans HB8.out.size HG9.out.size))))
set_option maxHeartbeats 1000000 in
theorem encno_grant (gw gl ge : Int) (w : World) (h : grantB gw gl ge = false) :
    Calls Try.prog 14 #[.iface 25 (.agg #[.int .i64 gw, .int .i64 gl, .int .i64 ge])] w (EncNo w) := by
  have HM := Lib.hid h
  clear h
  go_enter Try.func14, Try.ntmps14
  go_wp2_with (go_at_call 19; (with_reducible refine (may_grant gw gl ge _).mono ?_); rintro e w' ⟨w1, rfl, rfl, b1⟩; rw [HM.out])
  go_ret2
  exact ⟨_, rfl, rfl, b1⟩
end Go.Proofs.Ytajhkjikcgfhdaa
