/-
  The walk of MsgBack.
-/
import Derived.Test.YtajhkjikcgfhdaaGreat
namespace Go.Proofs.Ytajhkjikcgfhdaa
set_option linter.unusedVariables false
set_option linter.unusedSimpArgs false
set_option maxRecDepth 20000
open Go.RowKit
set_option maxHeartbeats 4000000 in
theorem msgBack_great (kind : Int) (hw hl gw gl ge : Int) (al aq ah as_ ae : Int) (t : ByteArray) (ak ab : Int) (af : Bool) (ad : Int) (s : ByteArray) (sl q sh sq wk ep : Int) (A : Option Addr) (n c : Nat) (en : Bool) (xs : List (Int × ByteArray)) (ss sq2 : Int) (w : World) (hx : n ≤ 80 → XReads w A n xs) (hn : n ≤ 9223372036854775807) (hg : greatR t s n xs = true) :
    Calls Try.prog 5 #[.int .i64 kind, .agg #[.int .i64 hw, .int .i64 hl], .agg #[.int .i64 gw, .int .i64 gl, .int .i64 ge], .agg #[.int .i64 al, .int .i64 aq, .int .i64 ah, .int .i64 as_, .int .i64 ae, .string t, .int .i64 ak, .int .i64 ab, .bool af, .int .i64 ad, .string s], .agg #[.int .i64 sl, .int .i64 q, .int .i64 sh, .int .i64 sq, .int .i64 wk, .int .i64 ep, .slice A n c, .bool en], .agg #[.int .i64 ss, .int .i64 sq2]] w (Gives w (.bool true)) := by
  have HX : Hid (n ≤ 80 → XReads (((((w.alloc (.cells #[.int .i64 hw, .int .i64 hl] 23)).alloc (.cells #[.int .i64 gw, .int .i64 gl, .int .i64 ge] 25)).alloc (.cells #[.int .i64 al, .int .i64 aq, .int .i64 ah, .int .i64 as_, .int .i64 ae, .string t, .int .i64 ak, .int .i64 ab, .bool af, .int .i64 ad, .string s] 29)).alloc (.cells #[.int .i64 sl, .int .i64 q, .int .i64 sh, .int .i64 sq, .int .i64 wk, .int .i64 ep, .slice A n c, .bool en] 32)).alloc (.cells #[.int .i64 ss, .int .i64 sq2] 34)) A n xs) := fun h => (hx h).below (bel_five _ _ _ _ _ _)
  have HB5 : Hid (Below w.heap.size w (((((w.alloc (.cells #[.int .i64 hw, .int .i64 hl] 23)).alloc (.cells #[.int .i64 gw, .int .i64 gl, .int .i64 ge] 25)).alloc (.cells #[.int .i64 al, .int .i64 aq, .int .i64 ah, .int .i64 as_, .int .i64 ae, .string t, .int .i64 ak, .int .i64 ab, .bool af, .int .i64 ad, .string s] 29)).alloc (.cells #[.int .i64 sl, .int .i64 q, .int .i64 sh, .int .i64 sq, .int .i64 wk, .int .i64 ep, .slice A n c, .bool en] 32)).alloc (.cells #[.int .i64 ss, .int .i64 sq2] 34))) := bel_five _ _ _ _ _ _
  have HG := Lib.hid hg
  clear hx hg
  go_enter Try.func5, Try.ntmps5
  go_wp2_with (first
    | (go_at_call 10; (with_reducible refine (great_all al aq ah as_ ae t ak ab af ad s sl q sh sq wk ep A n c en xs _ HX.out hn).mono ?_); rintro e w' ⟨w1, rfl, rfl, b1⟩; rw [HG.out])
    | (go_at_call 11; (with_reducible refine (awake_any _).mono ?_); rintro e w' ⟨w9, rfl, rfl, b9⟩))
  go_ret
  exact ⟨_, rfl, rfl, bel3 (bel3 HB5.out b1) b9⟩
set_option maxHeartbeats 8000000 in
theorem msgBack_yes (kind : Int) (hw hl gw gl ge : Int) (al aq ah as_ ae : Int) (t : ByteArray) (ak ab : Int) (af : Bool) (ad : Int) (s : ByteArray) (sl q sh sq wk ep : Int) (A : Option Addr) (n c : Nat) (en : Bool) (xs : List (Int × ByteArray)) (ss sq2 : Int) (w : World) (hx : n ≤ 80 → XReads w A n xs) (hn : n ≤ 9223372036854775807) (hg : greatR t s n xs = false) (hm : mayM (oneM kind hw hl gw gl ge al aq ah as_ ae t ak ab af ad s sl q sh sq wk ep xs en ss sq2) = true) :
    Calls Try.prog 5 #[.int .i64 kind, .agg #[.int .i64 hw, .int .i64 hl], .agg #[.int .i64 gw, .int .i64 gl, .int .i64 ge], .agg #[.int .i64 al, .int .i64 aq, .int .i64 ah, .int .i64 as_, .int .i64 ae, .string t, .int .i64 ak, .int .i64 ab, .bool af, .int .i64 ad, .string s], .agg #[.int .i64 sl, .int .i64 q, .int .i64 sh, .int .i64 sq, .int .i64 wk, .int .i64 ep, .slice A n c, .bool en], .agg #[.int .i64 ss, .int .i64 sq2]] w (Gives w (.bool true)) := by
  obtain ⟨n80, ht, hs, _, hsm⟩ := greatR_no hg
  have HX : Hid (n ≤ 80 → XReads (((((w.alloc (.cells #[.int .i64 hw, .int .i64 hl] 23)).alloc (.cells #[.int .i64 gw, .int .i64 gl, .int .i64 ge] 25)).alloc (.cells #[.int .i64 al, .int .i64 aq, .int .i64 ah, .int .i64 as_, .int .i64 ae, .string t, .int .i64 ak, .int .i64 ab, .bool af, .int .i64 ad, .string s] 29)).alloc (.cells #[.int .i64 sl, .int .i64 q, .int .i64 sh, .int .i64 sq, .int .i64 wk, .int .i64 ep, .slice A n c, .bool en] 32)).alloc (.cells #[.int .i64 ss, .int .i64 sq2] 34)) A n xs) := fun h => (hx h).below (bel_five _ _ _ _ _ _)
  have HB5 : Hid (Below w.heap.size w (((((w.alloc (.cells #[.int .i64 hw, .int .i64 hl] 23)).alloc (.cells #[.int .i64 gw, .int .i64 gl, .int .i64 ge] 25)).alloc (.cells #[.int .i64 al, .int .i64 aq, .int .i64 ah, .int .i64 as_, .int .i64 ae, .string t, .int .i64 ak, .int .i64 ab, .bool af, .int .i64 ad, .string s] 29)).alloc (.cells #[.int .i64 sl, .int .i64 q, .int .i64 sh, .int .i64 sq, .int .i64 wk, .int .i64 ep, .slice A n c, .bool en] 32)).alloc (.cells #[.int .i64 ss, .int .i64 sq2] 34))) := bel_five _ _ _ _ _ _
  obtain ⟨m, hmm⟩ : ∃ m, (oneM kind hw hl gw gl ge al aq ah as_ ae t ak ab af ad s sl q sh sq wk ep xs en ss sq2) = m := ⟨_, rfl⟩
  have HS : Hid (SmallM 60000 m) := by
    rw [← hmm]
    exact oneM_small _ _ _ _ _ _ _ _ _ _ _ _ _ _ _ _ _ _ _ _ _ _ _ _ _ _ _ (by omega) (by omega) (fun x hx => Nat.le_trans (hsm x hx) (by omega))
  rw [hmm] at hm
  have HXX := Lib.hid (hx n80)
  have HM := Lib.hid hm
  have HMM := Lib.hid hmm
  have HG := Lib.hid hg
  have HL2 : Hid ((frameM m).length ≤ 1024) := by
    unfold Hid
    rw [frameM_length]
    have := bodyM_length m hm
    omega
  obtain ⟨L, hL⟩ : ∃ L, (frameM m).length = L := ⟨_, rfl⟩
  have HL := Lib.hid hL
  have hL1024 : L ≤ 1024 := hL ▸ HL2.out
  have HSELF := Lib.hid (same_self hm)
  clear hL
  clear hx hg hm hmm hsm
  go_enter Try.func5, Try.ntmps5
  go_wp2_with (first
    | (go_at_call 10; (with_reducible refine (great_all al aq ah as_ ae t ak ab af ad s sl q sh sq wk ep A n c en xs _ HX.out hn).mono ?_); rintro e w' ⟨w1, rfl, rfl, b1⟩; rw [HG.out]; have HB1 := Lib.hid (bel3 HB5.out b1); have HX1 := Lib.hid (HXX.out.below HB1.out); obtain ⟨K0, K1, K2, K3, K4⟩ := five_keep _ _ _ _ _ _ _ _ _ _ _ _ b1; have cw1_0_0 : w1.cell? ⟨w.heap.size, 0, none⟩ = some (.int .i64 hw) := (K0.cell 0).trans rfl; have cw1_0_1 : w1.cell? ⟨w.heap.size, 1, none⟩ = some (.int .i64 hl) := (K0.cell 1).trans rfl; have cw1_1_0 : w1.cell? ⟨w.heap.size + 1, 0, none⟩ = some (.int .i64 gw) := (K1.cell 0).trans rfl; have cw1_1_1 : w1.cell? ⟨w.heap.size + 1, 1, none⟩ = some (.int .i64 gl) := (K1.cell 1).trans rfl; have cw1_1_2 : w1.cell? ⟨w.heap.size + 1, 2, none⟩ = some (.int .i64 ge) := (K1.cell 2).trans rfl; have cw1_2_0 : w1.cell? ⟨w.heap.size + 2, 0, none⟩ = some (.int .i64 al) := (K2.cell 0).trans rfl; have cw1_2_1 : w1.cell? ⟨w.heap.size + 2, 1, none⟩ = some (.int .i64 aq) := (K2.cell 1).trans rfl; have cw1_2_2 : w1.cell? ⟨w.heap.size + 2, 2, none⟩ = some (.int .i64 ah) := (K2.cell 2).trans rfl; have cw1_2_3 : w1.cell? ⟨w.heap.size + 2, 3, none⟩ = some (.int .i64 as_) := (K2.cell 3).trans rfl; have cw1_2_4 : w1.cell? ⟨w.heap.size + 2, 4, none⟩ = some (.int .i64 ae) := (K2.cell 4).trans rfl; have cw1_2_5 : w1.cell? ⟨w.heap.size + 2, 5, none⟩ = some (.string t) := (K2.cell 5).trans rfl; have cw1_2_6 : w1.cell? ⟨w.heap.size + 2, 6, none⟩ = some (.int .i64 ak) := (K2.cell 6).trans rfl; have cw1_2_7 : w1.cell? ⟨w.heap.size + 2, 7, none⟩ = some (.int .i64 ab) := (K2.cell 7).trans rfl; have cw1_2_8 : w1.cell? ⟨w.heap.size + 2, 8, none⟩ = some (.bool af) := (K2.cell 8).trans rfl; have cw1_2_9 : w1.cell? ⟨w.heap.size + 2, 9, none⟩ = some (.int .i64 ad) := (K2.cell 9).trans rfl; have cw1_2_10 : w1.cell? ⟨w.heap.size + 2, 10, none⟩ = some (.string s) := (K2.cell 10).trans rfl; have cw1_3_0 : w1.cell? ⟨w.heap.size + 3, 0, none⟩ = some (.int .i64 sl) := (K3.cell 0).trans rfl; have cw1_3_1 : w1.cell? ⟨w.heap.size + 3, 1, none⟩ = some (.int .i64 q) := (K3.cell 1).trans rfl; have cw1_3_2 : w1.cell? ⟨w.heap.size + 3, 2, none⟩ = some (.int .i64 sh) := (K3.cell 2).trans rfl; have cw1_3_3 : w1.cell? ⟨w.heap.size + 3, 3, none⟩ = some (.int .i64 sq) := (K3.cell 3).trans rfl; have cw1_3_4 : w1.cell? ⟨w.heap.size + 3, 4, none⟩ = some (.int .i64 wk) := (K3.cell 4).trans rfl; have cw1_3_5 : w1.cell? ⟨w.heap.size + 3, 5, none⟩ = some (.int .i64 ep) := (K3.cell 5).trans rfl; have cw1_3_6 : w1.cell? ⟨w.heap.size + 3, 6, none⟩ = some (.slice A n c) := (K3.cell 6).trans rfl; have cw1_3_7 : w1.cell? ⟨w.heap.size + 3, 7, none⟩ = some (.bool en) := (K3.cell 7).trans rfl; have cw1_4_0 : w1.cell? ⟨w.heap.size + 4, 0, none⟩ = some (.int .i64 ss) := (K4.cell 0).trans rfl; have cw1_4_1 : w1.cell? ⟨w.heap.size + 4, 1, none⟩ = some (.int .i64 sq2) := (K4.cell 1).trans rfl; clear K0 K1 K2 K3 K4; clear b1)
    | (go_at_call 13; (with_reducible refine (oneM_any kind hw hl gw gl ge al aq ah as_ ae t ak ab af ad s sl q sh sq wk ep A n c xs en ss sq2 _ HX1.out).mono ?_); rintro e w' ⟨v, w2, rfl, rfl, mv, b2⟩; rw [HMM.out] at mv; have HV := Lib.hid mv; have HB2 := Lib.hid b2; clear mv b2; clear cw1_0_0 cw1_0_1 cw1_1_0 cw1_1_1 cw1_1_2 cw1_2_0 cw1_2_1 cw1_2_2 cw1_2_3 cw1_2_4 cw1_2_5 cw1_2_6 cw1_2_7 cw1_2_8 cw1_2_9 cw1_2_10 cw1_3_0 cw1_3_1 cw1_3_2 cw1_3_3 cw1_3_4 cw1_3_5 cw1_3_6 cw1_3_7 cw1_4_0 cw1_4_1)
    | (go_at_call 14; (with_reducible refine (enc_len v m L w2 HV.out HS.out HM.out HL.out).mono ?_); rintro e w' ⟨A3, c3, w3, rfl, rfl, ho, hr, hc, hcm, hb⟩; have HR3 := Lib.hid hr; have HB3 := Lib.hid hb; clear ho hr hb)
    | (go_at_call 25; (with_reducible refine (decode_frame A3 L c3 m w3 HR3.out hc hcm HM.out).mono ?_); rintro e w' ⟨v4, w4, rfl, rfl, mv4, sm4, hb4⟩; have HV4 := Lib.hid mv4; have HB4 := Lib.hid hb4; clear mv4 sm4 hb4)
    | (go_at_call 14; (with_reducible refine (enc_len v4 m L w4 HV4.out HS.out HM.out HL.out).mono ?_); rintro e w' ⟨A5, c5, w5, rfl, rfl, ho, hr, hc5, hcm5, hb⟩; have HR5 := Lib.hid hr; have HB5x := Lib.hid hb; have HV5 := Lib.hid (HV4.out.below hb); have HVO := Lib.hid (((HV.out.below HB3.out).below HB4.out).below hb); have HRO := Lib.hid ((HR3.out.below HB4.out).below hb); clear ho hr hb)
    | (go_at_call 27; (with_reducible refine (same_m v4 v m m w5 HV5.out HVO.out).mono ?_); rintro e w' ⟨w6, rfl, rfl, hb⟩; rw [HSELF.out]; have HB6 := Lib.hid hb; have HR6 := Lib.hid (HR5.out.below hb); have HRO6 := Lib.hid (HRO.out.below hb); have HV6 := Lib.hid (HV5.out.below hb); clear hb)
    | (go_at_call 17; (with_reducible refine (same_any _ _ _ _ _ _ _ _ _ HR6.out HRO6.out).mono ?_); rintro e w' ⟨rfl, qq, rfl⟩; rw [show decide (frameM m = frameM m) = true from decide_eq_true rfl]; have HV7 := Lib.hid (HV6.out.below (below_drewN (Below.refl _ w6) qq)))
    | (go_at_call 19; (with_reducible refine (may_m v4 m _ HV7.out HS.out).mono ?_); rintro e w' ⟨w8, rfl, rfl, hb⟩; rw [HM.out]; have HB8 := Lib.hid hb; clear hb)
    | (go_at_call 11; (with_reducible refine (awake_any w8).mono ?_); rintro e w' ⟨w9, rfl, rfl, hb⟩; have HB9 := Lib.hid hb; clear hb))
  go_ret
  exact ⟨_, rfl, rfl, bel3 (bel3 (below_drewN (bel3 (bel3 (bel3 (bel3 (bel3 HB1.out HB2.out) HB3.out) HB4.out) HB5x.out) HB6.out) qq) HB8.out) HB9.out⟩
set_option maxHeartbeats 8000000 in
theorem msgBack_no (kind : Int) (hw hl gw gl ge : Int) (al aq ah as_ ae : Int) (t : ByteArray) (ak ab : Int) (af : Bool) (ad : Int) (s : ByteArray) (sl q sh sq wk ep : Int) (A : Option Addr) (n c : Nat) (en : Bool) (xs : List (Int × ByteArray)) (ss sq2 : Int) (w : World) (hx : n ≤ 80 → XReads w A n xs) (hn : n ≤ 9223372036854775807) (hg : greatR t s n xs = false) (hm : mayM (oneM kind hw hl gw gl ge al aq ah as_ ae t ak ab af ad s sl q sh sq wk ep xs en ss sq2) = false) :
    Calls Try.prog 5 #[.int .i64 kind, .agg #[.int .i64 hw, .int .i64 hl], .agg #[.int .i64 gw, .int .i64 gl, .int .i64 ge], .agg #[.int .i64 al, .int .i64 aq, .int .i64 ah, .int .i64 as_, .int .i64 ae, .string t, .int .i64 ak, .int .i64 ab, .bool af, .int .i64 ad, .string s], .agg #[.int .i64 sl, .int .i64 q, .int .i64 sh, .int .i64 sq, .int .i64 wk, .int .i64 ep, .slice A n c, .bool en], .agg #[.int .i64 ss, .int .i64 sq2]] w (Gives w (.bool true)) := by
  obtain ⟨n80, ht, hs, _, hsm⟩ := greatR_no hg
  have HX : Hid (n ≤ 80 → XReads (((((w.alloc (.cells #[.int .i64 hw, .int .i64 hl] 23)).alloc (.cells #[.int .i64 gw, .int .i64 gl, .int .i64 ge] 25)).alloc (.cells #[.int .i64 al, .int .i64 aq, .int .i64 ah, .int .i64 as_, .int .i64 ae, .string t, .int .i64 ak, .int .i64 ab, .bool af, .int .i64 ad, .string s] 29)).alloc (.cells #[.int .i64 sl, .int .i64 q, .int .i64 sh, .int .i64 sq, .int .i64 wk, .int .i64 ep, .slice A n c, .bool en] 32)).alloc (.cells #[.int .i64 ss, .int .i64 sq2] 34)) A n xs) := fun h => (hx h).below (bel_five _ _ _ _ _ _)
  have HB5 : Hid (Below w.heap.size w (((((w.alloc (.cells #[.int .i64 hw, .int .i64 hl] 23)).alloc (.cells #[.int .i64 gw, .int .i64 gl, .int .i64 ge] 25)).alloc (.cells #[.int .i64 al, .int .i64 aq, .int .i64 ah, .int .i64 as_, .int .i64 ae, .string t, .int .i64 ak, .int .i64 ab, .bool af, .int .i64 ad, .string s] 29)).alloc (.cells #[.int .i64 sl, .int .i64 q, .int .i64 sh, .int .i64 sq, .int .i64 wk, .int .i64 ep, .slice A n c, .bool en] 32)).alloc (.cells #[.int .i64 ss, .int .i64 sq2] 34))) := bel_five _ _ _ _ _ _
  obtain ⟨m, hmm⟩ : ∃ m, (oneM kind hw hl gw gl ge al aq ah as_ ae t ak ab af ad s sl q sh sq wk ep xs en ss sq2) = m := ⟨_, rfl⟩
  have HS : Hid (SmallM 60000 m) := by
    rw [← hmm]
    exact oneM_small _ _ _ _ _ _ _ _ _ _ _ _ _ _ _ _ _ _ _ _ _ _ _ _ _ _ _ (by omega) (by omega) (fun x hx => Nat.le_trans (hsm x hx) (by omega))
  rw [hmm] at hm
  have HXX := Lib.hid (hx n80)
  have HM := Lib.hid hm
  have HMM := Lib.hid hmm
  have HG := Lib.hid hg
  clear hx hg hm hmm hsm
  go_enter Try.func5, Try.ntmps5
  go_wp2_with (first
    | (go_at_call 10; (with_reducible refine (great_all al aq ah as_ ae t ak ab af ad s sl q sh sq wk ep A n c en xs _ HX.out hn).mono ?_); rintro e w' ⟨w1, rfl, rfl, b1⟩; rw [HG.out]; have HB1 := Lib.hid (bel3 HB5.out b1); have HX1 := Lib.hid (HXX.out.below HB1.out); obtain ⟨K0, K1, K2, K3, K4⟩ := five_keep _ _ _ _ _ _ _ _ _ _ _ _ b1; have cw1_0_0 : w1.cell? ⟨w.heap.size, 0, none⟩ = some (.int .i64 hw) := (K0.cell 0).trans rfl; have cw1_0_1 : w1.cell? ⟨w.heap.size, 1, none⟩ = some (.int .i64 hl) := (K0.cell 1).trans rfl; have cw1_1_0 : w1.cell? ⟨w.heap.size + 1, 0, none⟩ = some (.int .i64 gw) := (K1.cell 0).trans rfl; have cw1_1_1 : w1.cell? ⟨w.heap.size + 1, 1, none⟩ = some (.int .i64 gl) := (K1.cell 1).trans rfl; have cw1_1_2 : w1.cell? ⟨w.heap.size + 1, 2, none⟩ = some (.int .i64 ge) := (K1.cell 2).trans rfl; have cw1_2_0 : w1.cell? ⟨w.heap.size + 2, 0, none⟩ = some (.int .i64 al) := (K2.cell 0).trans rfl; have cw1_2_1 : w1.cell? ⟨w.heap.size + 2, 1, none⟩ = some (.int .i64 aq) := (K2.cell 1).trans rfl; have cw1_2_2 : w1.cell? ⟨w.heap.size + 2, 2, none⟩ = some (.int .i64 ah) := (K2.cell 2).trans rfl; have cw1_2_3 : w1.cell? ⟨w.heap.size + 2, 3, none⟩ = some (.int .i64 as_) := (K2.cell 3).trans rfl; have cw1_2_4 : w1.cell? ⟨w.heap.size + 2, 4, none⟩ = some (.int .i64 ae) := (K2.cell 4).trans rfl; have cw1_2_5 : w1.cell? ⟨w.heap.size + 2, 5, none⟩ = some (.string t) := (K2.cell 5).trans rfl; have cw1_2_6 : w1.cell? ⟨w.heap.size + 2, 6, none⟩ = some (.int .i64 ak) := (K2.cell 6).trans rfl; have cw1_2_7 : w1.cell? ⟨w.heap.size + 2, 7, none⟩ = some (.int .i64 ab) := (K2.cell 7).trans rfl; have cw1_2_8 : w1.cell? ⟨w.heap.size + 2, 8, none⟩ = some (.bool af) := (K2.cell 8).trans rfl; have cw1_2_9 : w1.cell? ⟨w.heap.size + 2, 9, none⟩ = some (.int .i64 ad) := (K2.cell 9).trans rfl; have cw1_2_10 : w1.cell? ⟨w.heap.size + 2, 10, none⟩ = some (.string s) := (K2.cell 10).trans rfl; have cw1_3_0 : w1.cell? ⟨w.heap.size + 3, 0, none⟩ = some (.int .i64 sl) := (K3.cell 0).trans rfl; have cw1_3_1 : w1.cell? ⟨w.heap.size + 3, 1, none⟩ = some (.int .i64 q) := (K3.cell 1).trans rfl; have cw1_3_2 : w1.cell? ⟨w.heap.size + 3, 2, none⟩ = some (.int .i64 sh) := (K3.cell 2).trans rfl; have cw1_3_3 : w1.cell? ⟨w.heap.size + 3, 3, none⟩ = some (.int .i64 sq) := (K3.cell 3).trans rfl; have cw1_3_4 : w1.cell? ⟨w.heap.size + 3, 4, none⟩ = some (.int .i64 wk) := (K3.cell 4).trans rfl; have cw1_3_5 : w1.cell? ⟨w.heap.size + 3, 5, none⟩ = some (.int .i64 ep) := (K3.cell 5).trans rfl; have cw1_3_6 : w1.cell? ⟨w.heap.size + 3, 6, none⟩ = some (.slice A n c) := (K3.cell 6).trans rfl; have cw1_3_7 : w1.cell? ⟨w.heap.size + 3, 7, none⟩ = some (.bool en) := (K3.cell 7).trans rfl; have cw1_4_0 : w1.cell? ⟨w.heap.size + 4, 0, none⟩ = some (.int .i64 ss) := (K4.cell 0).trans rfl; have cw1_4_1 : w1.cell? ⟨w.heap.size + 4, 1, none⟩ = some (.int .i64 sq2) := (K4.cell 1).trans rfl; clear K0 K1 K2 K3 K4; clear b1)
    | (go_at_call 13; (with_reducible refine (oneM_any kind hw hl gw gl ge al aq ah as_ ae t ak ab af ad s sl q sh sq wk ep A n c xs en ss sq2 _ HX1.out).mono ?_); rintro e w' ⟨v, w2, rfl, rfl, mv, b2⟩; rw [HMM.out] at mv; have HV := Lib.hid mv; have HB2 := Lib.hid b2; clear mv b2; clear cw1_0_0 cw1_0_1 cw1_1_0 cw1_1_1 cw1_1_2 cw1_2_0 cw1_2_1 cw1_2_2 cw1_2_3 cw1_2_4 cw1_2_5 cw1_2_6 cw1_2_7 cw1_2_8 cw1_2_9 cw1_2_10 cw1_3_0 cw1_3_1 cw1_3_2 cw1_3_3 cw1_3_4 cw1_3_5 cw1_3_6 cw1_3_7 cw1_4_0 cw1_4_1)
    | (go_at_call 14; (with_reducible refine (enc_no v m w2 HV.out HS.out HM.out).mono ?_); rintro e w' ⟨w3, rfl, rfl, hb⟩; have HB3 := Lib.hid hb; have HV3 := Lib.hid (HV.out.below hb); clear hb)
    | (go_at_call 19; (with_reducible refine (may_m v m _ HV3.out HS.out).mono ?_); rintro e w' ⟨w8, rfl, rfl, hb⟩; rw [HM.out]; have HB8 := Lib.hid hb; clear hb)
    | (go_at_call 11; (with_reducible refine (awake_any w8).mono ?_); rintro e w' ⟨w9, rfl, rfl, hb⟩; have HB9 := Lib.hid hb; clear hb))
  go_ret
  exact ⟨_, rfl, rfl, bel3 (bel3 (bel3 (bel3 HB1.out HB2.out) HB3.out) HB8.out) HB9.out⟩
theorem msgBack_walk (kind : Int) (hw hl gw gl ge : Int) (al aq ah as_ ae : Int) (t : ByteArray) (ak ab : Int) (af : Bool) (ad : Int) (s : ByteArray) (sl q sh sq wk ep : Int) (A : Option Addr) (n c : Nat) (en : Bool) (xs : List (Int × ByteArray)) (ss sq2 : Int) (w : World) (hx : n ≤ 80 → XReads w A n xs) (hn : n ≤ 9223372036854775807) :
    Calls Try.prog 5 #[.int .i64 kind, .agg #[.int .i64 hw, .int .i64 hl], .agg #[.int .i64 gw, .int .i64 gl, .int .i64 ge], .agg #[.int .i64 al, .int .i64 aq, .int .i64 ah, .int .i64 as_, .int .i64 ae, .string t, .int .i64 ak, .int .i64 ab, .bool af, .int .i64 ad, .string s], .agg #[.int .i64 sl, .int .i64 q, .int .i64 sh, .int .i64 sq, .int .i64 wk, .int .i64 ep, .slice A n c, .bool en], .agg #[.int .i64 ss, .int .i64 sq2]] w (Gives w (.bool true)) := by
  cases hg : greatR t s n xs with
  | true => exact msgBack_great _ _ _ _ _ _ _ _ _ _ _ _ _ _ _ _ _ _ _ _ _ _ _ _ _ _ _ xs _ _ w hx hn hg
  | false =>
    cases hm : mayM (oneM kind hw hl gw gl ge al aq ah as_ ae t ak ab af ad s sl q sh sq wk ep xs en ss sq2) with
    | true => exact msgBack_yes _ _ _ _ _ _ _ _ _ _ _ _ _ _ _ _ _ _ _ _ _ _ _ _ _ _ _ xs _ _ w hx hn hg hm
    | false => exact msgBack_no _ _ _ _ _ _ _ _ _ _ _ _ _ _ _ _ _ _ _ _ _ _ _ _ _ _ _ xs _ _ w hx hn hg hm
end Go.Proofs.Ytajhkjikcgfhdaa
