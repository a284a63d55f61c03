/-
  The walk of MsgTurned.
-/
import Derived.Test.YtajhkjikcgfhdaaTurned
namespace Go.Proofs.Ytajhkjikcgfhdaa
set_option linter.unusedVariables false
set_option linter.unusedSimpArgs false
set_option maxRecDepth 20000
open Go.RowKit
theorem decode_not (A : Option Addr) (n c : Nat) (zs : List Int) (e1 : Int) (w : World) (h : BReads w A n zs) (hc : n ≤ c) (hcm : c ≤ 9223372036854775807) (hd : decI zs = (e1, .none)) :
    Calls Try.prog 25 #[.slice A n c] w (Gives w (.tuple #[.nilIface, .int .i64 e1])) := by
  have := decode_any A n c zs w h hc hcm
  rw [hd] at this
  refine this.mono ?_
  rintro e w' ⟨v, W, rfl, rfl, rfl, _, hb⟩
  exact ⟨_, rfl, rfl, hb⟩
theorem lowI_mod (x : Int) (n : Nat) (h : 0 < n) (hn : n ≤ 9223372036854775807) : (IntKind.u64.wrap x).tmod (n : Int) = lowI x n := by
  have h1 : IntKind.u64.wrap x = x % 18446744073709551616 := by
    simp only [IntKind.wrap, IntKind.signed, IntKind.bits]
    simp
  rw [h1]
  unfold lowI
  rw [Int.tmod_eq_emod_of_nonneg (by omega)]
set_option maxHeartbeats 4000000 in
theorem msgTurned_great (kind : Int) (hw hl gw gl ge : Int) (al aq ah as_ ae : Int) (t : ByteArray) (ak ab : Int) (af : Bool) (ad : Int) (s : ByteArray) (sl q sh sq wk ep : Int) (A : Option Addr) (n c : Nat) (en : Bool) (xs : List (Int × ByteArray)) (ss sq2 : Int) (at_ x : Int) (w : World) (hx : n ≤ 80 → XReads w A n xs) (hn : n ≤ 9223372036854775807) (hg : greatR t s n xs = true) :
    Calls Try.prog 6 #[.int .i64 kind, .agg #[.int .i64 hw, .int .i64 hl], .agg #[.int .i64 gw, .int .i64 gl, .int .i64 ge], .agg #[.int .i64 al, .int .i64 aq, .int .i64 ah, .int .i64 as_, .int .i64 ae, .string t, .int .i64 ak, .int .i64 ab, .bool af, .int .i64 ad, .string s], .agg #[.int .i64 sl, .int .i64 q, .int .i64 sh, .int .i64 sq, .int .i64 wk, .int .i64 ep, .slice A n c, .bool en], .agg #[.int .i64 ss, .int .i64 sq2], .int .i64 at_, .int .i64 x] w (Gives w (.bool true)) := by
  have HX : Hid (n ≤ 80 → XReads (((((w.alloc (.cells #[.int .i64 hw, .int .i64 hl] 23)).alloc (.cells #[.int .i64 gw, .int .i64 gl, .int .i64 ge] 25)).alloc (.cells #[.int .i64 al, .int .i64 aq, .int .i64 ah, .int .i64 as_, .int .i64 ae, .string t, .int .i64 ak, .int .i64 ab, .bool af, .int .i64 ad, .string s] 29)).alloc (.cells #[.int .i64 sl, .int .i64 q, .int .i64 sh, .int .i64 sq, .int .i64 wk, .int .i64 ep, .slice A n c, .bool en] 32)).alloc (.cells #[.int .i64 ss, .int .i64 sq2] 34)) A n xs) := fun h => (hx h).below (bel_five _ _ _ _ _ _)
  have HB5 : Hid (Below w.heap.size w (((((w.alloc (.cells #[.int .i64 hw, .int .i64 hl] 23)).alloc (.cells #[.int .i64 gw, .int .i64 gl, .int .i64 ge] 25)).alloc (.cells #[.int .i64 al, .int .i64 aq, .int .i64 ah, .int .i64 as_, .int .i64 ae, .string t, .int .i64 ak, .int .i64 ab, .bool af, .int .i64 ad, .string s] 29)).alloc (.cells #[.int .i64 sl, .int .i64 q, .int .i64 sh, .int .i64 sq, .int .i64 wk, .int .i64 ep, .slice A n c, .bool en] 32)).alloc (.cells #[.int .i64 ss, .int .i64 sq2] 34))) := bel_five _ _ _ _ _ _
  have HG := Lib.hid hg
  clear hx hg
  go_enter Try.func6, Try.ntmps6
  go_wp2_with (first
    | (go_at_call 10; (with_reducible refine (great_all al aq ah as_ ae t ak ab af ad s sl q sh sq wk ep A n c en xs _ HX.out hn).mono ?_); rintro e w' ⟨w1, rfl, rfl, b1⟩; rw [HG.out])
    | (go_at_call 11; (with_reducible refine (awake_any _).mono ?_); rintro e w' ⟨w9, rfl, rfl, b9⟩))
  go_ret
  exact ⟨_, rfl, rfl, bel3 (bel3 HB5.out b1) b9⟩
set_option maxHeartbeats 8000000 in
theorem msgTurned_yes (kind : Int) (hw hl gw gl ge : Int) (al aq ah as_ ae : Int) (t : ByteArray) (ak ab : Int) (af : Bool) (ad : Int) (s : ByteArray) (sl q sh sq wk ep : Int) (A : Option Addr) (n c : Nat) (en : Bool) (xs : List (Int × ByteArray)) (ss sq2 : Int) (at_ x : Int) (w : World) (hx : n ≤ 80 → XReads w A n xs) (hn : n ≤ 9223372036854775807) (hg : greatR t s n xs = false) (hm : mayM (oneM kind hw hl gw gl ge al aq ah as_ ae t ak ab af ad s sl q sh sq wk ep xs en ss sq2) = true) :
    Calls Try.prog 6 #[.int .i64 kind, .agg #[.int .i64 hw, .int .i64 hl], .agg #[.int .i64 gw, .int .i64 gl, .int .i64 ge], .agg #[.int .i64 al, .int .i64 aq, .int .i64 ah, .int .i64 as_, .int .i64 ae, .string t, .int .i64 ak, .int .i64 ab, .bool af, .int .i64 ad, .string s], .agg #[.int .i64 sl, .int .i64 q, .int .i64 sh, .int .i64 sq, .int .i64 wk, .int .i64 ep, .slice A n c, .bool en], .agg #[.int .i64 ss, .int .i64 sq2], .int .i64 at_, .int .i64 x] w (Gives w (.bool true)) := by
  obtain ⟨n80, ht, hs, _, hsm⟩ := greatR_no hg
  have HX : Hid (n ≤ 80 → XReads (((((w.alloc (.cells #[.int .i64 hw, .int .i64 hl] 23)).alloc (.cells #[.int .i64 gw, .int .i64 gl, .int .i64 ge] 25)).alloc (.cells #[.int .i64 al, .int .i64 aq, .int .i64 ah, .int .i64 as_, .int .i64 ae, .string t, .int .i64 ak, .int .i64 ab, .bool af, .int .i64 ad, .string s] 29)).alloc (.cells #[.int .i64 sl, .int .i64 q, .int .i64 sh, .int .i64 sq, .int .i64 wk, .int .i64 ep, .slice A n c, .bool en] 32)).alloc (.cells #[.int .i64 ss, .int .i64 sq2] 34)) A n xs) := fun h => (hx h).below (bel_five _ _ _ _ _ _)
  have HB5 : Hid (Below w.heap.size w (((((w.alloc (.cells #[.int .i64 hw, .int .i64 hl] 23)).alloc (.cells #[.int .i64 gw, .int .i64 gl, .int .i64 ge] 25)).alloc (.cells #[.int .i64 al, .int .i64 aq, .int .i64 ah, .int .i64 as_, .int .i64 ae, .string t, .int .i64 ak, .int .i64 ab, .bool af, .int .i64 ad, .string s] 29)).alloc (.cells #[.int .i64 sl, .int .i64 q, .int .i64 sh, .int .i64 sq, .int .i64 wk, .int .i64 ep, .slice A n c, .bool en] 32)).alloc (.cells #[.int .i64 ss, .int .i64 sq2] 34))) := bel_five _ _ _ _ _ _
  obtain ⟨m, hmm⟩ : ∃ m, (oneM kind hw hl gw gl ge al aq ah as_ ae t ak ab af ad s sl q sh sq wk ep xs en ss sq2) = m := ⟨_, rfl⟩
  have HS : Hid (SmallM 60000 m) := by
    rw [← hmm]
    exact oneM_small _ _ _ _ _ _ _ _ _ _ _ _ _ _ _ _ _ _ _ _ _ _ _ _ _ _ _ (by omega) (by omega) (fun x hx => Nat.le_trans (hsm x hx) (by omega))
  rw [hmm] at hm
  have HXX := Lib.hid (hx n80)
  have HM := Lib.hid hm
  have HMM := Lib.hid hmm
  have HG := Lib.hid hg
  obtain ⟨i0, hi, hz0, hz1, hz2⟩ := info_parts info_u8
  have I := Lib.hid (And.intro hi (And.intro hz0 (And.intro hz1 hz2)))
  obtain ⟨zs, hzs⟩ : ∃ zs, frameM m = zs := ⟨_, rfl⟩
  obtain ⟨K, hK⟩ : ∃ K, zs.length = K + 1 := ⟨zs.length - 1, by rw [← hzs, frameM_length]; omega⟩
  have hK7 : 7 ≤ K + 1 := by rw [← hK, ← hzs, frameM_length]; omega
  have hK1024 : K + 1 ≤ 1024 := by
    rw [← hK, ← hzs, frameM_length]
    have := bodyM_length m hm
    omega
  have hr : ∀ z, z ∈ zs → 0 ≤ z ∧ z < 256 := by rw [← hzs]; exact frameM_range m
  obtain ⟨f1, f2⟩ := frame_tells m hm
  rw [hzs, hK] at f1 f2
  obtain ⟨l0, l1⟩ := lowI_range at_ ((K + 1 : Nat) : Int) (by omega)
  obtain ⟨k, hk⟩ := Int.eq_ofNat_of_zero_le l0
  have hkn : k < K + 1 := by omega
  have hk2 : (IntKind.u64.wrap at_).tmod ((K + 1 : Nat) : Int) = (k : Int) := (lowI_mod at_ (K + 1) (by omega) (by omega)).trans hk
  obtain ⟨r0, r1⟩ := lowI_range x 255 (by omega)
  obtain ⟨r, hrr⟩ : ∃ r, lowI x 255 = r := ⟨_, rfl⟩
  rw [hrr] at r0 r1
  have hr2 : (IntKind.u64.wrap x).tmod 255 = r := (lowI_mod x 255 (by omega) (by omega)).trans hrr
  have hxor := xorB_ok (gi zs k) (1 + r) (gi_range zs hr k) (by omega)
  obtain ⟨e1, hd1, be1⟩ := dec_turned zs (K + 1) k (xorB (gi zs k) (1 + r)) hK hK7 hK1024 hkn hr ⟨hxor.1, hxor.2.1⟩ hxor.2.2 f1 f2
  have hd2 : decI (zs.take K) = (8, .none) := dec_len zs _ (K + 1) hr (fun z hz => hr z (List.mem_of_mem_take hz)) f1 (by rw [List.take_take, Nat.min_eq_left (by omega)]) (by rw [List.length_take]; omega)
  obtain ⟨y, hy⟩ : ∃ y, IntKind.u8.wrap x = y := ⟨_, rfl⟩
  have hy2 : 0 ≤ y ∧ y < 256 := by
    rw [← hy]
    simp only [IntKind.wrap, IntKind.signed, IntKind.bits]
    simp
    omega
  have hry : ∀ z, z ∈ [y] → 0 ≤ z ∧ z < 256 := fun z hz => by
    simp only [List.mem_singleton] at hz
    subst hz
    exact hy2
  have hd3 : decI (zs ++ [y]) = (8, .none) := dec_len zs _ (K + 1) hr (range_append hr hry) f1 (by rw [List.take_append_of_le_length (by omega)]) (by rw [List.length_append, hK]; simp)
  have HL : Hid ((frameM m).length = K + 1) := by unfold Hid; rw [hzs, hK]
  have HZ := Lib.hid hzs
  have HK2 := Lib.hid hk2
  have HR2 := Lib.hid hr2
  have HD1 := Lib.hid hd1
  have HD2 := Lib.hid hd2
  have HD3 := Lib.hid hd3
  have HRY := Lib.hid hry
  have HRZ := Lib.hid hr
  have HLY : ∀ W : World, Hid (BReads (W.alloc (.cells #[.int .u8 y] 5)) (some ⟨W.heap.size, 0, none⟩) 1 [y]) := fun W => breads_lit W [y] _ _ (by simp) hry
  have nz : (((K + 1 : Nat) : Int) == 0) = false := by simp; omega
  clear hi hz0 hz1 hz2 hzs hK hr f1 f2 l0 l1 hk hk2 hrr hr2 hxor hd1 hd2 hd3 hry hy2
  clear hx hg hm hmm hsm
  go_enter Try.func6, Try.ntmps6
  go_wp2_with (first
    | (go_at_call 10; (with_reducible refine (great_all al aq ah as_ ae t ak ab af ad s sl q sh sq wk ep A n c en xs _ HX.out hn).mono ?_); rintro e w' ⟨w1, rfl, rfl, b1⟩; rw [HG.out]; have HB1 := Lib.hid (bel3 HB5.out b1); have HX1 := Lib.hid (HXX.out.below HB1.out); obtain ⟨K0, K1, K2, K3, K4⟩ := five_keep _ _ _ _ _ _ _ _ _ _ _ _ b1; have cw1_0_0 : w1.cell? ⟨w.heap.size, 0, none⟩ = some (.int .i64 hw) := (K0.cell 0).trans rfl; have cw1_0_1 : w1.cell? ⟨w.heap.size, 1, none⟩ = some (.int .i64 hl) := (K0.cell 1).trans rfl; have cw1_1_0 : w1.cell? ⟨w.heap.size + 1, 0, none⟩ = some (.int .i64 gw) := (K1.cell 0).trans rfl; have cw1_1_1 : w1.cell? ⟨w.heap.size + 1, 1, none⟩ = some (.int .i64 gl) := (K1.cell 1).trans rfl; have cw1_1_2 : w1.cell? ⟨w.heap.size + 1, 2, none⟩ = some (.int .i64 ge) := (K1.cell 2).trans rfl; have cw1_2_0 : w1.cell? ⟨w.heap.size + 2, 0, none⟩ = some (.int .i64 al) := (K2.cell 0).trans rfl; have cw1_2_1 : w1.cell? ⟨w.heap.size + 2, 1, none⟩ = some (.int .i64 aq) := (K2.cell 1).trans rfl; have cw1_2_2 : w1.cell? ⟨w.heap.size + 2, 2, none⟩ = some (.int .i64 ah) := (K2.cell 2).trans rfl; have cw1_2_3 : w1.cell? ⟨w.heap.size + 2, 3, none⟩ = some (.int .i64 as_) := (K2.cell 3).trans rfl; have cw1_2_4 : w1.cell? ⟨w.heap.size + 2, 4, none⟩ = some (.int .i64 ae) := (K2.cell 4).trans rfl; have cw1_2_5 : w1.cell? ⟨w.heap.size + 2, 5, none⟩ = some (.string t) := (K2.cell 5).trans rfl; have cw1_2_6 : w1.cell? ⟨w.heap.size + 2, 6, none⟩ = some (.int .i64 ak) := (K2.cell 6).trans rfl; have cw1_2_7 : w1.cell? ⟨w.heap.size + 2, 7, none⟩ = some (.int .i64 ab) := (K2.cell 7).trans rfl; have cw1_2_8 : w1.cell? ⟨w.heap.size + 2, 8, none⟩ = some (.bool af) := (K2.cell 8).trans rfl; have cw1_2_9 : w1.cell? ⟨w.heap.size + 2, 9, none⟩ = some (.int .i64 ad) := (K2.cell 9).trans rfl; have cw1_2_10 : w1.cell? ⟨w.heap.size + 2, 10, none⟩ = some (.string s) := (K2.cell 10).trans rfl; have cw1_3_0 : w1.cell? ⟨w.heap.size + 3, 0, none⟩ = some (.int .i64 sl) := (K3.cell 0).trans rfl; have cw1_3_1 : w1.cell? ⟨w.heap.size + 3, 1, none⟩ = some (.int .i64 q) := (K3.cell 1).trans rfl; have cw1_3_2 : w1.cell? ⟨w.heap.size + 3, 2, none⟩ = some (.int .i64 sh) := (K3.cell 2).trans rfl; have cw1_3_3 : w1.cell? ⟨w.heap.size + 3, 3, none⟩ = some (.int .i64 sq) := (K3.cell 3).trans rfl; have cw1_3_4 : w1.cell? ⟨w.heap.size + 3, 4, none⟩ = some (.int .i64 wk) := (K3.cell 4).trans rfl; have cw1_3_5 : w1.cell? ⟨w.heap.size + 3, 5, none⟩ = some (.int .i64 ep) := (K3.cell 5).trans rfl; have cw1_3_6 : w1.cell? ⟨w.heap.size + 3, 6, none⟩ = some (.slice A n c) := (K3.cell 6).trans rfl; have cw1_3_7 : w1.cell? ⟨w.heap.size + 3, 7, none⟩ = some (.bool en) := (K3.cell 7).trans rfl; have cw1_4_0 : w1.cell? ⟨w.heap.size + 4, 0, none⟩ = some (.int .i64 ss) := (K4.cell 0).trans rfl; have cw1_4_1 : w1.cell? ⟨w.heap.size + 4, 1, none⟩ = some (.int .i64 sq2) := (K4.cell 1).trans rfl; clear K0 K1 K2 K3 K4; clear b1)
    | (go_at_call 13; (with_reducible refine (oneM_any kind hw hl gw gl ge al aq ah as_ ae t ak ab af ad s sl q sh sq wk ep A n c xs en ss sq2 _ HX1.out).mono ?_); rintro e w' ⟨v, w2, rfl, rfl, mv, b2⟩; rw [HMM.out] at mv; have HV := Lib.hid mv; have HB2 := Lib.hid b2; clear mv b2; clear cw1_0_0 cw1_0_1 cw1_1_0 cw1_1_1 cw1_1_2 cw1_2_0 cw1_2_1 cw1_2_2 cw1_2_3 cw1_2_4 cw1_2_5 cw1_2_6 cw1_2_7 cw1_2_8 cw1_2_9 cw1_2_10 cw1_3_0 cw1_3_1 cw1_3_2 cw1_3_3 cw1_3_4 cw1_3_5 cw1_3_6 cw1_3_7 cw1_4_0 cw1_4_1)
    | (go_at_call 14; (with_reducible refine (enc_len v m (K + 1) w2 HV.out HS.out HM.out HL.out).mono ?_); rintro e w' ⟨A3, c3, w3, rfl, rfl, ho, hr, hc, hcm, hb⟩; rw [HZ.out] at hr; have HR3 := Lib.hid hr; have HB3 := Lib.hid (bel3 (bel3 HB1.out HB2.out) hb); clear ho hr hb)
    | (go_at_call 29; (with_reducible refine (turned_any A3 (K + 1) c3 k zs at_ x r w3 HR3.out (by omega) HK2.out hkn HR2.out r0 (by omega)).mono ?_); rintro e w' ⟨A4, c4, w4, rfl, rfl, hr4, hc4, hcm4, hb⟩; have HR4 := Lib.hid hr4; have HR3b := Lib.hid (HR3.out.below hb); have HB4 := Lib.hid (bel3 HB3.out hb); clear hr4 hb)
    | (go_at_call 25; (with_reducible refine (decode_not A4 (K + 1) c4 _ e1 w4 HR4.out hc4 hcm4 HD1.out).mono ?_); rintro e w' ⟨w5, rfl, rfl, hb⟩; have HR3c := Lib.hid (HR3b.out.below hb); have HR3t : Hid (BReads w5 A3 K (zs.take K)) := (HR3b.out.below hb).take_ K (by omega); have HB5x := Lib.hid (bel3 HB4.out hb); have hKc : K ≤ c3 := (by omega); clear hb)
    | (go_at_call 25; (with_reducible refine (decode_not A3 K c3 _ 8 w5 HR3t.out hKc hcm HD2.out).mono ?_); rintro e w' ⟨w6, rfl, rfl, hb⟩; have HR3d := Lib.hid (HR3c.out.below hb); have HB6 := Lib.hid (bel3 HB5x.out hb); clear hb)
    | (at_builtin; refine wpList_append_any _ rfl (.const (.slice none 0 0)) (.tmp 64) _ rfl w6.heap.size 5 i0 _ 1 1 Try.underlying39 I.out.1 I.out.2.1 I.out.2.2.1 I.out.2.2.2 rfl (by omega) (.slice none 0 0) 0 [] rfl (World.ownsRow_nil _ _ _ _) w6.heap.size A3 (K + 1) c3 (bvals zs) rfl HR3d.out.reads (bvals_one _) (by simp only [maxLen]; omega) (by omega) (Nat.le_refl _) ?_; intro v7 w7 hown7 hg7 hat7; have hb7 : Below w6.heap.size w6 w7 := (Below.refl _ _).grown hg7 (Nat.le_refl _) (by simp [Value.ownBlock]); simp only [Nat.zero_add, List.nil_append] at hown7; have HO7 := Lib.hid hown7; have HB7 := Lib.hid hb7; clear hown7 hg7 hat7 hb7)
    | (at_builtin; refine wpList_append_any _ rfl (.tmp 65) (.tmp 68) _ rfl w6.heap.size 5 i0 _ 1 1 Try.underlying39 I.out.1 I.out.2.1 I.out.2.2.1 I.out.2.2.2 rfl (by omega) v7 (K + 1) (bvals zs) rfl (World.ownsRow.alloc HO7.out _) _ (some ⟨w7.heap.size, 0, none⟩) 1 1 (bvals [y]) rfl (HLY w7).out.reads (bvals_one _) (by simp only [maxLen]; omega) (by omega) (Nat.le_trans HB7.out.size (bel_alloc _ _).size) ?_; intro v8 w8 hown8 hg8 hat8; have hb8 : Below w6.heap.size w6 w8 := (bel2 HB7.out (bel_alloc w7 (.cells #[.int .u8 y] 5))).grown hg8 (Nat.le_trans HB7.out.size (bel_alloc _ _).size) (fun q hq => ((World.ownsRow.alloc HO7.out (.cells #[.int .u8 y] 5)).lt q hq).1); rw [← bvals_append] at hown8; obtain ⟨A8, c8, hv8, hc8, hr8⟩ := own_breads hown8 (range_append HRZ.out HRY.out); rw [hv8] at hown8; rw [hv8]; have hcm8 := own_cap hown8; have HR8 := Lib.hid hr8; have HB8 := Lib.hid (bel3 HB6.out hb8); clear hown8 hg8 hat8 hb8 hr8 hv8)
    | (go_at_call 25; (with_reducible refine (decode_not A8 (K + 1 + 1) c8 _ 8 w8 HR8.out hc8 hcm8 HD3.out).mono ?_); rintro e w' ⟨w9, rfl, rfl, hb⟩; have HB9 := Lib.hid (bel3 HB8.out hb); clear hb)
    | (go_at_call 11; (with_reducible refine (awake_any w9).mono ?_); rintro e w' ⟨w10, rfl, rfl, hb⟩; have HB10 := Lib.hid (bel3 HB9.out hb); clear hb))
  go_ret
  exact ⟨_, rfl, rfl, HB10.out⟩
set_option maxHeartbeats 8000000 in
theorem msgTurned_no (kind : Int) (hw hl gw gl ge : Int) (al aq ah as_ ae : Int) (t : ByteArray) (ak ab : Int) (af : Bool) (ad : Int) (s : ByteArray) (sl q sh sq wk ep : Int) (A : Option Addr) (n c : Nat) (en : Bool) (xs : List (Int × ByteArray)) (ss sq2 : Int) (at_ x : Int) (w : World) (hx : n ≤ 80 → XReads w A n xs) (hn : n ≤ 9223372036854775807) (hg : greatR t s n xs = false) (hm : mayM (oneM kind hw hl gw gl ge al aq ah as_ ae t ak ab af ad s sl q sh sq wk ep xs en ss sq2) = false) :
    Calls Try.prog 6 #[.int .i64 kind, .agg #[.int .i64 hw, .int .i64 hl], .agg #[.int .i64 gw, .int .i64 gl, .int .i64 ge], .agg #[.int .i64 al, .int .i64 aq, .int .i64 ah, .int .i64 as_, .int .i64 ae, .string t, .int .i64 ak, .int .i64 ab, .bool af, .int .i64 ad, .string s], .agg #[.int .i64 sl, .int .i64 q, .int .i64 sh, .int .i64 sq, .int .i64 wk, .int .i64 ep, .slice A n c, .bool en], .agg #[.int .i64 ss, .int .i64 sq2], .int .i64 at_, .int .i64 x] w (Gives w (.bool true)) := by
  obtain ⟨n80, ht, hs, _, hsm⟩ := greatR_no hg
  have HX : Hid (n ≤ 80 → XReads (((((w.alloc (.cells #[.int .i64 hw, .int .i64 hl] 23)).alloc (.cells #[.int .i64 gw, .int .i64 gl, .int .i64 ge] 25)).alloc (.cells #[.int .i64 al, .int .i64 aq, .int .i64 ah, .int .i64 as_, .int .i64 ae, .string t, .int .i64 ak, .int .i64 ab, .bool af, .int .i64 ad, .string s] 29)).alloc (.cells #[.int .i64 sl, .int .i64 q, .int .i64 sh, .int .i64 sq, .int .i64 wk, .int .i64 ep, .slice A n c, .bool en] 32)).alloc (.cells #[.int .i64 ss, .int .i64 sq2] 34)) A n xs) := fun h => (hx h).below (bel_five _ _ _ _ _ _)
  have HB5 : Hid (Below w.heap.size w (((((w.alloc (.cells #[.int .i64 hw, .int .i64 hl] 23)).alloc (.cells #[.int .i64 gw, .int .i64 gl, .int .i64 ge] 25)).alloc (.cells #[.int .i64 al, .int .i64 aq, .int .i64 ah, .int .i64 as_, .int .i64 ae, .string t, .int .i64 ak, .int .i64 ab, .bool af, .int .i64 ad, .string s] 29)).alloc (.cells #[.int .i64 sl, .int .i64 q, .int .i64 sh, .int .i64 sq, .int .i64 wk, .int .i64 ep, .slice A n c, .bool en] 32)).alloc (.cells #[.int .i64 ss, .int .i64 sq2] 34))) := bel_five _ _ _ _ _ _
  obtain ⟨m, hmm⟩ : ∃ m, (oneM kind hw hl gw gl ge al aq ah as_ ae t ak ab af ad s sl q sh sq wk ep xs en ss sq2) = m := ⟨_, rfl⟩
  have HS : Hid (SmallM 60000 m) := by
    rw [← hmm]
    exact oneM_small _ _ _ _ _ _ _ _ _ _ _ _ _ _ _ _ _ _ _ _ _ _ _ _ _ _ _ (by omega) (by omega) (fun x hx => Nat.le_trans (hsm x hx) (by omega))
  rw [hmm] at hm
  have HXX := Lib.hid (hx n80)
  have HM := Lib.hid hm
  have HMM := Lib.hid hmm
  have HG := Lib.hid hg
  clear hx hg hm hmm hsm
  go_enter Try.func6, Try.ntmps6
  go_wp2_with (first
    | (go_at_call 10; (with_reducible refine (great_all al aq ah as_ ae t ak ab af ad s sl q sh sq wk ep A n c en xs _ HX.out hn).mono ?_); rintro e w' ⟨w1, rfl, rfl, b1⟩; rw [HG.out]; have HB1 := Lib.hid (bel3 HB5.out b1); have HX1 := Lib.hid (HXX.out.below HB1.out); obtain ⟨K0, K1, K2, K3, K4⟩ := five_keep _ _ _ _ _ _ _ _ _ _ _ _ b1; have cw1_0_0 : w1.cell? ⟨w.heap.size, 0, none⟩ = some (.int .i64 hw) := (K0.cell 0).trans rfl; have cw1_0_1 : w1.cell? ⟨w.heap.size, 1, none⟩ = some (.int .i64 hl) := (K0.cell 1).trans rfl; have cw1_1_0 : w1.cell? ⟨w.heap.size + 1, 0, none⟩ = some (.int .i64 gw) := (K1.cell 0).trans rfl; have cw1_1_1 : w1.cell? ⟨w.heap.size + 1, 1, none⟩ = some (.int .i64 gl) := (K1.cell 1).trans rfl; have cw1_1_2 : w1.cell? ⟨w.heap.size + 1, 2, none⟩ = some (.int .i64 ge) := (K1.cell 2).trans rfl; have cw1_2_0 : w1.cell? ⟨w.heap.size + 2, 0, none⟩ = some (.int .i64 al) := (K2.cell 0).trans rfl; have cw1_2_1 : w1.cell? ⟨w.heap.size + 2, 1, none⟩ = some (.int .i64 aq) := (K2.cell 1).trans rfl; have cw1_2_2 : w1.cell? ⟨w.heap.size + 2, 2, none⟩ = some (.int .i64 ah) := (K2.cell 2).trans rfl; have cw1_2_3 : w1.cell? ⟨w.heap.size + 2, 3, none⟩ = some (.int .i64 as_) := (K2.cell 3).trans rfl; have cw1_2_4 : w1.cell? ⟨w.heap.size + 2, 4, none⟩ = some (.int .i64 ae) := (K2.cell 4).trans rfl; have cw1_2_5 : w1.cell? ⟨w.heap.size + 2, 5, none⟩ = some (.string t) := (K2.cell 5).trans rfl; have cw1_2_6 : w1.cell? ⟨w.heap.size + 2, 6, none⟩ = some (.int .i64 ak) := (K2.cell 6).trans rfl; have cw1_2_7 : w1.cell? ⟨w.heap.size + 2, 7, none⟩ = some (.int .i64 ab) := (K2.cell 7).trans rfl; have cw1_2_8 : w1.cell? ⟨w.heap.size + 2, 8, none⟩ = some (.bool af) := (K2.cell 8).trans rfl; have cw1_2_9 : w1.cell? ⟨w.heap.size + 2, 9, none⟩ = some (.int .i64 ad) := (K2.cell 9).trans rfl; have cw1_2_10 : w1.cell? ⟨w.heap.size + 2, 10, none⟩ = some (.string s) := (K2.cell 10).trans rfl; have cw1_3_0 : w1.cell? ⟨w.heap.size + 3, 0, none⟩ = some (.int .i64 sl) := (K3.cell 0).trans rfl; have cw1_3_1 : w1.cell? ⟨w.heap.size + 3, 1, none⟩ = some (.int .i64 q) := (K3.cell 1).trans rfl; have cw1_3_2 : w1.cell? ⟨w.heap.size + 3, 2, none⟩ = some (.int .i64 sh) := (K3.cell 2).trans rfl; have cw1_3_3 : w1.cell? ⟨w.heap.size + 3, 3, none⟩ = some (.int .i64 sq) := (K3.cell 3).trans rfl; have cw1_3_4 : w1.cell? ⟨w.heap.size + 3, 4, none⟩ = some (.int .i64 wk) := (K3.cell 4).trans rfl; have cw1_3_5 : w1.cell? ⟨w.heap.size + 3, 5, none⟩ = some (.int .i64 ep) := (K3.cell 5).trans rfl; have cw1_3_6 : w1.cell? ⟨w.heap.size + 3, 6, none⟩ = some (.slice A n c) := (K3.cell 6).trans rfl; have cw1_3_7 : w1.cell? ⟨w.heap.size + 3, 7, none⟩ = some (.bool en) := (K3.cell 7).trans rfl; have cw1_4_0 : w1.cell? ⟨w.heap.size + 4, 0, none⟩ = some (.int .i64 ss) := (K4.cell 0).trans rfl; have cw1_4_1 : w1.cell? ⟨w.heap.size + 4, 1, none⟩ = some (.int .i64 sq2) := (K4.cell 1).trans rfl; clear K0 K1 K2 K3 K4; clear b1)
    | (go_at_call 13; (with_reducible refine (oneM_any kind hw hl gw gl ge al aq ah as_ ae t ak ab af ad s sl q sh sq wk ep A n c xs en ss sq2 _ HX1.out).mono ?_); rintro e w' ⟨v, w2, rfl, rfl, mv, b2⟩; rw [HMM.out] at mv; have HV := Lib.hid mv; have HB2 := Lib.hid b2; clear mv b2; clear cw1_0_0 cw1_0_1 cw1_1_0 cw1_1_1 cw1_1_2 cw1_2_0 cw1_2_1 cw1_2_2 cw1_2_3 cw1_2_4 cw1_2_5 cw1_2_6 cw1_2_7 cw1_2_8 cw1_2_9 cw1_2_10 cw1_3_0 cw1_3_1 cw1_3_2 cw1_3_3 cw1_3_4 cw1_3_5 cw1_3_6 cw1_3_7 cw1_4_0 cw1_4_1)
    | (go_at_call 14; (with_reducible refine (enc_no v m w2 HV.out HS.out HM.out).mono ?_); rintro e w' ⟨w3, rfl, rfl, hb⟩; have HB3 := Lib.hid (bel3 (bel3 HB1.out HB2.out) hb); clear hb)
    | (go_at_call 11; (with_reducible refine (awake_any w3).mono ?_); rintro e w' ⟨w10, rfl, rfl, hb⟩; have HB10 := Lib.hid (bel3 HB3.out hb); clear hb))
  go_ret
  exact ⟨_, rfl, rfl, HB10.out⟩
theorem msgTurned_walk (kind : Int) (hw hl gw gl ge : Int) (al aq ah as_ ae : Int) (t : ByteArray) (ak ab : Int) (af : Bool) (ad : Int) (s : ByteArray) (sl q sh sq wk ep : Int) (A : Option Addr) (n c : Nat) (en : Bool) (xs : List (Int × ByteArray)) (ss sq2 : Int) (at_ x : Int) (w : World) (hx : n ≤ 80 → XReads w A n xs) (hn : n ≤ 9223372036854775807) :
    Calls Try.prog 6 #[.int .i64 kind, .agg #[.int .i64 hw, .int .i64 hl], .agg #[.int .i64 gw, .int .i64 gl, .int .i64 ge], .agg #[.int .i64 al, .int .i64 aq, .int .i64 ah, .int .i64 as_, .int .i64 ae, .string t, .int .i64 ak, .int .i64 ab, .bool af, .int .i64 ad, .string s], .agg #[.int .i64 sl, .int .i64 q, .int .i64 sh, .int .i64 sq, .int .i64 wk, .int .i64 ep, .slice A n c, .bool en], .agg #[.int .i64 ss, .int .i64 sq2], .int .i64 at_, .int .i64 x] w (Gives w (.bool true)) := by
  cases hg : greatR t s n xs with
  | true => exact msgTurned_great kind hw hl gw gl ge al aq ah as_ ae t ak ab af ad s sl q sh sq wk ep A n c en xs ss sq2 at_ x w hx hn hg
  | false =>
    cases hm : mayM (oneM kind hw hl gw gl ge al aq ah as_ ae t ak ab af ad s sl q sh sq wk ep xs en ss sq2) with
    | true => exact msgTurned_yes kind hw hl gw gl ge al aq ah as_ ae t ak ab af ad s sl q sh sq wk ep A n c en xs ss sq2 at_ x w hx hn hg hm
    | false => exact msgTurned_no kind hw hl gw gl ge al aq ah as_ ae t ak ab af ad s sl q sh sq wk ep A n c en xs ss sq2 at_ x w hx hn hg hm
end Go.Proofs.Ytajhkjikcgfhdaa
