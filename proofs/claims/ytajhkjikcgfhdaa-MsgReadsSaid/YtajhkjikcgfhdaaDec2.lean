/-
  The walk of msg.Decode behind its head.
-/
import Derived.Test.YtajhkjikcgfhdaaDec
namespace Go.Proofs.Ytajhkjikcgfhdaa
set_option linter.unusedVariables false
set_option linter.unusedSimpArgs false
set_option maxRecDepth 20000
open Go.RowKit
theorem gi_take (zs : List Int) (m k : Nat) (h : k < m) : gi (zs.take m) k = gi zs k := by
  simp [gi, List.getD_eq_getElem?_getD, List.getElem?_take, h]
theorem SmallM.of_len {zs : List Int} {m : M} (h : SmallM zs.length m) (hn : zs.length ≤ 60000) : SmallM 60000 m := h.le hn
set_option maxHeartbeats 8000000 in
theorem dec_read (A : Option Addr) (m c : Nat) (zs : List Int) (w : World) (h : BReads w A (m + 4) zs) (hc : m + 4 ≤ c) (hcm : c ≤ 9223372036854775807) (h1 : 3 ≤ m) (h2 : m ≤ 1020) (h3 : numI zs 0 2 = (m + 4 : Nat)) (h4 : numI zs m 4 = addI 0 (zs.take m)) (M' : M) (a' : Nat) (b' : Bool) (hR : readM (zs.take m) (gi zs 2) 3 false = (M', a', b')) :
    Calls Try.prog 25 #[.slice A (m + 4 : Nat) c] w (DecTo w (if b' = true ∨ a' ≠ m ∨ mayM M' = false then (8, .none) else (0, M'))) := by
  have hS := h.take_ m (by omega)
  have hra : 0 ≤ addI 0 (zs.take m) ∧ addI 0 (zs.take m) < 4294967296 := addI_range 0 _ (by omega) hS.range
  obtain ⟨S, hSS⟩ : ∃ S, addI 0 (zs.take m) = S := ⟨_, rfl⟩
  rw [hSS] at hra h4
  obtain ⟨r0, r1⟩ := hra
  have hw : IntKind.u32.wrap S = S := u32_in S r0 r1
  have b1 : (S != S) = false := by simp
  have b0 : (((m + 4 : Nat) : Int) != ((m + 4 : Nat) : Int)) = false := by simp
  have hl4 : zs.length = m + 4 := h.1
  have hyl : (zs.take m).length = m := hS.1
  obtain ⟨x2, hx2⟩ : ∃ x, gi zs 2 = x := ⟨_, rfl⟩
  obtain ⟨ad, hA, hc2⟩ := h.at_ 2 (by omega)
  have hrx := h.2.2.2 2
  rw [hx2] at hc2 hR hrx
  have hc2a : w.cell? ⟨ad.block, ad.off + 2, none⟩ = some (.int .u8 x2) := by
    have e : ad.add 2 = ⟨ad.block, ad.off + 2, none⟩ := by simp [Addr.add]
    rw [← e]; exact hc2
  have hc2b : w.cell? ⟨ad.block, ad.off + 1 + 1, none⟩ = some (.int .u8 x2) := hc2a
  have HR := Lib.hid hR
  have HL4 := Lib.hid h4
  have HSS := Lib.hid hSS
  have HS := Lib.hid hS
  have HYL := Lib.hid hyl
  have h1' : decide (((m + 4 : Nat) : Int) - 4 < 3) = false := decide_eq_false (by omega)
  have h2' : decide ((1024 : Int) < ((m + 4 : Nat) : Int)) = false := decide_eq_false (by omega)
  have H := Lib.hid h
  have HT := Lib.hid h3
  have HO : Hid (numOk (m + 4) 0 2) := ⟨by omega, by omega, by omega, by omega⟩
  have HO4 : Hid (numOk (m + 4) m 4) := ⟨by omega, by omega, by omega, by omega⟩
  have hcc : m ≤ c := by omega
  have hsm : SmallM 60000 M' := by
    have h5 := readM_small (zs.take m) x2 3 false
    rw [hR] at h5
    exact h5.of_len (by rw [hyl]; omega)
  have HSM := Lib.hid hsm
  have hadl : ad.block < w.heap.size := by
    have := World.block_lt_of_cell? w _ hc2
    rwa [block_of_add] at this
  have HRD : Hid (Rd 99 (w.alloc (.cells #[.slice A m c, .int .i64 3, .bool false] 99)) w.heap.size A c (zs.take m) 3 false) := by
    have hb := Blk.new w 99 #[.slice A m c, .int .i64 3, .bool false]
    refine ⟨?_, ?_, by rw [hyl]; exact hcc, hcm, fun ad2 e => ?_⟩
    · rw [hyl]; exact hb
    · rw [hyl]; exact hS.below (bel_alloc _ _)
    · rw [hA] at e
      injection e with e
      subst e
      omega
  subst hA
  obtain ⟨my, hmy⟩ : ∃ x, mayM M' = x := ⟨_, rfl⟩
  have HMY := Lib.hid hmy
  rw [hmy]
  obtain ⟨pt, hpt⟩ : ∃ p : Int × M, (if b' = true ∨ a' ≠ m ∨ my = false then ((8, .none) : Int × M) else (0, M')) = p := ⟨_, rfl⟩
  rw [hpt]
  have HPT := Lib.hid hpt
  clear h h3 hSS hS r0 r1 hR h4 hsm hl4 hyl hx2 hmy hpt
  cases b' with
  | true =>
    go_enter Try.func25, Try.ntmps25
    go_wp2_with (first
      | (go_at_call 54; (with_reducible refine (num_yes _ _ _ 0 2 _ _ H.out HO.out).mono ?_); rintro e w' ⟨rfl, rfl⟩; rw [HT.out])
      | (go_at_call 54; (with_reducible refine (num_yes _ _ _ m 4 _ _ H.out HO4.out).mono ?_); rintro e w' ⟨rfl, rfl⟩; rw [HL4.out])
      | (go_at_call 40; (with_reducible refine (of_any _ _ _ _ _ HS.out).mono ?_); rintro e w' ⟨rfl, rfl⟩; rw [HSS.out])
      | (go_at_call 55; (with_reducible refine (rmsg_m w.heap.size (some ad) c (zs.take m) 3 false x2 _ HRD.out (by rw [HYL.out]; omega) (by rw [HYL.out]; omega)).mono ?_); rw [HR.out]; rintro e w' ⟨v, w1, rfl, rfl, mv, r1, g1⟩; obtain ⟨k1, k2, f1, f2⟩ := r1.cells; have HMV := Lib.hid mv; have HG1 := Lib.hid g1; clear mv r1 g1)
      | (go_at_call 19; (with_reducible refine (may_m _ _ _ HMV.out HSM.out).mono ?_); rintro e w' ⟨w2, rfl, rfl, b2⟩; rw [HMY.out]; have HB2 := Lib.hid b2; clear b2))
    go_ret2
    have e := HPT.out
    simp [HMY.out] at e
    subst e
    exact ⟨.nilIface, _, rfl, rfl, rfl, trivial, ((bel_alloc w _).grown HG1.out (bel_alloc w _).size (fun q hq => by injection hq with hq; omega))⟩
  | false =>
    by_cases ha : a' = m
    · have ha2 := ha.symm
      subst ha2
      have b2 : ((m : Int) != (m : Int)) = false := by simp
      cases my with
      | false =>
        go_enter Try.func25, Try.ntmps25
        go_wp2_with (first
          | (go_at_call 54; (with_reducible refine (num_yes _ _ _ 0 2 _ _ H.out HO.out).mono ?_); rintro e w' ⟨rfl, rfl⟩; rw [HT.out])
          | (go_at_call 54; (with_reducible refine (num_yes _ _ _ m 4 _ _ H.out HO4.out).mono ?_); rintro e w' ⟨rfl, rfl⟩; rw [HL4.out])
          | (go_at_call 40; (with_reducible refine (of_any _ _ _ _ _ HS.out).mono ?_); rintro e w' ⟨rfl, rfl⟩; rw [HSS.out])
          | (go_at_call 55; (with_reducible refine (rmsg_m w.heap.size (some ad) c (zs.take m) 3 false x2 _ HRD.out (by rw [HYL.out]; omega) (by rw [HYL.out]; omega)).mono ?_); rw [HR.out]; rintro e w' ⟨v, w1, rfl, rfl, mv, r1, g1⟩; obtain ⟨k1, k2, f1, f2⟩ := r1.cells; have HMV := Lib.hid mv; have HG1 := Lib.hid g1; clear mv r1 g1)
          | (go_at_call 19; (with_reducible refine (may_m _ _ _ HMV.out HSM.out).mono ?_); rintro e w' ⟨w2, rfl, rfl, b2⟩; rw [HMY.out]; have HB2 := Lib.hid b2; clear b2))
        go_ret2
        have e := HPT.out
        simp [HMY.out] at e
        subst e
        exact ⟨.nilIface, _, rfl, rfl, rfl, trivial, bel2 ((bel_alloc w _).grown HG1.out (bel_alloc w _).size (fun q hq => by injection hq with hq; omega)) HB2.out⟩
      | true =>
        go_enter Try.func25, Try.ntmps25
        go_wp2_with (first
          | (go_at_call 54; (with_reducible refine (num_yes _ _ _ 0 2 _ _ H.out HO.out).mono ?_); rintro e w' ⟨rfl, rfl⟩; rw [HT.out])
          | (go_at_call 54; (with_reducible refine (num_yes _ _ _ m 4 _ _ H.out HO4.out).mono ?_); rintro e w' ⟨rfl, rfl⟩; rw [HL4.out])
          | (go_at_call 40; (with_reducible refine (of_any _ _ _ _ _ HS.out).mono ?_); rintro e w' ⟨rfl, rfl⟩; rw [HSS.out])
          | (go_at_call 55; (with_reducible refine (rmsg_m w.heap.size (some ad) c (zs.take m) 3 false x2 _ HRD.out (by rw [HYL.out]; omega) (by rw [HYL.out]; omega)).mono ?_); rw [HR.out]; rintro e w' ⟨v, w1, rfl, rfl, mv, r1, g1⟩; obtain ⟨k1, k2, f1, f2⟩ := r1.cells; have HMV := Lib.hid mv; have HG1 := Lib.hid g1; clear mv r1 g1)
          | (go_at_call 19; (with_reducible refine (may_m _ _ _ HMV.out HSM.out).mono ?_); rintro e w' ⟨w2, rfl, rfl, b2⟩; rw [HMY.out]; have HB2 := Lib.hid b2; clear b2))
        go_ret2
        have e := HPT.out
        simp [HMY.out] at e
        subst e
        exact ⟨_, _, rfl, rfl, HMV.out.below HB2.out, HSM.out, bel2 ((bel_alloc w _).grown HG1.out (bel_alloc w _).size (fun q hq => by injection hq with hq; omega)) HB2.out⟩
    · have b2 : ((a' : Int) != (m : Int)) = true := by
        have : (a' : Int) ≠ (m : Int) := by omega
        simpa using this
      have HNE := Lib.hid ha
      clear ha
      go_enter Try.func25, Try.ntmps25
      go_wp2_with (first
        | (go_at_call 54; (with_reducible refine (num_yes _ _ _ 0 2 _ _ H.out HO.out).mono ?_); rintro e w' ⟨rfl, rfl⟩; rw [HT.out])
        | (go_at_call 54; (with_reducible refine (num_yes _ _ _ m 4 _ _ H.out HO4.out).mono ?_); rintro e w' ⟨rfl, rfl⟩; rw [HL4.out])
        | (go_at_call 40; (with_reducible refine (of_any _ _ _ _ _ HS.out).mono ?_); rintro e w' ⟨rfl, rfl⟩; rw [HSS.out])
        | (go_at_call 55; (with_reducible refine (rmsg_m w.heap.size (some ad) c (zs.take m) 3 false x2 _ HRD.out (by rw [HYL.out]; omega) (by rw [HYL.out]; omega)).mono ?_); rw [HR.out]; rintro e w' ⟨v, w1, rfl, rfl, mv, r1, g1⟩; obtain ⟨k1, k2, f1, f2⟩ := r1.cells; have HMV := Lib.hid mv; have HG1 := Lib.hid g1; clear mv r1 g1)
        | (go_at_call 19; (with_reducible refine (may_m _ _ _ HMV.out HSM.out).mono ?_); rintro e w' ⟨w2, rfl, rfl, b2⟩; rw [HMY.out]; have HB2 := Lib.hid b2; clear b2))
      go_ret2
      have e := HPT.out
      simp [HNE.out] at e
      subst e
      exact ⟨.nilIface, _, rfl, rfl, rfl, trivial, ((bel_alloc w _).grown HG1.out (bel_alloc w _).size (fun q hq => by injection hq with hq; omega))⟩
theorem decode_any (A : Option Addr) (n c : Nat) (zs : List Int) (w : World) (h : BReads w A n zs) (hc : n ≤ c) (hcm : c ≤ 9223372036854775807) :
    Calls Try.prog 25 #[.slice A n c] w (DecTo w (decI zs)) := by
  have hl := h.1
  unfold decI
  rw [hl]
  by_cases h1 : n < 7
  · rw [if_pos (.inl h1)]
    exact dec_short A n c zs w (.inl h1) h.2.1
  by_cases h2 : 1024 < n
  · rw [if_pos (.inr (.inl h2))]
    exact dec_short A n c zs w (.inr h2) h.2.1
  by_cases h3 : numI zs 0 2 = n
  · rw [if_neg (by omega)]
    obtain ⟨m, rfl⟩ : ∃ m, n = m + 4 := ⟨n - 4, by omega⟩
    rw [show m + 4 - 4 = m by omega]
    by_cases h4 : numI zs m 4 = addI 0 (zs.take m)
    · rw [if_neg (by simpa using h4)]
      exact dec_read A m c zs w h hc hcm (by omega) (by omega) h3 h4 _ _ _ rfl
    · rw [if_pos h4]
      exact dec_sum A m c zs w h hc (by omega) (by omega) h3 h4
  · rw [if_pos (.inr (.inr h3))]
    exact dec_told A n c zs w h (by omega) (by omega) h3
end Go.Proofs.Ytajhkjikcgfhdaa
