/-
  Merged by program out of: RefEnc RefEnc2 RefEnc3 RefOf RefM LendItems LawLays.
-/
import Derived.Test.YtajhkjikcgfhdaaGreat
import Derived.Deep.Cut
namespace Go.Proofs.Ytajhkjikcgfhdaa
set_option linter.unusedVariables false
set_option linter.unusedSimpArgs false
set_option maxRecDepth 20000
open Go.RowKit
/-- A call has laid these bytes. -/
def RLay (w : World) (zs : List Int) (n : Nat) (e : Ending) (w' : World) : Prop := ∃ A c W, e = .returned (.slice A n c) ∧ W = w' ∧ BReads W A n zs ∧ n ≤ c ∧ c ≤ 9223372036854775807 ∧ Below w.heap.size w W
/-- These bytes, in a row that the call has made. -/
def ROwn (w : World) (zs : List Int) (n : Nat) (e : Ending) (w' : World) : Prop := ∃ A c W, e = .returned (.slice A n c) ∧ W = w' ∧ W.ownsRow w.heap.size 5 1 (.slice A n c) n (bvals zs) ∧ BReads W A n zs ∧ n ≤ c ∧ c ≤ 9223372036854775807 ∧ Below w.heap.size w W
theorem ROwn.lay {w w' : World} {zs : List Int} {n : Nat} {e : Ending} (h : ROwn w zs n e w') : RLay w zs n e w' := by
  obtain ⟨A, c, W, h1, h2, _, h3⟩ := h
  exact ⟨A, c, W, h1, h2, h3⟩
theorem refput_o (A : Option Addr) (n cp : Nat) (zs : List Int) (x s : Int) (q : Nat) (w : World) (h : BReads w A n zs) (hn : n ≤ 1000000) (hs : s = q) (hq : q ≤ 8) :
    Calls Try.prog 42 #[.slice A n cp, .int .i64 x, .int .i64 s] w (ROwn w (zs ++ putI x q) (n + q)) := by
  subst hs
  refine (refput_sl A n cp zs x q w h hn).mono ?_
  rintro e w' ⟨A2, c2, W, rfl, rfl, ho, hr, hc, hb⟩
  rw [sizeI_nat q hq] at ho hr hc
  rw [sizeI_nat q hq]
  exact ⟨A2, c2, W, rfl, rfl, ho, hr, hc, own_cap ho, hb⟩
theorem refput_r (A : Option Addr) (n cp : Nat) (zs : List Int) (x s : Int) (q : Nat) (w : World) (h : BReads w A n zs) (hn : n ≤ 1000000) (hs : s = q) (hq : q ≤ 8) :
    Calls Try.prog 42 #[.slice A n cp, .int .i64 x, .int .i64 s] w (RLay w (zs ++ putI x q) (n + q)) := (refput_o A n cp zs x s q w h hn hs hq).mono fun e w' h => h.lay
theorem reftext_r (A : Option Addr) (n cp : Nat) (zs : List Int) (s : ByteArray) (w : World) (h : BReads w A n zs) (hn : n ≤ 1000000) (hs : s.size ≤ 65535) :
    Calls Try.prog 80 #[.slice A n cp, .string s] w (RLay w (zs ++ textI s) (n + (2 + s.size))) := by
  refine (refputText_sl A n cp zs s w h hn (by omega)).mono ?_
  rintro e w' ⟨A2, c2, W, rfl, rfl, ho, hr, hc, hb⟩
  rw [cutI_small s hs] at ho hr hc
  rw [putTextI_small s hs] at hr
  rw [cutI_small s hs]
  exact ⟨A2, c2, W, rfl, rfl, hr, hc, own_cap ho, hb⟩
set_option maxHeartbeats 2000000 in
theorem fours_any (A : Option Addr) (n cp : Nat) (zs : List Int) (N : Option Addr) (m c : Nat) (l : List Int) (w : World) (h : BReads w A n zs) (hn : n ≤ 1000) (hnc : n ≤ cp) (hcm : cp ≤ 9223372036854775807) (hr : NReads w N m l) (hm : m ≤ 100) :
    Calls Try.prog 62 #[.slice A n cp, .slice N m c] w (RLay w (zs ++ foursI l) (n + 4 * m)) := by
  have H := Lib.hid h
  have HN := Lib.hid hr
  have HL := Lib.hid hr.1
  have E4 : Hid ((4 : Int) = ((4 : Nat) : Int)) := rfl
  clear h hr
  go_enter Try.func62, Try.ntmps62
  go_wp2
  go_loopw [0, 5] (fun bv i wr => ∃ (k : Nat) (A2 : Option Addr) (n2 c2 : Nat), k ≤ m ∧ Hid (n2 = n + 4 * k) ∧ n2 ≤ 1400 ∧ n2 ≤ c2 ∧ c2 ≤ 9223372036854775807 ∧ i = .int .i64 k ∧ bv = .slice A2 n2 c2 ∧ Hid (BReads wr A2 n2 (zs ++ foursI (l.take k))) ∧ Hid (Below w.heap.size w wr)) (fun _ i _ => m - (intOf i).toNat)
  case atStart => exact ⟨0, A, n, cp, by omega, (show n = n + 4 * 0 by omega), by omega, hnc, hcm, rfl, rfl, (by unfold Hid; simpa [foursI] using H.out), Below.refl _ _⟩
  case round =>
    obtain ⟨k, A2, n2, c2, hk, hn2, hn24, hc2, hcm2, rfl, rfl, HR, HB⟩ := hrel
    by_cases hlt : k < m
    · obtain ⟨ad, rfl, hc⟩ := HN.out.at_ k hlt
      have hc' : wr.cell? (ad.add k) = some (.int .i64 (gi l k)) := cell_keep hc HB.out
      have HE : Hid (zs ++ foursI (l.take (k + 1)) = (zs ++ foursI (l.take k)) ++ putI (gi l k) 4) := by
        unfold Hid
        rw [foursI_take l k (by rw [HL.out]; exact hlt), List.append_assoc]
      have hn3 : n2 ≤ 1000000 := by omega
      clear hc
      go_wp2_with (go_at_call 42; (with_reducible refine (refput_r _ _ _ _ _ _ 4 _ HR.out hn3 E4.out (by omega)).mono ?_); rintro e w' ⟨A3, c3, w1, rfl, rfl, hr3, hc3, hcm3, b1⟩; have HR3 := Lib.hid hr3; have HB3 := Lib.hid (bel3 HB.out b1); clear hr3 b1)
      go_roundw
      case rel => exact ⟨k + 1, A3, n2 + 4, c3, by omega, (show n2 + 4 = n + 4 * (k + 1) by have := hn2.out; omega), by have := hn2.out; omega, hc3, hcm3, by go_num, rfl, (by
        unfold Hid
        rw [HE.out]
        exact HR3.out), HB3⟩
      case measure => simp [intOf]; omega
    · obtain rfl : m = k := by omega
      have e2 := hn2.out
      clear hn2
      subst e2
      have HR2 : Hid (BReads wr A2 (n + 4 * m) (zs ++ foursI l)) := by
        have := HR.out
        rwa [List.take_of_length_le (by rw [HL.out]; exact Nat.le_refl _)] at this
      go_wp2
      go_ret
      exact ⟨A2, c2, _, rfl, rfl, HR2.out, hc2, hcm2, HB.out⟩
set_option maxHeartbeats 1000000 in
theorem refflag_any (A : Option Addr) (n cp : Nat) (zs : List Int) (f : Bool) (w : World) (h : BReads w A n zs) (hn : n ≤ 1000000) :
    Calls Try.prog 81 #[.slice A n cp, .bool f] w (RLay w (zs ++ putI (b2n f) 1) (n + 1)) := by
  have H := Lib.hid h
  have E1 : Hid ((1 : Int) = ((1 : Nat) : Int)) := rfl
  clear h
  cases f with
  | true =>
    go_enter Try.func81, Try.ntmps81
    go_wp2_with (go_at_call 42; (with_reducible refine (refput_r _ _ _ _ _ _ 1 _ H.out hn E1.out (by omega)).mono ?_); rintro e w' ⟨A3, c3, w1, rfl, rfl, hr3, hc3, hcm3, b1⟩)
    go_ret
    exact ⟨A3, c3, _, rfl, rfl, hr3, hc3, hcm3, b1⟩
  | false =>
    go_enter Try.func81, Try.ntmps81
    go_wp2_with (go_at_call 42; (with_reducible refine (refput_r _ _ _ _ _ _ 1 _ H.out hn E1.out (by omega)).mono ?_); rintro e w' ⟨A3, c3, w1, rfl, rfl, hr3, hc3, hcm3, b1⟩)
    go_ret
    exact ⟨A3, c3, _, rfl, rfl, hr3, hc3, hcm3, b1⟩
set_option maxHeartbeats 1000000 in
theorem seal_any (A : Option Addr) (n cp : Nat) (zs : List Int) (w : World) (h : BReads w A n zs) (hn : n ≤ 1000000) :
    Calls Try.prog 43 #[.slice A n cp] w (ROwn w (zs ++ putI (addI 0 zs) 4) (n + 4)) := by
  have H := Lib.hid h
  have E4 : Hid ((4 : Int) = ((4 : Nat) : Int)) := rfl
  have HR := Lib.hid (refI_eq zs h.range)
  have hra := addI_range 0 zs (by omega) h.range
  obtain ⟨y, hy⟩ : ∃ y, addI 0 zs = y := ⟨_, rfl⟩
  rw [show ((0 : Nat) : Int) = 0 from rfl, hy] at hra
  have HY := Lib.hid hy
  rw [hy]
  have hw : IntKind.i64.wrap y = y := by
    simp only [IntKind.wrap, IntKind.signed, IntKind.bits]
    simp
    omega
  clear h hy
  go_enter Try.func43, Try.ntmps43
  go_wp2_with (first
    | (go_at_call 65; (with_reducible refine (refof_any _ _ _ _ _ H.out).mono ?_); rintro e w' ⟨rfl, rfl⟩; rw [HR.out, HY.out])
    | (go_at_call 42; (with_reducible refine (refput_o _ _ _ _ _ _ 4 _ H.out hn E4.out (by omega)).mono ?_); rintro e w' ⟨A3, c3, w1, rfl, rfl, ho3, hr3, hc3, hcm3, b1⟩))
  go_ret
  exact ⟨A3, c3, _, rfl, rfl, ho3, hr3, hc3, hcm3, b1⟩
set_option maxHeartbeats 4000000 in
theorem refasked_any (sl q sh sq ep : Int) (t : ByteArray) (k b : Int) (f : Bool) (d : Int) (s : ByteArray) (w : World) (ht : t.size ≤ 60000) (hs : s.size ≤ 60000) :
    Calls Try.prog 63 #[.agg #[.int .i64 sl, .int .i64 q, .int .i64 sh, .int .i64 sq, .int .i64 ep, .string t, .int .i64 k, .int .i64 b, .bool f, .int .i64 d, .string s]] w (RLay w (askI sl q sh sq ep t k b f d s) (28 + t.size + s.size)) := by
  have HN : Hid (NReads ((w.alloc (.cells #[.int .i64 sl, .int .i64 q, .int .i64 sh, .int .i64 sq, .int .i64 ep, .string t, .int .i64 k, .int .i64 b, .bool f, .int .i64 d, .string s] 29)).alloc (.cells #[.int .i64 sl, .int .i64 q, .int .i64 sh, .int .i64 sq, .int .i64 ep] 3)) (some ⟨w.heap.size + 1, 0, none⟩) 5 [sl, q, sh, sq, ep]) := by
    have h3 := nreads_lit (w.alloc (.cells #[.int .i64 sl, .int .i64 q, .int .i64 sh, .int .i64 sq, .int .i64 ep, .string t, .int .i64 k, .int .i64 b, .bool f, .int .i64 d, .string s] 29)) [sl, q, sh, sq, ep] 3 (by simp)
    rwa [show (w.alloc (.cells #[.int .i64 sl, .int .i64 q, .int .i64 sh, .int .i64 sq, .int .i64 ep, .string t, .int .i64 k, .int .i64 b, .bool f, .int .i64 d, .string s] 29)).heap.size = w.heap.size + 1 by simp] at h3
  have HB0 : Hid (Below w.heap.size w ((w.alloc (.cells #[.int .i64 sl, .int .i64 q, .int .i64 sh, .int .i64 sq, .int .i64 ep, .string t, .int .i64 k, .int .i64 b, .bool f, .int .i64 d, .string s] 29)).alloc (.cells #[.int .i64 sl, .int .i64 q, .int .i64 sh, .int .i64 sq, .int .i64 ep] 3))) := bel2 (bel_alloc _ _) (bel_alloc _ _)
  have E1 : Hid ((1 : Int) = ((1 : Nat) : Int)) := rfl
  have c0_5 : ((w.alloc (.cells #[.int .i64 sl, .int .i64 q, .int .i64 sh, .int .i64 sq, .int .i64 ep, .string t, .int .i64 k, .int .i64 b, .bool f, .int .i64 d, .string s] 29)).alloc (.cells #[.int .i64 sl, .int .i64 q, .int .i64 sh, .int .i64 sq, .int .i64 ep] 3)).cell? ⟨w.heap.size, 5, none⟩ = some (.string t) := by simp
  have c0_6 : ((w.alloc (.cells #[.int .i64 sl, .int .i64 q, .int .i64 sh, .int .i64 sq, .int .i64 ep, .string t, .int .i64 k, .int .i64 b, .bool f, .int .i64 d, .string s] 29)).alloc (.cells #[.int .i64 sl, .int .i64 q, .int .i64 sh, .int .i64 sq, .int .i64 ep] 3)).cell? ⟨w.heap.size, 6, none⟩ = some (.int .i64 k) := by simp
  have c0_7 : ((w.alloc (.cells #[.int .i64 sl, .int .i64 q, .int .i64 sh, .int .i64 sq, .int .i64 ep, .string t, .int .i64 k, .int .i64 b, .bool f, .int .i64 d, .string s] 29)).alloc (.cells #[.int .i64 sl, .int .i64 q, .int .i64 sh, .int .i64 sq, .int .i64 ep] 3)).cell? ⟨w.heap.size, 7, none⟩ = some (.int .i64 b) := by simp
  have c0_8 : ((w.alloc (.cells #[.int .i64 sl, .int .i64 q, .int .i64 sh, .int .i64 sq, .int .i64 ep, .string t, .int .i64 k, .int .i64 b, .bool f, .int .i64 d, .string s] 29)).alloc (.cells #[.int .i64 sl, .int .i64 q, .int .i64 sh, .int .i64 sq, .int .i64 ep] 3)).cell? ⟨w.heap.size, 8, none⟩ = some (.bool f) := by simp
  have c0_9 : ((w.alloc (.cells #[.int .i64 sl, .int .i64 q, .int .i64 sh, .int .i64 sq, .int .i64 ep, .string t, .int .i64 k, .int .i64 b, .bool f, .int .i64 d, .string s] 29)).alloc (.cells #[.int .i64 sl, .int .i64 q, .int .i64 sh, .int .i64 sq, .int .i64 ep] 3)).cell? ⟨w.heap.size, 9, none⟩ = some (.int .i64 d) := by simp
  have c0_10 : ((w.alloc (.cells #[.int .i64 sl, .int .i64 q, .int .i64 sh, .int .i64 sq, .int .i64 ep, .string t, .int .i64 k, .int .i64 b, .bool f, .int .i64 d, .string s] 29)).alloc (.cells #[.int .i64 sl, .int .i64 q, .int .i64 sh, .int .i64 sq, .int .i64 ep] 3)).cell? ⟨w.heap.size, 10, none⟩ = some (.string s) := by simp
  go_enter Try.func63, Try.ntmps63
  go_wp2_with (first
    | (go_at_call 62; (with_reducible refine (fours_any none 0 0 [] (some ⟨w.heap.size + 1, 0, none⟩) 5 5 [sl, q, sh, sq, ep] _ (breads_nil _ _) (by omega) (by omega) (by omega) HN.out (by omega)).mono ?_); rintro e w' ⟨A1, c1, w1, rfl, rfl, hr1, hc1, hcm1, b1⟩; have cw1_5 : w1.cell? ⟨w.heap.size, 5, none⟩ = some (.string t) := cell_keep c0_5 b1; have cw1_6 : w1.cell? ⟨w.heap.size, 6, none⟩ = some (.int .i64 k) := cell_keep c0_6 b1; have cw1_7 : w1.cell? ⟨w.heap.size, 7, none⟩ = some (.int .i64 b) := cell_keep c0_7 b1; have cw1_8 : w1.cell? ⟨w.heap.size, 8, none⟩ = some (.bool f) := cell_keep c0_8 b1; have cw1_9 : w1.cell? ⟨w.heap.size, 9, none⟩ = some (.int .i64 d) := cell_keep c0_9 b1; have cw1_10 : w1.cell? ⟨w.heap.size, 10, none⟩ = some (.string s) := cell_keep c0_10 b1; have HR1 := Lib.hid hr1; have HB1 := Lib.hid (bel3 HB0.out b1); clear hr1 b1)
    | (go_at_call 80; (with_reducible refine (reftext_r _ _ _ _ _ _ HR1.out (by omega) (by omega)).mono ?_); rintro e w' ⟨A2, c2, w2, rfl, rfl, hr2, hc2, hcm2, b2⟩; have cw2_5 : w2.cell? ⟨w.heap.size, 5, none⟩ = some (.string t) := cell_keep cw1_5 b2; have cw2_6 : w2.cell? ⟨w.heap.size, 6, none⟩ = some (.int .i64 k) := cell_keep cw1_6 b2; have cw2_7 : w2.cell? ⟨w.heap.size, 7, none⟩ = some (.int .i64 b) := cell_keep cw1_7 b2; have cw2_8 : w2.cell? ⟨w.heap.size, 8, none⟩ = some (.bool f) := cell_keep cw1_8 b2; have cw2_9 : w2.cell? ⟨w.heap.size, 9, none⟩ = some (.int .i64 d) := cell_keep cw1_9 b2; have cw2_10 : w2.cell? ⟨w.heap.size, 10, none⟩ = some (.string s) := cell_keep cw1_10 b2; have HR2 := Lib.hid hr2; have HB2 := Lib.hid (bel3 HB1.out b2); clear hr2 b2))
  have d2_6 : w2.drew.cell? ⟨w.heap.size, 6, none⟩ = some (.int .i64 k) := cw2_6
  have d2_7 : w2.drew.cell? ⟨w.heap.size, 7, none⟩ = some (.int .i64 b) := cw2_7
  have d2_8 : w2.drew.cell? ⟨w.heap.size, 8, none⟩ = some (.bool f) := cw2_8
  have d2_9 : w2.drew.cell? ⟨w.heap.size, 9, none⟩ = some (.int .i64 d) := cw2_9
  have d2_10 : w2.drew.cell? ⟨w.heap.size, 10, none⟩ = some (.string s) := cw2_10
  obtain ⟨z2, hz2⟩ : ∃ z, [] ++ foursI [sl, q, sh, sq, ep] ++ textI t = z := ⟨_, rfl⟩
  rw [hz2] at HR2
  have HZ2 := Lib.hid hz2
  clear hz2
  generalize hn2 : 0 + 4 * 5 + (2 + t.size) = n2 at HR2 hc2 ⊢
  have HN2 := Lib.hid hn2
  have hn2b : n2 ≤ 70000 := by omega
  clear hn2
  have HR2d : Hid (BReads w2.drew A2 n2 z2) := HR2.out
  have HB2d : Hid (Below w.heap.size w w2.drew) := HB2.out.drew
  go_region_held3 (fun w' => w'.cell? ⟨w.heap.size, 6, none⟩ = some (.int .i64 k) ∧ w'.cell? ⟨w.heap.size, 7, none⟩ = some (.int .i64 b) ∧ w'.cell? ⟨w.heap.size, 8, none⟩ = some (.bool f) ∧ w'.cell? ⟨w.heap.size, 9, none⟩ = some (.int .i64 d) ∧ w'.cell? ⟨w.heap.size, 10, none⟩ = some (.string s)) (first | exact ⟨d2_6, d2_7, d2_8, d2_9, d2_10⟩ | exact ⟨cell_keep d2_6 K3, cell_keep d2_7 K3, cell_keep d2_8 K3, cell_keep d2_9 K3, cell_keep d2_10 K3⟩ | exact ⟨cell_keep d2_6 K4, cell_keep d2_7 K4, cell_keep d2_8 K4, cell_keep d2_9 K4, cell_keep d2_10 K4⟩)
    (first
    | (go_at_call 42; (with_reducible refine (refput_r A2 n2 c2 z2 k 1 1 w2.drew HR2d.out (by omega) E1.out (by omega)).mono ?_); rintro e w' ⟨A3, c3, w3, rfl, rfl, hr3, hc3, hcm3, b3⟩; have K3 := b3; have HR3 := Lib.hid hr3; clear hr3 b3)
    | (go_at_call 42; (with_reducible refine (refput_r A3 (n2 + 1) c3 _ b 1 1 w3 HR3.out (by omega) E1.out (by omega)).mono ?_); rintro e w' ⟨A4, c4, w4, rfl, rfl, hr4, hc4, hcm4, b4⟩; have K4 := bel3 K3 b4; have HR4 := Lib.hid hr4; clear hr4 b4))
  have cw4_8 : w4.cell? ⟨w.heap.size, 8, none⟩ = some (.bool f) := cell_keep d2_8 K4
  have cw4_9 : w4.cell? ⟨w.heap.size, 9, none⟩ = some (.int .i64 d) := cell_keep d2_9 K4
  have cw4_10 : w4.cell? ⟨w.heap.size, 10, none⟩ = some (.string s) := cell_keep d2_10 K4
  go_wp2_with (go_at_call 81; (with_reducible refine (refflag_any _ _ _ _ _ _ HR4.out (by omega)).mono ?_); rintro e w' ⟨A5, c5, w5, rfl, rfl, hr5, hc5, hcm5, b5⟩; have cw5_9 : w5.cell? ⟨w.heap.size, 9, none⟩ = some (.int .i64 d) := cell_keep cw4_9 b5; have cw5_10 : w5.cell? ⟨w.heap.size, 10, none⟩ = some (.string s) := cell_keep cw4_10 b5; have K5 := bel3 K4 b5; have HR5 := Lib.hid hr5; clear hr5 b5)
  have d5_9 : w5.drew.cell? ⟨w.heap.size, 9, none⟩ = some (.int .i64 d) := cw5_9
  have d5_10 : w5.drew.cell? ⟨w.heap.size, 10, none⟩ = some (.string s) := cw5_10
  have HR5d : Hid (BReads w5.drew A5 (n2 + 1 + 1 + 1) _) := HR5.out
  have K5d : Below w.heap.size w w5.drew := (bel3 HB2d.out K5).drew
  go_region_held3 (fun w' => w'.cell? ⟨w.heap.size, 9, none⟩ = some (.int .i64 d) ∧ w'.cell? ⟨w.heap.size, 10, none⟩ = some (.string s)) (first | exact ⟨d5_9, d5_10⟩ | exact ⟨cell_keep d5_9 K6, cell_keep d5_10 K6⟩ | exact ⟨cell_keep d5_9 K7, cell_keep d5_10 K7⟩)
    (first
    | (go_at_call 42; (with_reducible refine (refput_r A5 (n2 + 1 + 1 + 1) c5 _ d 1 1 w5.drew HR5d.out (by omega) E1.out (by omega)).mono ?_); rintro e w' ⟨A6, c6, w6, rfl, rfl, hr6, hc6, hcm6, b6⟩; have K6 := b6; have HR6 := Lib.hid hr6; clear hr6 b6)
    | (go_at_call 80; (with_reducible refine (reftext_r A6 (n2 + 1 + 1 + 1 + 1) c6 _ s w6 HR6.out (by omega) (by omega)).mono ?_); rintro e w' ⟨A7, c7, w7, rfl, rfl, hr7, hc7, hcm7, b7⟩; have K7 := bel3 K6 b7; have HR7 := Lib.hid hr7; clear hr7 b7))
  go_wp2
  go_ret
  have hF : z2 ++ putI k 1 ++ putI b 1 ++ putI (b2n f) 1 ++ putI d 1 ++ textI s = askI sl q sh sq ep t k b f d s := by
    rw [← HZ2.out]
    simp only [askI, itemI, List.append_assoc, List.nil_append]
  have hr := HR7.out
  rw [hF] at hr
  have hL : n2 + 1 + 1 + 1 + 1 + (2 + s.size) = 28 + t.size + s.size := by
    have := HN2.out
    omega
  rw [hL] at hr hc7
  exact ⟨A7, c7, _, by rw [← hL]; rfl, rfl, hr, hc7, hcm7, bel3 K5d K7⟩
end Go.Proofs.Ytajhkjikcgfhdaa
namespace Go.Proofs.Ytajhkjikcgfhdaa
set_option linter.unusedVariables false
set_option linter.unusedSimpArgs false
set_option maxRecDepth 20000
open Go.RowKit
theorem itemsI_one (xs : List (Int × ByteArray)) (k : Nat) (h : k < xs.length) : itemsI (xs.take (k + 1)) = itemsI (xs.take k) ++ (putI (gx xs k).1 1 ++ textI (gx xs k).2) := by
  have e : xs.take (k + 1) = xs.take k ++ [gx xs k] := by rw [List.take_add_one, gx_eq xs k h]; rfl
  rw [e]
  unfold itemsI
  rw [List.flatMap_append, List.flatMap_singleton]
  rfl
set_option maxHeartbeats 4000000 in
theorem refreplied_any (sl q sh sq wk ep : Int) (A : Option Addr) (n c : Nat) (en : Bool) (xs : List (Int × ByteArray)) (w : World) (hx : XReads w A n xs) (hs : Small 60000 xs) (hn : n ≤ 5) (N : Nat) (hN : (replyI sl q sh sq wk ep xs en).length = N) :
    Calls Try.prog 64 #[.agg #[.int .i64 sl, .int .i64 q, .int .i64 sh, .int .i64 sq, .int .i64 wk, .int .i64 ep, .slice A n c, .bool en]] w (RLay w (replyI sl q sh sq wk ep xs en) N) := by
  have HN : Hid (NReads ((w.alloc (.cells #[.int .i64 sl, .int .i64 q, .int .i64 sh, .int .i64 sq, .int .i64 wk, .int .i64 ep, .slice A n c, .bool en] 32)).alloc (.cells #[.int .i64 sl, .int .i64 q, .int .i64 sh, .int .i64 sq, .int .i64 wk, .int .i64 ep] 3)) (some ⟨w.heap.size + 1, 0, none⟩) 6 [sl, q, sh, sq, wk, ep]) := by
    have h3 := nreads_lit (w.alloc (.cells #[.int .i64 sl, .int .i64 q, .int .i64 sh, .int .i64 sq, .int .i64 wk, .int .i64 ep, .slice A n c, .bool en] 32)) [sl, q, sh, sq, wk, ep] 3 (by simp)
    rwa [show (w.alloc (.cells #[.int .i64 sl, .int .i64 q, .int .i64 sh, .int .i64 sq, .int .i64 wk, .int .i64 ep, .slice A n c, .bool en] 32)).heap.size = w.heap.size + 1 by simp] at h3
  have HB0 : Hid (Below w.heap.size w ((w.alloc (.cells #[.int .i64 sl, .int .i64 q, .int .i64 sh, .int .i64 sq, .int .i64 wk, .int .i64 ep, .slice A n c, .bool en] 32)).alloc (.cells #[.int .i64 sl, .int .i64 q, .int .i64 sh, .int .i64 sq, .int .i64 wk, .int .i64 ep] 3))) := bel2 (bel_alloc _ _) (bel_alloc _ _)
  have E1 : Hid ((1 : Int) = ((1 : Nat) : Int)) := rfl
  have c0_6 : ((w.alloc (.cells #[.int .i64 sl, .int .i64 q, .int .i64 sh, .int .i64 sq, .int .i64 wk, .int .i64 ep, .slice A n c, .bool en] 32)).alloc (.cells #[.int .i64 sl, .int .i64 q, .int .i64 sh, .int .i64 sq, .int .i64 wk, .int .i64 ep] 3)).cell? ⟨w.heap.size, 6, none⟩ = some (.slice A n c) := by simp
  have c0_7 : ((w.alloc (.cells #[.int .i64 sl, .int .i64 q, .int .i64 sh, .int .i64 sq, .int .i64 wk, .int .i64 ep, .slice A n c, .bool en] 32)).alloc (.cells #[.int .i64 sl, .int .i64 q, .int .i64 sh, .int .i64 sq, .int .i64 wk, .int .i64 ep] 3)).cell? ⟨w.heap.size, 7, none⟩ = some (.bool en) := by simp
  have HX := Lib.hid hx
  have HXL := Lib.hid hx.1
  have HS := Lib.hid hs
  have HNN := Lib.hid hN
  clear hx hs hN
  go_enter Try.func64, Try.ntmps64
  go_wp2_with (first
    | (go_at_call 62; (with_reducible refine (fours_any none 0 0 [] (some ⟨w.heap.size + 1, 0, none⟩) 6 6 [sl, q, sh, sq, wk, ep] _ (breads_nil _ _) (by omega) (by omega) (by omega) HN.out (by omega)).mono ?_); rintro e w' ⟨A1, c1, w1, rfl, rfl, hr1, hc1, hcm1, b1⟩; have cw1_6 := cell_keep c0_6 b1; have cw1_7 := cell_keep c0_7 b1; have HR1 := Lib.hid hr1; have HB1 := Lib.hid (bel3 HB0.out b1); clear hr1 b1)
    | (go_at_call 42; (with_reducible refine (refput_r A1 _ c1 _ (n : Int) 1 1 w1 HR1.out (by omega) E1.out (by omega)).mono ?_); rintro e w' ⟨A2, c2, w2, rfl, rfl, hr2, hc2, hcm2, b2⟩; have cw2_6 := cell_keep cw1_6 b2; have cw2_7 := cell_keep cw1_7 b2; have HR2 := Lib.hid hr2; have HB2 := Lib.hid (bel3 HB1.out b2); clear hr2 b2))
  obtain ⟨z2, hz2⟩ : ∃ z, [] ++ foursI [sl, q, sh, sq, wk, ep] ++ putI (n : Int) 1 = z := ⟨_, rfl⟩
  rw [hz2] at HR2
  have HZ2 := Lib.hid hz2
  have HX2 := Lib.hid (HX.out.below HB2.out)
  clear hz2
  go_loopw [3, 4] (fun bv i wr => ∃ (k : Nat) (A3 : Option Addr) (n3 c3 : Nat), k ≤ n ∧ n3 ≤ 25 + 60003 * k ∧ n3 ≤ c3 ∧ c3 ≤ 9223372036854775807 ∧ i = .int .i64 k ∧ bv = .slice A3 n3 c3 ∧ Hid (BReads wr A3 n3 (z2 ++ itemsI (xs.take k))) ∧ Hid (Below w2.heap.size w2 wr)) (fun _ i _ => n - (intOf i).toNat)
  case atStart => exact ⟨0, A2, _, c2, by omega, by omega, hc2, hcm2, rfl, rfl, (by unfold Hid; simpa [itemsI] using HR2.out), Below.refl _ _⟩
  case round =>
    obtain ⟨k, A3, n3, c3, hk, hn3, hc3, hcm3, rfl, rfl, HR3, HB3⟩ := hrel
    have cr6 := cell_keep cw2_6 HB3.out
    have cr7 := cell_keep cw2_7 HB3.out
    by_cases hlt : k < n
    · obtain ⟨ad, rfl, a0, a1⟩ := (HX2.out.below HB3.out).at_ k hlt
      have hsz := HS.out _ (List.mem_of_getElem? (gx_eq xs k (by rw [HXL.out]; exact hlt)))
      have HE := Lib.hid (itemsI_one xs k (by rw [HXL.out]; exact hlt))
      obtain ⟨d', hd'⟩ : ∃ d, (gx xs k).1 = d := ⟨_, rfl⟩
      obtain ⟨s', hs'⟩ : ∃ s, (gx xs k).2 = s := ⟨_, rfl⟩
      rw [hd'] at a0 HE
      rw [hs'] at a1 HE hsz
      clear hd' hs'
      go_wp2_with fail
      have b6 : wr.drew.cell? ⟨w.heap.size, 6, none⟩ = some (.slice (some ad) n c) := cr6
      have b0 : wr.drew.cell? (ad.add (k * 2)) = some (.int .i64 d') := a0
      have b1 : wr.drew.cell? ⟨(ad.add (k * 2)).block, (ad.add (k * 2)).off + 1, none⟩ = some (.string s') := a1
      have HR3d : Hid (BReads wr.drew A3 n3 (z2 ++ itemsI (xs.take k))) := HR3.out
      go_region_held3 (fun w' => w'.cell? ⟨w.heap.size, 6, none⟩ = some (.slice (some ad) n c) ∧ w'.cell? (ad.add (k * 2)) = some (.int .i64 d') ∧ w'.cell? ⟨(ad.add (k * 2)).block, (ad.add (k * 2)).off + 1, none⟩ = some (.string s')) (first | exact ⟨b6, b0, b1⟩ | exact ⟨cell_keep b6 K4, cell_keep b0 K4, cell_keep b1 K4⟩ | exact ⟨cell_keep b6 K5, cell_keep b0 K5, cell_keep b1 K5⟩)
        (first
        | (go_at_call 42; (with_reducible refine (refput_r A3 n3 c3 _ d' 1 1 wr.drew HR3d.out (by omega) E1.out (by omega)).mono ?_); rintro e w' ⟨A4, c4, w4, rfl, rfl, hr4, hc4, hcm4, b4⟩; have K4 := b4; have HR4 := Lib.hid hr4; clear hr4 b4)
        | (go_at_call 80; (with_reducible refine (reftext_r A4 (n3 + 1) c4 _ s' w4 HR4.out (by omega) (by omega)).mono ?_); rintro e w' ⟨A5, c5, w5, rfl, rfl, hr5, hc5, hcm5, b5⟩; have K5 := bel3 K4 b5; have HR5 := Lib.hid hr5; clear hr5 b5))
      go_wp2
      go_roundw
      case rel => exact ⟨k + 1, A5, n3 + 1 + (2 + s'.size), c5, by omega, by omega, hc5, hcm5, by go_num, rfl, (by
        unfold Hid
        rw [HE.out, ← List.append_assoc, ← List.append_assoc]
        exact HR5.out), bel3 HB3.out.drew K5⟩
      case measure => simp [intOf]; omega
    · obtain rfl : n = k := by omega
      have HR4 : Hid (BReads wr A3 n3 (z2 ++ itemsI xs)) := by
        have := HR3.out
        rwa [List.take_of_length_le (by rw [HXL.out]; exact Nat.le_refl _)] at this
      go_wp2_with (go_at_call 81; (with_reducible refine (refflag_any A3 n3 c3 _ en wr HR4.out (by omega)).mono ?_); rintro e w' ⟨A5, c5, w5, rfl, rfl, hr5, hc5, hcm5, b5⟩)
      go_ret
      have hF : z2 ++ itemsI xs ++ putI (b2n en) 1 = replyI sl q sh sq wk ep xs en := by
        rw [← HZ2.out]
        simp only [replyI, List.append_assoc, List.nil_append, HXL.out]
      rw [hF] at hr5
      have hL : n3 + 1 = N := hr5.1.symm.trans HNN.out
      rw [hL] at hr5 hc5
      exact ⟨A5, c5, _, by rw [← hL]; rfl, rfl, hr5, hc5, hcm5, bel3 (bel3 HB2.out HB3.out) b5⟩
set_option maxHeartbeats 2000000 in
theorem refbody_hello (hw hl : Int) (w : World) : Calls Try.prog 41 #[.agg #[.int .i64 1, .int .i64 hw, .int .i64 hl, .int .i64 0, .int .i64 0, .int .i64 0, .int .i64 0, .int .i64 0, .int .i64 0, .int .i64 0, .int .i64 0, .string ⟨#[]⟩, .int .i64 0, .int .i64 0, .bool false, .int .i64 0, .string ⟨#[]⟩, .int .i64 0, .int .i64 0, .int .i64 0, .int .i64 0, .int .i64 0, .int .i64 0, .slice none 0 0, .bool false, .int .i64 0, .int .i64 0]] w (RLay w (helloI hw hl) 8) := by
  have HN : Hid (NReads ((w.alloc (.cells #[.int .i64 1, .int .i64 hw, .int .i64 hl, .int .i64 0, .int .i64 0, .int .i64 0, .int .i64 0, .int .i64 0, .int .i64 0, .int .i64 0, .int .i64 0, .string ⟨#[]⟩, .int .i64 0, .int .i64 0, .bool false, .int .i64 0, .string ⟨#[]⟩, .int .i64 0, .int .i64 0, .int .i64 0, .int .i64 0, .int .i64 0, .int .i64 0, .slice none 0 0, .bool false, .int .i64 0, .int .i64 0] 46)).alloc (.cells #[.int .i64 hw, .int .i64 hl] 3)) (some ⟨w.heap.size + 1, 0, none⟩) 2 [hw, hl]) := by
    have h3 := nreads_lit (w.alloc (.cells #[.int .i64 1, .int .i64 hw, .int .i64 hl, .int .i64 0, .int .i64 0, .int .i64 0, .int .i64 0, .int .i64 0, .int .i64 0, .int .i64 0, .int .i64 0, .string ⟨#[]⟩, .int .i64 0, .int .i64 0, .bool false, .int .i64 0, .string ⟨#[]⟩, .int .i64 0, .int .i64 0, .int .i64 0, .int .i64 0, .int .i64 0, .int .i64 0, .slice none 0 0, .bool false, .int .i64 0, .int .i64 0] 46)) [hw, hl] 3 (by simp)
    rwa [show (w.alloc (.cells #[.int .i64 1, .int .i64 hw, .int .i64 hl, .int .i64 0, .int .i64 0, .int .i64 0, .int .i64 0, .int .i64 0, .int .i64 0, .int .i64 0, .int .i64 0, .string ⟨#[]⟩, .int .i64 0, .int .i64 0, .bool false, .int .i64 0, .string ⟨#[]⟩, .int .i64 0, .int .i64 0, .int .i64 0, .int .i64 0, .int .i64 0, .int .i64 0, .slice none 0 0, .bool false, .int .i64 0, .int .i64 0] 46)).heap.size = w.heap.size + 1 by simp] at h3
  go_enter Try.func41, Try.ntmps41
  go_wp2_with (go_at_call 62; (with_reducible refine (fours_any none 0 0 [] (some ⟨w.heap.size + 1, 0, none⟩) 2 2 [hw, hl] _ (breads_nil _ _) (by omega) (by omega) (by omega) HN.out (by omega)).mono ?_); rintro e w' ⟨A1, c1, w1, rfl, rfl, hr1, hc1, hcm1, b1⟩)
  go_ret
  exact ⟨A1, c1, _, rfl, rfl, hr1, hc1, hcm1, bel3 (bel2 (bel_alloc _ _) (bel_alloc _ _)) b1⟩
set_option maxHeartbeats 2000000 in
theorem refbody_grant (gw gl ge : Int) (w : World) : Calls Try.prog 41 #[.agg #[.int .i64 2, .int .i64 0, .int .i64 0, .int .i64 gw, .int .i64 gl, .int .i64 ge, .int .i64 0, .int .i64 0, .int .i64 0, .int .i64 0, .int .i64 0, .string ⟨#[]⟩, .int .i64 0, .int .i64 0, .bool false, .int .i64 0, .string ⟨#[]⟩, .int .i64 0, .int .i64 0, .int .i64 0, .int .i64 0, .int .i64 0, .int .i64 0, .slice none 0 0, .bool false, .int .i64 0, .int .i64 0]] w (RLay w (grantI gw gl ge) 12) := by
  have HN : Hid (NReads ((w.alloc (.cells #[.int .i64 2, .int .i64 0, .int .i64 0, .int .i64 gw, .int .i64 gl, .int .i64 ge, .int .i64 0, .int .i64 0, .int .i64 0, .int .i64 0, .int .i64 0, .string ⟨#[]⟩, .int .i64 0, .int .i64 0, .bool false, .int .i64 0, .string ⟨#[]⟩, .int .i64 0, .int .i64 0, .int .i64 0, .int .i64 0, .int .i64 0, .int .i64 0, .slice none 0 0, .bool false, .int .i64 0, .int .i64 0] 46)).alloc (.cells #[.int .i64 gw, .int .i64 gl, .int .i64 ge] 3)) (some ⟨w.heap.size + 1, 0, none⟩) 3 [gw, gl, ge]) := by
    have h3 := nreads_lit (w.alloc (.cells #[.int .i64 2, .int .i64 0, .int .i64 0, .int .i64 gw, .int .i64 gl, .int .i64 ge, .int .i64 0, .int .i64 0, .int .i64 0, .int .i64 0, .int .i64 0, .string ⟨#[]⟩, .int .i64 0, .int .i64 0, .bool false, .int .i64 0, .string ⟨#[]⟩, .int .i64 0, .int .i64 0, .int .i64 0, .int .i64 0, .int .i64 0, .int .i64 0, .slice none 0 0, .bool false, .int .i64 0, .int .i64 0] 46)) [gw, gl, ge] 3 (by simp)
    rwa [show (w.alloc (.cells #[.int .i64 2, .int .i64 0, .int .i64 0, .int .i64 gw, .int .i64 gl, .int .i64 ge, .int .i64 0, .int .i64 0, .int .i64 0, .int .i64 0, .int .i64 0, .string ⟨#[]⟩, .int .i64 0, .int .i64 0, .bool false, .int .i64 0, .string ⟨#[]⟩, .int .i64 0, .int .i64 0, .int .i64 0, .int .i64 0, .int .i64 0, .int .i64 0, .slice none 0 0, .bool false, .int .i64 0, .int .i64 0] 46)).heap.size = w.heap.size + 1 by simp] at h3
  go_enter Try.func41, Try.ntmps41
  go_wp2_with (go_at_call 62; (with_reducible refine (fours_any none 0 0 [] (some ⟨w.heap.size + 1, 0, none⟩) 3 3 [gw, gl, ge] _ (breads_nil _ _) (by omega) (by omega) (by omega) HN.out (by omega)).mono ?_); rintro e w' ⟨A1, c1, w1, rfl, rfl, hr1, hc1, hcm1, b1⟩)
  go_ret
  exact ⟨A1, c1, _, rfl, rfl, hr1, hc1, hcm1, bel3 (bel2 (bel_alloc _ _) (bel_alloc _ _)) b1⟩
set_option maxHeartbeats 2000000 in
theorem refbody_stop (sl q : Int) (w : World) : Calls Try.prog 41 #[.agg #[.int .i64 5, .int .i64 0, .int .i64 0, .int .i64 0, .int .i64 0, .int .i64 0, .int .i64 0, .int .i64 0, .int .i64 0, .int .i64 0, .int .i64 0, .string ⟨#[]⟩, .int .i64 0, .int .i64 0, .bool false, .int .i64 0, .string ⟨#[]⟩, .int .i64 0, .int .i64 0, .int .i64 0, .int .i64 0, .int .i64 0, .int .i64 0, .slice none 0 0, .bool false, .int .i64 sl, .int .i64 q]] w (RLay w (stopI sl q) 8) := by
  have HN : Hid (NReads ((w.alloc (.cells #[.int .i64 5, .int .i64 0, .int .i64 0, .int .i64 0, .int .i64 0, .int .i64 0, .int .i64 0, .int .i64 0, .int .i64 0, .int .i64 0, .int .i64 0, .string ⟨#[]⟩, .int .i64 0, .int .i64 0, .bool false, .int .i64 0, .string ⟨#[]⟩, .int .i64 0, .int .i64 0, .int .i64 0, .int .i64 0, .int .i64 0, .int .i64 0, .slice none 0 0, .bool false, .int .i64 sl, .int .i64 q] 46)).alloc (.cells #[.int .i64 sl, .int .i64 q] 3)) (some ⟨w.heap.size + 1, 0, none⟩) 2 [sl, q]) := by
    have h3 := nreads_lit (w.alloc (.cells #[.int .i64 5, .int .i64 0, .int .i64 0, .int .i64 0, .int .i64 0, .int .i64 0, .int .i64 0, .int .i64 0, .int .i64 0, .int .i64 0, .int .i64 0, .string ⟨#[]⟩, .int .i64 0, .int .i64 0, .bool false, .int .i64 0, .string ⟨#[]⟩, .int .i64 0, .int .i64 0, .int .i64 0, .int .i64 0, .int .i64 0, .int .i64 0, .slice none 0 0, .bool false, .int .i64 sl, .int .i64 q] 46)) [sl, q] 3 (by simp)
    rwa [show (w.alloc (.cells #[.int .i64 5, .int .i64 0, .int .i64 0, .int .i64 0, .int .i64 0, .int .i64 0, .int .i64 0, .int .i64 0, .int .i64 0, .int .i64 0, .int .i64 0, .string ⟨#[]⟩, .int .i64 0, .int .i64 0, .bool false, .int .i64 0, .string ⟨#[]⟩, .int .i64 0, .int .i64 0, .int .i64 0, .int .i64 0, .int .i64 0, .int .i64 0, .slice none 0 0, .bool false, .int .i64 sl, .int .i64 q] 46)).heap.size = w.heap.size + 1 by simp] at h3
  go_enter Try.func41, Try.ntmps41
  go_wp2_with (go_at_call 62; (with_reducible refine (fours_any none 0 0 [] (some ⟨w.heap.size + 1, 0, none⟩) 2 2 [sl, q] _ (breads_nil _ _) (by omega) (by omega) (by omega) HN.out (by omega)).mono ?_); rintro e w' ⟨A1, c1, w1, rfl, rfl, hr1, hc1, hcm1, b1⟩)
  go_ret
  exact ⟨A1, c1, _, rfl, rfl, hr1, hc1, hcm1, bel3 (bel2 (bel_alloc _ _) (bel_alloc _ _)) b1⟩
set_option maxHeartbeats 2000000 in
theorem refbody_ask (sl q sh sq ep : Int) (t : ByteArray) (k b : Int) (f : Bool) (d : Int) (s : ByteArray) (w : World) (ht : t.size ≤ 60000) (hs : s.size ≤ 60000) : Calls Try.prog 41 #[.agg #[.int .i64 3, .int .i64 0, .int .i64 0, .int .i64 0, .int .i64 0, .int .i64 0, .int .i64 sl, .int .i64 q, .int .i64 sh, .int .i64 sq, .int .i64 ep, .string t, .int .i64 k, .int .i64 b, .bool f, .int .i64 d, .string s, .int .i64 0, .int .i64 0, .int .i64 0, .int .i64 0, .int .i64 0, .int .i64 0, .slice none 0 0, .bool false, .int .i64 0, .int .i64 0]] w (RLay w (askI sl q sh sq ep t k b f d s) (28 + t.size + s.size)) := by
  go_enter Try.func41, Try.ntmps41
  go_wp2_with (go_at_call 63; (with_reducible refine (refasked_any sl q sh sq ep t k b f d s _ ht hs).mono ?_); rintro e w' ⟨A1, c1, w1, rfl, rfl, hr1, hc1, hcm1, b1⟩)
  go_ret
  exact ⟨A1, c1, _, rfl, rfl, hr1, hc1, hcm1, bel3 (bel_alloc _ _) b1⟩
set_option maxHeartbeats 2000000 in
theorem refbody_reply (sl q sh sq wk ep : Int) (A : Option Addr) (n c : Nat) (en : Bool) (xs : List (Int × ByteArray)) (w : World) (hx : XReads w A n xs) (hs : Small 60000 xs) (hn : n ≤ 5) (N : Nat) (hN : (replyI sl q sh sq wk ep xs en).length = N) : Calls Try.prog 41 #[.agg #[.int .i64 4, .int .i64 0, .int .i64 0, .int .i64 0, .int .i64 0, .int .i64 0, .int .i64 0, .int .i64 0, .int .i64 0, .int .i64 0, .int .i64 0, .string ⟨#[]⟩, .int .i64 0, .int .i64 0, .bool false, .int .i64 0, .string ⟨#[]⟩, .int .i64 sl, .int .i64 q, .int .i64 sh, .int .i64 sq, .int .i64 wk, .int .i64 ep, .slice A n c, .bool en, .int .i64 0, .int .i64 0]] w (RLay w (replyI sl q sh sq wk ep xs en) N) := by
  have HX : Hid (XReads (w.alloc (.cells #[.int .i64 4, .int .i64 0, .int .i64 0, .int .i64 0, .int .i64 0, .int .i64 0, .int .i64 0, .int .i64 0, .int .i64 0, .int .i64 0, .int .i64 0, .string ⟨#[]⟩, .int .i64 0, .int .i64 0, .bool false, .int .i64 0, .string ⟨#[]⟩, .int .i64 sl, .int .i64 q, .int .i64 sh, .int .i64 sq, .int .i64 wk, .int .i64 ep, .slice A n c, .bool en, .int .i64 0, .int .i64 0] 46)) A n xs) := hx.below (bel_alloc _ _)
  clear hx
  go_enter Try.func41, Try.ntmps41
  go_wp2_with (go_at_call 64; (with_reducible refine (refreplied_any sl q sh sq wk ep A n c en xs _ HX.out hs hn N hN).mono ?_); rintro e w' ⟨A1, c1, w1, rfl, rfl, hr1, hc1, hcm1, b1⟩)
  go_ret
  exact ⟨A1, c1, _, rfl, rfl, hr1, hc1, hcm1, bel3 (bel_alloc _ _) b1⟩
end Go.Proofs.Ytajhkjikcgfhdaa
namespace Go.Proofs.Ytajhkjikcgfhdaa
set_option linter.unusedVariables false
set_option linter.unusedSimpArgs false
set_option maxRecDepth 20000
open Go.RowKit
/-- The reference's Encode has answered. -/
def RefOk (w : World) (zs : List Int) (n : Nat) (e : Ending) (w' : World) : Prop := ∃ A c W, e = .returned (.tuple #[.slice A n c, .int .i64 0]) ∧ W = w' ∧ BReads W A n zs ∧ n ≤ c ∧ c ≤ 9223372036854775807 ∧ Below w.heap.size w W
def RefNo (w : World) (e : Ending) (w' : World) : Prop := ∃ W, e = .returned (.tuple #[.slice none 0 0, .int .i64 2]) ∧ W = w' ∧ Below w.heap.size w W
set_option maxHeartbeats 4000000 in
theorem refenc_hello (hw hl : Int) (w : World) (h : helloB hw hl = true) (L : Nat) (hL : (frameI 1 (helloI hw hl)).length = L) :
    Calls Try.prog 15 #[.agg #[.int .i64 1, .int .i64 hw, .int .i64 hl, .int .i64 0, .int .i64 0, .int .i64 0, .int .i64 0, .int .i64 0, .int .i64 0, .int .i64 0, .int .i64 0, .string ⟨#[]⟩, .int .i64 0, .int .i64 0, .bool false, .int .i64 0, .string ⟨#[]⟩, .int .i64 0, .int .i64 0, .int .i64 0, .int .i64 0, .int .i64 0, .int .i64 0, .slice none 0 0, .bool false, .int .i64 0, .int .i64 0]] w (RefOk w (frameI 1 (helloI hw hl)) L) := by
  obtain ⟨i0, hi, hz0, hz1, hz2⟩ := info_parts info_u8
  have I := Lib.hid (And.intro hi (And.intro hz0 (And.intro hz1 hz2)))
  obtain ⟨N, hN8⟩ : ∃ N, N = 8 := ⟨_, rfl⟩
  have HBODY : ∀ w, Calls Try.prog 41 #[.agg #[.int .i64 1, .int .i64 hw, .int .i64 hl, .int .i64 0, .int .i64 0, .int .i64 0, .int .i64 0, .int .i64 0, .int .i64 0, .int .i64 0, .int .i64 0, .string ⟨#[]⟩, .int .i64 0, .int .i64 0, .bool false, .int .i64 0, .string ⟨#[]⟩, .int .i64 0, .int .i64 0, .int .i64 0, .int .i64 0, .int .i64 0, .int .i64 0, .slice none 0 0, .bool false, .int .i64 0, .int .i64 0]] w (RLay w (helloI hw hl) N) := fun w => by
    rw [hN8]
    exact refbody_hello hw hl w
  have hNb : N ≤ 900 := by omega
  clear hN8
  have HM := Lib.hid h
  have E1 : Hid ((1 : Int) = ((1 : Nat) : Int)) := rfl
  have E2 : Hid ((2 : Int) = ((2 : Nat) : Int)) := rfl
  have HLL := Lib.hid hL
  clear h hi hz0 hz1 hz2 hL
  have K0 : Blk (w.alloc (.cells #[.int .i64 1, .int .i64 hw, .int .i64 hl, .int .i64 0, .int .i64 0, .int .i64 0, .int .i64 0, .int .i64 0, .int .i64 0, .int .i64 0, .int .i64 0, .string ⟨#[]⟩, .int .i64 0, .int .i64 0, .bool false, .int .i64 0, .string ⟨#[]⟩, .int .i64 0, .int .i64 0, .int .i64 0, .int .i64 0, .int .i64 0, .int .i64 0, .slice none 0 0, .bool false, .int .i64 0, .int .i64 0] 46)) w.heap.size 46 #[.int .i64 1, .int .i64 hw, .int .i64 hl, .int .i64 0, .int .i64 0, .int .i64 0, .int .i64 0, .int .i64 0, .int .i64 0, .int .i64 0, .int .i64 0, .string ⟨#[]⟩, .int .i64 0, .int .i64 0, .bool false, .int .i64 0, .string ⟨#[]⟩, .int .i64 0, .int .i64 0, .int .i64 0, .int .i64 0, .int .i64 0, .int .i64 0, .slice none 0 0, .bool false, .int .i64 0, .int .i64 0] := Blk.new w _ _
  have hb0 : Below w.heap.size w (w.alloc (.cells #[.int .i64 1, .int .i64 hw, .int .i64 hl, .int .i64 0, .int .i64 0, .int .i64 0, .int .i64 0, .int .i64 0, .int .i64 0, .int .i64 0, .int .i64 0, .string ⟨#[]⟩, .int .i64 0, .int .i64 0, .bool false, .int .i64 0, .string ⟨#[]⟩, .int .i64 0, .int .i64 0, .int .i64 0, .int .i64 0, .int .i64 0, .int .i64 0, .slice none 0 0, .bool false, .int .i64 0, .int .i64 0] 46)) := bel_alloc _ _
  go_enter Try.func15, Try.ntmps15
  go_wp2_with (first
    | (refine wpList_load_row rfl 46 (.tmp 1) rfl w.heap.size rfl 46 _ (0, 0) _ K0 Try.underlying46 rfl (by kernel_rfl) ?_)
    | (refine wpList_load_row rfl 46 (.tmp 1) rfl w.heap.size rfl 46 _ (0, 0) _ K1 Try.underlying46 rfl (by kernel_rfl) ?_)
    | (go_at_call 20; (with_reducible refine (refmay_hello hw hl _).mono ?_); rintro e w' ⟨w1, rfl, rfl, b1⟩; rw [HM.out]; have K1 := K0.below b1 K0.lt; have e_0 : w1.cell? ⟨w.heap.size, 0, none⟩ = some (.int .i64 1) := (K1.cell 0).trans rfl; have HB1 := Lib.hid (bel3 hb0 b1); clear b1)
    | (go_at_call 41; (with_reducible refine (HBODY _).mono ?_); rintro e w' ⟨A2, c2, w2, rfl, rfl, hr2, hc2, hcm2, b2⟩; have d0 := cell_keep e_0 b2; have HR2 := Lib.hid hr2; have HB2 := Lib.hid (bel3 HB1.out b2); clear hr2 b2))
  obtain ⟨bz, hbz⟩ : ∃ bz, (helloI hw hl) = bz := ⟨_, rfl⟩
  rw [hbz] at HR2 HLL
  have HBZ := Lib.hid hbz
  clear hbz
  have f0 : w2.drew.cell? ⟨w.heap.size, 0, none⟩ = some (.int .i64 1) := d0
  clear e_0 K0 K1
  have sm : IntKind.i64.wrap ((N : Int) + 7) = (N : Int) + 7 := by
    first
    | decide
    | (simp only [IntKind.wrap, IntKind.signed, IntKind.bits]
       simp
       omega)
  go_region_held3 (fun w' => w'.cell? ⟨w.heap.size, 0, none⟩ = some (.int .i64 1)) (first | exact f0 | exact cell_keep f0 K3 | exact cell_keep f0 K4)
    (first
    | (go_at_call 42; (with_reducible refine (refput_r none 0 0 [] ((N : Int) + 7) 2 2 w2.drew (breads_nil _ _) (by omega) E2.out (by omega)).mono ?_); rintro e w' ⟨A3, c3, w3, rfl, rfl, hr3, hc3, hcm3, b3⟩; have K3 := b3; have HR3 := Lib.hid hr3; clear hr3 b3)
    | (go_at_call 42; (with_reducible refine (refput_o A3 (0 + 2) c3 _ 1 1 1 w3 HR3.out (by omega) E1.out (by omega)).mono ?_); rintro e w' ⟨A4, c4, w4, rfl, rfl, ho4, hr4, hc4, hcm4, b4⟩; have K4 := bel3 K3 b4; have HO4 := Lib.hid ho4; have HS34 := Lib.hid b4.size; have HS3 := Lib.hid (bel3 HB2.out.drew K3).size; clear hr4 ho4 b4))
  have HR2e := Lib.hid (((show BReads w2.drew A2 N bz from HR2.out)).below K4)
  have HB4w : Hid (Below w.heap.size w w4) := bel3 HB2.out.drew K4
  clear K3 K4 f0 d0
  go_wp2_with (first
    | (at_builtin; refine wpList_append_any _ rfl (.tmp 18) (.tmp 19) _ rfl w3.heap.size 5 i0 _ 1 1 Try.underlying39 I.out.1 I.out.2.1 I.out.2.2.1 I.out.2.2.2 rfl (by omega) _ (0 + 2 + 1) (bvals _) rfl HO4.out w4.heap.size A2 N c2 (bvals bz) rfl HR2e.out.reads (bvals_one _) (by first | (simp only [maxLen]; done) | (simp only [maxLen]; omega)) (by omega) HS34.out ?_; intro v5 w5 hown5 hg5 hat5; rw [← bvals_append] at hown5; obtain ⟨A5, c5, hv5, hc5, hr5⟩ := own_breads hown5 (range_app (range_app (range_app (fun z hz => absurd hz (by simp)) (putI_range _ _)) (putI_range _ _)) HR2e.out.range); subst hv5; have HB5 : Hid (Below w.heap.size w w5) := HB4w.out.grown hg5 HB4w.out.size (fun q hq => Nat.le_trans HS3.out (HO4.out.lt q hq).1); have HR5 := Lib.hid hr5; clear hown5 hg5 hat5 hr5)
    | (go_at_call 43; (with_reducible refine (seal_any A5 (0 + 2 + 1 + N) c5 _ w5 HR5.out (by omega)).mono ?_); rintro e w' ⟨A6, c6, w6, rfl, rfl, ho6, hr6, hc6, hcm6, b6⟩))
  go_ret2
  have hF : [] ++ putI ((N : Int) + 7) 2 ++ putI 1 1 ++ bz = headI 1 bz := by
    rw [← HR2.out.1]
    unfold headI
    simp only [List.nil_append, List.append_assoc]
    rfl
  rw [hF] at hr6
  have hL : 0 + 2 + 1 + N + 4 = L := hr6.1.symm.trans HLL.out
  rw [hL] at hr6 hc6
  exact ⟨A6, c6, _, by rw [← hL]; rfl, rfl, (by rw [HBZ.out]; exact hr6), hc6, hcm6, bel3 HB5.out b6⟩
set_option maxHeartbeats 2000000 in
theorem refencno_hello (hw hl : Int) (w : World) (h : helloB hw hl = false) :
    Calls Try.prog 15 #[.agg #[.int .i64 1, .int .i64 hw, .int .i64 hl, .int .i64 0, .int .i64 0, .int .i64 0, .int .i64 0, .int .i64 0, .int .i64 0, .int .i64 0, .int .i64 0, .string ⟨#[]⟩, .int .i64 0, .int .i64 0, .bool false, .int .i64 0, .string ⟨#[]⟩, .int .i64 0, .int .i64 0, .int .i64 0, .int .i64 0, .int .i64 0, .int .i64 0, .slice none 0 0, .bool false, .int .i64 0, .int .i64 0]] w (RefNo w) := by
  have HM := Lib.hid h
  clear h
  have K0 : Blk (w.alloc (.cells #[.int .i64 1, .int .i64 hw, .int .i64 hl, .int .i64 0, .int .i64 0, .int .i64 0, .int .i64 0, .int .i64 0, .int .i64 0, .int .i64 0, .int .i64 0, .string ⟨#[]⟩, .int .i64 0, .int .i64 0, .bool false, .int .i64 0, .string ⟨#[]⟩, .int .i64 0, .int .i64 0, .int .i64 0, .int .i64 0, .int .i64 0, .int .i64 0, .slice none 0 0, .bool false, .int .i64 0, .int .i64 0] 46)) w.heap.size 46 #[.int .i64 1, .int .i64 hw, .int .i64 hl, .int .i64 0, .int .i64 0, .int .i64 0, .int .i64 0, .int .i64 0, .int .i64 0, .int .i64 0, .int .i64 0, .string ⟨#[]⟩, .int .i64 0, .int .i64 0, .bool false, .int .i64 0, .string ⟨#[]⟩, .int .i64 0, .int .i64 0, .int .i64 0, .int .i64 0, .int .i64 0, .int .i64 0, .slice none 0 0, .bool false, .int .i64 0, .int .i64 0] := Blk.new w _ _
  have hb0 : Below w.heap.size w (w.alloc (.cells #[.int .i64 1, .int .i64 hw, .int .i64 hl, .int .i64 0, .int .i64 0, .int .i64 0, .int .i64 0, .int .i64 0, .int .i64 0, .int .i64 0, .int .i64 0, .string ⟨#[]⟩, .int .i64 0, .int .i64 0, .bool false, .int .i64 0, .string ⟨#[]⟩, .int .i64 0, .int .i64 0, .int .i64 0, .int .i64 0, .int .i64 0, .int .i64 0, .slice none 0 0, .bool false, .int .i64 0, .int .i64 0] 46)) := bel_alloc _ _
  go_enter Try.func15, Try.ntmps15
  go_wp2_with (first
    | (refine wpList_load_row rfl 46 (.tmp 1) rfl w.heap.size rfl 46 _ (0, 0) _ K0 Try.underlying46 rfl (by kernel_rfl) ?_)
    | (go_at_call 20; (with_reducible refine (refmay_hello hw hl _).mono ?_); rintro e w' ⟨w1, rfl, rfl, b1⟩; rw [HM.out]))
  go_ret2
  exact ⟨_, rfl, rfl, bel3 hb0 b1⟩
set_option maxHeartbeats 4000000 in
theorem refenc_grant (gw gl ge : Int) (w : World) (h : grantB gw gl ge = true) (L : Nat) (hL : (frameI 2 (grantI gw gl ge)).length = L) :
    Calls Try.prog 15 #[.agg #[.int .i64 2, .int .i64 0, .int .i64 0, .int .i64 gw, .int .i64 gl, .int .i64 ge, .int .i64 0, .int .i64 0, .int .i64 0, .int .i64 0, .int .i64 0, .string ⟨#[]⟩, .int .i64 0, .int .i64 0, .bool false, .int .i64 0, .string ⟨#[]⟩, .int .i64 0, .int .i64 0, .int .i64 0, .int .i64 0, .int .i64 0, .int .i64 0, .slice none 0 0, .bool false, .int .i64 0, .int .i64 0]] w (RefOk w (frameI 2 (grantI gw gl ge)) L) := by
  obtain ⟨i0, hi, hz0, hz1, hz2⟩ := info_parts info_u8
  have I := Lib.hid (And.intro hi (And.intro hz0 (And.intro hz1 hz2)))
  obtain ⟨N, hN8⟩ : ∃ N, N = 12 := ⟨_, rfl⟩
  have HBODY : ∀ w, Calls Try.prog 41 #[.agg #[.int .i64 2, .int .i64 0, .int .i64 0, .int .i64 gw, .int .i64 gl, .int .i64 ge, .int .i64 0, .int .i64 0, .int .i64 0, .int .i64 0, .int .i64 0, .string ⟨#[]⟩, .int .i64 0, .int .i64 0, .bool false, .int .i64 0, .string ⟨#[]⟩, .int .i64 0, .int .i64 0, .int .i64 0, .int .i64 0, .int .i64 0, .int .i64 0, .slice none 0 0, .bool false, .int .i64 0, .int .i64 0]] w (RLay w (grantI gw gl ge) N) := fun w => by
    rw [hN8]
    exact refbody_grant gw gl ge w
  have hNb : N ≤ 900 := by omega
  clear hN8
  have HM := Lib.hid h
  have E1 : Hid ((1 : Int) = ((1 : Nat) : Int)) := rfl
  have E2 : Hid ((2 : Int) = ((2 : Nat) : Int)) := rfl
  have HLL := Lib.hid hL
  clear h hi hz0 hz1 hz2 hL
  have K0 : Blk (w.alloc (.cells #[.int .i64 2, .int .i64 0, .int .i64 0, .int .i64 gw, .int .i64 gl, .int .i64 ge, .int .i64 0, .int .i64 0, .int .i64 0, .int .i64 0, .int .i64 0, .string ⟨#[]⟩, .int .i64 0, .int .i64 0, .bool false, .int .i64 0, .string ⟨#[]⟩, .int .i64 0, .int .i64 0, .int .i64 0, .int .i64 0, .int .i64 0, .int .i64 0, .slice none 0 0, .bool false, .int .i64 0, .int .i64 0] 46)) w.heap.size 46 #[.int .i64 2, .int .i64 0, .int .i64 0, .int .i64 gw, .int .i64 gl, .int .i64 ge, .int .i64 0, .int .i64 0, .int .i64 0, .int .i64 0, .int .i64 0, .string ⟨#[]⟩, .int .i64 0, .int .i64 0, .bool false, .int .i64 0, .string ⟨#[]⟩, .int .i64 0, .int .i64 0, .int .i64 0, .int .i64 0, .int .i64 0, .int .i64 0, .slice none 0 0, .bool false, .int .i64 0, .int .i64 0] := Blk.new w _ _
  have hb0 : Below w.heap.size w (w.alloc (.cells #[.int .i64 2, .int .i64 0, .int .i64 0, .int .i64 gw, .int .i64 gl, .int .i64 ge, .int .i64 0, .int .i64 0, .int .i64 0, .int .i64 0, .int .i64 0, .string ⟨#[]⟩, .int .i64 0, .int .i64 0, .bool false, .int .i64 0, .string ⟨#[]⟩, .int .i64 0, .int .i64 0, .int .i64 0, .int .i64 0, .int .i64 0, .int .i64 0, .slice none 0 0, .bool false, .int .i64 0, .int .i64 0] 46)) := bel_alloc _ _
  go_enter Try.func15, Try.ntmps15
  go_wp2_with (first
    | (refine wpList_load_row rfl 46 (.tmp 1) rfl w.heap.size rfl 46 _ (0, 0) _ K0 Try.underlying46 rfl (by kernel_rfl) ?_)
    | (refine wpList_load_row rfl 46 (.tmp 1) rfl w.heap.size rfl 46 _ (0, 0) _ K1 Try.underlying46 rfl (by kernel_rfl) ?_)
    | (go_at_call 20; (with_reducible refine (refmay_grant gw gl ge _).mono ?_); rintro e w' ⟨w1, rfl, rfl, b1⟩; rw [HM.out]; have K1 := K0.below b1 K0.lt; have e_0 : w1.cell? ⟨w.heap.size, 0, none⟩ = some (.int .i64 2) := (K1.cell 0).trans rfl; have HB1 := Lib.hid (bel3 hb0 b1); clear b1)
    | (go_at_call 41; (with_reducible refine (HBODY _).mono ?_); rintro e w' ⟨A2, c2, w2, rfl, rfl, hr2, hc2, hcm2, b2⟩; have d0 := cell_keep e_0 b2; have HR2 := Lib.hid hr2; have HB2 := Lib.hid (bel3 HB1.out b2); clear hr2 b2))
  obtain ⟨bz, hbz⟩ : ∃ bz, (grantI gw gl ge) = bz := ⟨_, rfl⟩
  rw [hbz] at HR2 HLL
  have HBZ := Lib.hid hbz
  clear hbz
  have f0 : w2.drew.cell? ⟨w.heap.size, 0, none⟩ = some (.int .i64 2) := d0
  clear e_0 K0 K1
  have sm : IntKind.i64.wrap ((N : Int) + 7) = (N : Int) + 7 := by
    first
    | decide
    | (simp only [IntKind.wrap, IntKind.signed, IntKind.bits]
       simp
       omega)
  go_region_held3 (fun w' => w'.cell? ⟨w.heap.size, 0, none⟩ = some (.int .i64 2)) (first | exact f0 | exact cell_keep f0 K3 | exact cell_keep f0 K4)
    (first
    | (go_at_call 42; (with_reducible refine (refput_r none 0 0 [] ((N : Int) + 7) 2 2 w2.drew (breads_nil _ _) (by omega) E2.out (by omega)).mono ?_); rintro e w' ⟨A3, c3, w3, rfl, rfl, hr3, hc3, hcm3, b3⟩; have K3 := b3; have HR3 := Lib.hid hr3; clear hr3 b3)
    | (go_at_call 42; (with_reducible refine (refput_o A3 (0 + 2) c3 _ 2 1 1 w3 HR3.out (by omega) E1.out (by omega)).mono ?_); rintro e w' ⟨A4, c4, w4, rfl, rfl, ho4, hr4, hc4, hcm4, b4⟩; have K4 := bel3 K3 b4; have HO4 := Lib.hid ho4; have HS34 := Lib.hid b4.size; have HS3 := Lib.hid (bel3 HB2.out.drew K3).size; clear hr4 ho4 b4))
  have HR2e := Lib.hid (((show BReads w2.drew A2 N bz from HR2.out)).below K4)
  have HB4w : Hid (Below w.heap.size w w4) := bel3 HB2.out.drew K4
  clear K3 K4 f0 d0
  go_wp2_with (first
    | (at_builtin; refine wpList_append_any _ rfl (.tmp 18) (.tmp 19) _ rfl w3.heap.size 5 i0 _ 1 1 Try.underlying39 I.out.1 I.out.2.1 I.out.2.2.1 I.out.2.2.2 rfl (by omega) _ (0 + 2 + 1) (bvals _) rfl HO4.out w4.heap.size A2 N c2 (bvals bz) rfl HR2e.out.reads (bvals_one _) (by first | (simp only [maxLen]; done) | (simp only [maxLen]; omega)) (by omega) HS34.out ?_; intro v5 w5 hown5 hg5 hat5; rw [← bvals_append] at hown5; obtain ⟨A5, c5, hv5, hc5, hr5⟩ := own_breads hown5 (range_app (range_app (range_app (fun z hz => absurd hz (by simp)) (putI_range _ _)) (putI_range _ _)) HR2e.out.range); subst hv5; have HB5 : Hid (Below w.heap.size w w5) := HB4w.out.grown hg5 HB4w.out.size (fun q hq => Nat.le_trans HS3.out (HO4.out.lt q hq).1); have HR5 := Lib.hid hr5; clear hown5 hg5 hat5 hr5)
    | (go_at_call 43; (with_reducible refine (seal_any A5 (0 + 2 + 1 + N) c5 _ w5 HR5.out (by omega)).mono ?_); rintro e w' ⟨A6, c6, w6, rfl, rfl, ho6, hr6, hc6, hcm6, b6⟩))
  go_ret2
  have hF : [] ++ putI ((N : Int) + 7) 2 ++ putI 2 1 ++ bz = headI 2 bz := by
    rw [← HR2.out.1]
    unfold headI
    simp only [List.nil_append, List.append_assoc]
    rfl
  rw [hF] at hr6
  have hL : 0 + 2 + 1 + N + 4 = L := hr6.1.symm.trans HLL.out
  rw [hL] at hr6 hc6
  exact ⟨A6, c6, _, by rw [← hL]; rfl, rfl, (by rw [HBZ.out]; exact hr6), hc6, hcm6, bel3 HB5.out b6⟩
set_option maxHeartbeats 2000000 in
theorem refencno_grant (gw gl ge : Int) (w : World) (h : grantB gw gl ge = false) :
    Calls Try.prog 15 #[.agg #[.int .i64 2, .int .i64 0, .int .i64 0, .int .i64 gw, .int .i64 gl, .int .i64 ge, .int .i64 0, .int .i64 0, .int .i64 0, .int .i64 0, .int .i64 0, .string ⟨#[]⟩, .int .i64 0, .int .i64 0, .bool false, .int .i64 0, .string ⟨#[]⟩, .int .i64 0, .int .i64 0, .int .i64 0, .int .i64 0, .int .i64 0, .int .i64 0, .slice none 0 0, .bool false, .int .i64 0, .int .i64 0]] w (RefNo w) := by
  have HM := Lib.hid h
  clear h
  have K0 : Blk (w.alloc (.cells #[.int .i64 2, .int .i64 0, .int .i64 0, .int .i64 gw, .int .i64 gl, .int .i64 ge, .int .i64 0, .int .i64 0, .int .i64 0, .int .i64 0, .int .i64 0, .string ⟨#[]⟩, .int .i64 0, .int .i64 0, .bool false, .int .i64 0, .string ⟨#[]⟩, .int .i64 0, .int .i64 0, .int .i64 0, .int .i64 0, .int .i64 0, .int .i64 0, .slice none 0 0, .bool false, .int .i64 0, .int .i64 0] 46)) w.heap.size 46 #[.int .i64 2, .int .i64 0, .int .i64 0, .int .i64 gw, .int .i64 gl, .int .i64 ge, .int .i64 0, .int .i64 0, .int .i64 0, .int .i64 0, .int .i64 0, .string ⟨#[]⟩, .int .i64 0, .int .i64 0, .bool false, .int .i64 0, .string ⟨#[]⟩, .int .i64 0, .int .i64 0, .int .i64 0, .int .i64 0, .int .i64 0, .int .i64 0, .slice none 0 0, .bool false, .int .i64 0, .int .i64 0] := Blk.new w _ _
  have hb0 : Below w.heap.size w (w.alloc (.cells #[.int .i64 2, .int .i64 0, .int .i64 0, .int .i64 gw, .int .i64 gl, .int .i64 ge, .int .i64 0, .int .i64 0, .int .i64 0, .int .i64 0, .int .i64 0, .string ⟨#[]⟩, .int .i64 0, .int .i64 0, .bool false, .int .i64 0, .string ⟨#[]⟩, .int .i64 0, .int .i64 0, .int .i64 0, .int .i64 0, .int .i64 0, .int .i64 0, .slice none 0 0, .bool false, .int .i64 0, .int .i64 0] 46)) := bel_alloc _ _
  go_enter Try.func15, Try.ntmps15
  go_wp2_with (first
    | (refine wpList_load_row rfl 46 (.tmp 1) rfl w.heap.size rfl 46 _ (0, 0) _ K0 Try.underlying46 rfl (by kernel_rfl) ?_)
    | (go_at_call 20; (with_reducible refine (refmay_grant gw gl ge _).mono ?_); rintro e w' ⟨w1, rfl, rfl, b1⟩; rw [HM.out]))
  go_ret2
  exact ⟨_, rfl, rfl, bel3 hb0 b1⟩
set_option maxHeartbeats 4000000 in
theorem refenc_ask (sl q sh sq ep : Int) (t : ByteArray) (k b : Int) (f : Bool) (d : Int) (s : ByteArray) (w : World) (ht : t.size ≤ 100) (hs : s.size ≤ 100) (h : askB sl q sh sq ep t k b f d s = true) (L : Nat) (hL : (frameI 3 (askI sl q sh sq ep t k b f d s)).length = L) :
    Calls Try.prog 15 #[.agg #[.int .i64 3, .int .i64 0, .int .i64 0, .int .i64 0, .int .i64 0, .int .i64 0, .int .i64 sl, .int .i64 q, .int .i64 sh, .int .i64 sq, .int .i64 ep, .string t, .int .i64 k, .int .i64 b, .bool f, .int .i64 d, .string s, .int .i64 0, .int .i64 0, .int .i64 0, .int .i64 0, .int .i64 0, .int .i64 0, .slice none 0 0, .bool false, .int .i64 0, .int .i64 0]] w (RefOk w (frameI 3 (askI sl q sh sq ep t k b f d s)) L) := by
  obtain ⟨i0, hi, hz0, hz1, hz2⟩ := info_parts info_u8
  have I := Lib.hid (And.intro hi (And.intro hz0 (And.intro hz1 hz2)))
  have HM := Lib.hid h
  have E1 : Hid ((1 : Int) = ((1 : Nat) : Int)) := rfl
  have E2 : Hid ((2 : Int) = ((2 : Nat) : Int)) := rfl
  have HLL := Lib.hid hL
  clear h hi hz0 hz1 hz2 hL
  have K0 : Blk (w.alloc (.cells #[.int .i64 3, .int .i64 0, .int .i64 0, .int .i64 0, .int .i64 0, .int .i64 0, .int .i64 sl, .int .i64 q, .int .i64 sh, .int .i64 sq, .int .i64 ep, .string t, .int .i64 k, .int .i64 b, .bool f, .int .i64 d, .string s, .int .i64 0, .int .i64 0, .int .i64 0, .int .i64 0, .int .i64 0, .int .i64 0, .slice none 0 0, .bool false, .int .i64 0, .int .i64 0] 46)) w.heap.size 46 #[.int .i64 3, .int .i64 0, .int .i64 0, .int .i64 0, .int .i64 0, .int .i64 0, .int .i64 sl, .int .i64 q, .int .i64 sh, .int .i64 sq, .int .i64 ep, .string t, .int .i64 k, .int .i64 b, .bool f, .int .i64 d, .string s, .int .i64 0, .int .i64 0, .int .i64 0, .int .i64 0, .int .i64 0, .int .i64 0, .slice none 0 0, .bool false, .int .i64 0, .int .i64 0] := Blk.new w _ _
  have hb0 : Below w.heap.size w (w.alloc (.cells #[.int .i64 3, .int .i64 0, .int .i64 0, .int .i64 0, .int .i64 0, .int .i64 0, .int .i64 sl, .int .i64 q, .int .i64 sh, .int .i64 sq, .int .i64 ep, .string t, .int .i64 k, .int .i64 b, .bool f, .int .i64 d, .string s, .int .i64 0, .int .i64 0, .int .i64 0, .int .i64 0, .int .i64 0, .int .i64 0, .slice none 0 0, .bool false, .int .i64 0, .int .i64 0] 46)) := bel_alloc _ _
  go_enter Try.func15, Try.ntmps15
  go_wp2_with (first
    | (refine wpList_load_row rfl 46 (.tmp 1) rfl w.heap.size rfl 46 _ (0, 0) _ K0 Try.underlying46 rfl (by kernel_rfl) ?_)
    | (refine wpList_load_row rfl 46 (.tmp 1) rfl w.heap.size rfl 46 _ (0, 0) _ K1 Try.underlying46 rfl (by kernel_rfl) ?_)
    | (go_at_call 20; (with_reducible refine (refmay_ask sl q sh sq ep t k b f d s _ (by omega) (by omega)).mono ?_); rintro e w' ⟨w1, rfl, rfl, b1⟩; rw [HM.out]; have K1 := K0.below b1 K0.lt; have e_0 : w1.cell? ⟨w.heap.size, 0, none⟩ = some (.int .i64 3) := (K1.cell 0).trans rfl; have HB1 := Lib.hid (bel3 hb0 b1); clear b1)
    | (go_at_call 41; (with_reducible refine (refbody_ask sl q sh sq ep t k b f d s _ (by omega) (by omega)).mono ?_); rintro e w' ⟨A2, c2, w2, rfl, rfl, hr2, hc2, hcm2, b2⟩; have d0 := cell_keep e_0 b2; have HR2 := Lib.hid hr2; have HB2 := Lib.hid (bel3 HB1.out b2); clear hr2 b2))
  generalize hbn : (28 + t.size + s.size) = bn at HR2 hc2 ⊢
  have hbn2 : bn ≤ 900 := by omega
  obtain ⟨bz, hbz⟩ : ∃ bz, (askI sl q sh sq ep t k b f d s) = bz := ⟨_, rfl⟩
  rw [hbz] at HR2 HLL
  have HBZ := Lib.hid hbz
  clear hbz
  have f0 : w2.drew.cell? ⟨w.heap.size, 0, none⟩ = some (.int .i64 3) := d0
  clear e_0 K0 K1
  have sm : IntKind.i64.wrap ((bn : Int) + 7) = (bn : Int) + 7 := by
    first
    | decide
    | (simp only [IntKind.wrap, IntKind.signed, IntKind.bits]
       simp
       omega)
  go_region_held3 (fun w' => w'.cell? ⟨w.heap.size, 0, none⟩ = some (.int .i64 3)) (first | exact f0 | exact cell_keep f0 K3 | exact cell_keep f0 K4)
    (first
    | (go_at_call 42; (with_reducible refine (refput_r none 0 0 [] ((bn : Int) + 7) 2 2 w2.drew (breads_nil _ _) (by omega) E2.out (by omega)).mono ?_); rintro e w' ⟨A3, c3, w3, rfl, rfl, hr3, hc3, hcm3, b3⟩; have K3 := b3; have HR3 := Lib.hid hr3; clear hr3 b3)
    | (go_at_call 42; (with_reducible refine (refput_o A3 (0 + 2) c3 _ 3 1 1 w3 HR3.out (by omega) E1.out (by omega)).mono ?_); rintro e w' ⟨A4, c4, w4, rfl, rfl, ho4, hr4, hc4, hcm4, b4⟩; have K4 := bel3 K3 b4; have HO4 := Lib.hid ho4; have HS34 := Lib.hid b4.size; have HS3 := Lib.hid (bel3 HB2.out.drew K3).size; clear hr4 ho4 b4))
  have HR2e := Lib.hid (((show BReads w2.drew A2 bn bz from HR2.out)).below K4)
  have HB4w : Hid (Below w.heap.size w w4) := bel3 HB2.out.drew K4
  clear K3 K4 f0 d0
  go_wp2_with (first
    | (at_builtin; refine wpList_append_any _ rfl (.tmp 18) (.tmp 19) _ rfl w3.heap.size 5 i0 _ 1 1 Try.underlying39 I.out.1 I.out.2.1 I.out.2.2.1 I.out.2.2.2 rfl (by omega) _ (0 + 2 + 1) (bvals _) rfl HO4.out w4.heap.size A2 bn c2 (bvals bz) rfl HR2e.out.reads (bvals_one _) (by first | (simp only [maxLen]; done) | (simp only [maxLen]; omega)) (by omega) HS34.out ?_; intro v5 w5 hown5 hg5 hat5; rw [← bvals_append] at hown5; obtain ⟨A5, c5, hv5, hc5, hr5⟩ := own_breads hown5 (range_app (range_app (range_app (fun z hz => absurd hz (by simp)) (putI_range _ _)) (putI_range _ _)) HR2e.out.range); subst hv5; have HB5 : Hid (Below w.heap.size w w5) := HB4w.out.grown hg5 HB4w.out.size (fun q hq => Nat.le_trans HS3.out (HO4.out.lt q hq).1); have HR5 := Lib.hid hr5; clear hown5 hg5 hat5 hr5)
    | (go_at_call 43; (with_reducible refine (seal_any A5 (0 + 2 + 1 + bn) c5 _ w5 HR5.out (by omega)).mono ?_); rintro e w' ⟨A6, c6, w6, rfl, rfl, ho6, hr6, hc6, hcm6, b6⟩))
  go_ret2
  have hF : [] ++ putI ((bn : Int) + 7) 2 ++ putI 3 1 ++ bz = headI 3 bz := by
    rw [← HR2.out.1]
    unfold headI
    simp only [List.nil_append, List.append_assoc]
    rfl
  rw [hF] at hr6
  have hL : 0 + 2 + 1 + bn + 4 = L := hr6.1.symm.trans HLL.out
  rw [hL] at hr6 hc6
  exact ⟨A6, c6, _, by rw [← hL]; rfl, rfl, (by rw [HBZ.out]; exact hr6), hc6, hcm6, bel3 HB5.out b6⟩
set_option maxHeartbeats 2000000 in
theorem refencno_ask (sl q sh sq ep : Int) (t : ByteArray) (k b : Int) (f : Bool) (d : Int) (s : ByteArray) (w : World) (ht : t.size ≤ 100) (hs : s.size ≤ 100) (h : askB sl q sh sq ep t k b f d s = false) :
    Calls Try.prog 15 #[.agg #[.int .i64 3, .int .i64 0, .int .i64 0, .int .i64 0, .int .i64 0, .int .i64 0, .int .i64 sl, .int .i64 q, .int .i64 sh, .int .i64 sq, .int .i64 ep, .string t, .int .i64 k, .int .i64 b, .bool f, .int .i64 d, .string s, .int .i64 0, .int .i64 0, .int .i64 0, .int .i64 0, .int .i64 0, .int .i64 0, .slice none 0 0, .bool false, .int .i64 0, .int .i64 0]] w (RefNo w) := by
  have HM := Lib.hid h
  clear h
  have K0 : Blk (w.alloc (.cells #[.int .i64 3, .int .i64 0, .int .i64 0, .int .i64 0, .int .i64 0, .int .i64 0, .int .i64 sl, .int .i64 q, .int .i64 sh, .int .i64 sq, .int .i64 ep, .string t, .int .i64 k, .int .i64 b, .bool f, .int .i64 d, .string s, .int .i64 0, .int .i64 0, .int .i64 0, .int .i64 0, .int .i64 0, .int .i64 0, .slice none 0 0, .bool false, .int .i64 0, .int .i64 0] 46)) w.heap.size 46 #[.int .i64 3, .int .i64 0, .int .i64 0, .int .i64 0, .int .i64 0, .int .i64 0, .int .i64 sl, .int .i64 q, .int .i64 sh, .int .i64 sq, .int .i64 ep, .string t, .int .i64 k, .int .i64 b, .bool f, .int .i64 d, .string s, .int .i64 0, .int .i64 0, .int .i64 0, .int .i64 0, .int .i64 0, .int .i64 0, .slice none 0 0, .bool false, .int .i64 0, .int .i64 0] := Blk.new w _ _
  have hb0 : Below w.heap.size w (w.alloc (.cells #[.int .i64 3, .int .i64 0, .int .i64 0, .int .i64 0, .int .i64 0, .int .i64 0, .int .i64 sl, .int .i64 q, .int .i64 sh, .int .i64 sq, .int .i64 ep, .string t, .int .i64 k, .int .i64 b, .bool f, .int .i64 d, .string s, .int .i64 0, .int .i64 0, .int .i64 0, .int .i64 0, .int .i64 0, .int .i64 0, .slice none 0 0, .bool false, .int .i64 0, .int .i64 0] 46)) := bel_alloc _ _
  go_enter Try.func15, Try.ntmps15
  go_wp2_with (first
    | (refine wpList_load_row rfl 46 (.tmp 1) rfl w.heap.size rfl 46 _ (0, 0) _ K0 Try.underlying46 rfl (by kernel_rfl) ?_)
    | (go_at_call 20; (with_reducible refine (refmay_ask sl q sh sq ep t k b f d s _ (by omega) (by omega)).mono ?_); rintro e w' ⟨w1, rfl, rfl, b1⟩; rw [HM.out]))
  go_ret2
  exact ⟨_, rfl, rfl, bel3 hb0 b1⟩
set_option maxHeartbeats 4000000 in
theorem refenc_reply (sl q sh sq wk ep : Int) (A : Option Addr) (n c : Nat) (en : Bool) (xs : List (Int × ByteArray)) (w : World) (hx : XReads w A n xs) (hs : Small 100 xs) (h : replyB sl q sh sq wk ep xs = true) (L : Nat) (hL : (frameI 4 (replyI sl q sh sq wk ep xs en)).length = L) :
    Calls Try.prog 15 #[.agg #[.int .i64 4, .int .i64 0, .int .i64 0, .int .i64 0, .int .i64 0, .int .i64 0, .int .i64 0, .int .i64 0, .int .i64 0, .int .i64 0, .int .i64 0, .string ⟨#[]⟩, .int .i64 0, .int .i64 0, .bool false, .int .i64 0, .string ⟨#[]⟩, .int .i64 sl, .int .i64 q, .int .i64 sh, .int .i64 sq, .int .i64 wk, .int .i64 ep, .slice A n c, .bool en, .int .i64 0, .int .i64 0]] w (RefOk w (frameI 4 (replyI sl q sh sq wk ep xs en)) L) := by
  obtain ⟨i0, hi, hz0, hz1, hz2⟩ := info_parts info_u8
  have I := Lib.hid (And.intro hi (And.intro hz0 (And.intro hz1 hz2)))
  have HX : Hid (XReads (w.alloc (.cells #[.int .i64 4, .int .i64 0, .int .i64 0, .int .i64 0, .int .i64 0, .int .i64 0, .int .i64 0, .int .i64 0, .int .i64 0, .int .i64 0, .int .i64 0, .string ⟨#[]⟩, .int .i64 0, .int .i64 0, .bool false, .int .i64 0, .string ⟨#[]⟩, .int .i64 sl, .int .i64 q, .int .i64 sh, .int .i64 sq, .int .i64 wk, .int .i64 ep, .slice A n c, .bool en, .int .i64 0, .int .i64 0] 46)) A n xs) := hx.below (bel_alloc _ _)
  have HS1 : Hid (Small 1000000 xs) := fun x h => Nat.le_trans (hs x h) (by omega)
  have HS2 : Hid (Small 60000 xs) := fun x h => Nat.le_trans (hs x h) (by omega)
  have hi5 := replyB_iff h
  have hn5 : n ≤ 5 := by rw [← hx.1]; exact hi5.2.2.2.2.2.2.1
  obtain ⟨N, hN⟩ : ∃ N, (replyI sl q sh sq wk ep xs en).length = N := ⟨_, rfl⟩
  have HN := Lib.hid hN
  have hNb : N ≤ 900 := by rw [← hN]; exact bodyM_length (.reply sl q sh sq wk ep xs en) h
  clear hx hs hN hi5
  have HM := Lib.hid h
  have E1 : Hid ((1 : Int) = ((1 : Nat) : Int)) := rfl
  have E2 : Hid ((2 : Int) = ((2 : Nat) : Int)) := rfl
  have HLL := Lib.hid hL
  clear h hi hz0 hz1 hz2 hL
  have K0 : Blk (w.alloc (.cells #[.int .i64 4, .int .i64 0, .int .i64 0, .int .i64 0, .int .i64 0, .int .i64 0, .int .i64 0, .int .i64 0, .int .i64 0, .int .i64 0, .int .i64 0, .string ⟨#[]⟩, .int .i64 0, .int .i64 0, .bool false, .int .i64 0, .string ⟨#[]⟩, .int .i64 sl, .int .i64 q, .int .i64 sh, .int .i64 sq, .int .i64 wk, .int .i64 ep, .slice A n c, .bool en, .int .i64 0, .int .i64 0] 46)) w.heap.size 46 #[.int .i64 4, .int .i64 0, .int .i64 0, .int .i64 0, .int .i64 0, .int .i64 0, .int .i64 0, .int .i64 0, .int .i64 0, .int .i64 0, .int .i64 0, .string ⟨#[]⟩, .int .i64 0, .int .i64 0, .bool false, .int .i64 0, .string ⟨#[]⟩, .int .i64 sl, .int .i64 q, .int .i64 sh, .int .i64 sq, .int .i64 wk, .int .i64 ep, .slice A n c, .bool en, .int .i64 0, .int .i64 0] := Blk.new w _ _
  have hb0 : Below w.heap.size w (w.alloc (.cells #[.int .i64 4, .int .i64 0, .int .i64 0, .int .i64 0, .int .i64 0, .int .i64 0, .int .i64 0, .int .i64 0, .int .i64 0, .int .i64 0, .int .i64 0, .string ⟨#[]⟩, .int .i64 0, .int .i64 0, .bool false, .int .i64 0, .string ⟨#[]⟩, .int .i64 sl, .int .i64 q, .int .i64 sh, .int .i64 sq, .int .i64 wk, .int .i64 ep, .slice A n c, .bool en, .int .i64 0, .int .i64 0] 46)) := bel_alloc _ _
  go_enter Try.func15, Try.ntmps15
  go_wp2_with (first
    | (refine wpList_load_row rfl 46 (.tmp 1) rfl w.heap.size rfl 46 _ (0, 0) _ K0 Try.underlying46 rfl (by kernel_rfl) ?_)
    | (refine wpList_load_row rfl 46 (.tmp 1) rfl w.heap.size rfl 46 _ (0, 0) _ K1 Try.underlying46 rfl (by kernel_rfl) ?_)
    | (go_at_call 20; (with_reducible refine (refmay_reply sl q sh sq wk ep A n c en xs _ HX.out HS1.out).mono ?_); rintro e w' ⟨w1, rfl, rfl, b1⟩; rw [HM.out]; have K1 := K0.below b1 K0.lt; have e_0 : w1.cell? ⟨w.heap.size, 0, none⟩ = some (.int .i64 4) := (K1.cell 0).trans rfl; have HB1 := Lib.hid (bel3 hb0 b1); have HX1 := Lib.hid (HX.out.below b1); clear b1)
    | (go_at_call 41; (with_reducible refine (refbody_reply sl q sh sq wk ep A n c en xs _ HX1.out HS2.out hn5 N HN.out).mono ?_); rintro e w' ⟨A2, c2, w2, rfl, rfl, hr2, hc2, hcm2, b2⟩; have d0 := cell_keep e_0 b2; have HR2 := Lib.hid hr2; have HB2 := Lib.hid (bel3 HB1.out b2); clear hr2 b2))
  obtain ⟨bn, hbn⟩ : ∃ bn, N = bn := ⟨_, rfl⟩
  subst hbn
  obtain ⟨bz, hbz⟩ : ∃ bz, (replyI sl q sh sq wk ep xs en) = bz := ⟨_, rfl⟩
  rw [hbz] at HR2 HLL
  have HBZ := Lib.hid hbz
  clear hbz
  have f0 : w2.drew.cell? ⟨w.heap.size, 0, none⟩ = some (.int .i64 4) := d0
  clear e_0 K0 K1
  have sm : IntKind.i64.wrap ((N : Int) + 7) = (N : Int) + 7 := by
    first
    | decide
    | (simp only [IntKind.wrap, IntKind.signed, IntKind.bits]
       simp
       omega)
  go_region_held3 (fun w' => w'.cell? ⟨w.heap.size, 0, none⟩ = some (.int .i64 4)) (first | exact f0 | exact cell_keep f0 K3 | exact cell_keep f0 K4)
    (first
    | (go_at_call 42; (with_reducible refine (refput_r none 0 0 [] ((N : Int) + 7) 2 2 w2.drew (breads_nil _ _) (by omega) E2.out (by omega)).mono ?_); rintro e w' ⟨A3, c3, w3, rfl, rfl, hr3, hc3, hcm3, b3⟩; have K3 := b3; have HR3 := Lib.hid hr3; clear hr3 b3)
    | (go_at_call 42; (with_reducible refine (refput_o A3 (0 + 2) c3 _ 4 1 1 w3 HR3.out (by omega) E1.out (by omega)).mono ?_); rintro e w' ⟨A4, c4, w4, rfl, rfl, ho4, hr4, hc4, hcm4, b4⟩; have K4 := bel3 K3 b4; have HO4 := Lib.hid ho4; have HS34 := Lib.hid b4.size; have HS3 := Lib.hid (bel3 HB2.out.drew K3).size; clear hr4 ho4 b4))
  have HR2e := Lib.hid (((show BReads w2.drew A2 N bz from HR2.out)).below K4)
  have HB4w : Hid (Below w.heap.size w w4) := bel3 HB2.out.drew K4
  clear K3 K4 f0 d0
  go_wp2_with (first
    | (at_builtin; refine wpList_append_any _ rfl (.tmp 18) (.tmp 19) _ rfl w3.heap.size 5 i0 _ 1 1 Try.underlying39 I.out.1 I.out.2.1 I.out.2.2.1 I.out.2.2.2 rfl (by omega) _ (0 + 2 + 1) (bvals _) rfl HO4.out w4.heap.size A2 N c2 (bvals bz) rfl HR2e.out.reads (bvals_one _) (by first | (simp only [maxLen]; done) | (simp only [maxLen]; omega)) (by omega) HS34.out ?_; intro v5 w5 hown5 hg5 hat5; rw [← bvals_append] at hown5; obtain ⟨A5, c5, hv5, hc5, hr5⟩ := own_breads hown5 (range_app (range_app (range_app (fun z hz => absurd hz (by simp)) (putI_range _ _)) (putI_range _ _)) HR2e.out.range); subst hv5; have HB5 : Hid (Below w.heap.size w w5) := HB4w.out.grown hg5 HB4w.out.size (fun q hq => Nat.le_trans HS3.out (HO4.out.lt q hq).1); have HR5 := Lib.hid hr5; clear hown5 hg5 hat5 hr5)
    | (go_at_call 43; (with_reducible refine (seal_any A5 (0 + 2 + 1 + N) c5 _ w5 HR5.out (by omega)).mono ?_); rintro e w' ⟨A6, c6, w6, rfl, rfl, ho6, hr6, hc6, hcm6, b6⟩))
  go_ret2
  have hF : [] ++ putI ((N : Int) + 7) 2 ++ putI 4 1 ++ bz = headI 4 bz := by
    rw [← HR2.out.1]
    unfold headI
    simp only [List.nil_append, List.append_assoc]
    rfl
  rw [hF] at hr6
  have hL : 0 + 2 + 1 + N + 4 = L := hr6.1.symm.trans HLL.out
  rw [hL] at hr6 hc6
  exact ⟨A6, c6, _, by rw [← hL]; rfl, rfl, (by rw [HBZ.out]; exact hr6), hc6, hcm6, bel3 HB5.out b6⟩
set_option maxHeartbeats 2000000 in
theorem refencno_reply (sl q sh sq wk ep : Int) (A : Option Addr) (n c : Nat) (en : Bool) (xs : List (Int × ByteArray)) (w : World) (hx : XReads w A n xs) (hs : Small 100 xs) (h : replyB sl q sh sq wk ep xs = false) :
    Calls Try.prog 15 #[.agg #[.int .i64 4, .int .i64 0, .int .i64 0, .int .i64 0, .int .i64 0, .int .i64 0, .int .i64 0, .int .i64 0, .int .i64 0, .int .i64 0, .int .i64 0, .string ⟨#[]⟩, .int .i64 0, .int .i64 0, .bool false, .int .i64 0, .string ⟨#[]⟩, .int .i64 sl, .int .i64 q, .int .i64 sh, .int .i64 sq, .int .i64 wk, .int .i64 ep, .slice A n c, .bool en, .int .i64 0, .int .i64 0]] w (RefNo w) := by
  have HX : Hid (XReads (w.alloc (.cells #[.int .i64 4, .int .i64 0, .int .i64 0, .int .i64 0, .int .i64 0, .int .i64 0, .int .i64 0, .int .i64 0, .int .i64 0, .int .i64 0, .int .i64 0, .string ⟨#[]⟩, .int .i64 0, .int .i64 0, .bool false, .int .i64 0, .string ⟨#[]⟩, .int .i64 sl, .int .i64 q, .int .i64 sh, .int .i64 sq, .int .i64 wk, .int .i64 ep, .slice A n c, .bool en, .int .i64 0, .int .i64 0] 46)) A n xs) := hx.below (bel_alloc _ _)
  have HS1 : Hid (Small 1000000 xs) := fun x h => Nat.le_trans (hs x h) (by omega)
  have HS2 : Hid (Small 60000 xs) := fun x h => Nat.le_trans (hs x h) (by omega)
  have HM := Lib.hid h
  clear h
  have K0 : Blk (w.alloc (.cells #[.int .i64 4, .int .i64 0, .int .i64 0, .int .i64 0, .int .i64 0, .int .i64 0, .int .i64 0, .int .i64 0, .int .i64 0, .int .i64 0, .int .i64 0, .string ⟨#[]⟩, .int .i64 0, .int .i64 0, .bool false, .int .i64 0, .string ⟨#[]⟩, .int .i64 sl, .int .i64 q, .int .i64 sh, .int .i64 sq, .int .i64 wk, .int .i64 ep, .slice A n c, .bool en, .int .i64 0, .int .i64 0] 46)) w.heap.size 46 #[.int .i64 4, .int .i64 0, .int .i64 0, .int .i64 0, .int .i64 0, .int .i64 0, .int .i64 0, .int .i64 0, .int .i64 0, .int .i64 0, .int .i64 0, .string ⟨#[]⟩, .int .i64 0, .int .i64 0, .bool false, .int .i64 0, .string ⟨#[]⟩, .int .i64 sl, .int .i64 q, .int .i64 sh, .int .i64 sq, .int .i64 wk, .int .i64 ep, .slice A n c, .bool en, .int .i64 0, .int .i64 0] := Blk.new w _ _
  have hb0 : Below w.heap.size w (w.alloc (.cells #[.int .i64 4, .int .i64 0, .int .i64 0, .int .i64 0, .int .i64 0, .int .i64 0, .int .i64 0, .int .i64 0, .int .i64 0, .int .i64 0, .int .i64 0, .string ⟨#[]⟩, .int .i64 0, .int .i64 0, .bool false, .int .i64 0, .string ⟨#[]⟩, .int .i64 sl, .int .i64 q, .int .i64 sh, .int .i64 sq, .int .i64 wk, .int .i64 ep, .slice A n c, .bool en, .int .i64 0, .int .i64 0] 46)) := bel_alloc _ _
  go_enter Try.func15, Try.ntmps15
  go_wp2_with (first
    | (refine wpList_load_row rfl 46 (.tmp 1) rfl w.heap.size rfl 46 _ (0, 0) _ K0 Try.underlying46 rfl (by kernel_rfl) ?_)
    | (go_at_call 20; (with_reducible refine (refmay_reply sl q sh sq wk ep A n c en xs _ HX.out HS1.out).mono ?_); rintro e w' ⟨w1, rfl, rfl, b1⟩; rw [HM.out]))
  go_ret2
  exact ⟨_, rfl, rfl, bel3 hb0 b1⟩
set_option maxHeartbeats 4000000 in
theorem refenc_stop (sl q : Int) (w : World) (h : stopB sl q = true) (L : Nat) (hL : (frameI 5 (stopI sl q)).length = L) :
    Calls Try.prog 15 #[.agg #[.int .i64 5, .int .i64 0, .int .i64 0, .int .i64 0, .int .i64 0, .int .i64 0, .int .i64 0, .int .i64 0, .int .i64 0, .int .i64 0, .int .i64 0, .string ⟨#[]⟩, .int .i64 0, .int .i64 0, .bool false, .int .i64 0, .string ⟨#[]⟩, .int .i64 0, .int .i64 0, .int .i64 0, .int .i64 0, .int .i64 0, .int .i64 0, .slice none 0 0, .bool false, .int .i64 sl, .int .i64 q]] w (RefOk w (frameI 5 (stopI sl q)) L) := by
  obtain ⟨i0, hi, hz0, hz1, hz2⟩ := info_parts info_u8
  have I := Lib.hid (And.intro hi (And.intro hz0 (And.intro hz1 hz2)))
  obtain ⟨N, hN8⟩ : ∃ N, N = 8 := ⟨_, rfl⟩
  have HBODY : ∀ w, Calls Try.prog 41 #[.agg #[.int .i64 5, .int .i64 0, .int .i64 0, .int .i64 0, .int .i64 0, .int .i64 0, .int .i64 0, .int .i64 0, .int .i64 0, .int .i64 0, .int .i64 0, .string ⟨#[]⟩, .int .i64 0, .int .i64 0, .bool false, .int .i64 0, .string ⟨#[]⟩, .int .i64 0, .int .i64 0, .int .i64 0, .int .i64 0, .int .i64 0, .int .i64 0, .slice none 0 0, .bool false, .int .i64 sl, .int .i64 q]] w (RLay w (stopI sl q) N) := fun w => by
    rw [hN8]
    exact refbody_stop sl q w
  have hNb : N ≤ 900 := by omega
  clear hN8
  have HM := Lib.hid h
  have E1 : Hid ((1 : Int) = ((1 : Nat) : Int)) := rfl
  have E2 : Hid ((2 : Int) = ((2 : Nat) : Int)) := rfl
  have HLL := Lib.hid hL
  clear h hi hz0 hz1 hz2 hL
  have K0 : Blk (w.alloc (.cells #[.int .i64 5, .int .i64 0, .int .i64 0, .int .i64 0, .int .i64 0, .int .i64 0, .int .i64 0, .int .i64 0, .int .i64 0, .int .i64 0, .int .i64 0, .string ⟨#[]⟩, .int .i64 0, .int .i64 0, .bool false, .int .i64 0, .string ⟨#[]⟩, .int .i64 0, .int .i64 0, .int .i64 0, .int .i64 0, .int .i64 0, .int .i64 0, .slice none 0 0, .bool false, .int .i64 sl, .int .i64 q] 46)) w.heap.size 46 #[.int .i64 5, .int .i64 0, .int .i64 0, .int .i64 0, .int .i64 0, .int .i64 0, .int .i64 0, .int .i64 0, .int .i64 0, .int .i64 0, .int .i64 0, .string ⟨#[]⟩, .int .i64 0, .int .i64 0, .bool false, .int .i64 0, .string ⟨#[]⟩, .int .i64 0, .int .i64 0, .int .i64 0, .int .i64 0, .int .i64 0, .int .i64 0, .slice none 0 0, .bool false, .int .i64 sl, .int .i64 q] := Blk.new w _ _
  have hb0 : Below w.heap.size w (w.alloc (.cells #[.int .i64 5, .int .i64 0, .int .i64 0, .int .i64 0, .int .i64 0, .int .i64 0, .int .i64 0, .int .i64 0, .int .i64 0, .int .i64 0, .int .i64 0, .string ⟨#[]⟩, .int .i64 0, .int .i64 0, .bool false, .int .i64 0, .string ⟨#[]⟩, .int .i64 0, .int .i64 0, .int .i64 0, .int .i64 0, .int .i64 0, .int .i64 0, .slice none 0 0, .bool false, .int .i64 sl, .int .i64 q] 46)) := bel_alloc _ _
  go_enter Try.func15, Try.ntmps15
  go_wp2_with (first
    | (refine wpList_load_row rfl 46 (.tmp 1) rfl w.heap.size rfl 46 _ (0, 0) _ K0 Try.underlying46 rfl (by kernel_rfl) ?_)
    | (refine wpList_load_row rfl 46 (.tmp 1) rfl w.heap.size rfl 46 _ (0, 0) _ K1 Try.underlying46 rfl (by kernel_rfl) ?_)
    | (go_at_call 20; (with_reducible refine (refmay_stop sl q _).mono ?_); rintro e w' ⟨w1, rfl, rfl, b1⟩; rw [HM.out]; have K1 := K0.below b1 K0.lt; have e_0 : w1.cell? ⟨w.heap.size, 0, none⟩ = some (.int .i64 5) := (K1.cell 0).trans rfl; have HB1 := Lib.hid (bel3 hb0 b1); clear b1)
    | (go_at_call 41; (with_reducible refine (HBODY _).mono ?_); rintro e w' ⟨A2, c2, w2, rfl, rfl, hr2, hc2, hcm2, b2⟩; have d0 := cell_keep e_0 b2; have HR2 := Lib.hid hr2; have HB2 := Lib.hid (bel3 HB1.out b2); clear hr2 b2))
  obtain ⟨bz, hbz⟩ : ∃ bz, (stopI sl q) = bz := ⟨_, rfl⟩
  rw [hbz] at HR2 HLL
  have HBZ := Lib.hid hbz
  clear hbz
  have f0 : w2.drew.cell? ⟨w.heap.size, 0, none⟩ = some (.int .i64 5) := d0
  clear e_0 K0 K1
  have sm : IntKind.i64.wrap ((N : Int) + 7) = (N : Int) + 7 := by
    first
    | decide
    | (simp only [IntKind.wrap, IntKind.signed, IntKind.bits]
       simp
       omega)
  go_region_held3 (fun w' => w'.cell? ⟨w.heap.size, 0, none⟩ = some (.int .i64 5)) (first | exact f0 | exact cell_keep f0 K3 | exact cell_keep f0 K4)
    (first
    | (go_at_call 42; (with_reducible refine (refput_r none 0 0 [] ((N : Int) + 7) 2 2 w2.drew (breads_nil _ _) (by omega) E2.out (by omega)).mono ?_); rintro e w' ⟨A3, c3, w3, rfl, rfl, hr3, hc3, hcm3, b3⟩; have K3 := b3; have HR3 := Lib.hid hr3; clear hr3 b3)
    | (go_at_call 42; (with_reducible refine (refput_o A3 (0 + 2) c3 _ 5 1 1 w3 HR3.out (by omega) E1.out (by omega)).mono ?_); rintro e w' ⟨A4, c4, w4, rfl, rfl, ho4, hr4, hc4, hcm4, b4⟩; have K4 := bel3 K3 b4; have HO4 := Lib.hid ho4; have HS34 := Lib.hid b4.size; have HS3 := Lib.hid (bel3 HB2.out.drew K3).size; clear hr4 ho4 b4))
  have HR2e := Lib.hid (((show BReads w2.drew A2 N bz from HR2.out)).below K4)
  have HB4w : Hid (Below w.heap.size w w4) := bel3 HB2.out.drew K4
  clear K3 K4 f0 d0
  go_wp2_with (first
    | (at_builtin; refine wpList_append_any _ rfl (.tmp 18) (.tmp 19) _ rfl w3.heap.size 5 i0 _ 1 1 Try.underlying39 I.out.1 I.out.2.1 I.out.2.2.1 I.out.2.2.2 rfl (by omega) _ (0 + 2 + 1) (bvals _) rfl HO4.out w4.heap.size A2 N c2 (bvals bz) rfl HR2e.out.reads (bvals_one _) (by first | (simp only [maxLen]; done) | (simp only [maxLen]; omega)) (by omega) HS34.out ?_; intro v5 w5 hown5 hg5 hat5; rw [← bvals_append] at hown5; obtain ⟨A5, c5, hv5, hc5, hr5⟩ := own_breads hown5 (range_app (range_app (range_app (fun z hz => absurd hz (by simp)) (putI_range _ _)) (putI_range _ _)) HR2e.out.range); subst hv5; have HB5 : Hid (Below w.heap.size w w5) := HB4w.out.grown hg5 HB4w.out.size (fun q hq => Nat.le_trans HS3.out (HO4.out.lt q hq).1); have HR5 := Lib.hid hr5; clear hown5 hg5 hat5 hr5)
    | (go_at_call 43; (with_reducible refine (seal_any A5 (0 + 2 + 1 + N) c5 _ w5 HR5.out (by omega)).mono ?_); rintro e w' ⟨A6, c6, w6, rfl, rfl, ho6, hr6, hc6, hcm6, b6⟩))
  go_ret2
  have hF : [] ++ putI ((N : Int) + 7) 2 ++ putI 5 1 ++ bz = headI 5 bz := by
    rw [← HR2.out.1]
    unfold headI
    simp only [List.nil_append, List.append_assoc]
    rfl
  rw [hF] at hr6
  have hL : 0 + 2 + 1 + N + 4 = L := hr6.1.symm.trans HLL.out
  rw [hL] at hr6 hc6
  exact ⟨A6, c6, _, by rw [← hL]; rfl, rfl, (by rw [HBZ.out]; exact hr6), hc6, hcm6, bel3 HB5.out b6⟩
set_option maxHeartbeats 2000000 in
theorem refencno_stop (sl q : Int) (w : World) (h : stopB sl q = false) :
    Calls Try.prog 15 #[.agg #[.int .i64 5, .int .i64 0, .int .i64 0, .int .i64 0, .int .i64 0, .int .i64 0, .int .i64 0, .int .i64 0, .int .i64 0, .int .i64 0, .int .i64 0, .string ⟨#[]⟩, .int .i64 0, .int .i64 0, .bool false, .int .i64 0, .string ⟨#[]⟩, .int .i64 0, .int .i64 0, .int .i64 0, .int .i64 0, .int .i64 0, .int .i64 0, .slice none 0 0, .bool false, .int .i64 sl, .int .i64 q]] w (RefNo w) := by
  have HM := Lib.hid h
  clear h
  have K0 : Blk (w.alloc (.cells #[.int .i64 5, .int .i64 0, .int .i64 0, .int .i64 0, .int .i64 0, .int .i64 0, .int .i64 0, .int .i64 0, .int .i64 0, .int .i64 0, .int .i64 0, .string ⟨#[]⟩, .int .i64 0, .int .i64 0, .bool false, .int .i64 0, .string ⟨#[]⟩, .int .i64 0, .int .i64 0, .int .i64 0, .int .i64 0, .int .i64 0, .int .i64 0, .slice none 0 0, .bool false, .int .i64 sl, .int .i64 q] 46)) w.heap.size 46 #[.int .i64 5, .int .i64 0, .int .i64 0, .int .i64 0, .int .i64 0, .int .i64 0, .int .i64 0, .int .i64 0, .int .i64 0, .int .i64 0, .int .i64 0, .string ⟨#[]⟩, .int .i64 0, .int .i64 0, .bool false, .int .i64 0, .string ⟨#[]⟩, .int .i64 0, .int .i64 0, .int .i64 0, .int .i64 0, .int .i64 0, .int .i64 0, .slice none 0 0, .bool false, .int .i64 sl, .int .i64 q] := Blk.new w _ _
  have hb0 : Below w.heap.size w (w.alloc (.cells #[.int .i64 5, .int .i64 0, .int .i64 0, .int .i64 0, .int .i64 0, .int .i64 0, .int .i64 0, .int .i64 0, .int .i64 0, .int .i64 0, .int .i64 0, .string ⟨#[]⟩, .int .i64 0, .int .i64 0, .bool false, .int .i64 0, .string ⟨#[]⟩, .int .i64 0, .int .i64 0, .int .i64 0, .int .i64 0, .int .i64 0, .int .i64 0, .slice none 0 0, .bool false, .int .i64 sl, .int .i64 q] 46)) := bel_alloc _ _
  go_enter Try.func15, Try.ntmps15
  go_wp2_with (first
    | (refine wpList_load_row rfl 46 (.tmp 1) rfl w.heap.size rfl 46 _ (0, 0) _ K0 Try.underlying46 rfl (by kernel_rfl) ?_)
    | (go_at_call 20; (with_reducible refine (refmay_stop sl q _).mono ?_); rintro e w' ⟨w1, rfl, rfl, b1⟩; rw [HM.out]))
  go_ret2
  exact ⟨_, rfl, rfl, bel3 hb0 b1⟩
end Go.Proofs.Ytajhkjikcgfhdaa
namespace Go.Proofs.Ytajhkjikcgfhdaa
set_option linter.unusedVariables false
set_option linter.unusedSimpArgs false
set_option maxRecDepth 20000
open Go.RowKit
theorem below_setRow {B g : Nat} {a w : World} (h : Below B a w) (hg : B ≤ g) (cs : Array Value) : Below B a (w.setRow g cs) :=
  h.trans ⟨rfl, rfl, rfl, by simp [World.setRow], fun k hk => setRow_other w g k cs (by omega)⟩
set_option maxHeartbeats 4000000 in
theorem of_hello (hw hl : Int) (w : World) : Calls Try.prog 16 #[.iface 23 (.agg #[.int .i64 hw, .int .i64 hl])] w (Gives w (.agg #[.int .i64 1, .int .i64 hw, .int .i64 hl, .int .i64 0, .int .i64 0, .int .i64 0, .int .i64 0, .int .i64 0, .int .i64 0, .int .i64 0, .int .i64 0, .string ⟨#[]⟩, .int .i64 0, .int .i64 0, .bool false, .int .i64 0, .string ⟨#[]⟩, .int .i64 0, .int .i64 0, .int .i64 0, .int .i64 0, .int .i64 0, .int .i64 0, .slice none 0 0, .bool false, .int .i64 0, .int .i64 0])) := by
  have f_hello := as_hello_hello
  go_enter Try.func16, Try.ntmps16
  go_wp2_with (refine wpList_store_row rfl 46 (.tmp 2) (.tmp 13) rfl w.heap.size #[.int .i64 1, .int .i64 hw, .int .i64 hl, .int .i64 0, .int .i64 0, .int .i64 0, .int .i64 0, .int .i64 0, .int .i64 0, .int .i64 0, .int .i64 0, .string ⟨#[]⟩, .int .i64 0, .int .i64 0, .bool false, .int .i64 0, .string ⟨#[]⟩, .int .i64 0, .int .i64 0, .int .i64 0, .int .i64 0, .int .i64 0, .int .i64 0, .slice none 0 0, .bool false, .int .i64 0, .int .i64 0] rfl rfl 46 _ ((Blk.new w _ _).alloc _) (by kernel_rfl) (by kernel_rfl) (by kernel_rfl) ?_)
  (try simp only [Exit.inBlock, Exit.then])
  refine bodyPost_ret (results_cell_row rfl _ _ w.heap.size 46 #[.int .i64 1, .int .i64 hw, .int .i64 hl, .int .i64 0, .int .i64 0, .int .i64 0, .int .i64 0, .int .i64 0, .int .i64 0, .int .i64 0, .int .i64 0, .string ⟨#[]⟩, .int .i64 0, .int .i64 0, .bool false, .int .i64 0, .string ⟨#[]⟩, .int .i64 0, .int .i64 0, .int .i64 0, .int .i64 0, .int .i64 0, .int .i64 0, .slice none 0 0, .bool false, .int .i64 0, .int .i64 0] (0, 0) _ rfl ?_ Try.underlying46 rfl (by kernel_rfl)) rfl ?_
  · first | exact setRow_heap _ _ _ _ _ _ ((Blk.new w _ _).alloc _) | exact setRow_heap _ _ _ _ _ _ (Blk.new w _ _)
  · exact ⟨_, rfl, rfl, below_setRow (bel2 (bel_alloc _ _) (bel_alloc _ _)) (Nat.le_refl _) _⟩
set_option maxHeartbeats 4000000 in
theorem of_grant (gw gl ge : Int) (w : World) : Calls Try.prog 16 #[.iface 25 (.agg #[.int .i64 gw, .int .i64 gl, .int .i64 ge])] w (Gives w (.agg #[.int .i64 2, .int .i64 0, .int .i64 0, .int .i64 gw, .int .i64 gl, .int .i64 ge, .int .i64 0, .int .i64 0, .int .i64 0, .int .i64 0, .int .i64 0, .string ⟨#[]⟩, .int .i64 0, .int .i64 0, .bool false, .int .i64 0, .string ⟨#[]⟩, .int .i64 0, .int .i64 0, .int .i64 0, .int .i64 0, .int .i64 0, .int .i64 0, .slice none 0 0, .bool false, .int .i64 0, .int .i64 0])) := by
  have f_hello := as_grant_hello
  have f_grant := as_grant_grant
  go_enter Try.func16, Try.ntmps16
  go_wp2_with (refine wpList_store_row rfl 46 (.tmp 2) (.tmp 18) rfl w.heap.size #[.int .i64 2, .int .i64 0, .int .i64 0, .int .i64 gw, .int .i64 gl, .int .i64 ge, .int .i64 0, .int .i64 0, .int .i64 0, .int .i64 0, .int .i64 0, .string ⟨#[]⟩, .int .i64 0, .int .i64 0, .bool false, .int .i64 0, .string ⟨#[]⟩, .int .i64 0, .int .i64 0, .int .i64 0, .int .i64 0, .int .i64 0, .int .i64 0, .slice none 0 0, .bool false, .int .i64 0, .int .i64 0] rfl rfl 46 _ ((Blk.new w _ _).alloc _) (by kernel_rfl) (by kernel_rfl) (by kernel_rfl) ?_)
  (try simp only [Exit.inBlock, Exit.then])
  refine bodyPost_ret (results_cell_row rfl _ _ w.heap.size 46 #[.int .i64 2, .int .i64 0, .int .i64 0, .int .i64 gw, .int .i64 gl, .int .i64 ge, .int .i64 0, .int .i64 0, .int .i64 0, .int .i64 0, .int .i64 0, .string ⟨#[]⟩, .int .i64 0, .int .i64 0, .bool false, .int .i64 0, .string ⟨#[]⟩, .int .i64 0, .int .i64 0, .int .i64 0, .int .i64 0, .int .i64 0, .int .i64 0, .slice none 0 0, .bool false, .int .i64 0, .int .i64 0] (0, 0) _ rfl ?_ Try.underlying46 rfl (by kernel_rfl)) rfl ?_
  · first | exact setRow_heap _ _ _ _ _ _ ((Blk.new w _ _).alloc _) | exact setRow_heap _ _ _ _ _ _ (Blk.new w _ _)
  · exact ⟨_, rfl, rfl, below_setRow (bel2 (bel_alloc _ _) (bel_alloc _ _)) (Nat.le_refl _) _⟩
set_option maxHeartbeats 4000000 in
theorem of_ask (sl q sh sq ep : Int) (t : ByteArray) (k b : Int) (f : Bool) (d : Int) (s : ByteArray) (w : World) : Calls Try.prog 16 #[.iface 29 (.agg #[.int .i64 sl, .int .i64 q, .int .i64 sh, .int .i64 sq, .int .i64 ep, .string t, .int .i64 k, .int .i64 b, .bool f, .int .i64 d, .string s])] w (Gives w (.agg #[.int .i64 3, .int .i64 0, .int .i64 0, .int .i64 0, .int .i64 0, .int .i64 0, .int .i64 sl, .int .i64 q, .int .i64 sh, .int .i64 sq, .int .i64 ep, .string t, .int .i64 k, .int .i64 b, .bool f, .int .i64 d, .string s, .int .i64 0, .int .i64 0, .int .i64 0, .int .i64 0, .int .i64 0, .int .i64 0, .slice none 0 0, .bool false, .int .i64 0, .int .i64 0])) := by
  have f_hello := as_ask_hello
  have f_grant := as_ask_grant
  have f_ask := as_ask_ask
  go_enter Try.func16, Try.ntmps16
  go_wp2_with (refine wpList_store_row rfl 46 (.tmp 2) (.tmp 23) rfl w.heap.size #[.int .i64 3, .int .i64 0, .int .i64 0, .int .i64 0, .int .i64 0, .int .i64 0, .int .i64 sl, .int .i64 q, .int .i64 sh, .int .i64 sq, .int .i64 ep, .string t, .int .i64 k, .int .i64 b, .bool f, .int .i64 d, .string s, .int .i64 0, .int .i64 0, .int .i64 0, .int .i64 0, .int .i64 0, .int .i64 0, .slice none 0 0, .bool false, .int .i64 0, .int .i64 0] rfl rfl 46 _ ((Blk.new w _ _).alloc _) (by kernel_rfl) (by kernel_rfl) (by kernel_rfl) ?_)
  (try simp only [Exit.inBlock, Exit.then])
  refine bodyPost_ret (results_cell_row rfl _ _ w.heap.size 46 #[.int .i64 3, .int .i64 0, .int .i64 0, .int .i64 0, .int .i64 0, .int .i64 0, .int .i64 sl, .int .i64 q, .int .i64 sh, .int .i64 sq, .int .i64 ep, .string t, .int .i64 k, .int .i64 b, .bool f, .int .i64 d, .string s, .int .i64 0, .int .i64 0, .int .i64 0, .int .i64 0, .int .i64 0, .int .i64 0, .slice none 0 0, .bool false, .int .i64 0, .int .i64 0] (0, 0) _ rfl ?_ Try.underlying46 rfl (by kernel_rfl)) rfl ?_
  · first | exact setRow_heap _ _ _ _ _ _ ((Blk.new w _ _).alloc _) | exact setRow_heap _ _ _ _ _ _ (Blk.new w _ _)
  · exact ⟨_, rfl, rfl, below_setRow (bel2 (bel_alloc _ _) (bel_alloc _ _)) (Nat.le_refl _) _⟩
set_option maxHeartbeats 4000000 in
theorem of_reply (sl q sh sq wk ep : Int) (A : Option Addr) (n c : Nat) (en : Bool) (w : World) : Calls Try.prog 16 #[.iface 32 (.agg #[.int .i64 sl, .int .i64 q, .int .i64 sh, .int .i64 sq, .int .i64 wk, .int .i64 ep, .slice A n c, .bool en])] w (Gives w (.agg #[.int .i64 4, .int .i64 0, .int .i64 0, .int .i64 0, .int .i64 0, .int .i64 0, .int .i64 0, .int .i64 0, .int .i64 0, .int .i64 0, .int .i64 0, .string ⟨#[]⟩, .int .i64 0, .int .i64 0, .bool false, .int .i64 0, .string ⟨#[]⟩, .int .i64 sl, .int .i64 q, .int .i64 sh, .int .i64 sq, .int .i64 wk, .int .i64 ep, .slice A n c, .bool en, .int .i64 0, .int .i64 0])) := by
  have f_hello := as_reply_hello
  have f_grant := as_reply_grant
  have f_ask := as_reply_ask
  have f_reply := as_reply_reply
  go_enter Try.func16, Try.ntmps16
  go_wp2_with (refine wpList_store_row rfl 46 (.tmp 2) (.tmp 28) rfl w.heap.size #[.int .i64 4, .int .i64 0, .int .i64 0, .int .i64 0, .int .i64 0, .int .i64 0, .int .i64 0, .int .i64 0, .int .i64 0, .int .i64 0, .int .i64 0, .string ⟨#[]⟩, .int .i64 0, .int .i64 0, .bool false, .int .i64 0, .string ⟨#[]⟩, .int .i64 sl, .int .i64 q, .int .i64 sh, .int .i64 sq, .int .i64 wk, .int .i64 ep, .slice A n c, .bool en, .int .i64 0, .int .i64 0] rfl rfl 46 _ ((Blk.new w _ _).alloc _) (by kernel_rfl) (by kernel_rfl) (by kernel_rfl) ?_)
  (try simp only [Exit.inBlock, Exit.then])
  refine bodyPost_ret (results_cell_row rfl _ _ w.heap.size 46 #[.int .i64 4, .int .i64 0, .int .i64 0, .int .i64 0, .int .i64 0, .int .i64 0, .int .i64 0, .int .i64 0, .int .i64 0, .int .i64 0, .int .i64 0, .string ⟨#[]⟩, .int .i64 0, .int .i64 0, .bool false, .int .i64 0, .string ⟨#[]⟩, .int .i64 sl, .int .i64 q, .int .i64 sh, .int .i64 sq, .int .i64 wk, .int .i64 ep, .slice A n c, .bool en, .int .i64 0, .int .i64 0] (0, 0) _ rfl ?_ Try.underlying46 rfl (by kernel_rfl)) rfl ?_
  · first | exact setRow_heap _ _ _ _ _ _ ((Blk.new w _ _).alloc _) | exact setRow_heap _ _ _ _ _ _ (Blk.new w _ _)
  · exact ⟨_, rfl, rfl, below_setRow (bel2 (bel_alloc _ _) (bel_alloc _ _)) (Nat.le_refl _) _⟩
set_option maxHeartbeats 4000000 in
theorem of_stop (sl q : Int) (w : World) : Calls Try.prog 16 #[.iface 34 (.agg #[.int .i64 sl, .int .i64 q])] w (Gives w (.agg #[.int .i64 5, .int .i64 0, .int .i64 0, .int .i64 0, .int .i64 0, .int .i64 0, .int .i64 0, .int .i64 0, .int .i64 0, .int .i64 0, .int .i64 0, .string ⟨#[]⟩, .int .i64 0, .int .i64 0, .bool false, .int .i64 0, .string ⟨#[]⟩, .int .i64 0, .int .i64 0, .int .i64 0, .int .i64 0, .int .i64 0, .int .i64 0, .slice none 0 0, .bool false, .int .i64 sl, .int .i64 q])) := by
  have f_hello := as_stop_hello
  have f_grant := as_stop_grant
  have f_ask := as_stop_ask
  have f_reply := as_stop_reply
  have f_stop := as_stop_stop
  go_enter Try.func16, Try.ntmps16
  go_wp2_with (refine wpList_store_row rfl 46 (.tmp 2) (.tmp 33) rfl w.heap.size #[.int .i64 5, .int .i64 0, .int .i64 0, .int .i64 0, .int .i64 0, .int .i64 0, .int .i64 0, .int .i64 0, .int .i64 0, .int .i64 0, .int .i64 0, .string ⟨#[]⟩, .int .i64 0, .int .i64 0, .bool false, .int .i64 0, .string ⟨#[]⟩, .int .i64 0, .int .i64 0, .int .i64 0, .int .i64 0, .int .i64 0, .int .i64 0, .slice none 0 0, .bool false, .int .i64 sl, .int .i64 q] rfl rfl 46 _ ((Blk.new w _ _).alloc _) (by kernel_rfl) (by kernel_rfl) (by kernel_rfl) ?_)
  (try simp only [Exit.inBlock, Exit.then])
  refine bodyPost_ret (results_cell_row rfl _ _ w.heap.size 46 #[.int .i64 5, .int .i64 0, .int .i64 0, .int .i64 0, .int .i64 0, .int .i64 0, .int .i64 0, .int .i64 0, .int .i64 0, .int .i64 0, .int .i64 0, .string ⟨#[]⟩, .int .i64 0, .int .i64 0, .bool false, .int .i64 0, .string ⟨#[]⟩, .int .i64 0, .int .i64 0, .int .i64 0, .int .i64 0, .int .i64 0, .int .i64 0, .slice none 0 0, .bool false, .int .i64 sl, .int .i64 q] (0, 0) _ rfl ?_ Try.underlying46 rfl (by kernel_rfl)) rfl ?_
  · first | exact setRow_heap _ _ _ _ _ _ ((Blk.new w _ _).alloc _) | exact setRow_heap _ _ _ _ _ _ (Blk.new w _ _)
  · exact ⟨_, rfl, rfl, below_setRow (bel2 (bel_alloc _ _) (bel_alloc _ _)) (Nat.le_refl _) _⟩
set_option maxHeartbeats 4000000 in
theorem of_int (x : Int) (w : World) : Calls Try.prog 16 #[.iface 3 (.int .i64 x)] w (Gives w (.agg #[.int .i64 0, .int .i64 0, .int .i64 0, .int .i64 0, .int .i64 0, .int .i64 0, .int .i64 0, .int .i64 0, .int .i64 0, .int .i64 0, .int .i64 0, .string ⟨#[]⟩, .int .i64 0, .int .i64 0, .bool false, .int .i64 0, .string ⟨#[]⟩, .int .i64 0, .int .i64 0, .int .i64 0, .int .i64 0, .int .i64 0, .int .i64 0, .slice none 0 0, .bool false, .int .i64 0, .int .i64 0])) := by
  have f_hello := as_int_hello
  have f_grant := as_int_grant
  have f_ask := as_int_ask
  have f_reply := as_int_reply
  have f_stop := as_int_stop
  go_enter Try.func16, Try.ntmps16
  go_wp2_with (refine wpList_store_row rfl 46 (.tmp 2) (.tmp 34) rfl w.heap.size #[.int .i64 0, .int .i64 0, .int .i64 0, .int .i64 0, .int .i64 0, .int .i64 0, .int .i64 0, .int .i64 0, .int .i64 0, .int .i64 0, .int .i64 0, .string ⟨#[]⟩, .int .i64 0, .int .i64 0, .bool false, .int .i64 0, .string ⟨#[]⟩, .int .i64 0, .int .i64 0, .int .i64 0, .int .i64 0, .int .i64 0, .int .i64 0, .slice none 0 0, .bool false, .int .i64 0, .int .i64 0] rfl rfl 46 _ (Blk.new w _ _) (by kernel_rfl) (by kernel_rfl) (by kernel_rfl) ?_)
  (try simp only [Exit.inBlock, Exit.then])
  refine bodyPost_ret (results_cell_row rfl _ _ w.heap.size 46 #[.int .i64 0, .int .i64 0, .int .i64 0, .int .i64 0, .int .i64 0, .int .i64 0, .int .i64 0, .int .i64 0, .int .i64 0, .int .i64 0, .int .i64 0, .string ⟨#[]⟩, .int .i64 0, .int .i64 0, .bool false, .int .i64 0, .string ⟨#[]⟩, .int .i64 0, .int .i64 0, .int .i64 0, .int .i64 0, .int .i64 0, .int .i64 0, .slice none 0 0, .bool false, .int .i64 0, .int .i64 0] (0, 0) _ rfl ?_ Try.underlying46 rfl (by kernel_rfl)) rfl ?_
  · first | exact setRow_heap _ _ _ _ _ _ ((Blk.new w _ _).alloc _) | exact setRow_heap _ _ _ _ _ _ (Blk.new w _ _)
  · exact ⟨_, rfl, rfl, below_setRow (bel_alloc _ _) (Nat.le_refl _) _⟩
set_option maxHeartbeats 4000000 in
theorem of_nil  (w : World) : Calls Try.prog 16 #[.nilIface] w (Gives w (.agg #[.int .i64 0, .int .i64 0, .int .i64 0, .int .i64 0, .int .i64 0, .int .i64 0, .int .i64 0, .int .i64 0, .int .i64 0, .int .i64 0, .int .i64 0, .string ⟨#[]⟩, .int .i64 0, .int .i64 0, .bool false, .int .i64 0, .string ⟨#[]⟩, .int .i64 0, .int .i64 0, .int .i64 0, .int .i64 0, .int .i64 0, .int .i64 0, .slice none 0 0, .bool false, .int .i64 0, .int .i64 0])) := by
  have f_hello := as_nil_hello
  have f_grant := as_nil_grant
  have f_ask := as_nil_ask
  have f_reply := as_nil_reply
  have f_stop := as_nil_stop
  go_enter Try.func16, Try.ntmps16
  go_wp2_with (refine wpList_store_row rfl 46 (.tmp 2) (.tmp 34) rfl w.heap.size #[.int .i64 0, .int .i64 0, .int .i64 0, .int .i64 0, .int .i64 0, .int .i64 0, .int .i64 0, .int .i64 0, .int .i64 0, .int .i64 0, .int .i64 0, .string ⟨#[]⟩, .int .i64 0, .int .i64 0, .bool false, .int .i64 0, .string ⟨#[]⟩, .int .i64 0, .int .i64 0, .int .i64 0, .int .i64 0, .int .i64 0, .int .i64 0, .slice none 0 0, .bool false, .int .i64 0, .int .i64 0] rfl rfl 46 _ (Blk.new w _ _) (by kernel_rfl) (by kernel_rfl) (by kernel_rfl) ?_)
  (try simp only [Exit.inBlock, Exit.then])
  refine bodyPost_ret (results_cell_row rfl _ _ w.heap.size 46 #[.int .i64 0, .int .i64 0, .int .i64 0, .int .i64 0, .int .i64 0, .int .i64 0, .int .i64 0, .int .i64 0, .int .i64 0, .int .i64 0, .int .i64 0, .string ⟨#[]⟩, .int .i64 0, .int .i64 0, .bool false, .int .i64 0, .string ⟨#[]⟩, .int .i64 0, .int .i64 0, .int .i64 0, .int .i64 0, .int .i64 0, .int .i64 0, .slice none 0 0, .bool false, .int .i64 0, .int .i64 0] (0, 0) _ rfl ?_ Try.underlying46 rfl (by kernel_rfl)) rfl ?_
  · first | exact setRow_heap _ _ _ _ _ _ ((Blk.new w _ _).alloc _) | exact setRow_heap _ _ _ _ _ _ (Blk.new w _ _)
  · exact ⟨_, rfl, rfl, below_setRow (bel_alloc _ _) (Nat.le_refl _) _⟩
end Go.Proofs.Ytajhkjikcgfhdaa
namespace Go.Proofs.Ytajhkjikcgfhdaa
set_option linter.unusedVariables false
set_option linter.unusedSimpArgs false
set_option maxRecDepth 20000
open Go.RowKit
/-- The reference's form of a message. -/
def RV (w : World) (v : Value) : M → Prop
  | .hello hw hl => v = .agg #[.int .i64 1, .int .i64 hw, .int .i64 hl, .int .i64 0, .int .i64 0, .int .i64 0, .int .i64 0, .int .i64 0, .int .i64 0, .int .i64 0, .int .i64 0, .string ⟨#[]⟩, .int .i64 0, .int .i64 0, .bool false, .int .i64 0, .string ⟨#[]⟩, .int .i64 0, .int .i64 0, .int .i64 0, .int .i64 0, .int .i64 0, .int .i64 0, .slice none 0 0, .bool false, .int .i64 0, .int .i64 0]
  | .grant gw gl ge => v = .agg #[.int .i64 2, .int .i64 0, .int .i64 0, .int .i64 gw, .int .i64 gl, .int .i64 ge, .int .i64 0, .int .i64 0, .int .i64 0, .int .i64 0, .int .i64 0, .string ⟨#[]⟩, .int .i64 0, .int .i64 0, .bool false, .int .i64 0, .string ⟨#[]⟩, .int .i64 0, .int .i64 0, .int .i64 0, .int .i64 0, .int .i64 0, .int .i64 0, .slice none 0 0, .bool false, .int .i64 0, .int .i64 0]
  | .ask sl q sh sq ep t k b f d s => v = .agg #[.int .i64 3, .int .i64 0, .int .i64 0, .int .i64 0, .int .i64 0, .int .i64 0, .int .i64 sl, .int .i64 q, .int .i64 sh, .int .i64 sq, .int .i64 ep, .string t, .int .i64 k, .int .i64 b, .bool f, .int .i64 d, .string s, .int .i64 0, .int .i64 0, .int .i64 0, .int .i64 0, .int .i64 0, .int .i64 0, .slice none 0 0, .bool false, .int .i64 0, .int .i64 0]
  | .reply sl q sh sq wk ep xs en => ∃ A c, v = .agg #[.int .i64 4, .int .i64 0, .int .i64 0, .int .i64 0, .int .i64 0, .int .i64 0, .int .i64 0, .int .i64 0, .int .i64 0, .int .i64 0, .int .i64 0, .string ⟨#[]⟩, .int .i64 0, .int .i64 0, .bool false, .int .i64 0, .string ⟨#[]⟩, .int .i64 sl, .int .i64 q, .int .i64 sh, .int .i64 sq, .int .i64 wk, .int .i64 ep, .slice A xs.length c, .bool en, .int .i64 0, .int .i64 0] ∧ XReads w A xs.length xs
  | .stop sl q => v = .agg #[.int .i64 5, .int .i64 0, .int .i64 0, .int .i64 0, .int .i64 0, .int .i64 0, .int .i64 0, .int .i64 0, .int .i64 0, .int .i64 0, .int .i64 0, .string ⟨#[]⟩, .int .i64 0, .int .i64 0, .bool false, .int .i64 0, .string ⟨#[]⟩, .int .i64 0, .int .i64 0, .int .i64 0, .int .i64 0, .int .i64 0, .int .i64 0, .slice none 0 0, .bool false, .int .i64 sl, .int .i64 q]
  | .other x => v = .agg #[.int .i64 0, .int .i64 0, .int .i64 0, .int .i64 0, .int .i64 0, .int .i64 0, .int .i64 0, .int .i64 0, .int .i64 0, .int .i64 0, .int .i64 0, .string ⟨#[]⟩, .int .i64 0, .int .i64 0, .bool false, .int .i64 0, .string ⟨#[]⟩, .int .i64 0, .int .i64 0, .int .i64 0, .int .i64 0, .int .i64 0, .int .i64 0, .slice none 0 0, .bool false, .int .i64 0, .int .i64 0]
  | .none => v = .agg #[.int .i64 0, .int .i64 0, .int .i64 0, .int .i64 0, .int .i64 0, .int .i64 0, .int .i64 0, .int .i64 0, .int .i64 0, .int .i64 0, .int .i64 0, .string ⟨#[]⟩, .int .i64 0, .int .i64 0, .bool false, .int .i64 0, .string ⟨#[]⟩, .int .i64 0, .int .i64 0, .int .i64 0, .int .i64 0, .int .i64 0, .int .i64 0, .slice none 0 0, .bool false, .int .i64 0, .int .i64 0]
theorem RV.below {w w1 : World} {v : Value} {m : M} (h : RV w v m) (hb : Below w.heap.size w w1) : RV w1 v m := by
  cases m <;> try exact h
  obtain ⟨A, c, e, hx⟩ := h
  exact ⟨A, c, e, hx.below hb⟩
/-- Of has answered. -/
def OfTo (w : World) (m : M) (e : Ending) (w' : World) : Prop := ∃ r W, e = .returned r ∧ W = w' ∧ RV W r m ∧ Below w.heap.size w W
theorem of_m (v : Value) (m : M) (w : World) (h : MV w v m) : Calls Try.prog 16 #[v] w (OfTo w m) := by
  cases m with
  | hello hw hl => obtain rfl := h; exact (of_hello hw hl w).mono fun e w' ⟨W, he, hw, hb⟩ => ⟨_, W, he, hw, rfl, hb⟩
  | grant gw gl ge => obtain rfl := h; exact (of_grant gw gl ge w).mono fun e w' ⟨W, he, hw, hb⟩ => ⟨_, W, he, hw, rfl, hb⟩
  | ask sl q sh sq ep t k b f d s => obtain rfl := h; exact (of_ask sl q sh sq ep t k b f d s w).mono fun e w' ⟨W, he, hw, hb⟩ => ⟨_, W, he, hw, rfl, hb⟩
  | reply sl q sh sq wk ep xs en =>
    obtain ⟨A, c, rfl, hx⟩ := h
    exact (of_reply sl q sh sq wk ep A _ c en w).mono fun e w' ⟨W, he, hw, hb⟩ => ⟨_, W, he, hw, ⟨A, c, rfl, hx.below hb⟩, hb⟩
  | stop sl q => obtain rfl := h; exact (of_stop sl q w).mono fun e w' ⟨W, he, hw, hb⟩ => ⟨_, W, he, hw, rfl, hb⟩
  | other x => obtain rfl := h; exact (of_int x w).mono fun e w' ⟨W, he, hw, hb⟩ => ⟨_, W, he, hw, rfl, hb⟩
  | none => obtain rfl := h; exact (of_nil w).mono fun e w' ⟨W, he, hw, hb⟩ => ⟨_, W, he, hw, rfl, hb⟩
theorem refmay_m (v : Value) (m : M) (w : World) (h : RV w v m) (hs : SmallM 100 m) : Calls Try.prog 20 #[v] w (Gives w (.bool (mayM m))) := by
  cases m with
  | hello hw hl => obtain rfl := h; exact refmay_hello hw hl w
  | grant gw gl ge => obtain rfl := h; exact refmay_grant gw gl ge w
  | ask sl q sh sq ep t k b f d s => obtain rfl := h; exact refmay_ask sl q sh sq ep t k b f d s w (Nat.le_trans hs.1 (by omega)) (Nat.le_trans hs.2 (by omega))
  | reply sl q sh sq wk ep xs en =>
    obtain ⟨A, c, rfl, hx⟩ := h
    exact refmay_reply sl q sh sq wk ep A _ c en xs w hx (fun x hx => Nat.le_trans (hs x hx) (by omega))
  | stop sl q => obtain rfl := h; exact refmay_stop sl q w
  | other x => obtain rfl := h; exact refmay_none w
  | none => obtain rfl := h; exact refmay_none w
set_option maxHeartbeats 2000000 in
theorem refencno_none (w : World) :
    Calls Try.prog 15 #[.agg #[.int .i64 0, .int .i64 0, .int .i64 0, .int .i64 0, .int .i64 0, .int .i64 0, .int .i64 0, .int .i64 0, .int .i64 0, .int .i64 0, .int .i64 0, .string ⟨#[]⟩, .int .i64 0, .int .i64 0, .bool false, .int .i64 0, .string ⟨#[]⟩, .int .i64 0, .int .i64 0, .int .i64 0, .int .i64 0, .int .i64 0, .int .i64 0, .slice none 0 0, .bool false, .int .i64 0, .int .i64 0]] w (RefNo w) := by
  have K0 : Blk (w.alloc (.cells #[.int .i64 0, .int .i64 0, .int .i64 0, .int .i64 0, .int .i64 0, .int .i64 0, .int .i64 0, .int .i64 0, .int .i64 0, .int .i64 0, .int .i64 0, .string ⟨#[]⟩, .int .i64 0, .int .i64 0, .bool false, .int .i64 0, .string ⟨#[]⟩, .int .i64 0, .int .i64 0, .int .i64 0, .int .i64 0, .int .i64 0, .int .i64 0, .slice none 0 0, .bool false, .int .i64 0, .int .i64 0] 46)) w.heap.size 46 #[.int .i64 0, .int .i64 0, .int .i64 0, .int .i64 0, .int .i64 0, .int .i64 0, .int .i64 0, .int .i64 0, .int .i64 0, .int .i64 0, .int .i64 0, .string ⟨#[]⟩, .int .i64 0, .int .i64 0, .bool false, .int .i64 0, .string ⟨#[]⟩, .int .i64 0, .int .i64 0, .int .i64 0, .int .i64 0, .int .i64 0, .int .i64 0, .slice none 0 0, .bool false, .int .i64 0, .int .i64 0] := Blk.new w _ _
  have hb0 : Below w.heap.size w (w.alloc (.cells #[.int .i64 0, .int .i64 0, .int .i64 0, .int .i64 0, .int .i64 0, .int .i64 0, .int .i64 0, .int .i64 0, .int .i64 0, .int .i64 0, .int .i64 0, .string ⟨#[]⟩, .int .i64 0, .int .i64 0, .bool false, .int .i64 0, .string ⟨#[]⟩, .int .i64 0, .int .i64 0, .int .i64 0, .int .i64 0, .int .i64 0, .int .i64 0, .slice none 0 0, .bool false, .int .i64 0, .int .i64 0] 46)) := bel_alloc _ _
  go_enter Try.func15, Try.ntmps15
  go_wp2_with (first
    | (refine wpList_load_row rfl 46 (.tmp 1) rfl w.heap.size rfl 46 _ (0, 0) _ K0 Try.underlying46 rfl (by kernel_rfl) ?_)
    | (go_at_call 20; (with_reducible refine (refmay_none _).mono ?_); rintro e w' ⟨w1, rfl, rfl, b1⟩))
  go_ret2
  exact ⟨_, rfl, rfl, bel3 hb0 b1⟩
theorem refenc_m (v : Value) (m : M) (L : Nat) (w : World) (h : RV w v m) (hs : SmallM 100 m) (hm : mayM m = true) (hL : (frameM m).length = L) : Calls Try.prog 15 #[v] w (RefOk w (frameM m) L) := by
  cases m with
  | hello hw hl => obtain rfl := h; exact refenc_hello hw hl w hm L hL
  | grant gw gl ge => obtain rfl := h; exact refenc_grant gw gl ge w hm L hL
  | ask sl q sh sq ep t k b f d s => obtain rfl := h; exact refenc_ask sl q sh sq ep t k b f d s w hs.1 hs.2 hm L hL
  | reply sl q sh sq wk ep xs en =>
    obtain ⟨A, c, rfl, hx⟩ := h
    exact refenc_reply sl q sh sq wk ep A _ c en xs w hx hs hm L hL
  | stop sl q => obtain rfl := h; exact refenc_stop sl q w hm L hL
  | other x => cases hm
  | none => cases hm
theorem refencno_m (v : Value) (m : M) (w : World) (h : RV w v m) (hs : SmallM 100 m) (hm : mayM m = false) : Calls Try.prog 15 #[v] w (RefNo w) := by
  cases m with
  | hello hw hl => obtain rfl := h; exact refencno_hello hw hl w hm
  | grant gw gl ge => obtain rfl := h; exact refencno_grant gw gl ge w hm
  | ask sl q sh sq ep t k b f d s => obtain rfl := h; exact refencno_ask sl q sh sq ep t k b f d s w hs.1 hs.2 hm
  | reply sl q sh sq wk ep xs en =>
    obtain ⟨A, c, rfl, hx⟩ := h
    exact refencno_reply sl q sh sq wk ep A _ c en xs w hx hs hm
  | stop sl q => obtain rfl := h; exact refencno_stop sl q w hm
  | other x => obtain rfl := h; exact refencno_none w
  | none => obtain rfl := h; exact refencno_none w
end Go.Proofs.Ytajhkjikcgfhdaa
namespace Go.Proofs.Ytajhkjikcgfhdaa
set_option linter.unusedVariables false
set_option linter.unusedSimpArgs false
set_option maxRecDepth 20000
open Go.RowKit
def zI : Int × ByteArray := (0, ⟨#[]⟩)
def mI : Int × ByteArray := (-7, ⟨#[]⟩)
theorem xvals_app (xs ys : List (Int × ByteArray)) : xvals (xs ++ ys) = xvals xs ++ xvals ys := by simp [xvals, List.flatMap_append]
theorem xvals_one (xs : List (Int × ByteArray)) : ∀ u ∈ xvals xs, u.oneCell' = true := by
  intro u hu
  simp only [xvals, List.mem_flatMap] at hu
  obtain ⟨x, _, hu⟩ := hu
  simp only [List.mem_cons, List.not_mem_nil, or_false] at hu
  rcases hu with rfl | rfl <;> rfl
/-- The block behind k marks. -/
def lentX (xs : List (Int × ByteArray)) (k : Nat) : Array Value := (xvals (xs ++ (List.replicate k mI ++ List.replicate (3 - k) zI))).toArray
theorem lentX_at (xs : List (Int × ByteArray)) (n k : Nat) (hn : xs.length = n) (hk : k < 3) : (lentX xs k)[(n + k) * 2]? = some (.int .i64 0) ∧ (lentX xs k)[(n + k) * 2 + 1]? = some (.string ⟨#[]⟩) := by
  have hl : (xs ++ (List.replicate k mI ++ List.replicate (3 - k) zI)).length = n + 3 := by
    simp only [List.length_append, List.length_replicate]
    omega
  have e : gx (xs ++ (List.replicate k mI ++ List.replicate (3 - k) zI)) (n + k) = zI := by
    have := gx_eq (xs ++ (List.replicate k mI ++ List.replicate (3 - k) zI)) (n + k) (by omega)
    rw [List.getElem?_append_right (by omega), List.getElem?_append_right (by simp; omega)] at this
    simp only [List.length_replicate] at this
    obtain ⟨m, hm⟩ : ∃ m, 3 - k = m + 1 := ⟨2 - k, by omega⟩
    rw [hm, show n + k - xs.length - k = 0 by omega] at this
    simp only [List.replicate_succ, List.getElem?_cons_zero, Option.some.injEq] at this
    rw [hm, List.replicate_succ]
    exact this.symm
  obtain ⟨e1, e2⟩ := xvals_get _ (n + k) (show n + k < (xs ++ (List.replicate k mI ++ List.replicate (3 - k) zI)).length by omega)
  rw [e] at e1 e2
  exact ⟨by rw [lentX, List.getElem?_toArray]; exact e1, by rw [lentX, List.getElem?_toArray]; exact e2⟩
theorem made_items (n : Nat) : (madeCells #[Value.int .i64 0, Value.string ⟨#[]⟩] (n * 2)) = (xvals (List.replicate n zI)).toArray := by
  apply Array.ext'
  apply List.ext_getElem?
  intro j
  by_cases hj : j < n * 2
  · have e : gx (List.replicate n zI) (j / 2) = zI := by
      simp only [gx, List.getD_eq_getElem?_getD, List.getElem?_replicate]
      split <;> rfl
    obtain ⟨e1, e2⟩ := xvals_get (List.replicate n zI) (j / 2) (by rw [List.length_replicate]; omega)
    rw [e] at e1 e2
    have hm : (madeCells #[Value.int .i64 0, Value.string ⟨#[]⟩] (n * 2)).toList[j]? = some (#[Value.int .i64 0, Value.string ⟨#[]⟩][j % 2]!) := by
      simp [madeCells, hj]
    rcases Nat.mod_two_eq_zero_or_one j with h | h
    · rw [hm, h]
      rw [show j = j / 2 * 2 by omega]
      exact e1.symm
    · rw [hm, h]
      rw [show j = j / 2 * 2 + 1 by omega]
      exact e2.symm
  · rw [List.getElem?_eq_none (by simp [madeCells]; omega), List.getElem?_eq_none (by rw [List.toList_toArray, xvals_length, List.length_replicate]; omega)]
theorem lentX_parts (xs : List (Int × ByteArray)) (k : Nat) (hk : k < 3) :
    lentX xs k = (xvals (xs ++ List.replicate k mI) ++ (.int .i64 0 :: .string ⟨#[]⟩ :: xvals (List.replicate (2 - k) zI))).toArray ∧
    lentX xs (k + 1) = (xvals (xs ++ List.replicate k mI) ++ (.int .i64 (-7) :: .string ⟨#[]⟩ :: xvals (List.replicate (2 - k) zI))).toArray := by
  obtain ⟨m, hm⟩ : ∃ m, 2 - k = m := ⟨_, rfl⟩
  have h3 : 3 - k = m + 1 := by omega
  have h4 : 3 - (k + 1) = m := by omega
  constructor
  · unfold lentX
    rw [h3, hm, ← List.append_assoc, xvals_app]
    rfl
  · unfold lentX
    rw [h4, hm, List.replicate_succ', List.append_assoc, ← List.append_assoc, xvals_app]
    rfl
theorem lentX_set (xs : List (Int × ByteArray)) (n k : Nat) (hn : xs.length = n) (hk : k < 3) : ((lentX xs k).setIfInBounds ((n + k) * 2) (.int .i64 (-7))).setIfInBounds ((n + k) * 2 + 1) (.string ⟨#[]⟩) = lentX xs (k + 1) := by
  obtain ⟨e1, e2⟩ := lentX_parts xs k hk
  have hl : (xvals (xs ++ List.replicate k mI)).length = (n + k) * 2 := by rw [xvals_length, List.length_append, List.length_replicate, hn]
  rw [e1, e2]
  simp only [List.setIfInBounds_toArray]
  rw [List.set_append_right _ _ (by omega), hl, Nat.sub_self, List.set_cons_zero, List.set_append_right _ _ (by omega), hl, Nat.add_sub_cancel_left, List.set_cons_succ, List.set_cons_zero]
theorem appendX_new (w : World) (A : Option Addr) (n cp : Nat) (xs : List (Int × ByteArray)) (h : XReads w A n xs) :
    (Builtin.append_ #[30, 30] 30 #[.slice (some ⟨w.heap.size, 0, none⟩) 0 (n + 3), .slice A n cp]).run Try.prog (w.alloc (.cells (madeCells #[Value.int .i64 0, .string ⟨#[]⟩] ((n + 3) * 2)) 27)) =
      .ok (.slice (some ⟨w.heap.size, 0, none⟩) n (n + 3)) (w.alloc (.cells (lentX xs 0) 27)) := by
  obtain ⟨i0, hi, hz0, hz1, hz2⟩ := info_parts info_item
  have hl := h.1
  have hfin : (List.replicate (n + 3) zI).drop n = List.replicate 3 zI := by rw [List.drop_replicate]; congr 1; omega
  by_cases h0 : n = 0
  · subst h0
    obtain rfl : xs = [] := List.eq_nil_of_length_eq_zero hl
    cases A with
    | none =>
      simp [Builtin.append_, run_underlying Try.underlying30, sizeOf, typeInfo, hi, Builtin.lenOf, Builtin.firstCells, storeCells, lentX]
      exact congrArg (fun c => w.alloc (.cells c 27)) (made_items 3)
    | some ad =>
      have hr := run_append_room (P := Try.prog) (w.alloc (.cells (madeCells #[Value.int .i64 0, .string ⟨#[]⟩] ((0 + 3) * 2)) 27)) 30 30 27 i0 Try.underlying30 hi w.heap.size 0 (0 + 3) _ (heap_alloc_new w _) ad 0 cp [] (by simp) (by simp) (by simp) (by omega) (by simp)
      rw [hr, set_new]
      congr 3
      simp [lentX]
      exact made_items 3
  · obtain ⟨ad, rfl, hc⟩ := h.2.2 (by omega)
    have hr := run_append_room (P := Try.prog) (w.alloc (.cells (madeCells #[Value.int .i64 0, .string ⟨#[]⟩] ((n + 3) * 2)) 27)) 30 30 27 i0 Try.underlying30 hi w.heap.size 0 (n + 3) _ (heap_alloc_new w _) ad n cp (xvals xs) (by rw [xvals_length, hl, hz1])
      (fun j u hu => by
        have hj : j < n * 2 := by
          have := (List.getElem?_eq_some_iff.1 hu).1
          rw [xvals_length, hl] at this
          exact this
        obtain ⟨c1, c2⟩ := hc (j / 2) (by omega)
        obtain ⟨e1, e2⟩ := xvals_get xs (j / 2) (by omega)
        rcases Nat.mod_two_eq_zero_or_one j with hm | hm
        · rw [show j = j / 2 * 2 by omega, e1] at hu
          injection hu with hu
          subst hu
          rw [show ad.add j = ad.add (j / 2 * 2) by congr 1; omega, World.cell?_alloc_lt _ _ _ (World.block_lt_of_cell? w _ c1)]
          exact c1
        · rw [show j = j / 2 * 2 + 1 by omega, e2] at hu
          injection hu with hu
          subst hu
          have ea : ad.add j = ⟨(ad.add (j / 2 * 2)).block, (ad.add (j / 2 * 2)).off + 1, none⟩ := by
            rw [show j = j / 2 * 2 + 1 by omega, ← add_of_add]
            rw [show (j / 2 * 2 + 1) / 2 * 2 = j / 2 * 2 by omega]
            rfl
          rw [ea, World.cell?_alloc_lt _ _ _ (World.block_lt_of_cell? w _ c2)]
          exact c2) (xvals_one xs) (by omega) (by rw [xvals_length, size_madeCells]; omega)
    rw [hr, set_new]
    congr 3
    · omega
    · rw [made_items]
      simp only [lentX, xvals_length, hl, xvals_app, Nat.zero_mul, List.take_zero, List.nil_append, Nat.zero_add, List.replicate_zero, Nat.sub_zero]
      have e : (xvals (List.replicate (n + 3) zI)).drop (n * 2) = xvals (List.replicate 3 zI) := by
        have e1 : List.replicate (n + 3) zI = List.replicate n zI ++ List.replicate 3 zI := by rw [List.replicate_append_replicate]
        rw [e1, xvals_app, List.drop_left' (by rw [xvals_length, List.length_replicate])]
      simp only [List.toList_toArray, e]
/-- What LendItems has made. -/
def LentX (w : World) (g : Nat) (xs : List (Int × ByteArray)) : Prop := w.heap[g]? = some (.cells (lentX xs 3) 27 (0, 0))
set_option maxHeartbeats 1000000 in
theorem lendItems_any (A : Option Addr) (n cp : Nat) (xs : List (Int × ByteArray)) (w : World) (h : XReads w A n xs) (hn : n ≤ 100000) :
    Calls Try.prog 12 #[.slice A n cp] w fun e w' => ∃ W, e = .returned (.slice (some ⟨w.heap.size, 0, none⟩) n (n + 3)) ∧ W = w' ∧ LentX W w.heap.size xs ∧ Below w.heap.size w W := by
  obtain ⟨i0, hi, hz0, hz1, hz2⟩ := info_parts info_item
  have hmk : (Instr.makeSlice 30 (.int .i64 0) (.int .i64 ((n : Int) + 3))).run Try.prog w = .ok (.slice (some ⟨w.heap.size, 0, none⟩) 0 (n + 3)) (w.alloc (.cells (madeCells #[Value.int .i64 0, .string ⟨#[]⟩] ((n + 3) * 2)) 27)) := by
    have hmk := run_make_rowN (P := Try.prog) 30 27 i0 _ Try.underlying30 hi hz0 .i64 .i64 0 (n + 3) (by omega) (by rw [hz2]; omega) (by omega) w
    rw [hz1] at hmk
    exact hmk
  have hap := appendX_new w A n cp xs h
  have HL := Lib.hid h.1
  clear h hi hz0 hz1 hz2
  go_enter Try.func12, Try.ntmps12
  go_wp2_with (at_builtin; refine wpList_append_run _ rfl (.tmp 10) (.tmp 11) _ rfl _ _ rfl rfl _ _ hap ?_)
  clear hap hmk
  go_loopw [5] (fun i wr => ∃ k : Nat, k ≤ 3 ∧ i = .int .i64 k ∧ wr = w.alloc (.cells (lentX xs k) 27)) (fun i _ => 3 - (intOf i).toNat)
  case atStart => exact ⟨0, by omega, rfl, rfl⟩
  case round =>
    obtain ⟨k, hk, rfl, rfl⟩ := hrel
    by_cases hlt : k < 3
    · obtain ⟨l1, l2⟩ := lentX_at xs n k HL.out hlt
      have ej : (n + k) * 2 = n * 2 + k * 2 := by omega
      rw [ej] at l1 l2
      have hc : (w.alloc (.cells (lentX xs k) 27)).cell? ⟨w.heap.size, n * 2 + k * 2, none⟩ = some (.int .i64 0) := by
        rw [cell_of_row _ _ _ _ _ _ (heap_alloc_new w _)]
        exact l1
      have hc2 : (w.alloc (.cells ((lentX xs k).setIfInBounds (n * 2 + k * 2) (.int .i64 (-7))) 27)).cell? ⟨w.heap.size, n * 2 + k * 2 + 1, none⟩ = some (.string ⟨#[]⟩) := by
        rw [cell_of_row _ _ _ _ _ _ (heap_alloc_new w _), Array.getElem?_setIfInBounds_ne (by omega)]
        exact l2
      have hf : (w.alloc (.cells (lentX xs k) 27)).frozen? ⟨w.heap.size, n * 2 + k * 2, none⟩ = false := (Blk.new w 27 (lentX xs k)).frozen _
      have hf2 : (w.alloc (.cells ((lentX xs k).setIfInBounds (n * 2 + k * 2) (.int .i64 (-7))) 27)).frozen? ⟨w.heap.size, n * 2 + k * 2 + 1, none⟩ = false := (Blk.new w 27 ((lentX xs k).setIfInBounds (n * 2 + k * 2) (.int .i64 (-7)))).frozen _
      have HE : Hid (((lentX xs k).setIfInBounds (n * 2 + k * 2) (.int .i64 (-7))).setIfInBounds (n * 2 + k * 2 + 1) (.string ⟨#[]⟩) = lentX xs (k + 1)) := by
        have := lentX_set xs n k HL.out hlt
        rwa [ej] at this
      clear l1 l2 ej
      go_wp2
      go_roundw
      case rel => exact ⟨k + 1, by omega, by go_num, by rw [← HE.out]⟩
      case measure => simp [intOf]; omega
    · obtain rfl : k = 3 := by omega
      go_wp2
      go_ret
      exact ⟨_, rfl, rfl, by rw [LentX, heap_alloc_new], (Below.refl _ _).alloc (Nat.le_refl _) _⟩
theorem LentX.at_ {w : World} {g : Nat} {xs : List (Int × ByteArray)} (h : LentX w g xs) (k : Nat) (hk : k < xs.length + 3) :
    w.cell? ⟨g, k * 2, none⟩ = some (.int .i64 (gx (xs ++ List.replicate 3 mI) k).1) ∧ w.cell? ⟨g, k * 2 + 1, none⟩ = some (.string (gx (xs ++ List.replicate 3 mI) k).2) := by
  obtain ⟨e1, e2⟩ := xvals_get (xs ++ List.replicate 3 mI) k (by rw [List.length_append, List.length_replicate]; omega)
  have e : lentX xs 3 = (xvals (xs ++ List.replicate 3 mI)).toArray := by
    unfold lentX
    simp
  rw [cell_of_row _ _ _ _ _ _ h, cell_of_row _ _ _ _ _ _ h, e, List.getElem?_toArray, List.getElem?_toArray]
  exact ⟨e1, e2⟩
theorem LentX.xreads {w : World} {g : Nat} {xs : List (Int × ByteArray)} (h : LentX w g xs) (n : Nat) (hn : xs.length = n) (hm : n ≤ 100000) : XReads w (some ⟨g, 0, none⟩) n xs := by
  refine ⟨hn, by omega, fun _ => ⟨_, rfl, fun k hk => ?_⟩⟩
  have e : gx (xs ++ List.replicate 3 mI) k = gx xs k := by
    simp only [gx, List.getD_eq_getElem?_getD]
    rw [List.getElem?_append_left (by omega)]
  have := h.at_ k (by omega)
  rw [e] at this
  rw [add_zero]
  exact this
theorem LentX.mark {w : World} {g : Nat} {xs : List (Int × ByteArray)} (h : LentX w g xs) (n : Nat) (hn : xs.length = n) (k : Nat) (hk : k < 3) : w.cell? ⟨g, n * 2 + k * 2, none⟩ = some (.int .i64 (-7)) ∧ w.cell? ⟨g, n * 2 + k * 2 + 1, none⟩ = some (.string ⟨#[]⟩) := by
  have e : gx (xs ++ List.replicate 3 mI) (n + k) = mI := by
    simp only [gx, List.getD_eq_getElem?_getD]
    rw [List.getElem?_append_right (by omega), show n + k - xs.length = k by omega, List.getElem?_replicate, if_pos hk]
    rfl
  have := h.at_ (n + k) (by omega)
  rw [e, show (n + k) * 2 = n * 2 + k * 2 by omega] at this
  exact this
theorem LentX.below {w w1 : World} {g : Nat} {xs : List (Int × ByteArray)} {B : Nat} (h : LentX w g xs) (hb : Below B w w1) (hg : g < B) : LentX w1 g xs := (hb.block g hg).trans h
set_option maxHeartbeats 1000000 in
theorem keptItems_any (g n : Nat) (B : Option Addr) (m d : Nat) (xs ys : List (Int × ByteArray)) (w : World) (hx : LentX w g xs) (hn : xs.length = n) (hs : n ≤ 100000) (hy : XReads w B m ys) :
    Calls Try.prog 23 #[.slice (some ⟨g, 0, none⟩) n (n + 3), .slice B m d] w fun e w' => e = .returned (.bool (decide (xs = ys))) ∧ ∃ k, w' = w.drewN k := by
  have HX := Lib.hid (hx.xreads n hn hs)
  have HM := Lib.hid fun k hk => hx.mark n hn k hk
  have HY := Lib.hid hy
  have hq : ∀ w, (binOp .neq 27 (.agg #[.int .i64 (-7), .string ⟨#[]⟩]) (.agg #[.int .i64 (-7), .string ⟨#[]⟩])).run Try.prog w = .ok (.bool false) w := fun w => by
    rw [neq_item]
    simp
  clear hx hy hn
  go_enter Try.func23, Try.ntmps23
  go_wp2
  go_loop [6] (fun i => ∃ k : Nat, k ≤ 3 ∧ i = .int .i64 k) (fun i => 3 - (intOf i).toNat)
  case atStart => exact ⟨0, by omega, rfl⟩
  case round =>
    obtain ⟨k, hk, rfl⟩ := hrel
    by_cases hlt : k < 3
    · obtain ⟨hc, hc2⟩ := HM.out k hlt
      go_wp2
      go_round
      case rel => exact ⟨k + 1, by omega, by go_num⟩
      case measure => simp [intOf]; omega
    · obtain rfl : k = 3 := by omega
      go_wp2_with (go_at_call 53; refine (sameItems_any _ _ _ _ _ _ _ _ _ HX.out HY.out).mono ?_; rintro e w' ⟨rfl, q, rfl⟩)
      go_ret
      exact ⟨rfl, _, rfl⟩
end Go.Proofs.Ytajhkjikcgfhdaa
namespace Go.Proofs.Ytajhkjikcgfhdaa
set_option linter.unusedVariables false
set_option linter.unusedSimpArgs false
set_option maxRecDepth 20000
open Go.RowKit
theorem of_k (v : Value) (m : M) (w : World) (h : MV w v m) : Calls Try.prog 16 #[v] w fun e w' => ∃ (u1 u2 u3 u4 u5 u6 u7 u8 u9 u10 u11 u12 u13 u14 u15 u16 u17 u18 u19 u20 u21 u22 u23 u24 u25 u26 : Value) (W : World), e = .returned (.agg #[.int .i64 (kindM m), u1, u2, u3, u4, u5, u6, u7, u8, u9, u10, u11, u12, u13, u14, u15, u16, u17, u18, u19, u20, u21, u22, u23, u24, u25, u26]) ∧ W = w' ∧ Below w.heap.size w W := by
  refine (of_m v m w h).mono ?_
  rintro e w' ⟨r, W, rfl, rfl, hr, hb⟩
  cases m with
  | reply sl q sh sq wk ep xs en => obtain ⟨A, c, rfl, _⟩ := hr; exact ⟨_, _, _, _, _, _, _, _, _, _, _, _, _, _, _, _, _, _, _, _, _, _, _, _, _, _, W, rfl, rfl, hb⟩
  | hello => obtain rfl := hr; exact ⟨_, _, _, _, _, _, _, _, _, _, _, _, _, _, _, _, _, _, _, _, _, _, _, _, _, _, W, rfl, rfl, hb⟩
  | grant => obtain rfl := hr; exact ⟨_, _, _, _, _, _, _, _, _, _, _, _, _, _, _, _, _, _, _, _, _, _, _, _, _, _, W, rfl, rfl, hb⟩
  | ask => obtain rfl := hr; exact ⟨_, _, _, _, _, _, _, _, _, _, _, _, _, _, _, _, _, _, _, _, _, _, _, _, _, _, W, rfl, rfl, hb⟩
  | stop => obtain rfl := hr; exact ⟨_, _, _, _, _, _, _, _, _, _, _, _, _, _, _, _, _, _, _, _, _, _, _, _, _, _, W, rfl, rfl, hb⟩
  | other => obtain rfl := hr; exact ⟨_, _, _, _, _, _, _, _, _, _, _, _, _, _, _, _, _, _, _, _, _, _, _, _, _, _, W, rfl, rfl, hb⟩
  | none => obtain rfl := hr; exact ⟨_, _, _, _, _, _, _, _, _, _, _, _, _, _, _, _, _, _, _, _, _, _, _, _, _, _, W, rfl, rfl, hb⟩
theorem field_k (k : Int) (u1 u2 u3 u4 u5 u6 u7 u8 u9 u10 u11 u12 u13 u14 u15 u16 u17 u18 u19 u20 u21 u22 u23 u24 u25 u26 : Value) (w : World) : (Instr.field 46 (.agg #[.int .i64 k, u1, u2, u3, u4, u5, u6, u7, u8, u9, u10, u11, u12, u13, u14, u15, u16, u17, u18, u19, u20, u21, u22, u23, u24, u25, u26]) 0).run Try.prog w = .ok (.int .i64 k) w := by kernel_rfl
theorem lawnum_any (x : Int) (w : World) : Calls Try.prog 18 #[.int .i64 x] w fun e w' => e = .returned (.int .i64 x) ∧ w = w' := by
  go_enter Try.func18, Try.ntmps18
  go_wp2
  go_ret
  exact ⟨rfl, rfl⟩
set_option maxHeartbeats 4000000 in
theorem msgLays_great (kind : Int) (hw hl gw gl ge : Int) (al aq ah as_ ae : Int) (t : ByteArray) (ak ab : Int) (af : Bool) (ad : Int) (s : ByteArray) (sl q sh sq wk ep : Int) (A : Option Addr) (n c : Nat) (en : Bool) (xs : List (Int × ByteArray)) (ss sq2 : Int) (w : World) (hx : n ≤ 80 → XReads w A n xs) (hn : n ≤ 9223372036854775807) (hg : greatR t s n xs = true) :
    Calls Try.prog 3 #[.int .i64 kind, .agg #[.int .i64 hw, .int .i64 hl], .agg #[.int .i64 gw, .int .i64 gl, .int .i64 ge], .agg #[.int .i64 al, .int .i64 aq, .int .i64 ah, .int .i64 as_, .int .i64 ae, .string t, .int .i64 ak, .int .i64 ab, .bool af, .int .i64 ad, .string s], .agg #[.int .i64 sl, .int .i64 q, .int .i64 sh, .int .i64 sq, .int .i64 wk, .int .i64 ep, .slice A n c, .bool en], .agg #[.int .i64 ss, .int .i64 sq2]] w (Gives w (.bool true)) := by
  have HX : Hid (n ≤ 80 → XReads (((((w.alloc (.cells #[.int .i64 hw, .int .i64 hl] 23)).alloc (.cells #[.int .i64 gw, .int .i64 gl, .int .i64 ge] 25)).alloc (.cells #[.int .i64 al, .int .i64 aq, .int .i64 ah, .int .i64 as_, .int .i64 ae, .string t, .int .i64 ak, .int .i64 ab, .bool af, .int .i64 ad, .string s] 29)).alloc (.cells #[.int .i64 sl, .int .i64 q, .int .i64 sh, .int .i64 sq, .int .i64 wk, .int .i64 ep, .slice A n c, .bool en] 32)).alloc (.cells #[.int .i64 ss, .int .i64 sq2] 34)) A n xs) := fun h => (hx h).below (bel_five _ _ _ _ _ _)
  have HB5 : Hid (Below w.heap.size w (((((w.alloc (.cells #[.int .i64 hw, .int .i64 hl] 23)).alloc (.cells #[.int .i64 gw, .int .i64 gl, .int .i64 ge] 25)).alloc (.cells #[.int .i64 al, .int .i64 aq, .int .i64 ah, .int .i64 as_, .int .i64 ae, .string t, .int .i64 ak, .int .i64 ab, .bool af, .int .i64 ad, .string s] 29)).alloc (.cells #[.int .i64 sl, .int .i64 q, .int .i64 sh, .int .i64 sq, .int .i64 wk, .int .i64 ep, .slice A n c, .bool en] 32)).alloc (.cells #[.int .i64 ss, .int .i64 sq2] 34))) := bel_five _ _ _ _ _ _
  have HG := Lib.hid hg
  clear hx hg
  go_enter Try.func3, Try.ntmps3
  go_wp2_with (first
    | (go_at_call 10; (with_reducible refine (great_all al aq ah as_ ae t ak ab af ad s sl q sh sq wk ep A n c en xs _ HX.out hn).mono ?_); rintro e w' ⟨w1, rfl, rfl, b1⟩; rw [HG.out])
    | (go_at_call 11; (with_reducible refine (awake_any _).mono ?_); rintro e w' ⟨w9, rfl, rfl, b9⟩))
  go_ret
  exact ⟨_, rfl, rfl, bel3 (bel3 HB5.out b1) b9⟩
set_option maxHeartbeats 16000000 in
theorem msgLays_yes (kind : Int) (hw hl gw gl ge : Int) (al aq ah as_ ae : Int) (t : ByteArray) (ak ab : Int) (af : Bool) (ad : Int) (s : ByteArray) (sl q sh sq wk ep : Int) (A : Option Addr) (n c : Nat) (en : Bool) (xs : List (Int × ByteArray)) (ss sq2 : Int) (w : World) (hx : n ≤ 80 → XReads w A n xs) (hn : n ≤ 9223372036854775807) (hg : greatR t s n xs = false) (hm : mayM (oneM kind hw hl gw gl ge al aq ah as_ ae t ak ab af ad s sl q sh sq wk ep xs en ss sq2) = true) :
    Calls Try.prog 3 #[.int .i64 kind, .agg #[.int .i64 hw, .int .i64 hl], .agg #[.int .i64 gw, .int .i64 gl, .int .i64 ge], .agg #[.int .i64 al, .int .i64 aq, .int .i64 ah, .int .i64 as_, .int .i64 ae, .string t, .int .i64 ak, .int .i64 ab, .bool af, .int .i64 ad, .string s], .agg #[.int .i64 sl, .int .i64 q, .int .i64 sh, .int .i64 sq, .int .i64 wk, .int .i64 ep, .slice A n c, .bool en], .agg #[.int .i64 ss, .int .i64 sq2]] w (Gives w (.bool true)) := by
  obtain ⟨n80, ht, hs, _, hsm⟩ := greatR_no hg
  have HX : Hid (n ≤ 80 → XReads (((((w.alloc (.cells #[.int .i64 hw, .int .i64 hl] 23)).alloc (.cells #[.int .i64 gw, .int .i64 gl, .int .i64 ge] 25)).alloc (.cells #[.int .i64 al, .int .i64 aq, .int .i64 ah, .int .i64 as_, .int .i64 ae, .string t, .int .i64 ak, .int .i64 ab, .bool af, .int .i64 ad, .string s] 29)).alloc (.cells #[.int .i64 sl, .int .i64 q, .int .i64 sh, .int .i64 sq, .int .i64 wk, .int .i64 ep, .slice A n c, .bool en] 32)).alloc (.cells #[.int .i64 ss, .int .i64 sq2] 34)) A n xs) := fun h => (hx h).below (bel_five _ _ _ _ _ _)
  have HB5 : Hid (Below w.heap.size w (((((w.alloc (.cells #[.int .i64 hw, .int .i64 hl] 23)).alloc (.cells #[.int .i64 gw, .int .i64 gl, .int .i64 ge] 25)).alloc (.cells #[.int .i64 al, .int .i64 aq, .int .i64 ah, .int .i64 as_, .int .i64 ae, .string t, .int .i64 ak, .int .i64 ab, .bool af, .int .i64 ad, .string s] 29)).alloc (.cells #[.int .i64 sl, .int .i64 q, .int .i64 sh, .int .i64 sq, .int .i64 wk, .int .i64 ep, .slice A n c, .bool en] 32)).alloc (.cells #[.int .i64 ss, .int .i64 sq2] 34))) := bel_five _ _ _ _ _ _
  obtain ⟨m, hmm⟩ : ∃ m, (oneM kind hw hl gw gl ge al aq ah as_ ae t ak ab af ad s sl q sh sq wk ep xs en ss sq2) = m := ⟨_, rfl⟩
  have HS1 : Hid (SmallM 100 m) := by
    rw [← hmm]
    exact oneM_small _ _ _ _ _ _ _ _ _ _ _ _ _ _ _ _ _ _ _ _ _ _ _ _ _ _ _ (by omega) (by omega) (fun x hx => Nat.le_trans (hsm x hx) (by omega))
  have HS : Hid (SmallM 60000 m) := HS1.out.le (by omega)
  rw [hmm] at hm
  have HXX := Lib.hid (hx n80)
  have HXN := Lib.hid (hx n80).1
  have HM := Lib.hid hm
  have HMM := Lib.hid hmm
  have HG := Lib.hid hg
  obtain ⟨L, hL⟩ : ∃ L, (frameM m).length = L := ⟨_, rfl⟩
  have hLb : L ≤ 1024 := by
    rw [← hL, frameM_length]
    have := bodyM_length m hm
    omega
  have HL := Lib.hid hL
  clear hL
  clear hx hg hm hmm hsm
  have f_field := field_k (kindM m)
  go_enter Try.func3, Try.ntmps3
  go_wp2_with (first
    | (go_at_call 10; (with_reducible refine (great_all al aq ah as_ ae t ak ab af ad s sl q sh sq wk ep A n c en xs _ HX.out hn).mono ?_); rintro e w' ⟨w1, rfl, rfl, b1⟩; rw [HG.out]; have HB1 := Lib.hid (bel3 HB5.out b1); have HX1 := Lib.hid (HXX.out.below HB1.out); obtain ⟨K0, K1, K2, K3, K4⟩ := five_keep _ _ _ _ _ _ _ _ _ _ _ _ b1; have cw1_0_0 : w1.cell? ⟨w.heap.size, 0, none⟩ = some (.int .i64 hw) := (K0.cell 0).trans rfl; have cw1_0_1 : w1.cell? ⟨w.heap.size, 1, none⟩ = some (.int .i64 hl) := (K0.cell 1).trans rfl; have cw1_1_0 : w1.cell? ⟨w.heap.size + 1, 0, none⟩ = some (.int .i64 gw) := (K1.cell 0).trans rfl; have cw1_1_1 : w1.cell? ⟨w.heap.size + 1, 1, none⟩ = some (.int .i64 gl) := (K1.cell 1).trans rfl; have cw1_1_2 : w1.cell? ⟨w.heap.size + 1, 2, none⟩ = some (.int .i64 ge) := (K1.cell 2).trans rfl; have cw1_2_0 : w1.cell? ⟨w.heap.size + 2, 0, none⟩ = some (.int .i64 al) := (K2.cell 0).trans rfl; have cw1_2_1 : w1.cell? ⟨w.heap.size + 2, 1, none⟩ = some (.int .i64 aq) := (K2.cell 1).trans rfl; have cw1_2_2 : w1.cell? ⟨w.heap.size + 2, 2, none⟩ = some (.int .i64 ah) := (K2.cell 2).trans rfl; have cw1_2_3 : w1.cell? ⟨w.heap.size + 2, 3, none⟩ = some (.int .i64 as_) := (K2.cell 3).trans rfl; have cw1_2_4 : w1.cell? ⟨w.heap.size + 2, 4, none⟩ = some (.int .i64 ae) := (K2.cell 4).trans rfl; have cw1_2_5 : w1.cell? ⟨w.heap.size + 2, 5, none⟩ = some (.string t) := (K2.cell 5).trans rfl; have cw1_2_6 : w1.cell? ⟨w.heap.size + 2, 6, none⟩ = some (.int .i64 ak) := (K2.cell 6).trans rfl; have cw1_2_7 : w1.cell? ⟨w.heap.size + 2, 7, none⟩ = some (.int .i64 ab) := (K2.cell 7).trans rfl; have cw1_2_8 : w1.cell? ⟨w.heap.size + 2, 8, none⟩ = some (.bool af) := (K2.cell 8).trans rfl; have cw1_2_9 : w1.cell? ⟨w.heap.size + 2, 9, none⟩ = some (.int .i64 ad) := (K2.cell 9).trans rfl; have cw1_2_10 : w1.cell? ⟨w.heap.size + 2, 10, none⟩ = some (.string s) := (K2.cell 10).trans rfl; have cw1_3_0 : w1.cell? ⟨w.heap.size + 3, 0, none⟩ = some (.int .i64 sl) := (K3.cell 0).trans rfl; have cw1_3_1 : w1.cell? ⟨w.heap.size + 3, 1, none⟩ = some (.int .i64 q) := (K3.cell 1).trans rfl; have cw1_3_2 : w1.cell? ⟨w.heap.size + 3, 2, none⟩ = some (.int .i64 sh) := (K3.cell 2).trans rfl; have cw1_3_3 : w1.cell? ⟨w.heap.size + 3, 3, none⟩ = some (.int .i64 sq) := (K3.cell 3).trans rfl; have cw1_3_4 : w1.cell? ⟨w.heap.size + 3, 4, none⟩ = some (.int .i64 wk) := (K3.cell 4).trans rfl; have cw1_3_5 : w1.cell? ⟨w.heap.size + 3, 5, none⟩ = some (.int .i64 ep) := (K3.cell 5).trans rfl; have cw1_3_6 : w1.cell? ⟨w.heap.size + 3, 6, none⟩ = some (.slice A n c) := (K3.cell 6).trans rfl; have cw1_3_7 : w1.cell? ⟨w.heap.size + 3, 7, none⟩ = some (.bool en) := (K3.cell 7).trans rfl; have cw1_4_0 : w1.cell? ⟨w.heap.size + 4, 0, none⟩ = some (.int .i64 ss) := (K4.cell 0).trans rfl; have cw1_4_1 : w1.cell? ⟨w.heap.size + 4, 1, none⟩ = some (.int .i64 sq2) := (K4.cell 1).trans rfl; have HK3 := Lib.hid K3; have hlt3 : w.heap.size + 3 < w1.heap.size := K3.lt; clear K0 K1 K2 K3 K4; clear b1)
    | (go_at_call 12; (with_reducible refine (lendItems_any A n c xs w1 HX1.out (by omega)).mono ?_); rintro e w' ⟨w2, rfl, rfl, hlx, b2⟩; have cw2_0_0 : w2.cell? ⟨w.heap.size, 0, none⟩ = some (.int .i64 hw) := cell_keep cw1_0_0 b2; have cw2_0_1 : w2.cell? ⟨w.heap.size, 1, none⟩ = some (.int .i64 hl) := cell_keep cw1_0_1 b2; have cw2_1_0 : w2.cell? ⟨w.heap.size + 1, 0, none⟩ = some (.int .i64 gw) := cell_keep cw1_1_0 b2; have cw2_1_1 : w2.cell? ⟨w.heap.size + 1, 1, none⟩ = some (.int .i64 gl) := cell_keep cw1_1_1 b2; have cw2_1_2 : w2.cell? ⟨w.heap.size + 1, 2, none⟩ = some (.int .i64 ge) := cell_keep cw1_1_2 b2; have cw2_2_0 : w2.cell? ⟨w.heap.size + 2, 0, none⟩ = some (.int .i64 al) := cell_keep cw1_2_0 b2; have cw2_2_1 : w2.cell? ⟨w.heap.size + 2, 1, none⟩ = some (.int .i64 aq) := cell_keep cw1_2_1 b2; have cw2_2_2 : w2.cell? ⟨w.heap.size + 2, 2, none⟩ = some (.int .i64 ah) := cell_keep cw1_2_2 b2; have cw2_2_3 : w2.cell? ⟨w.heap.size + 2, 3, none⟩ = some (.int .i64 as_) := cell_keep cw1_2_3 b2; have cw2_2_4 : w2.cell? ⟨w.heap.size + 2, 4, none⟩ = some (.int .i64 ae) := cell_keep cw1_2_4 b2; have cw2_2_5 : w2.cell? ⟨w.heap.size + 2, 5, none⟩ = some (.string t) := cell_keep cw1_2_5 b2; have cw2_2_6 : w2.cell? ⟨w.heap.size + 2, 6, none⟩ = some (.int .i64 ak) := cell_keep cw1_2_6 b2; have cw2_2_7 : w2.cell? ⟨w.heap.size + 2, 7, none⟩ = some (.int .i64 ab) := cell_keep cw1_2_7 b2; have cw2_2_8 : w2.cell? ⟨w.heap.size + 2, 8, none⟩ = some (.bool af) := cell_keep cw1_2_8 b2; have cw2_2_9 : w2.cell? ⟨w.heap.size + 2, 9, none⟩ = some (.int .i64 ad) := cell_keep cw1_2_9 b2; have cw2_2_10 : w2.cell? ⟨w.heap.size + 2, 10, none⟩ = some (.string s) := cell_keep cw1_2_10 b2; have cw2_3_0 : w2.cell? ⟨w.heap.size + 3, 0, none⟩ = some (.int .i64 sl) := cell_keep cw1_3_0 b2; have cw2_3_1 : w2.cell? ⟨w.heap.size + 3, 1, none⟩ = some (.int .i64 q) := cell_keep cw1_3_1 b2; have cw2_3_2 : w2.cell? ⟨w.heap.size + 3, 2, none⟩ = some (.int .i64 sh) := cell_keep cw1_3_2 b2; have cw2_3_3 : w2.cell? ⟨w.heap.size + 3, 3, none⟩ = some (.int .i64 sq) := cell_keep cw1_3_3 b2; have cw2_3_4 : w2.cell? ⟨w.heap.size + 3, 4, none⟩ = some (.int .i64 wk) := cell_keep cw1_3_4 b2; have cw2_3_5 : w2.cell? ⟨w.heap.size + 3, 5, none⟩ = some (.int .i64 ep) := cell_keep cw1_3_5 b2; have cw2_3_6 : w2.cell? ⟨w.heap.size + 3, 6, none⟩ = some (.slice A n c) := cell_keep cw1_3_6 b2; have cw2_3_7 : w2.cell? ⟨w.heap.size + 3, 7, none⟩ = some (.bool en) := cell_keep cw1_3_7 b2; have cw2_4_0 : w2.cell? ⟨w.heap.size + 4, 0, none⟩ = some (.int .i64 ss) := cell_keep cw1_4_0 b2; have cw2_4_1 : w2.cell? ⟨w.heap.size + 4, 1, none⟩ = some (.int .i64 sq2) := cell_keep cw1_4_1 b2; have f2 : w2.frozen? ⟨w.heap.size + 3, 6, none⟩ = false := (HK3.out.below b2 HK3.out.lt).frozen 6; have HBS : Hid (Below w.heap.size w (w2.setCell ⟨w.heap.size + 3, 6, none⟩ (.slice (some ⟨w1.heap.size, 0, none⟩) n (n + 3)))) := (bel3 HB1.out b2).setCell (p := ⟨w.heap.size + 3, 6, none⟩) (show w.heap.size ≤ w.heap.size + 3 by omega) _; have HLS : Hid (LentX (w2.setCell ⟨w.heap.size + 3, 6, none⟩ (.slice (some ⟨w1.heap.size, 0, none⟩) n (n + 3))) w1.heap.size xs) := Blk.far (p := ⟨w.heap.size + 3, 6, none⟩) hlx (show w1.heap.size ≠ w.heap.size + 3 by omega) _; have hlt1 : w1.heap.size < w2.heap.size := Blk.lt hlx; have HXS : Hid (XReads (w2.setCell ⟨w.heap.size + 3, 6, none⟩ (.slice (some ⟨w1.heap.size, 0, none⟩) n (n + 3))) (some ⟨w1.heap.size, 0, none⟩) n xs) := HLS.out.xreads n HXN.out (by omega); clear hlx b2; clear cw1_0_0 cw1_0_1 cw1_1_0 cw1_1_1 cw1_1_2 cw1_2_0 cw1_2_1 cw1_2_2 cw1_2_3 cw1_2_4 cw1_2_5 cw1_2_6 cw1_2_7 cw1_2_8 cw1_2_9 cw1_2_10 cw1_3_0 cw1_3_1 cw1_3_2 cw1_3_3 cw1_3_4 cw1_3_5 cw1_3_6 cw1_3_7 cw1_4_0 cw1_4_1)
    | (go_at_call 13; (with_reducible refine (oneM_any kind hw hl gw gl ge al aq ah as_ ae t ak ab af ad s sl q sh sq wk ep (some ⟨w1.heap.size, 0, none⟩) n (n + 3) xs en ss sq2 _ HXS.out).mono ?_); rintro e w' ⟨v, w4, rfl, rfl, mv, b4⟩; rw [HMM.out] at mv; have HV := Lib.hid mv; have B4 := Lib.hid b4; have HBW4 := Lib.hid (bel3 HBS.out b4); have HLX4 := Lib.hid (HLS.out.below b4 (Blk.lt HLS.out)); have HS34 : Hid (w2.heap.size ≤ w4.heap.size) := Nat.le_trans (by simp [World.setCell]) b4.size; clear mv b4; clear cw2_0_0 cw2_0_1 cw2_1_0 cw2_1_1 cw2_1_2 cw2_2_0 cw2_2_1 cw2_2_2 cw2_2_3 cw2_2_4 cw2_2_5 cw2_2_6 cw2_2_7 cw2_2_8 cw2_2_9 cw2_2_10 cw2_3_0 cw2_3_1 cw2_3_2 cw2_3_3 cw2_3_4 cw2_3_5 cw2_3_6 cw2_3_7 cw2_4_0 cw2_4_1; clear f2)
    | (go_at_call 14; (with_reducible refine (enc_len v m L w4 HV.out HS.out HM.out HL.out).mono ?_); rintro e w' ⟨A5, c5, w5, rfl, rfl, ho, hr, hc, hcm, hb⟩; have HO5 := Lib.hid ho; have HR5 := Lib.hid hr; have B5 := Lib.hid hb; have HV5 := Lib.hid (HV.out.below hb); clear ho hr hc hcm hb)
    | (go_at_call 16; (with_reducible refine (of_m v m w5 HV5.out).mono ?_); rintro e w' ⟨r6, w6, rfl, rfl, hrv, hb⟩; have HRV6 := Lib.hid hrv; have B6 := Lib.hid hb; have HV6 := Lib.hid (HV5.out.below hb); clear hrv hb)
    | (go_at_call 15; (with_reducible refine (refenc_m r6 m L w6 HRV6.out HS1.out HM.out HL.out).mono ?_); rintro e w' ⟨A7, c7, w7, rfl, rfl, hr, hc, hcm, hb⟩; have HR7 := Lib.hid hr; have B7 := Lib.hid hb; have HV7 := Lib.hid (HV6.out.below hb); have HR57 := Lib.hid ((HR5.out.below B6.out).below hb); clear hr hc hcm hb)
    | (go_at_call 17; (with_reducible refine (same_any _ _ _ _ _ _ _ _ w7 HR57.out HR7.out).mono ?_); rintro e w' ⟨rfl, qq, rfl⟩; rw [show decide (frameM m = frameM m) = true from decide_eq_true rfl]; have B8 := Lib.hid (below_drewN (Below.refl w7.heap.size w7) qq); have HV8 := Lib.hid (HV7.out.below B8.out))
    | (go_at_call 18; (with_reducible refine (lawnum_any _ _).mono ?_); rintro e w' ⟨rfl, rfl⟩)
    | (go_at_call 19; (with_reducible refine (may_m v m _ HV8.out HS.out).mono ?_); rintro e w' ⟨w9, rfl, rfl, hb⟩; rw [HM.out]; have B9 := Lib.hid hb; have HV9 := Lib.hid (HV8.out.below hb); clear hb)
    | (go_at_call 16; (with_reducible refine (of_m v m w9 HV9.out).mono ?_); rintro e w' ⟨r10, w10, rfl, rfl, hrv, hb⟩; have HRV10 := Lib.hid hrv; have B10 := Lib.hid hb; have HV10 := Lib.hid (HV9.out.below hb); clear hrv hb)
    | (go_at_call 20; (with_reducible refine (refmay_m r10 m w10 HRV10.out HS1.out).mono ?_); rintro e w' ⟨w11, rfl, rfl, hb⟩; rw [HM.out]; have B11 := Lib.hid hb; have HV11 := Lib.hid (HV10.out.below hb); clear hb)
    | (go_at_call 21; (with_reducible refine (kind_m v m w11 HV11.out).mono ?_); rintro e w' ⟨w12, rfl, rfl, hb⟩; have B12 := Lib.hid hb; have HV12 := Lib.hid (HV11.out.below hb); clear hb)
    | (go_at_call 16; (with_reducible refine (of_k v m w12 HV12.out).mono ?_); rintro e w' ⟨u1, u2, u3, u4, u5, u6, u7, u8, u9, u10, u11, u12, u13, u14, u15, u16, u17, u18, u19, u20, u21, u22, u23, u24, u25, u26, w13, rfl, rfl, hb⟩; have B13 := Lib.hid hb; clear hb)
    | (go_at_call 21; (with_reducible refine (kind_ptr _ w13).mono ?_); rintro e w' ⟨w14, rfl, rfl, hb⟩; have B14 := Lib.hid hb; clear hb)
    | (go_at_call 19; (with_reducible refine (may_nil w14).mono ?_); rintro e w' ⟨w15, rfl, rfl, hb⟩; have HD15 := Lib.hid (bel3 (bel3 (bel3 (bel3 (bel3 (bel3 (bel3 (bel3 (bel3 B6.out B7.out) B8.out) B9.out) B10.out) B11.out) B12.out) B13.out) B14.out) hb); have HB15 := Lib.hid (bel3 (bel3 HBW4.out B5.out) HD15.out); have HLX15 := Lib.hid (HLX4.out.below (bel3 B5.out HD15.out) (Blk.lt HLX4.out)); clear hb)
    | (go_at_call 22; (with_reducible refine (over_any (.slice A5 L c5) w4.heap.size L (frameM m) w15 (own_below HO5.out HD15.out) (Nat.le_trans B5.out.size HD15.out.size) (by omega)).mono ?_); rintro e w' ⟨w16, rfl, rfl, hb⟩; have HB16 : Hid (Below w.heap.size w w16) := HB15.out.trans (hb.mono (Nat.le_trans HBW4.out.size (Nat.le_refl _))); have HLX16 := Lib.hid (HLX15.out.below hb (Nat.lt_of_lt_of_le hlt1 HS34.out)); have HXO := Lib.hid (HXX.out.below HB16.out); clear hb)
    | (go_at_call 23; (with_reducible refine (keptItems_any w1.heap.size n A n c xs xs w16 HLX16.out HXN.out (by omega) HXO.out).mono ?_); rintro e w' ⟨rfl, q2, rfl⟩; rw [show decide (xs = xs) = true from decide_eq_true rfl])
    | (go_at_call 11; (with_reducible refine (awake_any _).mono ?_); rintro e w' ⟨w18, rfl, rfl, hb⟩; have HB18 := Lib.hid (bel3 (below_drewN HB16.out q2) hb); clear hb))
  go_ret
  exact ⟨_, rfl, rfl, HB18.out⟩
set_option maxHeartbeats 16000000 in
theorem msgLays_no (kind : Int) (hw hl gw gl ge : Int) (al aq ah as_ ae : Int) (t : ByteArray) (ak ab : Int) (af : Bool) (ad : Int) (s : ByteArray) (sl q sh sq wk ep : Int) (A : Option Addr) (n c : Nat) (en : Bool) (xs : List (Int × ByteArray)) (ss sq2 : Int) (w : World) (hx : n ≤ 80 → XReads w A n xs) (hn : n ≤ 9223372036854775807) (hg : greatR t s n xs = false) (hm : mayM (oneM kind hw hl gw gl ge al aq ah as_ ae t ak ab af ad s sl q sh sq wk ep xs en ss sq2) = false) :
    Calls Try.prog 3 #[.int .i64 kind, .agg #[.int .i64 hw, .int .i64 hl], .agg #[.int .i64 gw, .int .i64 gl, .int .i64 ge], .agg #[.int .i64 al, .int .i64 aq, .int .i64 ah, .int .i64 as_, .int .i64 ae, .string t, .int .i64 ak, .int .i64 ab, .bool af, .int .i64 ad, .string s], .agg #[.int .i64 sl, .int .i64 q, .int .i64 sh, .int .i64 sq, .int .i64 wk, .int .i64 ep, .slice A n c, .bool en], .agg #[.int .i64 ss, .int .i64 sq2]] w (Gives w (.bool true)) := by
  obtain ⟨n80, ht, hs, _, hsm⟩ := greatR_no hg
  have HX : Hid (n ≤ 80 → XReads (((((w.alloc (.cells #[.int .i64 hw, .int .i64 hl] 23)).alloc (.cells #[.int .i64 gw, .int .i64 gl, .int .i64 ge] 25)).alloc (.cells #[.int .i64 al, .int .i64 aq, .int .i64 ah, .int .i64 as_, .int .i64 ae, .string t, .int .i64 ak, .int .i64 ab, .bool af, .int .i64 ad, .string s] 29)).alloc (.cells #[.int .i64 sl, .int .i64 q, .int .i64 sh, .int .i64 sq, .int .i64 wk, .int .i64 ep, .slice A n c, .bool en] 32)).alloc (.cells #[.int .i64 ss, .int .i64 sq2] 34)) A n xs) := fun h => (hx h).below (bel_five _ _ _ _ _ _)
  have HB5 : Hid (Below w.heap.size w (((((w.alloc (.cells #[.int .i64 hw, .int .i64 hl] 23)).alloc (.cells #[.int .i64 gw, .int .i64 gl, .int .i64 ge] 25)).alloc (.cells #[.int .i64 al, .int .i64 aq, .int .i64 ah, .int .i64 as_, .int .i64 ae, .string t, .int .i64 ak, .int .i64 ab, .bool af, .int .i64 ad, .string s] 29)).alloc (.cells #[.int .i64 sl, .int .i64 q, .int .i64 sh, .int .i64 sq, .int .i64 wk, .int .i64 ep, .slice A n c, .bool en] 32)).alloc (.cells #[.int .i64 ss, .int .i64 sq2] 34))) := bel_five _ _ _ _ _ _
  obtain ⟨m, hmm⟩ : ∃ m, (oneM kind hw hl gw gl ge al aq ah as_ ae t ak ab af ad s sl q sh sq wk ep xs en ss sq2) = m := ⟨_, rfl⟩
  have HS1 : Hid (SmallM 100 m) := by
    rw [← hmm]
    exact oneM_small _ _ _ _ _ _ _ _ _ _ _ _ _ _ _ _ _ _ _ _ _ _ _ _ _ _ _ (by omega) (by omega) (fun x hx => Nat.le_trans (hsm x hx) (by omega))
  have HS : Hid (SmallM 60000 m) := HS1.out.le (by omega)
  rw [hmm] at hm
  have HXX := Lib.hid (hx n80)
  have HXN := Lib.hid (hx n80).1
  have HM := Lib.hid hm
  have HMM := Lib.hid hmm
  have HG := Lib.hid hg
  clear hx hg hm hmm hsm
  have f_field := field_k (kindM m)
  go_enter Try.func3, Try.ntmps3
  go_wp2_with (first
    | (go_at_call 10; (with_reducible refine (great_all al aq ah as_ ae t ak ab af ad s sl q sh sq wk ep A n c en xs _ HX.out hn).mono ?_); rintro e w' ⟨w1, rfl, rfl, b1⟩; rw [HG.out]; have HB1 := Lib.hid (bel3 HB5.out b1); have HX1 := Lib.hid (HXX.out.below HB1.out); obtain ⟨K0, K1, K2, K3, K4⟩ := five_keep _ _ _ _ _ _ _ _ _ _ _ _ b1; have cw1_0_0 : w1.cell? ⟨w.heap.size, 0, none⟩ = some (.int .i64 hw) := (K0.cell 0).trans rfl; have cw1_0_1 : w1.cell? ⟨w.heap.size, 1, none⟩ = some (.int .i64 hl) := (K0.cell 1).trans rfl; have cw1_1_0 : w1.cell? ⟨w.heap.size + 1, 0, none⟩ = some (.int .i64 gw) := (K1.cell 0).trans rfl; have cw1_1_1 : w1.cell? ⟨w.heap.size + 1, 1, none⟩ = some (.int .i64 gl) := (K1.cell 1).trans rfl; have cw1_1_2 : w1.cell? ⟨w.heap.size + 1, 2, none⟩ = some (.int .i64 ge) := (K1.cell 2).trans rfl; have cw1_2_0 : w1.cell? ⟨w.heap.size + 2, 0, none⟩ = some (.int .i64 al) := (K2.cell 0).trans rfl; have cw1_2_1 : w1.cell? ⟨w.heap.size + 2, 1, none⟩ = some (.int .i64 aq) := (K2.cell 1).trans rfl; have cw1_2_2 : w1.cell? ⟨w.heap.size + 2, 2, none⟩ = some (.int .i64 ah) := (K2.cell 2).trans rfl; have cw1_2_3 : w1.cell? ⟨w.heap.size + 2, 3, none⟩ = some (.int .i64 as_) := (K2.cell 3).trans rfl; have cw1_2_4 : w1.cell? ⟨w.heap.size + 2, 4, none⟩ = some (.int .i64 ae) := (K2.cell 4).trans rfl; have cw1_2_5 : w1.cell? ⟨w.heap.size + 2, 5, none⟩ = some (.string t) := (K2.cell 5).trans rfl; have cw1_2_6 : w1.cell? ⟨w.heap.size + 2, 6, none⟩ = some (.int .i64 ak) := (K2.cell 6).trans rfl; have cw1_2_7 : w1.cell? ⟨w.heap.size + 2, 7, none⟩ = some (.int .i64 ab) := (K2.cell 7).trans rfl; have cw1_2_8 : w1.cell? ⟨w.heap.size + 2, 8, none⟩ = some (.bool af) := (K2.cell 8).trans rfl; have cw1_2_9 : w1.cell? ⟨w.heap.size + 2, 9, none⟩ = some (.int .i64 ad) := (K2.cell 9).trans rfl; have cw1_2_10 : w1.cell? ⟨w.heap.size + 2, 10, none⟩ = some (.string s) := (K2.cell 10).trans rfl; have cw1_3_0 : w1.cell? ⟨w.heap.size + 3, 0, none⟩ = some (.int .i64 sl) := (K3.cell 0).trans rfl; have cw1_3_1 : w1.cell? ⟨w.heap.size + 3, 1, none⟩ = some (.int .i64 q) := (K3.cell 1).trans rfl; have cw1_3_2 : w1.cell? ⟨w.heap.size + 3, 2, none⟩ = some (.int .i64 sh) := (K3.cell 2).trans rfl; have cw1_3_3 : w1.cell? ⟨w.heap.size + 3, 3, none⟩ = some (.int .i64 sq) := (K3.cell 3).trans rfl; have cw1_3_4 : w1.cell? ⟨w.heap.size + 3, 4, none⟩ = some (.int .i64 wk) := (K3.cell 4).trans rfl; have cw1_3_5 : w1.cell? ⟨w.heap.size + 3, 5, none⟩ = some (.int .i64 ep) := (K3.cell 5).trans rfl; have cw1_3_6 : w1.cell? ⟨w.heap.size + 3, 6, none⟩ = some (.slice A n c) := (K3.cell 6).trans rfl; have cw1_3_7 : w1.cell? ⟨w.heap.size + 3, 7, none⟩ = some (.bool en) := (K3.cell 7).trans rfl; have cw1_4_0 : w1.cell? ⟨w.heap.size + 4, 0, none⟩ = some (.int .i64 ss) := (K4.cell 0).trans rfl; have cw1_4_1 : w1.cell? ⟨w.heap.size + 4, 1, none⟩ = some (.int .i64 sq2) := (K4.cell 1).trans rfl; have HK3 := Lib.hid K3; have hlt3 : w.heap.size + 3 < w1.heap.size := K3.lt; clear K0 K1 K2 K3 K4; clear b1)
    | (go_at_call 12; (with_reducible refine (lendItems_any A n c xs w1 HX1.out (by omega)).mono ?_); rintro e w' ⟨w2, rfl, rfl, hlx, b2⟩; have cw2_0_0 : w2.cell? ⟨w.heap.size, 0, none⟩ = some (.int .i64 hw) := cell_keep cw1_0_0 b2; have cw2_0_1 : w2.cell? ⟨w.heap.size, 1, none⟩ = some (.int .i64 hl) := cell_keep cw1_0_1 b2; have cw2_1_0 : w2.cell? ⟨w.heap.size + 1, 0, none⟩ = some (.int .i64 gw) := cell_keep cw1_1_0 b2; have cw2_1_1 : w2.cell? ⟨w.heap.size + 1, 1, none⟩ = some (.int .i64 gl) := cell_keep cw1_1_1 b2; have cw2_1_2 : w2.cell? ⟨w.heap.size + 1, 2, none⟩ = some (.int .i64 ge) := cell_keep cw1_1_2 b2; have cw2_2_0 : w2.cell? ⟨w.heap.size + 2, 0, none⟩ = some (.int .i64 al) := cell_keep cw1_2_0 b2; have cw2_2_1 : w2.cell? ⟨w.heap.size + 2, 1, none⟩ = some (.int .i64 aq) := cell_keep cw1_2_1 b2; have cw2_2_2 : w2.cell? ⟨w.heap.size + 2, 2, none⟩ = some (.int .i64 ah) := cell_keep cw1_2_2 b2; have cw2_2_3 : w2.cell? ⟨w.heap.size + 2, 3, none⟩ = some (.int .i64 as_) := cell_keep cw1_2_3 b2; have cw2_2_4 : w2.cell? ⟨w.heap.size + 2, 4, none⟩ = some (.int .i64 ae) := cell_keep cw1_2_4 b2; have cw2_2_5 : w2.cell? ⟨w.heap.size + 2, 5, none⟩ = some (.string t) := cell_keep cw1_2_5 b2; have cw2_2_6 : w2.cell? ⟨w.heap.size + 2, 6, none⟩ = some (.int .i64 ak) := cell_keep cw1_2_6 b2; have cw2_2_7 : w2.cell? ⟨w.heap.size + 2, 7, none⟩ = some (.int .i64 ab) := cell_keep cw1_2_7 b2; have cw2_2_8 : w2.cell? ⟨w.heap.size + 2, 8, none⟩ = some (.bool af) := cell_keep cw1_2_8 b2; have cw2_2_9 : w2.cell? ⟨w.heap.size + 2, 9, none⟩ = some (.int .i64 ad) := cell_keep cw1_2_9 b2; have cw2_2_10 : w2.cell? ⟨w.heap.size + 2, 10, none⟩ = some (.string s) := cell_keep cw1_2_10 b2; have cw2_3_0 : w2.cell? ⟨w.heap.size + 3, 0, none⟩ = some (.int .i64 sl) := cell_keep cw1_3_0 b2; have cw2_3_1 : w2.cell? ⟨w.heap.size + 3, 1, none⟩ = some (.int .i64 q) := cell_keep cw1_3_1 b2; have cw2_3_2 : w2.cell? ⟨w.heap.size + 3, 2, none⟩ = some (.int .i64 sh) := cell_keep cw1_3_2 b2; have cw2_3_3 : w2.cell? ⟨w.heap.size + 3, 3, none⟩ = some (.int .i64 sq) := cell_keep cw1_3_3 b2; have cw2_3_4 : w2.cell? ⟨w.heap.size + 3, 4, none⟩ = some (.int .i64 wk) := cell_keep cw1_3_4 b2; have cw2_3_5 : w2.cell? ⟨w.heap.size + 3, 5, none⟩ = some (.int .i64 ep) := cell_keep cw1_3_5 b2; have cw2_3_6 : w2.cell? ⟨w.heap.size + 3, 6, none⟩ = some (.slice A n c) := cell_keep cw1_3_6 b2; have cw2_3_7 : w2.cell? ⟨w.heap.size + 3, 7, none⟩ = some (.bool en) := cell_keep cw1_3_7 b2; have cw2_4_0 : w2.cell? ⟨w.heap.size + 4, 0, none⟩ = some (.int .i64 ss) := cell_keep cw1_4_0 b2; have cw2_4_1 : w2.cell? ⟨w.heap.size + 4, 1, none⟩ = some (.int .i64 sq2) := cell_keep cw1_4_1 b2; have f2 : w2.frozen? ⟨w.heap.size + 3, 6, none⟩ = false := (HK3.out.below b2 HK3.out.lt).frozen 6; have HBS : Hid (Below w.heap.size w (w2.setCell ⟨w.heap.size + 3, 6, none⟩ (.slice (some ⟨w1.heap.size, 0, none⟩) n (n + 3)))) := (bel3 HB1.out b2).setCell (p := ⟨w.heap.size + 3, 6, none⟩) (show w.heap.size ≤ w.heap.size + 3 by omega) _; have HLS : Hid (LentX (w2.setCell ⟨w.heap.size + 3, 6, none⟩ (.slice (some ⟨w1.heap.size, 0, none⟩) n (n + 3))) w1.heap.size xs) := Blk.far (p := ⟨w.heap.size + 3, 6, none⟩) hlx (show w1.heap.size ≠ w.heap.size + 3 by omega) _; have hlt1 : w1.heap.size < w2.heap.size := Blk.lt hlx; have HXS : Hid (XReads (w2.setCell ⟨w.heap.size + 3, 6, none⟩ (.slice (some ⟨w1.heap.size, 0, none⟩) n (n + 3))) (some ⟨w1.heap.size, 0, none⟩) n xs) := HLS.out.xreads n HXN.out (by omega); clear hlx b2; clear cw1_0_0 cw1_0_1 cw1_1_0 cw1_1_1 cw1_1_2 cw1_2_0 cw1_2_1 cw1_2_2 cw1_2_3 cw1_2_4 cw1_2_5 cw1_2_6 cw1_2_7 cw1_2_8 cw1_2_9 cw1_2_10 cw1_3_0 cw1_3_1 cw1_3_2 cw1_3_3 cw1_3_4 cw1_3_5 cw1_3_6 cw1_3_7 cw1_4_0 cw1_4_1)
    | (go_at_call 13; (with_reducible refine (oneM_any kind hw hl gw gl ge al aq ah as_ ae t ak ab af ad s sl q sh sq wk ep (some ⟨w1.heap.size, 0, none⟩) n (n + 3) xs en ss sq2 _ HXS.out).mono ?_); rintro e w' ⟨v, w4, rfl, rfl, mv, b4⟩; rw [HMM.out] at mv; have HV := Lib.hid mv; have B4 := Lib.hid b4; have HBW4 := Lib.hid (bel3 HBS.out b4); have HLX4 := Lib.hid (HLS.out.below b4 (Blk.lt HLS.out)); have HS34 : Hid (w2.heap.size ≤ w4.heap.size) := Nat.le_trans (by simp [World.setCell]) b4.size; clear mv b4; clear cw2_0_0 cw2_0_1 cw2_1_0 cw2_1_1 cw2_1_2 cw2_2_0 cw2_2_1 cw2_2_2 cw2_2_3 cw2_2_4 cw2_2_5 cw2_2_6 cw2_2_7 cw2_2_8 cw2_2_9 cw2_2_10 cw2_3_0 cw2_3_1 cw2_3_2 cw2_3_3 cw2_3_4 cw2_3_5 cw2_3_6 cw2_3_7 cw2_4_0 cw2_4_1; clear f2)
    | (go_at_call 14; (with_reducible refine (enc_no v m w4 HV.out HS.out HM.out).mono ?_); rintro e w' ⟨w5, rfl, rfl, hb⟩; have B5 := Lib.hid hb; have HV5 := Lib.hid (HV.out.below hb); have HR5 := Lib.hid (breads_nil w5 none); clear hb)
    | (go_at_call 16; (with_reducible refine (of_m v m w5 HV5.out).mono ?_); rintro e w' ⟨r6, w6, rfl, rfl, hrv, hb⟩; have HRV6 := Lib.hid hrv; have B6 := Lib.hid hb; have HV6 := Lib.hid (HV5.out.below hb); clear hrv hb)
    | (go_at_call 15; (with_reducible refine (refencno_m r6 m w6 HRV6.out HS1.out HM.out).mono ?_); rintro e w' ⟨w7, rfl, rfl, hb⟩; have HR7 := Lib.hid (breads_nil w7 none); have B7 := Lib.hid hb; have HV7 := Lib.hid (HV6.out.below hb); have HR57 := Lib.hid (breads_nil w7 none); clear hb)
    | (go_at_call 17; (with_reducible refine (same_any _ _ _ _ _ _ _ _ w7 HR57.out HR7.out).mono ?_); rintro e w' ⟨rfl, qq, rfl⟩; rw [show decide (([] : List Int) = ([] : List Int)) = true from decide_eq_true rfl]; have B8 := Lib.hid (below_drewN (Below.refl w7.heap.size w7) qq); have HV8 := Lib.hid (HV7.out.below B8.out))
    | (go_at_call 18; (with_reducible refine (lawnum_any _ _).mono ?_); rintro e w' ⟨rfl, rfl⟩)
    | (go_at_call 19; (with_reducible refine (may_m v m _ HV8.out HS.out).mono ?_); rintro e w' ⟨w9, rfl, rfl, hb⟩; rw [HM.out]; have B9 := Lib.hid hb; have HV9 := Lib.hid (HV8.out.below hb); clear hb)
    | (go_at_call 16; (with_reducible refine (of_m v m w9 HV9.out).mono ?_); rintro e w' ⟨r10, w10, rfl, rfl, hrv, hb⟩; have HRV10 := Lib.hid hrv; have B10 := Lib.hid hb; have HV10 := Lib.hid (HV9.out.below hb); clear hrv hb)
    | (go_at_call 20; (with_reducible refine (refmay_m r10 m w10 HRV10.out HS1.out).mono ?_); rintro e w' ⟨w11, rfl, rfl, hb⟩; rw [HM.out]; have B11 := Lib.hid hb; have HV11 := Lib.hid (HV10.out.below hb); clear hb)
    | (go_at_call 21; (with_reducible refine (kind_m v m w11 HV11.out).mono ?_); rintro e w' ⟨w12, rfl, rfl, hb⟩; have B12 := Lib.hid hb; have HV12 := Lib.hid (HV11.out.below hb); clear hb)
    | (go_at_call 16; (with_reducible refine (of_k v m w12 HV12.out).mono ?_); rintro e w' ⟨u1, u2, u3, u4, u5, u6, u7, u8, u9, u10, u11, u12, u13, u14, u15, u16, u17, u18, u19, u20, u21, u22, u23, u24, u25, u26, w13, rfl, rfl, hb⟩; have B13 := Lib.hid hb; clear hb)
    | (go_at_call 21; (with_reducible refine (kind_ptr _ w13).mono ?_); rintro e w' ⟨w14, rfl, rfl, hb⟩; have B14 := Lib.hid hb; clear hb)
    | (go_at_call 19; (with_reducible refine (may_nil w14).mono ?_); rintro e w' ⟨w15, rfl, rfl, hb⟩; have HD15 := Lib.hid (bel3 (bel3 (bel3 (bel3 (bel3 (bel3 (bel3 (bel3 (bel3 B6.out B7.out) B8.out) B9.out) B10.out) B11.out) B12.out) B13.out) B14.out) hb); have HB15 := Lib.hid (bel3 (bel3 HBW4.out B5.out) HD15.out); have HLX15 := Lib.hid (HLX4.out.below (bel3 B5.out HD15.out) (Blk.lt HLX4.out)); clear hb)
    | (go_at_call 22; (with_reducible refine (over_any (.slice none 0 0) w15.heap.size 0 [] w15 (World.ownsRow_nil _ _ _ _) (Nat.le_refl _) (by omega)).mono ?_); rintro e w' ⟨w16, rfl, rfl, hb⟩; have HB16 : Hid (Below w.heap.size w w16) := bel3 HB15.out hb; have HLX16 := Lib.hid (HLX15.out.below hb (Nat.lt_of_lt_of_le hlt1 (Nat.le_trans HS34.out (Nat.le_trans B5.out.size HD15.out.size)))); have HXO := Lib.hid (HXX.out.below HB16.out); clear hb)
    | (go_at_call 23; (with_reducible refine (keptItems_any w1.heap.size n A n c xs xs w16 HLX16.out HXN.out (by omega) HXO.out).mono ?_); rintro e w' ⟨rfl, q2, rfl⟩; rw [show decide (xs = xs) = true from decide_eq_true rfl])
    | (go_at_call 11; (with_reducible refine (awake_any _).mono ?_); rintro e w' ⟨w18, rfl, rfl, hb⟩; have HB18 := Lib.hid (bel3 (below_drewN HB16.out q2) hb); clear hb))
  go_ret
  exact ⟨_, rfl, rfl, HB18.out⟩
theorem msgLays_walk (kind : Int) (hw hl gw gl ge : Int) (al aq ah as_ ae : Int) (t : ByteArray) (ak ab : Int) (af : Bool) (ad : Int) (s : ByteArray) (sl q sh sq wk ep : Int) (A : Option Addr) (n c : Nat) (en : Bool) (xs : List (Int × ByteArray)) (ss sq2 : Int) (w : World) (hx : n ≤ 80 → XReads w A n xs) (hn : n ≤ 9223372036854775807) :
    Calls Try.prog 3 #[.int .i64 kind, .agg #[.int .i64 hw, .int .i64 hl], .agg #[.int .i64 gw, .int .i64 gl, .int .i64 ge], .agg #[.int .i64 al, .int .i64 aq, .int .i64 ah, .int .i64 as_, .int .i64 ae, .string t, .int .i64 ak, .int .i64 ab, .bool af, .int .i64 ad, .string s], .agg #[.int .i64 sl, .int .i64 q, .int .i64 sh, .int .i64 sq, .int .i64 wk, .int .i64 ep, .slice A n c, .bool en], .agg #[.int .i64 ss, .int .i64 sq2]] w (Gives w (.bool true)) := by
  cases hg : greatR t s n xs with
  | true => exact msgLays_great kind hw hl gw gl ge al aq ah as_ ae t ak ab af ad s sl q sh sq wk ep A n c en xs ss sq2 w hx hn hg
  | false =>
    cases hm : mayM (oneM kind hw hl gw gl ge al aq ah as_ ae t ak ab af ad s sl q sh sq wk ep xs en ss sq2) with
    | true => exact msgLays_yes kind hw hl gw gl ge al aq ah as_ ae t ak ab af ad s sl q sh sq wk ep A n c en xs ss sq2 w hx hn hg hm
    | false => exact msgLays_no kind hw hl gw gl ge al aq ah as_ ae t ak ab af ad s sl q sh sq wk ep A n c en xs ss sq2 w hx hn hg hm
end Go.Proofs.Ytajhkjikcgfhdaa
