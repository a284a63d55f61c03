/-
  reader.message: Hello, Grant, Stop.
-/
import Derived.Test.YtajhkjikcgfhdaaRdMsg2
namespace Go.Proofs.Ytajhkjikcgfhdaa
set_option linter.unusedVariables false
set_option linter.unusedSimpArgs false
set_option maxRecDepth 20000
open Go.RowKit
theorem Rd.far {t : TypeId} {w : World} {g c : Nat} {A : Option Addr} {zs : List Int} {a : Nat} {bad : Bool} (h : Rd t w g A c zs a bad) (p : Addr) (v : Value) (hp : g ≠ p.block) (hA : ∀ ad, A = some ad → ad.block ≠ p.block) : Rd t (w.setCell p v) g A c zs a bad :=
  ⟨h.1.far hp v, h.2.1.grown (only_setCell (World.grownBy.refl w (some p.block)) (.inl rfl) v) hA, h.2.2⟩
theorem Rd.old {t : TypeId} {w : World} {g c : Nat} {A : Option Addr} {zs : List Int} {a : Nat} {bad : Bool} (h : Rd t w g A c zs a bad) (h0 : 0 < zs.length) : ∀ ad, A = some ad → ad.block ≠ w.heap.size := fun ad e => by
  obtain ⟨ad', e', hc⟩ := h.2.1.2.2.1 h0
  rw [e] at e'
  injection e' with e'
  subst e'
  have := World.block_lt_of_cell? w _ (hc 0 h0)
  rw [block_of_add] at this
  omega
theorem rflag_bound {zs : List Int} {a a' : Nat} {bad b' : Bool} {v : Bool} (h : rflag zs a bad = (v, a', b')) (ha : a ≤ zs.length) : a' ≤ zs.length := by
  unfold rflag at h
  injection h with _ h
  injection h with h _
  rw [← h]
  exact rnum_bound (q := 1) (v := (rnum zs a bad 1).1) (b' := (rnum zs a bad 1).2.2) rfl ha
theorem ritem_bound {zs : List Int} {a a' : Nat} {bad b' : Bool} {v : Int × ByteArray} (hz : ∀ z, z ∈ zs → 0 ≤ z ∧ z < 256) (h : ritem zs a bad = (v, a', b')) (ha : a ≤ zs.length) : a' ≤ zs.length := by
  unfold ritem at h
  injection h with _ h
  have h1 : (rnum zs a bad 1).2.1 ≤ zs.length := rnum_bound (q := 1) (v := (rnum zs a bad 1).1) (b' := (rnum zs a bad 1).2.2) rfl ha
  have h2 : (rtext zs (rnum zs a bad 1).2.1 (rnum zs a bad 1).2.2).2.1 ≤ zs.length := (rtext_bound (v := (rtext zs (rnum zs a bad 1).2.1 (rnum zs a bad 1).2.2).1) (b' := (rtext zs (rnum zs a bad 1).2.1 (rnum zs a bad 1).2.2).2.2) hz rfl h1).1
  rw [h] at h2
  exact h2
set_option maxHeartbeats 4000000 in
theorem rmsg_hello (g : Nat) (A : Option Addr) (c : Nat) (zs : List Int) (a : Nat) (bad : Bool) (hw : Int) (a1 : Nat) (b1 : Bool) (hl : Int) (a2 : Nat) (b2 : Bool) (w : World) (h : Rd 99 w g A c zs a bad) (h0 : 0 < zs.length) (ha : a ≤ zs.length) (h1 : rnum zs a bad 4 = (hw, a1, b1)) (h2 : rnum zs a1 b1 4 = (hl, a2, b2)) :
    Calls Try.prog 55 #[.pointer (some ⟨g, 0, none⟩), .int .i64 1] w (RdTo 99 w g A c zs (.iface 23 (.agg #[.int .i64 hw, .int .i64 hl])) a2 b2) := by
  have hgl : g < w.heap.size := h.lt
  have hgk : g ≠ w.heap.size := by omega
  have hkg : ¬ w.heap.size = g := by omega
  have HA := Lib.hid (h.old h0)
  have H0 := Lib.hid h
  have HR0 : Hid (Rd 99 (w.alloc (.cells #[.int .i64 0, .int .i64 0] 23)) g A c zs a bad) := h.below (bel_alloc _ _)
  have HB0 : Hid (Blk (w.alloc (.cells #[.int .i64 0, .int .i64 0] 23)) w.heap.size 23 #[.int .i64 0, .int .i64 0]) := Blk.new _ _ _
  have HG0 : Hid (w.grownBy (w.alloc (.cells #[.int .i64 0, .int .i64 0] 23)) (some g)) := only_of_below (bel_alloc _ _) _
  have ha1 : a1 ≤ zs.length := rnum_bound h1 ha
  have X1 := Lib.hid h1
  have ha2 : a2 ≤ zs.length := rnum_bound h2 ha1
  have X2 := Lib.hid h2
  have E1 : Hid ((1 : Int) = ((1 : Nat) : Int)) := rfl
  have E4 : Hid ((4 : Int) = ((4 : Nat) : Int)) := rfl
  clear h h1 h2
  go_enter Try.func55, Try.ntmps55
  go_wp2_with (first
    | (go_at_call 72; (with_reducible refine (rnum_any g A c zs a bad 4 _ hw a1 b1 _ HR0.out E4.out (by omega) ha X1.out).mono ?_); rintro e w' ⟨w1, rfl, rfl, r1, g1⟩; have HR1 := Lib.hid r1; have HG1 := Lib.hid (only_trans HG0.out g1 (fun q hq => by injection hq with hq; subst hq; exact hgl)); have HB1 := Lib.hid (HB0.out.grown g1 (by intro e; injection e with e; exact hkg e)); clear r1 g1)
    | (go_at_call 72; (with_reducible refine (rnum_any g A c zs a1 b1 4 _ hl a2 b2 _ HR1.out E4.out (by omega) ha1 X2.out).mono ?_); rintro e w' ⟨w2, rfl, rfl, r2, g2⟩; have HR2 := Lib.hid r2; have HG2 := Lib.hid (only_trans HG1.out g2 (fun q hq => by injection hq with hq; subst hq; exact hgl)); have HB2 := Lib.hid (HB1.out.grown g2 (by intro e; injection e with e; exact hkg e)); clear r2 g2; have c2_0 : w2.cell? ⟨w.heap.size, 0, none⟩ = some (.int .i64 0) := (HB2.out.cell 0).trans rfl; have c2_1 : w2.cell? ⟨w.heap.size, 1, none⟩ = some (.int .i64 0) := (HB2.out.cell 1).trans rfl; have f2_0 : w2.frozen? ⟨w.heap.size, 0, none⟩ = false := HB2.out.frozen 0; have f2_1 : w2.frozen? ⟨w.heap.size, 1, none⟩ = false := HB2.out.frozen 1))
  go_ret
  exact ⟨_, rfl, rfl, (Rd.far ((Rd.far (HR2.out) ⟨w.heap.size, 0, none⟩ (.int .i64 hw) hgk HA.out)) ⟨w.heap.size, 1, none⟩ (.int .i64 hl) hgk HA.out), (only_setCell ((only_setCell (HG2.out) (.inr (Nat.le_refl _)) (.int .i64 hw))) (.inr (Nat.le_refl _)) (.int .i64 hl))⟩
set_option maxHeartbeats 4000000 in
theorem rmsg_grant (g : Nat) (A : Option Addr) (c : Nat) (zs : List Int) (a : Nat) (bad : Bool) (gw : Int) (a1 : Nat) (b1 : Bool) (gl : Int) (a2 : Nat) (b2 : Bool) (ge : Int) (a3 : Nat) (b3 : Bool) (w : World) (h : Rd 99 w g A c zs a bad) (h0 : 0 < zs.length) (ha : a ≤ zs.length) (h1 : rnum zs a bad 4 = (gw, a1, b1)) (h2 : rnum zs a1 b1 4 = (gl, a2, b2)) (h3 : rnum zs a2 b2 4 = (ge, a3, b3)) :
    Calls Try.prog 55 #[.pointer (some ⟨g, 0, none⟩), .int .i64 2] w (RdTo 99 w g A c zs (.iface 25 (.agg #[.int .i64 gw, .int .i64 gl, .int .i64 ge])) a3 b3) := by
  have hgl : g < w.heap.size := h.lt
  have hgk : g ≠ w.heap.size := by omega
  have hkg : ¬ w.heap.size = g := by omega
  have HA := Lib.hid (h.old h0)
  have H0 := Lib.hid h
  have HR0 : Hid (Rd 99 (w.alloc (.cells #[.int .i64 0, .int .i64 0, .int .i64 0] 25)) g A c zs a bad) := h.below (bel_alloc _ _)
  have HB0 : Hid (Blk (w.alloc (.cells #[.int .i64 0, .int .i64 0, .int .i64 0] 25)) w.heap.size 25 #[.int .i64 0, .int .i64 0, .int .i64 0]) := Blk.new _ _ _
  have HG0 : Hid (w.grownBy (w.alloc (.cells #[.int .i64 0, .int .i64 0, .int .i64 0] 25)) (some g)) := only_of_below (bel_alloc _ _) _
  have ha1 : a1 ≤ zs.length := rnum_bound h1 ha
  have X1 := Lib.hid h1
  have ha2 : a2 ≤ zs.length := rnum_bound h2 ha1
  have X2 := Lib.hid h2
  have ha3 : a3 ≤ zs.length := rnum_bound h3 ha2
  have X3 := Lib.hid h3
  have E1 : Hid ((1 : Int) = ((1 : Nat) : Int)) := rfl
  have E4 : Hid ((4 : Int) = ((4 : Nat) : Int)) := rfl
  clear h h1 h2 h3
  go_enter Try.func55, Try.ntmps55
  go_wp2_with (first
    | (go_at_call 72; (with_reducible refine (rnum_any g A c zs a bad 4 _ gw a1 b1 _ HR0.out E4.out (by omega) ha X1.out).mono ?_); rintro e w' ⟨w1, rfl, rfl, r1, g1⟩; have HR1 := Lib.hid r1; have HG1 := Lib.hid (only_trans HG0.out g1 (fun q hq => by injection hq with hq; subst hq; exact hgl)); have HB1 := Lib.hid (HB0.out.grown g1 (by intro e; injection e with e; exact hkg e)); clear r1 g1)
    | (go_at_call 72; (with_reducible refine (rnum_any g A c zs a1 b1 4 _ gl a2 b2 _ HR1.out E4.out (by omega) ha1 X2.out).mono ?_); rintro e w' ⟨w2, rfl, rfl, r2, g2⟩; have HR2 := Lib.hid r2; have HG2 := Lib.hid (only_trans HG1.out g2 (fun q hq => by injection hq with hq; subst hq; exact hgl)); have HB2 := Lib.hid (HB1.out.grown g2 (by intro e; injection e with e; exact hkg e)); clear r2 g2)
    | (go_at_call 72; (with_reducible refine (rnum_any g A c zs a2 b2 4 _ ge a3 b3 _ HR2.out E4.out (by omega) ha2 X3.out).mono ?_); rintro e w' ⟨w3, rfl, rfl, r3, g3⟩; have HR3 := Lib.hid r3; have HG3 := Lib.hid (only_trans HG2.out g3 (fun q hq => by injection hq with hq; subst hq; exact hgl)); have HB3 := Lib.hid (HB2.out.grown g3 (by intro e; injection e with e; exact hkg e)); clear r3 g3; have c3_0 : w3.cell? ⟨w.heap.size, 0, none⟩ = some (.int .i64 0) := (HB3.out.cell 0).trans rfl; have c3_1 : w3.cell? ⟨w.heap.size, 1, none⟩ = some (.int .i64 0) := (HB3.out.cell 1).trans rfl; have c3_2 : w3.cell? ⟨w.heap.size, 2, none⟩ = some (.int .i64 0) := (HB3.out.cell 2).trans rfl; have f3_0 : w3.frozen? ⟨w.heap.size, 0, none⟩ = false := HB3.out.frozen 0; have f3_1 : w3.frozen? ⟨w.heap.size, 1, none⟩ = false := HB3.out.frozen 1; have f3_2 : w3.frozen? ⟨w.heap.size, 2, none⟩ = false := HB3.out.frozen 2))
  go_ret
  exact ⟨_, rfl, rfl, (Rd.far ((Rd.far ((Rd.far (HR3.out) ⟨w.heap.size, 0, none⟩ (.int .i64 gw) hgk HA.out)) ⟨w.heap.size, 1, none⟩ (.int .i64 gl) hgk HA.out)) ⟨w.heap.size, 2, none⟩ (.int .i64 ge) hgk HA.out), (only_setCell ((only_setCell ((only_setCell (HG3.out) (.inr (Nat.le_refl _)) (.int .i64 gw))) (.inr (Nat.le_refl _)) (.int .i64 gl))) (.inr (Nat.le_refl _)) (.int .i64 ge))⟩
set_option maxHeartbeats 4000000 in
theorem rmsg_stop (g : Nat) (A : Option Addr) (c : Nat) (zs : List Int) (a : Nat) (bad : Bool) (sl : Int) (a1 : Nat) (b1 : Bool) (q : Int) (a2 : Nat) (b2 : Bool) (w : World) (h : Rd 99 w g A c zs a bad) (h0 : 0 < zs.length) (ha : a ≤ zs.length) (h1 : rnum zs a bad 4 = (sl, a1, b1)) (h2 : rnum zs a1 b1 4 = (q, a2, b2)) :
    Calls Try.prog 55 #[.pointer (some ⟨g, 0, none⟩), .int .i64 5] w (RdTo 99 w g A c zs (.iface 34 (.agg #[.int .i64 sl, .int .i64 q])) a2 b2) := by
  have hgl : g < w.heap.size := h.lt
  have hgk : g ≠ w.heap.size := by omega
  have hkg : ¬ w.heap.size = g := by omega
  have HA := Lib.hid (h.old h0)
  have H0 := Lib.hid h
  have HR0 : Hid (Rd 99 (w.alloc (.cells #[.int .i64 0, .int .i64 0] 34)) g A c zs a bad) := h.below (bel_alloc _ _)
  have HB0 : Hid (Blk (w.alloc (.cells #[.int .i64 0, .int .i64 0] 34)) w.heap.size 34 #[.int .i64 0, .int .i64 0]) := Blk.new _ _ _
  have HG0 : Hid (w.grownBy (w.alloc (.cells #[.int .i64 0, .int .i64 0] 34)) (some g)) := only_of_below (bel_alloc _ _) _
  have ha1 : a1 ≤ zs.length := rnum_bound h1 ha
  have X1 := Lib.hid h1
  have ha2 : a2 ≤ zs.length := rnum_bound h2 ha1
  have X2 := Lib.hid h2
  have E1 : Hid ((1 : Int) = ((1 : Nat) : Int)) := rfl
  have E4 : Hid ((4 : Int) = ((4 : Nat) : Int)) := rfl
  clear h h1 h2
  go_enter Try.func55, Try.ntmps55
  go_wp2_with (first
    | (go_at_call 72; (with_reducible refine (rnum_any g A c zs a bad 4 _ sl a1 b1 _ HR0.out E4.out (by omega) ha X1.out).mono ?_); rintro e w' ⟨w1, rfl, rfl, r1, g1⟩; have HR1 := Lib.hid r1; have HG1 := Lib.hid (only_trans HG0.out g1 (fun q hq => by injection hq with hq; subst hq; exact hgl)); have HB1 := Lib.hid (HB0.out.grown g1 (by intro e; injection e with e; exact hkg e)); clear r1 g1)
    | (go_at_call 72; (with_reducible refine (rnum_any g A c zs a1 b1 4 _ q a2 b2 _ HR1.out E4.out (by omega) ha1 X2.out).mono ?_); rintro e w' ⟨w2, rfl, rfl, r2, g2⟩; have HR2 := Lib.hid r2; have HG2 := Lib.hid (only_trans HG1.out g2 (fun q hq => by injection hq with hq; subst hq; exact hgl)); have HB2 := Lib.hid (HB1.out.grown g2 (by intro e; injection e with e; exact hkg e)); clear r2 g2; have c2_0 : w2.cell? ⟨w.heap.size, 0, none⟩ = some (.int .i64 0) := (HB2.out.cell 0).trans rfl; have c2_1 : w2.cell? ⟨w.heap.size, 1, none⟩ = some (.int .i64 0) := (HB2.out.cell 1).trans rfl; have f2_0 : w2.frozen? ⟨w.heap.size, 0, none⟩ = false := HB2.out.frozen 0; have f2_1 : w2.frozen? ⟨w.heap.size, 1, none⟩ = false := HB2.out.frozen 1))
  go_ret
  exact ⟨_, rfl, rfl, (Rd.far ((Rd.far (HR2.out) ⟨w.heap.size, 0, none⟩ (.int .i64 sl) hgk HA.out)) ⟨w.heap.size, 1, none⟩ (.int .i64 q) hgk HA.out), (only_setCell ((only_setCell (HG2.out) (.inr (Nat.le_refl _)) (.int .i64 sl))) (.inr (Nat.le_refl _)) (.int .i64 q))⟩
set_option maxHeartbeats 4000000 in
theorem rmsg_other (g : Nat) (A : Option Addr) (c : Nat) (zs : List Int) (a : Nat) (bad : Bool) (k : Int) (w : World) (h : Rd 99 w g A c zs a bad) (hk : k < 1 ∨ 5 < k) :
    Calls Try.prog 55 #[.pointer (some ⟨g, 0, none⟩), .int .i64 k] w (RdTo 99 w g A c zs .nilIface a true) := by
  obtain ⟨c1, c2, f1, f2⟩ := h.cells
  have H := Lib.hid h
  have k1 : (k == 1) = false := by rw [beq_eq_false_iff_ne]; omega
  have k2 : (k == 2) = false := by rw [beq_eq_false_iff_ne]; omega
  have k3 : (k == 3) = false := by rw [beq_eq_false_iff_ne]; omega
  have k4 : (k == 4) = false := by rw [beq_eq_false_iff_ne]; omega
  have k5 : (k == 5) = false := by rw [beq_eq_false_iff_ne]; omega
  clear h hk
  go_enter Try.func55, Try.ntmps55
  go_wp2
  go_ret
  exact ⟨_, rfl, rfl, H.out.setBad, only_setCell (World.grownBy.refl _ _) (.inl rfl) _⟩
end Go.Proofs.Ytajhkjikcgfhdaa
