/-
  reader.message: Ask.
-/
import Derived.Test.YtajhkjikcgfhdaaRmsg
namespace Go.Proofs.Ytajhkjikcgfhdaa
set_option linter.unusedVariables false
set_option linter.unusedSimpArgs false
set_option maxRecDepth 20000
open Go.RowKit
set_option maxHeartbeats 4000000 in
theorem rmsg_ask (g : Nat) (A : Option Addr) (c : Nat) (zs : List Int) (a : Nat) (bad : Bool) (sl : Int) (a1 : Nat) (b1 : Bool) (q : Int) (a2 : Nat) (b2 : Bool) (sh : Int) (a3 : Nat) (b3 : Bool) (sq : Int) (a4 : Nat) (b4 : Bool) (ep : Int) (a5 : Nat) (b5 : Bool) (t : ByteArray) (a6 : Nat) (b6 : Bool) (k : Int) (a7 : Nat) (b7 : Bool) (b : Int) (a8 : Nat) (b8 : Bool) (f : Bool) (a9 : Nat) (b9 : Bool) (d : Int) (s : ByteArray) (a10 : Nat) (b10 : Bool) (w : World) (h : Rd 99 w g A c zs a bad) (h0 : 0 < zs.length) (ha : a ≤ zs.length) (h1 : rnum zs a bad 4 = (sl, a1, b1)) (h2 : rnum zs a1 b1 4 = (q, a2, b2)) (h3 : rnum zs a2 b2 4 = (sh, a3, b3)) (h4 : rnum zs a3 b3 4 = (sq, a4, b4)) (h5 : rnum zs a4 b4 4 = (ep, a5, b5)) (h6 : rtext zs a5 b5 = (t, a6, b6)) (h7 : rnum zs a6 b6 1 = (k, a7, b7)) (h8 : rnum zs a7 b7 1 = (b, a8, b8)) (h9 : rflag zs a8 b8 = (f, a9, b9)) (h10 : ritem zs a9 b9 = ((d, s), a10, b10)) :
    Calls Try.prog 55 #[.pointer (some ⟨g, 0, none⟩), .int .i64 3] w (RdTo 99 w g A c zs (.iface 29 (.agg #[.int .i64 sl, .int .i64 q, .int .i64 sh, .int .i64 sq, .int .i64 ep, .string t, .int .i64 k, .int .i64 b, .bool f, .int .i64 d, .string s])) a10 b10) := by
  have hgl : g < w.heap.size := h.lt
  have hgk : g ≠ w.heap.size := by omega
  have hkg : ¬ w.heap.size = g := by omega
  have HA := Lib.hid (h.old h0)
  have H0 := Lib.hid h
  have HR0 : Hid (Rd 99 (w.alloc (.cells #[.int .i64 0, .int .i64 0, .int .i64 0, .int .i64 0, .int .i64 0, .string ⟨#[]⟩, .int .i64 0, .int .i64 0, .bool false, .int .i64 0, .string ⟨#[]⟩] 29)) g A c zs a bad) := h.below (bel_alloc _ _)
  have HB0 : Hid (Blk (w.alloc (.cells #[.int .i64 0, .int .i64 0, .int .i64 0, .int .i64 0, .int .i64 0, .string ⟨#[]⟩, .int .i64 0, .int .i64 0, .bool false, .int .i64 0, .string ⟨#[]⟩] 29)) w.heap.size 29 #[.int .i64 0, .int .i64 0, .int .i64 0, .int .i64 0, .int .i64 0, .string ⟨#[]⟩, .int .i64 0, .int .i64 0, .bool false, .int .i64 0, .string ⟨#[]⟩]) := Blk.new _ _ _
  have HG0 : Hid (w.grownBy (w.alloc (.cells #[.int .i64 0, .int .i64 0, .int .i64 0, .int .i64 0, .int .i64 0, .string ⟨#[]⟩, .int .i64 0, .int .i64 0, .bool false, .int .i64 0, .string ⟨#[]⟩] 29)) (some g)) := only_of_below (bel_alloc _ _) _
  have ha1 : a1 ≤ zs.length := rnum_bound h1 ha
  have X1 := Lib.hid h1
  have ha2 : a2 ≤ zs.length := rnum_bound h2 ha1
  have X2 := Lib.hid h2
  have ha3 : a3 ≤ zs.length := rnum_bound h3 ha2
  have X3 := Lib.hid h3
  have ha4 : a4 ≤ zs.length := rnum_bound h4 ha3
  have X4 := Lib.hid h4
  have ha5 : a5 ≤ zs.length := rnum_bound h5 ha4
  have X5 := Lib.hid h5
  have ha6 : a6 ≤ zs.length := (rtext_bound H0.out.range h6 ha5).1
  have X6 := Lib.hid h6
  have ha7 : a7 ≤ zs.length := rnum_bound h7 ha6
  have X7 := Lib.hid h7
  have ha8 : a8 ≤ zs.length := rnum_bound h8 ha7
  have X8 := Lib.hid h8
  have ha9 : a9 ≤ zs.length := rflag_bound h9 ha8
  have X9 := Lib.hid h9
  have ha10 : a10 ≤ zs.length := ritem_bound H0.out.range h10 ha9
  have X10 := Lib.hid h10
  have E1 : Hid ((1 : Int) = ((1 : Nat) : Int)) := rfl
  have E4 : Hid ((4 : Int) = ((4 : Nat) : Int)) := rfl
  clear h h1 h2 h3 h4 h5 h6 h7 h8 h9 h10
  go_enter Try.func55, Try.ntmps55
  go_wp2_with (first
    | (go_at_call 72; (with_reducible refine (rnum_any g A c zs a bad 4 _ sl a1 b1 _ HR0.out E4.out (by omega) ha X1.out).mono ?_); rintro e w' ⟨w1, rfl, rfl, r1, g1⟩; have HR1 := Lib.hid r1; have HG1 := Lib.hid (only_trans HG0.out g1 (fun q hq => by injection hq with hq; subst hq; exact hgl)); have HB1 := Lib.hid (HB0.out.grown g1 (by intro e; injection e with e; exact hkg e)); clear r1 g1)
    | (go_at_call 72; (with_reducible refine (rnum_any g A c zs a1 b1 4 _ q a2 b2 _ HR1.out E4.out (by omega) ha1 X2.out).mono ?_); rintro e w' ⟨w2, rfl, rfl, r2, g2⟩; have HR2 := Lib.hid r2; have HG2 := Lib.hid (only_trans HG1.out g2 (fun q hq => by injection hq with hq; subst hq; exact hgl)); have HB2 := Lib.hid (HB1.out.grown g2 (by intro e; injection e with e; exact hkg e)); clear r2 g2)
    | (go_at_call 72; (with_reducible refine (rnum_any g A c zs a2 b2 4 _ sh a3 b3 _ HR2.out E4.out (by omega) ha2 X3.out).mono ?_); rintro e w' ⟨w3, rfl, rfl, r3, g3⟩; have HR3 := Lib.hid r3; have HG3 := Lib.hid (only_trans HG2.out g3 (fun q hq => by injection hq with hq; subst hq; exact hgl)); have HB3 := Lib.hid (HB2.out.grown g3 (by intro e; injection e with e; exact hkg e)); clear r3 g3)
    | (go_at_call 72; (with_reducible refine (rnum_any g A c zs a3 b3 4 _ sq a4 b4 _ HR3.out E4.out (by omega) ha3 X4.out).mono ?_); rintro e w' ⟨w4, rfl, rfl, r4, g4⟩; have HR4 := Lib.hid r4; have HG4 := Lib.hid (only_trans HG3.out g4 (fun q hq => by injection hq with hq; subst hq; exact hgl)); have HB4 := Lib.hid (HB3.out.grown g4 (by intro e; injection e with e; exact hkg e)); clear r4 g4)
    | (go_at_call 72; (with_reducible refine (rnum_any g A c zs a4 b4 4 _ ep a5 b5 _ HR4.out E4.out (by omega) ha4 X5.out).mono ?_); rintro e w' ⟨w5, rfl, rfl, r5, g5⟩; have HR5 := Lib.hid r5; have HG5 := Lib.hid (only_trans HG4.out g5 (fun q hq => by injection hq with hq; subst hq; exact hgl)); have HB5 := Lib.hid (HB4.out.grown g5 (by intro e; injection e with e; exact hkg e)); clear r5 g5; have c5_0 : w5.cell? ⟨w.heap.size, 0, none⟩ = some (.int .i64 0) := (HB5.out.cell 0).trans rfl; have c5_1 : w5.cell? ⟨w.heap.size, 1, none⟩ = some (.int .i64 0) := (HB5.out.cell 1).trans rfl; have c5_2 : w5.cell? ⟨w.heap.size, 2, none⟩ = some (.int .i64 0) := (HB5.out.cell 2).trans rfl; have c5_3 : w5.cell? ⟨w.heap.size, 3, none⟩ = some (.int .i64 0) := (HB5.out.cell 3).trans rfl; have c5_4 : w5.cell? ⟨w.heap.size, 4, none⟩ = some (.int .i64 0) := (HB5.out.cell 4).trans rfl; have f5_0 : w5.frozen? ⟨w.heap.size, 0, none⟩ = false := HB5.out.frozen 0; have f5_1 : w5.frozen? ⟨w.heap.size, 1, none⟩ = false := HB5.out.frozen 1; have f5_2 : w5.frozen? ⟨w.heap.size, 2, none⟩ = false := HB5.out.frozen 2; have f5_3 : w5.frozen? ⟨w.heap.size, 3, none⟩ = false := HB5.out.frozen 3; have f5_4 : w5.frozen? ⟨w.heap.size, 4, none⟩ = false := HB5.out.frozen 4))
  have HR5s := Lib.hid (Rd.far ((Rd.far ((Rd.far ((Rd.far ((Rd.far (HR5.out) ⟨w.heap.size, 0, none⟩ (.int .i64 sl) hgk HA.out)) ⟨w.heap.size, 1, none⟩ (.int .i64 q) hgk HA.out)) ⟨w.heap.size, 2, none⟩ (.int .i64 sh) hgk HA.out)) ⟨w.heap.size, 3, none⟩ (.int .i64 sq) hgk HA.out)) ⟨w.heap.size, 4, none⟩ (.int .i64 ep) hgk HA.out)
  have HB5s : Hid (Blk (((((w5.setCell ⟨w.heap.size, 0, none⟩ (.int .i64 sl)).setCell ⟨w.heap.size, 1, none⟩ (.int .i64 q)).setCell ⟨w.heap.size, 2, none⟩ (.int .i64 sh)).setCell ⟨w.heap.size, 3, none⟩ (.int .i64 sq)).setCell ⟨w.heap.size, 4, none⟩ (.int .i64 ep)) w.heap.size 29 #[.int .i64 sl, .int .i64 q, .int .i64 sh, .int .i64 sq, .int .i64 ep, .string ⟨#[]⟩, .int .i64 0, .int .i64 0, .bool false, .int .i64 0, .string ⟨#[]⟩]) := (Blk.set_ ((Blk.set_ ((Blk.set_ ((Blk.set_ ((Blk.set_ (HB5.out) 0 (.int .i64 sl))) 1 (.int .i64 q))) 2 (.int .i64 sh))) 3 (.int .i64 sq))) 4 (.int .i64 ep))
  have HG5s : Hid (w.grownBy (((((w5.setCell ⟨w.heap.size, 0, none⟩ (.int .i64 sl)).setCell ⟨w.heap.size, 1, none⟩ (.int .i64 q)).setCell ⟨w.heap.size, 2, none⟩ (.int .i64 sh)).setCell ⟨w.heap.size, 3, none⟩ (.int .i64 sq)).setCell ⟨w.heap.size, 4, none⟩ (.int .i64 ep)) (some g)) := (only_setCell ((only_setCell ((only_setCell ((only_setCell ((only_setCell (HG5.out) (.inr (Nat.le_refl _)) (.int .i64 sl))) (.inr (Nat.le_refl _)) (.int .i64 q))) (.inr (Nat.le_refl _)) (.int .i64 sh))) (.inr (Nat.le_refl _)) (.int .i64 sq))) (.inr (Nat.le_refl _)) (.int .i64 ep))
  clear c5_0 c5_1 c5_2 c5_3 c5_4 f5_0 f5_1 f5_2 f5_3 f5_4
  generalize (((((w5.setCell ⟨w.heap.size, 0, none⟩ (.int .i64 sl)).setCell ⟨w.heap.size, 1, none⟩ (.int .i64 q)).setCell ⟨w.heap.size, 2, none⟩ (.int .i64 sh)).setCell ⟨w.heap.size, 3, none⟩ (.int .i64 sq)).setCell ⟨w.heap.size, 4, none⟩ (.int .i64 ep)) = w5s at *
  go_wp2_with (first
    | (go_at_call 73; (with_reducible refine (rtext_any g A c zs a5 b5 t a6 b6 _ HR5s.out ha5 X6.out).mono ?_); rintro e w' ⟨w6, rfl, rfl, r6, g6⟩; have HR6 := Lib.hid r6; have HG6 := Lib.hid (only_trans HG5s.out g6 (fun q hq => by injection hq with hq; subst hq; exact hgl)); have HB6 := Lib.hid (HB5s.out.grown g6 (by intro e; injection e with e; exact hkg e)); clear r6 g6; have c6_5 : w6.cell? ⟨w.heap.size, 5, none⟩ = some (.string ⟨#[]⟩) := (HB6.out.cell 5).trans rfl; have f6_5 : w6.frozen? ⟨w.heap.size, 5, none⟩ = false := HB6.out.frozen 5))
  have HR6s := Lib.hid (Rd.far (HR6.out) ⟨w.heap.size, 5, none⟩ (.string t) hgk HA.out)
  have HB6s : Hid (Blk (w6.setCell ⟨w.heap.size, 5, none⟩ (.string t)) w.heap.size 29 #[.int .i64 sl, .int .i64 q, .int .i64 sh, .int .i64 sq, .int .i64 ep, .string t, .int .i64 0, .int .i64 0, .bool false, .int .i64 0, .string ⟨#[]⟩]) := (Blk.set_ (HB6.out) 5 (.string t))
  have HG6s : Hid (w.grownBy (w6.setCell ⟨w.heap.size, 5, none⟩ (.string t)) (some g)) := (only_setCell (HG6.out) (.inr (Nat.le_refl _)) (.string t))
  clear c6_5 f6_5
  generalize (w6.setCell ⟨w.heap.size, 5, none⟩ (.string t)) = w6s at *
  go_wp2_with (first
    | (go_at_call 72; (with_reducible refine (rnum_any g A c zs a6 b6 1 _ k a7 b7 _ HR6s.out E1.out (by omega) ha6 X7.out).mono ?_); rintro e w' ⟨w7, rfl, rfl, r7, g7⟩; have HR7 := Lib.hid r7; have HG7 := Lib.hid (only_trans HG6s.out g7 (fun q hq => by injection hq with hq; subst hq; exact hgl)); have HB7 := Lib.hid (HB6s.out.grown g7 (by intro e; injection e with e; exact hkg e)); clear r7 g7)
    | (go_at_call 72; (with_reducible refine (rnum_any g A c zs a7 b7 1 _ b a8 b8 _ HR7.out E1.out (by omega) ha7 X8.out).mono ?_); rintro e w' ⟨w8, rfl, rfl, r8, g8⟩; have HR8 := Lib.hid r8; have HG8 := Lib.hid (only_trans HG7.out g8 (fun q hq => by injection hq with hq; subst hq; exact hgl)); have HB8 := Lib.hid (HB7.out.grown g8 (by intro e; injection e with e; exact hkg e)); clear r8 g8)
    | (go_at_call 74; (with_reducible refine (rflag_any g A c zs a8 b8 f a9 b9 _ HR8.out ha8 X9.out).mono ?_); rintro e w' ⟨w9, rfl, rfl, r9, g9⟩; have HR9 := Lib.hid r9; have HG9 := Lib.hid (only_trans HG8.out g9 (fun q hq => by injection hq with hq; subst hq; exact hgl)); have HB9 := Lib.hid (HB8.out.grown g9 (by intro e; injection e with e; exact hkg e)); clear r9 g9; have c9_6 : w9.cell? ⟨w.heap.size, 6, none⟩ = some (.int .i64 0) := (HB9.out.cell 6).trans rfl; have c9_7 : w9.cell? ⟨w.heap.size, 7, none⟩ = some (.int .i64 0) := (HB9.out.cell 7).trans rfl; have c9_8 : w9.cell? ⟨w.heap.size, 8, none⟩ = some (.bool false) := (HB9.out.cell 8).trans rfl; have f9_6 : w9.frozen? ⟨w.heap.size, 6, none⟩ = false := HB9.out.frozen 6; have f9_7 : w9.frozen? ⟨w.heap.size, 7, none⟩ = false := HB9.out.frozen 7; have f9_8 : w9.frozen? ⟨w.heap.size, 8, none⟩ = false := HB9.out.frozen 8))
  have HR9s := Lib.hid (Rd.far ((Rd.far ((Rd.far (HR9.out) ⟨w.heap.size, 6, none⟩ (.int .i64 k) hgk HA.out)) ⟨w.heap.size, 7, none⟩ (.int .i64 b) hgk HA.out)) ⟨w.heap.size, 8, none⟩ (.bool f) hgk HA.out)
  have HB9s : Hid (Blk (((w9.setCell ⟨w.heap.size, 6, none⟩ (.int .i64 k)).setCell ⟨w.heap.size, 7, none⟩ (.int .i64 b)).setCell ⟨w.heap.size, 8, none⟩ (.bool f)) w.heap.size 29 #[.int .i64 sl, .int .i64 q, .int .i64 sh, .int .i64 sq, .int .i64 ep, .string t, .int .i64 k, .int .i64 b, .bool f, .int .i64 0, .string ⟨#[]⟩]) := (Blk.set_ ((Blk.set_ ((Blk.set_ (HB9.out) 6 (.int .i64 k))) 7 (.int .i64 b))) 8 (.bool f))
  have HG9s : Hid (w.grownBy (((w9.setCell ⟨w.heap.size, 6, none⟩ (.int .i64 k)).setCell ⟨w.heap.size, 7, none⟩ (.int .i64 b)).setCell ⟨w.heap.size, 8, none⟩ (.bool f)) (some g)) := (only_setCell ((only_setCell ((only_setCell (HG9.out) (.inr (Nat.le_refl _)) (.int .i64 k))) (.inr (Nat.le_refl _)) (.int .i64 b))) (.inr (Nat.le_refl _)) (.bool f))
  clear c9_6 c9_7 c9_8 f9_6 f9_7 f9_8
  generalize (((w9.setCell ⟨w.heap.size, 6, none⟩ (.int .i64 k)).setCell ⟨w.heap.size, 7, none⟩ (.int .i64 b)).setCell ⟨w.heap.size, 8, none⟩ (.bool f)) = w9s at *
  go_wp2_with (first
    | (go_at_call 75; (with_reducible refine (ritem_any g A c zs a9 b9 d s a10 b10 _ HR9s.out ha9 X10.out).mono ?_); rintro e w' ⟨w10, rfl, rfl, r10, g10⟩; have HR10 := Lib.hid r10; have HG10 := Lib.hid (only_trans HG9s.out g10 (fun q hq => by injection hq with hq; subst hq; exact hgl)); have HB10 := Lib.hid (HB9s.out.grown g10 (by intro e; injection e with e; exact hkg e)); clear r10 g10; have c10_0 : w10.cell? ⟨w.heap.size, 0, none⟩ = some (.int .i64 sl) := (HB10.out.cell 0).trans rfl; have c10_1 : w10.cell? ⟨w.heap.size, 1, none⟩ = some (.int .i64 q) := (HB10.out.cell 1).trans rfl; have c10_2 : w10.cell? ⟨w.heap.size, 2, none⟩ = some (.int .i64 sh) := (HB10.out.cell 2).trans rfl; have c10_3 : w10.cell? ⟨w.heap.size, 3, none⟩ = some (.int .i64 sq) := (HB10.out.cell 3).trans rfl; have c10_4 : w10.cell? ⟨w.heap.size, 4, none⟩ = some (.int .i64 ep) := (HB10.out.cell 4).trans rfl; have c10_5 : w10.cell? ⟨w.heap.size, 5, none⟩ = some (.string t) := (HB10.out.cell 5).trans rfl; have c10_6 : w10.cell? ⟨w.heap.size, 6, none⟩ = some (.int .i64 k) := (HB10.out.cell 6).trans rfl; have c10_7 : w10.cell? ⟨w.heap.size, 7, none⟩ = some (.int .i64 b) := (HB10.out.cell 7).trans rfl; have c10_8 : w10.cell? ⟨w.heap.size, 8, none⟩ = some (.bool f) := (HB10.out.cell 8).trans rfl; have c10_9 : w10.cell? ⟨w.heap.size, 9, none⟩ = some (.int .i64 0) := (HB10.out.cell 9).trans rfl; have c10_10 : w10.cell? ⟨w.heap.size, 10, none⟩ = some (.string ⟨#[]⟩) := (HB10.out.cell 10).trans rfl; have f10_9 : w10.frozen? ⟨w.heap.size, 9, none⟩ = false := HB10.out.frozen 9; have f10_10 : w10.frozen? ⟨w.heap.size, 10, none⟩ = false := HB10.out.frozen 10))
  go_ret
  exact ⟨_, rfl, rfl, (Rd.far ((Rd.far (HR10.out) ⟨w.heap.size, 9, none⟩ (.int .i64 d) hgk HA.out)) ⟨w.heap.size, 10, none⟩ (.string s) hgk HA.out), (only_setCell ((only_setCell (HG10.out) (.inr (Nat.le_refl _)) (.int .i64 d))) (.inr (Nat.le_refl _)) (.string s))⟩
end Go.Proofs.Ytajhkjikcgfhdaa
