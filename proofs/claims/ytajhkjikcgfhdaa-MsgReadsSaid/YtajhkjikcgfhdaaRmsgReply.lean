/-
  reader.message: Reply.
-/
import Derived.Test.YtajhkjikcgfhdaaItems0
import Derived.Deep.RegionLaw
namespace Go.Proofs.Ytajhkjikcgfhdaa
set_option linter.unusedVariables false
set_option linter.unusedSimpArgs false
set_option maxRecDepth 20000
open Go.RowKit
/-- A Reply has been read. -/
def RdReply (w : World) (g : Nat) (A : Option Addr) (c : Nat) (zs : List Int) (sl q sh sq wk ep : Int) (xs : List (Int × ByteArray)) (en : Bool) (a : Nat) (bad : Bool) (e : Ending) (w' : World) : Prop :=
  ∃ A2 c2 W, e = .returned (.iface 32 (.agg #[.int .i64 sl, .int .i64 q, .int .i64 sh, .int .i64 sq, .int .i64 wk, .int .i64 ep, .slice A2 xs.length c2, .bool en])) ∧ W = w' ∧ Rd 99 W g A c zs a bad ∧ XReads W A2 xs.length xs ∧ w.grownBy W (some g)
set_option maxHeartbeats 8000000 in
theorem rmsg_reply (g : Nat) (A : Option Addr) (c : Nat) (zs : List Int) (a : Nat) (bad : Bool) (sl q sh sq wk ep cnt : Int) (a1 a2 a3 a4 a5 a6 a7 : Nat) (b1 b2 b3 b4 b5 b6 b7 : Bool) (xs : List (Int × ByteArray)) (a8 : Nat) (b8 : Bool) (en : Bool) (a9 : Nat) (b9 : Bool) (w : World) (h : Rd 99 w g A c zs a bad) (h0 : 0 < zs.length) (ha : a ≤ zs.length) (h1 : rnum zs a bad 4 = (sl, a1, b1)) (h2 : rnum zs a1 b1 4 = (q, a2, b2)) (h3 : rnum zs a2 b2 4 = (sh, a3, b3)) (h4 : rnum zs a3 b3 4 = (sq, a4, b4)) (h5 : rnum zs a4 b4 4 = (wk, a5, b5)) (h6 : rnum zs a5 b5 4 = (ep, a6, b6)) (h7 : rnum zs a6 b6 1 = (cnt, a7, b7)) (h8 : ritems zs cnt.toNat a7 b7 = (xs, a8, b8)) (h9 : rflag zs a8 b8 = (en, a9, b9)) :
    Calls Try.prog 55 #[.pointer (some ⟨g, 0, none⟩), .int .i64 4] w (RdReply w g A c zs sl q sh sq wk ep xs en a9 b9) := by
  have hcr : 0 ≤ cnt ∧ cnt < 256 := by
    unfold rnum at h7
    split at h7
    · injection h7 with h7 _
      rw [← h7]
      exact numI_up zs h.range a6 1 (by omega)
    · injection h7 with h7 _
      omega
  obtain ⟨N, hN⟩ : ∃ N : Nat, cnt = N := ⟨cnt.toNat, by omega⟩
  subst hN
  have hN2 : N ≤ 255 := by omega
  rw [Int.toNat_natCast] at h8
  have HIT := Lib.hid h8
  have HFL := Lib.hid h9
  obtain ⟨i0, hi, hz0, hz1, hz2⟩ := info_parts info_item
  have I := Lib.hid (And.intro hi (And.intro hz0 (And.intro hz1 hz2)))
  clear hi hz0 hz1 hz2 h8 h9 hcr
  have hgl : g < w.heap.size := h.lt
  have hgk : g ≠ w.heap.size := by omega
  have hkg : ¬ w.heap.size = g := by omega
  have HA := Lib.hid (h.old h0)
  have H0 := Lib.hid h
  have HR0 : Hid (Rd 99 (w.alloc (.cells #[.int .i64 0, .int .i64 0, .int .i64 0, .int .i64 0, .int .i64 0, .int .i64 0, .slice none 0 0, .bool false] 32)) g A c zs a bad) := h.below (bel_alloc _ _)
  have HB0 : Hid (Blk (w.alloc (.cells #[.int .i64 0, .int .i64 0, .int .i64 0, .int .i64 0, .int .i64 0, .int .i64 0, .slice none 0 0, .bool false] 32)) w.heap.size 32 #[.int .i64 0, .int .i64 0, .int .i64 0, .int .i64 0, .int .i64 0, .int .i64 0, .slice none 0 0, .bool false]) := Blk.new _ _ _
  have HG0 : Hid (w.grownBy (w.alloc (.cells #[.int .i64 0, .int .i64 0, .int .i64 0, .int .i64 0, .int .i64 0, .int .i64 0, .slice none 0 0, .bool false] 32)) (some g)) := only_of_below (bel_alloc _ _) _
  have ha1 : a1 ≤ zs.length := rnum_bound h1 ha
  have X1 := Lib.hid h1
  have ha2 : a2 ≤ zs.length := rnum_bound h2 ha1
  have X2 := Lib.hid h2
  have ha3 : a3 ≤ zs.length := rnum_bound h3 ha2
  have X3 := Lib.hid h3
  have ha4 : a4 ≤ zs.length := rnum_bound h4 ha3
  have X4 := Lib.hid h4
  have ha5 : a5 ≤ zs.length := rnum_bound h5 ha4
  have X5 := Lib.hid h5
  have ha6 : a6 ≤ zs.length := rnum_bound h6 ha5
  have X6 := Lib.hid h6
  have ha7 : a7 ≤ zs.length := rnum_bound h7 ha6
  have X7 := Lib.hid h7
  have E1 : Hid ((1 : Int) = ((1 : Nat) : Int)) := rfl
  have E4 : Hid ((4 : Int) = ((4 : Nat) : Int)) := rfl
  clear h h1 h2 h3 h4 h5 h6 h7
  go_enter Try.func55, Try.ntmps55
  go_wp2_with (first
    | (go_at_call 72; (with_reducible refine (rnum_any g A c zs a bad 4 _ sl a1 b1 _ HR0.out E4.out (by omega) ha X1.out).mono ?_); rintro e w' ⟨w1, rfl, rfl, r1, g1⟩; have HR1 := Lib.hid r1; have HG1 := Lib.hid (only_trans HG0.out g1 (fun q hq => by injection hq with hq; subst hq; exact hgl)); have HB1 := Lib.hid (HB0.out.grown g1 (by intro e; injection e with e; exact hkg e)); clear r1 g1)
    | (go_at_call 72; (with_reducible refine (rnum_any g A c zs a1 b1 4 _ q a2 b2 _ HR1.out E4.out (by omega) ha1 X2.out).mono ?_); rintro e w' ⟨w2, rfl, rfl, r2, g2⟩; have HR2 := Lib.hid r2; have HG2 := Lib.hid (only_trans HG1.out g2 (fun q hq => by injection hq with hq; subst hq; exact hgl)); have HB2 := Lib.hid (HB1.out.grown g2 (by intro e; injection e with e; exact hkg e)); clear r2 g2)
    | (go_at_call 72; (with_reducible refine (rnum_any g A c zs a2 b2 4 _ sh a3 b3 _ HR2.out E4.out (by omega) ha2 X3.out).mono ?_); rintro e w' ⟨w3, rfl, rfl, r3, g3⟩; have HR3 := Lib.hid r3; have HG3 := Lib.hid (only_trans HG2.out g3 (fun q hq => by injection hq with hq; subst hq; exact hgl)); have HB3 := Lib.hid (HB2.out.grown g3 (by intro e; injection e with e; exact hkg e)); clear r3 g3)
    | (go_at_call 72; (with_reducible refine (rnum_any g A c zs a3 b3 4 _ sq a4 b4 _ HR3.out E4.out (by omega) ha3 X4.out).mono ?_); rintro e w' ⟨w4, rfl, rfl, r4, g4⟩; have HR4 := Lib.hid r4; have HG4 := Lib.hid (only_trans HG3.out g4 (fun q hq => by injection hq with hq; subst hq; exact hgl)); have HB4 := Lib.hid (HB3.out.grown g4 (by intro e; injection e with e; exact hkg e)); clear r4 g4)
    | (go_at_call 72; (with_reducible refine (rnum_any g A c zs a4 b4 4 _ wk a5 b5 _ HR4.out E4.out (by omega) ha4 X5.out).mono ?_); rintro e w' ⟨w5, rfl, rfl, r5, g5⟩; have HR5 := Lib.hid r5; have HG5 := Lib.hid (only_trans HG4.out g5 (fun q hq => by injection hq with hq; subst hq; exact hgl)); have HB5 := Lib.hid (HB4.out.grown g5 (by intro e; injection e with e; exact hkg e)); clear r5 g5)
    | (go_at_call 72; (with_reducible refine (rnum_any g A c zs a5 b5 4 _ ep a6 b6 _ HR5.out E4.out (by omega) ha5 X6.out).mono ?_); rintro e w' ⟨w6, rfl, rfl, r6, g6⟩; have HR6 := Lib.hid r6; have HG6 := Lib.hid (only_trans HG5.out g6 (fun q hq => by injection hq with hq; subst hq; exact hgl)); have HB6 := Lib.hid (HB5.out.grown g6 (by intro e; injection e with e; exact hkg e)); clear r6 g6; have c6_0 : w6.cell? ⟨w.heap.size, 0, none⟩ = some (.int .i64 0) := (HB6.out.cell 0).trans rfl; have c6_1 : w6.cell? ⟨w.heap.size, 1, none⟩ = some (.int .i64 0) := (HB6.out.cell 1).trans rfl; have c6_2 : w6.cell? ⟨w.heap.size, 2, none⟩ = some (.int .i64 0) := (HB6.out.cell 2).trans rfl; have c6_3 : w6.cell? ⟨w.heap.size, 3, none⟩ = some (.int .i64 0) := (HB6.out.cell 3).trans rfl; have c6_4 : w6.cell? ⟨w.heap.size, 4, none⟩ = some (.int .i64 0) := (HB6.out.cell 4).trans rfl; have c6_5 : w6.cell? ⟨w.heap.size, 5, none⟩ = some (.int .i64 0) := (HB6.out.cell 5).trans rfl; have f6_0 : w6.frozen? ⟨w.heap.size, 0, none⟩ = false := HB6.out.frozen 0; have f6_1 : w6.frozen? ⟨w.heap.size, 1, none⟩ = false := HB6.out.frozen 1; have f6_2 : w6.frozen? ⟨w.heap.size, 2, none⟩ = false := HB6.out.frozen 2; have f6_3 : w6.frozen? ⟨w.heap.size, 3, none⟩ = false := HB6.out.frozen 3; have f6_4 : w6.frozen? ⟨w.heap.size, 4, none⟩ = false := HB6.out.frozen 4; have f6_5 : w6.frozen? ⟨w.heap.size, 5, none⟩ = false := HB6.out.frozen 5))
  have HR6s := Lib.hid (Rd.far ((Rd.far ((Rd.far ((Rd.far ((Rd.far ((Rd.far (HR6.out) ⟨w.heap.size, 0, none⟩ (.int .i64 sl) hgk HA.out)) ⟨w.heap.size, 1, none⟩ (.int .i64 q) hgk HA.out)) ⟨w.heap.size, 2, none⟩ (.int .i64 sh) hgk HA.out)) ⟨w.heap.size, 3, none⟩ (.int .i64 sq) hgk HA.out)) ⟨w.heap.size, 4, none⟩ (.int .i64 wk) hgk HA.out)) ⟨w.heap.size, 5, none⟩ (.int .i64 ep) hgk HA.out)
  have HB6s : Hid (Blk ((((((w6.setCell ⟨w.heap.size, 0, none⟩ (.int .i64 sl)).setCell ⟨w.heap.size, 1, none⟩ (.int .i64 q)).setCell ⟨w.heap.size, 2, none⟩ (.int .i64 sh)).setCell ⟨w.heap.size, 3, none⟩ (.int .i64 sq)).setCell ⟨w.heap.size, 4, none⟩ (.int .i64 wk)).setCell ⟨w.heap.size, 5, none⟩ (.int .i64 ep)) w.heap.size 32 #[.int .i64 sl, .int .i64 q, .int .i64 sh, .int .i64 sq, .int .i64 wk, .int .i64 ep, .slice none 0 0, .bool false]) := (Blk.set_ ((Blk.set_ ((Blk.set_ ((Blk.set_ ((Blk.set_ ((Blk.set_ (HB6.out) 0 (.int .i64 sl))) 1 (.int .i64 q))) 2 (.int .i64 sh))) 3 (.int .i64 sq))) 4 (.int .i64 wk))) 5 (.int .i64 ep))
  have HG6s : Hid (w.grownBy ((((((w6.setCell ⟨w.heap.size, 0, none⟩ (.int .i64 sl)).setCell ⟨w.heap.size, 1, none⟩ (.int .i64 q)).setCell ⟨w.heap.size, 2, none⟩ (.int .i64 sh)).setCell ⟨w.heap.size, 3, none⟩ (.int .i64 sq)).setCell ⟨w.heap.size, 4, none⟩ (.int .i64 wk)).setCell ⟨w.heap.size, 5, none⟩ (.int .i64 ep)) (some g)) := (only_setCell ((only_setCell ((only_setCell ((only_setCell ((only_setCell ((only_setCell (HG6.out) (.inr (Nat.le_refl _)) (.int .i64 sl))) (.inr (Nat.le_refl _)) (.int .i64 q))) (.inr (Nat.le_refl _)) (.int .i64 sh))) (.inr (Nat.le_refl _)) (.int .i64 sq))) (.inr (Nat.le_refl _)) (.int .i64 wk))) (.inr (Nat.le_refl _)) (.int .i64 ep))
  clear c6_0 c6_1 c6_2 c6_3 c6_4 c6_5 f6_0 f6_1 f6_2 f6_3 f6_4 f6_5
  generalize ((((((w6.setCell ⟨w.heap.size, 0, none⟩ (.int .i64 sl)).setCell ⟨w.heap.size, 1, none⟩ (.int .i64 q)).setCell ⟨w.heap.size, 2, none⟩ (.int .i64 sh)).setCell ⟨w.heap.size, 3, none⟩ (.int .i64 sq)).setCell ⟨w.heap.size, 4, none⟩ (.int .i64 wk)).setCell ⟨w.heap.size, 5, none⟩ (.int .i64 ep)) = w6s at *
  go_wp2_with (first
    | (go_at_call 72; (with_reducible refine (rnum_any g A c zs a6 b6 1 _ N a7 b7 _ HR6s.out E1.out (by omega) ha6 X7.out).mono ?_); rintro e w' ⟨w7, rfl, rfl, r7, g7⟩; have HR7 := Lib.hid r7; have HG7 := Lib.hid (only_trans HG6s.out g7 (fun q hq => by injection hq with hq; subst hq; exact hgl)); have HB7 := Lib.hid (HB6s.out.grown g7 (by intro e; injection e with e; exact hkg e)); clear r7 g7))
  have HKK : Hid (Blk w7 w.heap.size 32 #[.int .i64 sl, .int .i64 q, .int .i64 sh, .int .i64 sq, .int .i64 wk, .int .i64 ep, .slice none 0 0, .bool false]) := HB7.out
  clear HB7
  go_loopw [94] (fun i wr => ∃ (k ak : Nat) (bk : Bool) (ys : List (Int × ByteArray)) (v : Value), k ≤ N ∧ i = .int .i64 k ∧ Hid (Blk wr g 99 #[.slice A zs.length c, .int .i64 ak, .bool bk]) ∧ Hid (Blk wr w.heap.size 32 #[.int .i64 sl, .int .i64 q, .int .i64 sh, .int .i64 sq, .int .i64 wk, .int .i64 ep, v, .bool false]) ∧ Hid (wr.ownsRow w.heap.size 27 2 v k (xvals ys)) ∧ Hid (w.grownBy wr (some g)) ∧ ak ≤ zs.length ∧ Hid (ritems zs N a7 b7 = (ys ++ (ritems zs (N - k) ak bk).1, (ritems zs (N - k) ak bk).2))) (fun i _ => N - (intOf i).toNat)
  case atStart => exact ⟨0, a7, b7, [], .slice none 0 0, by omega, rfl, HR7.out.1, HKK, World.ownsRow_nil _ _ _ _, HG7, ha7, rfl⟩
  case round =>
    obtain ⟨k, ak, bk, ys, v, hk, rfl, HB, HK, HO, HG, hak, HRI⟩ := hrel
    have HR : Hid (Rd 99 wr g A c zs ak bk) := H0.out.mk_ HG.out HB.out
    have HYL : Hid (ys.length = k) := by have h1 := HO.out.1; rw [xvals_length] at h1; unfold Hid; omega
    by_cases hkn : k < N
    · cases bk with
      | true =>
        have he := HRI.out
        rw [ritems_bad, HIT.out, List.append_nil] at he
        injection he with e1 e2
        injection e2 with e2 e3
        subst e1
        subst e2
        subst e3
        have HRT := HR
        have HGT := HG
        have HKT := HK
        have ha8 := hak
        have HOT : Hid (wr.ownsRow w.heap.size 27 2 v xs.length (xvals xs)) := by rw [HYL.out]; exact HO
        have c2_ : wr.cell? ⟨g, 2, none⟩ = some (.bool true) := (HB.out.cell 2).trans rfl
        clear hak
        have HXL : Hid (xs.length ≤ 4611686018427387904) := by rw [HYL.out]; unfold Hid; omega
        obtain ⟨A2, c2, hv2, hcc2, hxr2⟩ := own_xreads HOT.out HXL.out
        rw [hv2] at HKT HOT
        clear hcc2
        subst hv2
        have HXR := Lib.hid hxr2
        clear hxr2
        go_wp2_with (go_at_call 74; (with_reducible refine (rflag_any g A c zs a8 _ en a9 b9 _ HRT.out ha8 HFL.out).mono ?_); rintro e w' ⟨w9, rfl, rfl, r9, g9⟩; have HR9 := Lib.hid r9; have HG9 := Lib.hid (only_trans HGT.out g9 (fun q hq => by injection hq with hq; subst hq; exact hgl)); have HK9 := Lib.hid (HKT.out.grown g9 (by intro e; injection e with e; exact hkg e)); have HO9 := Lib.hid (World.ownsRow.kept HOT.out g9 (.inr (own_blk_ne HOT.out HRT.out.1 (by decide)))); clear r9 g9; have c9_0 : w9.cell? ⟨w.heap.size, 0, none⟩ = some (.int .i64 sl) := (HK9.out.cell 0).trans rfl; have c9_1 : w9.cell? ⟨w.heap.size, 1, none⟩ = some (.int .i64 q) := (HK9.out.cell 1).trans rfl; have c9_2 : w9.cell? ⟨w.heap.size, 2, none⟩ = some (.int .i64 sh) := (HK9.out.cell 2).trans rfl; have c9_3 : w9.cell? ⟨w.heap.size, 3, none⟩ = some (.int .i64 sq) := (HK9.out.cell 3).trans rfl; have c9_4 : w9.cell? ⟨w.heap.size, 4, none⟩ = some (.int .i64 wk) := (HK9.out.cell 4).trans rfl; have c9_5 : w9.cell? ⟨w.heap.size, 5, none⟩ = some (.int .i64 ep) := (HK9.out.cell 5).trans rfl; have c9_6 : w9.cell? ⟨w.heap.size, 6, none⟩ = some (.slice A2 xs.length c2) := (HK9.out.cell 6).trans rfl; have c9_7 : w9.cell? ⟨w.heap.size, 7, none⟩ = some (.bool false) := (HK9.out.cell 7).trans rfl; have f9_7 : w9.frozen? ⟨w.heap.size, 7, none⟩ = false := HK9.out.frozen 7)
        have HO10 : Hid ((w9.setCell ⟨w.heap.size, 7, none⟩ (.bool en)).ownsRow w.heap.size 27 2 (.slice A2 xs.length c2) xs.length (xvals xs)) := World.ownsRow.kept HO9.out (only_setCell (World.grownBy.refl w9 (some w.heap.size)) (.inl rfl) _) (.inr (own_blk_ne HO9.out HK9.out (by decide)))
        go_ret
        obtain ⟨A2', c2', e2, _, hx10⟩ := own_xreads HO10.out HXL.out
        injection e2 with e2 _ _
        subst e2
        exact ⟨A2, c2, _, rfl, rfl, Rd.far HR9.out ⟨w.heap.size, 7, none⟩ (.bool en) hgk HA.out, hx10, only_setCell HG9.out (.inr (Nat.le_refl _)) _⟩
      | false =>
        obtain ⟨d, s, a', b', hx⟩ : ∃ d s a' b', ritem zs ak false = ((d, s), a', b') := ⟨_, _, _, _, rfl⟩
        have ha' := ritem_bound H0.out.range hx hak
        have HX := Lib.hid hx
        have HRI2 : Hid (ritems zs N a7 b7 = ((ys ++ [(d, s)]) ++ (ritems zs (N - (k + 1)) a' b').1, (ritems zs (N - (k + 1)) a' b').2)) := by
          unfold Hid
          rw [HRI.out, show N - k = (N - (k + 1)) + 1 by omega, ritems_next zs _ ak a' b' (d, s) hx, List.append_assoc]
          rfl
        clear hx HRI
        have c2_ : wr.cell? ⟨g, 2, none⟩ = some (.bool false) := (HB.out.cell 2).trans rfl
        have c6_ : wr.cell? ⟨w.heap.size, 6, none⟩ = some v := (HK.out.cell 6).trans rfl
        have h1c : Hid (∀ u ∈ [Value.int .i64 d, .string s], u.oneCell' = true) := by unfold Hid; simp [Value.oneCell']
        go_wp2_with fail
        go_region_law (first
          | (refine step_append_any _ rfl (.tmp 101) (.tmp 104) 30 rfl w.heap.size 27 i0 (.agg #[.int .i64 0, .string ⟨#[]⟩]) 2 24 Try.underlying30 I.out.1 I.out.2.1 I.out.2.2.1 I.out.2.2.2 rfl (by omega) v k (xvals ys) (by simp [Act.eval, Act.put]) HO3.out _ (some ⟨w2.heap.size, 0, none⟩) 1 1 [.int .i64 d, .string s] (by simp [Act.eval, Act.put]) HRN.out h1c.out (by simp only [maxLen]; omega) (by omega) HSZ.out ?_; intro v4 w4 hown4 hg4 hat4; obtain ⟨A4, c4, hv4⟩ := own_slice hown4; subst hv4; have HK4 := Lib.hid ((HK2.out.alloc (.cells #[.int .i64 d, .string s] 27)).grown hg4 (fun e => own_blk_ne HO3.out (HK2.out.alloc (.cells #[.int .i64 d, .string s] 27)) (by decide) e.symm)); have HB4 := Lib.hid ((HR2.out.1.alloc (.cells #[.int .i64 d, .string s] 27)).grown hg4 (fun e => own_blk_ne HO3.out (HR2.out.1.alloc (.cells #[.int .i64 d, .string s] 27)) (by decide) e.symm)); have HG4 : Hid (w.grownBy w4 (some g)) := only_new (only_alloc HG2.out _) hg4 (fun q hq => (HO3.out.lt q hq).1); have HO4 := Lib.hid hown4; have c64 : w4.cell? ⟨w.heap.size, 6, none⟩ = some v := (HK4.out.cell 6).trans rfl; have f64 := HK4.out.frozen 6; clear hown4 hg4 hat4)
          | (go_simp; go_at_call 75; (with_reducible refine (ritem_any g A c zs ak false d s a' b' _ (HR.out.below (Below.refl _ _).drew) hak HX.out).mono ?_); rintro e w' ⟨w2, rfl, rfl, r2, g2⟩; have HR2 := Lib.hid r2; have HG2 := Lib.hid (only_trans HG.out (only_trans (only_of_below (Below.refl _ _).drew (some g)) g2 (fun q hq => by injection hq with hq; subst hq; exact HR.out.lt)) (fun q hq => by injection hq with hq; subst hq; exact hgl)); have HK2 := Lib.hid (HK.out.drew.grown g2 (by intro e; injection e with e; exact hkg e)); have HO2 := Lib.hid (World.ownsRow.kept (World.ownsRow.drew HO.out) g2 (.inr (own_blk_ne HO.out HR.out.1 (by decide)))); have c62 : w2.cell? ⟨w.heap.size, 6, none⟩ = some v := (HK2.out.cell 6).trans rfl; have c63 := cell_keep c62 (bel_alloc w2 (.cells #[.int .i64 d, .string s] 27)); have HO3 := Lib.hid (World.ownsRow.alloc HO2.out (.cells #[.int .i64 d, .string s] 27)); have HRN := Lib.hid (xreads_new2 w2 (.int .i64 d) (.string s) 27); have HSZ : Hid (w.heap.size ≤ (w2.alloc (.cells #[.int .i64 d, .string s] 27)).heap.size) := Nat.le_trans HG2.out.size (bel_alloc _ _).size; clear r2 g2))
        all_goals go_wp2
        all_goals go_roundw
        all_goals first
          | (case rel => exact ⟨k + 1, a', b', ys ++ [(d, s)], _, by omega, by go_num, HB4.out.far hgk _, HK4.out.set_ 6 _, (by
              unfold Hid
              rw [xvals_snoc]
              exact World.ownsRow.kept HO4.out (only_setCell (World.grownBy.refl w4 (some w.heap.size)) (.inl rfl) _) (.inr (own_blk_ne HO4.out HK4.out (by decide)))), only_setCell HG4.out (.inr (Nat.le_refl _)) _, ha', HRI2⟩)
          | (simp [intOf]; omega)
    · obtain rfl : k = N := by omega
      have he := HRI.out
      rw [Nat.sub_self, HIT.out] at he
      simp only [ritems, List.append_nil] at he
      injection he with e1 e2
      injection e2 with e2 e3
      subst e1
      subst e2
      subst e3
      have HRT := HR
      have HGT := HG
      have HKT := HK
      have ha8 := hak
      have HOT : Hid (wr.ownsRow w.heap.size 27 2 v xs.length (xvals xs)) := by rw [HYL.out]; exact HO
      clear hak
      have HXL : Hid (xs.length ≤ 4611686018427387904) := by rw [HYL.out]; unfold Hid; omega
      obtain ⟨A2, c2, hv2, hcc2, hxr2⟩ := own_xreads HOT.out HXL.out
      rw [hv2] at HKT HOT
      clear hcc2
      subst hv2
      have HXR := Lib.hid hxr2
      clear hxr2
      go_wp2_with (go_at_call 74; (with_reducible refine (rflag_any g A c zs a8 _ en a9 b9 _ HRT.out ha8 HFL.out).mono ?_); rintro e w' ⟨w9, rfl, rfl, r9, g9⟩; have HR9 := Lib.hid r9; have HG9 := Lib.hid (only_trans HGT.out g9 (fun q hq => by injection hq with hq; subst hq; exact hgl)); have HK9 := Lib.hid (HKT.out.grown g9 (by intro e; injection e with e; exact hkg e)); have HO9 := Lib.hid (World.ownsRow.kept HOT.out g9 (.inr (own_blk_ne HOT.out HRT.out.1 (by decide)))); clear r9 g9; have c9_0 : w9.cell? ⟨w.heap.size, 0, none⟩ = some (.int .i64 sl) := (HK9.out.cell 0).trans rfl; have c9_1 : w9.cell? ⟨w.heap.size, 1, none⟩ = some (.int .i64 q) := (HK9.out.cell 1).trans rfl; have c9_2 : w9.cell? ⟨w.heap.size, 2, none⟩ = some (.int .i64 sh) := (HK9.out.cell 2).trans rfl; have c9_3 : w9.cell? ⟨w.heap.size, 3, none⟩ = some (.int .i64 sq) := (HK9.out.cell 3).trans rfl; have c9_4 : w9.cell? ⟨w.heap.size, 4, none⟩ = some (.int .i64 wk) := (HK9.out.cell 4).trans rfl; have c9_5 : w9.cell? ⟨w.heap.size, 5, none⟩ = some (.int .i64 ep) := (HK9.out.cell 5).trans rfl; have c9_6 : w9.cell? ⟨w.heap.size, 6, none⟩ = some (.slice A2 xs.length c2) := (HK9.out.cell 6).trans rfl; have c9_7 : w9.cell? ⟨w.heap.size, 7, none⟩ = some (.bool false) := (HK9.out.cell 7).trans rfl; have f9_7 : w9.frozen? ⟨w.heap.size, 7, none⟩ = false := HK9.out.frozen 7)
      have HO10 : Hid ((w9.setCell ⟨w.heap.size, 7, none⟩ (.bool en)).ownsRow w.heap.size 27 2 (.slice A2 xs.length c2) xs.length (xvals xs)) := World.ownsRow.kept HO9.out (only_setCell (World.grownBy.refl w9 (some w.heap.size)) (.inl rfl) _) (.inr (own_blk_ne HO9.out HK9.out (by decide)))
      go_ret
      obtain ⟨A2', c2', e2, _, hx10⟩ := own_xreads HO10.out HXL.out
      injection e2 with e2 _ _
      subst e2
      exact ⟨A2, c2, _, rfl, rfl, Rd.far HR9.out ⟨w.heap.size, 7, none⟩ (.bool en) hgk HA.out, hx10, only_setCell HG9.out (.inr (Nat.le_refl _)) _⟩
end Go.Proofs.Ytajhkjikcgfhdaa
