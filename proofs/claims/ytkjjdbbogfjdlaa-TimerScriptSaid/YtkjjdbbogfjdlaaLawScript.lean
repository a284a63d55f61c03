/-
  The walk of inkhornlaw17.TimerScript.
-/
import Derived.Test.YtkjjdbbogfjdlaaScriptPure
import Derived.Test.YtkjjdbbogfjdlaaLawTimer3
import Derived.Deep.RegionWith
namespace Go.Proofs.Ytkjjdbbogfjdlaa
set_option linter.unusedVariables false
set_option linter.unusedSimpArgs false
open Go.RowKit
open HP
/-- A slice of acts: for each place the three cells. -/
def AReads (w : World) (A : Option Addr) (n : Nat) (zs : List (Bool × Int × Int)) : Prop :=
  zs.length = n ∧ n ≤ 9223372036854775807 ∧ ∀ k (c : Bool) (i a : Int), zs[k]? = some (c, i, a) → ∃ ad, A = some ad ∧ w.cell? (ad.add (k * 3)) = some (.bool c) ∧ w.cell? (ad.add (k * 3 + 1)) = some (.int .i64 i) ∧ w.cell? (ad.add (k * 3 + 2)) = some (.int .i64 a)
theorem addr_field (a : Addr) (m j : Nat) (hj : 0 < j) : a.add (m + j) = ⟨(a.add m).block, (a.add m).off + j, none⟩ := by
  unfold Addr.add
  rw [if_neg (by omega)]
  split
  · next h => subst h; simp
  · simp [Nat.add_assoc]
/-- Timers and the reference side by side, at a world that has come of W. -/
structure Two (W w : World) (g r : Nat) (most : Int) (v u : Value) (xs ys : List P2) : Prop where
  bel : Below W.heap.size W w
  tm : Tm w g most v xs
  rf : Rf w r most u ys
  gb : W.heap.size ≤ g
  rb : W.heap.size ≤ r
  vb : ∀ k, v.ownBlock = some k → W.heap.size ≤ k
  lk : Lk xs ys
  small : (xs.length : Int) ≤ most ∧ most ≤ 24
theorem Two.below {W w w2 : World} {g r : Nat} {most : Int} {v u : Value} {xs ys : List P2} (h : Two W w g r most v u xs ys) (hb : Below w.heap.size w w2) : Two W w2 g r most v u xs ys :=
  ⟨h.bel.trans (hb.mono h.bel.size), h.tm.below hb, h.rf.below hb, h.gb, h.rb, h.vb, h.lk, h.small⟩
/-- Behind a call that turned the timers alone. -/
theorem Two.rf_moved {W w w2 : World} {g r : Nat} {most : Int} {v v2 u : Value} {xs ys : List P2} (h : Two W w g r most v u xs ys) (hm : Moved g v v2 w w2) : Rf w2 r most u ys := by
  have hrl := h.rf.blk.lt
  have hgr : r ≠ g := fun e => Blk.ne_ (h := h.rf.blk) (h' := h.tm.blk) (by decide) e
  refine ⟨?_, row_moved h.rf.row hm (own_blk_ne h.rf.row h.tm.blk (by decide)) (fun k hk => own_own_ne h.rf.row h.tm.row (by decide) k hk)⟩
  unfold Blk
  rw [hm.block r hrl hgr (fun e => own_blk_ne h.tm.row h.rf.blk (by decide) e)]
  exact h.rf.blk
/-- Behind a call that turned the reference alone. -/
theorem tm_grown {w w2 : World} {g r : Nat} {most : Int} {v u : Value} {xs ys : List P2} (ht : Tm w g most v xs) (hr : Rf w r most u ys) (hg : w.grownBy w2 (some r)) : Tm w2 g most v xs :=
  ⟨ht.blk.grown hg (fun e => Blk.ne_ (h := ht.blk) (h' := hr.blk) (by decide) (by injection e)), ht.at_, World.ownsRow.kept ht.row hg (.inr (own_blk_ne ht.row hr.blk (by decide))), ht.ne⟩
/-! ### The contracts, side by side -/
theorem cancel_two (W w : World) (g r : Nat) (most : Int) (v u : Value) (xs ys : List P2) (id : Int) (h : Two W w g r most v u xs ys) :
    Calls Try.prog 16 #[.pointer (some ⟨g, 0, none⟩), .int .i64 id] w fun e w' => ∃ w2 v2, e = .returned (.bool (decide (findN xs id < xs.length))) ∧ w2 = w' ∧ Tm w2 g most v2 (cancelP xs id) ∧ Rf w2 r most u ys ∧ Moved g v v2 w w2 :=
  (cancel_any g most v xs id w h.tm (by have := h.small; omega)).mono fun e w' ⟨w2, v2, he, hw, ht, hmv⟩ => ⟨w2, v2, he, hw, ht, h.rf_moved hmv, hmv⟩
theorem set_two (W w : World) (g r : Nat) (most : Int) (v u : Value) (xs ys : List P2) (id x : Int) (h : Two W w g r most v u xs ys) :
    Calls Try.prog 10 #[.pointer (some ⟨g, 0, none⟩), .int .i64 id, .int .i64 x] w fun e w' => ∃ w2 v2, e = .returned (.int .i64 (setP most xs id x).1) ∧ w2 = w' ∧ Tm w2 g most v2 (setP most xs id x).2 ∧ Rf w2 r most u ys ∧ Moved g v v2 w w2 :=
  (set_any g most v xs id x w h.tm (by have := h.small; omega)).mono fun e w' ⟨w2, v2, he, hw, ht, hmv⟩ => ⟨w2, v2, he, hw, ht, h.rf_moved hmv, hmv⟩
theorem vb_moved {W w w2 : World} {g : Nat} {v v2 : Value} (hw : W.heap.size ≤ w.heap.size) (hv : ∀ k, v.ownBlock = some k → W.heap.size ≤ k) (hm : Moved g v v2 w w2) : ∀ k, v2.ownBlock = some k → W.heap.size ≤ k := fun k hk => by
  rcases hm.own with e | ⟨b, e, hb⟩
  · exact hv k (by rw [← e]; exact hk)
  · rw [e] at hk
    injection hk with hk
    omega
/-- The act's own block behind a call that turned the timers alone, or the reference alone. -/
theorem Two.act_moved {W w w2 : World} {g r b : Nat} {most : Int} {v v2 u : Value} {xs ys : List P2} {cs : Array Value} (h : Two W w g r most v u xs ys) (hx : Blk w b 46 cs) (hm : Moved g v v2 w w2) : Blk w2 b 46 cs := by
  unfold Blk
  rw [hm.block b hx.lt (fun e => Blk.ne_ (h := hx) (h' := h.tm.blk) (by decide) e) (fun e => own_blk_ne h.tm.row hx (by decide) e)]
  exact hx
theorem act_grown {w w2 : World} {r b : Nat} {most : Int} {u : Value} {ys : List P2} {cs : Array Value} (h : Rf w r most u ys) (hx : Blk w b 46 cs) (hg : w.grownBy w2 (some r)) : Blk w2 b 46 cs :=
  hx.grown hg (fun e => Blk.ne_ (h := hx) (h' := h.blk) (by decide) (by injection e))
/-- Both have turned, one behind the other. -/
theorem Two.done {W w w3 w4 : World} {g r : Nat} {most : Int} {v v3 u u4 : Value} {xs ys xs4 ys4 : List P2} (h : Two W w g r most v u xs ys) (t3 : Tm w3 g most v3 xs4) (r3 : Rf w3 r most u ys) (m3 : Moved g v v3 w w3) (r4 : Rf w4 r most u4 ys4) (g4 : w3.grownBy w4 (some r)) (hl : Lk xs4 ys4) (hs : (xs4.length : Int) ≤ most) : Two W w4 g r most v3 u4 xs4 ys4 :=
  have b3 : Below W.heap.size W w3 := h.bel.trans (m3.below_ h.bel.size h.gb h.vb)
  ⟨b3.grown g4 b3.size (fun k hk => by injection hk with hk; have := h.rb; omega), tm_grown t3 r3 g4, r4, h.gb, h.rb, vb_moved h.bel.size h.vb m3, hl, hs, h.small.2⟩
theorem Two.over {W w w2 : World} {g r base n : Nat} {most : Int} {v u l : Value} {xs ys : List P2} {zs : List Value} (h : Two W w g r most v u xs ys) (ho : w.ownsRow base 3 1 l n zs) (hb : W.heap.size ≤ base) (hg : w.grownBy w2 l.ownBlock) : Two W w2 g r most v u xs ys :=
  ⟨h.bel.grown hg h.bel.size (fun q hq => Nat.le_trans hb (own_base ho q hq)), HeapAt.grown_ h.tm hg (own_blk_ne ho h.tm.blk (by decide)) (fun q hq => own_own_ne ho h.tm.row (by decide) q hq),
    ⟨h.rf.blk.grown hg (fun e => own_blk_ne ho h.rf.blk (by decide) e.symm), World.ownsRow.kept h.rf.row hg (by
      cases hv : u.ownBlock with
      | none => simp
      | some q => exact .inr (fun e => own_own_ne ho h.rf.row (by decide) q e.symm hv))⟩, h.gb, h.rb, h.vb, h.lk, h.small⟩
theorem own_on {w w2 : World} {base n : Nat} {e : TypeId} {s : Nat} {l : Value} {zs : List Value} (h : w.ownsRow base e s l n zs) (hb : Below w.heap.size w w2) : w2.ownsRow base e s l n zs :=
  World.ownsRow.kept h (only_of_below hb none) (by cases l.ownBlock <;> simp)
theorem cancelP_len (xs : List P2) (id : Int) (hg : HGood xs) : (cancelP xs id).length ≤ xs.length := by
  rw [(cancel_spec xs id hg).2.1]
  split <;> omega
set_option maxRecDepth 20000 in
set_option maxHeartbeats 4000000 in
theorem timerScript_walk (most : Int) (A : Option Addr) (n cap : Nat) (zs : List (Bool × Int × Int)) (now : Int) (w : World) (h : AReads w A n zs) :
    Calls Try.prog 6 #[.int .i64 most, .slice A n cap, .int .i64 now] w fun e w' => e = .returned (.bool true) ∧ Below w.heap.size w w' := by
  have hn := h.2.1
  have HI := Lib.hid h
  clear h
  by_cases hbig : 100 < n
  · go_enter Try.func6, Try.ntmps6
    go_wp2_with (go_at_call 8; refine (awake_any _).mono ?_; rintro e w' ⟨w1, rfl, rfl, b1⟩)
    go_ret
    exact ⟨rfl, b1⟩
  · have hn24 : n ≤ 100 := by omega
    clear hbig hn
    by_cases hbad : most < 1 ∨ 24 < most
    · go_enter Try.func6, Try.ntmps6
      go_wp2_with (first
        | (go_at_call 9; refine (new_bad most _ hbad).mono ?_; rintro e w' ⟨w1, rfl, rfl, rfl⟩)
        | (go_at_call 17; refine (rnew_bad most _ hbad).mono ?_; rintro e w' ⟨rfl, rfl⟩)
        | (go_at_call 18; refine (num_any _ _).mono ?_; rintro e w' ⟨rfl, rfl⟩)
        | (go_at_call 8; refine (awake_any _).mono ?_; rintro e w' ⟨w1, rfl, rfl, b1⟩))
      go_ret
      exact ⟨rfl, b1⟩
    · have hm1 : 1 ≤ most := by omega
      have hm2 : most ≤ 24 := by omega
      clear hbad
      go_enter Try.func6, Try.ntmps6
      go_wp2_with (first
        | (go_at_call 9; refine (new_ok most _ hm1 hm2).mono ?_; rintro e w' ⟨w1, rfl, rfl, t1, b1⟩; have T1 := Lib.hid t1; have B1 := Lib.hid b1; clear t1 b1)
        | (go_at_call 17; refine (rnew_ok most _ hm1 hm2).mono ?_; rintro e w' ⟨w2, rfl, rfl, r2, b2⟩; have R2 := Lib.hid r2; have B2 := Lib.hid b2; clear r2 b2)
        | (go_at_call 18; refine (num_any _ _).mono ?_; rintro e w' ⟨rfl, rfl⟩))
      have T0 : Hid (Two w w2 w.heap.size w1.heap.size most (.slice none 0 0) (.slice none 0 0) [] []) := ⟨B1.out.trans (B2.out.mono B1.out.size), T1.out.below B2.out, R2.out, Nat.le_refl _, B1.out.size, (fun k hk => by simp [Value.ownBlock] at hk), lk_nil, by simp; omega, hm2⟩
      go_loopw [11, 12, 13, 14, 15, 16, 17, 18] (fun i0 _ _ _ _ _ _ _ wr => ∃ (k : Nat) (v u : Value) (xs ys : List P2), k ≤ n ∧ i0 = .int .i64 k ∧ Hid (Two w wr w.heap.size w1.heap.size most v u xs ys)) (fun i0 _ _ _ _ _ _ _ _ => n - (intOf i0).toNat)
      case atStart => exact ⟨0, _, _, [], [], by omega, rfl, T0⟩
      case round =>
        obtain ⟨k, v, u, xs, ys, hk, rfl, HT⟩ := hrel
        by_cases hkn : k < n
        · obtain ⟨c, i, a, hz⟩ : ∃ c i a, zs[k]? = some (c, i, a) := by
            have hl : k < zs.length := by rw [HI.out.1]; exact hkn
            exact ⟨zs[k].1, zs[k].2.1, zs[k].2.2, List.getElem?_eq_getElem hl⟩
          obtain ⟨ad, hA, z0, z1, z2⟩ := HI.out.2.2 k c i a hz
          subst hA
          rw [addr_field _ _ _ (by omega)] at z1 z2
          have y0 := cell_on z0 HT.out.bel
          have y1 := cell_on z1 HT.out.bel
          have y2 := cell_on z2 HT.out.bel
          clear z0 z1 z2 hz
          have hsm := HT.out.small
          have hsx : Hid (xs.length ≤ 999) := by unfold Hid; omega
          have hsy : Hid (ys.length ≤ 1000) := by have := HT.out.lk.length; unfold Hid; omega
          clear hsm
          have hx1 : (wr.alloc (.cells #[.bool c, .int .i64 i, .int .i64 a] 46)).cell? ⟨wr.heap.size, 1, none⟩ = some (.int .i64 i) := cell_of_row _ _ 1 _ _ _ (heap_alloc_new wr _)
          have hx2 : (wr.alloc (.cells #[.bool c, .int .i64 i, .int .i64 a] 46)).cell? ⟨wr.heap.size, 2, none⟩ = some (.int .i64 a) := cell_of_row _ _ 2 _ _ _ (heap_alloc_new wr _)
          cases c with
          | true =>
            have XB : Hid (Blk (wr.alloc (.cells #[.bool true, .int .i64 i, .int .i64 a] 46)).drew wr.heap.size 46 #[.bool true, .int .i64 i, .int .i64 a]) := Blk.new _ _ _
            have TX : Hid (Two w (wr.alloc (.cells #[.bool true, .int .i64 i, .int .i64 a] 46)).drew w.heap.size w1.heap.size most v u xs ys) := HT.out.below (b_alloc wr _).drew
            have hfe : decide (findN ys i < ys.length) = decide (findN xs i < xs.length) := by rw [decide_eq_decide]; exact HT.out.lk.found i
            have HFE := Lib.hid hfe
            have LC := Lib.hid (HT.out.lk.cancel i)
            have LN : Hid (((cancelP xs i).length : Int) ≤ most) := by
              have h1 := cancelP_len xs i HT.out.lk.good
              have h2 := HT.out.small.1
              unfold Hid
              omega
            clear hfe
            go_wp2_with fail
            go_region_held3 (fun w' => w'.cell? ⟨wr.heap.size, 1, none⟩ = some (.int .i64 i)) (first | exact hx1 | exact d1 | exact d2)
              (first
              | (go_at_call 16; refine (cancel_two w _ _ _ most v u xs ys i TX.out).mono ?_; rintro e w' ⟨w3, v3, rfl, rfl, t3, r3, m3⟩; have X3 := Lib.hid (TX.out.act_moved XB.out m3); have d1 : w3.cell? ⟨wr.heap.size, 1, none⟩ = some (.int .i64 i) := (X3.out.cell 1).trans rfl; have T3 := Lib.hid t3; have R3 := Lib.hid r3; have M3 := Lib.hid m3; clear t3 r3 m3)
              | (go_at_call 19; refine (rcancel_any _ most u ys i _ R3.out hsy.out).mono ?_; rintro e w' ⟨w4, u4, rfl, rfl, r4, g4⟩; rw [HFE.out]; have X4 := Lib.hid (act_grown R3.out X3.out g4); have d2 : w4.cell? ⟨wr.heap.size, 1, none⟩ = some (.int .i64 i) := (X4.out.cell 1).trans rfl; have T4 := Lib.hid (TX.out.done T3.out R3.out M3.out r4 g4 LC.out LN.out); clear r4 g4))
            have hl4 : ∃ xs4 ys4 v4 u5, Hid (Two w w4 w.heap.size w1.heap.size most v4 u5 xs4 ys4) := ⟨_, _, _, _, T4⟩
            clear T4
            obtain ⟨xs4, ys4, v4, u5, T4⟩ := hl4
            obtain ⟨Au, cu, hu5⟩ := T4.out.rf.row.len_
            subst hu5
            obtain ⟨n6, HN6⟩ : ∃ n6, Hid ((dueL xs4.length xs4 now).length = n6) := ⟨_, rfl⟩
            have LL4 : Hid (xs4.length = ys4.length) := T4.out.lk.length.symm
            have hsx4 : Hid (xs4.length ≤ 1000) := by have := T4.out.small; unfold Hid; omega
            have hsy4 : Hid (ys4.length ≤ 1000) := by have := T4.out.small; have := T4.out.lk.length; unfold Hid; omega
            have AT4 : Hid (atI ys4 i = atI xs4 i) := T4.out.lk.at_ i
            have FD4 : Hid (decide (findN ys4 i < ys4.length) = decide (findN xs4 i < xs4.length)) := by unfold Hid; rw [decide_eq_decide]; exact T4.out.lk.found i
            have DU4 : Hid (dueOf xs4 now = rdue ys4 now) := T4.out.lk.due now
            clear d1 d2
            have c4 := X4.out.cell 1
            simp only [List.getElem?_toArray, List.getElem?_cons_succ, List.getElem?_cons_zero] at c4
            go_wp2_with (first
              | (go_at_call 15; refine (at_any _ most _ xs4 i _ T4.out.tm hsx4.out).mono ?_; rintro e w' ⟨w5, rfl, rfl, b5⟩; have T5 := Lib.hid (T4.out.below b5); have c5 := cell_on c4 b5; clear b5)
              | (go_at_call 21; refine (rat_any _ most _ ys4 i _ T5.out.rf hsy4.out).mono ?_; rintro e w' ⟨rfl, rfl⟩; rw [AT4.out, FD4.out])
              | (go_at_call 13; refine (due_any _ most _ xs4 now _ T5.out.tm hsx4.out).mono ?_; rintro e w' ⟨w6, l6, rfl, rfl, i6, b6⟩; have T6 := Lib.hid (T5.out.below b6); have e6 := T6.out.rf.c0; rw [HN6.out] at i6; obtain ⟨A6, c6, hv6, _, j6⟩ := own_ireads i6; rw [hv6]; rw [hv6] at i6; have O6 := Lib.hid i6; have J6 := Lib.hid j6; have B6 := Lib.hid b6; clear i6 b6 j6))
            go_region_held3 (fun w' => w'.cell? ⟨w1.heap.size, 0, none⟩ = some (.slice Au ys4.length cu)) (first | exact e6 | exact e7 | exact e8)
              (first
              | (go_at_call 22; refine (rdue_any _ most _ ys4 now _ (T6.out.below (Below.refl _ _).drew).rf hsy4.out).mono ?_; rintro e w' ⟨w7, l7, rfl, rfl, i7, b7⟩; obtain ⟨A7, c7, hv7, _, j7⟩ := own_ireads i7; rw [hv7]; have J7 := Lib.hid j7; have T7 := Lib.hid ((T6.out.below (Below.refl _ _).drew).below b7); have e7 := T7.out.rf.c0; have J67 := Lib.hid ((J6.out.below (Below.refl _ _).drew).below b7); have B7 := Lib.hid b7; clear i7 b7 j7)
              | (go_at_call 12; refine (sameints_of A6 A7 _ _ c6 c7 _ _ _ J67.out J7.out DU4.out).mono ?_; rintro e w' ⟨w8, rfl, rfl, b8⟩; have T8 := Lib.hid (T7.out.below b8); have e8 := T8.out.rf.c0; have B8 := Lib.hid b8; clear b8)
              | (go_at_call 14; refine (tlen_any _ most _ xs4 _ T8.out.tm hsx4.out).mono ?_; rintro e w' ⟨rfl, rfl⟩; rw [LL4.out]))
            have O8 : Hid (w8.ownsRow w5.heap.size 3 1 (.slice A6 n6 c6) n6 (ivals (dueL xs4.length xs4 now))) := own_on (own_on (World.ownsRow.drew O6.out) B7.out) B8.out
            have ND : Hid (n6 ≤ 1000) := by have h1 := dueOf_length xs4 now T4.out.lk.good; have h2 := HN6.out; have h3 := hsx4.out; unfold dueOf at h1; unfold Hid; omega
            have SZ : Hid (w5.heap.size ≤ w8.heap.size ∧ w.heap.size ≤ w5.heap.size) := ⟨Nat.le_trans B6.out.size (Nat.le_trans B7.out.size B8.out.size), T5.out.bel.size⟩
            go_wp2_with (go_at_call 23; (with_reducible refine (overints_any _ _ _ w5.heap.size _ _ O8.out ND.out SZ.out.1).mono ?_); rintro e w' ⟨w9, rfl, rfl, g9⟩; have T9 := Lib.hid (T8.out.over O8.out SZ.out.2 g9); clear g9)
            go_roundw
            case rel => exact ⟨k + 1, _, _, _, _, by omega, by go_num, T9⟩
            case measure => simp [intOf]; omega
          | false =>
            have XB : Hid (Blk (wr.alloc (.cells #[.bool false, .int .i64 i, .int .i64 a] 46)).drew wr.heap.size 46 #[.bool false, .int .i64 i, .int .i64 a]) := Blk.new _ _ _
            have TX : Hid (Two w (wr.alloc (.cells #[.bool false, .int .i64 i, .int .i64 a] 46)).drew w.heap.size w1.heap.size most v u xs ys) := HT.out.below (b_alloc wr _).drew
            have LS := HT.out.lk.set most i a HT.out.small.1
            have HSE := Lib.hid LS.1
            have LC := Lib.hid LS.2.1
            have LN := Lib.hid LS.2.2.1
            have hsy9 : Hid (ys.length ≤ 999) := by have h1 := HT.out.lk.length; have h2 := hsx.out; unfold Hid; omega
            clear LS
            go_wp2_with fail
            go_region_held3 (fun w' => w'.cell? ⟨wr.heap.size, 1, none⟩ = some (.int .i64 i) ∧ w'.cell? ⟨wr.heap.size, 2, none⟩ = some (.int .i64 a)) (first | exact ⟨hx1, hx2⟩ | exact d1 | exact d2)
              (first
              | (go_at_call 10; refine (set_two w _ _ _ most v u xs ys i a TX.out).mono ?_; rintro e w' ⟨w3, v3, rfl, rfl, t3, r3, m3⟩; rw [HSE.out]; have X3 := Lib.hid (TX.out.act_moved XB.out m3); have d1 : w3.cell? ⟨wr.heap.size, 1, none⟩ = some (.int .i64 i) ∧ w3.cell? ⟨wr.heap.size, 2, none⟩ = some (.int .i64 a) := ⟨(X3.out.cell 1).trans rfl, (X3.out.cell 2).trans rfl⟩; have T3 := Lib.hid t3; have R3 := Lib.hid r3; have M3 := Lib.hid m3; clear t3 r3 m3)
              | (go_at_call 18; refine (num_any _ _).mono ?_; rintro e w' ⟨rfl, rfl⟩)
              | (go_at_call 20; refine (rset_any _ most u ys i a _ R3.out hsy9.out).mono ?_; rintro e w' ⟨w4, u4, rfl, rfl, r4, g4⟩; have X4 := Lib.hid (act_grown R3.out X3.out g4); have d2 : w4.cell? ⟨wr.heap.size, 1, none⟩ = some (.int .i64 i) ∧ w4.cell? ⟨wr.heap.size, 2, none⟩ = some (.int .i64 a) := ⟨(X4.out.cell 1).trans rfl, (X4.out.cell 2).trans rfl⟩; have T4 := Lib.hid (TX.out.done T3.out R3.out M3.out r4 g4 LC.out LN.out); clear r4 g4))
            have hl4 : ∃ xs4 ys4 v4 u5, Hid (Two w w4 w.heap.size w1.heap.size most v4 u5 xs4 ys4) := ⟨_, _, _, _, T4⟩
            clear T4
            obtain ⟨xs4, ys4, v4, u5, T4⟩ := hl4
            obtain ⟨Au, cu, hu5⟩ := T4.out.rf.row.len_
            subst hu5
            obtain ⟨n6, HN6⟩ : ∃ n6, Hid ((dueL xs4.length xs4 now).length = n6) := ⟨_, rfl⟩
            have LL4 : Hid (xs4.length = ys4.length) := T4.out.lk.length.symm
            have hsx4 : Hid (xs4.length ≤ 1000) := by have := T4.out.small; unfold Hid; omega
            have hsy4 : Hid (ys4.length ≤ 1000) := by have := T4.out.small; have := T4.out.lk.length; unfold Hid; omega
            have AT4 : Hid (atI ys4 i = atI xs4 i) := T4.out.lk.at_ i
            have FD4 : Hid (decide (findN ys4 i < ys4.length) = decide (findN xs4 i < xs4.length)) := by unfold Hid; rw [decide_eq_decide]; exact T4.out.lk.found i
            have DU4 : Hid (dueOf xs4 now = rdue ys4 now) := T4.out.lk.due now
            clear d1 d2
            have c4 := X4.out.cell 1
            simp only [List.getElem?_toArray, List.getElem?_cons_succ, List.getElem?_cons_zero] at c4
            go_wp2_with (first
              | (go_at_call 15; refine (at_any _ most _ xs4 i _ T4.out.tm hsx4.out).mono ?_; rintro e w' ⟨w5, rfl, rfl, b5⟩; have T5 := Lib.hid (T4.out.below b5); have c5 := cell_on c4 b5; clear b5)
              | (go_at_call 21; refine (rat_any _ most _ ys4 i _ T5.out.rf hsy4.out).mono ?_; rintro e w' ⟨rfl, rfl⟩; rw [AT4.out, FD4.out])
              | (go_at_call 13; refine (due_any _ most _ xs4 now _ T5.out.tm hsx4.out).mono ?_; rintro e w' ⟨w6, l6, rfl, rfl, i6, b6⟩; have T6 := Lib.hid (T5.out.below b6); have e6 := T6.out.rf.c0; rw [HN6.out] at i6; obtain ⟨A6, c6, hv6, _, j6⟩ := own_ireads i6; rw [hv6]; rw [hv6] at i6; have O6 := Lib.hid i6; have J6 := Lib.hid j6; have B6 := Lib.hid b6; clear i6 b6 j6))
            go_region_held3 (fun w' => w'.cell? ⟨w1.heap.size, 0, none⟩ = some (.slice Au ys4.length cu)) (first | exact e6 | exact e7 | exact e8)
              (first
              | (go_at_call 22; refine (rdue_any _ most _ ys4 now _ (T6.out.below (Below.refl _ _).drew).rf hsy4.out).mono ?_; rintro e w' ⟨w7, l7, rfl, rfl, i7, b7⟩; obtain ⟨A7, c7, hv7, _, j7⟩ := own_ireads i7; rw [hv7]; have J7 := Lib.hid j7; have T7 := Lib.hid ((T6.out.below (Below.refl _ _).drew).below b7); have e7 := T7.out.rf.c0; have J67 := Lib.hid ((J6.out.below (Below.refl _ _).drew).below b7); have B7 := Lib.hid b7; clear i7 b7 j7)
              | (go_at_call 12; refine (sameints_of A6 A7 _ _ c6 c7 _ _ _ J67.out J7.out DU4.out).mono ?_; rintro e w' ⟨w8, rfl, rfl, b8⟩; have T8 := Lib.hid (T7.out.below b8); have e8 := T8.out.rf.c0; have B8 := Lib.hid b8; clear b8)
              | (go_at_call 14; refine (tlen_any _ most _ xs4 _ T8.out.tm hsx4.out).mono ?_; rintro e w' ⟨rfl, rfl⟩; rw [LL4.out]))
            have O8 : Hid (w8.ownsRow w5.heap.size 3 1 (.slice A6 n6 c6) n6 (ivals (dueL xs4.length xs4 now))) := own_on (own_on (World.ownsRow.drew O6.out) B7.out) B8.out
            have ND : Hid (n6 ≤ 1000) := by have h1 := dueOf_length xs4 now T4.out.lk.good; have h2 := HN6.out; have h3 := hsx4.out; unfold dueOf at h1; unfold Hid; omega
            have SZ : Hid (w5.heap.size ≤ w8.heap.size ∧ w.heap.size ≤ w5.heap.size) := ⟨Nat.le_trans B6.out.size (Nat.le_trans B7.out.size B8.out.size), T5.out.bel.size⟩
            go_wp2_with (go_at_call 23; (with_reducible refine (overints_any _ _ _ w5.heap.size _ _ O8.out ND.out SZ.out.1).mono ?_); rintro e w' ⟨w9, rfl, rfl, g9⟩; have T9 := Lib.hid (T8.out.over O8.out SZ.out.2 g9); clear g9)
            go_roundw
            case rel => exact ⟨k + 1, _, _, _, _, by omega, by go_num, T9⟩
            case measure => simp [intOf]; omega
        · obtain rfl : k = n := by omega
          clear hkn
          have HD : Hid (dueOf xs 1099511627776 = rdue ys 1099511627776) := HT.out.lk.due _
          have hsm := HT.out.small
          have hsx : Hid (xs.length ≤ 999) := by unfold Hid; omega
          have hsy : Hid (ys.length ≤ 1000) := by have := HT.out.lk.length; unfold Hid; omega
          clear hsm
          go_wp2_with (first
            | (go_at_call 13; refine (due_any _ most _ xs _ _ HT.out.tm (Nat.le_trans hsx.out (by omega))).mono ?_; rintro e w' ⟨w7, l7, rfl, rfl, i7, b7⟩; obtain ⟨A7, c7, hv7, _, j7⟩ := own_ireads i7; rw [hv7]; have J7 := Lib.hid j7; have B7 := Lib.hid b7; have T7 := Lib.hid (HT.out.below b7); clear i7 b7 j7)
            | (go_at_call 22; refine (rdue_any _ most _ ys _ _ T7.out.rf hsy.out).mono ?_; rintro e w' ⟨w8, l8, rfl, rfl, i8, b8⟩; obtain ⟨A8, c8, hv8, _, j8⟩ := own_ireads i8; rw [hv8]; have J8 := Lib.hid j8; have J78 := Lib.hid (J7.out.below b8); have T8 := Lib.hid (T7.out.below b8); clear i8 b8 j8)
            | (go_at_call 12; refine (sameints_of A7 A8 _ _ c7 c8 _ _ _ J78.out J8.out HD.out).mono ?_; rintro e w' ⟨w9, rfl, rfl, b9⟩; have T9 := Lib.hid (T8.out.below b9); clear b9)
            | (go_at_call 8; refine (awake_any _).mono ?_; rintro e w' ⟨w10, rfl, rfl, b10⟩))
          go_ret
          exact ⟨rfl, (T9.out.below b10).bel⟩
end Go.Proofs.Ytkjjdbbogfjdlaa
