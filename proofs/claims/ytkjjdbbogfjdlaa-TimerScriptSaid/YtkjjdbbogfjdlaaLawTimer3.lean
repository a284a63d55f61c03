/-
  The walk of inkhornlaw17.TimerDue.
-/
import Derived.Test.YtkjjdbbogfjdlaaLawTimer2
import Derived.BigQuiet
import Derived.BigRegion
namespace Go.Proofs.Ytkjjdbbogfjdlaa
set_option linter.unusedVariables false
set_option linter.unusedSimpArgs false
open Go.RowKit
namespace HP
/-- The moments that are due, in order. -/
def dueP (xs : List P2) (now : Int) : List P2 := (inOrder xs).filter (fun p => decide (p.1 ≤ now))
theorem dueOf_P (xs : List P2) (now : Int) (hg : HGood xs) : dueOf xs now = (dueP xs now).map (·.2) := dueOf_order xs now hg
theorem dueP_length (xs : List P2) (now : Int) (hg : HGood xs) : (dueOf xs now).length = (dueP xs now).length := by rw [dueOf_P xs now hg, List.length_map]
theorem dueP_mem (xs : List P2) (now : Int) (p : P2) : p ∈ dueP xs now ↔ p ∈ xs ∧ p.1 ≤ now := by
  unfold dueP
  rw [List.mem_filter, (inOrder_perm xs).mem_iff]
  simp
theorem due_gi (xs : List P2) (now : Int) (hg : HGood xs) (k : Nat) (hk : k < (dueOf xs now).length) : gi (dueOf xs now) k = (gp (dueP xs now) k).2 := by
  have hk2 : k < (dueP xs now).length := by rw [← dueP_length xs now hg]; exact hk
  rw [dueOf_P xs now hg]
  unfold gi gp
  simp [List.getD_eq_getElem?_getD, List.getElem?_map, List.getElem?_eq_getElem hk2]
theorem due_in (xs : List P2) (now : Int) (hg : HGood xs) (k : Nat) (hk : k < (dueOf xs now).length) : gp (dueP xs now) k ∈ xs ∧ (gp (dueP xs now) k).1 ≤ now :=
  (dueP_mem xs now _).1 (gp_mem _ k (by rw [← dueP_length xs now hg]; exact hk))
theorem due_at (xs : List P2) (now : Int) (hg : HGood xs) (k : Nat) (hk : k < (dueOf xs now).length) : atI xs (gi (dueOf xs now) k) = (gp (dueP xs now) k).1 := by
  rw [due_gi xs now hg k hk]
  exact atI_mem xs _ _ hg (due_in xs now hg k hk).1
theorem due_ord (xs : List P2) (now : Int) (hg : HGood xs) (k : Nat) (hk : k + 1 < (dueOf xs now).length) :
    (gp (dueP xs now) k).1 < (gp (dueP xs now) (k + 1)).1 ∨ ((gp (dueP xs now) k).1 = (gp (dueP xs now) (k + 1)).1 ∧ (gp (dueP xs now) k).2 < (gp (dueP xs now) (k + 1)).2) := by
  have hk2 : k + 1 < (dueP xs now).length := by rw [← dueP_length xs now hg]; exact hk
  have hs : (dueP xs now).Pairwise le := (inOrder_sorted xs).filter _
  have hn : (dueP xs now).Nodup := List.Pairwise.filter _ ((inOrder_perm xs).nodup_iff.2 hg.nodup)
  have e1 : (dueP xs now)[k] = gp (dueP xs now) k := by have := gp_get (dueP xs now) k (by omega); rw [List.getElem?_eq_getElem (by omega)] at this; injection this
  have e2 : (dueP xs now)[k + 1] = gp (dueP xs now) (k + 1) := by have := gp_get (dueP xs now) (k + 1) hk2; rw [List.getElem?_eq_getElem hk2] at this; injection this
  have h1 := List.pairwise_iff_getElem.1 hs k (k + 1) (by omega) hk2 (by omega)
  have h2 := List.pairwise_iff_getElem.1 hn k (k + 1) (by omega) hk2 (by omega)
  rw [e1, e2] at h1 h2
  rw [le_iff] at h1
  have h3 : (gp (dueP xs now) k).2 ≠ (gp (dueP xs now) (k + 1)).2 := fun e => h2 (hg.uniq (due_in xs now hg k (by omega)).1 (due_in xs now hg (k + 1) hk).1 e)
  omega
theorem due_prefix (xs : List P2) (now later : Int) (hg : HGood xs) (h : now ≤ later) : (dueOf xs now).length ≤ (dueOf xs later).length ∧ ∀ k, k < (dueOf xs now).length → gi (dueOf xs later) k = gi (dueOf xs now) k := by
  have key : ∀ ys : List P2, ys.Pairwise le → ∃ t, ys.filter (fun p => decide (p.1 ≤ later)) = ys.filter (fun p => decide (p.1 ≤ now)) ++ t := by
    intro ys
    induction ys with
    | nil => exact fun _ => ⟨[], rfl⟩
    | cons y ys ih =>
      intro hs
      obtain ⟨h1, h2⟩ := List.pairwise_cons.1 hs
      by_cases hy : y.1 ≤ now
      · obtain ⟨t, ht⟩ := ih h2
        refine ⟨t, ?_⟩
        rw [List.filter_cons_of_pos (by simp; omega), List.filter_cons_of_pos (by simpa using hy), ht]
        rfl
      · refine ⟨(y :: ys).filter (fun p => decide (p.1 ≤ later)), ?_⟩
        have : (y :: ys).filter (fun p => decide (p.1 ≤ now)) = [] := by
          rw [List.filter_eq_nil_iff]
          intro p hp
          rcases List.mem_cons.1 hp with rfl | hp
          · simpa using hy
          · have := h1 p hp
            rw [le_iff] at this
            simp
            omega
        rw [this]
        rfl
  obtain ⟨t, ht⟩ := key (inOrder xs) (inOrder_sorted xs)
  have e : dueOf xs later = dueOf xs now ++ t.map (·.2) := by rw [dueOf_order xs later hg, dueOf_order xs now hg, ht, List.map_append]
  rw [e]
  exact ⟨by rw [List.length_append]; omega, fun k hk => gi_append_left _ _ _ hk⟩
def cnt (f : Nat → Int) (now : Int) (n : Nat) : Nat := (List.range n).countP (fun j => decide (f j ≤ now))
theorem cnt_le (f : Nat → Int) (now : Int) (n : Nat) : cnt f now n ≤ n := by
  have := List.countP_le_length (p := fun j => decide (f j ≤ now)) (l := List.range n)
  rw [List.length_range] at this
  exact this
theorem cnt_succ (f : Nat → Int) (now : Int) (n : Nat) : cnt f now (n + 1) = if f n ≤ now then cnt f now n + 1 else cnt f now n := by
  unfold cnt
  rw [List.range_succ, List.countP_append, List.countP_singleton]
  by_cases h : f n ≤ now <;> simp [h]
theorem mm_perm {f : Nat → Int} {n : Nat} {xs : List P2} (h : MM f 0 n xs) (hg : HGood xs) : xs.Perm ((List.range n).map fun j => (f j, (j : Int))) := by
  refine (List.perm_ext_iff_of_nodup hg.nodup ?_).2 fun p => (h.2 p).trans ?_
  · refine List.Pairwise.map _ (fun a b hne => ?_) List.nodup_range
    intro e
    injection e with _ e
    exact hne (by omega)
  · rw [List.mem_map]
    constructor
    · rintro ⟨j, _, h2, h3⟩
      exact ⟨j, List.mem_range.2 h2, h3.symm⟩
    · rintro ⟨j, h2, h3⟩
      exact ⟨j, Nat.zero_le _, List.mem_range.1 h2, h3.symm⟩
theorem due_cnt {f : Nat → Int} {n : Nat} {xs : List P2} (now : Int) (h : MM f 0 n xs) (hg : HGood xs) : (dueOf xs now).length = cnt f now n := by
  rw [dueP_length xs now hg]
  unfold dueP cnt
  rw [← List.countP_eq_length_filter, ((inOrder_perm xs).trans (mm_perm h hg)).countP_eq, List.countP_map]
  rfl
end HP
open HP
theorem IReads.drewN {w : World} {A : Option Addr} {n : Nat} {zs : List Int} (h : IReads w A n zs) (k : Nat) : IReads (w.drewN k) A n zs := h
set_option maxRecDepth 20000 in
set_option maxHeartbeats 4000000 in
theorem timerDue_walk (A : Option Addr) (n cap : Nat) (zs : List Int) (now0 later : Int) (w : World) (h : IReads w A n zs) :
    Calls Try.prog 4 #[.slice A n cap, .int .i64 now0, .int .i64 later] w fun e w' => e = .returned (.bool true) ∧ Below w.heap.size w w' := by
  have hn := h.2.1
  have HI := Lib.hid h
  clear h
  by_cases hbig : 24 < n
  · go_enter Try.func4, Try.ntmps4
    go_wp2_with (go_at_call 8; refine (awake_any _).mono ?_; rintro e w' ⟨w1, rfl, rfl, b1⟩)
    go_ret
    exact ⟨rfl, b1⟩
  · have hn24 : n ≤ 24 := by omega
    clear hbig hn
    have hnow := lowI_range now0 100 (by omega)
    have hlat := lowI_range later 50 (by omega)
    generalize hnw : lowI now0 100 = now at *
    generalize hlt0 : lowI later 50 = more at *
    have HNW := Lib.hid hnw
    have HLT := Lib.hid hlt0
    clear hnw hlt0
    go_enter Try.func4, Try.ntmps4
    go_wp2_with (first
      | (go_at_call 9; (refine (new_st w _ 24 (Below.refl _ _) (by omega) (by omega)).mono ?_); rintro e w' ⟨w1, rfl, rfl, s1, b1⟩; have S1 := Lib.hid s1; have B1 := Lib.hid b1; clear s1 b1)
      | (go_at_call 11; refine (low_any _ 100 _ (by omega) (by omega)).mono ?_; rintro e w' ⟨rfl, rfl⟩; rw [HNW.out]))
    go_loopw [9, 10, 11] (fun n0 i0 a0 wr => ∃ (k : Nat) (v1 : Value) (xs : List P2), k ≤ n ∧ i0 = .int .i64 k ∧ n0 = .int .i64 (cnt (lowAt zs 100) now k) ∧ Hid (St w wr w.heap.size 24 v1 xs) ∧ Hid (MM (lowAt zs 100) 0 k xs)) (fun _ i0 _ _ => n - (intOf i0).toNat)
    case atStart => exact ⟨0, _, [], by omega, rfl, rfl, S1, mm_nil _ _⟩
    case round =>
      obtain ⟨k, v1, xs, hk, rfl, rfl, H1, M1⟩ := hrel
      have hcl := cnt_le (lowAt zs 100) now k
      by_cases hlt : k < n
      · obtain ⟨ad, hA, hc⟩ := (HI.out.below H1.out.bel).at_ k hlt
        subst hA
        have hl := lowI_range (gi zs k) 100 (by omega)
        have hl7 := lowI_range (lowI (gi zs k) 100) 7 (by omega)
        have l1 := M1.out.1
        have hcs := cnt_succ (lowAt zs 100) now k
        by_cases hle : lowI (gi zs k) 100 ≤ now
        · have HCS : Hid (cnt (lowAt zs 100) now (k + 1) = cnt (lowAt zs 100) now k + 1) := hcs.trans (if_pos hle)
          have hb : decide (lowI (gi zs k) 100 ≤ now) = true := by simp [hle]
          clear hcs hle
          have tok1 : True := trivial
          have tok2 : True := trivial
          go_wp2_with (first
            | (go_at_call 11; have _t := tok1; refine (low_any _ 100 _ (by omega) (by omega)).mono ?_; rintro e w' ⟨rfl, rfl⟩; clear tok1)
            | (go_at_call 11; refine (low_any _ 7 _ (by omega) (by omega)).mono ?_; rintro e w' ⟨rfl, rfl⟩)
            | (go_at_call 10; have _t := tok2; refine (set_st w _ _ 24 _ xs _ _ H1.out (by omega) hl7.1 (by omega) (.inr (by omega)) (by omega)).mono ?_; rintro e w' ⟨w3, v3, xs3, rfl, rfl, s3, q3, ln3, m3⟩; have T3 := Lib.hid ((M1.out.congr_ (f2 := fun j => if j = k then lowI (lowI (gi zs k) 100) 7 else lowAt zs 100 j) (fun j _ hj => by rw [if_neg (by omega)])).right ln3 m3 rfl (by simp) (Nat.zero_le _)); have S3 := Lib.hid s3; have l3 := T3.out.1; clear s3 q3 ln3 m3 tok2)
            | (go_at_call 10; refine (set_st w _ _ 24 _ xs3 _ _ S3.out (by omega) hl.1 (by omega) (.inl (T3.out.found k (Nat.zero_le _) (by omega))) (by omega)).mono ?_; rintro e w' ⟨w4, v4, xs4, rfl, rfl, s4, q4, ln4, m4⟩; have T4 := Lib.hid (T3.out.anew (f2 := lowAt zs 100) ln4 m4 rfl (Nat.zero_le _) (by omega) rfl (fun j hj => by simp [hj])); have S4 := Lib.hid s4; clear s4 q4 ln4 m4))
          go_roundw
          case rel => exact ⟨k + 1, _, _, by omega, by go_num, by rw [HCS.out]; go_num, S4, T4⟩
          case measure => simp [intOf]; omega
        · have HCS : Hid (cnt (lowAt zs 100) now (k + 1) = cnt (lowAt zs 100) now k) := hcs.trans (if_neg hle)
          have hb : decide (lowI (gi zs k) 100 ≤ now) = false := by simp; omega
          clear hcs hle
          have tok1 : True := trivial
          have tok2 : True := trivial
          go_wp2_with (first
            | (go_at_call 11; have _t := tok1; refine (low_any _ 100 _ (by omega) (by omega)).mono ?_; rintro e w' ⟨rfl, rfl⟩; clear tok1)
            | (go_at_call 11; refine (low_any _ 7 _ (by omega) (by omega)).mono ?_; rintro e w' ⟨rfl, rfl⟩)
            | (go_at_call 10; have _t := tok2; refine (set_st w _ _ 24 _ xs _ _ H1.out (by omega) hl7.1 (by omega) (.inr (by omega)) (by omega)).mono ?_; rintro e w' ⟨w3, v3, xs3, rfl, rfl, s3, q3, ln3, m3⟩; have T3 := Lib.hid ((M1.out.congr_ (f2 := fun j => if j = k then lowI (lowI (gi zs k) 100) 7 else lowAt zs 100 j) (fun j _ hj => by rw [if_neg (by omega)])).right ln3 m3 rfl (by simp) (Nat.zero_le _)); have S3 := Lib.hid s3; have l3 := T3.out.1; clear s3 q3 ln3 m3 tok2)
            | (go_at_call 10; refine (set_st w _ _ 24 _ xs3 _ _ S3.out (by omega) hl.1 (by omega) (.inl (T3.out.found k (Nat.zero_le _) (by omega))) (by omega)).mono ?_; rintro e w' ⟨w4, v4, xs4, rfl, rfl, s4, q4, ln4, m4⟩; have T4 := Lib.hid (T3.out.anew (f2 := lowAt zs 100) ln4 m4 rfl (Nat.zero_le _) (by omega) rfl (fun j hj => by simp [hj])); have S4 := Lib.hid s4; clear s4 q4 ln4 m4))
          go_roundw
          case rel => exact ⟨k + 1, _, _, by omega, by go_num, by rw [HCS.out], S4, T4⟩
          case measure => simp [intOf]; omega
      · obtain rfl : k = n := by omega
        have l1 := M1.out.1
        have hd1 := due_cnt now M1.out H1.out.good
        have hp := due_prefix xs now (now + more) H1.out.good (by omega)
        have HP2 := Lib.hid hp.2
        have hpl := hp.1
        rw [hd1] at hpl
        have HD1 := Lib.hid hd1
        generalize hcn : cnt (lowAt zs 100) now k = c at *
        have hmx := dueOf_length xs (now + more) H1.out.good
        generalize hmm : (dueOf xs (now + more)).length = m at *
        have HM := Lib.hid hmm
        have b1 : decide ((m : Int) < (c : Int)) = false := by simp; omega
        have b2 : ¬ m < c := by omega
        have L1 : Hid (xs.length = k) := by unfold Hid; omega
        have hmx2 : m ≤ 24 := by omega
        have HX := Lib.hid (And.intro hmx2 hpl)
        obtain ⟨n1, n2⟩ := hnow
        obtain ⟨n3, n4⟩ := hlat
        clear hd1 hp hmx hmx2 hcn l1 hcl hlt hk hmm
        have tok1 : True := trivial
        go_wp2_with (first
          | (go_at_call 13; have _t := tok1; refine (due_st w _ _ 24 _ xs now H1.out).mono ?_; rintro e w' ⟨w7, A7, c7, rfl, rfl, s7, i7, b7, _⟩; have S7 := Lib.hid s7; rw [HD1.out] at i7; have I7 := Lib.hid i7; rw [HD1.out]; clear s7 i7 b7 tok1)
          | (go_at_call 11; refine (low_any _ 50 _ (by omega) (by omega)).mono ?_; rintro e w' ⟨rfl, rfl⟩; rw [HLT.out])
          | (go_at_call 13; refine (due_st w _ _ 24 _ xs (now + more) S7.out).mono ?_; rintro e w' ⟨w8, A8, c8, rfl, rfl, s8, i8, b8, _⟩; have S8 := Lib.hid s8; rw [HM.out] at i8; have I8 := Lib.hid i8; rw [HM.out]; have I78 := Lib.hid (I7.out.below b8); clear s8 i8 b8)
          | (go_at_call 14; refine (len_st w _ _ 24 _ xs S8.out).mono ?_; rintro e w' ⟨rfl, rfl⟩; rw [L1.out]))
        go_loopw [14, 15, 16, 17, 18] (fun i0 a0 a1 a2 a3 wr => ∃ (i : Nat), i ≤ c ∧ i0 = .int .i64 i ∧ Hid (St w wr w.heap.size 24 v1 xs) ∧ Hid (IReads wr A7 c (dueOf xs now)) ∧ Hid (IReads wr A8 m (dueOf xs (now + more)))) (fun i0 _ _ _ _ _ => c - (intOf i0).toNat)
        case atStart => exact ⟨0, by omega, rfl, S8, I78, I8⟩
        case round =>
          obtain ⟨i, hi, rfl, K1, J7, J8⟩ := hrel
          have hc24 : c ≤ 24 := by have := HX.out; omega
          by_cases hlt2 : i < c
          · have hdl : i < (dueOf xs now).length := by rw [HD1.out]; exact hlt2
            obtain ⟨ad7, hA7, hc7⟩ := J7.out.at_ i hlt2
            obtain ⟨ad8, hA8, hc8⟩ := J8.out.at_ i (by have := HX.out; omega)
            have e1 := due_gi xs now K1.out.good i hdl
            have e2 := due_at xs now K1.out.good i hdl
            have e3 := (due_in xs now K1.out.good i hdl).2
            have e4 := HP2.out i hdl
            rw [e1] at hc7 e2 e4
            rw [e4] at hc8
            clear e1 e4
            have hord := fun j (h : i = j + 1) => due_ord xs now K1.out.good j (by rw [← h]; exact hdl)
            have hm1 : ∀ j, i = j + 1 → wr.cell? (ad7.add j) = some (.int .i64 (gp (dueP xs now) j).2) := fun j h => by
              obtain ⟨ad, q, hcj⟩ := J7.out.at_ j (by omega)
              rw [hA7] at q
              injection q with q
              subst q
              rw [due_gi xs now K1.out.good j (by rw [HD1.out]; omega)] at hcj
              exact hcj
            have hat1 : ∀ j, i = j + 1 → atI xs (gp (dueP xs now) j).2 = (gp (dueP xs now) j).1 := fun j h => atI_mem xs _ _ K1.out.good (due_in xs now K1.out.good j (by rw [HD1.out]; omega)).1
            have hgq : ∀ j, i = j + 1 → gp (dueP xs now) (j + 1) = gp (dueP xs now) i := fun j h => by rw [h]
            subst hA7 hA8
            generalize hqq : gp (dueP xs now) i = q at *
            obtain ⟨qa, qd⟩ := q
            simp only at hc7 hc8 e2 e3
            have E2 := Lib.hid e2
            have b3 : decide (now < qa) = false := by simp; omega
            have C7 := Lib.hid hc7
            have C8 := Lib.hid hc8
            clear e2 hqq hdl e3 hc8
            rcases Nat.eq_zero_or_pos i with h0 | h0
            · have b0 : decide ((0 : Int) < (i : Int)) = false := by simp; omega
              have b7 : ¬ 0 < i := by omega
              clear hord hm1 hat1 hgq h0
              go_wp2_with (first
                | (go_at_call 15; refine (at_st w _ _ 24 _ xs _ K1.out).mono ?_; rintro e w' ⟨w9, rfl, rfl, s9, b9⟩; rw [E2.out]; have k7 := (b9.cell (World.block_lt_of_cell? _ _ C7.out)).trans C7.out; have k8 := (b9.cell (World.block_lt_of_cell? _ _ C8.out)).trans C8.out; have K9 := Lib.hid s9; have J79 := Lib.hid (J7.out.below b9); have J89 := Lib.hid (J8.out.below b9); clear s9 b9))
              go_quiet (fail)
              go_wp2
              go_roundw
              case rel => exact ⟨i + 1, by omega, by go_num, K9.out.drewN _, J79.out.drewN _, J89.out.drewN _⟩
              case measure => simp [intOf]; omega
            · obtain ⟨j, hij⟩ : ∃ j, i = j + 1 := ⟨i - 1, by omega⟩
              have hor := hord j hij
              have hcj := hm1 j hij
              have haj := hat1 j hij
              rw [hgq j hij] at hor
              have b0 : decide ((0 : Int) < (i : Int)) = true := by simp; omega
              have hsub : (i : Int) - 1 = (j : Int) := by omega
              have hjc : j < c := by omega
              clear hord hm1 hat1 hgq hij
              generalize gp (dueP xs now) j = q0 at *
              obtain ⟨pa, pd⟩ := q0
              simp only at hor hcj haj
              have E3 := Lib.hid haj
              have CJ := Lib.hid hcj
              have b4 : decide (qa < pa) = false := by simp; omega
              clear haj hcj
              have tok1 : True := trivial
              rcases hor with hor | ⟨hor1, hor2⟩
              · have b5 : (pa == qa) = false := by simp; omega
                clear hor
                go_wp2_with (first
                  | (go_at_call 15; have _t := tok1; refine (at_st w _ _ 24 _ xs _ K1.out).mono ?_; rintro e w' ⟨w9, rfl, rfl, s9, b9⟩; rw [E2.out]; have k7 := (b9.cell (World.block_lt_of_cell? _ _ C7.out)).trans C7.out; have k8 := (b9.cell (World.block_lt_of_cell? _ _ C8.out)).trans C8.out; have kj := (b9.cell (World.block_lt_of_cell? _ _ CJ.out)).trans CJ.out; have K9 := Lib.hid s9; have J79 := Lib.hid (J7.out.below b9); have J89 := Lib.hid (J8.out.below b9); clear s9 b9 tok1))
                go_quiet (fail)
                go_wp2_with (first
                  | (go_at_call 15; refine (at_st w _ _ 24 _ xs _ (K9.out.drewN _)).mono ?_; rintro e w' ⟨wa, rfl, rfl, sa, ba⟩; rw [E3.out]; have d7 := (ba.cell (World.block_lt_of_cell? _ _ k7)).trans k7; have dj := (ba.cell (World.block_lt_of_cell? _ _ kj)).trans kj; have KA := Lib.hid sa; have J7A := Lib.hid (IReads.below (J79.out.drewN _) ba); have J8A := Lib.hid (IReads.below (J89.out.drewN _) ba); clear sa ba k7 k8 kj))
                go_quiet (fail)
                go_wp2
                go_roundw
                case rel => exact ⟨i + 1, by omega, by go_num, KA.out.drewN _, J7A.out.drewN _, J8A.out.drewN _⟩
                case measure => simp [intOf]; omega
              · have b5 : (pa == qa) = true := by simp [hor1]
                have b6 : decide (qd ≤ pd) = false := by simp; omega
                clear hor1 hor2
                go_wp2_with (first
                  | (go_at_call 15; have _t := tok1; refine (at_st w _ _ 24 _ xs _ K1.out).mono ?_; rintro e w' ⟨w9, rfl, rfl, s9, b9⟩; rw [E2.out]; have k7 := (b9.cell (World.block_lt_of_cell? _ _ C7.out)).trans C7.out; have k8 := (b9.cell (World.block_lt_of_cell? _ _ C8.out)).trans C8.out; have kj := (b9.cell (World.block_lt_of_cell? _ _ CJ.out)).trans CJ.out; have K9 := Lib.hid s9; have J79 := Lib.hid (J7.out.below b9); have J89 := Lib.hid (J8.out.below b9); clear s9 b9 tok1))
                go_quiet (fail)
                go_wp2_with (first
                  | (go_at_call 15; refine (at_st w _ _ 24 _ xs _ (K9.out.drewN _)).mono ?_; rintro e w' ⟨wa, rfl, rfl, sa, ba⟩; rw [E3.out]; have d7 := (ba.cell (World.block_lt_of_cell? _ _ k7)).trans k7; have dj := (ba.cell (World.block_lt_of_cell? _ _ kj)).trans kj; have KA := Lib.hid sa; have J7A := Lib.hid (IReads.below (J79.out.drewN _) ba); have J8A := Lib.hid (IReads.below (J89.out.drewN _) ba); clear sa ba k7 k8 kj))
                go_quiet (fail)
                go_wp2
                go_roundw
                case rel => exact ⟨i + 1, by omega, by go_num, KA.out.drewN _, J7A.out.drewN _, J8A.out.drewN _⟩
                case measure => simp [intOf]; omega
          · obtain rfl : i = c := by omega
            go_wp2_with (go_at_call 8; refine (awake_any _).mono ?_; rintro e w' ⟨w10, rfl, rfl, b10⟩)
            go_ret
            exact ⟨rfl, (K1.out.below b10).bel⟩
end Go.Proofs.Ytkjjdbbogfjdlaa
