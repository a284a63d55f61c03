/-
  inkhornref1's Runes, Len, Word, Asked.
-/
import Derived.Test.YtajhkjikcgfhdaaUtfRef3
namespace Go.Proofs.Ytajhkjikcgfhdaa
set_option linter.unusedVariables false
set_option linter.unusedSimpArgs false
set_option maxRecDepth 20000
open Go.RowKit
theorem info_i32 : (Try.prog.info? 21).map (fun i => (i.zero, i.size, i.bytes)) = some (some (.int .i32 0), 1, 4) := by kernel_rfl
theorem badB_of {r n : Int} (h : n = 0 ∨ goodB r = false ∨ (n = 3 ∧ r < 2048) ∨ (n = 4 ∧ r < 65536)) : badB r n = true := decide_eq_true h
theorem badB_no {r n : Int} (h0 : n ≠ 0) (h1 : goodB r = true) (h3 : n = 3 → ¬ r < 2048) (h4 : n = 4 → ¬ r < 65536) : badB r n = false := by
  apply decide_eq_false
  rintro (h | h | h | h)
  · exact h0 h
  · rw [h1] at h; cases h
  · exact h3 h.1 h.2
  · exact h4 h.1 h.2
theorem own_slice {w : World} {base n : Nat} {e : TypeId} {size : Nat} {v : Value} {xs : List Value} (h : w.ownsRow base e size v n xs) : ∃ A c, v = .slice A n c := by
  rcases h.2 with ⟨rfl, rfl, _⟩ | ⟨g, cap, cur, rfl, _⟩
  · exact ⟨_, _, rfl⟩
  · exact ⟨_, _, rfl⟩
set_option maxHeartbeats 4000000 in
theorem runes_any (s : ByteArray) (w : World) (hs : s.size ≤ 1000000) :
    Calls Try.prog 93 #[.string s] w fun e w' => ∃ A m c ok W, e = .returned (.tuple #[.slice A m c, .bool ok]) ∧ ok = decide (0 ≤ lenI s) ∧ (0 ≤ lenI s → (m : Int) = lenI s) ∧ W = w' ∧ Below w.heap.size w W := by
  obtain ⟨i0, hi, hz0, hz1, hz2⟩ := info_parts info_i32
  have I := Lib.hid (And.intro hi (And.intro hz0 (And.intro hz1 hz2)))
  clear hi hz0 hz1 hz2
  go_enter Try.func93, Try.ntmps93
  go_wp2
  go_loopw [4, 5] (fun v p wr => ∃ (pos b k : Nat) (xs : List Value), Hid (lenFrom s b pos k = lenI s) ∧ s.size ≤ pos + b ∧ k ≤ pos ∧ p = .int .i64 pos ∧ Hid (wr.ownsRow w.heap.size 21 1 v k xs) ∧ Hid (Below w.heap.size w wr)) (fun _ p _ => s.size - (intOf p).toNat)
  case atStart => exact ⟨0, s.size, 0, [], rfl, by omega, by omega, rfl, World.ownsRow_nil _ _ _ _, Below.refl _ _⟩
  case round =>
    obtain ⟨pos, b, k, xs, HC, hb, hk, rfl, HO, HB⟩ := hrel
    by_cases hp : pos < s.size
    · obtain ⟨r, hr⟩ : ∃ r, (oneAt s pos).1 = r := ⟨_, rfl⟩
      obtain ⟨n, hn⟩ : ∃ n, (oneAt s pos).2 = n := ⟨_, rfl⟩
      have O1 : Hid (∀ w : World, Calls Try.prog 96 #[.string s, .int .i64 pos] w fun e w' => e = .returned (.tuple #[.int .i32 r, .int .i64 n]) ∧ w = w') := fun w => by
        have := one_any s pos w hp (by omega)
        rwa [hr, hn] at this
      have hnn := oneI_n (bI s pos) (moreR s (pos + 1)) (moreR s (pos + 2)) (moreR s (pos + 3)) (moreB s (pos + 1)) (moreB s (pos + 2)) (moreB s (pos + 3))
      have hnn' : n = 0 ∨ n = 1 ∨ n = 2 ∨ n = 3 ∨ n = 4 := by rw [← hn]; exact hnn
      have hdec := one_decode s pos hp
      rw [hr, hn] at hdec
      have HD := Lib.hid hdec
      obtain ⟨g, hg⟩ : ∃ g, goodB r = g := ⟨_, rfl⟩
      have HG := Lib.hid hg
      clear hr hn hnn hdec hg
      have BAD : Hid (badB r n = true → lenI s = -1) := fun h => by
        have := HC.out
        rw [lenFrom_bad s b pos _ hp (by omega) (HD.out.1 h)] at this
        exact this.symm
      have GOOD : Hid (badB r n = false → ∃ b', lenFrom s b' (pos + n.toNat) ((k + 1 : Nat) : Int) = lenI s ∧ s.size ≤ pos + n.toNat + b') := fun h => by
        obtain ⟨d1, d2, d3⟩ := HD.out.2 h
        have hw := Lib.decode_width_pos s pos hp
        have d4 : (Utf8.decode s pos).2 = n.toNat := by omega
        cases b with
        | zero => omega
        | succ b' =>
          have := HC.out
          rw [lenFrom_good s b' pos _ hp d1, d4] at this
          exact ⟨b', by rw [← this]; rfl, by omega⟩
      clear HD HC
      have HG2 : Hid (∀ w : World, Calls Try.prog 97 #[.int .i32 r] w fun e w' => e = .returned (.bool g) ∧ w = w') := fun w => by
        have := good_any r w
        rwa [HG.out] at this
      rcases hnn' with rfl | rfl | rfl | rfl | rfl
      · have HL := Lib.hid (BAD.out (badB_of (.inl rfl)))
        clear BAD GOOD
        go_wp2_with (first
          | (go_at_call 96; (with_reducible refine (O1.out _).mono ?_); rintro e w' ⟨rfl, rfl⟩)
          | (go_at_call 97; (with_reducible refine (HG2.out _).mono ?_); rintro e w' ⟨rfl, rfl⟩))
        go_ret2
        exact ⟨_, _, _, _, _, rfl, by rw [HL.out]; rfl, by rw [HL.out]; intro h; omega, rfl, HB⟩
      · cases g with
        | false =>
          have HL := Lib.hid (BAD.out (badB_of (.inr (.inl HG.out))))
          clear BAD GOOD
          go_wp2_with (first
            | (go_at_call 96; (with_reducible refine (O1.out _).mono ?_); rintro e w' ⟨rfl, rfl⟩)
            | (go_at_call 97; (with_reducible refine (HG2.out _).mono ?_); rintro e w' ⟨rfl, rfl⟩))
          go_ret2
          exact ⟨_, _, _, _, _, rfl, by rw [HL.out]; rfl, by rw [HL.out]; intro h; omega, rfl, HB⟩
        | true =>
          have HL := Lib.hid (GOOD.out (badB_no (by decide) HG.out (fun h => absurd h (by decide)) (fun h => absurd h (by decide))))
          clear BAD GOOD
          go_wp2_with (first
            | (go_at_call 96; (with_reducible refine (O1.out _).mono ?_); rintro e w' ⟨rfl, rfl⟩)
            | (go_at_call 97; (with_reducible refine (HG2.out _).mono ?_); rintro e w' ⟨rfl, rfl⟩)
            | (at_builtin; refine wpList_append_any _ rfl (.tmp 41) (.tmp 43) _ rfl w.heap.size 21 i0 _ 1 4 Try.underlying127 I.out.1 I.out.2.1 I.out.2.2.1 I.out.2.2.2 rfl (by omega) _ k xs rfl (HO.out.alloc _) _ _ 1 1 [.int .i32 r] rfl (reads_new _ _ _) (by intro u hu; simp at hu; subst hu; rfl) (by simp only [maxLen]; omega) (by omega) (Nat.le_trans HB.out.size (by simp)) ?_; intro v2 w2 hown2 hg2 hat2))
          have hb2 : Below w.heap.size w w2 := (HB.out.alloc HB.out.size _).grown hg2 (Nat.le_trans HB.out.size (by simp)) (fun r hr => (HO.out.lt r hr).1)
          have HB2 := Lib.hid hb2
          have HO2 := Lib.hid hown2
          clear hown2 hg2 hat2 hb2
          go_wp2
          go_roundw
          case rel =>
            obtain ⟨b', e1, e2⟩ := HL.out
            exact ⟨_, b', k + 1, _, e1, e2, by omega, by go_num, HO2, HB2⟩
          case measure => simp [intOf]; omega
      · cases g with
        | false =>
          have HL := Lib.hid (BAD.out (badB_of (.inr (.inl HG.out))))
          clear BAD GOOD
          go_wp2_with (first
            | (go_at_call 96; (with_reducible refine (O1.out _).mono ?_); rintro e w' ⟨rfl, rfl⟩)
            | (go_at_call 97; (with_reducible refine (HG2.out _).mono ?_); rintro e w' ⟨rfl, rfl⟩))
          go_ret2
          exact ⟨_, _, _, _, _, rfl, by rw [HL.out]; rfl, by rw [HL.out]; intro h; omega, rfl, HB⟩
        | true =>
          have HL := Lib.hid (GOOD.out (badB_no (by decide) HG.out (fun h => absurd h (by decide)) (fun h => absurd h (by decide))))
          clear BAD GOOD
          go_wp2_with (first
            | (go_at_call 96; (with_reducible refine (O1.out _).mono ?_); rintro e w' ⟨rfl, rfl⟩)
            | (go_at_call 97; (with_reducible refine (HG2.out _).mono ?_); rintro e w' ⟨rfl, rfl⟩)
            | (at_builtin; refine wpList_append_any _ rfl (.tmp 41) (.tmp 43) _ rfl w.heap.size 21 i0 _ 1 4 Try.underlying127 I.out.1 I.out.2.1 I.out.2.2.1 I.out.2.2.2 rfl (by omega) _ k xs rfl (HO.out.alloc _) _ _ 1 1 [.int .i32 r] rfl (reads_new _ _ _) (by intro u hu; simp at hu; subst hu; rfl) (by simp only [maxLen]; omega) (by omega) (Nat.le_trans HB.out.size (by simp)) ?_; intro v2 w2 hown2 hg2 hat2))
          have hb2 : Below w.heap.size w w2 := (HB.out.alloc HB.out.size _).grown hg2 (Nat.le_trans HB.out.size (by simp)) (fun r hr => (HO.out.lt r hr).1)
          have HB2 := Lib.hid hb2
          have HO2 := Lib.hid hown2
          clear hown2 hg2 hat2 hb2
          go_wp2
          go_roundw
          case rel =>
            obtain ⟨b', e1, e2⟩ := HL.out
            exact ⟨_, b', k + 1, _, e1, e2, by omega, by go_num, HO2, HB2⟩
          case measure => simp [intOf]; omega
      · cases g with
        | false =>
          have HL := Lib.hid (BAD.out (badB_of (.inr (.inl HG.out))))
          clear BAD GOOD
          go_wp2_with (first
            | (go_at_call 96; (with_reducible refine (O1.out _).mono ?_); rintro e w' ⟨rfl, rfl⟩)
            | (go_at_call 97; (with_reducible refine (HG2.out _).mono ?_); rintro e w' ⟨rfl, rfl⟩))
          go_ret2
          exact ⟨_, _, _, _, _, rfl, by rw [HL.out]; rfl, by rw [HL.out]; intro h; omega, rfl, HB⟩
        | true =>
          by_cases h3 : r < 2048
          · have HL := Lib.hid (BAD.out (badB_of (.inr (.inr (.inl ⟨rfl, h3⟩)))))
            clear BAD GOOD
            go_wp2_with (first
              | (go_at_call 96; (with_reducible refine (O1.out _).mono ?_); rintro e w' ⟨rfl, rfl⟩)
              | (go_at_call 97; (with_reducible refine (HG2.out _).mono ?_); rintro e w' ⟨rfl, rfl⟩))
            go_ret2
            exact ⟨_, _, _, _, _, rfl, by rw [HL.out]; rfl, by rw [HL.out]; intro h; omega, rfl, HB⟩
          · have HL := Lib.hid (GOOD.out (badB_no (by decide) HG.out (fun _ => h3) (fun h => absurd h (by decide))))
            clear BAD GOOD
            go_wp2_with (first
              | (go_at_call 96; (with_reducible refine (O1.out _).mono ?_); rintro e w' ⟨rfl, rfl⟩)
              | (go_at_call 97; (with_reducible refine (HG2.out _).mono ?_); rintro e w' ⟨rfl, rfl⟩)
              | (at_builtin; refine wpList_append_any _ rfl (.tmp 41) (.tmp 43) _ rfl w.heap.size 21 i0 _ 1 4 Try.underlying127 I.out.1 I.out.2.1 I.out.2.2.1 I.out.2.2.2 rfl (by omega) _ k xs rfl (HO.out.alloc _) _ _ 1 1 [.int .i32 r] rfl (reads_new _ _ _) (by intro u hu; simp at hu; subst hu; rfl) (by simp only [maxLen]; omega) (by omega) (Nat.le_trans HB.out.size (by simp)) ?_; intro v2 w2 hown2 hg2 hat2))
            have hb2 : Below w.heap.size w w2 := (HB.out.alloc HB.out.size _).grown hg2 (Nat.le_trans HB.out.size (by simp)) (fun r hr => (HO.out.lt r hr).1)
            have HB2 := Lib.hid hb2
            have HO2 := Lib.hid hown2
            clear hown2 hg2 hat2 hb2
            go_wp2
            go_roundw
            case rel =>
              obtain ⟨b', e1, e2⟩ := HL.out
              exact ⟨_, b', k + 1, _, e1, e2, by omega, by go_num, HO2, HB2⟩
            case measure => simp [intOf]; omega
      · cases g with
        | false =>
          have HL := Lib.hid (BAD.out (badB_of (.inr (.inl HG.out))))
          clear BAD GOOD
          go_wp2_with (first
            | (go_at_call 96; (with_reducible refine (O1.out _).mono ?_); rintro e w' ⟨rfl, rfl⟩)
            | (go_at_call 97; (with_reducible refine (HG2.out _).mono ?_); rintro e w' ⟨rfl, rfl⟩))
          go_ret2
          exact ⟨_, _, _, _, _, rfl, by rw [HL.out]; rfl, by rw [HL.out]; intro h; omega, rfl, HB⟩
        | true =>
          by_cases h4 : r < 65536
          · have HL := Lib.hid (BAD.out (badB_of (.inr (.inr (.inr ⟨rfl, h4⟩)))))
            clear BAD GOOD
            go_wp2_with (first
              | (go_at_call 96; (with_reducible refine (O1.out _).mono ?_); rintro e w' ⟨rfl, rfl⟩)
              | (go_at_call 97; (with_reducible refine (HG2.out _).mono ?_); rintro e w' ⟨rfl, rfl⟩))
            go_ret2
            exact ⟨_, _, _, _, _, rfl, by rw [HL.out]; rfl, by rw [HL.out]; intro h; omega, rfl, HB⟩
          · have HL := Lib.hid (GOOD.out (badB_no (by decide) HG.out (fun h => absurd h (by decide)) (fun _ => h4)))
            clear BAD GOOD
            go_wp2_with (first
              | (go_at_call 96; (with_reducible refine (O1.out _).mono ?_); rintro e w' ⟨rfl, rfl⟩)
              | (go_at_call 97; (with_reducible refine (HG2.out _).mono ?_); rintro e w' ⟨rfl, rfl⟩)
              | (at_builtin; refine wpList_append_any _ rfl (.tmp 41) (.tmp 43) _ rfl w.heap.size 21 i0 _ 1 4 Try.underlying127 I.out.1 I.out.2.1 I.out.2.2.1 I.out.2.2.2 rfl (by omega) _ k xs rfl (HO.out.alloc _) _ _ 1 1 [.int .i32 r] rfl (reads_new _ _ _) (by intro u hu; simp at hu; subst hu; rfl) (by simp only [maxLen]; omega) (by omega) (Nat.le_trans HB.out.size (by simp)) ?_; intro v2 w2 hown2 hg2 hat2))
            have hb2 : Below w.heap.size w w2 := (HB.out.alloc HB.out.size _).grown hg2 (Nat.le_trans HB.out.size (by simp)) (fun r hr => (HO.out.lt r hr).1)
            have HB2 := Lib.hid hb2
            have HO2 := Lib.hid hown2
            clear hown2 hg2 hat2 hb2
            go_wp2
            go_roundw
            case rel =>
              obtain ⟨b', e1, e2⟩ := HL.out
              exact ⟨_, b', k + 1, _, e1, e2, by omega, by go_num, HO2, HB2⟩
            case measure => simp [intOf]; omega
    · have HL : Hid (lenI s = k) := by
        have := HC.out
        rw [lenFrom_end s b pos _ hp] at this
        exact this.symm
      obtain ⟨A, c, hv⟩ := own_slice HO.out
      subst hv
      go_wp2
      go_ret2
      exact ⟨_, _, _, _, _, rfl, by rw [HL.out]; simp, fun _ => HL.out.symm, rfl, HB⟩
end Go.Proofs.Ytajhkjikcgfhdaa
