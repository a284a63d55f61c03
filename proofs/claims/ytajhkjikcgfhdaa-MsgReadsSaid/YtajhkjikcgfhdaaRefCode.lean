/-
  The walks of inkhornref3.Put and PutText, inkhornlaw3.awake, inkhornlaw0.OverBytes.
-/
import Derived.Test.YtajhkjikcgfhdaaText
import Derived.Test.YtajhkjikcgfhdaaLend
import Derived.Lib.SlBytesConst
import Derived.Lib.ConvBytes
namespace Go.Proofs.Ytajhkjikcgfhdaa
set_option linter.unusedVariables false
set_option linter.unusedSimpArgs false
set_option maxRecDepth 20000
open Go.RowKit
theorem putI_next (x : Int) (q m : Nat) (h : m < q) : (putI x q).take (q - m) = (putI x q).take (q - (m + 1)) ++ [byteI x m] := by
  have := putI_take x q (q - (m + 1)) (by omega)
  rw [show q - (m + 1) + 1 = q - m by omega, show q - 1 - (q - (m + 1)) = m by omega] at this
  exact this
set_option maxHeartbeats 1000000 in
theorem refput_any (A : Option Addr) (n cp : Nat) (zs : List Int) (x s : Int) (w : World) (h : BReads w A n zs) (hn : n ≤ 1000000) :
    Calls Try.prog 42 #[.slice A n cp, .int .i64 x, .int .i64 s] w fun e w' => ∃ v W, e = .returned v ∧ W = w' ∧ W.ownsRow w.heap.size 5 1 v (n + sizeI s) (bvals (zs ++ putI x (sizeI s))) ∧ Below w.heap.size w W := by
  obtain ⟨i0, hi, hz0, hz1, hz2⟩ := info_parts info_u8
  obtain ⟨m, hm⟩ : ∃ m : Int, m = if s < 0 then 0 else s := ⟨_, rfl⟩
  obtain ⟨q, hqe⟩ : ∃ q : Nat, q = sizeI s := ⟨_, rfl⟩
  have hq : (q : Int) = if 8 < m then 8 else m := by
    rw [hqe, hm, sizeI]
    split
    · rfl
    · split <;> omega
  have h1 : Builtin.max_ #[3, 3] 3 #[.int .i64 s, .int .i64 0] = pure (.int .i64 m) := by
    simp only [Builtin.max_, List.foldlM_cons, List.foldlM_nil, Builtin.max2, hm, gt_iff_lt]; rfl
  have h2 : Builtin.min_ #[3, 3] 3 #[.int .i64 m, .int .i64 8] = pure (.int .i64 q) := by
    simp only [Builtin.min_, List.foldlM_cons, List.foldlM_nil, Builtin.min2, hq, gt_iff_lt]; rfl
  have H := Lib.hid h
  have I := Lib.hid (And.intro hi (And.intro hz0 (And.intro hz1 hz2)))
  have hq8 : q ≤ 8 := by split at hq <;> omega
  rw [← hqe]
  clear h hm hq hi hz0 hz1 hz2 hqe
  go_enter Try.func42, Try.ntmps42
  go_wp2_with (at_builtin; refine wpList_append_any _ rfl (.const (.slice none 0 0)) (.tmp 10) _ rfl w.heap.size 5 i0 _ 1 1 Try.underlying39 I.out.1 I.out.2.1 I.out.2.2.1 I.out.2.2.2 rfl (by omega) (.slice none 0 0) 0 [] rfl (World.ownsRow_nil _ _ _ _) w.heap.size A n cp (bvals zs) rfl H.out.reads (bvals_one _) (by simp only [maxLen]; omega) (by omega) (Nat.le_refl _) ?_; intro v1 w1 hown1 hg1 hat1)
  have hb1 : Below w.heap.size w w1 := (Below.refl _ _).grown hg1 (Nat.le_refl _) (by simp [Value.ownBlock])
  simp only [Nat.zero_add, List.nil_append] at hown1
  clear h1 h2 hg1 hat1
  go_loopw [7, 9] (fun v i wr => ∃ m : Nat, m ≤ q ∧ i = .int .i64 ((m : Int) - 1) ∧ Hid (wr.ownsRow w.heap.size 5 1 v (n + (q - m)) (bvals (zs ++ (putI x q).take (q - m)))) ∧ Hid (Below w.heap.size w wr)) (fun _ i _ => (intOf i + 1).toNat)
  case atStart => exact ⟨q, by omega, rfl, (by rw [Nat.sub_self, List.take_zero, List.append_nil]; exact hown1), hb1⟩
  case round =>
    clear hown1 hb1
    obtain ⟨m, hm, rfl, HO, HB⟩ := hrel
    cases m with
    | zero =>
      have HO2 : Hid (wr.ownsRow w.heap.size 5 1 u7 (n + q) (bvals (zs ++ putI x q))) := by
        have := HO.out
        rwa [Nat.sub_zero, List.take_of_length_le (by rw [putI_length]; omega)] at this
      clear HO
      go_wp2
      go_ret
      exact ⟨_, _, rfl, rfl, HO2, HB⟩
    | succ m =>
      rw [show ((m + 1 : Nat) : Int) - 1 = (m : Int) by omega]
      go_wp2_with (at_builtin; refine wpList_append_any _ rfl (.tmp 22) (.tmp 28) _ rfl w.heap.size 5 i0 _ 1 1 Try.underlying39 I.out.1 I.out.2.1 I.out.2.2.1 I.out.2.2.2 rfl (by omega) _ (n + (q - (m + 1))) (bvals (zs ++ (putI x q).take (q - (m + 1)))) rfl (HO.out.alloc _) _ _ 1 1 [.int .u8 (byteI x m)] rfl (reads_new _ _ _) (bvals_one [_]) (by simp only [maxLen]; omega) (by omega) (Nat.le_trans HB.out.size (by simp)) ?_; intro v2 w2 hown2 hg2 hat2)
      have hb2 : Below w.heap.size w w2 := (HB.out.alloc HB.out.size _).grown hg2 (Nat.le_trans HB.out.size (by simp)) (fun r hr => (HO.out.lt r hr).1)
      have HO2 : Hid (w2.ownsRow w.heap.size 5 1 v2 (n + (q - m)) (bvals (zs ++ (putI x q).take (q - m)))) := by
        rw [putI_next x q m (by omega), ← List.append_assoc, bvals_append]
        rw [show n + (q - (m + 1)) + 1 = n + (q - m) by omega] at hown2
        exact hown2
      clear hown2 hg2 hat2
      have HB2 := Lib.hid hb2
      clear hb2
      go_wp2
      go_roundw
      case rel => exact ⟨m, by omega, by go_num, HO2, HB2⟩
      case measure => simp [intOf]
theorem bytesWorld_below (w : World) (e : TypeId) (s : ByteArray) : Below w.heap.size w (Lib.bytesWorld w e s) :=
  ⟨rfl, rfl, rfl, by rw [Lib.bytesWorld_size]; omega, fun i hi => Lib.bytesWorld_at_old w e s i hi⟩
theorem bytesWorld_reads (w : World) (e : TypeId) (s : ByteArray) : Reads (Lib.bytesWorld w e s) (w.heap.size + 1) 1 (some ⟨w.heap.size, 0, none⟩) s.size (bvals (strB s)) := by
  refine ⟨by rw [bvals_length, strB_length, Nat.mul_one], fun _ => ⟨_, rfl, by simp, fun j u hu => ?_⟩⟩
  have hj : j < s.size := by
    have := (List.getElem?_eq_some_iff.1 hu).1
    rwa [bvals_length, strB_length] at this
  rw [add_zero, Lib.bytesWorld_cell w e s j hj, ← hu, bvals_get _ _ (by rw [strB_length]; exact hj)]
  have h' : j < s.data.toList.length := by rw [Array.length_toList]; exact hj
  simp only [gi, strB, List.getD_eq_getElem?_getD, List.getElem?_map, List.getElem?_eq_getElem h', Option.map_some, Option.getD_some]
theorem bytesWorld_reads' (w : World) (e : TypeId) (s : ByteArray) (m : Nat) (h : s.size = m) : Reads (Lib.bytesWorld w e s) (w.heap.size + 1) 1 (some ⟨w.heap.size, 0, none⟩) m (bvals (strB s)) := by
  subst h
  exact bytesWorld_reads w e s
theorem own_below {w w1 : World} {base : Nat} {e : TypeId} {size n : Nat} {v : Value} {xs : List Value} (h : w.ownsRow base e size v n xs) (hb : Below w.heap.size w w1) : w1.ownsRow base e size v n xs :=
  h.kept (only_of_below hb none) (by cases v.ownBlock <;> simp)
set_option maxHeartbeats 1000000 in
theorem refputText_any (A : Option Addr) (n cp : Nat) (zs : List Int) (s : ByteArray) (w : World) (h : BReads w A n zs) (hn : n ≤ 1000000) (hs : s.size ≤ 9223372036854775807) :
    Calls Try.prog 80 #[.slice A n cp, .string s] w fun e w' => ∃ v W, e = .returned v ∧ W = w' ∧ W.ownsRow w.heap.size 5 1 v (n + (2 + cutI s)) (bvals (zs ++ putTextI s)) ∧ Below w.heap.size w W := by
  obtain ⟨i0, hi, hz0, hz1, hz2⟩ := info_parts info_u8
  obtain ⟨c0, c1⟩ := cutI_le s
  have H := Lib.hid h
  have I := Lib.hid (And.intro hi (And.intro hz0 (And.intro hz1 hz2)))
  have kb := fun (W : World) (s : ByteArray) => Lib.run_convert_string_bytes (P := Try.prog) W 9 39 5 s Try.underlying9 Try.underlying39 Try.underlying5
  have hext : s.extract 0 s.size = s := by
    exact ByteArray.extract_zero_size
  have h2 : sizeI 2 = 2 := rfl
  have H2 := Lib.hid h2
  clear h hi hz0 hz1 hz2 h2
  by_cases hb : 65535 < s.size
  · obtain ⟨c, hc⟩ : ∃ c, c = cutI s := ⟨_, rfl⟩
    have hc5 : c = 65535 := hc.trans (if_pos hb)
    have HT : Hid ((s.extract 0 65535).size = c) := by rw [hc5]; exact extract_size0 s 65535 (by omega)
    have HP : Hid (putTextI s = putI c 2 ++ strB (s.extract 0 65535)) := by unfold putTextI Hid; rw [← hc, hc5]
    rw [HP.out, ← hc]
    have hl1 : n + sizeI 2 + c ≤ maxLen := by have k := H2.out; unfold maxLen; omega
    have hl2 : (n + sizeI 2 + c) * 1 ≤ 140737488355328 := by have k := H2.out; omega
    have HL := Lib.hid (And.intro hl1 hl2)
    have hmin : min 65535 s.size = c := by omega
    clear hc hc5 hext hl1 hl2 c0 c1
    go_enter Try.func80, Try.ntmps80
    go_wp2_with (first
      | (go_at_call 42; (with_reducible refine (refput_any _ _ _ _ _ _ _ H.out hn).mono ?_); rintro e w' ⟨v1, w1, rfl, rfl, hown1, hb1⟩)
      | (at_builtin; refine wpList_append_any _ rfl (.tmp 13) (.tmp 15) _ rfl w.heap.size 5 i0 _ 1 1 Try.underlying39 I.out.1 I.out.2.1 I.out.2.2.1 I.out.2.2.2 rfl (by omega) v1 (n + sizeI 2) _ rfl (own_below hown1 (bytesWorld_below _ _ _)) _ _ _ _ _ rfl (bytesWorld_reads' _ _ (s.extract 0 65535) _ HT.out) (bvals_one _) HL.out.1 HL.out.2 (Nat.le_trans hb1.size (bytesWorld_below _ _ _).size) ?_; intro v2 w2 hown2 hg2 hat2))
    go_ret
    refine ⟨_, _, rfl, rfl, ?_, (hb1.trans ((bytesWorld_below _ _ _).mono hb1.size)).grown hg2 (Nat.le_trans hb1.size (bytesWorld_below _ _ _).size) (fun k hk => (hown1.lt k hk).1)⟩
    rw [H2.out, ← bvals_append, List.append_assoc, Nat.add_assoc] at hown2
    exact hown2
  · have hc : cutI s = s.size := if_neg hb
    have HP : Hid (putTextI s = putI s.size 2 ++ strB s) := by unfold putTextI Hid; rw [hc, hext]
    rw [HP.out, hc]
    have hl1 : n + sizeI 2 + s.size ≤ maxLen := by rw [H2.out]; simp only [maxLen]; omega
    have hl2 : (n + sizeI 2 + s.size) * 1 ≤ 140737488355328 := by rw [H2.out]; omega
    have HL := Lib.hid (And.intro hl1 hl2)
    clear hc hext hl1 hl2
    go_enter Try.func80, Try.ntmps80
    go_wp2_with (first
      | (go_at_call 42; (with_reducible refine (refput_any _ _ _ _ _ _ _ H.out hn).mono ?_); rintro e w' ⟨v1, w1, rfl, rfl, hown1, hb1⟩)
      | (at_builtin; refine wpList_append_any _ rfl (.tmp 13) (.tmp 15) _ rfl w.heap.size 5 i0 _ 1 1 Try.underlying39 I.out.1 I.out.2.1 I.out.2.2.1 I.out.2.2.2 rfl (by omega) v1 (n + sizeI 2) _ rfl (own_below hown1 (bytesWorld_below _ _ _)) _ _ _ _ _ rfl (bytesWorld_reads _ _ s) (bvals_one _) HL.out.1 HL.out.2 (Nat.le_trans hb1.size (bytesWorld_below _ _ _).size) ?_; intro v2 w2 hown2 hg2 hat2))
    go_ret
    refine ⟨_, _, rfl, rfl, ?_, (hb1.trans ((bytesWorld_below _ _ _).mono hb1.size)).grown hg2 (Nat.le_trans hb1.size (bytesWorld_below _ _ _).size) (fun k hk => (hown1.lt k hk).1)⟩
    rw [H2.out, ← bvals_append, List.append_assoc, Nat.add_assoc] at hown2
    exact hown2
theorem put_sl (A : Option Addr) (n cp : Nat) (zs : List Int) (x s : Int) (w : World) (h : BReads w A n zs) (hn : n ≤ 1000000) :
    Calls Try.prog 39 #[.slice A n cp, .int .i64 x, .int .i64 s] w fun e w' => ∃ A2 c2 W, e = .returned (.slice A2 (n + sizeI s) c2) ∧ W = w' ∧ W.ownsRow w.heap.size 5 1 (.slice A2 (n + sizeI s) c2) (n + sizeI s) (bvals (zs ++ putI x (sizeI s))) ∧ BReads W A2 (n + sizeI s) (zs ++ putI x (sizeI s)) ∧ n + sizeI s ≤ c2 ∧ Below w.heap.size w W := by
  refine (put_any A n cp zs x s w h hn).mono fun e w' ⟨v, W, he, hw, ho, hb⟩ => ?_
  obtain ⟨A2, c2, rfl, hc, hr⟩ := own_breads ho (fun z hz => by
    rcases List.mem_append.1 hz with k | k
    · exact h.range z k
    · exact putI_range _ _ z k)
  exact ⟨A2, c2, W, he, hw, ho, hr, hc, hb⟩
theorem refput_sl (A : Option Addr) (n cp : Nat) (zs : List Int) (x s : Int) (w : World) (h : BReads w A n zs) (hn : n ≤ 1000000) :
    Calls Try.prog 42 #[.slice A n cp, .int .i64 x, .int .i64 s] w fun e w' => ∃ A2 c2 W, e = .returned (.slice A2 (n + sizeI s) c2) ∧ W = w' ∧ W.ownsRow w.heap.size 5 1 (.slice A2 (n + sizeI s) c2) (n + sizeI s) (bvals (zs ++ putI x (sizeI s))) ∧ BReads W A2 (n + sizeI s) (zs ++ putI x (sizeI s)) ∧ n + sizeI s ≤ c2 ∧ Below w.heap.size w W := by
  refine (refput_any A n cp zs x s w h hn).mono fun e w' ⟨v, W, he, hw, ho, hb⟩ => ?_
  obtain ⟨A2, c2, rfl, hc, hr⟩ := own_breads ho (fun z hz => by
    rcases List.mem_append.1 hz with k | k
    · exact h.range z k
    · exact putI_range _ _ z k)
  exact ⟨A2, c2, W, he, hw, ho, hr, hc, hb⟩
theorem putText_sl (A : Option Addr) (n cp : Nat) (zs : List Int) (s : ByteArray) (w : World) (h : BReads w A n zs) (hn : n ≤ 1000000) (hs : s.size ≤ 9223372036854775807) :
    Calls Try.prog 35 #[.slice A n cp, .string s] w fun e w' => ∃ A2 c2 W, e = .returned (.slice A2 (n + (2 + cutI s)) c2) ∧ W = w' ∧ W.ownsRow w.heap.size 5 1 (.slice A2 (n + (2 + cutI s)) c2) (n + (2 + cutI s)) (bvals (zs ++ putTextI s)) ∧ BReads W A2 (n + (2 + cutI s)) (zs ++ putTextI s) ∧ n + (2 + cutI s) ≤ c2 ∧ Below w.heap.size w W := by
  refine (putText_any A n cp zs s w h hn hs).mono fun e w' ⟨v, W, he, hw, ho, hb⟩ => ?_
  obtain ⟨A2, c2, rfl, hc, hr⟩ := own_breads ho (fun z hz => by
    rcases List.mem_append.1 hz with k | k
    · exact h.range z k
    · exact putTextI_range _ z k)
  exact ⟨A2, c2, W, he, hw, ho, hr, hc, hb⟩
theorem refputText_sl (A : Option Addr) (n cp : Nat) (zs : List Int) (s : ByteArray) (w : World) (h : BReads w A n zs) (hn : n ≤ 1000000) (hs : s.size ≤ 9223372036854775807) :
    Calls Try.prog 80 #[.slice A n cp, .string s] w fun e w' => ∃ A2 c2 W, e = .returned (.slice A2 (n + (2 + cutI s)) c2) ∧ W = w' ∧ W.ownsRow w.heap.size 5 1 (.slice A2 (n + (2 + cutI s)) c2) (n + (2 + cutI s)) (bvals (zs ++ putTextI s)) ∧ BReads W A2 (n + (2 + cutI s)) (zs ++ putTextI s) ∧ n + (2 + cutI s) ≤ c2 ∧ Below w.heap.size w W := by
  refine (refputText_any A n cp zs s w h hn hs).mono fun e w' ⟨v, W, he, hw, ho, hb⟩ => ?_
  obtain ⟨A2, c2, rfl, hc, hr⟩ := own_breads ho (fun z hz => by
    rcases List.mem_append.1 hz with k | k
    · exact h.range z k
    · exact putTextI_range _ z k)
  exact ⟨A2, c2, W, he, hw, ho, hr, hc, hb⟩
theorem own_cap {w : World} {base n m c : Nat} {e : TypeId} {size : Nat} {A : Option Addr} {xs : List Value} (h : w.ownsRow base e size (.slice A m c) n xs) : c ≤ 9223372036854775807 := by
  rcases h.2 with ⟨h1, _⟩ | ⟨g, cap, cur, h1, _, _, _, hm, _⟩
  · injection h1 with _ _ h1
    omega
  · injection h1 with _ _ h1
    simp only [maxLen] at hm
    omega
theorem max_len {n : Nat} (h : n ≤ maxLen) : n ≤ 9223372036854775807 := by
  simp only [maxLen] at h
  omega
theorem sizeI_nat (q : Nat) (h : q ≤ 8) : sizeI (q : Int) = q := by unfold sizeI; split <;> (try split) <;> omega
theorem put_q (A : Option Addr) (n cp : Nat) (zs : List Int) (x s : Int) (q : Nat) (w : World) (h : BReads w A n zs) (hn : n ≤ 1000000) (hs : s = q) (hq : q ≤ 8) :
    Calls Try.prog 39 #[.slice A n cp, .int .i64 x, .int .i64 s] w fun e w' => ∃ A2 c2 W, e = .returned (.slice A2 (n + q) c2) ∧ W = w' ∧ W.ownsRow w.heap.size 5 1 (.slice A2 (n + q) c2) (n + q) (bvals (zs ++ putI x q)) ∧ BReads W A2 (n + q) (zs ++ putI x q) ∧ n + q ≤ c2 ∧ Below w.heap.size w W := by
  subst hs
  have := put_sl A n cp zs x q w h hn
  rwa [sizeI_nat q hq] at this
theorem putText_small (A : Option Addr) (n cp : Nat) (zs : List Int) (s : ByteArray) (w : World) (h : BReads w A n zs) (hn : n ≤ 1000000) (hs : s.size ≤ 65535) :
    Calls Try.prog 35 #[.slice A n cp, .string s] w fun e w' => ∃ A2 c2 W, e = .returned (.slice A2 (n + (2 + s.size)) c2) ∧ W = w' ∧ W.ownsRow w.heap.size 5 1 (.slice A2 (n + (2 + s.size)) c2) (n + (2 + s.size)) (bvals (zs ++ (putI s.size 2 ++ strB s))) ∧ BReads W A2 (n + (2 + s.size)) (zs ++ (putI s.size 2 ++ strB s)) ∧ n + (2 + s.size) ≤ c2 ∧ Below w.heap.size w W := by
  have := putText_sl A n cp zs s w h hn (by omega)
  rwa [cutI_small s hs, putTextI_small s hs] at this
/-- A cell of a slice of the call's own. -/
theorem own_row_cell {w : World} {base n cap g : Nat} {xs : List Int} (h : w.ownsRow base 5 1 (.slice (some ⟨g, 0, none⟩) n cap) n (bvals xs)) (k : Nat) (hk : k < n) : w.cell? ⟨g, k, none⟩ = some (.int .u8 (gi xs k)) := by
  rw [World.ownsRow.cellAt h _ (by omega)]
  exact bvals_get _ _ (by have := h.1; rw [bvals_length] at this; omega)
set_option maxHeartbeats 1000000 in
theorem over_any (v : Value) (base n : Nat) (xs : List Int) (w : World) (h : w.ownsRow base 5 1 v n (bvals xs)) (hb : base ≤ w.heap.size) (hn : n ≤ 2000000) :
    Calls Try.prog 22 #[v] w fun e w' => ∃ W, e = .returned (.tuple #[]) ∧ W = w' ∧ Below base w W := by
  obtain ⟨i0, hi, hz0, hz1, hz2⟩ := info_parts info_u8
  have I := Lib.hid (And.intro hi (And.intro hz0 (And.intro hz1 hz2)))
  clear hi hz0 hz1 hz2
  rcases Nat.eq_zero_or_pos n with h0 | h0
  · subst h0
    have hs : ∃ A c, v = .slice A 0 c := by
      rcases h.2 with ⟨rfl, _⟩ | ⟨g, cap, cur, rfl, _⟩
      · exact ⟨_, _, rfl⟩
      · exact ⟨_, _, rfl⟩
    obtain ⟨A, c, rfl⟩ := hs
    have H := Lib.hid h
    clear h
    go_enter Try.func22, Try.ntmps22
    go_wp2
    refine wp_loop_rounds 1 ?_
    rw [rounds_succ]
    go_wp2_with (at_builtin; refine wpList_append_any _ rfl (.tmp 12) (.tmp 13) _ rfl base 5 i0 _ 1 1 Try.underlying39 I.out.1 I.out.2.1 I.out.2.2.1 I.out.2.2.2 rfl (by omega) _ 0 (bvals xs) rfl (H.out.alloc _) _ _ 1 1 [.int .u8 238] rfl (reads_new _ _ _) (bvals_one [_]) (by simp only [maxLen]; omega) (by omega) (Nat.le_trans hb (by simp)) ?_; intro v2 w2 hown2 hg2 hat2)
    go_end0
    exact ⟨rfl, ((Below.refl base w).alloc hb _).grown hg2 (Nat.le_trans hb (by simp)) (fun r hr => (H.out.lt r hr).1)⟩
  · obtain ⟨g, cap, rfl, hbg, hlt⟩ := h.form h0
    have H := Lib.hid h
    clear h
    go_enter Try.func22, Try.ntmps22
    go_wp2
    go_loopw [2] (fun i wr => ∃ (k : Nat) (ys : List Int), k ≤ n ∧ i = .int .i64 k ∧ Hid (wr.ownsRow base 5 1 (.slice (some ⟨g, 0, none⟩) n cap) n (bvals ys)) ∧ Hid (Below base w wr)) (fun i _ => n - (intOf i).toNat)
    case atStart => exact ⟨0, xs, by omega, rfl, H, Below.refl _ _⟩
    case round =>
      obtain ⟨k, ys, hk, rfl, HO, HB⟩ := hrel
      by_cases hlt : k < n
      · have hc := own_row_cell HO.out k hlt
        have hf : wr.frozen? ⟨g, k, none⟩ = false := World.ownsRow.frozenAt HO.out _
        go_wp2
        go_roundw
        case rel => exact ⟨k + 1, ys.set k 238, by omega, by go_num, (by
          have hs := World.ownsRow.stored HO.out k (.int .u8 238)
          rw [bvals_set] at hs
          exact hs.1), HB.out.setCell hbg _⟩
        case measure => simp [intOf]; omega
      · obtain rfl : k = n := by omega
        go_wp2_with (at_builtin; refine wpList_append_any _ rfl (.tmp 12) (.tmp 13) _ rfl base 5 i0 _ 1 1 Try.underlying39 I.out.1 I.out.2.1 I.out.2.2.1 I.out.2.2.2 rfl (by omega) _ k (bvals ys) rfl (HO.out.alloc _) _ _ 1 1 [.int .u8 238] rfl (reads_new _ _ _) (bvals_one [_]) (by simp only [maxLen]; omega) (by omega) (Nat.le_trans hb (Nat.le_trans HB.out.size (by simp))) ?_; intro v2 w2 hown2 hg2 hat2)
        go_end0
        exact ⟨rfl, (HB.out.alloc (Nat.le_trans hb HB.out.size) _).grown hg2 (Nat.le_trans hb (Nat.le_trans HB.out.size (by simp))) (fun r hr => (HO.out.lt r hr).1)⟩
end Go.Proofs.Ytajhkjikcgfhdaa
