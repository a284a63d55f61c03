/-
  The walks of package code: Clone, Put, PutText, Num, Text.
-/
import Derived.Test.YtajhkjikcgfhdaaBytes
import Derived.WalkSpells
import Derived.WalkLawsBesides
import Derived.Lib.SliceRun
import Derived.Lib.AppendStr
import Derived.Laws.BytesArg
namespace Go.Proofs.Ytajhkjikcgfhdaa
set_option linter.unusedVariables false
set_option linter.unusedSimpArgs false
open Go.RowKit
set_option maxHeartbeats 400000 in
theorem clone_any (A : Option Addr) (n cp : Nat) (zs : List Int) (w : World) (h : BReads w A n zs) (hn : n ≤ 1000000) :
    Calls Try.prog 60 #[.slice A n cp] w fun e w' => ∃ v W, e = .returned v ∧ W = w' ∧ W.ownsRow w.heap.size 5 1 v n (bvals zs) ∧ Below w.heap.size w W := by
  obtain ⟨i0, hi, hz0, hz1, hz2⟩ := info_parts info_u8
  have hq := fun w => Lib.run_eql_slice_nil (P := Try.prog) w 39 5 A n cp 0 0 Try.underlying39
  cases A with
  | none =>
    obtain rfl : n = 0 := by
      rcases Nat.eq_zero_or_pos n with h0 | h0
      · exact h0
      · obtain ⟨_, e, _⟩ := h.2.2.1 h0
        cases e
    obtain rfl : zs = [] := List.eq_nil_of_length_eq_zero h.1
    clear h hi hz0 hz1 hz2
    go_enter Try.func60, Try.ntmps60
    go_wp2
    go_ret
    exact ⟨_, _, rfl, rfl, World.ownsRow_nil _ _ _ _, Below.refl _ _⟩
  | some ad =>
    have H := Lib.hid h
    have I := Lib.hid (And.intro hi (And.intro hz0 (And.intro hz1 hz2)))
    clear h hi hz0 hz1 hz2
    go_enter Try.func60, Try.ntmps60
    have hb0 : Below w.heap.size w (w.alloc (.cells #[] 5)) := (Below.refl _ _).alloc (Nat.le_refl _) _
    go_wp2_with (at_builtin; refine wpList_append_any _ rfl (.tmp 5) (.tmp 6) _ rfl w.heap.size 5 i0 _ 1 1 Try.underlying39 I.out.1 I.out.2.1 I.out.2.2.1 I.out.2.2.2 rfl (by omega) (.slice (some ⟨w.heap.size, 0, none⟩) 0 0) 0 [] rfl (World.ownsRow_made w #[] 0 (Nat.le_refl _) (by simp only [maxLen]; omega) rfl) w.heap.size (some ad) n cp (bvals zs) rfl (H.out.reads.alloc (Nat.le_refl _) _) (bvals_one _) (by simp only [maxLen]; omega) (by omega) hb0.size ?_; intro v1 w1 hown1 hg1 hat1)
    simp only [Nat.zero_add, List.nil_append] at hown1
    go_ret
    exact ⟨_, _, rfl, rfl, hown1, hb0.grown hg1 hb0.size (fun k hk => by simp [Value.ownBlock] at hk; omega)⟩
/-- The j-th byte of a number, from the least on. -/
def byteI (x : Int) (j : Nat) : Int := IntKind.u64.wrap x / 2 ^ (8 * j) % 256
/-- The q lowest bytes of a number, the most significant one first. -/
def putI (x : Int) (q : Nat) : List Int := (List.range q).map fun i => byteI x (q - 1 - i)
theorem putI_length (x : Int) (q : Nat) : (putI x q).length = q := by simp [putI]
theorem byteI_range (x : Int) (j : Nat) : 0 ≤ byteI x j ∧ byteI x j < 256 := ⟨Int.emod_nonneg _ (by omega), Int.emod_lt_of_pos _ (by omega)⟩
theorem putI_range (x : Int) (q : Nat) : ∀ z, z ∈ putI x q → 0 ≤ z ∧ z < 256 := by
  intro z hz
  simp only [putI, List.mem_map] at hz
  obtain ⟨i, _, rfl⟩ := hz
  exact byteI_range _ _
theorem putI_take (x : Int) (q k : Nat) (h : k < q) : (putI x q).take (k + 1) = (putI x q).take k ++ [byteI x (q - 1 - k)] := by
  rw [List.take_succ_eq_append_getElem (by rw [putI_length]; exact h)]
  simp [putI]
/-- How many bytes a size tells: from 0 to 8. -/
def sizeI (s : Int) : Nat := if s < 0 then 0 else if 8 < s then 8 else s.toNat
set_option maxHeartbeats 400000 in
theorem put_any (A : Option Addr) (n cp : Nat) (zs : List Int) (x s : Int) (w : World) (h : BReads w A n zs) (hn : n ≤ 1000000) :
    Calls Try.prog 39 #[.slice A n cp, .int .i64 x, .int .i64 s] w fun e w' => ∃ v W, e = .returned v ∧ W = w' ∧ W.ownsRow w.heap.size 5 1 v (n + sizeI s) (bvals (zs ++ putI x (sizeI s))) ∧ Below w.heap.size w W := by
  obtain ⟨i0, hi, hz0, hz1, hz2⟩ := info_parts info_u8
  obtain ⟨m, hm⟩ : ∃ m : Int, m = if s < 0 then 0 else s := ⟨_, rfl⟩
  obtain ⟨q, hqe⟩ : ∃ q : Nat, q = sizeI s := ⟨_, rfl⟩
  have hq : (q : Int) = if 8 < m then 8 else m := by
    rw [hqe, hm, sizeI]
    split
    · rfl
    · split <;> omega
  have h1 : Builtin.max_ #[3, 3] 3 #[.int .i64 s, .int .i64 0] = pure (.int .i64 m) := by
    simp only [Builtin.max_, List.foldlM_cons, List.foldlM_nil, Builtin.max2, hm, gt_iff_lt]; rfl
  have h2 : Builtin.min_ #[3, 3] 3 #[.int .i64 m, .int .i64 8] = pure (.int .i64 q) := by
    simp only [Builtin.min_, List.foldlM_cons, List.foldlM_nil, Builtin.min2, hq, gt_iff_lt]; rfl
  have H := Lib.hid h
  have I := Lib.hid (And.intro hi (And.intro hz0 (And.intro hz1 hz2)))
  have hq8 : q ≤ 8 := by split at hq <;> omega
  rw [← hqe]
  clear h hm hq hi hz0 hz1 hz2 hqe
  go_enter Try.func39, Try.ntmps39
  go_wp2_with (go_at_call 60; (with_reducible refine (clone_any _ _ _ _ _ H.out hn).mono ?_); rintro e w' ⟨v1, w1, rfl, rfl, hown1, hb1⟩)
  clear h1 h2
  go_loopw [7, 8, 15] (fun v j i wr => ∃ k : Nat, k ≤ q ∧ i = .int .i64 k ∧ Hid (wr.ownsRow w.heap.size 5 1 v (n + k) (bvals (zs ++ (putI x q).take k))) ∧ Hid (Below w.heap.size w wr)) (fun _ _ i _ => q - (intOf i).toNat)
  case atStart => exact ⟨0, by omega, rfl, (by rw [List.take_zero, List.append_nil]; exact hown1), hb1⟩
  case round =>
    clear hown1 hb1
    obtain ⟨k, hk, rfl, HO, HB⟩ := hrel
    by_cases hlt : k < q
    · go_wp2_with (at_builtin; refine wpList_append_any _ rfl (.tmp 18) (.tmp 29) _ rfl w.heap.size 5 i0 _ 1 1 Try.underlying39 I.out.1 I.out.2.1 I.out.2.2.1 I.out.2.2.2 rfl (by omega) _ (n + k) (bvals (zs ++ (putI x q).take k)) rfl (HO.out.alloc _) _ _ 1 1 [.int .u8 (byteI x (q - 1 - k))] rfl (reads_new _ _ _) (bvals_one [_]) (by simp only [maxLen]; omega) (by omega) (Nat.le_trans HB.out.size (by simp)) ?_; intro v2 w2 hown2 hg2 hat2)
      have hb2 : Below w.heap.size w w2 := (HB.out.alloc HB.out.size _).grown hg2 (Nat.le_trans HB.out.size (by simp)) (fun r hr => (HO.out.lt r hr).1)
      have HO2 : Hid (w2.ownsRow w.heap.size 5 1 v2 (n + (k + 1)) (bvals (zs ++ (putI x q).take (k + 1)))) := by
        rw [putI_take x q k hlt, ← List.append_assoc, bvals_append]
        exact hown2
      clear hown2 hg2 hat2
      have HB2 := Lib.hid hb2
      clear hb2
      go_wp2
      go_roundw
      case rel => exact ⟨k + 1, by omega, by go_num, HO2, HB2⟩
      case measure => simp [intOf]; omega
    · obtain rfl : k = q := by omega
      have HO2 : Hid (wr.ownsRow w.heap.size 5 1 u7 (n + k) (bvals (zs ++ putI x k))) := by
        have := HO.out
        rwa [List.take_of_length_le (by rw [putI_length]; omega)] at this
      clear HO
      go_wp2
      go_ret
      exact ⟨_, _, rfl, rfl, HO2, HB⟩
/-- A string's bytes. -/
def strB (s : ByteArray) : List Int := s.data.toList.map fun b => (b.toNat : Int)
theorem strB_length (s : ByteArray) : (strB s).length = s.size := by
  rw [strB, List.length_map, Array.length_toList]; rfl
theorem strB_range (s : ByteArray) : ∀ z, z ∈ strB s → 0 ≤ z ∧ z < 256 := by
  intro z hz
  simp only [strB, List.mem_map] at hz
  obtain ⟨b, _, rfl⟩ := hz
  have := b.toNat_lt
  omega
theorem strCells_eq (s : ByteArray) : Lib.strCells s = bvals (strB s) := by simp [Lib.strCells, bvals, strB]
/-- How much of a text is laid. -/
def cutI (s : ByteArray) : Nat := if 65535 < s.size then 65535 else s.size
theorem cutI_le (s : ByteArray) : cutI s ≤ s.size ∧ cutI s ≤ 65535 := by unfold cutI; split <;> omega
def putTextI (s : ByteArray) : List Int := putI (cutI s) 2 ++ strB (s.extract 0 (cutI s))
theorem extract_size0 (s : ByteArray) (m : Nat) (h : m ≤ s.size) : (s.extract 0 m).size = m := by
  rw [ByteArray.size_extract]; omega
theorem putTextI_length (s : ByteArray) : (putTextI s).length = 2 + cutI s := by
  rw [putTextI, List.length_append, putI_length, strB_length, extract_size0 _ _ (cutI_le s).1]
theorem putTextI_range (s : ByteArray) : ∀ z, z ∈ putTextI s → 0 ≤ z ∧ z < 256 := by
  intro z hz
  rcases List.mem_append.1 hz with h | h
  · exact putI_range _ _ z h
  · exact strB_range _ z h
set_option maxHeartbeats 400000 in
theorem putText_any (A : Option Addr) (n cp : Nat) (zs : List Int) (s : ByteArray) (w : World) (h : BReads w A n zs) (hn : n ≤ 1000000) (hs : s.size ≤ 9223372036854775807) :
    Calls Try.prog 35 #[.slice A n cp, .string s] w fun e w' => ∃ v W, e = .returned v ∧ W = w' ∧ W.ownsRow w.heap.size 5 1 v (n + (2 + cutI s)) (bvals (zs ++ putTextI s)) ∧ Below w.heap.size w W := by
  obtain ⟨i0, hi, hz0, hz1, hz2⟩ := info_parts info_u8
  obtain ⟨c0, c1⟩ := cutI_le s
  have h2 : Builtin.min_ #[3, 3] 3 #[.int .i64 s.size, .int .i64 65535] = pure (.int .i64 (cutI s)) := by
    simp only [Builtin.min_, List.foldlM_cons, List.foldlM_nil, Builtin.min2, cutI, gt_iff_lt]
    split
    · rename_i hh
      rw [if_pos (by omega)]; rfl
    · rename_i hh
      rw [if_neg (by omega)]; rfl
  have H := Lib.hid h
  have I := Lib.hid (And.intro hi (And.intro hz0 (And.intro hz1 hz2)))
  have HC : Hid (n + sizeI 2 + (s.extract 0 (cutI s)).size ≤ maxLen ∧ n + sizeI 2 + (s.extract 0 (cutI s)).size ≤ 140737488355328) := by
    unfold Hid
    rw [extract_size0 _ _ c0, show sizeI 2 = 2 from rfl]
    simp only [maxLen]
    constructor <;> omega
  clear h hi hz0 hz1 hz2
  go_enter Try.func35, Try.ntmps35
  go_wp2_with (first
    | (go_at_call 39; (with_reducible refine (put_any _ _ _ _ _ _ _ H.out hn).mono ?_); rintro e w' ⟨v1, w1, rfl, rfl, hown1, hb1⟩)
    | (at_builtin; refine Lib.wpList_append_own_string _ rfl (.tmp 13) (.tmp 14) 39 9 rfl w.heap.size 5 i0 Try.underlying39 Try.underlying9 I.out.1 I.out.2.1 I.out.2.2.1 I.out.2.2.2 v1 (n + sizeI 2) _ rfl hown1 (s.extract 0 (cutI s)) rfl HC.out.1 HC.out.2 hb1.size ?_; intro v2 w2 hown2 hg2 _))
  go_ret
  refine ⟨_, _, rfl, rfl, ?_, hb1.grown hg2 hb1.size (fun k hk => (hown1.lt k hk).1)⟩
  rw [extract_size0 _ _ c0, strCells_eq, ← bvals_append, List.append_assoc, Nat.add_assoc] at hown2
  exact hown2
/-- Bytes to a string. -/
theorem conv_any {w : World} {A : Option Addr} {n : Nat} {zs : List Int} (h : BReads w A n zs) (c : Nat) :
    (convert 39 9 (.slice A n c)).run Try.prog w = .ok (.string (strOfNums zs)) w := by
  have hl := h.1
  cases A with
  | none =>
    obtain rfl : n = 0 := by
      rcases Nat.eq_zero_or_pos n with h0 | h0
      · exact h0
      · obtain ⟨_, e, _⟩ := h.2.2.1 h0
        cases e
    obtain rfl : zs = [] := List.eq_nil_of_length_eq_zero hl
    exact run_convert_bytes_nil w 39 5 Try.underlying39 Try.underlying5 0 c 9 Try.underlying9
  | some ad =>
    have hload : (loadCells ad n).run Try.prog w = .ok (zs.map (Value.int .u8)).toArray w := by
      have := run_loadCells_list (P := Try.prog) w ad (zs.map (Value.int .u8)) (fun j v hj => by
        have hjl : j < n := by
          have := (List.getElem?_eq_some_iff.1 hj).1
          rw [List.length_map] at this
          omega
        obtain ⟨a2, e, hc⟩ := h.2.2.1 (by omega)
        injection e with e
        subst e
        rw [hc j hjl, ← hj, List.getElem?_map, gi_eq zs j (by omega)]
        rfl)
      simpa [hl] using this
    rw [run_convert_bytes_string w 39 9 5 _ n c Try.underlying39 Try.underlying5 Try.underlying9, run_bytesToString w _ n c zs hload, foldl_push_bytes]
    simp [strOfNums, ByteArray.empty, ByteArray.emptyWithCapacity]
    rfl
/-- One more byte behind a number. -/
def accI (acc b : Int) : Int := Go.bits .or .u64 (IntKind.u64.wrap (acc * 256)) b
def numU (zs : List Int) : Int := zs.foldl accI 0
/-- Is there a number of s bytes at place a? -/
def numOk (n : Nat) (a s : Int) : Prop := 1 ≤ s ∧ s ≤ 8 ∧ 0 ≤ a ∧ a + s ≤ n
instance (n : Nat) (a s : Int) : Decidable (numOk n a s) := by unfold numOk; exact inferInstance
def numI (zs : List Int) (a s : Int) : Int := wrap64 (numU ((zs.drop a.toNat).take s.toNat))
set_option maxHeartbeats 1000000 in
theorem num_no (A : Option Addr) (n cp : Nat) (a s : Int) (w : World) (hn : n ≤ 9223372036854775807) (h : ¬ numOk n a s) :
    Calls Try.prog 54 #[.slice A n cp, .int .i64 a, .int .i64 s] w fun e w' => e = .returned (.tuple #[.int .i64 0, .bool false]) ∧ w = w' := by
  unfold numOk at h
  by_cases h1 : s < 1
  · clear h
    go_enter Try.func54, Try.ntmps54
    go_wp2
    go_ret2
    exact ⟨rfl, rfl⟩
  by_cases h2 : 8 < s
  · clear h
    go_enter Try.func54, Try.ntmps54
    go_wp2
    go_ret2
    exact ⟨rfl, rfl⟩
  by_cases h3 : a < 0
  · clear h
    go_enter Try.func54, Try.ntmps54
    go_wp2
    go_ret2
    exact ⟨rfl, rfl⟩
  by_cases h4 : (n : Int) < a
  · clear h
    go_enter Try.func54, Try.ntmps54
    go_wp2
    go_ret2
    exact ⟨rfl, rfl⟩
  have h5 : (n : Int) - a < s := by omega
  clear h
  go_enter Try.func54, Try.ntmps54
  go_wp2
  go_ret2
  exact ⟨rfl, rfl⟩
set_option maxHeartbeats 1000000 in
theorem num_go (A : Option Addr) (n cp a q : Nat) (zs : List Int) (w : World) (h : BReads w A n zs) (h1 : 1 ≤ q) (h2 : q ≤ 8) (h3 : a + q ≤ n) :
    Calls Try.prog 54 #[.slice A n cp, .int .i64 a, .int .i64 q] w fun e w' => e = .returned (.tuple #[.int .i64 (wrap64 (numU ((zs.drop a).take q))), .bool true]) ∧ w = w' := by
  have hm := h.2.1
  have HL := Lib.hid h.1
  have H := Lib.hid h
  clear h
  go_enter Try.func54, Try.ntmps54
  go_wp2
  go_loop [8, 9, 35] (fun c _ i => ∃ k : Nat, k ≤ q ∧ i = .int .i64 k ∧ c = .int .u64 (numU ((zs.drop a).take k))) (fun _ _ i => q - (intOf i).toNat)
  case atStart => exact ⟨0, by omega, rfl, rfl⟩
  case round =>
    obtain ⟨k, hk, rfl, rfl⟩ := hrel
    by_cases hlt : k < q
    · obtain ⟨ad, rfl, hc⟩ := H.out.at_ (a + k) (by omega)
      obtain ⟨b0, b1⟩ := H.out.2.2.2 (a + k)
      have E : Hid (numU ((zs.drop a).take (k + 1)) = accI (numU ((zs.drop a).take k)) (gi zs (a + k))) := by
        have e := foldl_take_succ accI 0 (zs.drop a) k (by rw [List.length_drop, HL.out]; omega)
        have e2 : gi (zs.drop a) k = gi zs (a + k) := by simp [gi, List.getD_eq_getElem?_getD, List.getElem?_drop]
        rw [e2] at e
        exact e
      go_wp2
      go_round
      case rel => exact ⟨k + 1, by omega, by go_num, by rw [E.out]; rfl⟩
      case measure => simp [intOf]; omega
    · obtain rfl : k = q := by omega
      go_wp2
      go_ret2
      exact ⟨rfl, rfl⟩
theorem num_yes (A : Option Addr) (n cp : Nat) (a s : Int) (zs : List Int) (w : World) (h : BReads w A n zs) (hs : numOk n a s) :
    Calls Try.prog 54 #[.slice A n cp, .int .i64 a, .int .i64 s] w fun e w' => e = .returned (.tuple #[.int .i64 (numI zs a s), .bool true]) ∧ w = w' := by
  obtain ⟨h1, h2, h3, h4⟩ := hs
  obtain ⟨a, rfl⟩ := Int.eq_ofNat_of_zero_le h3
  obtain ⟨q, rfl⟩ := Int.eq_ofNat_of_zero_le (show 0 ≤ s by omega)
  exact num_go A n cp a q zs w h (by omega) (by omega) (by omega)
set_option maxHeartbeats 1000000 in
theorem refnum_no (A : Option Addr) (n cp : Nat) (a s : Int) (w : World) (hn : n ≤ 9223372036854775807) (h : ¬ numOk n a s) :
    Calls Try.prog 56 #[.slice A n cp, .int .i64 a, .int .i64 s] w fun e w' => e = .returned (.tuple #[.int .i64 0, .bool false]) ∧ w = w' := by
  unfold numOk at h
  by_cases h1 : s < 1
  · clear h
    go_enter Try.func56, Try.ntmps56
    go_wp2
    go_ret2
    exact ⟨rfl, rfl⟩
  by_cases h2 : 8 < s
  · clear h
    go_enter Try.func56, Try.ntmps56
    go_wp2
    go_ret2
    exact ⟨rfl, rfl⟩
  by_cases h3 : a < 0
  · clear h
    go_enter Try.func56, Try.ntmps56
    go_wp2
    go_ret2
    exact ⟨rfl, rfl⟩
  by_cases h4 : (n : Int) < a
  · clear h
    go_enter Try.func56, Try.ntmps56
    go_wp2
    go_ret2
    exact ⟨rfl, rfl⟩
  have h5 : (n : Int) - a < s := by omega
  clear h
  go_enter Try.func56, Try.ntmps56
  go_wp2
  go_ret2
  exact ⟨rfl, rfl⟩
set_option maxHeartbeats 1000000 in
theorem refnum_go (A : Option Addr) (n cp a q : Nat) (zs : List Int) (w : World) (h : BReads w A n zs) (h1 : 1 ≤ q) (h2 : q ≤ 8) (h3 : a + q ≤ n) :
    Calls Try.prog 56 #[.slice A n cp, .int .i64 a, .int .i64 q] w fun e w' => e = .returned (.tuple #[.int .i64 (wrap64 (numU ((zs.drop a).take q))), .bool true]) ∧ w = w' := by
  have hm := h.2.1
  have HL := Lib.hid h.1
  have H := Lib.hid h
  clear h
  go_enter Try.func56, Try.ntmps56
  go_wp2
  go_loop [8, 9] (fun c i => ∃ k : Nat, k ≤ q ∧ i = .int .i64 k ∧ c = .int .u64 (numU ((zs.drop a).take k))) (fun _ i => q - (intOf i).toNat)
  case atStart => exact ⟨0, by omega, rfl, rfl⟩
  case round =>
    obtain ⟨k, hk, rfl, rfl⟩ := hrel
    by_cases hlt : k < q
    · obtain ⟨ad, rfl, hc⟩ := H.out.at_ (a + k) (by omega)
      obtain ⟨b0, b1⟩ := H.out.2.2.2 (a + k)
      have E : Hid (numU ((zs.drop a).take (k + 1)) = accI (numU ((zs.drop a).take k)) (gi zs (a + k))) := by
        have e := foldl_take_succ accI 0 (zs.drop a) k (by rw [List.length_drop, HL.out]; omega)
        have e2 : gi (zs.drop a) k = gi zs (a + k) := by simp [gi, List.getD_eq_getElem?_getD, List.getElem?_drop]
        rw [e2] at e
        exact e
      go_wp2
      go_round
      case rel => exact ⟨k + 1, by omega, by go_num, by rw [E.out]; rfl⟩
      case measure => simp [intOf]; omega
    · obtain rfl : k = q := by omega
      go_wp2
      go_ret2
      exact ⟨rfl, rfl⟩
theorem refnum_yes (A : Option Addr) (n cp : Nat) (a s : Int) (zs : List Int) (w : World) (h : BReads w A n zs) (hs : numOk n a s) :
    Calls Try.prog 56 #[.slice A n cp, .int .i64 a, .int .i64 s] w fun e w' => e = .returned (.tuple #[.int .i64 (numI zs a s), .bool true]) ∧ w = w' := by
  obtain ⟨h1, h2, h3, h4⟩ := hs
  obtain ⟨a, rfl⟩ := Int.eq_ofNat_of_zero_le h3
  obtain ⟨q, rfl⟩ := Int.eq_ofNat_of_zero_le (show 0 ≤ s by omega)
  exact refnum_go A n cp a q zs w h (by omega) (by omega) (by omega)
end Go.Proofs.Ytajhkjikcgfhdaa
