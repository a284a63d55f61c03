/-
  The walks of inkhornlaw0.LendBytes, KeptBytes, SameBytes and Low.
-/
import Derived.Test.YtajhkjikcgfhdaaBytes
import Derived.WalkSpells
import Derived.WalkLawsBesides
namespace Go.Proofs.Ytajhkjikcgfhdaa
set_option linter.unusedVariables false
set_option linter.unusedSimpArgs false
set_option maxRecDepth 20000
open Go.RowKit
theorem toInts_eq (xs ys : List Int) (n : Nat) (h1 : xs.length = n) (h2 : ys.length = n) (h : ∀ j, j < n → gi xs j = gi ys j) : xs = ys := by
  apply List.ext_getElem? 
  intro j
  by_cases hj : j < n
  · rw [gi_eq xs j (by omega), gi_eq ys j (by omega), h j hj]
  · rw [List.getElem?_eq_none (by omega), List.getElem?_eq_none (by omega)]
set_option maxHeartbeats 400000 in
theorem same_any (A B : Option Addr) (n m c d : Nat) (xs ys : List Int) (w : World) (hx : BReads w A n xs) (hy : BReads w B m ys) :
    Calls Try.prog 17 #[.slice A n c, .slice B m d] w fun e w' => e = .returned (.bool (decide (xs = ys))) ∧ ∃ k, w' = w.drewN k := by
  have hn := hx.2.1
  have hm := hy.2.1
  have HX := Lib.hid hx
  have HY := Lib.hid hy
  clear hx hy
  by_cases hnm : n = m
  · subst hnm
    go_enter Try.func17, Try.ntmps17
    go_wp2
    go_loopw [5] (fun i wr => ∃ k : Nat, k ≤ n ∧ i = .int .i64 k ∧ Hid (∀ j, j < k → gi xs j = gi ys j) ∧ Hid (∃ q, wr = w.drewN q)) (fun i _ => n - (intOf i).toNat)
    case atStart => exact ⟨0, by omega, rfl, fun j hj => absurd hj (by omega), ⟨0, rfl⟩⟩
    case round =>
      obtain ⟨k, hk, rfl, HS, HW⟩ := hrel
      obtain ⟨q, rfl⟩ := HW.out
      clear HW
      by_cases hlt : k < n
      · obtain ⟨ad, rfl, hc⟩ := HX.out.at_ k hlt
        obtain ⟨bd, rfl, hd⟩ := HY.out.at_ k hlt
        by_cases he : gi xs k = gi ys k
        · have b1 : (gi xs k != gi ys k) = false := by simp [he]
          have HE := Lib.hid he
          clear he
          go_wp2
          go_quiet (fail)
          go_wp2
          go_roundw
          case rel => exact ⟨k + 1, by omega, by go_num, (fun j hj => by
            rcases Nat.lt_or_ge j k with h | h
            · exact HS.out j h
            · obtain rfl : j = k := by omega
              exact HE.out), ⟨_, rfl⟩⟩
          case measure => simp [intOf]; omega
        · have b1 : (gi xs k != gi ys k) = true := by simp [he]
          have e1 : Hid (decide (xs = ys) = false) := by
            apply decide_eq_false
            rintro rfl
            exact he rfl
          clear he
          go_wp2
          go_quiet (fail)
          go_wp2
          go_ret
          exact ⟨by rw [e1.out]; rfl, _, World.drewN_drewN _ _ _⟩
      · have e1 : Hid (decide (xs = ys) = true) := decide_eq_true (toInts_eq xs ys n HX.out.1 HY.out.1 fun j hj => HS.out j (by omega))
        go_wp2
        go_ret
        exact ⟨by rw [e1.out]; rfl, _, rfl⟩
  · have e1 : decide (xs = ys) = false := by
      apply decide_eq_false
      rintro rfl
      exact hnm (HX.out.1.symm.trans HY.out.1)
    have E := Lib.hid e1
    clear e1
    go_enter Try.func17, Try.ntmps17
    go_wp2
    go_ret
    exact ⟨by rw [E.out]; rfl, 0, rfl⟩
/-- A number from 0 to below n: the remainder of x taken as a number of 64 bits without a sign. -/
def lowI (x n : Int) : Int := x % 18446744073709551616 % n
theorem lowI_range (x n : Int) (h : 0 < n) : 0 ≤ lowI x n ∧ lowI x n < n := ⟨Int.emod_nonneg _ (by omega), Int.emod_lt_of_pos _ h⟩
theorem lowI_walk (x n : Int) (h : 0 < n) (hb : n ≤ 9223372036854775807) : wrap64 ((IntKind.u64.wrap x).tmod n) = lowI x n := by
  have e : IntKind.u64.wrap x = x % 18446744073709551616 := by simp [IntKind.wrap, IntKind.signed, IntKind.bits]
  have h0 : 0 ≤ x % 18446744073709551616 := Int.emod_nonneg _ (by omega)
  have e2 : (x % 18446744073709551616).tmod n = lowI x n := by unfold lowI; exact Int.tmod_eq_emod_of_nonneg h0
  rw [e, e2]
  obtain ⟨a, b⟩ := lowI_range x n h
  unfold wrap64
  omega
set_option maxHeartbeats 400000 in
theorem low_any (x n : Int) (w : World) (hn : 0 < n) (hb : n ≤ 9223372036854775807) :
    Calls Try.prog 33 #[.int .i64 x, .int .i64 n] w fun e w' => e = .returned (.int .i64 (lowI x n)) ∧ w = w' := by
  go_enter Try.func33, Try.ntmps33
  go_wp2
  go_ret
  exact ⟨by rw [← lowI_walk x n hn hb]; rfl, rfl⟩
/-- What LendBytes has made: a block that holds the bytes and three marked places behind them. -/
def Lent (w : World) (g : Nat) (zs : List Int) : Prop := w.heap[g]? = some (.cells (bvals (zs ++ [119, 119, 119])).toArray 5 (0, 0))
theorem Lent.below {w w1 : World} {g : Nat} {zs : List Int} {B : Nat} (h : Lent w g zs) (hb : Below B w w1) (hg : g < B) : Lent w1 g zs := (hb.block g hg).trans h
theorem made_u8 (n : Nat) : (madeCells #[Value.int .u8 0] n) = (bvals (List.replicate n 0)).toArray := by
  apply Array.ext'
  rw [toList_madeCells_one]
  simp [bvals]
theorem set_new (w : World) (c c' : Array Value) (t : TypeId) : (w.alloc (.cells c t)).setRow w.heap.size c' = w.alloc (.cells c' t) := by
  show ({ w.alloc (.cells c t) with heap := _ } : World) = _
  simp only [World.alloc]
  congr 1
  apply Array.ext
  · simp
  · intro i h1 h2
    have h3 : i < w.heap.size + 1 := by simpa using h1
    simp only [Array.getElem_modify, Array.getElem_push]
    split <;> split <;> first | rfl | (exfalso; omega) | simp_all
theorem setc_new (w : World) (c : Array Value) (t : TypeId) (i : Nat) (v : Value) : (w.alloc (.cells c t)).setCell ⟨w.heap.size, i, none⟩ v = w.alloc (.cells (c.setIfInBounds i v) t) := by
  rw [setCell_eq_setRow _ _ _ _ _ _ _ (heap_alloc_new w _), set_new]
/-- An append into the room of a block that has just been made. -/
theorem append_new (w : World) (A : Option Addr) (n cp : Nat) (zs : List Int) (h : BReads w A n zs) :
    (Builtin.append_ #[39, 39] 39 #[.slice (some ⟨w.heap.size, 0, none⟩) 0 (n + 3), .slice A n cp]).run Try.prog (w.alloc (.cells (madeCells #[Value.int .u8 0] (n + 3)) 5)) =
      .ok (.slice (some ⟨w.heap.size, 0, none⟩) n (n + 3)) (w.alloc (.cells (bvals (zs ++ [0, 0, 0])).toArray 5)) := by
  obtain ⟨i0, hi, hz0, hz1, hz2⟩ := info_parts info_u8
  have hl := h.1
  by_cases h0 : n = 0
  · subst h0
    obtain rfl : zs = [] := List.eq_nil_of_length_eq_zero hl
    cases A with
    | none => simp [Builtin.append_, run_underlying Try.underlying39, sizeOf, typeInfo, hi, Builtin.lenOf, Builtin.firstCells, storeCells, made_u8]
    | some ad =>
      have hr := run_append_room (P := Try.prog) (w.alloc (.cells (madeCells #[Value.int .u8 0] (0 + 3)) 5)) 39 39 5 i0 Try.underlying39 hi w.heap.size 0 (0 + 3) _ (heap_alloc_new w _) ad 0 cp [] (by simp) (by simp) (by simp) (by omega) (by simp)
      rw [hr, set_new]
      congr 3
      simp [made_u8]
  · obtain ⟨ad, rfl, hc⟩ := h.2.2.1 (by omega)
    have hr := run_append_room (P := Try.prog) (w.alloc (.cells (madeCells #[Value.int .u8 0] (n + 3)) 5)) 39 39 5 i0 Try.underlying39 hi w.heap.size 0 (n + 3) _ (heap_alloc_new w _) ad n cp (bvals zs) (by rw [bvals_length, hl, hz1, Nat.mul_one])
      (fun j u hu => by
        have hj : j < n := by
          have := (List.getElem?_eq_some_iff.1 hu).1
          rw [bvals_length, hl] at this
          exact this
        rw [bvals_get zs j (by omega)] at hu
        injection hu with hu
        subst hu
        rw [World.cell?_alloc_lt _ _ _ (World.block_lt_of_cell? w _ (hc j hj))]
        exact hc j hj) (bvals_one zs) (by omega) (by rw [bvals_length, size_madeCells]; omega)
    rw [hr, set_new]
    congr 3
    · omega
    · rw [made_u8]
      simp only [bvals_length, hl, bvals_append, Nat.zero_mul, List.take_zero, List.nil_append, Nat.zero_add]
      congr 2
      rw [bvals, ← List.map_drop, List.drop_replicate]
      have : n + 3 - n = 3 := by omega
      rw [this]
      rfl
def lentCells (zs : List Int) (k : Nat) : Array Value := (bvals (zs ++ (List.replicate k 119 ++ List.replicate (3 - k) 0))).toArray
theorem lentCells_at (zs : List Int) (n k : Nat) (hn : zs.length = n) (hk : k < 3) : (lentCells zs k)[n + k]? = some (.int .u8 0) := by
  subst hn
  simp only [lentCells, bvals, List.getElem?_toArray, List.getElem?_map]
  rw [List.getElem?_append_right (by omega), List.getElem?_append_right (by simp)]
  simp only [Nat.add_sub_cancel_left, List.length_replicate, Nat.sub_self]
  obtain ⟨m, hm⟩ : ∃ m, 3 - k = m + 1 := ⟨2 - k, by omega⟩
  simp [hm]
theorem lentCells_set (zs : List Int) (n k : Nat) (hn : zs.length = n) (hk : k < 3) : (lentCells zs k).setIfInBounds (n + k) (.int .u8 119) = lentCells zs (k + 1) := by
  subst hn
  simp only [lentCells, bvals, List.setIfInBounds_toArray]
  congr 1
  rw [List.map_append, List.set_append_right _ _ (by simp), List.length_map, Nat.add_sub_cancel_left, List.map_append (l₁ := zs)]
  have : k = 0 ∨ k = 1 ∨ k = 2 := by omega
  rcases this with rfl | rfl | rfl <;> rfl
set_option maxHeartbeats 400000 in
theorem lend_any (A : Option Addr) (n cp : Nat) (zs : List Int) (w : World) (h : BReads w A n zs) (hn : n ≤ 100000) :
    Calls Try.prog 24 #[.slice A n cp] w fun e w' => ∃ W, e = .returned (.slice (some ⟨w.heap.size, 0, none⟩) n (n + 3)) ∧ W = w' ∧ Lent W w.heap.size zs ∧ Below w.heap.size w W := by
  obtain ⟨i0, hi, hz0, hz1, hz2⟩ := info_parts info_u8
  have hmk : (Instr.makeSlice 39 (.int .i64 0) (.int .i64 ((n : Int) + 3))).run Try.prog w = .ok (.slice (some ⟨w.heap.size, 0, none⟩) 0 (n + 3)) (w.alloc (.cells (madeCells #[Value.int .u8 0] (n + 3)) 5)) := by
    have hmk := run_make_rowN (P := Try.prog) 39 5 i0 _ Try.underlying39 hi hz0 .i64 .i64 0 (n + 3) (by omega) (by rw [hz2]; omega) (by omega) w
    rw [hz1, Nat.mul_one] at hmk
    exact hmk
  have hap := append_new w A n cp zs h
  have HL := Lib.hid h.1
  clear h hi hz0 hz1 hz2
  go_enter Try.func24, Try.ntmps24
  go_wp2_with (at_builtin; refine wpList_append_run _ rfl (.tmp 10) (.tmp 11) _ rfl _ _ rfl rfl _ _ hap ?_)
  clear hap hmk
  go_loopw [5] (fun i wr => ∃ k : Nat, k ≤ 3 ∧ i = .int .i64 k ∧ wr = w.alloc (.cells (lentCells zs k) 5)) (fun i _ => 3 - (intOf i).toNat)
  case atStart => exact ⟨0, by omega, rfl, rfl⟩
  case round =>
    obtain ⟨k, hk, rfl, rfl⟩ := hrel
    by_cases hlt : k < 3
    · have hc : (w.alloc (.cells (lentCells zs k) 5)).cell? ⟨w.heap.size, n + k, none⟩ = some (.int .u8 0) := by
        rw [cell_of_row _ _ _ _ _ _ (heap_alloc_new w _)]
        exact lentCells_at zs n k HL.out hlt
      have hf : (w.alloc (.cells (lentCells zs k) 5)).frozen? ⟨w.heap.size, n + k, none⟩ = false := (Blk.new w 5 (lentCells zs k)).frozen (n + k)
      have HE := Lib.hid (lentCells_set zs n k HL.out hlt)
      go_wp2
      go_roundw
      case rel => exact ⟨k + 1, by omega, by go_num, by rw [HE.out]⟩
      case measure => simp [intOf]; omega
    · obtain rfl : k = 3 := by omega
      go_wp2
      go_ret
      exact ⟨_, rfl, rfl, by rw [Lent, heap_alloc_new]; rfl, (Below.refl _ _).alloc (Nat.le_refl _) _⟩
theorem bvals_get2 (xs ys : List Int) (k : Nat) (h : k < ys.length) (n : Nat) (hn : xs.length = n) : (bvals (xs ++ ys)).toArray[n + k]? = some (.int .u8 (gi ys k)) := by
  subst hn
  rw [List.getElem?_toArray, bvals_get _ _ (by rw [List.length_append]; omega), gi_append_right]
theorem Lent.breads {w : World} {g : Nat} {zs : List Int} (h : Lent w g zs) (n : Nat) (hn : zs.length = n) (hm : n ≤ 9223372036854775807) (hz : ∀ z, z ∈ zs → 0 ≤ z ∧ z < 256) : BReads w (some ⟨g, 0, none⟩) n zs :=
  breads_blk h n zs hn hm (fun j hj => by
    rw [List.getElem?_toArray, bvals_get _ _ (by rw [List.length_append]; omega), gi_append_left _ _ _ (by omega)]) hz
theorem Lent.mark {w : World} {g : Nat} {zs : List Int} (h : Lent w g zs) (n : Nat) (hn : zs.length = n) (k : Nat) (hk : k < 3) : w.cell? ⟨g, n + k, none⟩ = some (.int .u8 119) := by
  rw [cell_of_row _ _ _ _ _ _ h, bvals_get2 _ _ k (by simpa using hk) n hn]
  have : k = 0 ∨ k = 1 ∨ k = 2 := by omega
  rcases this with rfl | rfl | rfl <;> rfl
end Go.Proofs.Ytajhkjikcgfhdaa
