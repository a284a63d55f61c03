/-
  The walks of timer's find, New, Len, At; of slices.IndexFunc and slices.Clone at moments.
-/
import Derived.Test.YtkjjdbbogfjdlaaTimer
namespace Go.Proofs.Ytkjjdbbogfjdlaa
set_option linter.unusedVariables false
set_option linter.unusedSimpArgs false
open Go.RowKit
/-- The place of a number; the length: it is not there. -/
def findN (xs : List P2) (id : Int) : Nat := xs.findIdx (fun p => p.2 == id)
def findI (xs : List P2) (id : Int) : Int := if findN xs id < xs.length then (findN xs id : Int) else -1
theorem gp_get (xs : List P2) (k : Nat) (h : k < xs.length) : xs[k]? = some (gp xs k) := by
  simp [gp, List.getD_eq_getElem?_getD, List.getElem?_eq_getElem h]
theorem findN_at (xs : List P2) (id : Int) (k : Nat) (hk : k < xs.length) (ha : ∀ j, j < k → (gp xs j).2 ≠ id) (he : (gp xs k).2 = id) : findN xs id = k := by
  have hx : xs[k] = gp xs k := by simp [gp, List.getD_eq_getElem?_getD, List.getElem?_eq_getElem hk]
  refine (List.findIdx_eq hk).2 ⟨by rw [hx]; simp [he], fun j hj => ?_⟩
  have hjl : j < xs.length := by omega
  have hx' : xs[j] = gp xs j := by simp [gp, List.getD_eq_getElem?_getD, List.getElem?_eq_getElem hjl]
  rw [hx']
  simpa using ha j hj
theorem findN_none (xs : List P2) (id : Int) (ha : ∀ j, j < xs.length → (gp xs j).2 ≠ id) : findN xs id = xs.length := by
  refine List.findIdx_eq_length.2 fun x hx => ?_
  obtain ⟨j, hj, rfl⟩ := List.getElem_of_mem hx
  have hx' : xs[j] = gp xs j := by simp [gp, List.getD_eq_getElem?_getD, List.getElem?_eq_getElem hj]
  rw [hx']
  simpa using ha j hj
set_option maxHeartbeats 400000 in
theorem clo_any (cb : Nat) (a i id : Int) (b : Bool) (w : World) (hc : w.cell? ⟨cb, 0, none⟩ = some (.int .i64 id)) (hb : (i == id) = b) :
    Calls Try.prog 31 #[.agg #[.int .i64 a, .int .i64 i], .pointer (some ⟨cb, 0, none⟩)] w fun e w' => ∃ W, e = .returned (.bool b) ∧ W = w' ∧ Below w.heap.size w W := by
  have hc' := (World.cell?_alloc_lt w (.cells #[.int .i64 a, .int .i64 i] 59) _ (World.block_lt_of_cell? w _ hc)).trans hc
  clear hc
  subst hb
  go_enter Try.func31, Try.ntmps31
  go_wp2
  go_ret
  exact ⟨_, rfl, rfl, (Below.refl _ _).alloc (Nat.le_refl _) _⟩
set_option maxHeartbeats 1000000 in
theorem indexfunc_any (b n cap cb : Nat) (xs : List P2) (id : Int) (w : World) (h : Row w (.slice (some ⟨b, 0, none⟩) n cap) xs) (hn : xs.length = n) (hm : n ≤ 1000) (hc : w.cell? ⟨cb, 0, none⟩ = some (.int .i64 id)) :
    Calls Try.prog 30 #[.slice (some ⟨b, 0, none⟩) n cap, .func (.func 31) #[] #[.pointer (some ⟨cb, 0, none⟩)]] w fun e w' => ∃ W, e = .returned (.int .i64 (findI xs id)) ∧ W = w' ∧ Below w.heap.size w W := by
  have H := Lib.hid h
  have HN := Lib.hid hn
  have HC := Lib.hid hc
  clear h hn hc
  go_enter Try.func30, Try.ntmps30
  go_wp2
  go_loopw [5, 8] (fun i0 i wr => ∃ k : Nat, k ≤ n ∧ i = .int .i64 k ∧ Hid (Below w.heap.size w wr) ∧ Hid (∀ j, j < k → (gp xs j).2 ≠ id)) (fun _ i _ => n - (intOf i).toNat)
  case atStart => exact ⟨0, by omega, rfl, Below.refl _ _, fun j hj => absurd hj (by omega)⟩
  case round =>
    obtain ⟨k, hk, rfl, HB, HA⟩ := hrel
    by_cases hkn : k < n
    · obtain ⟨a1, a2⟩ := (H.out.below HB.out).at_ HN.out k hkn
      have hlt := World.block_lt_of_cell? w _ HC.out
      have HC1 : Hid (wr.cell? ⟨cb, 0, none⟩ = some (.int .i64 id)) := (HB.out.cell hlt).trans HC.out
      cases hb : (gp xs k).2 == id with
      | true =>
        have e : Hid (findI xs id = k) := by
          have e1 := findN_at xs id k (by rw [HN.out]; exact hkn) HA.out (by simpa using hb)
          unfold Hid findI
          rw [e1, if_pos (by rw [HN.out]; exact hkn)]
        have HBB := Lib.hid hb
        clear hb
        go_wp2_with (go_at_call 31; (refine (clo_any cb _ _ id true _ HC1.out HBB.out).mono ?_); rintro e w' ⟨w1, rfl, rfl, hb1⟩)
        go_ret
        exact ⟨_, by rw [e.out]; rfl, rfl, HB.out.trans (hb1.mono HB.out.size)⟩
      | false =>
        have HA2 : Hid (∀ j, j < k + 1 → (gp xs j).2 ≠ id) := by
          intro j hj
          rcases Nat.lt_succ_iff_lt_or_eq.1 hj with hj | rfl
          · exact HA.out j hj
          · simpa using hb
        have HBB := Lib.hid hb
        clear hb
        go_wp2_with (go_at_call 31; (refine (clo_any cb _ _ id false _ HC1.out HBB.out).mono ?_); rintro e w' ⟨w1, rfl, rfl, hb1⟩)
        go_roundw
        case rel => exact ⟨k + 1, by omega, by go_num, HB.out.trans (hb1.mono HB.out.size), HA2⟩
        case measure => simp [intOf]; omega
    · obtain rfl : k = n := by omega
      have e : Hid (findI xs id = -1) := by
        unfold Hid findI
        rw [findN_none xs id (fun j hj => HA.out j (by rw [← HN.out]; exact hj)), if_neg (by omega)]
      go_wp2
      go_ret
      exact ⟨_, by rw [e.out]; rfl, rfl, HB.out⟩
set_option maxHeartbeats 400000 in
theorem indexfunc_nil (cb : Nat) (id : Int) (w : World) :
    Calls Try.prog 30 #[.slice none 0 0, .func (.func 31) #[] #[.pointer (some ⟨cb, 0, none⟩)]] w fun e w' => ∃ W, e = .returned (.int .i64 (-1)) ∧ W = w' ∧ Below w.heap.size w W := by
  go_enter Try.func30, Try.ntmps30
  go_wp2
  refine wp_loop_rounds 1 ?_
  rw [rounds_succ]
  go_wp2
  go_ret
  exact ⟨_, rfl, rfl, Below.refl _ _⟩
theorem indexfunc_v (v : Value) (cb : Nat) (xs : List P2) (id : Int) (w : World) (h : Row w v xs) (hm : xs.length ≤ 1000) (hc : w.cell? ⟨cb, 0, none⟩ = some (.int .i64 id)) :
    Calls Try.prog 30 #[v, .func (.func 31) #[] #[.pointer (some ⟨cb, 0, none⟩)]] w fun e w' => ∃ W, e = .returned (.int .i64 (findI xs id)) ∧ W = w' ∧ Below w.heap.size w W := by
  rcases h.cases_ with ⟨rfl, rfl⟩ | ⟨b, cap, rfl⟩
  · exact indexfunc_nil cb id w
  · exact indexfunc_any b _ cap cb xs id w h rfl hm hc
/-- Timers in block g: how many there may be, the slice, the moments. -/
abbrev Tm (w : World) (g : Nat) (most : Int) (v : Value) (xs : List P2) : Prop := HeapAt w g 1 56 #[.int .i64 most, v] v xs
theorem Tm.below {w w1 : World} {g : Nat} {most : Int} {v : Value} {xs : List P2} (h : Tm w g most v xs) (hb : Below w.heap.size w w1) : Tm w1 g most v xs := HeapAt.below h hb
theorem Tm.c0 {w : World} {g : Nat} {most : Int} {v : Value} {xs : List P2} (h : Tm w g most v xs) : w.cell? ⟨g, 0, none⟩ = some (.int .i64 most) := HeapAt.blk h |>.cell 0
theorem Tm.c1 {w : World} {g : Nat} {most : Int} {v : Value} {xs : List P2} (h : Tm w g most v xs) : w.cell? ⟨g, 1, none⟩ = some v := HeapAt.cell h
set_option maxHeartbeats 400000 in
theorem find_any (g : Nat) (most : Int) (v : Value) (xs : List P2) (id : Int) (w : World) (h : Tm w g most v xs) (hm : xs.length ≤ 1000) :
    Calls Try.prog 24 #[.pointer (some ⟨g, 0, none⟩), .int .i64 id] w fun e w' => ∃ W, e = .returned (.int .i64 (findI xs id)) ∧ W = w' ∧ Below w.heap.size w W := by
  have hmf : ∀ (fn : Fn) (first cap : Array Value) (w : World), (Instr.makeFunc fn first cap).run Try.prog w = .ok (.func fn first cap) w := fun _ _ _ _ => rfl
  have hc := (World.cell?_alloc_lt w (.cells #[.int .i64 id] 3) _ (World.block_lt_of_cell? w _ h.c1)).trans h.c1
  have hr : Row (w.alloc (.cells #[.int .i64 id] 3)) v xs := World.ownsRow.alloc h.row _
  have hn : (w.alloc (.cells #[.int .i64 id] 3)).cell? ⟨w.heap.size, 0, none⟩ = some (.int .i64 id) := cell_of_row _ _ 0 _ _ _ (heap_alloc_new w _)
  have HR := Lib.hid hr
  have HN := Lib.hid hn
  clear h hr hn
  go_enter Try.func24, Try.ntmps24
  go_wp2_with (go_at_call 30; (refine (indexfunc_v v _ xs id _ HR.out hm HN.out).mono ?_); rintro e w' ⟨w1, rfl, rfl, hb1⟩)
  go_ret
  have hb0 : Below w.heap.size w (w.alloc (.cells #[.int .i64 id] 3)) := (Below.refl _ _).alloc (Nat.le_refl _) _
  exact ⟨_, rfl, rfl, hb0.trans (hb1.mono hb0.size)⟩
set_option maxHeartbeats 400000 in
theorem find_nil (id : Int) (w : World) :
    Calls Try.prog 24 #[.pointer none, .int .i64 id] w fun e w' => ∃ W, e = .returned (.int .i64 (-1)) ∧ W = w' ∧ Below w.heap.size w W := by
  go_enter Try.func24, Try.ntmps24
  go_wp2
  go_ret
  exact ⟨_, rfl, rfl, (Below.refl _ _).alloc (Nat.le_refl _) _⟩
set_option maxHeartbeats 400000 in
theorem new_ok (most : Int) (w : World) (h1 : 1 ≤ most) (h2 : most ≤ 24) :
    Calls Try.prog 9 #[.int .i64 most] w fun e w' => ∃ W, e = .returned (.tuple #[.pointer (some ⟨w.heap.size, 0, none⟩), .int .i64 0]) ∧ W = w' ∧ Tm W w.heap.size most (.slice none 0 0) [] ∧ Below w.heap.size w W := by
  have b1 : decide (most < 1) = false := by simp; omega
  have b2 : decide (24 < most) = false := by simp; omega
  go_enter Try.func9, Try.ntmps9
  go_wp2
  go_ret2
  exact ⟨_, rfl, rfl, ⟨Blk.new _ _ _, rfl, World.ownsRow_nil _ _ _ _, by decide⟩, (Below.refl _ _).alloc (Nat.le_refl _) _⟩
set_option maxHeartbeats 400000 in
theorem new_bad (most : Int) (w : World) (h : most < 1 ∨ 24 < most) :
    Calls Try.prog 9 #[.int .i64 most] w fun e w' => ∃ W, e = .returned (.tuple #[.pointer none, .int .i64 2]) ∧ W = w' ∧ w = W := by
  rcases Int.lt_or_le most 1 with h1 | h1
  · have b1 : decide (most < 1) = true := by simp; omega
    go_enter Try.func9, Try.ntmps9
    go_wp2
    go_ret2
    exact ⟨_, rfl, rfl, rfl⟩
  · have b1 : decide (most < 1) = false := by simp; omega
    have b2 : decide (24 < most) = true := by simp; omega
    go_enter Try.func9, Try.ntmps9
    go_wp2
    go_ret2
    exact ⟨_, rfl, rfl, rfl⟩
theorem Row.len_ {w : World} {v : Value} {xs : List P2} (h : Row w v xs) : ∃ A cap, v = .slice A xs.length cap := by
  rcases h.cases_ with ⟨rfl, rfl⟩ | ⟨b, cap, rfl⟩
  · exact ⟨none, 0, rfl⟩
  · exact ⟨_, cap, rfl⟩
set_option maxHeartbeats 400000 in
theorem tlen_any (g : Nat) (most : Int) (v : Value) (xs : List P2) (w : World) (h : Tm w g most v xs) (hm : xs.length ≤ 1000) :
    Calls Try.prog 14 #[.pointer (some ⟨g, 0, none⟩)] w fun e w' => e = .returned (.int .i64 xs.length) ∧ w = w' := by
  obtain ⟨A, cap, rfl⟩ := h.row.len_
  have hc := h.c1
  clear h
  go_enter Try.func14, Try.ntmps14
  go_wp2
  go_ret
  exact ⟨rfl, rfl⟩
theorem tlen_nil (w : World) : Calls Try.prog 14 #[.pointer none] w fun e w' => e = .returned (.int .i64 0) ∧ w = w' := by
  go_enter Try.func14, Try.ntmps14
  go_wp2
  go_ret
  exact ⟨rfl, rfl⟩
/-- What At answers. -/
def atI (xs : List P2) (id : Int) : Int := if findN xs id < xs.length then (gp xs (findN xs id)).1 else 0
set_option maxHeartbeats 400000 in
theorem at_any (g : Nat) (most : Int) (v : Value) (xs : List P2) (id : Int) (w : World) (h : Tm w g most v xs) (hm : xs.length ≤ 1000) :
    Calls Try.prog 15 #[.pointer (some ⟨g, 0, none⟩), .int .i64 id] w fun e w' => ∃ W, e = .returned (.tuple #[.int .i64 (atI xs id), .bool (decide (findN xs id < xs.length))]) ∧ W = w' ∧ Below w.heap.size w W := by
  have H := Lib.hid h
  by_cases hf : findN xs id < xs.length
  · have e1 : Hid (findI xs id = (findN xs id : Int)) := if_pos hf
    have e2 : Hid (atI xs id = (gp xs (findN xs id)).1) := if_pos hf
    have e3 : Hid (decide (findN xs id < xs.length) = true) := by simp [Hid, hf]
    obtain ⟨b, cap, rfl, hlt⟩ := h.row.form_ (by omega)
    clear h
    go_enter Try.func15, Try.ntmps15
    go_wp2_with (go_at_call 24; (refine (find_any g most _ xs id _ H.out hm).mono ?_); rintro e w' ⟨w1, rfl, rfl, hb1⟩; rw [e1.out]; have h1 := H.out.below hb1; have hc := h1.c1; obtain ⟨a1, a2⟩ := h1.row.at_ rfl _ hf; clear h1)
    go_ret2
    exact ⟨_, by rw [e2.out, e3.out]; rfl, rfl, hb1⟩
  · have e1 : Hid (findI xs id = -1) := if_neg hf
    have e2 : Hid (atI xs id = 0) := if_neg hf
    have e3 : Hid (decide (findN xs id < xs.length) = false) := by simp [Hid]; omega
    clear h
    go_enter Try.func15, Try.ntmps15
    go_wp2_with (go_at_call 24; (refine (find_any g most _ xs id _ H.out hm).mono ?_); rintro e w' ⟨w1, rfl, rfl, hb1⟩; rw [e1.out])
    go_ret2
    exact ⟨_, by rw [e2.out, e3.out]; rfl, rfl, hb1⟩
theorem at_nil (id : Int) (w : World) :
    Calls Try.prog 15 #[.pointer none, .int .i64 id] w fun e w' => ∃ W, e = .returned (.tuple #[.int .i64 0, .bool false]) ∧ W = w' ∧ Below w.heap.size w W := by
  go_enter Try.func15, Try.ntmps15
  go_wp2_with (go_at_call 24; (refine (find_nil id _).mono ?_); rintro e w' ⟨w1, rfl, rfl, hb1⟩)
  go_ret2
  exact ⟨_, rfl, rfl, hb1⟩
end Go.Proofs.Ytkjjdbbogfjdlaa
