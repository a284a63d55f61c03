/-
  The walks of timer.moments' Len, Push and Pop, and of container/heap's Push, Pop, Fix and Remove.
-/
import Derived.Test.YtkjjdbbogfjdlaaHeap
import Derived.Deep.RegionLaw
namespace Go.Proofs.Ytkjjdbbogfjdlaa
set_option linter.unusedVariables false
set_option linter.unusedSimpArgs false
open Go.RowKit
/-- What may have turned: block g, the row of v, and what is new; v2's row is v's or new. -/
structure Moved (g : Nat) (v v2 : Value) (w w2 : World) : Prop where
  os : w2.os = w.os
  tape : w2.tape = w.tape
  output : w2.output = w.output
  size : w.heap.size ≤ w2.heap.size
  block : ∀ k, k < w.heap.size → k ≠ g → v.ownBlock ≠ some k → w2.heap[k]? = w.heap[k]?
  own : v2.ownBlock = v.ownBlock ∨ ∃ b, v2.ownBlock = some b ∧ w.heap.size ≤ b
theorem Moved.of_below {g : Nat} {v : Value} {w w2 : World} (h : Below w.heap.size w w2) : Moved g v v w w2 := ⟨h.os, h.tape, h.output, h.size, fun k hk _ _ => h.block k hk, .inl rfl⟩
theorem Moved.of_grown {g b n cap : Nat} {w w2 : World} (h : w.grownBy w2 (some b)) : Moved g (.slice (some ⟨b, 0, none⟩) n cap) (.slice (some ⟨b, 0, none⟩) n cap) w w2 :=
  ⟨h.os, h.tape, h.output, h.size, fun k hk _ hn => h.block k hk (fun e => hn (by rw [e]; rfl)), .inl rfl⟩
theorem Moved.trans {g : Nat} {v v2 v3 : Value} {w w2 w3 : World} (h : Moved g v v2 w w2) (k : Moved g v2 v3 w2 w3) : Moved g v v3 w w3 := by
  refine ⟨k.os.trans h.os, k.tape.trans h.tape, k.output.trans h.output, Nat.le_trans h.size k.size, fun i hi hg hv => ?_, ?_⟩
  · rw [k.block i (Nat.lt_of_lt_of_le hi h.size) hg (fun e => ?_), h.block i hi hg hv]
    rcases h.own with q | ⟨b, q, hb⟩
    · rw [q] at e; exact hv e
    · rw [q] at e; injection e with e; omega
  · rcases k.own with q | ⟨b, q, hb⟩
    · rw [q]; exact h.own
    · exact .inr ⟨b, q, Nat.le_trans h.size hb⟩
theorem HeapAt.drew {w : World} {g o : Nat} {t : TypeId} {cs : Array Value} {v : Value} {xs : List P2} (h : HeapAt w g o t cs v xs) : HeapAt w.drew g o t cs v xs := ⟨h.blk, h.at_, h.row, h.ne⟩
theorem Moved.drew {g : Nat} {v v2 : Value} {w w2 : World} (h : Moved g v v2 w w2) : Moved g v v2 w w2.drew := ⟨h.os, h.tape, h.output, h.size, h.block, h.own⟩
theorem info_one : (Try.prog.info? 59).map (fun i => (i.zero, i.size, i.bytes)) = some (some (.agg #[.int .i64 0, .int .i64 0]), 2, 16) := by kernel_rfl
set_option maxHeartbeats 400000 in
theorem len_any (A : Option Addr) (n cap : Nat) (w : World) :
    Calls Try.prog 50 #[.slice A n cap] w fun e w' => e = .returned (.int .i64 n) ∧ w = w' := by
  go_enter Try.func50, Try.ntmps50
  go_wp2
  go_ret
  exact ⟨rfl, rfl⟩
theorem reads_new2 (w : World) (u1 u2 : Value) (t : TypeId) : Reads (w.alloc (.cells #[u1, u2] t)) (w.heap.size + 1) 2 (some ⟨w.heap.size, 0, none⟩) 1 [u1, u2] := by
  refine ⟨rfl, fun _ => ⟨_, rfl, by simp, fun j v hv => ?_⟩⟩
  have hadd : (⟨w.heap.size, 0, none⟩ : Addr).add j = ⟨w.heap.size, j, none⟩ := by unfold Addr.add; split <;> simp_all
  rw [hadd, cell_of_row _ _ _ _ _ _ (heap_alloc_new w _), ← hv]
  simp
theorem assert_one2 (a b : Int) (w : World) : (Instr.typeAssert (.iface 59 (.agg #[.int .i64 a, .int .i64 b])) 20 59 true).run Try.prog w = .ok (.tuple #[.agg #[.int .i64 a, .int .i64 b], .bool true]) w := by kernel_rfl
theorem assert_one1 (a b : Int) (w : World) : (Instr.typeAssert (.iface 59 (.agg #[.int .i64 a, .int .i64 b])) 20 59 false).run Try.prog w = .ok (.agg #[.int .i64 a, .int .i64 b]) w := by kernel_rfl
theorem HeapAt.free {w : World} {g o : Nat} {t : TypeId} {cs : Array Value} {v : Value} {xs : List P2} (h : HeapAt w g o t cs v xs) : w.frozen? ⟨g, o, none⟩ = false := h.blk.frozen o
/-- What is known behind the append: the cell, free; the heap once the new row is stored; what may have turned. -/
theorem push_facts {g o : Nat} {t : TypeId} {cs : Array Value} {v v2 : Value} {xs : List P2} {x : P2} {w w2 : World} {A B : Obj} (h : HeapAt w g o t cs v xs)
    (hown : w2.ownsRow 0 59 2 v2 (xs.length + 1) (ocells xs ++ [.int .i64 x.1, .int .i64 x.2])) (hg : ((w.alloc A).alloc B).drew.grownBy w2 v.ownBlock)
    (hat : v2.ownBlock = v.ownBlock ∨ v2.ownBlock = some ((w.alloc A).alloc B).drew.heap.size) :
    w2.cell? ⟨g, o, none⟩ = some v ∧ w2.frozen? ⟨g, o, none⟩ = false ∧ HeapAt (w2.setCell ⟨g, o, none⟩ v2) g o t (cs.setIfInBounds o v2) v2 (xs ++ [x]) ∧ Moved g v v2 w (w2.setCell ⟨g, o, none⟩ v2) := by
  have hgl := h.blk.lt
  have hne : some g ≠ v.ownBlock := fun e => own_blk_ne h.row h.blk h.ne e.symm
  have hb2 : Blk w2 g t cs := ((h.blk.alloc A).alloc B).drew.grown hg hne
  have ho : cs.size ≠ o ∧ o < cs.size := by
    have := (Array.getElem?_eq_some_iff.1 h.at_).1
    omega
  refine ⟨by rw [hb2.cell]; exact h.at_, hb2.frozen o, ⟨hb2.set_ o v2, by simp [ho.2], ?_, h.ne⟩, ?_⟩
  · have hr : Row w2 v2 (xs ++ [x]) := by
      unfold Row
      rw [ocells_append, List.length_append]
      exact hown
    refine World.ownsRow.kept hr (row := some g) ⟨rfl, rfl, rfl, by simp [World.setCell], fun k _ hk => Below.heap_setCell _ _ _ _ (fun e => hk (by rw [e]))⟩ ?_
    right
    exact own_blk_ne hown hb2 h.ne
  · refine ⟨hg.os, hg.tape, hg.output, ?_, fun k hk hkg hkv => ?_, ?_⟩
    · have := hg.size
      simp only [World.setCell, Array.size_modify]
      exact Nat.le_trans (by simp; omega) this
    · rw [Below.heap_setCell _ _ _ _ hkg, hg.block k (Nat.lt_of_lt_of_le hk (by simp; omega)) (fun e => hkv e.symm)]
      show ((w.alloc A).alloc B).heap[k]? = _
      rw [Below.heap_alloc _ _ _ (by simp; omega), Below.heap_alloc _ _ _ hk]
    · rcases hat with e | e
      · exact .inl e
      · exact .inr ⟨_, e, by simp; omega⟩
set_option maxHeartbeats 1000000 in
theorem push_any (g o : Nat) (t : TypeId) (cs : Array Value) (v : Value) (xs : List P2) (x : P2) (w : World) (h : HeapAt w g o t cs v xs) (hm : xs.length ≤ 1000) :
    Calls Try.prog 57 #[.pointer (some ⟨g, o, none⟩), .iface 59 (.agg #[.int .i64 x.1, .int .i64 x.2])] w fun e w' => ∃ W v2, e = .returned (.tuple #[]) ∧ W = w' ∧ HeapAt W g o t (cs.setIfInBounds o v2) v2 (xs ++ [x]) ∧ Moved g v v2 w W := by
  obtain ⟨i0, hi, hz0, hz1, hz2⟩ := info_parts info_one
  have hc := h.cell
  have H := Lib.hid h
  have I := Lib.hid (And.intro hi (And.intro hz0 (And.intro hz1 hz2)))
  have hta := assert_one2 x.1 x.2
  clear h hi hz0 hz1 hz2
  go_enter Try.func57, Try.ntmps57
  go_wp2
  clear hta
  have hc1 : (w.alloc (.cells #[.int .i64 x.1, .int .i64 x.2] 59)).cell? ⟨g, o, none⟩ = some v := (World.cell?_alloc_lt w _ _ (World.block_lt_of_cell? w _ hc)).trans hc
  have hr : Reads (((w.alloc (.cells #[.int .i64 x.1, .int .i64 x.2] 59)).alloc (.cells #[.int .i64 x.1, .int .i64 x.2] 59)).drew) (w.heap.size + 2) 2 (some ⟨w.heap.size + 1, 0, none⟩) 1 [.int .i64 x.1, .int .i64 x.2] := by
    have := reads_new2 (w.alloc (.cells #[.int .i64 x.1, .int .i64 x.2] 59)) (.int .i64 x.1) (.int .i64 x.2) 59
    simp only [World.size_alloc] at this
    exact this
  have ho : (((w.alloc (.cells #[.int .i64 x.1, .int .i64 x.2] 59)).alloc (.cells #[.int .i64 x.1, .int .i64 x.2] 59)).drew).ownsRow 0 59 2 v xs.length (ocells xs) := (World.ownsRow.alloc (World.ownsRow.alloc H.out.row _) _).drew
  have h1c : ∀ u ∈ [Value.int .i64 x.1, .int .i64 x.2], u.oneCell' = true := by simp [Value.oneCell']
  have hc2 := (World.cell?_alloc_lt (w.alloc (.cells #[.int .i64 x.1, .int .i64 x.2] 59)) (.cells #[.int .i64 x.1, .int .i64 x.2] 59) _ (World.block_lt_of_cell? _ _ hc1)).trans hc1
  have HR := Lib.hid hr
  have HO := Lib.hid ho
  have H1 := Lib.hid h1c
  clear hr ho h1c
  go_region_law ((refine step_append_any _ rfl (.tmp 15) (.tmp 17) 54 rfl 0 59 i0 (.agg #[.int .i64 0, .int .i64 0]) 2 16 Try.underlying54 I.out.1 I.out.2.1 I.out.2.2.1 I.out.2.2.2 rfl (by omega) v xs.length (ocells xs) (by simp [Act.eval, Act.put]) HO.out _ (some ⟨w.heap.size + 1, 0, none⟩) 1 1 [.int .i64 x.1, .int .i64 x.2] (by simp [Act.eval, Act.put]) HR.out H1.out (by simp only [maxLen]; omega) (by omega) (Nat.zero_le _) ?_; intro v2 w2 hown2 hg2 hat2; have F := Lib.hid (push_facts H.out hown2 hg2 hat2); obtain ⟨b2, c2, hv2, _, _⟩ := hown2.form (by omega); have FC := F.out.1; have FF := F.out.2.1; clear hown2 hg2 hat2; rw [hv2]))
  all_goals (go_end0; rw [← hv2]; exact ⟨_, _, rfl, rfl, F.out.2.2.1, F.out.2.2.2⟩)
theorem Row.pop {w : World} {b n cap : Nat} {ys : List P2} {x : P2} (h : Row w (.slice (some ⟨b, 0, none⟩) (n + 1) cap) (ys ++ [x])) (hn : ys.length = n) : Row w (.slice (some ⟨b, 0, none⟩) n cap) ys := by
  subst hn
  unfold Row at h ⊢
  obtain ⟨h1, h2⟩ := h
  refine ⟨ocells_length ys, ?_⟩
  rcases h2 with ⟨h2, _⟩ | ⟨g, cap', cur, hv, hb, hg, hn, hc, hs, ht⟩
  · cases h2
  · injection hv with hv1 hv2 hv3
    injection hv1 with hv1
    injection hv1 with hv1
    subst hv1; subst hv3
    refine .inr ⟨b, cap, cur, rfl, hb, hg, by simp at hn; omega, hc, hs, ?_⟩
    rw [ocells_append] at ht
    have := congrArg (List.take (ys.length * 2)) ht
    rw [List.take_take, List.take_left' (ocells_length ys)] at this
    rw [← this]
    congr 1
    simp
theorem pop_facts {g o b n cap : Nat} {t : TypeId} {cs : Array Value} {ys : List P2} {x : P2} {w : World} {A : Array Value} {ta : TypeId} (h : HeapAt w g o t cs (.slice (some ⟨b, 0, none⟩) (n + 1) cap) (ys ++ [x])) (hn : ys.length = n) :
    HeapAt ((w.alloc (.cells A ta)).setCell ⟨g, o, none⟩ (.slice (some ⟨b, 0, none⟩) n cap)) g o t (cs.setIfInBounds o (.slice (some ⟨b, 0, none⟩) n cap)) (.slice (some ⟨b, 0, none⟩) n cap) ys ∧
      Moved g (.slice (some ⟨b, 0, none⟩) (n + 1) cap) (.slice (some ⟨b, 0, none⟩) n cap) w ((w.alloc (.cells A ta)).setCell ⟨g, o, none⟩ (.slice (some ⟨b, 0, none⟩) n cap)) ∧
      (∀ j, ((w.alloc (.cells A ta)).setCell ⟨g, o, none⟩ (.slice (some ⟨b, 0, none⟩) n cap)).cell? ⟨w.heap.size, j, none⟩ = A[j]?) := by
  have hgl := h.blk.lt
  have ho : o < cs.size := (Array.getElem?_eq_some_iff.1 h.at_).1
  have hb2 := h.blk.alloc (.cells A ta)
  have hgb : g ≠ b := fun e => own_blk_ne h.row h.blk h.ne (by rw [e]; rfl)
  refine ⟨⟨hb2.set_ o _, by simp [ho], ?_, h.ne⟩, ⟨rfl, rfl, rfl, by simp [World.setCell], fun k hk hkg _ => ?_, .inl rfl⟩, fun j => ?_⟩
  · have hr := Row.pop (World.ownsRow.alloc h.row (.cells A ta) : Row _ _ _) hn
    refine World.ownsRow.kept hr (row := some g) ⟨rfl, rfl, rfl, by simp [World.setCell], fun k _ hk => Below.heap_setCell _ _ _ _ (fun e => hk (by rw [e]))⟩ (.inr fun e => hgb ?_)
    simp only [Value.ownBlock, Option.some.injEq] at e
    exact e.symm
  · rw [Below.heap_setCell _ _ _ _ hkg, Below.heap_alloc _ _ _ hk]
  · have : Blk ((w.alloc (.cells A ta)).setCell ⟨g, o, none⟩ (.slice (some ⟨b, 0, none⟩) n cap)) w.heap.size ta A := (Blk.new w ta A).far (by simp; omega) _
    exact this.cell j
set_option maxHeartbeats 1000000 in
theorem pop_any (g o b n cap : Nat) (t : TypeId) (cs : Array Value) (ys : List P2) (x : P2) (w : World) (h : HeapAt w g o t cs (.slice (some ⟨b, 0, none⟩) (n + 1) cap) (ys ++ [x])) (hn : ys.length = n) (hm : n ≤ 1000) (hcap : n < cap) :
    Calls Try.prog 56 #[.pointer (some ⟨g, o, none⟩)] w fun e w' => ∃ W v2, e = .returned (.iface 59 (.agg #[.int .i64 x.1, .int .i64 x.2])) ∧ W = w' ∧ v2 = .slice (some ⟨b, 0, none⟩) n cap ∧ HeapAt W g o t (cs.setIfInBounds o v2) v2 ys ∧ Moved g (.slice (some ⟨b, 0, none⟩) (n + 1) cap) v2 w W := by
  have hc := h.cell
  have hf := h.free
  obtain ⟨a1, a2⟩ := h.row.at_ (by rw [List.length_append, hn]; rfl) n (by omega)
  have hx : gp (ys ++ [x]) n = x := by subst hn; simp [gp, List.getD_eq_getElem?_getD]
  rw [hx] at a1 a2
  have old (p : Addr) (u : Value) (hp : w.cell? p = some u) (o' : Obj) : (w.alloc o').cell? p = some u := (World.cell?_alloc_lt w o' p (World.block_lt_of_cell? w p hp)).trans hp
  have hc' := old _ _ hc (.cells #[.int .i64 0, .int .i64 0] 59)
  have a1' := old _ _ a1 (.cells #[.int .i64 0, .int .i64 0] 59)
  have a2' := old _ _ a2 (.cells #[.int .i64 0, .int .i64 0] 59)
  have hc2 := old _ _ hc (.cells #[.int .i64 x.1, .int .i64 x.2] 59)
  have hf2 : (w.alloc (.cells #[.int .i64 x.1, .int .i64 x.2] 59)).frozen? ⟨g, o, none⟩ = false := (h.blk.alloc _).frozen o
  have hwr : IntKind.i64.wrap (n : Int) = n := IntWalk.i64_in _ (by omega)
  have F := pop_facts (A := #[.int .i64 x.1, .int .i64 x.2]) (ta := 59) h hn
  have l1 := F.2.2 0
  have l2 := F.2.2 1
  simp only [List.getElem?_toArray, List.getElem?_cons_zero, List.getElem?_cons_succ] at l1 l2
  have HF := Lib.hid (And.intro F.1 F.2.1)
  clear h hx hn old F
  go_enter Try.func56, Try.ntmps56
  go_wp2
  go_region
  all_goals
    go_wp2
    go_region
    go_wp2
    go_ret
    exact ⟨_, _, rfl, rfl, rfl, HF.out.1.drew.drew, HF.out.2.drew.drew⟩
/-! ### container/heap -/
/-- What heap.Push makes of a list. -/
def hpush (xs : List P2) (x : P2) : List P2 := upP xs.length (xs ++ [x]) xs.length
theorem upP_length (f : Nat) (xs : List P2) (j : Nat) : (upP f xs j).length = xs.length := by
  induction f generalizing xs j with
  | zero => rfl
  | succ f ih =>
    simp only [upP]
    split
    · rfl
    · rw [ih, swapP_length]
theorem downP_length (m f : Nat) (xs : List P2) (k : Nat) : (downP m f xs k).1.length = xs.length := by
  induction f generalizing xs k with
  | zero => rfl
  | succ f ih =>
    simp only [downP]
    split
    · rfl
    · rw [ih, swapP_length]
theorem HeapAt.form_ {w : World} {g o : Nat} {t : TypeId} {cs : Array Value} {v : Value} {xs : List P2} (h : HeapAt w g o t cs v xs) (n : Nat) (hn : xs.length = n) (h0 : 0 < n) : ∃ b cap, v = .slice (some ⟨b, 0, none⟩) n cap ∧ n ≤ cap := by
  obtain ⟨b, cap, hv, hlt⟩ := h.row.form_ (by omega)
  rw [hn] at hv
  refine ⟨b, cap, hv, ?_⟩
  rcases h.row.2 with ⟨e, _⟩ | ⟨g', cap', cur, e, _, _, hc, _⟩
  · rw [hv] at e; cases e
  · rw [hv] at e
    injection e with _ _ e
    omega
theorem push_sl (g o : Nat) (t : TypeId) (cs : Array Value) (v : Value) (xs : List P2) (x : P2) (w : World) (h : HeapAt w g o t cs v xs) (hm : xs.length ≤ 1000) :
    Calls Try.prog 57 #[.pointer (some ⟨g, o, none⟩), .iface 59 (.agg #[.int .i64 x.1, .int .i64 x.2])] w fun e w' => ∃ W b c, e = .returned (.tuple #[]) ∧ W = w' ∧ HeapAt W g o t (cs.setIfInBounds o (.slice (some ⟨b, 0, none⟩) (xs.length + 1) c)) (.slice (some ⟨b, 0, none⟩) (xs.length + 1) c) (xs ++ [x]) ∧ Moved g v (.slice (some ⟨b, 0, none⟩) (xs.length + 1) c) w W := by
  refine (push_any g o t cs v xs x w h hm).mono fun e w' ⟨W, v2, he, hw, h1, q1⟩ => ?_
  obtain ⟨b1, c1, rfl, hc1⟩ := h1.form_ (xs.length + 1) (by rw [List.length_append]; rfl) (by omega)
  exact ⟨W, b1, c1, he, hw, h1, q1⟩
theorem HeapAt.cap_le {w : World} {g o b n cap : Nat} {t : TypeId} {cs : Array Value} {xs : List P2} (h : HeapAt w g o t cs (.slice (some ⟨b, 0, none⟩) n cap) xs) (hn : xs.length = n) : n ≤ cap := by
  subst hn
  rcases h.row.2 with ⟨e, _⟩ | ⟨g', cap', cur, e, _, _, hc, _⟩
  · cases e
  · injection e with _ _ e
    omega
set_option maxHeartbeats 1000000 in
theorem hpush_any (g o : Nat) (t : TypeId) (cs : Array Value) (v : Value) (xs : List P2) (x : P2) (w : World) (h : HeapAt w g o t cs v xs) (hm : xs.length ≤ 999) :
    Calls Try.prog 26 #[.iface 61 (.pointer (some ⟨g, o, none⟩)), .iface 59 (.agg #[.int .i64 x.1, .int .i64 x.2])] w fun e w' => ∃ W b c, e = .returned (.tuple #[]) ∧ W = w' ∧ HeapAt W g o t (cs.setIfInBounds o (.slice (some ⟨b, 0, none⟩) (xs.length + 1) c)) (.slice (some ⟨b, 0, none⟩) (xs.length + 1) c) (hpush xs x) ∧ Moved g v (.slice (some ⟨b, 0, none⟩) (xs.length + 1) c) w W := by
  have H := Lib.hid h
  have hMP := fun N (hN : 0 < N) => method_ptr "Push" _ m_push N hN ⟨g, o, none⟩ w
  clear h
  go_enter Try.func26, Try.ntmps26
  go_wp2_with (first
    | (go_at_call 57; (with_reducible refine (push_sl _ _ _ _ _ _ _ _ H.out (by omega)).mono ?_); rintro e w' ⟨w1, b1, c1, rfl, rfl, h1, q1⟩; have hML := fun N (hN : 0 < N) => method_val "Len" _ m_len N hN ⟨g, o, none⟩ w1 _ h1.cell; have H1 := Lib.hid h1; have Q1 := Lib.hid q1; clear h1 q1 hMP)
    | (go_at_call 50; (with_reducible refine (len_any _ _ _ _).mono ?_); rintro e w' ⟨rfl, rfl⟩)
    | (go_at_call 33; refine (up_any g o (xs.length + 1) c1 xs.length t _ b1 _ w1 H1.out (by rw [List.length_append]; rfl) (by omega) (by omega)).mono ?_; rintro e w' ⟨w2, rfl, rfl, h2, q2⟩))
  go_end0
  exact ⟨_, _, _, rfl, rfl, h2, Q1.out.trans (Moved.of_grown q2)⟩
/-- What heap.Fix makes of a list. -/
def hfix (xs : List P2) (i : Nat) : List P2 :=
  if i < (downP xs.length (xs.length - i) xs i).2 then (downP xs.length (xs.length - i) xs i).1 else upP i (downP xs.length (xs.length - i) xs i).1 i
set_option maxHeartbeats 1000000 in
theorem hfix_any (g o b n cap i : Nat) (t : TypeId) (cs : Array Value) (xs : List P2) (w : World) (h : HeapAt w g o t cs (.slice (some ⟨b, 0, none⟩) n cap) xs) (hn : xs.length = n) (hi : i < n) (hm : n ≤ 1000) :
    Calls Try.prog 25 #[.iface 61 (.pointer (some ⟨g, o, none⟩)), .int .i64 i] w fun e w' => ∃ W, e = .returned (.tuple #[]) ∧ W = w' ∧ HeapAt W g o t cs (.slice (some ⟨b, 0, none⟩) n cap) (hfix xs i) ∧ w.grownBy W (some b) := by
  subst hn
  have H := Lib.hid h
  have hML := fun N (hN : 0 < N) => method_val "Len" _ m_len N hN ⟨g, o, none⟩ w _ h.cell
  clear h
  by_cases hd : i < (downP xs.length (xs.length - i) xs i).2
  · have e : Hid (hfix xs i = (downP xs.length (xs.length - i) xs i).1) := if_pos hd
    go_enter Try.func25, Try.ntmps25
    go_wp2_with (first
      | (go_at_call 50; (with_reducible refine (len_any _ _ _ _).mono ?_); rintro e w' ⟨rfl, rfl⟩)
      | (go_at_call 32; refine (down_any g o xs.length cap i xs.length t _ b _ w H.out rfl hi (Nat.le_refl _) hm).mono ?_; rintro e w' ⟨w2, rfl, rfl, h2, q2⟩))
    go_end0
    exact ⟨_, rfl, rfl, by rw [e.out]; exact h2, q2⟩
  · have e : Hid (hfix xs i = upP i (downP xs.length (xs.length - i) xs i).1 i) := if_neg hd
    go_enter Try.func25, Try.ntmps25
    go_wp2_with (first
      | (go_at_call 50; (with_reducible refine (len_any _ _ _ _).mono ?_); rintro e w' ⟨rfl, rfl⟩)
      | (go_at_call 32; refine (down_any g o xs.length cap i xs.length t _ b _ w H.out rfl hi (Nat.le_refl _) hm).mono ?_; rintro e w' ⟨w2, rfl, rfl, h2, q2⟩)
      | (go_at_call 33; refine (up_any g o xs.length cap i t _ b _ w2 h2 (downP_length _ _ _ _) hi hm).mono ?_; rintro e w' ⟨w3, rfl, rfl, h3, q3⟩))
    go_end0
    exact ⟨_, rfl, rfl, by rw [e.out]; exact h3, grownBy_trans_ q2 q3⟩
/-- What heap.Pop makes of a list of n + 1: swapped, brought in order, the last one taken off. -/
def hpop0 (xs : List P2) (n : Nat) : List P2 := (downP n (n - 0) (swapP xs 0 n) 0).1
theorem split_last (xs : List P2) (n : Nat) (h : xs.length = n + 1) : xs = xs.take n ++ [gp xs n] := by
  have e := (List.take_append_drop n xs).symm
  have hl : (xs.drop n).length = 1 := by rw [List.length_drop]; omega
  match hd : xs.drop n, hl with
  | [x], _ =>
    have hx : gp xs n = x := by
      have : xs[n]? = some x := by
        have := congrArg (fun l => l[0]?) hd
        simpa [List.getElem?_drop] using this
      simp [gp, List.getD_eq_getElem?_getD, this]
    rw [hx, ← hd]
    exact e
theorem swap_at (g n cap i j : Nat) (I J : Int) (xs : List P2) (w : World) (h : Row w (.slice (some ⟨g, 0, none⟩) n cap) xs) (hI : I = i) (hJ : J = j) (hn : xs.length = n) (hi : i < n) (hj : j < n) (hm : n ≤ 1000) :
    Calls Try.prog 52 #[.slice (some ⟨g, 0, none⟩) n cap, .int .i64 I, .int .i64 J] w fun e w' => ∃ W, e = .returned (.tuple #[]) ∧ W = w' ∧ Row W (.slice (some ⟨g, 0, none⟩) n cap) (swapP xs i j) ∧ w.grownBy W (some g) := by
  subst hI; subst hJ
  exact swap_all g n cap i j xs w h hn hi hj hm
theorem down_at (g o n cap i0 m : Nat) (I M : Int) (t : TypeId) (cs : Array Value) (b : Nat) (xs : List P2) (w : World) (h : HeapAt w g o t cs (.slice (some ⟨b, 0, none⟩) n cap) xs) (hI : I = i0) (hM : M = m) (hn : xs.length = n) (hi : i0 < n) (hmn : m ≤ n) (hm : n ≤ 1000) :
    Calls Try.prog 32 #[.iface 61 (.pointer (some ⟨g, o, none⟩)), .int .i64 I, .int .i64 M] w fun e w' => ∃ W, e = .returned (.bool (decide (i0 < (downP m (m - i0) xs i0).2))) ∧ W = w' ∧ HeapAt W g o t cs (.slice (some ⟨b, 0, none⟩) n cap) (downP m (m - i0) xs i0).1 ∧ w.grownBy W (some b) := by
  subst hI; subst hM
  exact down_any g o n cap i0 m t cs b xs w h hn hi hmn hm
theorem pop_ready {w : World} {g o n : Nat} {t : TypeId} {cs : Array Value} {v : Value} {xs ys : List P2} (h : HeapAt w g o t cs v (downP n (n - 0) (swapP xs 0 n) 0).1) (hs : hpop0 xs n = ys) : HeapAt w g o t cs v ys := by
  subst hs
  exact h
set_option maxHeartbeats 1000000 in
theorem hpop_any (g o b n cap : Nat) (t : TypeId) (cs : Array Value) (xs : List P2) (w : World) (h : HeapAt w g o t cs (.slice (some ⟨b, 0, none⟩) (n + 1) cap) xs) (hn : xs.length = n + 1) (hm : n < 1000) :
    Calls Try.prog 28 #[.iface 61 (.pointer (some ⟨g, o, none⟩))] w fun e w' => ∃ W, e = .returned (.iface 59 (.agg #[.int .i64 (gp (hpop0 xs n) n).1, .int .i64 (gp (hpop0 xs n) n).2])) ∧ W = w' ∧ HeapAt W g o t (cs.setIfInBounds o (.slice (some ⟨b, 0, none⟩) n cap)) (.slice (some ⟨b, 0, none⟩) n cap) ((hpop0 xs n).take n) ∧ Moved g (.slice (some ⟨b, 0, none⟩) (n + 1) cap) (.slice (some ⟨b, 0, none⟩) n cap) w W := by
  have hcap := h.cap_le hn
  have H := Lib.hid h
  have HN := Lib.hid hn
  have hML := fun N (hN : 0 < N) => method_val "Len" _ m_len N hN ⟨g, o, none⟩ w _ h.cell
  have hMS := fun N (hN : 0 < N) => method_val "Swap" _ m_swap N hN ⟨g, o, none⟩ w _ h.cell
  have hl : (hpop0 xs n).length = n + 1 := by unfold hpop0; rw [downP_length, swapP_length, hn]
  have HS := Lib.hid (split_last _ n hl)
  have HL : Hid (((hpop0 xs n).take n).length = n) := Lib.hid (by rw [List.length_take]; omega)
  have HZ := Lib.hid (show (0 : Int) = ((0 : Nat) : Int) from rfl)
  clear h hn hl
  go_enter Try.func28, Try.ntmps28
  go_wp2_with (first
    | (go_at_call 50; (with_reducible refine (len_any _ _ _ _).mono ?_); rintro e w' ⟨rfl, rfl⟩)
    | (go_at_call 52; (with_reducible refine (swap_at b (n + 1) cap 0 n _ _ xs _ H.out.row HZ.out rfl HN.out (by omega) (by omega) (by omega)).mono ?_); rintro e w' ⟨w1, rfl, rfl, hr1, hg1⟩; have H1 := Lib.hid (H.out.moved hg1 hr1); clear hr1 hML hMS)
    | (go_at_call 32; ((with_reducible refine (down_at g o (n + 1) cap 0 n _ _ t _ b _ w1 H1.out HZ.out rfl ((swapP_length _ _ _).trans HN.out) (by omega) (by omega) (by omega)).mono ?_); rintro e w' ⟨w2, rfl, rfl, h2, q2⟩; have hMP := fun N (hN : 0 < N) => method_ptr "Pop" _ m_pop N hN ⟨g, o, none⟩ w2; have H2 := Lib.hid (pop_ready h2 HS.out); clear h2))
    | (go_at_call 56; (with_reducible refine (pop_any _ _ _ _ _ _ _ _ _ _ H2.out HL.out (by omega) (by omega)).mono ?_); rintro e w' ⟨w3, v3, rfl, rfl, hv3, h3, q3⟩))
  go_ret
  subst hv3
  exact ⟨_, rfl, rfl, h3, (Moved.of_grown (grownBy_trans_ hg1 q2)).trans q3⟩
end Go.Proofs.Ytkjjdbbogfjdlaa
