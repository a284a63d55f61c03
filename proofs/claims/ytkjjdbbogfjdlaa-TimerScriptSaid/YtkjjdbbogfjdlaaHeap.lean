/-
  The walks of container/heap over a *timer.moments: up, down, Push, Pop, Fix, Remove.
-/
import Derived.Test.YtkjjdbbogfjdlaaOne
namespace Go.Proofs.Ytkjjdbbogfjdlaa
set_option linter.unusedVariables false
set_option linter.unusedSimpArgs false
open Go.RowKit
/-! ### Which function an interface value's method is -/
theorem wrap_chk (ts : Array TypeId) (t : TypeId) (p : Addr) (s s' : String) : Builtin.ssaWrapNilChk_ ts t #[.pointer (some p), strVal s, strVal s'] = pure (.pointer (some p)) := rfl
theorem method_val (name : String) (f : FuncId) (hm : (Try.prog.info? 61).bind (fun i => (i.methods.find? (·.name == name)).map (fun m => (m.path.size, m.func))) = some (0, some (f, false)))
    (n : Nat) (hn : 0 < n) (p : Addr) (w : World) (v : Value) (hc : w.cell? p = some v) : (method n 61 (.pointer (some p)) name).run Try.prog w = .ok (f, v) w := by
  obtain ⟨i, hi, hm⟩ := Option.bind_eq_some_iff.1 hm
  obtain ⟨m, hf, he⟩ := Option.map_eq_some_iff.1 hm
  simp only [Prod.mk.injEq] at he
  have hp : m.path = #[] := Array.eq_empty_of_size_eq_zero he.1
  obtain ⟨k, rfl⟩ : ∃ k, n = k + 1 := ⟨n - 1, by omega⟩
  simp [method, typeInfo, hi, hf, hp, he.2, follow, receiverAt, Place.get, run_underlying Try.underlying61, wrap_chk, asAddr, loadVar, isAgg, go_sem, hc]
theorem method_ptr (name : String) (f : FuncId) (hm : (Try.prog.info? 61).bind (fun i => (i.methods.find? (·.name == name)).map (fun m => (m.path.size, m.func))) = some (0, some (f, true)))
    (n : Nat) (hn : 0 < n) (p : Addr) (w : World) : (method n 61 (.pointer (some p)) name).run Try.prog w = .ok (f, .pointer (some p)) w := by
  obtain ⟨i, hi, hm⟩ := Option.bind_eq_some_iff.1 hm
  obtain ⟨m, hf, he⟩ := Option.map_eq_some_iff.1 hm
  simp only [Prod.mk.injEq] at he
  have hp : m.path = #[] := Array.eq_empty_of_size_eq_zero he.1
  obtain ⟨k, rfl⟩ : ∃ k, n = k + 1 := ⟨n - 1, by omega⟩
  simp [method, typeInfo, hi, hf, hp, he.2, follow, receiverAt, Place.get, run_underlying Try.underlying61]
theorem m_less : (Try.prog.info? 61).bind (fun i => (i.methods.find? (·.name == "Less")).map (fun m => (m.path.size, m.func))) = some (0, some (51, false)) := by kernel_rfl
theorem m_swap : (Try.prog.info? 61).bind (fun i => (i.methods.find? (·.name == "Swap")).map (fun m => (m.path.size, m.func))) = some (0, some (52, false)) := by kernel_rfl
theorem m_len : (Try.prog.info? 61).bind (fun i => (i.methods.find? (·.name == "Len")).map (fun m => (m.path.size, m.func))) = some (0, some (50, false)) := by kernel_rfl
theorem m_push : (Try.prog.info? 61).bind (fun i => (i.methods.find? (·.name == "Push")).map (fun m => (m.path.size, m.func))) = some (0, some (57, true)) := by kernel_rfl
theorem m_pop : (Try.prog.info? 61).bind (fun i => (i.methods.find? (·.name == "Pop")).map (fun m => (m.path.size, m.func))) = some (0, some (56, true)) := by kernel_rfl
/-- A slice of moments that lies in cell o of block g; the block's type is no moment's. -/
structure HeapAt (w : World) (g o : Nat) (t : TypeId) (cs : Array Value) (v : Value) (xs : List P2) : Prop where
  blk : Blk w g t cs
  at_ : cs[o]? = some v
  row : Row w v xs
  ne : 59 ≠ t
theorem HeapAt.cell {w : World} {g o : Nat} {t : TypeId} {cs : Array Value} {v : Value} {xs : List P2} (h : HeapAt w g o t cs v xs) : w.cell? ⟨g, o, none⟩ = some v := by
  rw [h.blk.cell]; exact h.at_
theorem HeapAt.below {w w1 : World} {g o : Nat} {t : TypeId} {cs : Array Value} {v : Value} {xs : List P2} (h : HeapAt w g o t cs v xs) (hb : Below w.heap.size w w1) : HeapAt w1 g o t cs v xs :=
  ⟨h.blk.below hb h.blk.lt, h.at_, h.row.below hb, h.ne⟩
theorem HeapAt.moved {w w1 : World} {g o b n cap : Nat} {t : TypeId} {cs : Array Value} {xs ys : List P2} (h : HeapAt w g o t cs (.slice (some ⟨b, 0, none⟩) n cap) xs) (hg : w.grownBy w1 (some b)) (hr : Row w1 (.slice (some ⟨b, 0, none⟩) n cap) ys) : HeapAt w1 g o t cs (.slice (some ⟨b, 0, none⟩) n cap) ys :=
  ⟨h.blk.grown hg (fun e => own_blk_ne h.row h.blk h.ne (by rw [e]; rfl)), h.at_, hr, h.ne⟩
theorem swapP_length (xs : List P2) (i j : Nat) : (swapP xs i j).length = xs.length := by simp [swapP]
/-- What 'up' makes of a list. -/
def upP : Nat → List P2 → Nat → List P2
  | 0, xs, _ => xs
  | k + 1, xs, j => if j = 0 ∨ lessP (gp xs j) (gp xs ((j - 1) / 2)) = false then xs else upP k (swapP xs ((j - 1) / 2) j) ((j - 1) / 2)
theorem upP_fuel (f : Nat) : ∀ (k : Nat) (xs : List P2), k ≤ f → upP f xs k = upP k xs k := by
  induction f using Nat.strongRecOn with
  | _ f ih =>
    intro k xs hk
    cases f with
    | zero => obtain rfl : k = 0 := by omega
              rfl
    | succ f =>
      cases k with
      | zero => simp [upP]
      | succ k =>
        simp only [upP]
        split
        · rfl
        · rw [ih f (by omega) _ _ (by omega), ih k (by omega) _ _ (by omega)]
theorem upP_stop (xs : List P2) (k : Nat) (h : lessP (gp xs (k + 1)) (gp xs (k / 2)) = false) : upP (k + 1) xs (k + 1) = xs := by
  simp [upP, h]
theorem upP_go (xs : List P2) (k : Nat) (h : lessP (gp xs (k + 1)) (gp xs (k / 2)) = true) : upP (k + 1) xs (k + 1) = upP (k / 2) (swapP xs (k / 2) (k + 1)) (k / 2) := by
  simp only [upP, Nat.add_sub_cancel, h]
  rw [if_neg (by simp), upP_fuel k (k / 2) _ (by omega)]
set_option maxHeartbeats 1000000 in
theorem up_any (g o n cap j : Nat) (t : TypeId) (cs : Array Value) (b : Nat) (xs : List P2) (w : World) (h : HeapAt w g o t cs (.slice (some ⟨b, 0, none⟩) n cap) xs) (hn : xs.length = n) (hj : j < n) (hm : n ≤ 1000) :
    Calls Try.prog 33 #[.iface 61 (.pointer (some ⟨g, o, none⟩)), .int .i64 j] w fun e w' => ∃ W, e = .returned (.tuple #[]) ∧ W = w' ∧ HeapAt W g o t cs (.slice (some ⟨b, 0, none⟩) n cap) (upP j xs j) ∧ w.grownBy W (some b) := by
  have H := Lib.hid h
  have HN := Lib.hid hn
  clear h hn
  go_enter Try.func33, Try.ntmps33
  go_wp2
  go_loopw [1, 4] (fun j' i wr => ∃ (k : Nat) (ys : List P2), k < n ∧ j' = .int .i64 k ∧ Hid (HeapAt wr g o t cs (.slice (some ⟨b, 0, none⟩) n cap) ys) ∧ Hid (ys.length = n) ∧ Hid (w.grownBy wr (some b)) ∧ Hid (upP k ys k = upP j xs j)) (fun j i _ => (intOf j).toNat)
  case atStart => exact ⟨j, xs, hj, rfl, H, HN, World.grownBy.refl _ _, rfl⟩
  case round =>
    obtain ⟨k, ys, hk, rfl, HH, HL, HG, HU⟩ := hrel
    cases k with
    | zero =>
      have e : Hid (ys = upP j xs j) := HU.out
      go_wp2
      go_end0
      exact ⟨_, rfl, rfl, by rw [← e.out]; exact HH.out, HG.out⟩
    | succ k =>
      have hdiv : (((k + 1 : Nat) : Int) - 1) / 2 = ((k / 2 : Nat) : Int) := by omega
      have hML := fun N (hN : 0 < N) => method_val "Less" _ m_less N hN ⟨g, o, none⟩ wr _ HH.out.cell
      have hk2 : k / 2 < n := by omega
      cases hl : lessP (gp ys (k + 1)) (gp ys (k / 2)) with
      | false =>
        have e : Hid (ys = upP j xs j) := by
          have := HU.out
          rw [upP_stop ys k hl] at this
          exact this
        have HL2 := Lib.hid hl
        clear hl
        go_wp2_with (go_at_call 51; refine (less_any b n cap (k + 1) (k / 2) ys _ HH.out.row HL.out hk hk2 hm).mono ?_; rintro e w' ⟨w1, rfl, rfl, hb1⟩; rw [HL2.out])
        go_end0
        exact ⟨_, rfl, rfl, by rw [← e.out]; exact HH.out.below hb1, grownBy_trans_ HG.out (only_of_below hb1 _)⟩
      | true =>
        have e : Hid (upP (k / 2) (swapP ys (k / 2) (k + 1)) (k / 2) = upP j xs j) := by
          have := HU.out
          rw [upP_go ys k hl] at this
          exact this
        have HL2 := Lib.hid hl
        have HKS : Hid ((k / 2 : Nat) ≠ k + 1) := by unfold Hid; omega
        clear hl
        go_wp2_with (first
          | (go_at_call 51; refine (less_any b n cap (k + 1) (k / 2) ys _ HH.out.row HL.out hk hk2 hm).mono ?_; rintro e w' ⟨w1, rfl, rfl, hb1⟩; rw [HL2.out]; have hMS := fun N (hN : 0 < N) => method_val "Swap" _ m_swap N hN ⟨g, o, none⟩ w1 _ (HH.out.below hb1).cell)
          | (go_at_call 52; refine (swap_all b n cap (k / 2) (k + 1) ys _ (HH.out.row.below hb1) HL.out hk2 hk hm).mono ?_; rintro e w' ⟨w2, rfl, rfl, hr2, hg2⟩))
        go_roundw
        case rel => exact ⟨k / 2, swapP ys (k / 2) (k + 1), hk2, rfl, (HH.out.below hb1).moved hg2 hr2, (swapP_length _ _ _).trans HL.out, grownBy_trans_ (grownBy_trans_ HG.out (only_of_below hb1 _)) hg2, e.out⟩
        case measure => simp [intOf]; omega
/-- The lesser one of the places below place k. -/
def kid (ys : List P2) (k m : Nat) : Nat := if 2 * k + 1 + 1 < m ∧ lessP (gp ys (2 * k + 1 + 1)) (gp ys (2 * k + 1)) = true then 2 * k + 1 + 1 else 2 * k + 1
/-- What 'down' makes of a list, and where it ends. -/
def downP (m : Nat) : Nat → List P2 → Nat → List P2 × Nat
  | 0, ys, k => (ys, k)
  | f + 1, ys, k => if m ≤ 2 * k + 1 ∨ lessP (gp ys (kid ys k m)) (gp ys k) = false then (ys, k) else downP m f (swapP ys k (kid ys k m)) (kid ys k m)
theorem kid_gt (ys : List P2) (k m : Nat) : k < kid ys k m := by unfold kid; split <;> omega
theorem downP_fuel (m f : Nat) : ∀ (ys : List P2) (k : Nat), m - k ≤ f → downP m f ys k = downP m (m - k) ys k := by
  induction f using Nat.strongRecOn with
  | _ f ih =>
    intro ys k hk
    cases f with
    | zero => rw [show m - k = 0 by omega]
    | succ f =>
      cases hm : m - k with
      | zero => simp only [downP]; rw [if_pos (by left; omega)]
      | succ q =>
        simp only [downP]
        have hg := kid_gt ys k m
        split
        · rfl
        · rw [ih f (by omega) _ _ (by omega), ih q (by omega) _ _ (by omega)]
theorem downP_out (ys : List P2) (k m : Nat) (h : m ≤ 2 * k + 1) : downP m (m - k) ys k = (ys, k) := by
  cases hm : m - k with
  | zero => rfl
  | succ q => simp only [downP]; rw [if_pos (by left; exact h)]
theorem downP_stop (ys : List P2) (k m j : Nat) (hj : kid ys k m = j) (h : lessP (gp ys j) (gp ys k) = false) : downP m (m - k) ys k = (ys, k) := by
  subst hj
  cases hm : m - k with
  | zero => rfl
  | succ q => simp only [downP]; rw [if_pos (by right; exact h)]
theorem downP_go (ys : List P2) (k m j : Nat) (hm : 2 * k + 1 < m) (hj : kid ys k m = j) (h : lessP (gp ys j) (gp ys k) = true) : downP m (m - k) ys k = downP m (m - j) (swapP ys k j) j := by
  subst hj
  have hg := kid_gt ys k m
  obtain ⟨q, hq⟩ : ∃ q, m - k = q + 1 := ⟨m - k - 1, by omega⟩
  rw [hq]
  simp only [downP]
  rw [if_neg (by simp [h]; omega), downP_fuel m q _ _ (by omega)]
set_option maxHeartbeats 4000000 in
theorem down_any (g o n cap i0 m : Nat) (t : TypeId) (cs : Array Value) (b : Nat) (xs : List P2) (w : World) (h : HeapAt w g o t cs (.slice (some ⟨b, 0, none⟩) n cap) xs) (hn : xs.length = n) (hi : i0 < n) (hmn : m ≤ n) (hm : n ≤ 1000) :
    Calls Try.prog 32 #[.iface 61 (.pointer (some ⟨g, o, none⟩)), .int .i64 i0, .int .i64 m] w fun e w' => ∃ W, e = .returned (.bool (decide (i0 < (downP m (m - i0) xs i0).2))) ∧ W = w' ∧ HeapAt W g o t cs (.slice (some ⟨b, 0, none⟩) n cap) (downP m (m - i0) xs i0).1 ∧ w.grownBy W (some b) := by
  have H := Lib.hid h
  have HN := Lib.hid hn
  clear h hn
  go_enter Try.func32, Try.ntmps32
  go_wp2
  go_loopw [7, 8, 9, 10] (fun i' j1 jj j2 wr => ∃ (k : Nat) (ys : List P2), k < n ∧ i' = .int .i64 k ∧ Hid (HeapAt wr g o t cs (.slice (some ⟨b, 0, none⟩) n cap) ys) ∧ Hid (ys.length = n) ∧ Hid (w.grownBy wr (some b)) ∧ Hid (downP m (m - k) ys k = downP m (m - i0) xs i0)) (fun i _ _ _ _ => n - (intOf i).toNat)
  case atStart => exact ⟨i0, xs, hi, rfl, H, HN, World.grownBy.refl _ _, rfl⟩
  case round =>
    obtain ⟨k, ys, hk, rfl, HH, HL, HG, HU⟩ := hrel
    by_cases hout : m ≤ 2 * k + 1
    · have e : Hid ((ys, k) = downP m (m - i0) xs i0) := by
        have := HU.out
        rwa [downP_out ys k m hout] at this
      have e1 : Hid (ys = (downP m (m - i0) xs i0).1) := by rw [← e.out]; rfl
      have e2 : Hid (k = (downP m (m - i0) xs i0).2) := by rw [← e.out]; rfl
      go_wp2
      go_ret
      have p1 := HH.out
      have p2 := HG.out
      rw [e1.out] at p1
      first | exact ⟨_, by rw [← e2.out]; rfl, rfl, p1, p2⟩ | exact ⟨by rw [← e2.out]; rfl, p1, p2⟩
    · have hin : 2 * k + 1 < m := by omega
      have k1 : 2 * k + 1 < n := by omega
      clear hout
      have hML := fun N (hN : 0 < N) => method_val "Less" _ m_less N hN ⟨g, o, none⟩ wr _ HH.out.cell
      by_cases h2 : 2 * k + 1 + 1 < m
      · have k2 : 2 * k + 1 + 1 < n := by omega
        cases hl : lessP (gp ys (2 * k + 1 + 1)) (gp ys (2 * k + 1)) with
        | true =>
          have hkid : Hid (kid ys k m = 2 * k + 1 + 1) := if_pos ⟨h2, hl⟩
          have HL1 := Lib.hid hl
          clear hl
          cases hlb : lessP (gp ys (2 * k + 1 + 1)) (gp ys k) with
          | false =>
            have e : Hid ((ys, k) = downP m (m - i0) xs i0) := by
              have := HU.out
              rwa [downP_stop ys k m _ hkid.out hlb] at this
            have e1 : Hid (ys = (downP m (m - i0) xs i0).1) := by rw [← e.out]; rfl
            have e2 : Hid (k = (downP m (m - i0) xs i0).2) := by rw [← e.out]; rfl
            have HLB := Lib.hid hlb
            clear hlb
            have tok1 : True := trivial
            go_wp2_with (first
              | (go_at_call 51; have _t := tok1; refine (less_any b n cap (2 * k + 1 + 1) (2 * k + 1) ys _ HH.out.row HL.out k2 k1 hm).mono ?_; rintro e w' ⟨w1, rfl, rfl, hb1⟩; rw [HL1.out]; have hML2 := fun N (hN : 0 < N) => method_val "Less" _ m_less N hN ⟨g, o, none⟩ w1 _ (HH.out.below hb1).cell; clear tok1)
              | (go_at_call 51; refine (less_any b n cap (2 * k + 1 + 1) (k) ys _ (HH.out.row.below hb1) HL.out k2 hk hm).mono ?_; rintro e w' ⟨w2, rfl, rfl, hb2⟩; rw [HLB.out]))
            go_ret
            have p1 := HH.out.below (hb1.trans (hb2.mono hb1.size))
            have p2 := grownBy_trans_ HG.out (only_of_below (hb1.trans (hb2.mono hb1.size)) _)
            rw [e1.out] at p1
            first | exact ⟨_, by rw [← e2.out]; rfl, rfl, p1, p2⟩ | exact ⟨by rw [← e2.out]; rfl, p1, p2⟩
          | true =>
            have e : Hid (downP m (m - (2 * k + 1 + 1)) (swapP ys k (2 * k + 1 + 1)) (2 * k + 1 + 1) = downP m (m - i0) xs i0) := by
              have := HU.out
              rwa [downP_go ys k m _ hin hkid.out hlb] at this
            have HLB := Lib.hid hlb
            clear hlb
            have tok1 : True := trivial
            go_wp2_with (first
              | (go_at_call 51; have _t := tok1; refine (less_any b n cap (2 * k + 1 + 1) (2 * k + 1) ys _ HH.out.row HL.out k2 k1 hm).mono ?_; rintro e w' ⟨w1, rfl, rfl, hb1⟩; rw [HL1.out]; have hML2 := fun N (hN : 0 < N) => method_val "Less" _ m_less N hN ⟨g, o, none⟩ w1 _ (HH.out.below hb1).cell; clear tok1)
              | (go_at_call 51; refine (less_any b n cap (2 * k + 1 + 1) (k) ys _ (HH.out.row.below hb1) HL.out k2 hk hm).mono ?_; rintro e w' ⟨w2, rfl, rfl, hb2⟩; rw [HLB.out]; have hMS := fun N (hN : 0 < N) => method_val "Swap" _ m_swap N hN ⟨g, o, none⟩ w2 _ (HH.out.below (hb1.trans (hb2.mono hb1.size))).cell)
              | (go_at_call 52; refine (swap_all b n cap k (2 * k + 1 + 1) ys _ (HH.out.row.below (hb1.trans (hb2.mono hb1.size))) HL.out hk k2 hm).mono ?_; rintro e w' ⟨w3, rfl, rfl, hr3, hg3⟩))
            go_roundw
            case rel => exact ⟨2 * k + 1 + 1, swapP ys k (2 * k + 1 + 1), k2, by go_num, (HH.out.below (hb1.trans (hb2.mono hb1.size))).moved hg3 hr3, (swapP_length _ _ _).trans HL.out, grownBy_trans_ (grownBy_trans_ HG.out (only_of_below (hb1.trans (hb2.mono hb1.size)) _)) hg3, e.out⟩
            case measure => simp [intOf]; omega
        | false =>
          have hkid : Hid (kid ys k m = 2 * k + 1) := if_neg (fun q => by rw [hl] at q; exact absurd q.2 (by decide))
          have HL1 := Lib.hid hl
          clear hl
          cases hlb : lessP (gp ys (2 * k + 1)) (gp ys k) with
          | false =>
            have e : Hid ((ys, k) = downP m (m - i0) xs i0) := by
              have := HU.out
              rwa [downP_stop ys k m _ hkid.out hlb] at this
            have e1 : Hid (ys = (downP m (m - i0) xs i0).1) := by rw [← e.out]; rfl
            have e2 : Hid (k = (downP m (m - i0) xs i0).2) := by rw [← e.out]; rfl
            have HLB := Lib.hid hlb
            clear hlb
            have tok1 : True := trivial
            go_wp2_with (first
              | (go_at_call 51; have _t := tok1; refine (less_any b n cap (2 * k + 1 + 1) (2 * k + 1) ys _ HH.out.row HL.out k2 k1 hm).mono ?_; rintro e w' ⟨w1, rfl, rfl, hb1⟩; rw [HL1.out]; have hML2 := fun N (hN : 0 < N) => method_val "Less" _ m_less N hN ⟨g, o, none⟩ w1 _ (HH.out.below hb1).cell; clear tok1)
              | (go_at_call 51; refine (less_any b n cap (2 * k + 1) (k) ys _ (HH.out.row.below hb1) HL.out k1 hk hm).mono ?_; rintro e w' ⟨w2, rfl, rfl, hb2⟩; rw [HLB.out]))
            go_ret
            have p1 := HH.out.below (hb1.trans (hb2.mono hb1.size))
            have p2 := grownBy_trans_ HG.out (only_of_below (hb1.trans (hb2.mono hb1.size)) _)
            rw [e1.out] at p1
            first | exact ⟨_, by rw [← e2.out]; rfl, rfl, p1, p2⟩ | exact ⟨by rw [← e2.out]; rfl, p1, p2⟩
          | true =>
            have e : Hid (downP m (m - (2 * k + 1)) (swapP ys k (2 * k + 1)) (2 * k + 1) = downP m (m - i0) xs i0) := by
              have := HU.out
              rwa [downP_go ys k m _ hin hkid.out hlb] at this
            have HLB := Lib.hid hlb
            clear hlb
            have tok1 : True := trivial
            go_wp2_with (first
              | (go_at_call 51; have _t := tok1; refine (less_any b n cap (2 * k + 1 + 1) (2 * k + 1) ys _ HH.out.row HL.out k2 k1 hm).mono ?_; rintro e w' ⟨w1, rfl, rfl, hb1⟩; rw [HL1.out]; have hML2 := fun N (hN : 0 < N) => method_val "Less" _ m_less N hN ⟨g, o, none⟩ w1 _ (HH.out.below hb1).cell; clear tok1)
              | (go_at_call 51; refine (less_any b n cap (2 * k + 1) (k) ys _ (HH.out.row.below hb1) HL.out k1 hk hm).mono ?_; rintro e w' ⟨w2, rfl, rfl, hb2⟩; rw [HLB.out]; have hMS := fun N (hN : 0 < N) => method_val "Swap" _ m_swap N hN ⟨g, o, none⟩ w2 _ (HH.out.below (hb1.trans (hb2.mono hb1.size))).cell)
              | (go_at_call 52; refine (swap_all b n cap k (2 * k + 1) ys _ (HH.out.row.below (hb1.trans (hb2.mono hb1.size))) HL.out hk k1 hm).mono ?_; rintro e w' ⟨w3, rfl, rfl, hr3, hg3⟩))
            go_roundw
            case rel => exact ⟨2 * k + 1, swapP ys k (2 * k + 1), k1, by go_num, (HH.out.below (hb1.trans (hb2.mono hb1.size))).moved hg3 hr3, (swapP_length _ _ _).trans HL.out, grownBy_trans_ (grownBy_trans_ HG.out (only_of_below (hb1.trans (hb2.mono hb1.size)) _)) hg3, e.out⟩
            case measure => simp [intOf]; omega
      · have hkid : Hid (kid ys k m = 2 * k + 1) := if_neg (fun q => h2 q.1)
        cases hlb : lessP (gp ys (2 * k + 1)) (gp ys k) with
        | false =>
          have e : Hid ((ys, k) = downP m (m - i0) xs i0) := by
            have := HU.out
            rwa [downP_stop ys k m _ hkid.out hlb] at this
          have e1 : Hid (ys = (downP m (m - i0) xs i0).1) := by rw [← e.out]; rfl
          have e2 : Hid (k = (downP m (m - i0) xs i0).2) := by rw [← e.out]; rfl
          have HLB := Lib.hid hlb
          clear hlb
          go_wp2_with (first
            | (go_at_call 51; refine (less_any b n cap (2 * k + 1) (k) ys _ HH.out.row HL.out k1 hk hm).mono ?_; rintro e w' ⟨w2, rfl, rfl, hb2⟩; rw [HLB.out]))
          go_ret
          have p1 := HH.out.below hb2
          have p2 := grownBy_trans_ HG.out (only_of_below hb2 _)
          rw [e1.out] at p1
          first | exact ⟨_, by rw [← e2.out]; rfl, rfl, p1, p2⟩ | exact ⟨by rw [← e2.out]; rfl, p1, p2⟩
        | true =>
          have e : Hid (downP m (m - (2 * k + 1)) (swapP ys k (2 * k + 1)) (2 * k + 1) = downP m (m - i0) xs i0) := by
            have := HU.out
            rwa [downP_go ys k m _ hin hkid.out hlb] at this
          have HLB := Lib.hid hlb
          clear hlb
          go_wp2_with (first
            | (go_at_call 51; refine (less_any b n cap (2 * k + 1) (k) ys _ HH.out.row HL.out k1 hk hm).mono ?_; rintro e w' ⟨w2, rfl, rfl, hb2⟩; rw [HLB.out]; have hMS := fun N (hN : 0 < N) => method_val "Swap" _ m_swap N hN ⟨g, o, none⟩ w2 _ (HH.out.below hb2).cell)
            | (go_at_call 52; refine (swap_all b n cap k (2 * k + 1) ys _ (HH.out.row.below hb2) HL.out hk k1 hm).mono ?_; rintro e w' ⟨w3, rfl, rfl, hr3, hg3⟩))
          go_roundw
          case rel => exact ⟨2 * k + 1, swapP ys k (2 * k + 1), k1, by go_num, (HH.out.below hb2).moved hg3 hr3, (swapP_length _ _ _).trans HL.out, grownBy_trans_ (grownBy_trans_ HG.out (only_of_below hb2 _)) hg3, e.out⟩
          case measure => simp [intOf]; omega
end Go.Proofs.Ytkjjdbbogfjdlaa
