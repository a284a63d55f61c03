/-
  The walks of inkhornlaw0.GreatItems, inkhornlaw15.great, one; of msg.Ask.
-/
import Derived.Test.YtajhkjikcgfhdaaAwake15
namespace Go.Proofs.Ytajhkjikcgfhdaa
set_option linter.unusedVariables false
set_option linter.unusedSimpArgs false
set_option maxRecDepth 20000
open Go.RowKit
def greatI (xs : List (Int × ByteArray)) : Bool := decide (80 < xs.length) || xs.any (fun x => decide (100 < x.2.size))
theorem greatI_no {xs : List (Int × ByteArray)} (h : greatI xs = false) : xs.length ≤ 80 ∧ Small 100 xs := by
  simp only [greatI, Bool.or_eq_false_iff, decide_eq_false_iff_not, List.any_eq_false, decide_eq_true_eq] at h
  exact ⟨by omega, fun x hx => by have := h.2 x hx; omega⟩
theorem greatI_yes (xs : List (Int × ByteArray)) (k : Nat) (hk : k < xs.length) (h : 100 < (gx xs k).2.size) : greatI xs = true := by
  unfold greatI
  rw [Bool.or_eq_true]
  exact .inr (List.any_eq_true.2 ⟨gx xs k, List.mem_of_getElem? (gx_eq xs k hk), decide_eq_true h⟩)
theorem greatI_all (xs : List (Int × ByteArray)) (h : xs.length ≤ 80) (ha : ∀ j, j < xs.length → (gx xs j).2.size ≤ 100) : greatI xs = false := by
  unfold greatI
  rw [Bool.or_eq_false_iff]
  refine ⟨decide_eq_false (by omega), ?_⟩
  rw [List.any_eq_false]
  intro x hx
  obtain ⟨k, hk, e⟩ := List.getElem_of_mem hx
  have := ha k hk
  have e2 : gx xs k = x := by simp [gx, List.getD_eq_getElem?_getD, hk, e]
  rw [e2] at this
  simp
  omega
set_option maxHeartbeats 2000000 in
theorem greatItems_far (A : Option Addr) (n c : Nat) (w : World) (h1 : 80 < n) (hm : n ≤ 9223372036854775807) :
    Calls Try.prog 32 #[.slice A n c] w fun e w' => e = .returned (.bool true) ∧ w = w' := by
  go_enter Try.func32, Try.ntmps32
  go_wp2
  go_loop [3] (fun i => i = .int .i64 (0 : Nat)) (fun i => 0)
  case atStart => rfl
  case round =>
    obtain rfl := hrel
    go_wp2
    go_ret
    exact ⟨rfl, rfl⟩
set_option maxHeartbeats 2000000 in
theorem greatItems_any (A : Option Addr) (n c : Nat) (xs : List (Int × ByteArray)) (w : World) (hx : XReads w A n xs) :
    Calls Try.prog 32 #[.slice A n c] w fun e w' => e = .returned (.bool (greatI xs)) ∧ w = w' := by
  have hn := hx.2.1
  have HL := Lib.hid hx.1
  have HX := Lib.hid hx
  clear hx
  by_cases h80 : n ≤ 80
  · have d80 : decide ((80 : Int) < (n : Int)) = false := decide_eq_false (by omega)
    go_enter Try.func32, Try.ntmps32
    go_wp2
    go_loop [3] (fun i => ∃ k : Nat, k ≤ n ∧ i = .int .i64 k ∧ Hid (∀ j, j < k → (gx xs j).2.size ≤ 100)) (fun i => n - (intOf i).toNat)
    case atStart => exact ⟨0, by omega, rfl, fun j hj => absurd hj (by omega)⟩
    case round =>
      obtain ⟨k, hk, rfl, HS⟩ := hrel
      by_cases hlt : k < n
      · obtain ⟨ad, rfl, a0, a1⟩ := HX.out.at_ k hlt
        obtain ⟨s, hs⟩ : ∃ s, (gx xs k).2 = s := ⟨_, rfl⟩
        rw [hs] at a1
        have HSS := Lib.hid hs
        clear hs a0
        by_cases hg : 100 < s.size
        · have HE : Hid (greatI xs = true) := greatI_yes xs k (by rw [HL.out]; exact hlt) (by rw [HSS.out]; exact hg)
          go_wp2
          go_ret
          exact ⟨by rw [HE.out]; rfl, rfl⟩
        · go_wp2
          go_round
          case rel => exact ⟨k + 1, by omega, by go_num, fun j hj => by
            rcases Nat.lt_or_ge j k with h | h
            · exact HS.out j h
            · obtain rfl : j = k := by omega
              rw [HSS.out]
              omega⟩
          case measure => simp [intOf]; omega
      · obtain rfl : k = n := by omega
        have HE : Hid (greatI xs = false) := greatI_all xs (by rw [HL.out]; exact h80) (fun j hj => HS.out j (by rw [HL.out] at hj; exact hj))
        go_wp2
        go_ret
        exact ⟨by rw [HE.out]; rfl, rfl⟩
  · have HE : greatI xs = true := by
      unfold greatI
      rw [decide_eq_true (by rw [HL.out]; omega)]
      rfl
    rw [HE]
    exact greatItems_far _ _ _ _ (by omega) (by omega)
def greatB (t s : ByteArray) (xs : List (Int × ByteArray)) : Bool := decide (100 < t.size) || (decide (100 < s.size) || greatI xs)
theorem greatB_no {t s : ByteArray} {xs : List (Int × ByteArray)} (h : greatB t s xs = false) : t.size ≤ 100 ∧ s.size ≤ 100 ∧ xs.length ≤ 80 ∧ Small 100 xs := by
  simp only [greatB, Bool.or_eq_false_iff, decide_eq_false_iff_not] at h
  have := greatI_no h.2.2
  exact ⟨by omega, by omega, this.1, this.2⟩
set_option maxHeartbeats 2000000 in
theorem great_any (al aq ah as_ ae : Int) (t : ByteArray) (ak ab : Int) (af : Bool) (ad : Int) (s : ByteArray) (sl q sh sq wk ep : Int) (A : Option Addr) (n c : Nat) (en : Bool) (xs : List (Int × ByteArray)) (w : World) (hx : XReads w A n xs) :
    Calls Try.prog 10 #[.agg #[.int .i64 al, .int .i64 aq, .int .i64 ah, .int .i64 as_, .int .i64 ae, .string t, .int .i64 ak, .int .i64 ab, .bool af, .int .i64 ad, .string s], .agg #[.int .i64 sl, .int .i64 q, .int .i64 sh, .int .i64 sq, .int .i64 wk, .int .i64 ep, .slice A n c, .bool en]] w (Gives w (.bool (greatB t s xs))) := by
  have hn := hx.2.1
  have HX := Lib.hid hx
  clear hx
  by_cases h1 : 100 < t.size
  · have HE : Hid (greatB t s xs = true) := by
      unfold Hid greatB
      rw [decide_eq_true h1]
      rfl
    have d1 : decide ((100 : Int) < (t.size : Int)) = true := decide_eq_true (by omega)
    go_enter Try.func10, Try.ntmps10
    go_wp2
    go_ret
    exact ⟨_, by rw [HE.out]; rfl, rfl, bel2 (bel_alloc _ _) (bel_alloc _ _)⟩
  · by_cases h2 : 100 < s.size
    · have HE : Hid (greatB t s xs = true) := by
        unfold Hid greatB
        rw [decide_eq_true h2]
        simp
      have d1 : decide ((100 : Int) < (t.size : Int)) = false := decide_eq_false (by omega)
      have d2 : decide ((100 : Int) < (s.size : Int)) = true := decide_eq_true (by omega)
      go_enter Try.func10, Try.ntmps10
      go_wp2
      go_ret
      exact ⟨_, by rw [HE.out]; rfl, rfl, bel2 (bel_alloc _ _) (bel_alloc _ _)⟩
    · have HE : Hid (greatB t s xs = greatI xs) := by
        unfold Hid greatB
        rw [decide_eq_false h1, decide_eq_false h2]
        rfl
      have d1 : decide ((100 : Int) < (t.size : Int)) = false := decide_eq_false (by omega)
      have d2 : decide ((100 : Int) < (s.size : Int)) = false := decide_eq_false (by omega)
      have HX2 : ∀ o1 o2, Hid (XReads ((w.alloc o1).alloc o2) A n xs) := fun o1 o2 => (HX.out.below (bel_alloc w o1)).below (bel_alloc _ o2)
      go_enter Try.func10, Try.ntmps10
      go_wp2_with (go_at_call 32; (with_reducible refine (greatItems_any _ _ _ _ _ (HX2 _ _).out).mono ?_); rintro e w' ⟨rfl, rfl⟩)
      go_ret
      exact ⟨_, by rw [HE.out]; rfl, rfl, bel2 (bel_alloc _ _) (bel_alloc _ _)⟩
set_option maxHeartbeats 2000000 in
theorem great_far (al aq ah as_ ae : Int) (t : ByteArray) (ak ab : Int) (af : Bool) (ad : Int) (s : ByteArray) (sl q sh sq wk ep : Int) (A : Option Addr) (n c : Nat) (en : Bool) (w : World) (hn : 80 < n) (hm : n ≤ 9223372036854775807) :
    Calls Try.prog 10 #[.agg #[.int .i64 al, .int .i64 aq, .int .i64 ah, .int .i64 as_, .int .i64 ae, .string t, .int .i64 ak, .int .i64 ab, .bool af, .int .i64 ad, .string s], .agg #[.int .i64 sl, .int .i64 q, .int .i64 sh, .int .i64 sq, .int .i64 wk, .int .i64 ep, .slice A n c, .bool en]] w (Gives w (.bool true)) := by
  by_cases h1 : 100 < t.size
  · have d1 : decide ((100 : Int) < (t.size : Int)) = true := decide_eq_true (by omega)
    go_enter Try.func10, Try.ntmps10
    go_wp2
    go_ret
    exact ⟨_, rfl, rfl, bel2 (bel_alloc _ _) (bel_alloc _ _)⟩
  · have d1 : decide ((100 : Int) < (t.size : Int)) = false := decide_eq_false (by omega)
    by_cases h2 : 100 < s.size
    · have d2 : decide ((100 : Int) < (s.size : Int)) = true := decide_eq_true (by omega)
      go_enter Try.func10, Try.ntmps10
      go_wp2
      go_ret
      exact ⟨_, rfl, rfl, bel2 (bel_alloc _ _) (bel_alloc _ _)⟩
    · have d2 : decide ((100 : Int) < (s.size : Int)) = false := decide_eq_false (by omega)
      go_enter Try.func10, Try.ntmps10
      go_wp2_with (go_at_call 32; (with_reducible refine (greatItems_far _ _ _ _ hn hm).mono ?_); rintro e w' ⟨rfl, rfl⟩)
      go_ret
      exact ⟨_, rfl, rfl, bel2 (bel_alloc _ _) (bel_alloc _ _)⟩
def greatR (t s : ByteArray) (n : Nat) (xs : List (Int × ByteArray)) : Bool := if n ≤ 80 then greatB t s xs else true
theorem greatR_no {t s : ByteArray} {n : Nat} {xs : List (Int × ByteArray)} (h : greatR t s n xs = false) : n ≤ 80 ∧ t.size ≤ 100 ∧ s.size ≤ 100 ∧ xs.length ≤ 80 ∧ Small 100 xs := by
  unfold greatR at h
  split at h
  · next hn => exact ⟨hn, greatB_no h⟩
  · cases h
theorem great_all (al aq ah as_ ae : Int) (t : ByteArray) (ak ab : Int) (af : Bool) (ad : Int) (s : ByteArray) (sl q sh sq wk ep : Int) (A : Option Addr) (n c : Nat) (en : Bool) (xs : List (Int × ByteArray)) (w : World) (hx : n ≤ 80 → XReads w A n xs) (hm : n ≤ 9223372036854775807) :
    Calls Try.prog 10 #[.agg #[.int .i64 al, .int .i64 aq, .int .i64 ah, .int .i64 as_, .int .i64 ae, .string t, .int .i64 ak, .int .i64 ab, .bool af, .int .i64 ad, .string s], .agg #[.int .i64 sl, .int .i64 q, .int .i64 sh, .int .i64 sq, .int .i64 wk, .int .i64 ep, .slice A n c, .bool en]] w (Gives w (.bool (greatR t s n xs))) := by
  unfold greatR
  by_cases hn : n ≤ 80
  · rw [if_pos hn]
    exact great_any _ _ _ _ _ _ _ _ _ _ _ _ _ _ _ _ _ _ _ _ _ _ _ (hx hn)
  · rw [if_neg hn]
    exact great_far _ _ _ _ _ _ _ _ _ _ _ _ _ _ _ _ _ _ _ _ _ _ (by omega) hm
def oneM (kind : Int) (hw hl gw gl ge : Int) (al aq ah as_ ae : Int) (t : ByteArray) (ak ab : Int) (af : Bool) (ad : Int) (s : ByteArray) (sl q sh sq wk ep : Int) (xs : List (Int × ByteArray)) (en : Bool) (ss sq2 : Int) : M :=
  if lowI kind 6 = 0 then .hello hw hl
  else if lowI kind 6 = 1 then .grant gw gl ge
  else if lowI kind 6 = 2 then .ask al aq ah as_ ae t ak ab af ad s
  else if lowI kind 6 = 3 then .reply sl q sh sq wk ep xs en
  else if lowI kind 6 = 4 then .stop ss sq2
  else .other kind
theorem oneM_small {n : Nat} (kind : Int) (hw hl gw gl ge : Int) (al aq ah as_ ae : Int) (t : ByteArray) (ak ab : Int) (af : Bool) (ad : Int) (s : ByteArray) (sl q sh sq wk ep : Int) (xs : List (Int × ByteArray)) (en : Bool) (ss sq2 : Int)
    (ht : t.size ≤ n) (hs : s.size ≤ n) (hx : Small n xs) : SmallM n (oneM kind hw hl gw gl ge al aq ah as_ ae t ak ab af ad s sl q sh sq wk ep xs en ss sq2) := by
  unfold oneM
  repeat' split
  all_goals first | trivial | exact ⟨ht, hs⟩ | exact hx
/-- The message that a call has made. -/
def MGives (w : World) (m : M) (e : Ending) (w' : World) : Prop := ∃ v W, e = .returned v ∧ W = w' ∧ MV W v m ∧ Below w.heap.size w W
theorem bel_five (w : World) (o1 o2 o3 o4 o5 : Obj) : Below w.heap.size w (((((w.alloc o1).alloc o2).alloc o3).alloc o4).alloc o5) := bel3 (bel3 (bel3 (bel3 (bel_alloc w o1) (bel_alloc _ o2)) (bel_alloc _ o3)) (bel_alloc _ o4)) (bel_alloc _ o5)
set_option maxHeartbeats 4000000 in
theorem oneM_any (kind : Int) (hw hl gw gl ge : Int) (al aq ah as_ ae : Int) (t : ByteArray) (ak ab : Int) (af : Bool) (ad : Int) (s : ByteArray) (sl q sh sq wk ep : Int) (A : Option Addr) (n c : Nat) (xs : List (Int × ByteArray)) (en : Bool) (ss sq2 : Int) (w : World) (hx : XReads w A n xs) :
    Calls Try.prog 13 #[.int .i64 kind, .agg #[.int .i64 hw, .int .i64 hl], .agg #[.int .i64 gw, .int .i64 gl, .int .i64 ge], .agg #[.int .i64 al, .int .i64 aq, .int .i64 ah, .int .i64 as_, .int .i64 ae, .string t, .int .i64 ak, .int .i64 ab, .bool af, .int .i64 ad, .string s], .agg #[.int .i64 sl, .int .i64 q, .int .i64 sh, .int .i64 sq, .int .i64 wk, .int .i64 ep, .slice A n c, .bool en], .agg #[.int .i64 ss, .int .i64 sq2]] w
      (MGives w (oneM kind hw hl gw gl ge al aq ah as_ ae t ak ab af ad s sl q sh sq wk ep xs en ss sq2)) := by
  have hl6 := lowI_range kind 6 (by omega)
  obtain ⟨i, hi⟩ : ∃ i, lowI kind 6 = i := ⟨_, rfl⟩
  have HI := Lib.hid hi
  rw [hi] at hl6
  have hn : Hid (xs.length = n) := hx.1
  have HX := Lib.hid hx
  clear hi hx
  obtain rfl | rfl | rfl | rfl | rfl | rfl : i = 0 ∨ i = 1 ∨ i = 2 ∨ i = 3 ∨ i = 4 ∨ i = 5 := by omega
  all_goals clear hl6
  all_goals
    go_enter Try.func13, Try.ntmps13
    go_wp2_with (go_at_call 33; (with_reducible refine (low_any _ _ _ (by omega) (by omega)).mono ?_); rintro e w' ⟨rfl, rfl⟩; rw [HI.out])
    go_ret
    refine ⟨_, _, rfl, rfl, ?_, bel_five _ _ _ _ _ _⟩
    unfold oneM
    rw [HI.out]
  · exact rfl
  · exact rfl
  · exact rfl
  · have e := hn.out
    subst e
    exact ⟨A, c, rfl, HX.out.below (bel_five _ _ _ _ _ _)⟩
  · exact rfl
  · exact rfl
theorem as_ask_one (v : Value) (w : World) : (Instr.typeAssert (.iface 29 v) 20 29 false).run Try.prog w = .ok v w := by kernel_rfl
theorem may_kind {m : M} (h : mayM m = true) : kindM m ≠ 0 := by
  cases m with
  | other x => cases h
  | none => cases h
  | hello => simp [kindM]
  | grant => simp [kindM]
  | ask => simp [kindM]
  | reply => simp [kindM]
  | stop => simp [kindM]
theorem same_self {m : M} (h : mayM m = true) : sameM m m = true := (sameM_eq m m).2 ⟨rfl, may_kind h⟩
theorem five_keep (w w1 : World) (t0 t1 t2 t3 t4 : TypeId) (c0 c1 c2 c3 c4 : Array Value)
    (hb : Below (((((w.alloc (.cells c0 t0)).alloc (.cells c1 t1)).alloc (.cells c2 t2)).alloc (.cells c3 t3)).alloc (.cells c4 t4)).heap.size (((((w.alloc (.cells c0 t0)).alloc (.cells c1 t1)).alloc (.cells c2 t2)).alloc (.cells c3 t3)).alloc (.cells c4 t4)) w1) :
    Blk w1 w.heap.size t0 c0 ∧ Blk w1 (w.heap.size + 1) t1 c1 ∧ Blk w1 (w.heap.size + 2) t2 c2 ∧ Blk w1 (w.heap.size + 3) t3 c3 ∧ Blk w1 (w.heap.size + 4) t4 c4 := by
  have e1 : (w.alloc (.cells c0 t0)).heap.size = w.heap.size + 1 := by simp
  have e2 : ((w.alloc (.cells c0 t0)).alloc (.cells c1 t1)).heap.size = w.heap.size + 2 := by simp
  have e3 : (((w.alloc (.cells c0 t0)).alloc (.cells c1 t1)).alloc (.cells c2 t2)).heap.size = w.heap.size + 3 := by simp
  have e4 : ((((w.alloc (.cells c0 t0)).alloc (.cells c1 t1)).alloc (.cells c2 t2)).alloc (.cells c3 t3)).heap.size = w.heap.size + 4 := by simp
  have e5 : (((((w.alloc (.cells c0 t0)).alloc (.cells c1 t1)).alloc (.cells c2 t2)).alloc (.cells c3 t3)).alloc (.cells c4 t4)).heap.size = w.heap.size + 5 := by simp
  have k0 := ((((Blk.new w t0 c0).alloc (.cells c1 t1)).alloc (.cells c2 t2)).alloc (.cells c3 t3)).alloc (.cells c4 t4)
  have k1 := (((Blk.new (w.alloc (.cells c0 t0)) t1 c1).alloc (.cells c2 t2)).alloc (.cells c3 t3)).alloc (.cells c4 t4)
  have k2 := ((Blk.new ((w.alloc (.cells c0 t0)).alloc (.cells c1 t1)) t2 c2).alloc (.cells c3 t3)).alloc (.cells c4 t4)
  have k3 := (Blk.new (((w.alloc (.cells c0 t0)).alloc (.cells c1 t1)).alloc (.cells c2 t2)) t3 c3).alloc (.cells c4 t4)
  have k4 := Blk.new ((((w.alloc (.cells c0 t0)).alloc (.cells c1 t1)).alloc (.cells c2 t2)).alloc (.cells c3 t3)) t4 c4
  rw [e1] at k1
  rw [e2] at k2
  rw [e3] at k3
  rw [e4] at k4
  rw [e5] at hb
  exact ⟨k0.below hb (by omega), k1.below hb (by omega), k2.below hb (by omega), k3.below hb (by omega), k4.below hb (by omega)⟩
end Go.Proofs.Ytajhkjikcgfhdaa
