/-
  The writer of messages: nums, small, flag, item.
-/
import Derived.Test.YtajhkjikcgfhdaaMay6
import Derived.Test.YtajhkjikcgfhdaaRefCode
import Derived.Deep.RegionLaw
import Derived.Deep.RegionWith
namespace Go.Proofs.Ytajhkjikcgfhdaa
set_option linter.unusedVariables false
set_option linter.unusedSimpArgs false
set_option maxRecDepth 20000
open Go.RowKit
/-- A writer in block g, whose bytes are zs, in a row of its own from block B on. -/
def Wr (w : World) (g B : Nat) (zs : List Int) : Prop :=
  ∃ (A : Option Addr) (n c : Nat), Blk w g 74 #[.slice A n c] ∧ w.ownsRow B 5 1 (.slice A n c) n (bvals zs) ∧ (∀ z, z ∈ zs → 0 ≤ z ∧ z < 256) ∧ B ≤ w.heap.size
theorem own_low {w : World} {B B' n : Nat} {e : TypeId} {size : Nat} {v : Value} {xs : List Value} (h : w.ownsRow B e size v n xs) (hB : B' ≤ B) : w.ownsRow B' e size v n xs := by
  refine ⟨h.1, ?_⟩
  rcases h.2 with h2 | ⟨g, cap, cur, h1, h2, h3⟩
  · exact .inl h2
  · exact .inr ⟨g, cap, cur, h1, Nat.le_trans hB h2, h3⟩
/-- What the writer's block is set to behind a call that made a new row. -/
theorem Wr.set_ {w w1 : World} {g B : Nat} {zs zs2 : List Int} (h : Wr w g B zs) (hb : Below w.heap.size w w1) {A2 : Option Addr} {n2 c2 : Nat} (ho : w1.ownsRow w.heap.size 5 1 (.slice A2 n2 c2) n2 (bvals zs2)) (hz : ∀ z, z ∈ zs2 → 0 ≤ z ∧ z < 256) :
    Wr (w1.setCell ⟨g, 0, none⟩ (.slice A2 n2 c2)) g B zs2 := by
  obtain ⟨A, n, c, hbk, hown, hr, hB⟩ := h
  have hg : g < w.heap.size := hbk.lt
  have hbk1 : Blk w1 g 74 #[.slice A n c] := hbk.below hb hg
  refine ⟨A2, n2, c2, hbk1.set_ 0 _, ?_, hz, Nat.le_trans hB (Nat.le_trans hb.size (by simp [World.setCell]))⟩
  refine own_low (World.ownsRow.kept ho (only_setCell (World.grownBy.refl w1 (some g)) (.inl rfl) _) ?_) hB
  cases hv : (Value.slice A2 n2 c2).ownBlock with
  | none => exact .inl rfl
  | some k =>
    right
    intro e
    injection e with e
    have := (ho.lt k hv).1
    omega
theorem Wr.cell0 {w : World} {g B : Nat} {zs : List Int} (h : Wr w g B zs) : ∃ A c, w.cell? ⟨g, 0, none⟩ = some (.slice A zs.length c) ∧ w.frozen? ⟨g, 0, none⟩ = false ∧ BReads w A zs.length zs ∧ zs.length ≤ c := by
  obtain ⟨A, n, c, hbk, hown, hr, hB⟩ := h
  obtain ⟨A', c', e, hc, hrd⟩ := own_breads hown hr
  injection e with e1 e2 e3
  subst e1
  subst e3
  have hn : zs.length = n := hrd.1
  subst hn
  exact ⟨A, c, hbk.cell 0, hbk.frozen 0, hrd, hc⟩
theorem Wr.below {w w1 : World} {g B : Nat} {zs : List Int} (h : Wr w g B zs) (hb : Below w.heap.size w w1) : Wr w1 g B zs := by
  obtain ⟨A, n, c, hbk, hown, hr, hB⟩ := h
  exact ⟨A, n, c, hbk.below hb hbk.lt, own_below hown hb, hr, Nat.le_trans hB hb.size⟩
theorem Wr.drew {w : World} {g B : Nat} {zs : List Int} (h : Wr w g B zs) : Wr w.drew g B zs := h.below (Below.refl _ _).drew
theorem Wr.lt {w : World} {g B : Nat} {zs : List Int} (h : Wr w g B zs) : g < w.heap.size := by
  obtain ⟨A, n, c, hbk, _⟩ := h
  exact hbk.lt
theorem only_trans {a b c : World} {row : Option Nat} (h : a.grownBy b row) (k : b.grownBy c row) (hr : ∀ g, row = some g → g < a.heap.size) : a.grownBy c row :=
  ⟨k.os.trans h.os, k.tape.trans h.tape, k.output.trans h.output, Nat.le_trans h.size k.size, fun i hi hne => (k.block i (Nat.lt_of_lt_of_le hi h.size) hne).trans (h.block i hi hne)⟩
theorem range_app {xs ys : List Int} (hx : ∀ z, z ∈ xs → 0 ≤ z ∧ z < 256) (hy : ∀ z, z ∈ ys → 0 ≤ z ∧ z < 256) : ∀ z, z ∈ xs ++ ys → 0 ≤ z ∧ z < 256 := fun z hz => by
  rcases List.mem_append.1 hz with h | h
  · exact hx z h
  · exact hy z h
/-- A method of the writer has laid more. -/
def Laid (w : World) (g B : Nat) (zs : List Int) (e : Ending) (w' : World) : Prop := ∃ W, e = .returned (.tuple #[]) ∧ W = w' ∧ Wr W g B zs ∧ w.grownBy W (some g)
set_option maxHeartbeats 1000000 in
theorem wsmall_any (g B : Nat) (zs : List Int) (x : Int) (w : World) (h : Wr w g B zs) (hl : zs.length ≤ 1000000) :
    Calls Try.prog 36 #[.pointer (some ⟨g, 0, none⟩), .int .i64 x] w (Laid w g B (zs ++ putI x 1)) := by
  obtain ⟨A, c, hc, hf, hrd, hcc⟩ := h.cell0
  have hr := hrd.range
  have H := Lib.hid h
  have HR := Lib.hid hrd
  have HRG := Lib.hid hr
  have E1 : Hid ((1 : Int) = ((1 : Nat) : Int)) := rfl
  clear h hrd hr
  go_enter Try.func36, Try.ntmps36
  go_wp2_with (go_at_call 39; (with_reducible refine (put_q _ _ _ _ _ _ 1 _ HR.out hl E1.out (by omega)).mono ?_); rintro e w' ⟨A2, c2, w1, rfl, rfl, ho, hr2, hc2, b1⟩; have k0 := cell_keep hc b1; have k1 : w1.frozen? ⟨g, 0, none⟩ = false := (b1.frozen (p := ⟨g, 0, none⟩) H.out.lt).trans hf; have HO := Lib.hid ho; have HB := Lib.hid b1; clear ho hr2 hc2 b1)
  go_end0
  exact ⟨_, rfl, rfl, H.out.set_ HB.out HO.out (range_app HRG.out (putI_range _ _)), only_setCell (only_of_below HB.out _) (.inl rfl) _⟩
def b2n (b : Bool) : Int := if b then 1 else 0
set_option maxHeartbeats 1000000 in
theorem wflag_any (g B : Nat) (zs : List Int) (b : Bool) (w : World) (h : Wr w g B zs) (hl : zs.length ≤ 1000000) :
    Calls Try.prog 37 #[.pointer (some ⟨g, 0, none⟩), .bool b] w (Laid w g B (zs ++ putI (b2n b) 1)) := by
  have H := Lib.hid h
  clear h
  cases b
  · go_enter Try.func37, Try.ntmps37
    go_wp2_with (go_at_call 36; (with_reducible refine (wsmall_any _ _ _ _ _ H.out hl).mono ?_); rintro e w' ⟨w1, rfl, rfl, h1, g1⟩)
    go_end0
    exact ⟨_, rfl, rfl, h1, g1⟩
  · go_enter Try.func37, Try.ntmps37
    go_wp2_with (go_at_call 36; (with_reducible refine (wsmall_any _ _ _ _ _ H.out hl).mono ?_); rintro e w' ⟨w1, rfl, rfl, h1, g1⟩)
    go_end0
    exact ⟨_, rfl, rfl, h1, g1⟩
def foursI (l : List Int) : List Int := l.flatMap fun x => putI x 4
theorem foursI_length (l : List Int) : (foursI l).length = 4 * l.length := by
  induction l with
  | nil => rfl
  | cons x l ih =>
    simp only [foursI, List.flatMap_cons, List.length_append, putI_length, List.length_cons] at ih ⊢
    omega
theorem foursI_range (l : List Int) : ∀ z, z ∈ foursI l → 0 ≤ z ∧ z < 256 := by
  intro z hz
  simp only [foursI, List.mem_flatMap] at hz
  obtain ⟨x, _, hx⟩ := hz
  exact putI_range _ _ z hx
theorem foursI_take (l : List Int) (k : Nat) (h : k < l.length) : foursI (l.take (k + 1)) = foursI (l.take k) ++ putI (gi l k) 4 := by
  rw [List.take_succ_eq_append_getElem h]
  unfold foursI
  rw [List.flatMap_append]
  congr 1
  simp [gi, List.getD_eq_getElem?_getD, h]
set_option maxHeartbeats 2000000 in
theorem wnums_any (g B : Nat) (zs : List Int) (A : Option Addr) (n c : Nat) (l : List Int) (w : World) (h : Wr w g B zs) (hl : zs.length ≤ 1000) (hr : NReads w A n l) (hn : n ≤ 100) (hA : ∀ ad, A = some ad → ad.block ≠ g) :
    Calls Try.prog 34 #[.pointer (some ⟨g, 0, none⟩), .slice A n c] w (Laid w g B (zs ++ foursI l)) := by
  have H := Lib.hid h
  have HN := Lib.hid hr
  have HL := Lib.hid hr.1
  have HA := Lib.hid hA
  have E4 : Hid ((4 : Int) = ((4 : Nat) : Int)) := rfl
  clear h hr hA
  go_enter Try.func34, Try.ntmps34
  go_wp2
  go_loopw [8] (fun i wr => ∃ k : Nat, k ≤ n ∧ i = .int .i64 k ∧ Hid (Wr wr g B (zs ++ foursI (l.take k))) ∧ Hid (w.grownBy wr (some g))) (fun i _ => n - (intOf i).toNat)
  case atStart => exact ⟨0, by omega, rfl, (by unfold Hid; simpa [foursI] using H.out), World.grownBy.refl _ _⟩
  case round =>
    obtain ⟨k, hk, rfl, HW, HG⟩ := hrel
    by_cases hlt : k < n
    · obtain ⟨ad, rfl, hc⟩ := HN.out.at_ k hlt
      have hne : ad.block ≠ g := HA.out ad rfl
      have hc' : wr.cell? (ad.add k) = some (.int .i64 (gi l k)) := by
        have hlt2 := World.block_lt_of_cell? w _ hc
        have hb := HG.out.block (ad.add k).block hlt2 (by rw [block_of_add]; intro e; injection e with e; exact hne e)
        rw [← hc]
        exact World.cell?_of_block hb
      obtain ⟨A0, c0, hc0, hf0, hrd, hcc⟩ := HW.out.cell0
      obtain ⟨m, hm⟩ : ∃ m, (zs ++ foursI (l.take k)).length = m := ⟨_, rfl⟩
      have hm2 : m ≤ 1000000 := by
        rw [← hm, List.length_append, foursI_length, List.length_take]
        omega
      have HR := Lib.hid hrd.range
      have HRD := Lib.hid hrd
      have HE : Hid (zs ++ foursI (l.take (k + 1)) = (zs ++ foursI (l.take k)) ++ putI (gi l k) 4) := by
        unfold Hid
        rw [foursI_take l k (by rw [HL.out]; exact hlt), List.append_assoc]
      rw [hm] at hc0 HRD
      have HM := Lib.hid hm
      clear hc hm hrd hcc
      go_wp2_with (go_at_call 39; (with_reducible refine (put_q _ _ _ _ _ _ 4 _ HRD.out hm2 E4.out (by omega)).mono ?_); rintro e w' ⟨A2, c2, w1, rfl, rfl, ho, hr2, hc2, b1⟩; have k0 := cell_keep hc0 b1; have k1 : w1.frozen? ⟨g, 0, none⟩ = false := (b1.frozen (p := ⟨g, 0, none⟩) HW.out.lt).trans hf0; have HO := Lib.hid ho; have HB := Lib.hid b1; clear ho hr2 hc2 b1)
      go_roundw
      case rel => exact ⟨k + 1, by omega, by go_num, (by
        unfold Hid
        rw [HE.out]
        exact HW.out.set_ HB.out HO.out (range_app HR.out (putI_range _ _))), only_trans HG.out (only_setCell (only_of_below HB.out _) (.inl rfl) _) (fun q hq => by injection hq with hq; subst hq; exact H.out.lt)⟩
      case measure => simp [intOf]; omega
    · obtain rfl : k = n := by omega
      have HW2 : Hid (Wr wr g B (zs ++ foursI l)) := by
        have := HW.out
        rwa [List.take_of_length_le (by rw [HL.out]; exact Nat.le_refl _)] at this
      go_wp2
      go_end0
      exact ⟨_, rfl, rfl, HW2, HG.out⟩
def textI (s : ByteArray) : List Int := putI s.size 2 ++ strB s
theorem textI_length (s : ByteArray) : (textI s).length = 2 + s.size := by rw [textI, List.length_append, putI_length, strB_length]
theorem textI_range (s : ByteArray) : ∀ z, z ∈ textI s → 0 ≤ z ∧ z < 256 := range_app (putI_range _ _) (strB_range s)
def itemI (d : Int) (s : ByteArray) : List Int := putI d 1 ++ textI s
theorem itemI_length (d : Int) (s : ByteArray) : (itemI d s).length = 3 + s.size := by rw [itemI, List.length_append, putI_length, textI_length]; omega
set_option maxHeartbeats 4000000 in
theorem witem_any (g B : Nat) (zs : List Int) (d : Int) (s : ByteArray) (w : World) (h : Wr w g B zs) (hl : zs.length ≤ 900000) (hs : s.size ≤ 65535) :
    Calls Try.prog 38 #[.pointer (some ⟨g, 0, none⟩), .agg #[.int .i64 d, .string s]] w (Laid w g B (zs ++ itemI d s)) := by
  have H1 := Lib.hid (h.below (bel_alloc w (.cells #[.int .i64 d, .string s] 27)))
  have hgz : g < w.heap.size := h.lt
  clear h
  go_enter Try.func38, Try.ntmps38
  go_wp2_with (go_at_call 36; (with_reducible refine (wsmall_any _ _ _ _ _ H1.out (by omega)).mono ?_); rintro e w' ⟨w1, rfl, rfl, h1, g1⟩)
  have hx1 : w1.cell? ⟨w.heap.size, 1, none⟩ = some (.string s) := (World.cell?_of_block (g1.block w.heap.size (by simp) (by intro e; injection e with e; omega))).trans (by simp)
  obtain ⟨m, hm⟩ : ∃ m, (zs ++ putI d 1).length = m := ⟨_, rfl⟩
  have hm2 : m ≤ 1000000 := by
    rw [← hm, List.length_append, putI_length]
    omega
  obtain ⟨A0, c0, hc0, hf0, hrd, hcc⟩ := h1.cell0
  rw [hm] at hc0 hrd
  have HR := Lib.hid hrd.range
  have HRD := Lib.hid hrd
  have HW := Lib.hid h1
  have HG := Lib.hid g1
  clear h1 g1 hrd hcc
  go_wp2_with fail
  go_region_with (first
    | (go_at_call 35; (with_reducible refine (putText_small _ _ _ _ _ _ (HRD.out.below (Below.refl _ _).drew) hm2 hs).mono ?_); rintro e w' ⟨A2, c2, w2, rfl, rfl, ho, hr2, hc2, b1⟩; have k0 := cell_keep (w := w1.drew) hc0 b1; have k1 : w2.frozen? ⟨g, 0, none⟩ = false := (b1.frozen (p := ⟨g, 0, none⟩) HW.out.lt).trans hf0; have HO := Lib.hid ho; have HB := Lib.hid b1; clear ho hr2 hc2 b1))
  all_goals go_wp2
  all_goals go_end0
  all_goals exact ⟨_, rfl, rfl, (by
    have := HW.out.drew.set_ HB.out HO.out (range_app HR.out (textI_range s))
    rw [List.append_assoc] at this
    exact this), only_trans (only_trans (only_of_below (bel_alloc w _) _) HG.out (fun q hq => by injection hq with hq; subst hq; exact hgz)) (only_setCell (only_of_below (bel2 (Below.refl _ _).drew HB.out) _) (.inl rfl) _) (fun q hq => by injection hq with hq; subst hq; exact hgz)⟩
end Go.Proofs.Ytajhkjikcgfhdaa
