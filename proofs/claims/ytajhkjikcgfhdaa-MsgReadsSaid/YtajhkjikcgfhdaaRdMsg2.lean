/-
  The reader of messages: flag, item.
-/
import Derived.Test.YtajhkjikcgfhdaaRdMsg
namespace Go.Proofs.Ytajhkjikcgfhdaa
set_option linter.unusedVariables false
set_option linter.unusedSimpArgs false
set_option maxRecDepth 20000
open Go.RowKit
theorem Rd.cells {t : TypeId} {w : World} {g c : Nat} {A : Option Addr} {zs : List Int} {a : Nat} {bad : Bool} (h : Rd t w g A c zs a bad) :
    w.cell? ⟨g, 1, none⟩ = some (.int .i64 a) ∧ w.cell? ⟨g, 2, none⟩ = some (.bool bad) ∧ w.frozen? ⟨g, 1, none⟩ = false ∧ w.frozen? ⟨g, 2, none⟩ = false := by
  obtain ⟨hbk, _⟩ := h
  exact ⟨hbk.cell 1, hbk.cell 2, hbk.frozen 1, hbk.frozen 2⟩
theorem grown_lt {w w1 : World} {g : Nat} (h : w.grownBy w1 (some g)) : w.heap.size ≤ w1.heap.size := h.size
set_option maxHeartbeats 2000000 in
theorem rflag_any (g : Nat) (A : Option Addr) (c : Nat) (zs : List Int) (a : Nat) (bad : Bool) (v : Bool) (a' : Nat) (b' : Bool) (w : World) (h : Rd 99 w g A c zs a bad) (ha : a ≤ zs.length) (hv : rflag zs a bad = (v, a', b')) :
    Calls Try.prog 74 #[.pointer (some ⟨g, 0, none⟩)] w (RdTo 99 w g A c zs (.bool v) a' b') := by
  have H := Lib.hid h
  have HGL : Hid (g < w.heap.size) := h.lt
  obtain ⟨x, a1, b1, hx⟩ : ∃ x a1 b1, rnum zs a bad 1 = (x, a1, b1) := ⟨_, _, _, rfl⟩
  unfold rflag at hv
  rw [hx] at hv
  injection hv with e1 e2
  injection e2 with e2 e3
  simp only at e1 e2 e3
  subst e2
  have HX := Lib.hid hx
  have HE1 := Lib.hid e1
  have HE3 := Lib.hid e3
  have E1 : Hid ((1 : Int) = ((1 : Nat) : Int)) := rfl
  clear h hx e1 e3
  cases b1 with
  | true =>
    go_enter Try.func74, Try.ntmps74
    go_wp2_with (go_at_call 72; (with_reducible refine (rnum_any g A c zs a bad 1 _ x a1 true _ H.out E1.out (by omega) ha HX.out).mono ?_); rintro e w' ⟨w1, rfl, rfl, h1, g1⟩; obtain ⟨c1, c2, f1, f2⟩ := h1.cells; have H1 := Lib.hid h1; have G1 := Lib.hid g1; clear h1 g1)
    go_ret
    exact ⟨_, by rw [← HE1.out]; rfl, rfl, (by
      have := H1.out.setBad (b' := b')
      rw [← HE3.out] at this ⊢
      exact this), only_trans G1.out (only_setCell (World.grownBy.refl _ _) (.inl rfl) _) (fun q hq => by injection hq with hq; subst hq; exact HGL.out)⟩
  | false =>
    go_enter Try.func74, Try.ntmps74
    go_wp2_with (go_at_call 72; (with_reducible refine (rnum_any g A c zs a bad 1 _ x a1 false _ H.out E1.out (by omega) ha HX.out).mono ?_); rintro e w' ⟨w1, rfl, rfl, h1, g1⟩; obtain ⟨c1, c2, f1, f2⟩ := h1.cells; have H1 := Lib.hid h1; have G1 := Lib.hid g1; clear h1 g1)
    go_ret
    exact ⟨_, by rw [← HE1.out]; rfl, rfl, (by
      have := H1.out.setBad (b' := b')
      rw [← HE3.out] at this ⊢
      exact this), only_trans G1.out (only_setCell (World.grownBy.refl _ _) (.inl rfl) _) (fun q hq => by injection hq with hq; subst hq; exact HGL.out)⟩
set_option maxHeartbeats 2000000 in
theorem ritem_any (g : Nat) (A : Option Addr) (c : Nat) (zs : List Int) (a : Nat) (bad : Bool) (d : Int) (s : ByteArray) (a' : Nat) (b' : Bool) (w : World) (h : Rd 99 w g A c zs a bad) (ha : a ≤ zs.length) (hv : ritem zs a bad = ((d, s), a', b')) :
    Calls Try.prog 75 #[.pointer (some ⟨g, 0, none⟩)] w (RdTo 99 w g A c zs (.agg #[.int .i64 d, .string s]) a' b') := by
  have HGL : Hid (g < w.heap.size) := h.lt
  have hgl : g < w.heap.size := h.lt
  have hgl2 : ¬ w.heap.size = g := by omega
  have hgl2' : g ≠ w.heap.size := by omega
  have H0 := Lib.hid h
  have H := Lib.hid (h.below (bel_alloc w (.cells #[.int .i64 0, .string ⟨#[]⟩] 27)))
  obtain ⟨x, a1, b1, hx⟩ : ∃ x a1 b1, rnum zs a bad 1 = (x, a1, b1) := ⟨_, _, _, rfl⟩
  have ha1 := rnum_bound hx ha
  obtain ⟨y, a2, b2, hy⟩ : ∃ y a2 b2, rtext zs a1 b1 = (y, a2, b2) := ⟨_, _, _, rfl⟩
  unfold ritem at hv
  rw [hx] at hv
  simp only [hy] at hv
  injection hv with e1 e2
  injection e1 with e0 e1
  injection e2 with e2 e3
  subst e0
  subst e1
  subst e2
  subst e3
  have HX := Lib.hid hx
  have HY := Lib.hid hy
  have E1 : Hid ((1 : Int) = ((1 : Nat) : Int)) := rfl
  clear h hx hy
  go_enter Try.func75, Try.ntmps75
  go_wp2_with (first
    | (go_at_call 72; (with_reducible refine (rnum_any g A c zs a bad 1 _ x a1 b1 _ H.out E1.out (by omega) ha HX.out).mono ?_); rintro e w' ⟨w1, rfl, rfl, h1, g1⟩; have HB1 := Lib.hid ((Blk.new w 27 #[.int .i64 0, .string ⟨#[]⟩]).grown g1 (by intro e; injection e with e; exact hgl2 e)); have H1 := Lib.hid h1; have G1 := Lib.hid g1; clear h1 g1)
    | (go_at_call 73; (with_reducible refine (rtext_any g A c zs a1 b1 y a2 b2 _ H1.out ha1 HY.out).mono ?_); rintro e w' ⟨w2, rfl, rfl, h2, g2⟩; have HB2 := Lib.hid (HB1.out.grown g2 (by intro e; injection e with e; exact hgl2 e)); have H2 := Lib.hid h2; have G2 := Lib.hid g2; clear h2 g2; have c0 : w2.cell? ⟨w.heap.size, 0, none⟩ = some (.int .i64 0) := (HB2.out.cell 0).trans rfl; have c1 : w2.cell? ⟨w.heap.size, 1, none⟩ = some (.string ⟨#[]⟩) := (HB2.out.cell 1).trans rfl; have f0 := HB2.out.frozen 0; have f1 := HB2.out.frozen 1))
  have G : Hid (w.grownBy ((w2.setCell ⟨w.heap.size, 0, none⟩ (.int .i64 x)).setCell ⟨w.heap.size, 1, none⟩ (.string y)) (some g)) := only_setCell (only_setCell (only_trans (only_trans (only_of_below (bel_alloc w _) _) G1.out (fun q hq => by injection hq with hq; subst hq; exact hgl)) G2.out (fun q hq => by injection hq with hq; subst hq; exact hgl)) (.inr (Nat.le_refl _)) _) (.inr (Nat.le_refl _)) _
  refine bodyPost_ret (v := .agg #[.int .i64 x, .string y]) (by simp [results, Try.results75, go_sem, c0, c1]) rfl ⟨_, rfl, rfl, ?_, G.out⟩
  exact ⟨(H2.out.1.far hgl2' _).far hgl2' _, H0.out.2.1.grown G.out H0.out.2.2.2.2, H0.out.2.2⟩
end Go.Proofs.Ytajhkjikcgfhdaa
