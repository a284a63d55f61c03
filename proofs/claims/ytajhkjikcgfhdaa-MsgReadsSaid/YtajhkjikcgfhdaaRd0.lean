/-
  What a reader reads, as functions: a place and whether something was bad.
-/
import Derived.Test.YtajhkjikcgfhdaaEncReply
import Derived.Test.YtajhkjikcgfhdaaText
namespace Go.Proofs.Ytajhkjikcgfhdaa
set_option linter.unusedVariables false
set_option linter.unusedSimpArgs false
set_option maxRecDepth 20000
open Go.RowKit
def rnum (zs : List Int) (a : Nat) (bad : Bool) (q : Nat) : Int × Nat × Bool := if a + q ≤ zs.length then (numI zs a q, a + q, bad) else (0, a, true)
def rtext (zs : List Int) (a : Nat) (bad : Bool) : ByteArray × Nat × Bool := if textOk zs.length zs a then (textS zs a, a + 2 + (numI zs a 2).toNat, bad) else (⟨#[]⟩, a, true)
def rflag (zs : List Int) (a : Nat) (bad : Bool) : Bool × Nat × Bool :=
  ((rnum zs a bad 1).1 == 1, (rnum zs a bad 1).2.1, (rnum zs a bad 1).2.2 || decide (1 < (rnum zs a bad 1).1))
def ritem (zs : List Int) (a : Nat) (bad : Bool) : (Int × ByteArray) × Nat × Bool :=
  (((rnum zs a bad 1).1, (rtext zs (rnum zs a bad 1).2.1 (rnum zs a bad 1).2.2).1), (rtext zs (rnum zs a bad 1).2.1 (rnum zs a bad 1).2.2).2)
theorem rnum_bound {zs : List Int} {a q a' : Nat} {bad b' : Bool} {v : Int} (h : rnum zs a bad q = (v, a', b')) (ha : a ≤ zs.length) : a' ≤ zs.length := by
  unfold rnum at h
  split at h
  · injection h with _ h
    injection h with h _
    omega
  · injection h with _ h
    injection h with h _
    omega
theorem horner_up (l : List Int) (hl : ∀ z, z ∈ l → 0 ≤ z ∧ z < 256) (q : Nat) (hq : l.length ≤ q) : 0 ≤ horner 0 l ∧ horner 0 l < 256 ^ q := by
  have h := horner_lt l hl
  refine ⟨h.1, Int.lt_of_lt_of_le h.2 ?_⟩
  exact_mod_cast Nat.pow_le_pow_right (by omega : 0 < 256) hq
theorem numI_up (zs : List Int) (hz : ∀ z, z ∈ zs → 0 ≤ z ∧ z < 256) (a q : Nat) (hq : q ≤ 7) : 0 ≤ numI zs a q ∧ numI zs a q < 256 ^ q := by
  rw [numI_plain zs hz a q (by omega)]
  exact horner_up _ (range_mid zs hz _ _) q (by simp only [Int.toNat_natCast]; exact List.length_take_le _ _)
theorem rtext_bound {zs : List Int} {a a' : Nat} {bad b' : Bool} {v : ByteArray} (hz : ∀ z, z ∈ zs → 0 ≤ z ∧ z < 256) (h : rtext zs a bad = (v, a', b')) (ha : a ≤ zs.length) : a' ≤ zs.length ∧ v.size ≤ 65535 := by
  unfold rtext at h
  split at h
  · rename_i ht
    injection h with h0 h
    injection h with h _
    have h2 := ht.2
    have h3 := numI_two zs hz a
    refine ⟨by omega, ?_⟩
    rw [← h0]
    unfold textS
    have : (strOfNums ((zs.drop ((a : Int).toNat + 2)).take (numI zs a 2).toNat)).size = ((zs.drop ((a : Int).toNat + 2)).take (numI zs a 2).toNat).length := by
      simp [strOfNums, ByteArray.size]
    rw [this]
    have := List.length_take_le (numI zs a 2).toNat (zs.drop ((a : Int).toNat + 2))
    omega
  · injection h with h0 h
    injection h with h _
    refine ⟨by omega, ?_⟩
    rw [← h0]
    decide
/-- A reader in block g, of type t. -/
def Rd (t : TypeId) (w : World) (g : Nat) (A : Option Addr) (c : Nat) (zs : List Int) (a : Nat) (bad : Bool) : Prop :=
  Blk w g t #[.slice A zs.length c, .int .i64 a, .bool bad] ∧ BReads w A zs.length zs ∧ zs.length ≤ c ∧ c ≤ 9223372036854775807 ∧ (∀ ad, A = some ad → ad.block ≠ g)
theorem BReads.grown {w w1 : World} {A : Option Addr} {n g : Nat} {zs : List Int} (h : BReads w A n zs) (hg : w.grownBy w1 (some g)) (hA : ∀ ad, A = some ad → ad.block ≠ g) : BReads w1 A n zs :=
  ⟨h.1, h.2.1, fun hn => by
    obtain ⟨ad, e, hc⟩ := h.2.2.1 hn
    refine ⟨ad, e, fun j hj => ?_⟩
    have hlt := World.block_lt_of_cell? w _ (hc j hj)
    rw [← hc j hj]
    exact World.cell?_of_block (hg.block _ hlt (by rw [block_of_add]; intro e2; injection e2 with e2; exact hA ad e e2)), h.2.2.2⟩
section
variable {t : TypeId} {w w1 : World} {g c : Nat} {A : Option Addr} {zs : List Int} {a a' : Nat} {bad b' : Bool}
theorem Rd.lt (h : Rd t w g A c zs a bad) : g < w.heap.size := by
  obtain ⟨hb, _⟩ := h
  exact hb.lt
theorem Rd.below (h : Rd t w g A c zs a bad) (hb : Below w.heap.size w w1) : Rd t w1 g A c zs a bad := by
  obtain ⟨hbk, hr, h1, h2, h3⟩ := h
  exact ⟨hbk.below hb hbk.lt, hr.below hb, h1, h2, h3⟩
theorem Rd.drew (h : Rd t w g A c zs a bad) : Rd t w.drew g A c zs a bad := h.below (Below.refl _ _).drew
theorem Rd.drewN (h : Rd t w g A c zs a bad) (q : Nat) : Rd t (w.drewN q) g A c zs a bad := h.below (below_drewN (Below.refl _ _) q)
theorem Rd.range (h : Rd t w g A c zs a bad) : ∀ z, z ∈ zs → 0 ≤ z ∧ z < 256 := by
  obtain ⟨hbk, hr, _⟩ := h
  exact hr.range
theorem Rd.setBad (h : Rd t w g A c zs a bad) : Rd t (w.setCell ⟨g, 2, none⟩ (.bool b')) g A c zs a b' := by
  obtain ⟨hbk, hr, h1, h2, h3⟩ := h
  exact ⟨hbk.set_ 2 _, hr.grown (only_setCell (World.grownBy.refl w (some g)) (.inl rfl) _) h3, h1, h2, h3⟩
theorem Rd.setAt (h : Rd t w g A c zs a bad) : Rd t (w.setCell ⟨g, 1, none⟩ (.int .i64 a')) g A c zs a' bad := by
  obtain ⟨hbk, hr, h1, h2, h3⟩ := h
  exact ⟨hbk.set_ 1 _, hr.grown (only_setCell (World.grownBy.refl w (some g)) (.inl rfl) _) h3, h1, h2, h3⟩
end
/-- A method of the reader has answered v. -/
def RdTo (t : TypeId) (w : World) (g : Nat) (A : Option Addr) (c : Nat) (zs : List Int) (v : Value) (a : Nat) (bad : Bool) (e : Ending) (w' : World) : Prop := ∃ W, e = .returned v ∧ W = w' ∧ Rd t W g A c zs a bad ∧ w.grownBy W (some g)
end Go.Proofs.Ytajhkjikcgfhdaa
