/-
  What was laid is read again.
-/
import Derived.Test.YtajhkjikcgfhdaaDec2
namespace Go.Proofs.Ytajhkjikcgfhdaa
set_option linter.unusedVariables false
set_option linter.unusedSimpArgs false
set_option maxRecDepth 20000
open Go.RowKit
/-- From place a on, zs goes on with rest. -/
def At (zs : List Int) (a : Nat) (rest : List Int) : Prop := ∃ pre, zs = pre ++ rest ∧ pre.length = a
theorem at_start (pre rest : List Int) : At (pre ++ rest) pre.length rest := ⟨pre, rfl, rfl⟩
theorem At.end_ {zs : List Int} {a : Nat} (h : At zs a []) : a = zs.length := by
  obtain ⟨pre, h1, h2⟩ := h
  rw [h1, List.append_nil, h2]
theorem At.num {zs : List Int} {a q : Nat} {x : Int} {rest : List Int} {bad : Bool} (h : At zs a (putI x q ++ rest)) (hz : ∀ z, z ∈ zs → 0 ≤ z ∧ z < 256) (hq : q ≤ 7) (h0 : 0 ≤ x) (h1 : x < 2 ^ (8 * q)) : rnum zs a bad q = (x, a + q, bad) ∧ At zs (a + q) rest := by
  obtain ⟨pre, e, hl⟩ := h
  subst hl
  refine ⟨?_, pre ++ putI x q, by rw [e, List.append_assoc], by rw [List.length_append, putI_length]⟩
  unfold rnum
  rw [if_pos (by rw [e, List.length_append, List.length_append, putI_length]; omega)]
  have := numI_mid pre rest x pre.length q q rfl rfl (by rw [← e]; exact hz) hq h0 h1
  rw [← e] at this
  rw [this]
theorem At.text {zs : List Int} {a : Nat} {s : ByteArray} {rest : List Int} {bad : Bool} (h : At zs a (textI s ++ rest)) (hz : ∀ z, z ∈ zs → 0 ≤ z ∧ z < 256) (hs : s.size ≤ 65535) : rtext zs a bad = (s, a + (2 + s.size), bad) ∧ At zs (a + (2 + s.size)) rest := by
  obtain ⟨pre, e, hl⟩ := h
  subst hl
  refine ⟨?_, pre ++ textI s, by rw [e, List.append_assoc], by rw [List.length_append, textI_length]⟩
  have e2 : zs = pre ++ (putI s.size 2 ++ (strB s ++ rest)) := by rw [e, textI, List.append_assoc]
  have hn : numI zs pre.length 2 = s.size := by
    have := numI_mid pre (strB s ++ rest) s.size pre.length 2 2 rfl rfl (by rw [← e2]; exact hz) (by omega) (by omega) (by simp; omega)
    rwa [← e2] at this
  have hlen : zs.length = pre.length + (2 + (s.size + rest.length)) := by
    rw [e2, List.length_append, List.length_append, List.length_append, putI_length, strB_length]
  unfold rtext
  rw [if_pos ⟨⟨by omega, by omega, by omega, by omega⟩, by rw [hn]; omega⟩]
  rw [hn, Int.toNat_natCast, Nat.add_assoc]
  congr 1
  unfold textS
  rw [hn, Int.toNat_natCast, Int.toNat_natCast]
  have e3 : (zs.drop (pre.length + 2)).take s.size = strB s := by
    rw [e2, ← List.drop_drop, List.drop_left]
    rw [List.drop_left' (putI_length _ _)]
    exact List.take_left' (strB_length s)
  rw [e3, strOf_strB]
theorem b2n_range (b : Bool) : 0 ≤ b2n b ∧ b2n b < 2 ^ (8 * 1) := by cases b <;> decide
theorem At.flag {zs : List Int} {a : Nat} {f : Bool} {rest : List Int} (h : At zs a (putI (b2n f) 1 ++ rest)) (hz : ∀ z, z ∈ zs → 0 ≤ z ∧ z < 256) : rflag zs a false = (f, a + 1, false) ∧ At zs (a + 1) rest := by
  obtain ⟨h1, h2⟩ := h.num (bad := false) hz (by omega) (b2n_range f).1 (b2n_range f).2
  refine ⟨?_, h2⟩
  unfold rflag
  rw [h1]
  cases f <;> rfl
theorem At.item {zs : List Int} {a : Nat} {d : Int} {s : ByteArray} {rest : List Int} {bad : Bool} (h : At zs a (itemI d s ++ rest)) (hz : ∀ z, z ∈ zs → 0 ≤ z ∧ z < 256) (h0 : 0 ≤ d) (h1 : d < 256) (hs : s.size ≤ 65535) : ritem zs a bad = ((d, s), a + (3 + s.size), bad) ∧ At zs (a + (3 + s.size)) rest := by
  unfold itemI at h
  rw [List.append_assoc] at h
  obtain ⟨k1, k2⟩ := h.num (bad := bad) hz (by omega) h0 (by simpa using h1)
  obtain ⟨k3, k4⟩ := k2.text (bad := bad) hz hs
  rw [show a + 1 + (2 + s.size) = a + (3 + s.size) by omega] at k3 k4
  refine ⟨?_, k4⟩
  unfold ritem
  rw [k1]
  simp only [k3]
theorem At.items {zs : List Int} (hz : ∀ z, z ∈ zs → 0 ≤ z ∧ z < 256) (xs : List (Int × ByteArray)) : ∀ {a : Nat} {rest : List Int}, At zs a (itemsI xs ++ rest) → (∀ x, x ∈ xs → 0 ≤ x.1 ∧ x.1 < 256 ∧ x.2.size ≤ 65535) →
    ∃ a', ritems zs xs.length a false = (xs, a', false) ∧ At zs a' rest := by
  induction xs with
  | nil =>
    intro a rest h _
    exact ⟨a, rfl, h⟩
  | cons x xs ih =>
    intro a rest h hx
    obtain ⟨d, s⟩ := x
    have e : itemsI ((d, s) :: xs) = itemI d s ++ itemsI xs := rfl
    rw [e, List.append_assoc] at h
    obtain ⟨p0, p1, p2⟩ := hx _ (List.mem_cons_self ..)
    obtain ⟨k1, k2⟩ := h.item (bad := false) hz p0 p1 p2
    obtain ⟨a', k3, k4⟩ := ih k2 (fun y hy => hx y (List.mem_cons_of_mem _ hy))
    refine ⟨a', ?_, k4⟩
    rw [List.length_cons, ritems_next zs _ a _ _ _ k1, k3]
/-! ### Texts of so many runes have at most so many bytes -/
theorem decode_width_le (s : ByteArray) (i : Nat) : (Utf8.decode s i).2 ≤ 4 := by
  rw [Lib.decode_at]
  unfold Lib.decodeN
  repeat' split
  all_goals simp
theorem lenFrom_size (s : ByteArray) : ∀ (f pos : Nat) (acc : Int), 0 ≤ acc → s.size ≤ pos + f → 0 ≤ lenFrom s f pos acc → (s.size : Int) ≤ pos + 4 * (lenFrom s f pos acc - acc) ∧ acc ≤ lenFrom s f pos acc
  | 0, pos, acc, h0, hf, h => by simp only [lenFrom] at h ⊢; omega
  | f + 1, pos, acc, h0, hf, h => by
    simp only [lenFrom] at h ⊢
    split at h
    · rename_i hp
      rw [if_pos hp]
      split at h
      · omega
      · rename_i hb
        rw [if_neg hb]
        have hw := Lib.decode_width_pos s pos hp
        have hw4 := decode_width_le s pos
        have := lenFrom_size s f (pos + (Utf8.decode s pos).2) (acc + 1) (by omega) (by omega) h
        omega
    · rename_i hp
      rw [if_neg hp]
      omega
theorem word_size {s : ByteArray} (h : wordB s = true) : s.size ≤ 48 := by
  have h1 := of_decide_eq_true h
  have h2 := lenFrom_size s s.size 0 0 (by omega) (by omega) (by have := h1.1; unfold lenI at this; omega)
  have h3 : lenFrom s s.size 0 0 = lenI s := rfl
  rw [h3] at h2
  omega
theorem asked_size {s : ByteArray} (h : askedB s = true) : s.size ≤ 64 := by
  have h1 := of_decide_eq_true h
  have h2 := lenFrom_size s s.size 0 0 (by omega) (by omega) (by have := h1.1; unfold lenI at this; omega)
  have h3 : lenFrom s s.size 0 0 = lenI s := rfl
  rw [h3] at h2
  omega
end Go.Proofs.Ytajhkjikcgfhdaa
