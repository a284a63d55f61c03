/-
  The walks of code.Text and inkhornref3.Text.
-/
import Derived.Test.YtajhkjikcgfhdaaNum
namespace Go.Proofs.Ytajhkjikcgfhdaa
set_option linter.unusedVariables false
set_option linter.unusedSimpArgs false
set_option maxRecDepth 20000
open Go.RowKit
/-- Is there a text at place a? -/
def textOk (n : Nat) (zs : List Int) (a : Int) : Prop := numOk n a 2 ∧ a + 2 + numI zs a 2 ≤ n
instance (n : Nat) (zs : List Int) (a : Int) : Decidable (textOk n zs a) := by unfold textOk; exact inferInstance
def textS (zs : List Int) (a : Int) : ByteArray := strOfNums ((zs.drop (a.toNat + 2)).take (numI zs a 2).toNat)
theorem mid_list (pre xs post : List Int) (q : Nat) (h : xs.length = q) : ((pre ++ (xs ++ post)).drop pre.length).take q = xs := by
  subst h
  rw [List.drop_left, List.take_left]
/-- What was laid behind pre is told at pre's end. -/
theorem numI_mid (pre post : List Int) (x a s : Int) (q : Nat) (ha : a = pre.length) (hs : s = q) (hr : ∀ z, z ∈ pre ++ (putI x q ++ post) → 0 ≤ z ∧ z < 256) (h : q ≤ 7) (h0 : 0 ≤ x) (h1 : x < 2 ^ (8 * q)) : numI (pre ++ (putI x q ++ post)) a s = x := by
  subst ha
  subst hs
  rw [numI_plain _ hr _ _ (by omega)]
  simp only [Int.toNat_natCast]
  rw [mid_list _ _ _ _ (putI_length x q), horner_put_fit x q (by omega) h0 h1]
theorem strOf_strB (s : ByteArray) : strOfNums (strB s) = s := by
  apply ByteArray.ext
  apply Array.ext'
  rw [strOfNums_data, strB, List.map_map]
  have : ((fun n : Int => UInt8.ofNat n.toNat) ∘ fun b : UInt8 => (b.toNat : Int)) = id := by
    funext b
    simp
  rw [this, List.map_id]
theorem cutI_small (s : ByteArray) (h : s.size ≤ 65535) : cutI s = s.size := if_neg (by omega)
theorem putTextI_small (s : ByteArray) (h : s.size ≤ 65535) : putTextI s = putI s.size 2 ++ strB s := by
  unfold putTextI
  rw [cutI_small s h, ByteArray.extract_zero_size]
theorem num_text (pre : List Int) (s : ByteArray) (a : Int) (ha : a = pre.length) (hr : ∀ z, z ∈ pre ++ (putI s.size 2 ++ strB s) → 0 ≤ z ∧ z < 256) (h : s.size ≤ 65535) : numI (pre ++ (putI s.size 2 ++ strB s)) a 2 = s.size :=
  numI_mid pre (strB s) s.size a 2 2 ha rfl hr (by omega) (by omega) (by show (s.size : Int) < 65536; omega)
theorem text_mid (pre : List Int) (s : ByteArray) (a : Int) (ha : a = pre.length) (hr : ∀ z, z ∈ pre ++ (putI s.size 2 ++ strB s) → 0 ≤ z ∧ z < 256) (h : s.size ≤ 65535) : textS (pre ++ (putI s.size 2 ++ strB s)) a = s := by
  unfold textS
  rw [num_text pre s a ha hr h]
  subst ha
  simp only [Int.toNat_natCast]
  have e : (pre ++ (putI s.size 2 ++ strB s)).drop (pre.length + 2) = strB s := by
    rw [← List.drop_drop, List.drop_left]
    exact List.drop_left' (putI_length _ _)
  rw [e, List.take_of_length_le (by rw [strB_length]; exact Nat.le_refl _), strOf_strB]
set_option maxHeartbeats 1000000 in
theorem text_no (A : Option Addr) (n cp : Nat) (a : Int) (zs : List Int) (w : World) (h : BReads w A n zs) (hs : ¬ textOk n zs a) :
    Calls Try.prog 88 #[.slice A n cp, .int .i64 a] w fun e w' => e = .returned (.tuple #[.string ⟨#[]⟩, .int .i64 0, .bool false]) ∧ w = w' := by
  have hm := h.2.1
  by_cases h1 : numOk n a 2
  · obtain ⟨r0, r1⟩ := numI_two zs h.range a
    have h2 : (n : Int) < a + 2 + numI zs a 2 := Int.not_le.1 fun k => hs ⟨h1, k⟩
    obtain ⟨N, hN⟩ := Int.eq_ofNat_of_zero_le r0
    have HN := Lib.hid hN
    rw [hN] at h2 r1
    have rN : N < 65536 := by omega
    clear r1
    obtain ⟨k1, k2, k3, k4⟩ := id h1
    have H1 := Lib.hid h1
    have H := Lib.hid h
    clear h h1 hs r0 hN k1 k2
    go_enter Try.func88, Try.ntmps88
    go_wp2_with (go_at_call 54; (with_reducible refine (num_yes _ _ _ _ _ _ _ H.out H1.out).mono ?_); rintro e w' ⟨rfl, rfl⟩; rw [HN.out])
    go_ret3
    exact ⟨rfl, rfl⟩
  · have H1 := Lib.hid h1
    clear h h1 hs
    go_enter Try.func88, Try.ntmps88
    go_wp2_with (go_at_call 54; (with_reducible refine (num_no _ _ _ _ _ _ hm H1.out).mono ?_); rintro e w' ⟨rfl, rfl⟩)
    go_ret3
    exact ⟨rfl, rfl⟩
set_option maxHeartbeats 1000000 in
theorem text_yes (A : Option Addr) (n cp : Nat) (a : Int) (zs : List Int) (w : World) (h : BReads w A n zs) (hc : n ≤ cp) (hcm : cp ≤ 9223372036854775807) (hs : textOk n zs a) :
    Calls Try.prog 88 #[.slice A n cp, .int .i64 a] w fun e w' => e = .returned (.tuple #[.string (textS zs a), .int .i64 (a + 2 + numI zs a 2), .bool true]) ∧ w = w' := by
  have hm := h.2.1
  obtain ⟨h1, h2⟩ := hs
  obtain ⟨r0, r1⟩ := numI_two zs h.range a
  obtain ⟨k1, k2, k3, k4⟩ := id h1
  obtain ⟨b, rfl⟩ := Int.eq_ofNat_of_zero_le k3
  obtain ⟨N, hN⟩ := Int.eq_ofNat_of_zero_le r0
  have HS : Hid (textS zs b = strOfNums ((zs.drop (b + 2)).take N)) := by unfold textS Hid; rw [hN]; rfl
  rw [HS.out, hN]
  rw [hN] at h2 r1
  have rN : N < 65536 := by omega
  clear r1
  have HN := Lib.hid hN
  have H1 := Lib.hid h1
  have H := Lib.hid h
  have HL := Lib.hid h.1
  obtain ⟨ad, rfl, _⟩ := h.at_ 0 (by omega)
  by_cases hcp : cp = b + 2
  · obtain rfl : N = 0 := by omega
    subst hcp
    have kc : (convert 39 9 (.slice (some ad) 0 0)).run Try.prog w = .ok (.string (strOfNums ((zs.drop (b + 2)).take 0))) w := by
      rw [List.take_zero]; exact conv_any (breads_nil w (some ad)) 0
    clear h h1 r0 hN k1 k2
    go_enter Try.func88, Try.ntmps88
    go_wp2_with (go_at_call 54; (with_reducible refine (num_yes _ _ _ _ _ _ _ H.out H1.out).mono ?_); rintro e w' ⟨rfl, rfl⟩; rw [HN.out])
    go_ret3
    exact ⟨by simp, rfl⟩
  · have hr : BReads w (some (ad.add (b + 2))) N ((zs.drop (b + 2)).take N) := by
      have := (h.drop_ (c := cp) (b + 2) (by omega) hc).take_ N (by omega)
      rw [if_neg hcp] at this
      exact this
    have kc : (convert 39 9 (.slice (some (ad.add (b + 2))) N (cp - (b + 2)))).run Try.prog w = .ok (.string (strOfNums ((zs.drop (b + 2)).take N))) w := conv_any hr _
    rw [show ad.add (b + 2) = ⟨ad.block, ad.off + (b + 1 + 1), none⟩ by simp [Addr.add]] at kc
    clear h h1 r0 hN k1 k2 hr
    go_enter Try.func88, Try.ntmps88
    go_wp2_with (go_at_call 54; (with_reducible refine (num_yes _ _ _ _ _ _ _ H.out H1.out).mono ?_); rintro e w' ⟨rfl, rfl⟩; rw [HN.out])
    go_ret3
    exact ⟨rfl, rfl⟩
set_option maxHeartbeats 1000000 in
theorem reftext_no (A : Option Addr) (n cp : Nat) (a : Int) (zs : List Int) (w : World) (h : BReads w A n zs) (hs : ¬ textOk n zs a) :
    Calls Try.prog 89 #[.slice A n cp, .int .i64 a] w fun e w' => e = .returned (.tuple #[.string ⟨#[]⟩, .int .i64 0, .bool false]) ∧ w = w' := by
  have hm := h.2.1
  by_cases h1 : numOk n a 2
  · obtain ⟨r0, r1⟩ := numI_two zs h.range a
    have h2 : (n : Int) < a + 2 + numI zs a 2 := Int.not_le.1 fun k => hs ⟨h1, k⟩
    obtain ⟨N, hN⟩ := Int.eq_ofNat_of_zero_le r0
    have HN := Lib.hid hN
    rw [hN] at h2 r1
    have rN : N < 65536 := by omega
    clear r1
    obtain ⟨k1, k2, k3, k4⟩ := id h1
    have H1 := Lib.hid h1
    have H := Lib.hid h
    clear h h1 hs r0 hN k1 k2
    go_enter Try.func89, Try.ntmps89
    go_wp2_with (go_at_call 56; (with_reducible refine (refnum_yes _ _ _ _ _ _ _ H.out H1.out).mono ?_); rintro e w' ⟨rfl, rfl⟩; rw [HN.out])
    go_ret3
    exact ⟨rfl, rfl⟩
  · have H1 := Lib.hid h1
    clear h h1 hs
    go_enter Try.func89, Try.ntmps89
    go_wp2_with (go_at_call 56; (with_reducible refine (refnum_no _ _ _ _ _ _ hm H1.out).mono ?_); rintro e w' ⟨rfl, rfl⟩)
    go_ret3
    exact ⟨rfl, rfl⟩
set_option maxHeartbeats 1000000 in
theorem reftext_yes (A : Option Addr) (n cp : Nat) (a : Int) (zs : List Int) (w : World) (h : BReads w A n zs) (hc : n ≤ cp) (hcm : cp ≤ 9223372036854775807) (hs : textOk n zs a) :
    Calls Try.prog 89 #[.slice A n cp, .int .i64 a] w fun e w' => e = .returned (.tuple #[.string (textS zs a), .int .i64 (a + 2 + numI zs a 2), .bool true]) ∧ w = w' := by
  have hm := h.2.1
  obtain ⟨h1, h2⟩ := hs
  obtain ⟨r0, r1⟩ := numI_two zs h.range a
  obtain ⟨k1, k2, k3, k4⟩ := id h1
  obtain ⟨b, rfl⟩ := Int.eq_ofNat_of_zero_le k3
  obtain ⟨N, hN⟩ := Int.eq_ofNat_of_zero_le r0
  have HS : Hid (textS zs b = strOfNums ((zs.drop (b + 2)).take N)) := by unfold textS Hid; rw [hN]; rfl
  rw [HS.out, hN]
  rw [hN] at h2 r1
  have rN : N < 65536 := by omega
  clear r1
  have HN := Lib.hid hN
  have H1 := Lib.hid h1
  have H := Lib.hid h
  have HL := Lib.hid h.1
  obtain ⟨ad, rfl, _⟩ := h.at_ 0 (by omega)
  by_cases hcp : cp = b + 2
  · obtain rfl : N = 0 := by omega
    subst hcp
    have kc : (convert 39 9 (.slice (some ad) 0 0)).run Try.prog w = .ok (.string (strOfNums ((zs.drop (b + 2)).take 0))) w := by
      rw [List.take_zero]; exact conv_any (breads_nil w (some ad)) 0
    clear h h1 r0 hN k1 k2
    go_enter Try.func89, Try.ntmps89
    go_wp2_with (go_at_call 56; (with_reducible refine (refnum_yes _ _ _ _ _ _ _ H.out H1.out).mono ?_); rintro e w' ⟨rfl, rfl⟩; rw [HN.out])
    go_ret3
    exact ⟨by simp, rfl⟩
  · have hr : BReads w (some (ad.add (b + 2))) N ((zs.drop (b + 2)).take N) := by
      have := (h.drop_ (c := cp) (b + 2) (by omega) hc).take_ N (by omega)
      rw [if_neg hcp] at this
      exact this
    have kc : (convert 39 9 (.slice (some (ad.add (b + 2))) N (cp - (b + 2)))).run Try.prog w = .ok (.string (strOfNums ((zs.drop (b + 2)).take N))) w := conv_any hr _
    rw [show ad.add (b + 2) = ⟨ad.block, ad.off + (b + 1 + 1), none⟩ by simp [Addr.add]] at kc
    clear h h1 r0 hN k1 k2 hr
    go_enter Try.func89, Try.ntmps89
    go_wp2_with (go_at_call 56; (with_reducible refine (refnum_yes _ _ _ _ _ _ _ H.out H1.out).mono ?_); rintro e w' ⟨rfl, rfl⟩; rw [HN.out])
    go_ret3
    exact ⟨rfl, rfl⟩
end Go.Proofs.Ytajhkjikcgfhdaa
