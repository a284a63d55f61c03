/-
  A frame that was turned is not read: the plain law; the walk of inkhornref14.Turned.
-/
import Derived.Test.YtajhkjikcgfhdaaGreat
namespace Go.Proofs.Ytajhkjikcgfhdaa
set_option linter.unusedVariables false
set_option linter.unusedSimpArgs false
set_option maxRecDepth 20000
open Go.RowKit
theorem horner_inj (x y : List Int) (hx : ∀ z, z ∈ x → 0 ≤ z ∧ z < 256) (hy : ∀ z, z ∈ y → 0 ≤ z ∧ z < 256) (hl : x.length = y.length) (h : horner 0 x = horner 0 y) : x = y := by
  induction x generalizing y with
  | nil => cases y with
    | nil => rfl
    | cons b y => simp at hl
  | cons a x ih => cases y with
    | nil => simp at hl
    | cons b y =>
      have hl' : x.length = y.length := by simpa using hl
      have hx' : ∀ z, z ∈ x → 0 ≤ z ∧ z < 256 := fun z hz => hx z (List.mem_cons_of_mem _ hz)
      have hy' : ∀ z, z ∈ y → 0 ≤ z ∧ z < 256 := fun z hz => hy z (List.mem_cons_of_mem _ hz)
      have ha := hx a (by simp)
      have hb := hy b (by simp)
      rcases Int.lt_trichotomy a b with h1 | h1 | h1
      · have := horner_cmp x y a b hx' hy' hl' h1
        omega
      · subst h1
        rw [horner_cons, horner_cons, hl'] at h
        rw [ih y hx' hy' hl' (by omega)]
      · have := horner_cmp y x b a hy' hx' hl'.symm h1
        omega
theorem sum_one (pre post : List Int) (a b : Int) (hpre : ∀ z, z ∈ pre → 0 ≤ z ∧ z < 256) (hpost : ∀ z, z ∈ post → 0 ≤ z ∧ z < 256) (ha : 0 ≤ a ∧ a < 256) (hb : 0 ≤ b ∧ b < 256)
    (h : addI 0 (pre ++ a :: post) = addI 0 (pre ++ b :: post)) : a = b := by
  have r (c : Int) (hc : 0 ≤ c ∧ c < 256) : ∀ z, z ∈ pre ++ c :: post → 0 ≤ z ∧ z < 256 := by
    intro z hz
    simp only [List.mem_append, List.mem_cons] at hz
    rcases hz with hz | rfl | hz
    · exact hpre z hz
    · exact hc
    · exact hpost z hz
  have e1 := addI_nat 0 _ (by omega) (r a ha)
  have e2 := addI_nat 0 _ (by omega) (r b hb)
  rw [show ((0 : Nat) : Int) = 0 from rfl] at e1 e2
  rw [e1, e2] at h
  have l1 := rN_lt 4294967295 (bytesN (pre ++ a :: post)) (by omega) (bytesN_lt _ (r a ha))
  have l2 := rN_lt 4294967295 (bytesN (pre ++ b :: post)) (by omega) (bytesN_lt _ (r b hb))
  simp only [Nat.sub_zero] at h
  have hr : rN 4294967295 (bytesN (pre ++ a :: post)) = rN 4294967295 (bytesN (pre ++ b :: post)) := by omega
  have part (c : Int) : rN 4294967295 (bytesN (pre ++ c :: post)) = rN (tN (rN 4294967295 (bytesN pre)) c.toNat) (bytesN post) := by simp [rN, bytesN]
  rw [part, part] at hr
  have c0 := rN_lt 4294967295 (bytesN pre) (by omega) (bytesN_lt _ hpre)
  have h4 := rN_inj _ _ _ (tN_lt _ _ c0 (by omega)) (tN_lt _ _ c0 (by omega)) (bytesN_lt _ hpost) hr
  have h5 := iN_inj 8 _ _ (xor_lt _ _ c0 (by omega)) (xor_lt _ _ c0 (by omega)) h4
  have h6 : rN 4294967295 (bytesN pre) ^^^ (rN 4294967295 (bytesN pre) ^^^ a.toNat) = rN 4294967295 (bytesN pre) ^^^ (rN 4294967295 (bytesN pre) ^^^ b.toNat) := by rw [h5]
  rw [← Nat.xor_assoc, Nat.xor_self, Nat.zero_xor, ← Nat.xor_assoc, Nat.xor_self, Nat.zero_xor] at h6
  omega
theorem set_parts (zs : List Int) (k : Nat) (x : Int) (h : k < zs.length) : zs = zs.take k ++ gi zs k :: zs.drop (k + 1) ∧ zs.set k x = zs.take k ++ x :: zs.drop (k + 1) := by
  have e : zs = zs.take k ++ gi zs k :: zs.drop (k + 1) := by
    have h1 := List.take_append_drop k zs
    rw [List.drop_eq_getElem_cons h] at h1
    have e2 : gi zs k = zs[k] := by simp [gi, List.getD_eq_getElem?_getD, h]
    rw [e2]
    exact h1.symm
  refine ⟨e, ?_⟩
  have hl : (zs.take k).length = k := by rw [List.length_take]; omega
  conv => lhs; rw [e]
  rw [List.set_append_right _ _ (by omega), hl, Nat.sub_self, List.set_cons_zero]
theorem gi_set_self (zs : List Int) (k : Nat) (x : Int) (h : k < zs.length) : gi (zs.set k x) k = x := by simp [gi, List.getD_eq_getElem?_getD, h]
theorem gi_takeN (zs : List Int) (k m : Nat) (h : k < m) : gi (zs.take m) k = gi zs k := by
  simp [gi, List.getD_eq_getElem?_getD, List.getElem?_take, h]
theorem gi_drop (zs : List Int) (k m : Nat) : gi (zs.drop m) k = gi zs (m + k) := by
  simp [gi, List.getD_eq_getElem?_getD, List.getElem?_drop]
theorem set_range (zs : List Int) (k : Nat) (x : Int) (hz : ∀ z, z ∈ zs → 0 ≤ z ∧ z < 256) (hx : 0 ≤ x ∧ x < 256) : ∀ z, z ∈ zs.set k x → 0 ≤ z ∧ z < 256 := by
  intro z h
  rcases List.mem_or_eq_of_mem_set h with h | h
  · exact hz z h
  · rw [h]; exact hx
theorem dec_turned (zs : List Int) (n k : Nat) (x : Int) (hl : zs.length = n) (h7 : 7 ≤ n) (h1024 : n ≤ 1024) (hk : k < n) (hz : ∀ z, z ∈ zs → 0 ≤ z ∧ z < 256) (hx : 0 ≤ x ∧ x < 256) (hne : x ≠ gi zs k)
    (h1 : numI zs 0 2 = n) (h2 : numI zs ((n - 4 : Nat) : Int) 4 = addI 0 (zs.take (n - 4))) : ∃ e, decI (zs.set k x) = (e, .none) ∧ (e != 0) = true := by
  have hz2 := set_range zs k x hz hx
  have hg := gi_set_self zs k x (by omega)
  unfold decI
  rw [List.length_set, hl]
  by_cases c1 : n < 7 ∨ 1024 < n ∨ numI (zs.set k x) 0 2 ≠ n
  · rw [if_pos c1]; exact ⟨8, rfl, rfl⟩
  rw [if_neg c1]
  have n1 : numI (zs.set k x) 0 2 = n := by
    by_cases h : numI (zs.set k x) 0 2 = n
    · exact h
    · exact absurd (.inr (.inr h)) c1
  by_cases c2 : numI (zs.set k x) ((n - 4 : Nat) : Int) 4 ≠ addI 0 ((zs.set k x).take (n - 4))
  · rw [if_pos c2]; exact ⟨9, rfl, rfl⟩
  exfalso
  have n2 : numI (zs.set k x) ((n - 4 : Nat) : Int) 4 = addI 0 ((zs.set k x).take (n - 4)) := by
    by_cases h : numI (zs.set k x) ((n - 4 : Nat) : Int) 4 = addI 0 ((zs.set k x).take (n - 4))
    · exact h
    · exact absurd h c2
  clear c1 c2
  apply hne
  by_cases k2 : k < 2
  · rw [← h1, numI_plain _ hz2 _ _ (by omega), numI_plain _ hz _ _ (by omega)] at n1
    have e := horner_inj _ _ (range_mid _ hz2 _ _) (range_mid _ hz _ _) (by simp only [List.length_take, List.length_drop, List.length_set]) n1
    have e2 := congrArg (fun l => gi l k) e
    simp only [show (0 : Int).toNat = 0 from rfl, show (2 : Int).toNat = 2 from rfl, List.drop_zero] at e2
    rw [gi_takeN _ _ _ k2, gi_takeN _ _ _ k2, hg] at e2
    exact e2
  by_cases k4 : n - 4 ≤ k
  · have et : (zs.set k x).take (n - 4) = zs.take (n - 4) := by rw [List.take_set_of_le k4]
    rw [et, ← h2, numI_plain _ hz2 _ _ (by omega), numI_plain _ hz _ _ (by omega)] at n2
    have e := horner_inj _ _ (range_mid _ hz2 _ _) (range_mid _ hz _ _) (by simp only [List.length_take, List.length_drop, List.length_set]) n2
    have e2 := congrArg (fun l => gi l (k - (n - 4))) e
    simp only [Int.toNat_natCast, show (4 : Int).toNat = 4 from rfl] at e2
    rw [gi_takeN _ _ _ (by omega), gi_takeN _ _ _ (by omega), gi_drop, gi_drop, show n - 4 + (k - (n - 4)) = k by omega, hg] at e2
    exact e2
  · have ed : (zs.set k x).drop (n - 4) = zs.drop (n - 4) := by rw [List.drop_set_of_lt (by omega)]
    rw [numI_plain _ hz2 _ _ (by omega)] at n2
    rw [numI_plain _ hz _ _ (by omega)] at h2
    simp only [Int.toNat_natCast] at n2 h2
    rw [ed, h2, List.take_set] at n2
    have hl2 : (zs.take (n - 4)).length = n - 4 := by rw [List.length_take]; omega
    obtain ⟨p1, p2⟩ := set_parts (zs.take (n - 4)) k x (by omega)
    rw [p2] at n2
    rw [p1] at n2
    have hzt : ∀ z, z ∈ zs.take (n - 4) → 0 ≤ z ∧ z < 256 := fun z h => hz z (List.mem_of_mem_take h)
    have hgk : 0 ≤ gi (zs.take (n - 4)) k ∧ gi (zs.take (n - 4)) k < 256 := gi_range _ hzt k
    have tl : ((zs.take (n - 4)).take k).length = k := by rw [List.length_take]; omega
    have e1 : (List.take k (zs.take (n - 4)) ++ gi (zs.take (n - 4)) k :: List.drop (k + 1) (zs.take (n - 4))) = zs.take (n - 4) := p1.symm
    rw [e1] at n2
    conv at n2 => lhs; rw [p1]
    have := sum_one _ _ _ _ (fun z h => hzt z (List.mem_of_mem_take h)) (fun z h => hzt z (List.mem_of_mem_drop h)) hgk hx n2
    rw [gi_takeN _ _ _ (by omega)] at this
    exact this.symm
theorem dec_len (zs ys : List Int) (n : Nat) (hz : ∀ z, z ∈ zs → 0 ≤ z ∧ z < 256) (hy : ∀ z, z ∈ ys → 0 ≤ z ∧ z < 256) (h1 : numI zs 0 2 = n) (ht : ys.take 2 = zs.take 2) (hn : ys.length ≠ n) : decI ys = (8, .none) := by
  unfold decI
  rw [if_pos]
  refine .inr (.inr ?_)
  have e : numI ys 0 2 = numI zs 0 2 := by
    rw [numI_plain _ hy _ _ (by omega), numI_plain _ hz _ _ (by omega)]
    simp only [show (0 : Int).toNat = 0 from rfl, show (2 : Int).toNat = 2 from rfl, List.drop_zero]
    rw [ht]
  rw [e, h1]
  omega
/-- What a frame tells of itself. -/
theorem frame_tells (m : M) (h : mayM m = true) : numI (frameM m) 0 2 = ((frameM m).length : Int) ∧ numI (frameM m) (((frameM m).length - 4 : Nat) : Int) 4 = addI 0 ((frameM m).take ((frameM m).length - 4)) := by
  have e := dec_frame m h
  unfold decI at e
  split at e
  · next => cases m <;> first | (cases h) | (injection e with e1 e2; cases e2)
  · next h1 =>
    split at e
    · next => cases m <;> first | (cases h) | (injection e with e1 e2; cases e2)
    · next h2 =>
      refine ⟨?_, ?_⟩
      · by_cases h : numI (frameM m) 0 2 = ((frameM m).length : Int)
        · exact h
        · exact absurd (.inr (.inr h)) h1
      · by_cases h : numI (frameM m) (((frameM m).length - 4 : Nat) : Int) 4 = addI 0 ((frameM m).take ((frameM m).length - 4))
        · exact h
        · exact absurd h h2
def xorB (a t : Int) : Int := Go.bits .xor .u8 a t
theorem xorB_ok (a t : Int) (ha : 0 ≤ a ∧ a < 256) (ht : 1 ≤ t ∧ t ≤ 255) : 0 ≤ xorB a t ∧ xorB a t < 256 ∧ xorB a t ≠ a := by
  obtain ⟨a, rfl⟩ := Int.eq_ofNat_of_zero_le ha.1
  obtain ⟨t, rfl⟩ := Int.eq_ofNat_of_zero_le (show 0 ≤ t by omega)
  unfold xorB
  rw [u8_xor_nat a t (by omega) (by omega)]
  have h1 := xor8_lt a t (by omega) (by omega)
  refine ⟨by omega, by omega, fun h => ?_⟩
  have h2 : a ^^^ t = a := by omega
  have h3 : a ^^^ (a ^^^ t) = a ^^^ a := by rw [h2]
  rw [← Nat.xor_assoc, Nat.xor_self, Nat.zero_xor] at h3
  omega
set_option maxHeartbeats 4000000 in
theorem turned_any (A : Option Addr) (n cp k : Nat) (zs : List Int) (at_ x r : Int) (w : World) (h : BReads w A n zs) (hn : n ≤ 100000) (hk : (IntKind.u64.wrap at_).tmod (n : Int) = (k : Int)) (hkn : k < n) (hr : (IntKind.u64.wrap x).tmod 255 = r) (r0 : 0 ≤ r) (r1 : r ≤ 254) :
    Calls Try.prog 29 #[.slice A n cp, .int .i64 at_, .int .i64 x] w fun e w' => ∃ A2 c W, e = .returned (.slice A2 n c) ∧ W = w' ∧ BReads W A2 n (zs.set k (xorB (gi zs k) (1 + r))) ∧ n ≤ c ∧ c ≤ 9223372036854775807 ∧ Below w.heap.size w W := by
  obtain ⟨i0, hi, hz0, hz1, hz2⟩ := info_parts info_u8
  have H := Lib.hid h
  have HR := Lib.hid h.range
  have HL := Lib.hid h.1
  have I := Lib.hid (And.intro hi (And.intro hz0 (And.intro hz1 hz2)))
  have nz : ((n : Int) == 0) = false := by simp; omega
  clear h hi hz0 hz1 hz2
  go_enter Try.func29, Try.ntmps29
  go_wp2_with (at_builtin; refine wpList_append_any _ rfl (.const (.slice none 0 0)) (.tmp 9) _ rfl w.heap.size 5 i0 _ 1 1 Try.underlying39 I.out.1 I.out.2.1 I.out.2.2.1 I.out.2.2.2 rfl (by omega) (.slice none 0 0) 0 [] rfl (World.ownsRow_nil _ _ _ _) w.heap.size A n cp (bvals zs) rfl H.out.reads (bvals_one _) (by simp only [maxLen]; omega) (by omega) (Nat.le_refl _) ?_; intro v1 w1 hown1 hg1 hat1; have hb1 : Below w.heap.size w w1 := (Below.refl _ _).grown hg1 (Nat.le_refl _) (by simp [Value.ownBlock]); simp only [Nat.zero_add, List.nil_append] at hown1; obtain ⟨g, cap, hv1, hbg, hlt⟩ := hown1.form (by omega); rw [hv1]; rw [hv1] at hown1; clear hv1 hat1 hg1; have hc : w1.cell? ⟨g, k, none⟩ = some (.int .u8 (gi zs k)) := (by
        rw [World.ownsRow.cellAt hown1 _ (by omega)]
        exact bvals_get _ _ (by rw [HL.out]; omega)); have hf : w1.frozen? ⟨g, k, none⟩ = false := World.ownsRow.frozenAt hown1 _)
  go_ret
  have hs := World.ownsRow.stored hown1 k (.int .u8 (xorB (gi zs k) (1 + r)))
  rw [bvals_set] at hs
  obtain ⟨A2, c2, e2, hc2, hr2⟩ := own_breads hs.1 (set_range zs k _ HR.out (by
    have := xorB_ok (gi zs k) (1 + r) (gi_range zs HR.out k) (by omega)
    omega))
  injection e2 with e3 e4 e5
  subst e3
  subst e5
  exact ⟨_, cap, _, rfl, rfl, hr2, hc2, own_cap hs.1, hb1.setCell hbg _⟩
end Go.Proofs.Ytajhkjikcgfhdaa
