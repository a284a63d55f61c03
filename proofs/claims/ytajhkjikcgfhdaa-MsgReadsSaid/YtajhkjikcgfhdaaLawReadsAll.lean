/-
  Merged by program out of: ReadsPure RdRef Qread Qitems Qread2 ReadsRef ReadsDec ReadsDec2 LawReads.
-/
import Derived.Test.YtajhkjikcgfhdaaLawLaysAll
import Derived.Test.YtajhkjikcgfhdaaRd0
import Derived.Deep.MidRow
import Derived.Laws.ResultCell
namespace Go.Proofs.Ytajhkjikcgfhdaa
set_option linter.unusedVariables false
set_option linter.unusedSimpArgs false
set_option maxRecDepth 20000
open Go.RowKit
/-! ### What the reference reads -/
def readRAsk (zs : List Int) (a : Nat) (bad : Bool) : M × Nat × Bool :=
  match rnum zs a bad 4 with
  | (x1, a1, b1) => match rnum zs a1 b1 4 with
    | (x2, a2, b2) => match rnum zs a2 b2 4 with
      | (x3, a3, b3) => match rnum zs a3 b3 4 with
        | (x4, a4, b4) => match rnum zs a4 b4 4 with
          | (x5, a5, b5) => match rtext zs a5 b5 with
            | (t, a6, b6) => match rnum zs a6 b6 1 with
              | (k, a7, b7) => match rnum zs a7 b7 1 with
                | (b, a8, b8) => match rnum zs a8 b8 1 with
                  | (f, a9, b9) => match rnum zs a9 b9 1 with
                    | (d, a10, b10) => match rtext zs a10 b10 with
                      | (s, a11, b11) => (.ask x1 x2 x3 x4 x5 t k b (f == 1) d s, a11, b11)
def readRReply (zs : List Int) (a : Nat) (bad : Bool) : M × Nat × Bool :=
  match rnum zs a bad 4 with
  | (x1, a1, b1) => match rnum zs a1 b1 4 with
    | (x2, a2, b2) => match rnum zs a2 b2 4 with
      | (x3, a3, b3) => match rnum zs a3 b3 4 with
        | (x4, a4, b4) => match rnum zs a4 b4 4 with
          | (x5, a5, b5) => match rnum zs a5 b5 4 with
            | (x6, a6, b6) => match rnum zs a6 b6 1 with
              | (n, a7, b7) => match ritems zs n.toNat a7 b7 with
                | (xs, a8, b8) => match rnum zs a8 b8 1 with
                  | (en, a9, b9) => (.reply x1 x2 x3 x4 x5 x6 xs (en == 1), a9, b9)
def readR (zs : List Int) (kind : Int) (a : Nat) (bad : Bool) : M × Nat × Bool :=
  if kind = 1 then readHello zs a bad
  else if kind = 2 then readGrant zs a bad
  else if kind = 3 then readRAsk zs a bad
  else if kind = 4 then readRReply zs a bad
  else if kind = 5 then readStop zs a bad
  else (.none, a, bad)
def rdecI (zs : List Int) : Int × M :=
  if zs.length < 7 ∨ 1024 < zs.length ∨ numI zs 0 2 ≠ zs.length then (8, .none)
  else if numI zs ((zs.length - 4 : Nat) : Int) 4 ≠ addI 0 (zs.take (zs.length - 4)) then (9, .none)
  else if (readR zs (gi zs 2) 3 false).2.2 = true ∨ mayM (readR zs (gi zs 2) 3 false).1 = false ∨ frameM (readR zs (gi zs 2) 3 false).1 ≠ zs then (8, .none)
  else (0, (readR zs (gi zs 2) 3 false).1)
/-! ### Digits -/
theorem horner_one (x y : List Int) (hx : ∀ z, z ∈ x → 0 ≤ z ∧ z < 256) (hy : ∀ z, z ∈ y → 0 ≤ z ∧ z < 256) (hl : x.length = y.length) (h : horner 0 x = horner 0 y) : x = y := by
  induction x generalizing y with
  | nil => cases y with
    | nil => rfl
    | cons b y => simp at hl
  | cons a x ih => cases y with
    | nil => simp at hl
    | cons b y =>
      have hl' : x.length = y.length := by simpa using hl
      have hx' : ∀ z, z ∈ x → 0 ≤ z ∧ z < 256 := fun z hz => hx z (List.mem_cons_of_mem _ hz)
      have hy' : ∀ z, z ∈ y → 0 ≤ z ∧ z < 256 := fun z hz => hy z (List.mem_cons_of_mem _ hz)
      have ha := hx a (by simp)
      have hb := hy b (by simp)
      rcases Int.lt_trichotomy a b with h1 | h1 | h1
      · have := horner_cmp x y a b hx' hy' hl' h1
        omega
      · subst h1
        rw [horner_cons, horner_cons, hl'] at h
        rw [ih y hx' hy' hl' (by omega)]
      · have := horner_cmp y x b a hy' hx' hl'.symm h1
        omega
theorem put_horner (l : List Int) (q : Nat) (hl : ∀ z, z ∈ l → 0 ≤ z ∧ z < 256) (hq : l.length = q) (h7 : q ≤ 7) : putI (horner 0 l) q = l := by
  have hr := horner_lt l hl
  have hp : ((256 : Nat) : Int) ^ l.length = 2 ^ (8 * q) := by
    rw [hq, show (2 : Int) ^ (8 * q) = (2 ^ 8) ^ q from Int.pow_mul]
    rfl
  refine horner_one _ _ (putI_range _ _) hl (by rw [putI_length, hq]) ?_
  exact horner_put_fit _ q (by omega) hr.1 (by rw [← hp]; exact hr.2)
theorem strB_of (l : List Int) (hl : ∀ z, z ∈ l → 0 ≤ z ∧ z < 256) : strB (strOfNums l) = l := by
  unfold strB
  rw [strOfNums_data, List.map_map]
  conv => rhs; rw [← List.map_id l]
  apply List.map_congr_left
  intro z hz
  obtain ⟨h0, h1⟩ := hl z hz
  have h2 : (UInt8.ofNat z.toNat).toNat = z.toNat := by
    rw [UInt8.toNat_ofNat']
    exact Nat.mod_eq_of_lt (by omega)
  show (((UInt8.ofNat z.toNat).toNat : Nat) : Int) = z
  rw [h2]
  omega
/-! ### What lies from one place to another -/
def Lies (zs : List Int) (a : Nat) (l : List Int) (a' : Nat) : Prop := a' = a + l.length ∧ a' ≤ zs.length ∧ zs.drop a = l ++ zs.drop a'
theorem Lies.app {zs : List Int} {a b c : Nat} {l m : List Int} (h : Lies zs a l b) (k : Lies zs b m c) : Lies zs a (l ++ m) c :=
  ⟨by rw [k.1, h.1, List.length_append]; omega, k.2.1, by rw [h.2.2, k.2.2, List.append_assoc]⟩
theorem Lies.nil {zs : List Int} {a : Nat} (h : a ≤ zs.length) : Lies zs a [] a := ⟨rfl, h, rfl⟩
theorem lies_take (zs : List Int) (a q : Nat) (h : a + q ≤ zs.length) : Lies zs a ((zs.drop a).take q) (a + q) := by
  refine ⟨by rw [List.length_take, List.length_drop]; omega, h, ?_⟩
  rw [← List.drop_drop, List.take_append_drop]
section
variable {zs : List Int} {k a q a' : Nat} {v : Int} {bad b' : Bool}
theorem numI_take (hz : ∀ z, z ∈ zs → 0 ≤ z ∧ z < 256) (hk : k ≤ zs.length) (h : a + q ≤ k) (hq : q ≤ 7) : numI (zs.take k) a q = numI zs a q := by
  rw [numI_plain _ (fun z h => hz z (List.mem_of_mem_take h)) _ _ (by omega), numI_plain zs hz _ _ (by omega)]
  simp only [Int.toNat_natCast]
  rw [List.drop_take, List.take_take, Nat.min_eq_left (by omega)]
theorem put_numI (hz : ∀ z, z ∈ zs → 0 ≤ z ∧ z < 256) (h : a + q ≤ zs.length) (hq : q ≤ 7) : putI (numI zs a q) q = (zs.drop a).take q := by
  rw [numI_plain zs hz _ _ (by omega)]
  simp only [Int.toNat_natCast]
  exact put_horner _ q (range_mid zs hz a q) (by rw [List.length_take, List.length_drop]; omega) hq
theorem rnum_sticky (zs : List Int) (a q : Nat) : (rnum zs a true q).2.2 = true := by unfold rnum; split <;> rfl
theorem rtext_sticky (zs : List Int) (a : Nat) : (rtext zs a true).2.2 = true := by unfold rtext; split <;> rfl
theorem rflag_sticky (zs : List Int) (a : Nat) : (rflag zs a true).2.2 = true := by unfold rflag; rw [rnum_sticky]; rfl
theorem ritem_sticky (zs : List Int) (a : Nat) : (ritem zs a true).2.2 = true := by unfold ritem; rw [rnum_sticky]; exact rtext_sticky _ _
theorem rnum_was (h : rnum zs a bad q = (v, a', false)) : bad = false := by
  cases bad with
  | false => rfl
  | true => have := rnum_sticky zs a q; rw [h] at this; cases this
theorem rtext_was {t : ByteArray} (h : rtext zs a bad = (t, a', false)) : bad = false := by
  cases bad with
  | false => rfl
  | true => have := rtext_sticky zs a; rw [h] at this; cases this
theorem rflag_was {f : Bool} (h : rflag zs a bad = (f, a', false)) : bad = false := by
  cases bad with
  | false => rfl
  | true => have := rflag_sticky zs a; rw [h] at this; cases this
theorem ritem_was {x : Int × ByteArray} (h : ritem zs a bad = (x, a', false)) : bad = false := by
  cases bad with
  | false => rfl
  | true => have := ritem_sticky zs a; rw [h] at this; cases this
theorem ritems_was {n : Nat} {xs : List (Int × ByteArray)} (h : ritems zs n a bad = (xs, a', false)) : bad = false := by
  cases bad with
  | false => rfl
  | true => rw [ritems_bad] at h; cases h
/-- A number read ahead of place k. -/
theorem front_num (hz : ∀ z, z ∈ zs → 0 ≤ z ∧ z < 256) (hk : k ≤ zs.length) (hq : q ≤ 7) (h : rnum (zs.take k) a bad q = (v, a', false)) : rnum zs a false q = (v, a', false) ∧ Lies zs a (putI v q) a' ∧ 0 ≤ v := by
  obtain rfl := rnum_was h
  unfold rnum at h ⊢
  split at h
  · rename_i h1
    rw [List.length_take, Nat.min_eq_left hk] at h1
    injection h with h2 h
    injection h with h3 _
    rw [numI_take hz hk h1 hq] at h2
    rw [if_pos (by omega), h2, ← h3]
    refine ⟨rfl, ?_, ?_⟩
    · rw [← h2, put_numI hz (by omega) hq]
      exact lies_take zs a q (by omega)
    · rw [← h2]
      exact (numI_up zs hz a q hq).1
  · injection h with _ h
    injection h with _ h
    cases h
theorem front_text {t : ByteArray} (hz : ∀ z, z ∈ zs → 0 ≤ z ∧ z < 256) (hk : k ≤ zs.length) (h : rtext (zs.take k) a bad = (t, a', false)) : rtext zs a false = (t, a', false) ∧ Lies zs a (textI t) a' := by
  obtain rfl := rtext_was h
  unfold rtext at h ⊢
  split at h
  · rename_i h1
    have h2 := h1.1
    have h3 := h1.2
    rw [List.length_take, Nat.min_eq_left hk] at h2 h3
    have h4 := h2.2.2.2
    have hn2 : numI (zs.take k) a 2 = numI zs a 2 := numI_take (q := 2) hz hk (by omega) (by omega)
    rw [hn2] at h3 h
    have hr := numI_two zs hz a
    obtain ⟨N, hN⟩ := Int.eq_ofNat_of_zero_le hr.1
    rw [hN] at h3
    have hok : textOk zs.length zs a := ⟨⟨by omega, by omega, by omega, by omega⟩, by rw [hN]; omega⟩
    rw [if_pos hok]
    injection h with e1 h
    injection h with e2 _
    have hs : textS (zs.take k) a = textS zs a := by
      unfold textS
      rw [hn2, hN]
      simp only [Int.toNat_natCast]
      rw [List.drop_take, List.take_take, Nat.min_eq_left (by omega)]
    rw [← e1, ← e2, hs]
    refine ⟨rfl, ?_⟩
    have hl := lies_take zs (a + 2) N (by omega)
    have hl2 := lies_take zs a 2 (by omega)
    have ht : textI (textS zs a) = (zs.drop a).take 2 ++ (zs.drop (a + 2)).take N := by
      unfold textI textS
      rw [hN]
      simp only [Int.toNat_natCast]
      rw [strB_of _ (range_mid zs hz _ _)]
      congr 1
      rw [← put_numI (q := 2) hz (by omega) (by omega)]
      congr 1
      have h5 : (strOfNums ((zs.drop (a + 2)).take N)).size = N := by
        have := congrArg List.length (strB_of _ (range_mid zs hz (a + 2) N))
        rw [strB_length] at this
        rw [this, List.length_take, List.length_drop]
        omega
      rw [h5]
      exact hN.symm
    rw [ht, hN]
    exact hl2.app hl
  · injection h with _ h
    injection h with _ h
    cases h
theorem front_flag {f : Bool} (hz : ∀ z, z ∈ zs → 0 ≤ z ∧ z < 256) (hk : k ≤ zs.length) (h : rflag (zs.take k) a bad = (f, a', false)) : ∃ n, rnum zs a false 1 = (n, a', false) ∧ f = (n == 1) ∧ Lies zs a (putI (b2n f) 1) a' := by
  obtain rfl := rflag_was h
  unfold rflag at h
  injection h with h1 h
  injection h with h2 h3
  rw [Bool.or_eq_false_iff] at h3
  obtain ⟨h3, h4⟩ := h3
  obtain ⟨n, p, b, hn⟩ : ∃ n p b, rnum (zs.take k) a false 1 = (n, p, b) := ⟨_, _, _, rfl⟩
  rw [hn] at h1 h2 h3 h4
  simp only at h1 h2 h3 h4
  subst h2
  subst h3
  obtain ⟨k1, k2, k3⟩ := front_num hz hk (by omega) hn
  have h5 : ¬ 1 < n := of_decide_eq_false h4
  refine ⟨n, k1, h1.symm, ?_⟩
  rw [← h1]
  have : n = 0 ∨ n = 1 := by omega
  rcases this with rfl | rfl <;> exact k2
theorem front_item {d : Int} {s : ByteArray} (hz : ∀ z, z ∈ zs → 0 ≤ z ∧ z < 256) (hk : k ≤ zs.length) (h : ritem (zs.take k) a bad = ((d, s), a', false)) : ∃ p, rnum zs a false 1 = (d, p, false) ∧ rtext zs p false = (s, a', false) ∧ ritem zs a false = ((d, s), a', false) ∧ Lies zs a (itemI d s) a' := by
  obtain rfl := ritem_was h
  obtain ⟨n, p, b, hn⟩ : ∃ n p b, rnum (zs.take k) a false 1 = (n, p, b) := ⟨_, _, _, rfl⟩
  unfold ritem at h
  rw [hn] at h
  simp only at h
  obtain ⟨t, p2, b2, ht⟩ : ∃ n p2 b2, rtext (zs.take k) p b = (n, p2, b2) := ⟨_, _, _, rfl⟩
  rw [ht] at h
  simp only at h
  injection h with h1 h
  injection h with h2 h3
  injection h1 with h0 h1
  subst h0
  subst h1
  subst h2
  subst h3
  obtain rfl := rtext_was ht
  obtain ⟨k1, k2, _⟩ := front_num hz hk (by omega) hn
  obtain ⟨k3, k4⟩ := front_text hz hk ht
  refine ⟨p, k1, k3, ?_, k2.app k4⟩
  unfold ritem
  rw [k1]
  simp only
  rw [k3]
theorem front_items (hz : ∀ z, z ∈ zs → 0 ≤ z ∧ z < 256) (hk : k ≤ zs.length) (n : Nat) : ∀ {a a' : Nat} {xs : List (Int × ByteArray)} {bad : Bool}, a ≤ zs.length → ritems (zs.take k) n a bad = (xs, a', false) → ritems zs n a false = (xs, a', false) ∧ xs.length = n ∧ Lies zs a (itemsI xs) a' := by
  induction n with
  | zero =>
    intro a a' xs bad ha h
    simp only [ritems] at h ⊢
    injection h with h1 h
    injection h with h2 h
    subst h1
    subst h2
    exact ⟨rfl, rfl, Lies.nil ha⟩
  | succ n ih =>
    intro a a' xs bad ha h
    obtain rfl := ritems_was h
    obtain ⟨d, s, p, b, hx⟩ : ∃ d s p b, ritem (zs.take k) a false = ((d, s), p, b) := ⟨_, _, _, _, rfl⟩
    rw [ritems_next _ n a p b (d, s) hx] at h
    obtain ⟨ys, p2, b2, hy⟩ : ∃ ys p2 b2, ritems (zs.take k) n p b = (ys, p2, b2) := ⟨_, _, _, rfl⟩
    rw [hy] at h
    simp only at h
    injection h with h1 h
    injection h with h2 h3
    subst h1
    subst h2
    subst h3
    obtain rfl := ritems_was hy
    obtain ⟨_, _, _, k1, k2⟩ := front_item hz hk hx
    obtain ⟨k3, k4, k5⟩ := ih k2.2.1 hy
    refine ⟨?_, by simp [k4], k2.app k5⟩
    rw [ritems_next zs n a p false (d, s) k1, k3]
end
theorem foursI_cons (x : Int) (l : List Int) : foursI (x :: l) = putI x 4 ++ foursI l := rfl
theorem foursI_nil : foursI [] = [] := rfl
/-- What Decode reads ahead of the sum without a fault the reference reads as well; it lies there as it is laid. -/
theorem front_read (zs : List Int) (k : Nat) (kind : Int) (m : M) (a a' : Nat) (hz : ∀ z, z ∈ zs → 0 ≤ z ∧ z < 256) (hk : k ≤ zs.length) (h : readM (zs.take k) kind a false = (m, a', false)) :
    readR zs kind a false = (m, a', false) ∧ Lies zs a (bodyM m) a' ∧ (kindM m : Int) = kind := by
  unfold readM at h
  unfold readR
  split at h
  · rename_i hkd
    rw [if_pos hkd]
    unfold readHello at h ⊢
    split at h; rename_i x1 a1 b1 e1
    split at h; rename_i x2 a2 b2 e2
    injection h with h1 h
    injection h with h2 h3
    subst h1; subst h2; subst h3
    obtain rfl := rnum_was e2
    obtain ⟨f1, l1, _⟩ := front_num hz hk (by omega) e1
    obtain ⟨f2, l2, _⟩ := front_num hz hk (by omega) e2
    simp only [f1, f2]
    refine ⟨trivial, ?_, by rw [hkd]; rfl⟩
    show Lies zs a (foursI [x1, x2]) _
    rw [foursI_cons, foursI_cons, foursI_nil]
    exact l1.app (l2.app (Lies.nil l2.2.1))
  split at h
  · rename_i hk1 hkd
    rw [if_neg hk1, if_pos hkd]
    unfold readGrant at h ⊢
    split at h; rename_i x1 a1 b1 e1
    split at h; rename_i x2 a2 b2 e2
    split at h; rename_i x3 a3 b3 e3
    injection h with h1 h
    injection h with h2 h3
    subst h1; subst h2; subst h3
    obtain rfl := rnum_was e3
    obtain rfl := rnum_was e2
    obtain ⟨f1, l1, _⟩ := front_num hz hk (by omega) e1
    obtain ⟨f2, l2, _⟩ := front_num hz hk (by omega) e2
    obtain ⟨f3, l3, _⟩ := front_num hz hk (by omega) e3
    simp only [f1, f2, f3]
    refine ⟨trivial, ?_, by rw [hkd]; rfl⟩
    show Lies zs a (foursI [x1, x2, x3]) _
    rw [foursI_cons, foursI_cons, foursI_cons, foursI_nil]
    exact l1.app (l2.app (l3.app (Lies.nil l3.2.1)))
  split at h
  · rename_i hk1 hk2 hkd
    rw [if_neg hk1, if_neg hk2, if_pos hkd]
    unfold readAsk at h
    unfold readRAsk
    split at h; rename_i x1 a1 b1 e1
    split at h; rename_i x2 a2 b2 e2
    split at h; rename_i x3 a3 b3 e3
    split at h; rename_i x4 a4 b4 e4
    split at h; rename_i x5 a5 b5 e5
    split at h; rename_i t a6 b6 e6
    split at h; rename_i kk a7 b7 e7
    split at h; rename_i bb a8 b8 e8
    split at h; rename_i f a9 b9 e9
    split at h; rename_i d s a10 b10 e10
    injection h with h1 h
    injection h with h2 h3
    subst h1; subst h2; subst h3
    obtain rfl := ritem_was e10
    obtain rfl := rflag_was e9
    obtain rfl := rnum_was e8
    obtain rfl := rnum_was e7
    obtain rfl := rtext_was e6
    obtain rfl := rnum_was e5
    obtain rfl := rnum_was e4
    obtain rfl := rnum_was e3
    obtain rfl := rnum_was e2
    obtain ⟨f1, l1, _⟩ := front_num hz hk (by omega) e1
    obtain ⟨f2, l2, _⟩ := front_num hz hk (by omega) e2
    obtain ⟨f3, l3, _⟩ := front_num hz hk (by omega) e3
    obtain ⟨f4, l4, _⟩ := front_num hz hk (by omega) e4
    obtain ⟨f5, l5, _⟩ := front_num hz hk (by omega) e5
    obtain ⟨f6, l6⟩ := front_text hz hk e6
    obtain ⟨f7, l7, _⟩ := front_num hz hk (by omega) e7
    obtain ⟨f8, l8, _⟩ := front_num hz hk (by omega) e8
    obtain ⟨n9, f9, e9', l9⟩ := front_flag hz hk e9
    obtain ⟨p10, f10, f11, _, l10⟩ := front_item hz hk e10
    simp only [f1, f2, f3, f4, f5, f6, f7, f8, f9, f10, f11]
    refine ⟨by rw [e9'], ?_, by rw [hkd]; rfl⟩
    show Lies zs a (foursI [x1, x2, x3, x4, x5] ++ (textI t ++ (putI kk 1 ++ (putI bb 1 ++ (putI (b2n f) 1 ++ itemI d s))))) _
    refine Lies.app ?_ (l6.app (l7.app (l8.app (l9.app l10))))
    rw [foursI_cons, foursI_cons, foursI_cons, foursI_cons, foursI_cons, foursI_nil]
    exact l1.app (l2.app (l3.app (l4.app (l5.app (Lies.nil l5.2.1)))))
  split at h
  · rename_i hk1 hk2 hk3 hkd
    rw [if_neg hk1, if_neg hk2, if_neg hk3, if_pos hkd]
    unfold readReply at h
    unfold readRReply
    split at h; rename_i x1 a1 b1 e1
    split at h; rename_i x2 a2 b2 e2
    split at h; rename_i x3 a3 b3 e3
    split at h; rename_i x4 a4 b4 e4
    split at h; rename_i x5 a5 b5 e5
    split at h; rename_i x6 a6 b6 e6
    split at h; rename_i n a7 b7 e7
    split at h; rename_i xs a8 b8 e8
    split at h; rename_i f a9 b9 e9
    injection h with h1 h
    injection h with h2 h3
    subst h1; subst h2; subst h3
    obtain rfl := rflag_was e9
    obtain rfl := ritems_was e8
    obtain rfl := rnum_was e7
    obtain rfl := rnum_was e6
    obtain rfl := rnum_was e5
    obtain rfl := rnum_was e4
    obtain rfl := rnum_was e3
    obtain rfl := rnum_was e2
    obtain ⟨f1, l1, _⟩ := front_num hz hk (by omega) e1
    obtain ⟨f2, l2, _⟩ := front_num hz hk (by omega) e2
    obtain ⟨f3, l3, _⟩ := front_num hz hk (by omega) e3
    obtain ⟨f4, l4, _⟩ := front_num hz hk (by omega) e4
    obtain ⟨f5, l5, _⟩ := front_num hz hk (by omega) e5
    obtain ⟨f6, l6, _⟩ := front_num hz hk (by omega) e6
    obtain ⟨f7, l7, n0⟩ := front_num hz hk (by omega) e7
    obtain ⟨f8, ln8, l8⟩ := front_items hz hk n.toNat l7.2.1 e8
    obtain ⟨n9, f9, e9', l9⟩ := front_flag hz hk e9
    simp only [f1, f2, f3, f4, f5, f6, f7, f8, f9]
    refine ⟨by rw [e9'], ?_, by rw [hkd]; rfl⟩
    show Lies zs a (foursI [x1, x2, x3, x4, x5, x6] ++ (putI xs.length 1 ++ (itemsI xs ++ putI (b2n f) 1))) _
    have hxn : (xs.length : Int) = n := by omega
    rw [hxn]
    refine Lies.app ?_ (l7.app (l8.app l9))
    rw [foursI_cons, foursI_cons, foursI_cons, foursI_cons, foursI_cons, foursI_cons, foursI_nil]
    exact l1.app (l2.app (l3.app (l4.app (l5.app (l6.app (Lies.nil l6.2.1))))))
  split at h
  · rename_i hk1 hk2 hk3 hk4 hkd
    rw [if_neg hk1, if_neg hk2, if_neg hk3, if_neg hk4, if_pos hkd]
    unfold readStop at h ⊢
    split at h; rename_i x1 a1 b1 e1
    split at h; rename_i x2 a2 b2 e2
    injection h with h1 h
    injection h with h2 h3
    subst h1; subst h2; subst h3
    obtain rfl := rnum_was e2
    obtain ⟨f1, l1, _⟩ := front_num hz hk (by omega) e1
    obtain ⟨f2, l2, _⟩ := front_num hz hk (by omega) e2
    simp only [f1, f2]
    refine ⟨trivial, ?_, by rw [hkd]; rfl⟩
    show Lies zs a (foursI [x1, x2]) _
    rw [foursI_cons, foursI_cons, foursI_nil]
    exact l1.app (l2.app (Lies.nil l2.2.1))
  · cases h
theorem ref_dec (zs : List Int) (hz : ∀ z, z ∈ zs → 0 ≤ z ∧ z < 256) : rdecI zs = decI zs := by
  unfold rdecI
  by_cases c1 : zs.length < 7 ∨ 1024 < zs.length ∨ numI zs 0 2 ≠ zs.length
  · unfold decI
    rw [if_pos c1, if_pos c1]
  by_cases c2 : numI zs ((zs.length - 4 : Nat) : Int) 4 ≠ addI 0 (zs.take (zs.length - 4))
  · unfold decI
    rw [if_neg c1, if_pos c2, if_neg c1, if_pos c2]
  rw [if_neg c1, if_neg c2]
  by_cases c3 : (readR zs (gi zs 2) 3 false).2.2 = true ∨ mayM (readR zs (gi zs 2) 3 false).1 = false ∨ frameM (readR zs (gi zs 2) 3 false).1 ≠ zs
  · rw [if_pos c3]
    unfold decI
    rw [if_neg c1, if_neg c2]
    by_cases c4 : (readM (zs.take (zs.length - 4)) (gi zs 2) 3 false).2.2 = true ∨ (readM (zs.take (zs.length - 4)) (gi zs 2) 3 false).2.1 ≠ zs.length - 4 ∨ mayM (readM (zs.take (zs.length - 4)) (gi zs 2) 3 false).1 = false
    · rw [if_pos c4]
    · exfalso
      obtain ⟨m, a', b, hr⟩ : ∃ m a' b, readM (zs.take (zs.length - 4)) (gi zs 2) 3 false = (m, a', b) := ⟨_, _, _, rfl⟩
      rw [hr] at c4
      simp only at c4
      have c5 : b = false := by cases b <;> simp_all
      subst c5
      have c6 : a' = zs.length - 4 := Classical.not_not.1 fun h => c4 (.inr (.inl h))
      have c7 : mayM m = true := by
        cases hm : mayM m with
        | true => rfl
        | false => exact absurd (.inr (.inr hm)) c4
      subst c6
      obtain ⟨k1, k2, k3⟩ := front_read zs _ _ m 3 _ hz (by omega) hr
      rw [k1] at c3
      rcases c3 with h | h | h
      · cases h
      · rw [c7] at h; cases h
      · apply h
        have hlen : 7 ≤ zs.length := by omega
        have htold : numI zs 0 2 = (zs.length : Int) := Classical.not_not.1 fun h => c1 (.inr (.inr h))
        have hsum : numI zs ((zs.length - 4 : Nat) : Int) 4 = addI 0 (zs.take (zs.length - 4)) := Classical.not_not.1 c2
        have hbl : (bodyM m).length + 7 = zs.length := by
          have h1 := k2.1
          omega
        have hhead : headI (kindM m) (bodyM m) = zs.take (zs.length - 4) := by
          unfold headI
          have h1 : putI ((bodyM m).length + 7) 2 = zs.take 2 := by
            rw [show (((bodyM m).length : Int) + 7) = numI zs ((0 : Nat) : Int) ((2 : Nat) : Int) by rw [show numI zs ((0 : Nat) : Int) ((2 : Nat) : Int) = numI zs 0 2 from rfl, htold]; omega]
            rw [put_numI (a := 0) (q := 2) hz (by omega) (by omega), List.drop_zero]
          have h2 : zs.take (zs.length - 4) = zs.take 2 ++ ([gi zs 2] ++ (zs.drop 3).take (zs.length - 7)) := by
            have e1 : zs.take (zs.length - 4) = zs.take 2 ++ (zs.drop 2).take (zs.length - 6) := by
              rw [show zs.length - 4 = 2 + (zs.length - 6) by omega, List.take_add]
            rw [e1]
            congr 1
            have e2 : zs.drop 2 = gi zs 2 :: zs.drop 3 := by
              rw [List.drop_eq_getElem_cons (by omega)]
              congr 1
              unfold gi
              rw [List.getD_eq_getElem?_getD, List.getElem?_eq_getElem (by omega)]
              rfl
            rw [e2, show zs.length - 6 = (zs.length - 7) + 1 by omega, List.take_succ_cons]
            rfl
          have h3 : (zs.drop 3).take (zs.length - 7) = bodyM m := by
            rw [k2.2.2]
            exact List.take_left' (by omega)
          rw [h1, h2, h3, k3]
        unfold frameM frameI
        rw [hhead]
        have h4 : putI (addI 0 (zs.take (zs.length - 4))) 4 = (zs.drop (zs.length - 4)).take 4 := by
          rw [← hsum]
          exact put_numI (q := 4) hz (by omega) (by omega)
        rw [h4, List.take_of_length_le (l := zs.drop (zs.length - 4)) (by rw [List.length_drop]; omega), List.take_append_drop]
  · rw [if_neg c3]
    have c4 : mayM (readR zs (gi zs 2) 3 false).1 = true := by
      cases hm : mayM (readR zs (gi zs 2) 3 false).1 with
      | true => rfl
      | false => exact absurd (.inr (.inl hm)) c3
    have c5 : frameM (readR zs (gi zs 2) 3 false).1 = zs := Classical.not_not.1 fun h => c3 (.inr (.inr h))
    have := dec_frame _ c4
    rw [c5] at this
    exact this.symm
/-! ### Sizes -/
theorem readR_small (zs : List Int) (kind : Int) (a : Nat) (bad : Bool) : SmallM zs.length (readR zs kind a bad).1 := by
  unfold readR
  split
  · exact trivial
  split
  · exact trivial
  split
  · refine ⟨rtext_size (v := _) (a' := _) (b' := _) rfl, rtext_size (v := _) (a' := _) (b' := _) rfl⟩
  split
  · exact ritems_size _ _ _
  split
  · exact trivial
  · exact trivial
end Go.Proofs.Ytajhkjikcgfhdaa
namespace Go.Proofs.Ytajhkjikcgfhdaa
set_option linter.unusedVariables false
set_option linter.unusedSimpArgs false
set_option maxRecDepth 20000
open Go.RowKit
set_option maxHeartbeats 4000000 in
theorem qnum_any (g : Nat) (A : Option Addr) (c : Nat) (zs : List Int) (a : Nat) (bad : Bool) (q : Nat) (s : Int) (v : Int) (a' : Nat) (b' : Bool) (w : World) (h : Rd 103 w g A c zs a bad) (hs : s = q) (hq : 1 ≤ q ∧ q ≤ 7) (ha : a ≤ zs.length) (hv : rnum zs a bad q = (v, a', b')) :
    Calls Try.prog 76 #[.pointer (some ⟨g, 0, none⟩), .int .i64 s] w (RdTo 103 w g A c zs (.int .i64 v) a' b') := by
  have H := Lib.hid h
  obtain ⟨hbk, hrd, hc, hcm, hA⟩ := h
  have hm := hrd.2.1
  have HR := Lib.hid hrd
  have hc0 : w.cell? ⟨g, 0, none⟩ = some (.slice A zs.length c) := hbk.cell 0
  have hc1 : w.cell? ⟨g, 1, none⟩ = some (.int .i64 a) := hbk.cell 1
  have hf1 : w.frozen? ⟨g, 1, none⟩ = false := hbk.frozen 1
  have hf2 : w.frozen? ⟨g, 2, none⟩ = false := hbk.frozen 2
  have hc2 : w.cell? ⟨g, 2, none⟩ = some (.bool bad) := hbk.cell 2
  obtain ⟨n, hn⟩ : ∃ n, zs.length = n := ⟨_, rfl⟩
  rw [hn] at hc0 HR hc hm ha
  have HN := Lib.hid hn
  clear hrd hbk hA hn
  unfold rnum at hv
  have hq1 := hq.1
  have hq2 := hq.2
  subst hs
  by_cases ho : a + q ≤ n
  · rw [if_pos (by rw [HN.out]; exact ho)] at hv
    injection hv with e1 e2
    injection e2 with e2 e3
    subst e2
    subst e3
    have HV := Lib.hid e1
    have hok : numOk n a q := ⟨by omega, by omega, by omega, by omega⟩
    have HOK := Lib.hid hok
    clear e1 hok
    go_enter Try.func76, Try.ntmps76
    go_wp2
    go_quiet ((go_at_call 56; exact quiet_left (refnum_yes A n c a q zs _ (HR.out.below (below_drewN (Below.refl _ _) _)) HOK.out)))
    go_wp2
    go_ret
    exact ⟨_, by rw [← HV.out]; rfl, rfl, (H.out.drewN _).setAt, only_setCell (only_of_below (below_drewN (Below.refl _ _) _) _) (.inl rfl) _⟩
  · rw [if_neg (by rw [HN.out]; exact ho)] at hv
    injection hv with e1 e2
    injection e2 with e2 e3
    subst e1
    subst e2
    subst e3
    have hok : ¬ numOk n a q := fun h => ho (by have := h.2.2.2; omega)
    have HOK := Lib.hid hok
    clear hok
    go_enter Try.func76, Try.ntmps76
    go_wp2
    go_quiet ((go_at_call 56; exact quiet_left (refnum_no A n c a q _ hm HOK.out)))
    go_wp2
    go_ret
    exact ⟨_, rfl, rfl, (H.out.drewN _).setBad, only_setCell (only_of_below (below_drewN (Below.refl _ _) _) _) (.inl rfl) _⟩
set_option maxHeartbeats 4000000 in
theorem qtext_any (g : Nat) (A : Option Addr) (c : Nat) (zs : List Int) (a : Nat) (bad : Bool) (v : ByteArray) (a' : Nat) (b' : Bool) (w : World) (h : Rd 103 w g A c zs a bad) (ha : a ≤ zs.length) (hv : rtext zs a bad = (v, a', b')) :
    Calls Try.prog 77 #[.pointer (some ⟨g, 0, none⟩)] w (RdTo 103 w g A c zs (.string v) a' b') := by
  have H := Lib.hid h
  have HRG := Lib.hid h.range
  obtain ⟨hbk, hrd, hc, hcm, hA⟩ := h
  have hm := hrd.2.1
  have HR := Lib.hid hrd
  have hc0 : w.cell? ⟨g, 0, none⟩ = some (.slice A zs.length c) := hbk.cell 0
  have hc1 : w.cell? ⟨g, 1, none⟩ = some (.int .i64 a) := hbk.cell 1
  have hf1 : w.frozen? ⟨g, 1, none⟩ = false := hbk.frozen 1
  have hf2 : w.frozen? ⟨g, 2, none⟩ = false := hbk.frozen 2
  have hc2 : w.cell? ⟨g, 2, none⟩ = some (.bool bad) := hbk.cell 2
  obtain ⟨n, hn⟩ : ∃ n, zs.length = n := ⟨_, rfl⟩
  rw [hn] at hc0 HR hc hm ha
  have HN := Lib.hid hn
  clear hrd hbk hA hn
  unfold rtext at hv
  rw [HN.out] at hv
  by_cases ho : textOk n zs a
  · rw [if_pos ho] at hv
    injection hv with e1 e2
    injection e2 with e2 e3
    subst e3
    have HV := Lib.hid e1
    have HOK := Lib.hid ho
    have h2 := numI_two zs HRG.out a
    have hx := ho.2
    have HA : Hid ((a : Int) + 2 + numI zs a 2 = (a' : Int)) := by unfold Hid; omega
    clear e1 e2 ho h2 hx
    go_enter Try.func77, Try.ntmps77
    go_wp2
    go_quiet ((go_at_call 89; exact quiet_left (reftext_yes A n c a zs _ (HR.out.below (below_drewN (Below.refl _ _) _)) hc hcm HOK.out)))
    go_wp2
    go_ret
    rw [HA.out]
    exact ⟨_, by rw [← HV.out]; rfl, rfl, (H.out.drewN _).setAt, only_setCell (only_of_below (below_drewN (Below.refl _ _) _) _) (.inl rfl) _⟩
  · rw [if_neg ho] at hv
    injection hv with e1 e2
    injection e2 with e2 e3
    subst e1
    subst e2
    subst e3
    have HOK := Lib.hid ho
    clear ho
    go_enter Try.func77, Try.ntmps77
    go_wp2
    go_quiet ((go_at_call 89; exact quiet_left (reftext_no A n c a zs _ (HR.out.below (below_drewN (Below.refl _ _) _)) HOK.out)))
    go_wp2
    go_ret
    exact ⟨_, rfl, rfl, (H.out.drewN _).setBad, only_setCell (only_of_below (below_drewN (Below.refl _ _) _) _) (.inl rfl) _⟩
end Go.Proofs.Ytajhkjikcgfhdaa
namespace Go.Proofs.Ytajhkjikcgfhdaa
set_option linter.unusedVariables false
set_option linter.unusedSimpArgs false
set_option maxRecDepth 20000
open Go.RowKit
theorem Rd.past {t : TypeId} {w : World} {g c : Nat} {A : Option Addr} {zs : List Int} {a : Nat} {bad : Bool} (h : Rd t w g A c zs a bad) (h0 : 0 < zs.length) : ∀ ad, A = some ad → ad.block ≠ w.heap.size + 1 := fun ad e => by
  obtain ⟨ad', e', hc⟩ := h.2.1.2.2.1 h0
  rw [e] at e'
  injection e' with e'
  subst e'
  have := World.block_lt_of_cell? w _ (hc 0 h0)
  rw [block_of_add] at this
  omega
theorem only_row {w w1 : World} {g p : Nat} (h : w.grownBy w1 (some g)) (hp : w.heap.size ≤ p) (cs : Array Value) : w.grownBy (w1.setRow p cs) (some g) :=
  ⟨h.os, h.tape, h.output, by rw [setRow_size]; exact h.size, fun i hi hne => by rw [setRow_other w1 p i cs (by omega)]; exact h.block i hi hne⟩
theorem rd_row {t : TypeId} {w : World} {g p c : Nat} {A : Option Addr} {zs : List Int} {a : Nat} {bad : Bool} (h : Rd t w g A c zs a bad) (hp : ¬ p = g) (hA : ∀ ad, A = some ad → ad.block ≠ p) (cs : Array Value) : Rd t (w.setRow p cs) g A c zs a bad :=
  ⟨(setRow_other w p g cs (fun e => hp e.symm)).trans h.1, h.2.1.grown (g := p) ⟨rfl, rfl, rfl, by rw [setRow_size]; exact Nat.le_refl _, fun i hi hne => setRow_other w p i cs (fun e => hne (by rw [e]))⟩ hA, h.2.2⟩
theorem kst (w : World) : Blk ((w.alloc (.cells #[.int .i64 0, .int .i64 0, .int .i64 0, .int .i64 0, .int .i64 0, .int .i64 0, .int .i64 0, .int .i64 0, .int .i64 0, .int .i64 0, .int .i64 0, .string ⟨#[]⟩, .int .i64 0, .int .i64 0, .bool false, .int .i64 0, .string ⟨#[]⟩, .int .i64 0, .int .i64 0, .int .i64 0, .int .i64 0, .int .i64 0, .int .i64 0, .slice none 0 0, .bool false, .int .i64 0, .int .i64 0] 46)).alloc (.cells #[.int .i64 0, .int .i64 0, .int .i64 0, .int .i64 0, .int .i64 0, .int .i64 0, .int .i64 0, .int .i64 0, .int .i64 0, .int .i64 0, .int .i64 0, .string ⟨#[]⟩, .int .i64 0, .int .i64 0, .bool false, .int .i64 0, .string ⟨#[]⟩, .int .i64 0, .int .i64 0, .int .i64 0, .int .i64 0, .int .i64 0, .int .i64 0, .slice none 0 0, .bool false, .int .i64 0, .int .i64 0] 46)) (w.heap.size + 1) 46 #[.int .i64 0, .int .i64 0, .int .i64 0, .int .i64 0, .int .i64 0, .int .i64 0, .int .i64 0, .int .i64 0, .int .i64 0, .int .i64 0, .int .i64 0, .string ⟨#[]⟩, .int .i64 0, .int .i64 0, .bool false, .int .i64 0, .string ⟨#[]⟩, .int .i64 0, .int .i64 0, .int .i64 0, .int .i64 0, .int .i64 0, .int .i64 0, .slice none 0 0, .bool false, .int .i64 0, .int .i64 0] := by
  have := Blk.new (w.alloc (.cells #[.int .i64 0, .int .i64 0, .int .i64 0, .int .i64 0, .int .i64 0, .int .i64 0, .int .i64 0, .int .i64 0, .int .i64 0, .int .i64 0, .int .i64 0, .string ⟨#[]⟩, .int .i64 0, .int .i64 0, .bool false, .int .i64 0, .string ⟨#[]⟩, .int .i64 0, .int .i64 0, .int .i64 0, .int .i64 0, .int .i64 0, .int .i64 0, .slice none 0 0, .bool false, .int .i64 0, .int .i64 0] 46)) 46 #[.int .i64 0, .int .i64 0, .int .i64 0, .int .i64 0, .int .i64 0, .int .i64 0, .int .i64 0, .int .i64 0, .int .i64 0, .int .i64 0, .int .i64 0, .string ⟨#[]⟩, .int .i64 0, .int .i64 0, .bool false, .int .i64 0, .string ⟨#[]⟩, .int .i64 0, .int .i64 0, .int .i64 0, .int .i64 0, .int .i64 0, .int .i64 0, .slice none 0 0, .bool false, .int .i64 0, .int .i64 0]
  rwa [show (w.alloc (.cells #[.int .i64 0, .int .i64 0, .int .i64 0, .int .i64 0, .int .i64 0, .int .i64 0, .int .i64 0, .int .i64 0, .int .i64 0, .int .i64 0, .int .i64 0, .string ⟨#[]⟩, .int .i64 0, .int .i64 0, .bool false, .int .i64 0, .string ⟨#[]⟩, .int .i64 0, .int .i64 0, .int .i64 0, .int .i64 0, .int .i64 0, .int .i64 0, .slice none 0 0, .bool false, .int .i64 0, .int .i64 0] 46)).heap.size = w.heap.size + 1 by simp] at this
theorem qstart {w : World} {g c : Nat} {A : Option Addr} {zs : List Int} {a : Nat} {bad : Bool} (h : Rd 103 w g A c zs a bad) (cs : Array Value) :
    Rd 103 (((w.alloc (.cells #[.int .i64 0, .int .i64 0, .int .i64 0, .int .i64 0, .int .i64 0, .int .i64 0, .int .i64 0, .int .i64 0, .int .i64 0, .int .i64 0, .int .i64 0, .string ⟨#[]⟩, .int .i64 0, .int .i64 0, .bool false, .int .i64 0, .string ⟨#[]⟩, .int .i64 0, .int .i64 0, .int .i64 0, .int .i64 0, .int .i64 0, .int .i64 0, .slice none 0 0, .bool false, .int .i64 0, .int .i64 0] 46)).alloc (.cells #[.int .i64 0, .int .i64 0, .int .i64 0, .int .i64 0, .int .i64 0, .int .i64 0, .int .i64 0, .int .i64 0, .int .i64 0, .int .i64 0, .int .i64 0, .string ⟨#[]⟩, .int .i64 0, .int .i64 0, .bool false, .int .i64 0, .string ⟨#[]⟩, .int .i64 0, .int .i64 0, .int .i64 0, .int .i64 0, .int .i64 0, .int .i64 0, .slice none 0 0, .bool false, .int .i64 0, .int .i64 0] 46)).setRow (w.heap.size + 1) cs) g A c zs a bad ∧
    Blk (((w.alloc (.cells #[.int .i64 0, .int .i64 0, .int .i64 0, .int .i64 0, .int .i64 0, .int .i64 0, .int .i64 0, .int .i64 0, .int .i64 0, .int .i64 0, .int .i64 0, .string ⟨#[]⟩, .int .i64 0, .int .i64 0, .bool false, .int .i64 0, .string ⟨#[]⟩, .int .i64 0, .int .i64 0, .int .i64 0, .int .i64 0, .int .i64 0, .int .i64 0, .slice none 0 0, .bool false, .int .i64 0, .int .i64 0] 46)).alloc (.cells #[.int .i64 0, .int .i64 0, .int .i64 0, .int .i64 0, .int .i64 0, .int .i64 0, .int .i64 0, .int .i64 0, .int .i64 0, .int .i64 0, .int .i64 0, .string ⟨#[]⟩, .int .i64 0, .int .i64 0, .bool false, .int .i64 0, .string ⟨#[]⟩, .int .i64 0, .int .i64 0, .int .i64 0, .int .i64 0, .int .i64 0, .int .i64 0, .slice none 0 0, .bool false, .int .i64 0, .int .i64 0] 46)).setRow (w.heap.size + 1) cs) w.heap.size 46 #[.int .i64 0, .int .i64 0, .int .i64 0, .int .i64 0, .int .i64 0, .int .i64 0, .int .i64 0, .int .i64 0, .int .i64 0, .int .i64 0, .int .i64 0, .string ⟨#[]⟩, .int .i64 0, .int .i64 0, .bool false, .int .i64 0, .string ⟨#[]⟩, .int .i64 0, .int .i64 0, .int .i64 0, .int .i64 0, .int .i64 0, .int .i64 0, .slice none 0 0, .bool false, .int .i64 0, .int .i64 0] ∧
    Blk (((w.alloc (.cells #[.int .i64 0, .int .i64 0, .int .i64 0, .int .i64 0, .int .i64 0, .int .i64 0, .int .i64 0, .int .i64 0, .int .i64 0, .int .i64 0, .int .i64 0, .string ⟨#[]⟩, .int .i64 0, .int .i64 0, .bool false, .int .i64 0, .string ⟨#[]⟩, .int .i64 0, .int .i64 0, .int .i64 0, .int .i64 0, .int .i64 0, .int .i64 0, .slice none 0 0, .bool false, .int .i64 0, .int .i64 0] 46)).alloc (.cells #[.int .i64 0, .int .i64 0, .int .i64 0, .int .i64 0, .int .i64 0, .int .i64 0, .int .i64 0, .int .i64 0, .int .i64 0, .int .i64 0, .int .i64 0, .string ⟨#[]⟩, .int .i64 0, .int .i64 0, .bool false, .int .i64 0, .string ⟨#[]⟩, .int .i64 0, .int .i64 0, .int .i64 0, .int .i64 0, .int .i64 0, .int .i64 0, .slice none 0 0, .bool false, .int .i64 0, .int .i64 0] 46)).setRow (w.heap.size + 1) cs) (w.heap.size + 1) 46 cs ∧
    w.grownBy (((w.alloc (.cells #[.int .i64 0, .int .i64 0, .int .i64 0, .int .i64 0, .int .i64 0, .int .i64 0, .int .i64 0, .int .i64 0, .int .i64 0, .int .i64 0, .int .i64 0, .string ⟨#[]⟩, .int .i64 0, .int .i64 0, .bool false, .int .i64 0, .string ⟨#[]⟩, .int .i64 0, .int .i64 0, .int .i64 0, .int .i64 0, .int .i64 0, .int .i64 0, .slice none 0 0, .bool false, .int .i64 0, .int .i64 0] 46)).alloc (.cells #[.int .i64 0, .int .i64 0, .int .i64 0, .int .i64 0, .int .i64 0, .int .i64 0, .int .i64 0, .int .i64 0, .int .i64 0, .int .i64 0, .int .i64 0, .string ⟨#[]⟩, .int .i64 0, .int .i64 0, .bool false, .int .i64 0, .string ⟨#[]⟩, .int .i64 0, .int .i64 0, .int .i64 0, .int .i64 0, .int .i64 0, .int .i64 0, .slice none 0 0, .bool false, .int .i64 0, .int .i64 0] 46)).setRow (w.heap.size + 1) cs) (some g) ∧
    (((w.alloc (.cells #[.int .i64 0, .int .i64 0, .int .i64 0, .int .i64 0, .int .i64 0, .int .i64 0, .int .i64 0, .int .i64 0, .int .i64 0, .int .i64 0, .int .i64 0, .string ⟨#[]⟩, .int .i64 0, .int .i64 0, .bool false, .int .i64 0, .string ⟨#[]⟩, .int .i64 0, .int .i64 0, .int .i64 0, .int .i64 0, .int .i64 0, .int .i64 0, .slice none 0 0, .bool false, .int .i64 0, .int .i64 0] 46)).alloc (.cells #[.int .i64 0, .int .i64 0, .int .i64 0, .int .i64 0, .int .i64 0, .int .i64 0, .int .i64 0, .int .i64 0, .int .i64 0, .int .i64 0, .int .i64 0, .string ⟨#[]⟩, .int .i64 0, .int .i64 0, .bool false, .int .i64 0, .string ⟨#[]⟩, .int .i64 0, .int .i64 0, .int .i64 0, .int .i64 0, .int .i64 0, .int .i64 0, .slice none 0 0, .bool false, .int .i64 0, .int .i64 0] 46)).setRow (w.heap.size + 1) cs).heap.size = w.heap.size + 2 := by
  have hb : Below w.heap.size w (((w.alloc (.cells #[.int .i64 0, .int .i64 0, .int .i64 0, .int .i64 0, .int .i64 0, .int .i64 0, .int .i64 0, .int .i64 0, .int .i64 0, .int .i64 0, .int .i64 0, .string ⟨#[]⟩, .int .i64 0, .int .i64 0, .bool false, .int .i64 0, .string ⟨#[]⟩, .int .i64 0, .int .i64 0, .int .i64 0, .int .i64 0, .int .i64 0, .int .i64 0, .slice none 0 0, .bool false, .int .i64 0, .int .i64 0] 46)).alloc (.cells #[.int .i64 0, .int .i64 0, .int .i64 0, .int .i64 0, .int .i64 0, .int .i64 0, .int .i64 0, .int .i64 0, .int .i64 0, .int .i64 0, .int .i64 0, .string ⟨#[]⟩, .int .i64 0, .int .i64 0, .bool false, .int .i64 0, .string ⟨#[]⟩, .int .i64 0, .int .i64 0, .int .i64 0, .int .i64 0, .int .i64 0, .int .i64 0, .slice none 0 0, .bool false, .int .i64 0, .int .i64 0] 46)).setRow (w.heap.size + 1) cs) := below_setRow (bel2 (bel_alloc _ _) (bel_alloc _ _)) (Nat.le_succ _) _
  refine ⟨h.below hb, ?_, setRow_heap _ _ _ _ _ _ (kst w), only_of_below hb _, by simp⟩
  exact (setRow_other _ _ _ _ (by omega)).trans ((Blk.new w _ _).alloc _)
set_option maxHeartbeats 8000000 in
theorem qread_hello (g : Nat) (A : Option Addr) (c : Nat) (zs : List Int) (a : Nat) (bad : Bool) (hw : Int) (a1 : Nat) (b1 : Bool) (hl : Int) (a2 : Nat) (b2 : Bool) (w : World) (h : Rd 103 w g A c zs a bad) (h0 : 0 < zs.length) (ha : a ≤ zs.length) (h1 : rnum zs a bad 4 = (hw, a1, b1)) (h2 : rnum zs a1 b1 4 = (hl, a2, b2)) :
    Calls Try.prog 58 #[.pointer (some ⟨g, 0, none⟩), .int .i64 1] w (RdTo 103 w g A c zs (.agg #[.int .i64 1, .int .i64 hw, .int .i64 hl, .int .i64 0, .int .i64 0, .int .i64 0, .int .i64 0, .int .i64 0, .int .i64 0, .int .i64 0, .int .i64 0, .string ⟨#[]⟩, .int .i64 0, .int .i64 0, .bool false, .int .i64 0, .string ⟨#[]⟩, .int .i64 0, .int .i64 0, .int .i64 0, .int .i64 0, .int .i64 0, .int .i64 0, .slice none 0 0, .bool false, .int .i64 0, .int .i64 0]) a2 b2) := by
  have hgl : g < w.heap.size := h.lt
  have hgk : g ≠ w.heap.size + 1 := by omega
  have hkg : ¬ w.heap.size + 1 = g := by omega
  have hkr : ¬ w.heap.size = g := by omega
  have hrk : w.heap.size ≠ w.heap.size + 1 := by omega
  have HA := Lib.hid (h.past h0)
  have HA0 := Lib.hid (h.old h0)
  have H0 := Lib.hid h
  have HST := Lib.hid (qstart h #[.int .i64 1, .int .i64 0, .int .i64 0, .int .i64 0, .int .i64 0, .int .i64 0, .int .i64 0, .int .i64 0, .int .i64 0, .int .i64 0, .int .i64 0, .string ⟨#[]⟩, .int .i64 0, .int .i64 0, .bool false, .int .i64 0, .string ⟨#[]⟩, .int .i64 0, .int .i64 0, .int .i64 0, .int .i64 0, .int .i64 0, .int .i64 0, .slice none 0 0, .bool false, .int .i64 0, .int .i64 0])
  have KST := Lib.hid (kst w)
  have ha1 : a1 ≤ zs.length := rnum_bound h1 ha
  have X1 := Lib.hid h1
  have ha2 : a2 ≤ zs.length := rnum_bound h2 ha1
  have X2 := Lib.hid h2
  have E4 : Hid ((4 : Int) = ((4 : Nat) : Int)) := rfl
  clear h h1 h2
  go_enter Try.func58, Try.ntmps58
  go_wp2_with (first
    | (refine wpList_store_row rfl 46 (.tmp 5) (.tmp 9) rfl (w.heap.size + 1) #[.int .i64 1, .int .i64 0, .int .i64 0, .int .i64 0, .int .i64 0, .int .i64 0, .int .i64 0, .int .i64 0, .int .i64 0, .int .i64 0, .int .i64 0, .string ⟨#[]⟩, .int .i64 0, .int .i64 0, .bool false, .int .i64 0, .string ⟨#[]⟩, .int .i64 0, .int .i64 0, .int .i64 0, .int .i64 0, .int .i64 0, .int .i64 0, .slice none 0 0, .bool false, .int .i64 0, .int .i64 0] rfl rfl 46 _ KST.out (by kernel_rfl) (by kernel_rfl) (by kernel_rfl) ?_; have HF := HST.out; revert HF; generalize World.setRow _ _ _ = w0; intro HF; have HR0 : Hid (Rd 103 w0 g A c zs a bad) := HF.1; have HZ0 : Hid (Blk w0 w.heap.size 46 #[.int .i64 0, .int .i64 0, .int .i64 0, .int .i64 0, .int .i64 0, .int .i64 0, .int .i64 0, .int .i64 0, .int .i64 0, .int .i64 0, .int .i64 0, .string ⟨#[]⟩, .int .i64 0, .int .i64 0, .bool false, .int .i64 0, .string ⟨#[]⟩, .int .i64 0, .int .i64 0, .int .i64 0, .int .i64 0, .int .i64 0, .int .i64 0, .slice none 0 0, .bool false, .int .i64 0, .int .i64 0]) := HF.2.1; have HB0 : Hid (Blk w0 (w.heap.size + 1) 46 #[.int .i64 1, .int .i64 0, .int .i64 0, .int .i64 0, .int .i64 0, .int .i64 0, .int .i64 0, .int .i64 0, .int .i64 0, .int .i64 0, .int .i64 0, .string ⟨#[]⟩, .int .i64 0, .int .i64 0, .bool false, .int .i64 0, .string ⟨#[]⟩, .int .i64 0, .int .i64 0, .int .i64 0, .int .i64 0, .int .i64 0, .int .i64 0, .slice none 0 0, .bool false, .int .i64 0, .int .i64 0]) := HF.2.2.1; have HG0 : Hid (w.grownBy w0 (some g)) := HF.2.2.2.1; have HS0 : Hid (w0.heap.size = w.heap.size + 2) := HF.2.2.2.2; clear HF)
    | (go_at_call 76; (with_reducible refine (qnum_any g A c zs a bad 4 _ hw a1 b1 _ HR0.out E4.out (by omega) ha X1.out).mono ?_); rintro e w' ⟨w1, rfl, rfl, r1, g1⟩; have HR1 := Lib.hid r1; have HG1 := Lib.hid (only_trans HG0.out g1 (fun q hq => by injection hq with hq; subst hq; exact hgl)); have HB1 := Lib.hid (HB0.out.grown g1 (by intro e; injection e with e; exact hkg e)); have HZ1 := Lib.hid (HZ0.out.grown g1 (by intro e; injection e with e; exact hkr e)); clear r1 g1; have c1_ : w1.cell? ⟨w.heap.size + 1, 1, none⟩ = some (.int .i64 0) := (HB1.out.cell 1).trans rfl; have f1_ : w1.frozen? ⟨w.heap.size + 1, 1, none⟩ = false := HB1.out.frozen 1; have HR1s : Hid (Rd 103 (w1.setCell ⟨w.heap.size + 1, 1, none⟩ (.int .i64 hw)) g A c zs a1 b1) := Rd.far HR1.out ⟨w.heap.size + 1, 1, none⟩ (.int .i64 hw) hgk HA.out; have HB1s : Hid (Blk (w1.setCell ⟨w.heap.size + 1, 1, none⟩ (.int .i64 hw)) (w.heap.size + 1) 46 #[.int .i64 1, .int .i64 hw, .int .i64 0, .int .i64 0, .int .i64 0, .int .i64 0, .int .i64 0, .int .i64 0, .int .i64 0, .int .i64 0, .int .i64 0, .string ⟨#[]⟩, .int .i64 0, .int .i64 0, .bool false, .int .i64 0, .string ⟨#[]⟩, .int .i64 0, .int .i64 0, .int .i64 0, .int .i64 0, .int .i64 0, .int .i64 0, .slice none 0 0, .bool false, .int .i64 0, .int .i64 0]) := Blk.set_ HB1.out 1 (.int .i64 hw); have HZ1s : Hid (Blk (w1.setCell ⟨w.heap.size + 1, 1, none⟩ (.int .i64 hw)) w.heap.size 46 #[.int .i64 0, .int .i64 0, .int .i64 0, .int .i64 0, .int .i64 0, .int .i64 0, .int .i64 0, .int .i64 0, .int .i64 0, .int .i64 0, .int .i64 0, .string ⟨#[]⟩, .int .i64 0, .int .i64 0, .bool false, .int .i64 0, .string ⟨#[]⟩, .int .i64 0, .int .i64 0, .int .i64 0, .int .i64 0, .int .i64 0, .int .i64 0, .slice none 0 0, .bool false, .int .i64 0, .int .i64 0]) := Blk.far HZ1.out (p := ⟨w.heap.size + 1, 1, none⟩) hrk (.int .i64 hw); have HG1s : Hid (w.grownBy (w1.setCell ⟨w.heap.size + 1, 1, none⟩ (.int .i64 hw)) (some g)) := only_setCell HG1.out (.inr (Nat.le_succ _)) (.int .i64 hw))
    | (go_at_call 76; (with_reducible refine (qnum_any g A c zs a1 b1 4 _ hl a2 b2 _ HR1s.out E4.out (by omega) ha1 X2.out).mono ?_); rintro e w' ⟨w2, rfl, rfl, r2, g2⟩; have HR2 := Lib.hid r2; have HG2 := Lib.hid (only_trans HG1s.out g2 (fun q hq => by injection hq with hq; subst hq; exact hgl)); have HB2 := Lib.hid (HB1s.out.grown g2 (by intro e; injection e with e; exact hkg e)); have HZ2 := Lib.hid (HZ1s.out.grown g2 (by intro e; injection e with e; exact hkr e)); clear r2 g2; have c2_ : w2.cell? ⟨w.heap.size + 1, 2, none⟩ = some (.int .i64 0) := (HB2.out.cell 2).trans rfl; have f2_ : w2.frozen? ⟨w.heap.size + 1, 2, none⟩ = false := HB2.out.frozen 2; have HR2s : Hid (Rd 103 (w2.setCell ⟨w.heap.size + 1, 2, none⟩ (.int .i64 hl)) g A c zs a2 b2) := Rd.far HR2.out ⟨w.heap.size + 1, 2, none⟩ (.int .i64 hl) hgk HA.out; have HB2s : Hid (Blk (w2.setCell ⟨w.heap.size + 1, 2, none⟩ (.int .i64 hl)) (w.heap.size + 1) 46 #[.int .i64 1, .int .i64 hw, .int .i64 hl, .int .i64 0, .int .i64 0, .int .i64 0, .int .i64 0, .int .i64 0, .int .i64 0, .int .i64 0, .int .i64 0, .string ⟨#[]⟩, .int .i64 0, .int .i64 0, .bool false, .int .i64 0, .string ⟨#[]⟩, .int .i64 0, .int .i64 0, .int .i64 0, .int .i64 0, .int .i64 0, .int .i64 0, .slice none 0 0, .bool false, .int .i64 0, .int .i64 0]) := Blk.set_ HB2.out 2 (.int .i64 hl); have HZ2s : Hid (Blk (w2.setCell ⟨w.heap.size + 1, 2, none⟩ (.int .i64 hl)) w.heap.size 46 #[.int .i64 0, .int .i64 0, .int .i64 0, .int .i64 0, .int .i64 0, .int .i64 0, .int .i64 0, .int .i64 0, .int .i64 0, .int .i64 0, .int .i64 0, .string ⟨#[]⟩, .int .i64 0, .int .i64 0, .bool false, .int .i64 0, .string ⟨#[]⟩, .int .i64 0, .int .i64 0, .int .i64 0, .int .i64 0, .int .i64 0, .int .i64 0, .slice none 0 0, .bool false, .int .i64 0, .int .i64 0]) := Blk.far HZ2.out (p := ⟨w.heap.size + 1, 2, none⟩) hrk (.int .i64 hl); have HG2s : Hid (w.grownBy (w2.setCell ⟨w.heap.size + 1, 2, none⟩ (.int .i64 hl)) (some g)) := only_setCell HG2.out (.inr (Nat.le_succ _)) (.int .i64 hl))
    | (refine wpList_load_row rfl 46 (.tmp 5) rfl (w.heap.size + 1) rfl 46 #[.int .i64 1, .int .i64 hw, .int .i64 hl, .int .i64 0, .int .i64 0, .int .i64 0, .int .i64 0, .int .i64 0, .int .i64 0, .int .i64 0, .int .i64 0, .string ⟨#[]⟩, .int .i64 0, .int .i64 0, .bool false, .int .i64 0, .string ⟨#[]⟩, .int .i64 0, .int .i64 0, .int .i64 0, .int .i64 0, .int .i64 0, .int .i64 0, .slice none 0 0, .bool false, .int .i64 0, .int .i64 0] (0, 0) _ HB2s.out Try.underlying46 rfl (by kernel_rfl) ?_)
    | (refine wpList_store_row rfl 46 (.tmp 4) (.tmp 118) rfl w.heap.size #[.int .i64 1, .int .i64 hw, .int .i64 hl, .int .i64 0, .int .i64 0, .int .i64 0, .int .i64 0, .int .i64 0, .int .i64 0, .int .i64 0, .int .i64 0, .string ⟨#[]⟩, .int .i64 0, .int .i64 0, .bool false, .int .i64 0, .string ⟨#[]⟩, .int .i64 0, .int .i64 0, .int .i64 0, .int .i64 0, .int .i64 0, .int .i64 0, .slice none 0 0, .bool false, .int .i64 0, .int .i64 0] rfl rfl 46 _ HZ2s.out (by kernel_rfl) (by kernel_rfl) (by kernel_rfl) ?_))
  (try simp only [Exit.inBlock, Exit.then])
  refine bodyPost_ret (results_cell_row rfl _ _ w.heap.size 46 #[.int .i64 1, .int .i64 hw, .int .i64 hl, .int .i64 0, .int .i64 0, .int .i64 0, .int .i64 0, .int .i64 0, .int .i64 0, .int .i64 0, .int .i64 0, .string ⟨#[]⟩, .int .i64 0, .int .i64 0, .bool false, .int .i64 0, .string ⟨#[]⟩, .int .i64 0, .int .i64 0, .int .i64 0, .int .i64 0, .int .i64 0, .int .i64 0, .slice none 0 0, .bool false, .int .i64 0, .int .i64 0] (0, 0) _ rfl ?_ Try.underlying46 rfl (by kernel_rfl)) rfl ?_
  · exact setRow_heap _ _ _ _ _ _ HZ2s.out
  · exact ⟨_, rfl, rfl, rd_row HR2s.out hkr HA0.out _, only_row HG2s.out (Nat.le_refl _) _⟩
set_option maxHeartbeats 8000000 in
theorem qread_grant (g : Nat) (A : Option Addr) (c : Nat) (zs : List Int) (a : Nat) (bad : Bool) (gw : Int) (a1 : Nat) (b1 : Bool) (gl : Int) (a2 : Nat) (b2 : Bool) (ge : Int) (a3 : Nat) (b3 : Bool) (w : World) (h : Rd 103 w g A c zs a bad) (h0 : 0 < zs.length) (ha : a ≤ zs.length) (h1 : rnum zs a bad 4 = (gw, a1, b1)) (h2 : rnum zs a1 b1 4 = (gl, a2, b2)) (h3 : rnum zs a2 b2 4 = (ge, a3, b3)) :
    Calls Try.prog 58 #[.pointer (some ⟨g, 0, none⟩), .int .i64 2] w (RdTo 103 w g A c zs (.agg #[.int .i64 2, .int .i64 0, .int .i64 0, .int .i64 gw, .int .i64 gl, .int .i64 ge, .int .i64 0, .int .i64 0, .int .i64 0, .int .i64 0, .int .i64 0, .string ⟨#[]⟩, .int .i64 0, .int .i64 0, .bool false, .int .i64 0, .string ⟨#[]⟩, .int .i64 0, .int .i64 0, .int .i64 0, .int .i64 0, .int .i64 0, .int .i64 0, .slice none 0 0, .bool false, .int .i64 0, .int .i64 0]) a3 b3) := by
  have hgl : g < w.heap.size := h.lt
  have hgk : g ≠ w.heap.size + 1 := by omega
  have hkg : ¬ w.heap.size + 1 = g := by omega
  have hkr : ¬ w.heap.size = g := by omega
  have hrk : w.heap.size ≠ w.heap.size + 1 := by omega
  have HA := Lib.hid (h.past h0)
  have HA0 := Lib.hid (h.old h0)
  have H0 := Lib.hid h
  have HST := Lib.hid (qstart h #[.int .i64 2, .int .i64 0, .int .i64 0, .int .i64 0, .int .i64 0, .int .i64 0, .int .i64 0, .int .i64 0, .int .i64 0, .int .i64 0, .int .i64 0, .string ⟨#[]⟩, .int .i64 0, .int .i64 0, .bool false, .int .i64 0, .string ⟨#[]⟩, .int .i64 0, .int .i64 0, .int .i64 0, .int .i64 0, .int .i64 0, .int .i64 0, .slice none 0 0, .bool false, .int .i64 0, .int .i64 0])
  have KST := Lib.hid (kst w)
  have ha1 : a1 ≤ zs.length := rnum_bound h1 ha
  have X1 := Lib.hid h1
  have ha2 : a2 ≤ zs.length := rnum_bound h2 ha1
  have X2 := Lib.hid h2
  have ha3 : a3 ≤ zs.length := rnum_bound h3 ha2
  have X3 := Lib.hid h3
  have E4 : Hid ((4 : Int) = ((4 : Nat) : Int)) := rfl
  clear h h1 h2 h3
  go_enter Try.func58, Try.ntmps58
  go_wp2_with (first
    | (refine wpList_store_row rfl 46 (.tmp 5) (.tmp 9) rfl (w.heap.size + 1) #[.int .i64 2, .int .i64 0, .int .i64 0, .int .i64 0, .int .i64 0, .int .i64 0, .int .i64 0, .int .i64 0, .int .i64 0, .int .i64 0, .int .i64 0, .string ⟨#[]⟩, .int .i64 0, .int .i64 0, .bool false, .int .i64 0, .string ⟨#[]⟩, .int .i64 0, .int .i64 0, .int .i64 0, .int .i64 0, .int .i64 0, .int .i64 0, .slice none 0 0, .bool false, .int .i64 0, .int .i64 0] rfl rfl 46 _ KST.out (by kernel_rfl) (by kernel_rfl) (by kernel_rfl) ?_; have HF := HST.out; revert HF; generalize World.setRow _ _ _ = w0; intro HF; have HR0 : Hid (Rd 103 w0 g A c zs a bad) := HF.1; have HZ0 : Hid (Blk w0 w.heap.size 46 #[.int .i64 0, .int .i64 0, .int .i64 0, .int .i64 0, .int .i64 0, .int .i64 0, .int .i64 0, .int .i64 0, .int .i64 0, .int .i64 0, .int .i64 0, .string ⟨#[]⟩, .int .i64 0, .int .i64 0, .bool false, .int .i64 0, .string ⟨#[]⟩, .int .i64 0, .int .i64 0, .int .i64 0, .int .i64 0, .int .i64 0, .int .i64 0, .slice none 0 0, .bool false, .int .i64 0, .int .i64 0]) := HF.2.1; have HB0 : Hid (Blk w0 (w.heap.size + 1) 46 #[.int .i64 2, .int .i64 0, .int .i64 0, .int .i64 0, .int .i64 0, .int .i64 0, .int .i64 0, .int .i64 0, .int .i64 0, .int .i64 0, .int .i64 0, .string ⟨#[]⟩, .int .i64 0, .int .i64 0, .bool false, .int .i64 0, .string ⟨#[]⟩, .int .i64 0, .int .i64 0, .int .i64 0, .int .i64 0, .int .i64 0, .int .i64 0, .slice none 0 0, .bool false, .int .i64 0, .int .i64 0]) := HF.2.2.1; have HG0 : Hid (w.grownBy w0 (some g)) := HF.2.2.2.1; have HS0 : Hid (w0.heap.size = w.heap.size + 2) := HF.2.2.2.2; clear HF)
    | (go_at_call 76; (with_reducible refine (qnum_any g A c zs a bad 4 _ gw a1 b1 _ HR0.out E4.out (by omega) ha X1.out).mono ?_); rintro e w' ⟨w1, rfl, rfl, r1, g1⟩; have HR1 := Lib.hid r1; have HG1 := Lib.hid (only_trans HG0.out g1 (fun q hq => by injection hq with hq; subst hq; exact hgl)); have HB1 := Lib.hid (HB0.out.grown g1 (by intro e; injection e with e; exact hkg e)); have HZ1 := Lib.hid (HZ0.out.grown g1 (by intro e; injection e with e; exact hkr e)); clear r1 g1; have c1_ : w1.cell? ⟨w.heap.size + 1, 3, none⟩ = some (.int .i64 0) := (HB1.out.cell 3).trans rfl; have f1_ : w1.frozen? ⟨w.heap.size + 1, 3, none⟩ = false := HB1.out.frozen 3; have HR1s : Hid (Rd 103 (w1.setCell ⟨w.heap.size + 1, 3, none⟩ (.int .i64 gw)) g A c zs a1 b1) := Rd.far HR1.out ⟨w.heap.size + 1, 3, none⟩ (.int .i64 gw) hgk HA.out; have HB1s : Hid (Blk (w1.setCell ⟨w.heap.size + 1, 3, none⟩ (.int .i64 gw)) (w.heap.size + 1) 46 #[.int .i64 2, .int .i64 0, .int .i64 0, .int .i64 gw, .int .i64 0, .int .i64 0, .int .i64 0, .int .i64 0, .int .i64 0, .int .i64 0, .int .i64 0, .string ⟨#[]⟩, .int .i64 0, .int .i64 0, .bool false, .int .i64 0, .string ⟨#[]⟩, .int .i64 0, .int .i64 0, .int .i64 0, .int .i64 0, .int .i64 0, .int .i64 0, .slice none 0 0, .bool false, .int .i64 0, .int .i64 0]) := Blk.set_ HB1.out 3 (.int .i64 gw); have HZ1s : Hid (Blk (w1.setCell ⟨w.heap.size + 1, 3, none⟩ (.int .i64 gw)) w.heap.size 46 #[.int .i64 0, .int .i64 0, .int .i64 0, .int .i64 0, .int .i64 0, .int .i64 0, .int .i64 0, .int .i64 0, .int .i64 0, .int .i64 0, .int .i64 0, .string ⟨#[]⟩, .int .i64 0, .int .i64 0, .bool false, .int .i64 0, .string ⟨#[]⟩, .int .i64 0, .int .i64 0, .int .i64 0, .int .i64 0, .int .i64 0, .int .i64 0, .slice none 0 0, .bool false, .int .i64 0, .int .i64 0]) := Blk.far HZ1.out (p := ⟨w.heap.size + 1, 3, none⟩) hrk (.int .i64 gw); have HG1s : Hid (w.grownBy (w1.setCell ⟨w.heap.size + 1, 3, none⟩ (.int .i64 gw)) (some g)) := only_setCell HG1.out (.inr (Nat.le_succ _)) (.int .i64 gw))
    | (go_at_call 76; (with_reducible refine (qnum_any g A c zs a1 b1 4 _ gl a2 b2 _ HR1s.out E4.out (by omega) ha1 X2.out).mono ?_); rintro e w' ⟨w2, rfl, rfl, r2, g2⟩; have HR2 := Lib.hid r2; have HG2 := Lib.hid (only_trans HG1s.out g2 (fun q hq => by injection hq with hq; subst hq; exact hgl)); have HB2 := Lib.hid (HB1s.out.grown g2 (by intro e; injection e with e; exact hkg e)); have HZ2 := Lib.hid (HZ1s.out.grown g2 (by intro e; injection e with e; exact hkr e)); clear r2 g2; have c2_ : w2.cell? ⟨w.heap.size + 1, 4, none⟩ = some (.int .i64 0) := (HB2.out.cell 4).trans rfl; have f2_ : w2.frozen? ⟨w.heap.size + 1, 4, none⟩ = false := HB2.out.frozen 4; have HR2s : Hid (Rd 103 (w2.setCell ⟨w.heap.size + 1, 4, none⟩ (.int .i64 gl)) g A c zs a2 b2) := Rd.far HR2.out ⟨w.heap.size + 1, 4, none⟩ (.int .i64 gl) hgk HA.out; have HB2s : Hid (Blk (w2.setCell ⟨w.heap.size + 1, 4, none⟩ (.int .i64 gl)) (w.heap.size + 1) 46 #[.int .i64 2, .int .i64 0, .int .i64 0, .int .i64 gw, .int .i64 gl, .int .i64 0, .int .i64 0, .int .i64 0, .int .i64 0, .int .i64 0, .int .i64 0, .string ⟨#[]⟩, .int .i64 0, .int .i64 0, .bool false, .int .i64 0, .string ⟨#[]⟩, .int .i64 0, .int .i64 0, .int .i64 0, .int .i64 0, .int .i64 0, .int .i64 0, .slice none 0 0, .bool false, .int .i64 0, .int .i64 0]) := Blk.set_ HB2.out 4 (.int .i64 gl); have HZ2s : Hid (Blk (w2.setCell ⟨w.heap.size + 1, 4, none⟩ (.int .i64 gl)) w.heap.size 46 #[.int .i64 0, .int .i64 0, .int .i64 0, .int .i64 0, .int .i64 0, .int .i64 0, .int .i64 0, .int .i64 0, .int .i64 0, .int .i64 0, .int .i64 0, .string ⟨#[]⟩, .int .i64 0, .int .i64 0, .bool false, .int .i64 0, .string ⟨#[]⟩, .int .i64 0, .int .i64 0, .int .i64 0, .int .i64 0, .int .i64 0, .int .i64 0, .slice none 0 0, .bool false, .int .i64 0, .int .i64 0]) := Blk.far HZ2.out (p := ⟨w.heap.size + 1, 4, none⟩) hrk (.int .i64 gl); have HG2s : Hid (w.grownBy (w2.setCell ⟨w.heap.size + 1, 4, none⟩ (.int .i64 gl)) (some g)) := only_setCell HG2.out (.inr (Nat.le_succ _)) (.int .i64 gl))
    | (go_at_call 76; (with_reducible refine (qnum_any g A c zs a2 b2 4 _ ge a3 b3 _ HR2s.out E4.out (by omega) ha2 X3.out).mono ?_); rintro e w' ⟨w3, rfl, rfl, r3, g3⟩; have HR3 := Lib.hid r3; have HG3 := Lib.hid (only_trans HG2s.out g3 (fun q hq => by injection hq with hq; subst hq; exact hgl)); have HB3 := Lib.hid (HB2s.out.grown g3 (by intro e; injection e with e; exact hkg e)); have HZ3 := Lib.hid (HZ2s.out.grown g3 (by intro e; injection e with e; exact hkr e)); clear r3 g3; have c3_ : w3.cell? ⟨w.heap.size + 1, 5, none⟩ = some (.int .i64 0) := (HB3.out.cell 5).trans rfl; have f3_ : w3.frozen? ⟨w.heap.size + 1, 5, none⟩ = false := HB3.out.frozen 5; have HR3s : Hid (Rd 103 (w3.setCell ⟨w.heap.size + 1, 5, none⟩ (.int .i64 ge)) g A c zs a3 b3) := Rd.far HR3.out ⟨w.heap.size + 1, 5, none⟩ (.int .i64 ge) hgk HA.out; have HB3s : Hid (Blk (w3.setCell ⟨w.heap.size + 1, 5, none⟩ (.int .i64 ge)) (w.heap.size + 1) 46 #[.int .i64 2, .int .i64 0, .int .i64 0, .int .i64 gw, .int .i64 gl, .int .i64 ge, .int .i64 0, .int .i64 0, .int .i64 0, .int .i64 0, .int .i64 0, .string ⟨#[]⟩, .int .i64 0, .int .i64 0, .bool false, .int .i64 0, .string ⟨#[]⟩, .int .i64 0, .int .i64 0, .int .i64 0, .int .i64 0, .int .i64 0, .int .i64 0, .slice none 0 0, .bool false, .int .i64 0, .int .i64 0]) := Blk.set_ HB3.out 5 (.int .i64 ge); have HZ3s : Hid (Blk (w3.setCell ⟨w.heap.size + 1, 5, none⟩ (.int .i64 ge)) w.heap.size 46 #[.int .i64 0, .int .i64 0, .int .i64 0, .int .i64 0, .int .i64 0, .int .i64 0, .int .i64 0, .int .i64 0, .int .i64 0, .int .i64 0, .int .i64 0, .string ⟨#[]⟩, .int .i64 0, .int .i64 0, .bool false, .int .i64 0, .string ⟨#[]⟩, .int .i64 0, .int .i64 0, .int .i64 0, .int .i64 0, .int .i64 0, .int .i64 0, .slice none 0 0, .bool false, .int .i64 0, .int .i64 0]) := Blk.far HZ3.out (p := ⟨w.heap.size + 1, 5, none⟩) hrk (.int .i64 ge); have HG3s : Hid (w.grownBy (w3.setCell ⟨w.heap.size + 1, 5, none⟩ (.int .i64 ge)) (some g)) := only_setCell HG3.out (.inr (Nat.le_succ _)) (.int .i64 ge))
    | (refine wpList_load_row rfl 46 (.tmp 5) rfl (w.heap.size + 1) rfl 46 #[.int .i64 2, .int .i64 0, .int .i64 0, .int .i64 gw, .int .i64 gl, .int .i64 ge, .int .i64 0, .int .i64 0, .int .i64 0, .int .i64 0, .int .i64 0, .string ⟨#[]⟩, .int .i64 0, .int .i64 0, .bool false, .int .i64 0, .string ⟨#[]⟩, .int .i64 0, .int .i64 0, .int .i64 0, .int .i64 0, .int .i64 0, .int .i64 0, .slice none 0 0, .bool false, .int .i64 0, .int .i64 0] (0, 0) _ HB3s.out Try.underlying46 rfl (by kernel_rfl) ?_)
    | (refine wpList_store_row rfl 46 (.tmp 4) (.tmp 118) rfl w.heap.size #[.int .i64 2, .int .i64 0, .int .i64 0, .int .i64 gw, .int .i64 gl, .int .i64 ge, .int .i64 0, .int .i64 0, .int .i64 0, .int .i64 0, .int .i64 0, .string ⟨#[]⟩, .int .i64 0, .int .i64 0, .bool false, .int .i64 0, .string ⟨#[]⟩, .int .i64 0, .int .i64 0, .int .i64 0, .int .i64 0, .int .i64 0, .int .i64 0, .slice none 0 0, .bool false, .int .i64 0, .int .i64 0] rfl rfl 46 _ HZ3s.out (by kernel_rfl) (by kernel_rfl) (by kernel_rfl) ?_))
  (try simp only [Exit.inBlock, Exit.then])
  refine bodyPost_ret (results_cell_row rfl _ _ w.heap.size 46 #[.int .i64 2, .int .i64 0, .int .i64 0, .int .i64 gw, .int .i64 gl, .int .i64 ge, .int .i64 0, .int .i64 0, .int .i64 0, .int .i64 0, .int .i64 0, .string ⟨#[]⟩, .int .i64 0, .int .i64 0, .bool false, .int .i64 0, .string ⟨#[]⟩, .int .i64 0, .int .i64 0, .int .i64 0, .int .i64 0, .int .i64 0, .int .i64 0, .slice none 0 0, .bool false, .int .i64 0, .int .i64 0] (0, 0) _ rfl ?_ Try.underlying46 rfl (by kernel_rfl)) rfl ?_
  · exact setRow_heap _ _ _ _ _ _ HZ3s.out
  · exact ⟨_, rfl, rfl, rd_row HR3s.out hkr HA0.out _, only_row HG3s.out (Nat.le_refl _) _⟩
set_option maxHeartbeats 8000000 in
theorem qread_stop (g : Nat) (A : Option Addr) (c : Nat) (zs : List Int) (a : Nat) (bad : Bool) (sl : Int) (a1 : Nat) (b1 : Bool) (q : Int) (a2 : Nat) (b2 : Bool) (w : World) (h : Rd 103 w g A c zs a bad) (h0 : 0 < zs.length) (ha : a ≤ zs.length) (h1 : rnum zs a bad 4 = (sl, a1, b1)) (h2 : rnum zs a1 b1 4 = (q, a2, b2)) :
    Calls Try.prog 58 #[.pointer (some ⟨g, 0, none⟩), .int .i64 5] w (RdTo 103 w g A c zs (.agg #[.int .i64 5, .int .i64 0, .int .i64 0, .int .i64 0, .int .i64 0, .int .i64 0, .int .i64 0, .int .i64 0, .int .i64 0, .int .i64 0, .int .i64 0, .string ⟨#[]⟩, .int .i64 0, .int .i64 0, .bool false, .int .i64 0, .string ⟨#[]⟩, .int .i64 0, .int .i64 0, .int .i64 0, .int .i64 0, .int .i64 0, .int .i64 0, .slice none 0 0, .bool false, .int .i64 sl, .int .i64 q]) a2 b2) := by
  have hgl : g < w.heap.size := h.lt
  have hgk : g ≠ w.heap.size + 1 := by omega
  have hkg : ¬ w.heap.size + 1 = g := by omega
  have hkr : ¬ w.heap.size = g := by omega
  have hrk : w.heap.size ≠ w.heap.size + 1 := by omega
  have HA := Lib.hid (h.past h0)
  have HA0 := Lib.hid (h.old h0)
  have H0 := Lib.hid h
  have HST := Lib.hid (qstart h #[.int .i64 5, .int .i64 0, .int .i64 0, .int .i64 0, .int .i64 0, .int .i64 0, .int .i64 0, .int .i64 0, .int .i64 0, .int .i64 0, .int .i64 0, .string ⟨#[]⟩, .int .i64 0, .int .i64 0, .bool false, .int .i64 0, .string ⟨#[]⟩, .int .i64 0, .int .i64 0, .int .i64 0, .int .i64 0, .int .i64 0, .int .i64 0, .slice none 0 0, .bool false, .int .i64 0, .int .i64 0])
  have KST := Lib.hid (kst w)
  have ha1 : a1 ≤ zs.length := rnum_bound h1 ha
  have X1 := Lib.hid h1
  have ha2 : a2 ≤ zs.length := rnum_bound h2 ha1
  have X2 := Lib.hid h2
  have E4 : Hid ((4 : Int) = ((4 : Nat) : Int)) := rfl
  clear h h1 h2
  go_enter Try.func58, Try.ntmps58
  go_wp2_with (first
    | (refine wpList_store_row rfl 46 (.tmp 5) (.tmp 9) rfl (w.heap.size + 1) #[.int .i64 5, .int .i64 0, .int .i64 0, .int .i64 0, .int .i64 0, .int .i64 0, .int .i64 0, .int .i64 0, .int .i64 0, .int .i64 0, .int .i64 0, .string ⟨#[]⟩, .int .i64 0, .int .i64 0, .bool false, .int .i64 0, .string ⟨#[]⟩, .int .i64 0, .int .i64 0, .int .i64 0, .int .i64 0, .int .i64 0, .int .i64 0, .slice none 0 0, .bool false, .int .i64 0, .int .i64 0] rfl rfl 46 _ KST.out (by kernel_rfl) (by kernel_rfl) (by kernel_rfl) ?_; have HF := HST.out; revert HF; generalize World.setRow _ _ _ = w0; intro HF; have HR0 : Hid (Rd 103 w0 g A c zs a bad) := HF.1; have HZ0 : Hid (Blk w0 w.heap.size 46 #[.int .i64 0, .int .i64 0, .int .i64 0, .int .i64 0, .int .i64 0, .int .i64 0, .int .i64 0, .int .i64 0, .int .i64 0, .int .i64 0, .int .i64 0, .string ⟨#[]⟩, .int .i64 0, .int .i64 0, .bool false, .int .i64 0, .string ⟨#[]⟩, .int .i64 0, .int .i64 0, .int .i64 0, .int .i64 0, .int .i64 0, .int .i64 0, .slice none 0 0, .bool false, .int .i64 0, .int .i64 0]) := HF.2.1; have HB0 : Hid (Blk w0 (w.heap.size + 1) 46 #[.int .i64 5, .int .i64 0, .int .i64 0, .int .i64 0, .int .i64 0, .int .i64 0, .int .i64 0, .int .i64 0, .int .i64 0, .int .i64 0, .int .i64 0, .string ⟨#[]⟩, .int .i64 0, .int .i64 0, .bool false, .int .i64 0, .string ⟨#[]⟩, .int .i64 0, .int .i64 0, .int .i64 0, .int .i64 0, .int .i64 0, .int .i64 0, .slice none 0 0, .bool false, .int .i64 0, .int .i64 0]) := HF.2.2.1; have HG0 : Hid (w.grownBy w0 (some g)) := HF.2.2.2.1; have HS0 : Hid (w0.heap.size = w.heap.size + 2) := HF.2.2.2.2; clear HF)
    | (go_at_call 76; (with_reducible refine (qnum_any g A c zs a bad 4 _ sl a1 b1 _ HR0.out E4.out (by omega) ha X1.out).mono ?_); rintro e w' ⟨w1, rfl, rfl, r1, g1⟩; have HR1 := Lib.hid r1; have HG1 := Lib.hid (only_trans HG0.out g1 (fun q hq => by injection hq with hq; subst hq; exact hgl)); have HB1 := Lib.hid (HB0.out.grown g1 (by intro e; injection e with e; exact hkg e)); have HZ1 := Lib.hid (HZ0.out.grown g1 (by intro e; injection e with e; exact hkr e)); clear r1 g1; have c1_ : w1.cell? ⟨w.heap.size + 1, 25, none⟩ = some (.int .i64 0) := (HB1.out.cell 25).trans rfl; have f1_ : w1.frozen? ⟨w.heap.size + 1, 25, none⟩ = false := HB1.out.frozen 25; have HR1s : Hid (Rd 103 (w1.setCell ⟨w.heap.size + 1, 25, none⟩ (.int .i64 sl)) g A c zs a1 b1) := Rd.far HR1.out ⟨w.heap.size + 1, 25, none⟩ (.int .i64 sl) hgk HA.out; have HB1s : Hid (Blk (w1.setCell ⟨w.heap.size + 1, 25, none⟩ (.int .i64 sl)) (w.heap.size + 1) 46 #[.int .i64 5, .int .i64 0, .int .i64 0, .int .i64 0, .int .i64 0, .int .i64 0, .int .i64 0, .int .i64 0, .int .i64 0, .int .i64 0, .int .i64 0, .string ⟨#[]⟩, .int .i64 0, .int .i64 0, .bool false, .int .i64 0, .string ⟨#[]⟩, .int .i64 0, .int .i64 0, .int .i64 0, .int .i64 0, .int .i64 0, .int .i64 0, .slice none 0 0, .bool false, .int .i64 sl, .int .i64 0]) := Blk.set_ HB1.out 25 (.int .i64 sl); have HZ1s : Hid (Blk (w1.setCell ⟨w.heap.size + 1, 25, none⟩ (.int .i64 sl)) w.heap.size 46 #[.int .i64 0, .int .i64 0, .int .i64 0, .int .i64 0, .int .i64 0, .int .i64 0, .int .i64 0, .int .i64 0, .int .i64 0, .int .i64 0, .int .i64 0, .string ⟨#[]⟩, .int .i64 0, .int .i64 0, .bool false, .int .i64 0, .string ⟨#[]⟩, .int .i64 0, .int .i64 0, .int .i64 0, .int .i64 0, .int .i64 0, .int .i64 0, .slice none 0 0, .bool false, .int .i64 0, .int .i64 0]) := Blk.far HZ1.out (p := ⟨w.heap.size + 1, 25, none⟩) hrk (.int .i64 sl); have HG1s : Hid (w.grownBy (w1.setCell ⟨w.heap.size + 1, 25, none⟩ (.int .i64 sl)) (some g)) := only_setCell HG1.out (.inr (Nat.le_succ _)) (.int .i64 sl))
    | (go_at_call 76; (with_reducible refine (qnum_any g A c zs a1 b1 4 _ q a2 b2 _ HR1s.out E4.out (by omega) ha1 X2.out).mono ?_); rintro e w' ⟨w2, rfl, rfl, r2, g2⟩; have HR2 := Lib.hid r2; have HG2 := Lib.hid (only_trans HG1s.out g2 (fun q hq => by injection hq with hq; subst hq; exact hgl)); have HB2 := Lib.hid (HB1s.out.grown g2 (by intro e; injection e with e; exact hkg e)); have HZ2 := Lib.hid (HZ1s.out.grown g2 (by intro e; injection e with e; exact hkr e)); clear r2 g2; have c2_ : w2.cell? ⟨w.heap.size + 1, 26, none⟩ = some (.int .i64 0) := (HB2.out.cell 26).trans rfl; have f2_ : w2.frozen? ⟨w.heap.size + 1, 26, none⟩ = false := HB2.out.frozen 26; have HR2s : Hid (Rd 103 (w2.setCell ⟨w.heap.size + 1, 26, none⟩ (.int .i64 q)) g A c zs a2 b2) := Rd.far HR2.out ⟨w.heap.size + 1, 26, none⟩ (.int .i64 q) hgk HA.out; have HB2s : Hid (Blk (w2.setCell ⟨w.heap.size + 1, 26, none⟩ (.int .i64 q)) (w.heap.size + 1) 46 #[.int .i64 5, .int .i64 0, .int .i64 0, .int .i64 0, .int .i64 0, .int .i64 0, .int .i64 0, .int .i64 0, .int .i64 0, .int .i64 0, .int .i64 0, .string ⟨#[]⟩, .int .i64 0, .int .i64 0, .bool false, .int .i64 0, .string ⟨#[]⟩, .int .i64 0, .int .i64 0, .int .i64 0, .int .i64 0, .int .i64 0, .int .i64 0, .slice none 0 0, .bool false, .int .i64 sl, .int .i64 q]) := Blk.set_ HB2.out 26 (.int .i64 q); have HZ2s : Hid (Blk (w2.setCell ⟨w.heap.size + 1, 26, none⟩ (.int .i64 q)) w.heap.size 46 #[.int .i64 0, .int .i64 0, .int .i64 0, .int .i64 0, .int .i64 0, .int .i64 0, .int .i64 0, .int .i64 0, .int .i64 0, .int .i64 0, .int .i64 0, .string ⟨#[]⟩, .int .i64 0, .int .i64 0, .bool false, .int .i64 0, .string ⟨#[]⟩, .int .i64 0, .int .i64 0, .int .i64 0, .int .i64 0, .int .i64 0, .int .i64 0, .slice none 0 0, .bool false, .int .i64 0, .int .i64 0]) := Blk.far HZ2.out (p := ⟨w.heap.size + 1, 26, none⟩) hrk (.int .i64 q); have HG2s : Hid (w.grownBy (w2.setCell ⟨w.heap.size + 1, 26, none⟩ (.int .i64 q)) (some g)) := only_setCell HG2.out (.inr (Nat.le_succ _)) (.int .i64 q))
    | (refine wpList_load_row rfl 46 (.tmp 5) rfl (w.heap.size + 1) rfl 46 #[.int .i64 5, .int .i64 0, .int .i64 0, .int .i64 0, .int .i64 0, .int .i64 0, .int .i64 0, .int .i64 0, .int .i64 0, .int .i64 0, .int .i64 0, .string ⟨#[]⟩, .int .i64 0, .int .i64 0, .bool false, .int .i64 0, .string ⟨#[]⟩, .int .i64 0, .int .i64 0, .int .i64 0, .int .i64 0, .int .i64 0, .int .i64 0, .slice none 0 0, .bool false, .int .i64 sl, .int .i64 q] (0, 0) _ HB2s.out Try.underlying46 rfl (by kernel_rfl) ?_)
    | (refine wpList_store_row rfl 46 (.tmp 4) (.tmp 118) rfl w.heap.size #[.int .i64 5, .int .i64 0, .int .i64 0, .int .i64 0, .int .i64 0, .int .i64 0, .int .i64 0, .int .i64 0, .int .i64 0, .int .i64 0, .int .i64 0, .string ⟨#[]⟩, .int .i64 0, .int .i64 0, .bool false, .int .i64 0, .string ⟨#[]⟩, .int .i64 0, .int .i64 0, .int .i64 0, .int .i64 0, .int .i64 0, .int .i64 0, .slice none 0 0, .bool false, .int .i64 sl, .int .i64 q] rfl rfl 46 _ HZ2s.out (by kernel_rfl) (by kernel_rfl) (by kernel_rfl) ?_))
  (try simp only [Exit.inBlock, Exit.then])
  refine bodyPost_ret (results_cell_row rfl _ _ w.heap.size 46 #[.int .i64 5, .int .i64 0, .int .i64 0, .int .i64 0, .int .i64 0, .int .i64 0, .int .i64 0, .int .i64 0, .int .i64 0, .int .i64 0, .int .i64 0, .string ⟨#[]⟩, .int .i64 0, .int .i64 0, .bool false, .int .i64 0, .string ⟨#[]⟩, .int .i64 0, .int .i64 0, .int .i64 0, .int .i64 0, .int .i64 0, .int .i64 0, .slice none 0 0, .bool false, .int .i64 sl, .int .i64 q] (0, 0) _ rfl ?_ Try.underlying46 rfl (by kernel_rfl)) rfl ?_
  · exact setRow_heap _ _ _ _ _ _ HZ2s.out
  · exact ⟨_, rfl, rfl, rd_row HR2s.out hkr HA0.out _, only_row HG2s.out (Nat.le_refl _) _⟩
set_option maxHeartbeats 8000000 in
theorem qread_other (g : Nat) (A : Option Addr) (c : Nat) (zs : List Int) (a : Nat) (bad : Bool) (k : Int) (w : World) (h : Rd 103 w g A c zs a bad) (h0 : 0 < zs.length) (hk : k < 1 ∨ 5 < k) :
    Calls Try.prog 58 #[.pointer (some ⟨g, 0, none⟩), .int .i64 k] w (RdTo 103 w g A c zs (.agg #[.int .i64 k, .int .i64 0, .int .i64 0, .int .i64 0, .int .i64 0, .int .i64 0, .int .i64 0, .int .i64 0, .int .i64 0, .int .i64 0, .int .i64 0, .string ⟨#[]⟩, .int .i64 0, .int .i64 0, .bool false, .int .i64 0, .string ⟨#[]⟩, .int .i64 0, .int .i64 0, .int .i64 0, .int .i64 0, .int .i64 0, .int .i64 0, .slice none 0 0, .bool false, .int .i64 0, .int .i64 0]) a bad) := by
  have hgl : g < w.heap.size := h.lt
  have hgk : g ≠ w.heap.size + 1 := by omega
  have hkg : ¬ w.heap.size + 1 = g := by omega
  have hkr : ¬ w.heap.size = g := by omega
  have hrk : w.heap.size ≠ w.heap.size + 1 := by omega
  have HA := Lib.hid (h.past h0)
  have HA0 := Lib.hid (h.old h0)
  have H0 := Lib.hid h
  have HST := Lib.hid (qstart h #[.int .i64 k, .int .i64 0, .int .i64 0, .int .i64 0, .int .i64 0, .int .i64 0, .int .i64 0, .int .i64 0, .int .i64 0, .int .i64 0, .int .i64 0, .string ⟨#[]⟩, .int .i64 0, .int .i64 0, .bool false, .int .i64 0, .string ⟨#[]⟩, .int .i64 0, .int .i64 0, .int .i64 0, .int .i64 0, .int .i64 0, .int .i64 0, .slice none 0 0, .bool false, .int .i64 0, .int .i64 0])
  have KST := Lib.hid (kst w)
  have k1 : (k == 1) = false := by rw [beq_eq_false_iff_ne]; omega
  have k2 : (k == 2) = false := by rw [beq_eq_false_iff_ne]; omega
  have k3 : (k == 3) = false := by rw [beq_eq_false_iff_ne]; omega
  have k4 : (k == 4) = false := by rw [beq_eq_false_iff_ne]; omega
  have k5 : (k == 5) = false := by rw [beq_eq_false_iff_ne]; omega
  clear h hk
  go_enter Try.func58, Try.ntmps58
  go_wp2_with (first
    | (refine wpList_store_row rfl 46 (.tmp 5) (.tmp 9) rfl (w.heap.size + 1) #[.int .i64 k, .int .i64 0, .int .i64 0, .int .i64 0, .int .i64 0, .int .i64 0, .int .i64 0, .int .i64 0, .int .i64 0, .int .i64 0, .int .i64 0, .string ⟨#[]⟩, .int .i64 0, .int .i64 0, .bool false, .int .i64 0, .string ⟨#[]⟩, .int .i64 0, .int .i64 0, .int .i64 0, .int .i64 0, .int .i64 0, .int .i64 0, .slice none 0 0, .bool false, .int .i64 0, .int .i64 0] rfl rfl 46 _ KST.out (by kernel_rfl) (by kernel_rfl) (by kernel_rfl) ?_; have HF := HST.out; revert HF; generalize World.setRow _ _ _ = w0; intro HF; have HR0 : Hid (Rd 103 w0 g A c zs a bad) := HF.1; have HZ0 : Hid (Blk w0 w.heap.size 46 #[.int .i64 0, .int .i64 0, .int .i64 0, .int .i64 0, .int .i64 0, .int .i64 0, .int .i64 0, .int .i64 0, .int .i64 0, .int .i64 0, .int .i64 0, .string ⟨#[]⟩, .int .i64 0, .int .i64 0, .bool false, .int .i64 0, .string ⟨#[]⟩, .int .i64 0, .int .i64 0, .int .i64 0, .int .i64 0, .int .i64 0, .int .i64 0, .slice none 0 0, .bool false, .int .i64 0, .int .i64 0]) := HF.2.1; have HB0 : Hid (Blk w0 (w.heap.size + 1) 46 #[.int .i64 k, .int .i64 0, .int .i64 0, .int .i64 0, .int .i64 0, .int .i64 0, .int .i64 0, .int .i64 0, .int .i64 0, .int .i64 0, .int .i64 0, .string ⟨#[]⟩, .int .i64 0, .int .i64 0, .bool false, .int .i64 0, .string ⟨#[]⟩, .int .i64 0, .int .i64 0, .int .i64 0, .int .i64 0, .int .i64 0, .int .i64 0, .slice none 0 0, .bool false, .int .i64 0, .int .i64 0]) := HF.2.2.1; have HG0 : Hid (w.grownBy w0 (some g)) := HF.2.2.2.1; have HS0 : Hid (w0.heap.size = w.heap.size + 2) := HF.2.2.2.2; clear HF)
    | (refine wpList_load_row rfl 46 (.tmp 5) rfl (w.heap.size + 1) rfl 46 #[.int .i64 k, .int .i64 0, .int .i64 0, .int .i64 0, .int .i64 0, .int .i64 0, .int .i64 0, .int .i64 0, .int .i64 0, .int .i64 0, .int .i64 0, .string ⟨#[]⟩, .int .i64 0, .int .i64 0, .bool false, .int .i64 0, .string ⟨#[]⟩, .int .i64 0, .int .i64 0, .int .i64 0, .int .i64 0, .int .i64 0, .int .i64 0, .slice none 0 0, .bool false, .int .i64 0, .int .i64 0] (0, 0) _ HB0.out Try.underlying46 rfl (by kernel_rfl) ?_)
    | (refine wpList_store_row rfl 46 (.tmp 4) (.tmp 118) rfl w.heap.size #[.int .i64 k, .int .i64 0, .int .i64 0, .int .i64 0, .int .i64 0, .int .i64 0, .int .i64 0, .int .i64 0, .int .i64 0, .int .i64 0, .int .i64 0, .string ⟨#[]⟩, .int .i64 0, .int .i64 0, .bool false, .int .i64 0, .string ⟨#[]⟩, .int .i64 0, .int .i64 0, .int .i64 0, .int .i64 0, .int .i64 0, .int .i64 0, .slice none 0 0, .bool false, .int .i64 0, .int .i64 0] rfl rfl 46 _ HZ0.out (by kernel_rfl) (by kernel_rfl) (by kernel_rfl) ?_))
  (try simp only [Exit.inBlock, Exit.then])
  refine bodyPost_ret (results_cell_row rfl _ _ w.heap.size 46 #[.int .i64 k, .int .i64 0, .int .i64 0, .int .i64 0, .int .i64 0, .int .i64 0, .int .i64 0, .int .i64 0, .int .i64 0, .int .i64 0, .int .i64 0, .string ⟨#[]⟩, .int .i64 0, .int .i64 0, .bool false, .int .i64 0, .string ⟨#[]⟩, .int .i64 0, .int .i64 0, .int .i64 0, .int .i64 0, .int .i64 0, .int .i64 0, .slice none 0 0, .bool false, .int .i64 0, .int .i64 0] (0, 0) _ rfl ?_ Try.underlying46 rfl (by kernel_rfl)) rfl ?_
  · exact setRow_heap _ _ _ _ _ _ HZ0.out
  · exact ⟨_, rfl, rfl, rd_row HR0.out hkr HA0.out _, only_row HG0.out (Nat.le_refl _) _⟩
end Go.Proofs.Ytajhkjikcgfhdaa
namespace Go.Proofs.Ytajhkjikcgfhdaa
set_option linter.unusedVariables false
set_option linter.unusedSimpArgs false
set_option maxRecDepth 20000
open Go.RowKit
/-- Items have been read. -/
def RdItems (w : World) (g : Nat) (A : Option Addr) (c : Nat) (zs : List Int) (xs : List (Int × ByteArray)) (a : Nat) (bad : Bool) (e : Ending) (w' : World) : Prop :=
  ∃ v W, e = .returned v ∧ W = w' ∧ Rd 103 W g A c zs a bad ∧ W.ownsRow w.heap.size 27 2 v xs.length (xvals xs) ∧ w.grownBy W (some g)
set_option maxHeartbeats 8000000 in
theorem qitems_any (g : Nat) (A : Option Addr) (c : Nat) (zs : List Int) (a : Nat) (bad : Bool) (N : Nat) (xs : List (Int × ByteArray)) (a8 : Nat) (b8 : Bool) (w : World) (h : Rd 103 w g A c zs a bad) (hN2 : N ≤ 255) (ha : a ≤ zs.length) (h8 : ritems zs N a bad = (xs, a8, b8)) :
    Calls Try.prog 78 #[.pointer (some ⟨g, 0, none⟩), .int .i64 N] w (RdItems w g A c zs xs a8 b8) := by
  have hgl : g < w.heap.size := h.lt
  have H0 := Lib.hid h
  have HIT := Lib.hid h8
  obtain ⟨i0, hi, hz0, hz1, hz2⟩ := info_parts info_item
  have I := Lib.hid (And.intro hi (And.intro hz0 (And.intro hz1 hz2)))
  have E1 : Hid ((1 : Int) = ((1 : Nat) : Int)) := rfl
  clear hi hz0 hz1 hz2 h8 h
  go_enter Try.func78, Try.ntmps78
  go_wp2
  go_loopw [5, 6, 7] (fun v i d0 wr => ∃ (k ak : Nat) (bk : Bool) (ys : List (Int × ByteArray)), k ≤ N ∧ i = .int .i64 k ∧ Hid (Blk wr g 103 #[.slice A zs.length c, .int .i64 ak, .bool bk]) ∧ Hid (wr.ownsRow w.heap.size 27 2 v k (xvals ys)) ∧ Hid (w.grownBy wr (some g)) ∧ ak ≤ zs.length ∧ Hid (ritems zs N a bad = (ys ++ (ritems zs (N - k) ak bk).1, (ritems zs (N - k) ak bk).2))) (fun _ i _ _ => N - (intOf i).toNat)
  case atStart => exact ⟨0, a, bad, [], by omega, rfl, H0.out.1, World.ownsRow_nil _ _ _ _, World.grownBy.refl _ _, ha, rfl⟩
  case round =>
    obtain ⟨k, ak, bk, ys, hk, rfl, HB, HO, HG, hak, HRI⟩ := hrel
    have HR : Hid (Rd 103 wr g A c zs ak bk) := H0.out.mk_ HG.out HB.out
    have HYL : Hid (ys.length = k) := by have h1 := HO.out.1; rw [xvals_length] at h1; unfold Hid; omega
    by_cases hkn : k < N
    · cases bk with
      | true =>
        have he := HRI.out
        rw [ritems_bad, HIT.out, List.append_nil] at he
        injection he with e1 e2
        injection e2 with e2 e3
        subst e1
        subst e2
        subst e3
        have c2_ : wr.cell? ⟨g, 2, none⟩ = some (.bool true) := (HB.out.cell 2).trans rfl
        clear hak
        go_wp2
        go_ret
        exact ⟨_, _, rfl, rfl, HR.out, by rw [HYL.out]; exact HO.out, HG.out⟩
      | false =>
        obtain ⟨d, p, b1, hx1⟩ : ∃ d p b1, rnum zs ak false 1 = (d, p, b1) := ⟨_, _, _, rfl⟩
        obtain ⟨s, a', b', hx2⟩ : ∃ s a' b', rtext zs p b1 = (s, a', b') := ⟨_, _, _, rfl⟩
        have hx : ritem zs ak false = ((d, s), a', b') := by unfold ritem; rw [hx1]; simp only; rw [hx2]
        have hp := rnum_bound hx1 hak
        have ha' := ritem_bound H0.out.range hx hak
        have HX1 := Lib.hid hx1
        have HX2 := Lib.hid hx2
        have HRI2 : Hid (ritems zs N a bad = ((ys ++ [(d, s)]) ++ (ritems zs (N - (k + 1)) a' b').1, (ritems zs (N - (k + 1)) a' b').2)) := by
          unfold Hid
          rw [HRI.out, show N - k = (N - (k + 1)) + 1 by omega, ritems_next zs _ ak a' b' (d, s) hx, List.append_assoc]
          rfl
        clear hx HRI hx1 hx2
        have c2_ : wr.cell? ⟨g, 2, none⟩ = some (.bool false) := (HB.out.cell 2).trans rfl
        have h1c : Hid (∀ u ∈ [Value.int .i64 d, .string s], u.oneCell' = true) := by unfold Hid; simp [Value.oneCell']
        go_wp2_with (first
          | (go_at_call 76; (with_reducible refine (qnum_any g A c zs ak false 1 _ d p b1 _ HR.out E1.out (by omega) hak HX1.out).mono ?_); rintro e w' ⟨w1, rfl, rfl, r1, g1⟩; have HR1 := Lib.hid r1; have HG1 := Lib.hid (only_trans HG.out g1 (fun q hq => by injection hq with hq; subst hq; exact hgl)); have HO1 := Lib.hid (World.ownsRow.kept HO.out g1 (.inr (own_blk_ne HO.out HR.out.1 (by decide)))); clear r1 g1)
          | (go_at_call 77; (with_reducible refine (qtext_any g A c zs p b1 s a' b' _ HR1.out hp HX2.out).mono ?_); rintro e w' ⟨w2, rfl, rfl, r2, g2⟩; have HR2 := Lib.hid r2; have HG2 := Lib.hid (only_trans HG1.out g2 (fun q hq => by injection hq with hq; subst hq; exact hgl)); have HO2 := Lib.hid (World.ownsRow.kept HO1.out g2 (.inr (own_blk_ne HO1.out HR1.out.1 (by decide)))); have HO3 := Lib.hid (World.ownsRow.alloc HO2.out (.cells #[.int .i64 d, .string s] 27)); have HRN := Lib.hid (xreads_new2 w2 (.int .i64 d) (.string s) 27); have HSZ : Hid (w.heap.size ≤ (w2.alloc (.cells #[.int .i64 d, .string s] 27)).heap.size) := Nat.le_trans HG2.out.size (bel_alloc _ _).size; clear r2 g2)
          | (at_builtin; refine wpList_append_any _ rfl (.tmp 22) (.tmp 27) _ rfl w.heap.size 27 i0 _ 2 24 Try.underlying30 I.out.1 I.out.2.1 I.out.2.2.1 I.out.2.2.2 rfl (by omega) _ k (xvals ys) rfl HO3.out _ (some ⟨w2.heap.size, 0, none⟩) 1 1 [.int .i64 d, .string s] rfl HRN.out h1c.out (by simp only [maxLen]; omega) (by omega) HSZ.out ?_; intro v4 w4 hown4 hg4 hat4; have HB4 := Lib.hid ((HR2.out.1.alloc (.cells #[.int .i64 d, .string s] 27)).grown hg4 (fun e => own_blk_ne HO3.out (HR2.out.1.alloc (.cells #[.int .i64 d, .string s] 27)) (by decide) e.symm)); have HG4 : Hid (w.grownBy w4 (some g)) := only_new (only_alloc HG2.out _) hg4 (fun q hq => (HO3.out.lt q hq).1); have HO4 := Lib.hid hown4; clear hown4 hg4 hat4))
        all_goals go_wp2
        all_goals go_roundw
        all_goals first
          | (case rel => exact ⟨k + 1, a', b', ys ++ [(d, s)], by omega, by go_num, HB4.out, (by
              unfold Hid
              rw [xvals_snoc]
              exact HO4.out), HG4.out, ha', HRI2⟩)
          | (simp [intOf]; omega)
    · obtain rfl : k = N := by omega
      have he := HRI.out
      rw [Nat.sub_self, HIT.out] at he
      simp only [ritems, List.append_nil] at he
      injection he with e1 e2
      injection e2 with e2 e3
      subst e1
      subst e2
      subst e3
      clear hak
      go_wp2
      go_ret
      exact ⟨_, _, rfl, rfl, HR.out, by rw [HYL.out]; exact HO.out, HG.out⟩
end Go.Proofs.Ytajhkjikcgfhdaa
namespace Go.Proofs.Ytajhkjikcgfhdaa
set_option linter.unusedVariables false
set_option linter.unusedSimpArgs false
set_option maxRecDepth 100000
open Go.RowKit
theorem Blk.there {w : World} {g : Nat} {t : TypeId} {cs : Array Value} (h : Blk w g t cs) (o n : Nat) (hn : o + n ≤ cs.size) : w.there g o n := fun j hj => by
  refine ⟨?_, h.frozen _⟩
  rw [h.cell (o + j), Array.getElem?_eq_getElem (by omega)]
  rfl
def putL : List Value → Nat → List Value → List Value
  | cs, _, [] => cs
  | [], _, _ :: _ => []
  | _ :: cs, 0, v :: vs => v :: putL cs 0 vs
  | c :: cs, o + 1, v :: vs => c :: putL cs o (v :: vs)
theorem putL_nil (l : List Value) (o : Nat) : putL l o [] = l := by cases l <;> rfl
theorem putL_step (v : Value) (r : List Value) : ∀ (l : List Value) (o : Nat), putL l o (v :: r) = putL (l.set o v) (o + 1) r := by
  intro l
  induction l with
  | nil => intro o; cases r <;> rfl
  | cons c l ih =>
    intro o
    cases o with
    | zero =>
      cases r with
      | nil => cases l <;> rfl
      | cons u r => rfl
    | succ o =>
      cases r with
      | nil => exact congrArg (c :: ·) (by rw [ih o, putL_nil])
      | cons u r => exact congrArg (c :: ·) (ih o)
theorem Blk.setMid {g : Nat} {t : TypeId} (vs : List Value) : ∀ {w : World} {cs : Array Value} (h : Blk w g t cs) (o : Nat), Blk (w.setCells g o vs) g t (putL cs.toList o vs).toArray := by
  induction vs with
  | nil =>
    intro w cs h o
    have : putL cs.toList o [] = cs.toList := by cases cs.toList <;> rfl
    rw [this]
    exact h
  | cons v r ih =>
    intro w cs h o
    have := ih (h.set_ o v) (o + 1)
    rw [Array.toList_setIfInBounds, ← putL_step] at this
    exact this
theorem setCells_grown (g : Nat) (vs : List Value) : ∀ (w : World) (o : Nat), w.grownBy (w.setCells g o vs) (some g) := by
  induction vs with
  | nil => intro w o; exact World.grownBy.refl w _
  | cons v r ih =>
    intro w o
    have h1 := only_setCell (World.grownBy.refl w (some g)) (p := ⟨g, o, none⟩) (.inl rfl) v
    have h2 := ih (w.setCell ⟨g, o, none⟩ v) (o + 1)
    exact ⟨h2.os.trans h1.os, h2.tape.trans h1.tape, h2.output.trans h1.output, Nat.le_trans h1.size h2.size, fun i hi hne => (h2.block i (Nat.lt_of_lt_of_le hi h1.size) hne).trans (h1.block i hi hne)⟩
theorem Rd.apart {t : TypeId} {w w1 : World} {g p c : Nat} {A : Option Addr} {zs : List Int} {a : Nat} {bad : Bool} (h : Rd t w g A c zs a bad) (hg : w.grownBy w1 (some p)) (hp : g ≠ p) (hA : ∀ ad, A = some ad → ad.block ≠ p) : Rd t w1 g A c zs a bad :=
  ⟨h.1.grown hg (by intro e; injection e with e; exact hp e), h.2.1.grown hg hA, h.2.2⟩
theorem only_big {w w1 w2 : World} {g p : Nat} (h : w.grownBy w1 (some g)) (k : w1.grownBy w2 (some p)) (hp : w.heap.size ≤ p) : w.grownBy w2 (some g) :=
  ⟨k.os.trans h.os, k.tape.trans h.tape, k.output.trans h.output, Nat.le_trans h.size k.size, fun i hi hne => (k.block i (Nat.lt_of_lt_of_le hi h.size) (fun e => by injection e with e; omega)).trans (h.block i hi hne)⟩
theorem Rd.oldlt {t : TypeId} {w : World} {g c : Nat} {A : Option Addr} {zs : List Int} {a : Nat} {bad : Bool} (h : Rd t w g A c zs a bad) (h0 : 0 < zs.length) : ∀ ad, A = some ad → ad.block < w.heap.size := fun ad e => by
  obtain ⟨ad', e', hc⟩ := h.2.1.2.2.1 h0
  rw [e] at e'
  injection e' with e'
  subst e'
  have := World.block_lt_of_cell? w _ (hc 0 h0)
  rwa [block_of_add] at this
theorem ritems_len (zs : List Int) (n : Nat) : ∀ (a : Nat) (bad : Bool), (ritems zs n a bad).1.length ≤ n := by
  induction n with
  | zero => intro a bad; simp [ritems]
  | succ n ih =>
    intro a bad
    simp only [ritems]
    split
    · simp
    · simp only [List.length_cons]
      exact Nat.succ_le_succ (ih _ _)
theorem setRow_grown (w : World) (p : Nat) (cs : Array Value) : w.grownBy (w.setRow p cs) (some p) :=
  ⟨rfl, rfl, rfl, by rw [setRow_size]; exact Nat.le_refl _, fun i hi hne => setRow_other w p i cs (fun e => hne (by rw [e]))⟩
/-- A Reply has been read. -/
def RdReplyQ (w : World) (g : Nat) (A : Option Addr) (c : Nat) (zs : List Int) (sl q sh sq wk ep : Int) (xs : List (Int × ByteArray)) (en : Bool) (a : Nat) (bad : Bool) (e : Ending) (w' : World) : Prop :=
  ∃ A2 c2 W, e = .returned (.agg #[.int .i64 4, .int .i64 0, .int .i64 0, .int .i64 0, .int .i64 0, .int .i64 0, .int .i64 0, .int .i64 0, .int .i64 0, .int .i64 0, .int .i64 0, .string ⟨#[]⟩, .int .i64 0, .int .i64 0, .bool false, .int .i64 0, .string ⟨#[]⟩, .int .i64 sl, .int .i64 q, .int .i64 sh, .int .i64 sq, .int .i64 wk, .int .i64 ep, .slice A2 xs.length c2, .bool en, .int .i64 0, .int .i64 0]) ∧ W = w' ∧ Rd 103 W g A c zs a bad ∧ XReads W A2 xs.length xs ∧ (∀ ad, A2 = some ad → w.heap.size ≤ ad.block) ∧ w.grownBy W (some g)
theorem ritems_bound {zs : List Int} (hz : ∀ z, z ∈ zs → 0 ≤ z ∧ z < 256) (n : Nat) : ∀ {a a' : Nat} {bad b' : Bool} {xs : List (Int × ByteArray)}, ritems zs n a bad = (xs, a', b') → a ≤ zs.length → a' ≤ zs.length := by
  induction n with
  | zero =>
    intro a a' bad b' xs h ha
    simp only [ritems] at h
    injection h with _ h
    injection h with h _
    omega
  | succ n ih =>
    intro a a' bad b' xs h ha
    simp only [ritems] at h
    split at h
    · injection h with _ h
      injection h with h _
      omega
    · injection h with _ h
      exact ih (xs := (ritems zs n (ritem zs a bad).2.1 (ritem zs a bad).2.2).1) (a := (ritem zs a bad).2.1) (bad := (ritem zs a bad).2.2) (by rw [← h]) (ritem_bound hz (v := (ritem zs a bad).1) (b' := (ritem zs a bad).2.2) rfl ha)
set_option maxHeartbeats 8000000 in
theorem qread_ask (g : Nat) (A : Option Addr) (c : Nat) (zs : List Int) (a : Nat) (bad : Bool) (sl : Int) (a1 : Nat) (b1 : Bool) (q : Int) (a2 : Nat) (b2 : Bool) (sh : Int) (a3 : Nat) (b3 : Bool) (sq : Int) (a4 : Nat) (b4 : Bool) (ep : Int) (a5 : Nat) (b5 : Bool) (t : ByteArray) (a6 : Nat) (b6 : Bool) (k : Int) (a7 : Nat) (b7 : Bool) (bt : Int) (a8 : Nat) (b8 : Bool) (f : Int) (a9 : Nat) (b9 : Bool) (d : Int) (a10 : Nat) (b10 : Bool) (s : ByteArray) (a11 : Nat) (b11 : Bool) (w : World) (h : Rd 103 w g A c zs a bad) (h0 : 0 < zs.length) (ha : a ≤ zs.length) (h1 : rnum zs a bad 4 = (sl, a1, b1)) (h2 : rnum zs a1 b1 4 = (q, a2, b2)) (h3 : rnum zs a2 b2 4 = (sh, a3, b3)) (h4 : rnum zs a3 b3 4 = (sq, a4, b4)) (h5 : rnum zs a4 b4 4 = (ep, a5, b5)) (h6 : rtext zs a5 b5 = (t, a6, b6)) (h7 : rnum zs a6 b6 1 = (k, a7, b7)) (h8 : rnum zs a7 b7 1 = (bt, a8, b8)) (h9 : rnum zs a8 b8 1 = (f, a9, b9)) (h10 : rnum zs a9 b9 1 = (d, a10, b10)) (h11 : rtext zs a10 b10 = (s, a11, b11)) :
    Calls Try.prog 58 #[.pointer (some ⟨g, 0, none⟩), .int .i64 3] w (RdTo 103 w g A c zs (.agg #[.int .i64 3, .int .i64 0, .int .i64 0, .int .i64 0, .int .i64 0, .int .i64 0, .int .i64 sl, .int .i64 q, .int .i64 sh, .int .i64 sq, .int .i64 ep, .string t, .int .i64 k, .int .i64 bt, .bool (f == 1), .int .i64 d, .string s, .int .i64 0, .int .i64 0, .int .i64 0, .int .i64 0, .int .i64 0, .int .i64 0, .slice none 0 0, .bool false, .int .i64 0, .int .i64 0]) a11 b11) := by
  have hgl : g < w.heap.size := h.lt
  have hgk : g ≠ w.heap.size + 1 := by omega
  have hkg : ¬ w.heap.size + 1 = g := by omega
  have hkr : ¬ w.heap.size = g := by omega
  have hrk : w.heap.size ≠ w.heap.size + 1 := by omega
  have HA := Lib.hid (h.past h0)
  have HA0 := Lib.hid (h.old h0)
  have H0 := Lib.hid h
  have HST := Lib.hid (qstart h #[.int .i64 3, .int .i64 0, .int .i64 0, .int .i64 0, .int .i64 0, .int .i64 0, .int .i64 0, .int .i64 0, .int .i64 0, .int .i64 0, .int .i64 0, .string ⟨#[]⟩, .int .i64 0, .int .i64 0, .bool false, .int .i64 0, .string ⟨#[]⟩, .int .i64 0, .int .i64 0, .int .i64 0, .int .i64 0, .int .i64 0, .int .i64 0, .slice none 0 0, .bool false, .int .i64 0, .int .i64 0])
  have KST := Lib.hid (kst w)
  have HALT := Lib.hid (h.oldlt h0)
  have ha1 : a1 ≤ zs.length := rnum_bound h1 ha
  have X1 := Lib.hid h1
  have ha2 : a2 ≤ zs.length := rnum_bound h2 ha1
  have X2 := Lib.hid h2
  have ha3 : a3 ≤ zs.length := rnum_bound h3 ha2
  have X3 := Lib.hid h3
  have ha4 : a4 ≤ zs.length := rnum_bound h4 ha3
  have X4 := Lib.hid h4
  have ha5 : a5 ≤ zs.length := rnum_bound h5 ha4
  have X5 := Lib.hid h5
  have ha6 : a6 ≤ zs.length := (rtext_bound h.range h6 ha5).1
  have X6 := Lib.hid h6
  have ha7 : a7 ≤ zs.length := rnum_bound h7 ha6
  have X7 := Lib.hid h7
  have ha8 : a8 ≤ zs.length := rnum_bound h8 ha7
  have X8 := Lib.hid h8
  have ha9 : a9 ≤ zs.length := rnum_bound h9 ha8
  have X9 := Lib.hid h9
  have ha10 : a10 ≤ zs.length := rnum_bound h10 ha9
  have X10 := Lib.hid h10
  have ha11 : a11 ≤ zs.length := (rtext_bound h.range h11 ha10).1
  have X11 := Lib.hid h11
  have E4 : Hid ((4 : Int) = ((4 : Nat) : Int)) := rfl
  have E1 : Hid ((1 : Int) = ((1 : Nat) : Int)) := rfl
  clear h h1 h2 h3 h4 h5 h6 h7 h8 h9 h10 h11
  go_enter Try.func58, Try.ntmps58
  go_wp2_with (first
    | (have KST_ := KST.out; clear KST; refine wpList_store_row rfl 46 (.tmp 5) (.tmp 9) rfl (w.heap.size + 1) #[.int .i64 3, .int .i64 0, .int .i64 0, .int .i64 0, .int .i64 0, .int .i64 0, .int .i64 0, .int .i64 0, .int .i64 0, .int .i64 0, .int .i64 0, .string ⟨#[]⟩, .int .i64 0, .int .i64 0, .bool false, .int .i64 0, .string ⟨#[]⟩, .int .i64 0, .int .i64 0, .int .i64 0, .int .i64 0, .int .i64 0, .int .i64 0, .slice none 0 0, .bool false, .int .i64 0, .int .i64 0] rfl rfl 46 _ KST_ (by kernel_rfl) (by kernel_rfl) (by kernel_rfl) ?_; have HF := HST.out; revert HF; generalize World.setRow _ _ _ = w0; intro HF; have HR0 : Hid (Rd 103 w0 g A c zs a bad) := HF.1; have HZ0 : Hid (Blk w0 w.heap.size 46 #[.int .i64 0, .int .i64 0, .int .i64 0, .int .i64 0, .int .i64 0, .int .i64 0, .int .i64 0, .int .i64 0, .int .i64 0, .int .i64 0, .int .i64 0, .string ⟨#[]⟩, .int .i64 0, .int .i64 0, .bool false, .int .i64 0, .string ⟨#[]⟩, .int .i64 0, .int .i64 0, .int .i64 0, .int .i64 0, .int .i64 0, .int .i64 0, .slice none 0 0, .bool false, .int .i64 0, .int .i64 0]) := HF.2.1; have HB0 : Hid (Blk w0 (w.heap.size + 1) 46 #[.int .i64 3, .int .i64 0, .int .i64 0, .int .i64 0, .int .i64 0, .int .i64 0, .int .i64 0, .int .i64 0, .int .i64 0, .int .i64 0, .int .i64 0, .string ⟨#[]⟩, .int .i64 0, .int .i64 0, .bool false, .int .i64 0, .string ⟨#[]⟩, .int .i64 0, .int .i64 0, .int .i64 0, .int .i64 0, .int .i64 0, .int .i64 0, .slice none 0 0, .bool false, .int .i64 0, .int .i64 0]) := HF.2.2.1; have HG0 : Hid (w.grownBy w0 (some g)) := HF.2.2.2.1; have HS0 : Hid (w0.heap.size = w.heap.size + 2) := HF.2.2.2.2; clear HF; have hga : g ≠ w0.heap.size := (by have := HS0.out; omega); have hag : ¬ w0.heap.size = g := (by have := HS0.out; omega); have hra : w.heap.size ≠ w0.heap.size := (by have := HS0.out; omega); have hma : w.heap.size + 1 ≠ w0.heap.size := (by have := HS0.out; omega); have ham : w0.heap.size ≠ w.heap.size + 1 := (by have := HS0.out; omega); have har : w0.heap.size ≠ w.heap.size := (by have := HS0.out; omega); have HLE : Hid (w.heap.size ≤ w0.heap.size) := (by have := HS0.out; unfold Hid; omega); have HAa : Hid (∀ ad, A = some ad → ad.block ≠ w0.heap.size) := (fun ad e => by have h1 := HALT.out ad e; have := HS0.out; omega); have HP0s : Hid (Blk (w0.alloc (.cells #[.int .i64 0, .int .i64 0, .int .i64 0, .int .i64 0, .int .i64 0, .string ⟨#[]⟩, .int .i64 0, .int .i64 0, .bool false, .int .i64 0, .string ⟨#[]⟩] 29)) w0.heap.size 29 #[.int .i64 0, .int .i64 0, .int .i64 0, .int .i64 0, .int .i64 0, .string ⟨#[]⟩, .int .i64 0, .int .i64 0, .bool false, .int .i64 0, .string ⟨#[]⟩]) := Blk.new _ _ _; have HR0s : Hid (Rd 103 (w0.alloc (.cells #[.int .i64 0, .int .i64 0, .int .i64 0, .int .i64 0, .int .i64 0, .string ⟨#[]⟩, .int .i64 0, .int .i64 0, .bool false, .int .i64 0, .string ⟨#[]⟩] 29)) g A c zs a bad) := HR0.out.below (bel_alloc _ _); have HB0s : Hid (Blk (w0.alloc (.cells #[.int .i64 0, .int .i64 0, .int .i64 0, .int .i64 0, .int .i64 0, .string ⟨#[]⟩, .int .i64 0, .int .i64 0, .bool false, .int .i64 0, .string ⟨#[]⟩] 29)) (w.heap.size + 1) 46 #[.int .i64 3, .int .i64 0, .int .i64 0, .int .i64 0, .int .i64 0, .int .i64 0, .int .i64 0, .int .i64 0, .int .i64 0, .int .i64 0, .int .i64 0, .string ⟨#[]⟩, .int .i64 0, .int .i64 0, .bool false, .int .i64 0, .string ⟨#[]⟩, .int .i64 0, .int .i64 0, .int .i64 0, .int .i64 0, .int .i64 0, .int .i64 0, .slice none 0 0, .bool false, .int .i64 0, .int .i64 0]) := Blk.alloc HB0.out _; have HZ0s : Hid (Blk (w0.alloc (.cells #[.int .i64 0, .int .i64 0, .int .i64 0, .int .i64 0, .int .i64 0, .string ⟨#[]⟩, .int .i64 0, .int .i64 0, .bool false, .int .i64 0, .string ⟨#[]⟩] 29)) w.heap.size 46 #[.int .i64 0, .int .i64 0, .int .i64 0, .int .i64 0, .int .i64 0, .int .i64 0, .int .i64 0, .int .i64 0, .int .i64 0, .int .i64 0, .int .i64 0, .string ⟨#[]⟩, .int .i64 0, .int .i64 0, .bool false, .int .i64 0, .string ⟨#[]⟩, .int .i64 0, .int .i64 0, .int .i64 0, .int .i64 0, .int .i64 0, .int .i64 0, .slice none 0 0, .bool false, .int .i64 0, .int .i64 0]) := Blk.alloc HZ0.out _; have HG0s : Hid (w.grownBy (w0.alloc (.cells #[.int .i64 0, .int .i64 0, .int .i64 0, .int .i64 0, .int .i64 0, .string ⟨#[]⟩, .int .i64 0, .int .i64 0, .bool false, .int .i64 0, .string ⟨#[]⟩] 29)) (some g)) := only_trans HG0.out (only_of_below (bel_alloc _ _) (some g)) (fun q hq => by injection hq with hq; subst hq; exact hgl))
    | (go_at_call 76; (with_reducible refine (qnum_any g A c zs a bad 4 _ sl a1 b1 _ HR0s.out E4.out (by omega) ha X1.out).mono ?_); rintro e w' ⟨w1, rfl, rfl, r1, g1⟩; have HR1 := Lib.hid r1; have HG1 := Lib.hid (only_trans HG0s.out g1 (fun q hq => by injection hq with hq; subst hq; exact hgl)); have HP1 := Lib.hid (HP0s.out.grown g1 (by intro e; injection e with e; exact hag e)); have HB1 := Lib.hid (HB0s.out.grown g1 (by intro e; injection e with e; exact hkg e)); have HZ1 := Lib.hid (HZ0s.out.grown g1 (by intro e; injection e with e; exact hkr e)); clear r1 g1; have c1_ : w1.cell? ⟨w0.heap.size, 0, none⟩ = some (.int .i64 0) := (HP1.out.cell 0).trans rfl; have f1_ : w1.frozen? ⟨w0.heap.size, 0, none⟩ = false := HP1.out.frozen 0; have HR1s : Hid (Rd 103 (w1.setCell ⟨w0.heap.size, 0, none⟩ (.int .i64 sl)) g A c zs a1 b1) := Rd.far HR1.out ⟨w0.heap.size, 0, none⟩ (.int .i64 sl) hga HAa.out; have HP1s : Hid (Blk (w1.setCell ⟨w0.heap.size, 0, none⟩ (.int .i64 sl)) w0.heap.size 29 #[.int .i64 sl, .int .i64 0, .int .i64 0, .int .i64 0, .int .i64 0, .string ⟨#[]⟩, .int .i64 0, .int .i64 0, .bool false, .int .i64 0, .string ⟨#[]⟩]) := Blk.set_ HP1.out 0 (.int .i64 sl); have HB1s : Hid (Blk (w1.setCell ⟨w0.heap.size, 0, none⟩ (.int .i64 sl)) (w.heap.size + 1) 46 #[.int .i64 3, .int .i64 0, .int .i64 0, .int .i64 0, .int .i64 0, .int .i64 0, .int .i64 0, .int .i64 0, .int .i64 0, .int .i64 0, .int .i64 0, .string ⟨#[]⟩, .int .i64 0, .int .i64 0, .bool false, .int .i64 0, .string ⟨#[]⟩, .int .i64 0, .int .i64 0, .int .i64 0, .int .i64 0, .int .i64 0, .int .i64 0, .slice none 0 0, .bool false, .int .i64 0, .int .i64 0]) := Blk.far HB1.out (p := ⟨w0.heap.size, 0, none⟩) hma (.int .i64 sl); have HZ1s : Hid (Blk (w1.setCell ⟨w0.heap.size, 0, none⟩ (.int .i64 sl)) w.heap.size 46 #[.int .i64 0, .int .i64 0, .int .i64 0, .int .i64 0, .int .i64 0, .int .i64 0, .int .i64 0, .int .i64 0, .int .i64 0, .int .i64 0, .int .i64 0, .string ⟨#[]⟩, .int .i64 0, .int .i64 0, .bool false, .int .i64 0, .string ⟨#[]⟩, .int .i64 0, .int .i64 0, .int .i64 0, .int .i64 0, .int .i64 0, .int .i64 0, .slice none 0 0, .bool false, .int .i64 0, .int .i64 0]) := Blk.far HZ1.out (p := ⟨w0.heap.size, 0, none⟩) hra (.int .i64 sl); have HG1s : Hid (w.grownBy (w1.setCell ⟨w0.heap.size, 0, none⟩ (.int .i64 sl)) (some g)) := only_setCell HG1.out (.inr HLE.out) (.int .i64 sl))
    | (go_at_call 76; (with_reducible refine (qnum_any g A c zs a1 b1 4 _ q a2 b2 _ HR1s.out E4.out (by omega) ha1 X2.out).mono ?_); rintro e w' ⟨w2, rfl, rfl, r2, g2⟩; have HR2 := Lib.hid r2; have HG2 := Lib.hid (only_trans HG1s.out g2 (fun q hq => by injection hq with hq; subst hq; exact hgl)); have HP2 := Lib.hid (HP1s.out.grown g2 (by intro e; injection e with e; exact hag e)); have HB2 := Lib.hid (HB1s.out.grown g2 (by intro e; injection e with e; exact hkg e)); have HZ2 := Lib.hid (HZ1s.out.grown g2 (by intro e; injection e with e; exact hkr e)); clear r2 g2; have c2_ : w2.cell? ⟨w0.heap.size, 1, none⟩ = some (.int .i64 0) := (HP2.out.cell 1).trans rfl; have f2_ : w2.frozen? ⟨w0.heap.size, 1, none⟩ = false := HP2.out.frozen 1; have HR2s : Hid (Rd 103 (w2.setCell ⟨w0.heap.size, 1, none⟩ (.int .i64 q)) g A c zs a2 b2) := Rd.far HR2.out ⟨w0.heap.size, 1, none⟩ (.int .i64 q) hga HAa.out; have HP2s : Hid (Blk (w2.setCell ⟨w0.heap.size, 1, none⟩ (.int .i64 q)) w0.heap.size 29 #[.int .i64 sl, .int .i64 q, .int .i64 0, .int .i64 0, .int .i64 0, .string ⟨#[]⟩, .int .i64 0, .int .i64 0, .bool false, .int .i64 0, .string ⟨#[]⟩]) := Blk.set_ HP2.out 1 (.int .i64 q); have HB2s : Hid (Blk (w2.setCell ⟨w0.heap.size, 1, none⟩ (.int .i64 q)) (w.heap.size + 1) 46 #[.int .i64 3, .int .i64 0, .int .i64 0, .int .i64 0, .int .i64 0, .int .i64 0, .int .i64 0, .int .i64 0, .int .i64 0, .int .i64 0, .int .i64 0, .string ⟨#[]⟩, .int .i64 0, .int .i64 0, .bool false, .int .i64 0, .string ⟨#[]⟩, .int .i64 0, .int .i64 0, .int .i64 0, .int .i64 0, .int .i64 0, .int .i64 0, .slice none 0 0, .bool false, .int .i64 0, .int .i64 0]) := Blk.far HB2.out (p := ⟨w0.heap.size, 1, none⟩) hma (.int .i64 q); have HZ2s : Hid (Blk (w2.setCell ⟨w0.heap.size, 1, none⟩ (.int .i64 q)) w.heap.size 46 #[.int .i64 0, .int .i64 0, .int .i64 0, .int .i64 0, .int .i64 0, .int .i64 0, .int .i64 0, .int .i64 0, .int .i64 0, .int .i64 0, .int .i64 0, .string ⟨#[]⟩, .int .i64 0, .int .i64 0, .bool false, .int .i64 0, .string ⟨#[]⟩, .int .i64 0, .int .i64 0, .int .i64 0, .int .i64 0, .int .i64 0, .int .i64 0, .slice none 0 0, .bool false, .int .i64 0, .int .i64 0]) := Blk.far HZ2.out (p := ⟨w0.heap.size, 1, none⟩) hra (.int .i64 q); have HG2s : Hid (w.grownBy (w2.setCell ⟨w0.heap.size, 1, none⟩ (.int .i64 q)) (some g)) := only_setCell HG2.out (.inr HLE.out) (.int .i64 q))
    | (go_at_call 76; (with_reducible refine (qnum_any g A c zs a2 b2 4 _ sh a3 b3 _ HR2s.out E4.out (by omega) ha2 X3.out).mono ?_); rintro e w' ⟨w3, rfl, rfl, r3, g3⟩; have HR3 := Lib.hid r3; have HG3 := Lib.hid (only_trans HG2s.out g3 (fun q hq => by injection hq with hq; subst hq; exact hgl)); have HP3 := Lib.hid (HP2s.out.grown g3 (by intro e; injection e with e; exact hag e)); have HB3 := Lib.hid (HB2s.out.grown g3 (by intro e; injection e with e; exact hkg e)); have HZ3 := Lib.hid (HZ2s.out.grown g3 (by intro e; injection e with e; exact hkr e)); clear r3 g3; have c3_ : w3.cell? ⟨w0.heap.size, 2, none⟩ = some (.int .i64 0) := (HP3.out.cell 2).trans rfl; have f3_ : w3.frozen? ⟨w0.heap.size, 2, none⟩ = false := HP3.out.frozen 2; have HR3s : Hid (Rd 103 (w3.setCell ⟨w0.heap.size, 2, none⟩ (.int .i64 sh)) g A c zs a3 b3) := Rd.far HR3.out ⟨w0.heap.size, 2, none⟩ (.int .i64 sh) hga HAa.out; have HP3s : Hid (Blk (w3.setCell ⟨w0.heap.size, 2, none⟩ (.int .i64 sh)) w0.heap.size 29 #[.int .i64 sl, .int .i64 q, .int .i64 sh, .int .i64 0, .int .i64 0, .string ⟨#[]⟩, .int .i64 0, .int .i64 0, .bool false, .int .i64 0, .string ⟨#[]⟩]) := Blk.set_ HP3.out 2 (.int .i64 sh); have HB3s : Hid (Blk (w3.setCell ⟨w0.heap.size, 2, none⟩ (.int .i64 sh)) (w.heap.size + 1) 46 #[.int .i64 3, .int .i64 0, .int .i64 0, .int .i64 0, .int .i64 0, .int .i64 0, .int .i64 0, .int .i64 0, .int .i64 0, .int .i64 0, .int .i64 0, .string ⟨#[]⟩, .int .i64 0, .int .i64 0, .bool false, .int .i64 0, .string ⟨#[]⟩, .int .i64 0, .int .i64 0, .int .i64 0, .int .i64 0, .int .i64 0, .int .i64 0, .slice none 0 0, .bool false, .int .i64 0, .int .i64 0]) := Blk.far HB3.out (p := ⟨w0.heap.size, 2, none⟩) hma (.int .i64 sh); have HZ3s : Hid (Blk (w3.setCell ⟨w0.heap.size, 2, none⟩ (.int .i64 sh)) w.heap.size 46 #[.int .i64 0, .int .i64 0, .int .i64 0, .int .i64 0, .int .i64 0, .int .i64 0, .int .i64 0, .int .i64 0, .int .i64 0, .int .i64 0, .int .i64 0, .string ⟨#[]⟩, .int .i64 0, .int .i64 0, .bool false, .int .i64 0, .string ⟨#[]⟩, .int .i64 0, .int .i64 0, .int .i64 0, .int .i64 0, .int .i64 0, .int .i64 0, .slice none 0 0, .bool false, .int .i64 0, .int .i64 0]) := Blk.far HZ3.out (p := ⟨w0.heap.size, 2, none⟩) hra (.int .i64 sh); have HG3s : Hid (w.grownBy (w3.setCell ⟨w0.heap.size, 2, none⟩ (.int .i64 sh)) (some g)) := only_setCell HG3.out (.inr HLE.out) (.int .i64 sh))
    | (go_at_call 76; (with_reducible refine (qnum_any g A c zs a3 b3 4 _ sq a4 b4 _ HR3s.out E4.out (by omega) ha3 X4.out).mono ?_); rintro e w' ⟨w4, rfl, rfl, r4, g4⟩; have HR4 := Lib.hid r4; have HG4 := Lib.hid (only_trans HG3s.out g4 (fun q hq => by injection hq with hq; subst hq; exact hgl)); have HP4 := Lib.hid (HP3s.out.grown g4 (by intro e; injection e with e; exact hag e)); have HB4 := Lib.hid (HB3s.out.grown g4 (by intro e; injection e with e; exact hkg e)); have HZ4 := Lib.hid (HZ3s.out.grown g4 (by intro e; injection e with e; exact hkr e)); clear r4 g4; have c4_ : w4.cell? ⟨w0.heap.size, 3, none⟩ = some (.int .i64 0) := (HP4.out.cell 3).trans rfl; have f4_ : w4.frozen? ⟨w0.heap.size, 3, none⟩ = false := HP4.out.frozen 3; have HR4s : Hid (Rd 103 (w4.setCell ⟨w0.heap.size, 3, none⟩ (.int .i64 sq)) g A c zs a4 b4) := Rd.far HR4.out ⟨w0.heap.size, 3, none⟩ (.int .i64 sq) hga HAa.out; have HP4s : Hid (Blk (w4.setCell ⟨w0.heap.size, 3, none⟩ (.int .i64 sq)) w0.heap.size 29 #[.int .i64 sl, .int .i64 q, .int .i64 sh, .int .i64 sq, .int .i64 0, .string ⟨#[]⟩, .int .i64 0, .int .i64 0, .bool false, .int .i64 0, .string ⟨#[]⟩]) := Blk.set_ HP4.out 3 (.int .i64 sq); have HB4s : Hid (Blk (w4.setCell ⟨w0.heap.size, 3, none⟩ (.int .i64 sq)) (w.heap.size + 1) 46 #[.int .i64 3, .int .i64 0, .int .i64 0, .int .i64 0, .int .i64 0, .int .i64 0, .int .i64 0, .int .i64 0, .int .i64 0, .int .i64 0, .int .i64 0, .string ⟨#[]⟩, .int .i64 0, .int .i64 0, .bool false, .int .i64 0, .string ⟨#[]⟩, .int .i64 0, .int .i64 0, .int .i64 0, .int .i64 0, .int .i64 0, .int .i64 0, .slice none 0 0, .bool false, .int .i64 0, .int .i64 0]) := Blk.far HB4.out (p := ⟨w0.heap.size, 3, none⟩) hma (.int .i64 sq); have HZ4s : Hid (Blk (w4.setCell ⟨w0.heap.size, 3, none⟩ (.int .i64 sq)) w.heap.size 46 #[.int .i64 0, .int .i64 0, .int .i64 0, .int .i64 0, .int .i64 0, .int .i64 0, .int .i64 0, .int .i64 0, .int .i64 0, .int .i64 0, .int .i64 0, .string ⟨#[]⟩, .int .i64 0, .int .i64 0, .bool false, .int .i64 0, .string ⟨#[]⟩, .int .i64 0, .int .i64 0, .int .i64 0, .int .i64 0, .int .i64 0, .int .i64 0, .slice none 0 0, .bool false, .int .i64 0, .int .i64 0]) := Blk.far HZ4.out (p := ⟨w0.heap.size, 3, none⟩) hra (.int .i64 sq); have HG4s : Hid (w.grownBy (w4.setCell ⟨w0.heap.size, 3, none⟩ (.int .i64 sq)) (some g)) := only_setCell HG4.out (.inr HLE.out) (.int .i64 sq))
    | (go_at_call 76; (with_reducible refine (qnum_any g A c zs a4 b4 4 _ ep a5 b5 _ HR4s.out E4.out (by omega) ha4 X5.out).mono ?_); rintro e w' ⟨w5, rfl, rfl, r5, g5⟩; have HR5 := Lib.hid r5; have HG5 := Lib.hid (only_trans HG4s.out g5 (fun q hq => by injection hq with hq; subst hq; exact hgl)); have HP5 := Lib.hid (HP4s.out.grown g5 (by intro e; injection e with e; exact hag e)); have HB5 := Lib.hid (HB4s.out.grown g5 (by intro e; injection e with e; exact hkg e)); have HZ5 := Lib.hid (HZ4s.out.grown g5 (by intro e; injection e with e; exact hkr e)); clear r5 g5; have c5_ : w5.cell? ⟨w0.heap.size, 4, none⟩ = some (.int .i64 0) := (HP5.out.cell 4).trans rfl; have f5_ : w5.frozen? ⟨w0.heap.size, 4, none⟩ = false := HP5.out.frozen 4; have HR5s : Hid (Rd 103 (w5.setCell ⟨w0.heap.size, 4, none⟩ (.int .i64 ep)) g A c zs a5 b5) := Rd.far HR5.out ⟨w0.heap.size, 4, none⟩ (.int .i64 ep) hga HAa.out; have HP5s : Hid (Blk (w5.setCell ⟨w0.heap.size, 4, none⟩ (.int .i64 ep)) w0.heap.size 29 #[.int .i64 sl, .int .i64 q, .int .i64 sh, .int .i64 sq, .int .i64 ep, .string ⟨#[]⟩, .int .i64 0, .int .i64 0, .bool false, .int .i64 0, .string ⟨#[]⟩]) := Blk.set_ HP5.out 4 (.int .i64 ep); have HB5s : Hid (Blk (w5.setCell ⟨w0.heap.size, 4, none⟩ (.int .i64 ep)) (w.heap.size + 1) 46 #[.int .i64 3, .int .i64 0, .int .i64 0, .int .i64 0, .int .i64 0, .int .i64 0, .int .i64 0, .int .i64 0, .int .i64 0, .int .i64 0, .int .i64 0, .string ⟨#[]⟩, .int .i64 0, .int .i64 0, .bool false, .int .i64 0, .string ⟨#[]⟩, .int .i64 0, .int .i64 0, .int .i64 0, .int .i64 0, .int .i64 0, .int .i64 0, .slice none 0 0, .bool false, .int .i64 0, .int .i64 0]) := Blk.far HB5.out (p := ⟨w0.heap.size, 4, none⟩) hma (.int .i64 ep); have HZ5s : Hid (Blk (w5.setCell ⟨w0.heap.size, 4, none⟩ (.int .i64 ep)) w.heap.size 46 #[.int .i64 0, .int .i64 0, .int .i64 0, .int .i64 0, .int .i64 0, .int .i64 0, .int .i64 0, .int .i64 0, .int .i64 0, .int .i64 0, .int .i64 0, .string ⟨#[]⟩, .int .i64 0, .int .i64 0, .bool false, .int .i64 0, .string ⟨#[]⟩, .int .i64 0, .int .i64 0, .int .i64 0, .int .i64 0, .int .i64 0, .int .i64 0, .slice none 0 0, .bool false, .int .i64 0, .int .i64 0]) := Blk.far HZ5.out (p := ⟨w0.heap.size, 4, none⟩) hra (.int .i64 ep); have HG5s : Hid (w.grownBy (w5.setCell ⟨w0.heap.size, 4, none⟩ (.int .i64 ep)) (some g)) := only_setCell HG5.out (.inr HLE.out) (.int .i64 ep))
    | (go_at_call 77; (with_reducible refine (qtext_any g A c zs a5 b5 t a6 b6 _ HR5s.out ha5 X6.out).mono ?_); rintro e w' ⟨w6, rfl, rfl, r6, g6⟩; have HR6 := Lib.hid r6; have HG6 := Lib.hid (only_trans HG5s.out g6 (fun q hq => by injection hq with hq; subst hq; exact hgl)); have HP6 := Lib.hid (HP5s.out.grown g6 (by intro e; injection e with e; exact hag e)); have HB6 := Lib.hid (HB5s.out.grown g6 (by intro e; injection e with e; exact hkg e)); have HZ6 := Lib.hid (HZ5s.out.grown g6 (by intro e; injection e with e; exact hkr e)); clear r6 g6; have c6_ : w6.cell? ⟨w0.heap.size, 5, none⟩ = some (.string ⟨#[]⟩) := (HP6.out.cell 5).trans rfl; have f6_ : w6.frozen? ⟨w0.heap.size, 5, none⟩ = false := HP6.out.frozen 5; have HR6s : Hid (Rd 103 (w6.setCell ⟨w0.heap.size, 5, none⟩ (.string t)) g A c zs a6 b6) := Rd.far HR6.out ⟨w0.heap.size, 5, none⟩ (.string t) hga HAa.out; have HP6s : Hid (Blk (w6.setCell ⟨w0.heap.size, 5, none⟩ (.string t)) w0.heap.size 29 #[.int .i64 sl, .int .i64 q, .int .i64 sh, .int .i64 sq, .int .i64 ep, .string t, .int .i64 0, .int .i64 0, .bool false, .int .i64 0, .string ⟨#[]⟩]) := Blk.set_ HP6.out 5 (.string t); have HB6s : Hid (Blk (w6.setCell ⟨w0.heap.size, 5, none⟩ (.string t)) (w.heap.size + 1) 46 #[.int .i64 3, .int .i64 0, .int .i64 0, .int .i64 0, .int .i64 0, .int .i64 0, .int .i64 0, .int .i64 0, .int .i64 0, .int .i64 0, .int .i64 0, .string ⟨#[]⟩, .int .i64 0, .int .i64 0, .bool false, .int .i64 0, .string ⟨#[]⟩, .int .i64 0, .int .i64 0, .int .i64 0, .int .i64 0, .int .i64 0, .int .i64 0, .slice none 0 0, .bool false, .int .i64 0, .int .i64 0]) := Blk.far HB6.out (p := ⟨w0.heap.size, 5, none⟩) hma (.string t); have HZ6s : Hid (Blk (w6.setCell ⟨w0.heap.size, 5, none⟩ (.string t)) w.heap.size 46 #[.int .i64 0, .int .i64 0, .int .i64 0, .int .i64 0, .int .i64 0, .int .i64 0, .int .i64 0, .int .i64 0, .int .i64 0, .int .i64 0, .int .i64 0, .string ⟨#[]⟩, .int .i64 0, .int .i64 0, .bool false, .int .i64 0, .string ⟨#[]⟩, .int .i64 0, .int .i64 0, .int .i64 0, .int .i64 0, .int .i64 0, .int .i64 0, .slice none 0 0, .bool false, .int .i64 0, .int .i64 0]) := Blk.far HZ6.out (p := ⟨w0.heap.size, 5, none⟩) hra (.string t); have HG6s : Hid (w.grownBy (w6.setCell ⟨w0.heap.size, 5, none⟩ (.string t)) (some g)) := only_setCell HG6.out (.inr HLE.out) (.string t))
    | (go_at_call 76; (with_reducible refine (qnum_any g A c zs a6 b6 1 _ k a7 b7 _ HR6s.out E1.out (by omega) ha6 X7.out).mono ?_); rintro e w' ⟨w7, rfl, rfl, r7, g7⟩; have HR7 := Lib.hid r7; have HG7 := Lib.hid (only_trans HG6s.out g7 (fun q hq => by injection hq with hq; subst hq; exact hgl)); have HP7 := Lib.hid (HP6s.out.grown g7 (by intro e; injection e with e; exact hag e)); have HB7 := Lib.hid (HB6s.out.grown g7 (by intro e; injection e with e; exact hkg e)); have HZ7 := Lib.hid (HZ6s.out.grown g7 (by intro e; injection e with e; exact hkr e)); clear r7 g7; have c7_ : w7.cell? ⟨w0.heap.size, 6, none⟩ = some (.int .i64 0) := (HP7.out.cell 6).trans rfl; have f7_ : w7.frozen? ⟨w0.heap.size, 6, none⟩ = false := HP7.out.frozen 6; have HR7s : Hid (Rd 103 (w7.setCell ⟨w0.heap.size, 6, none⟩ (.int .i64 k)) g A c zs a7 b7) := Rd.far HR7.out ⟨w0.heap.size, 6, none⟩ (.int .i64 k) hga HAa.out; have HP7s : Hid (Blk (w7.setCell ⟨w0.heap.size, 6, none⟩ (.int .i64 k)) w0.heap.size 29 #[.int .i64 sl, .int .i64 q, .int .i64 sh, .int .i64 sq, .int .i64 ep, .string t, .int .i64 k, .int .i64 0, .bool false, .int .i64 0, .string ⟨#[]⟩]) := Blk.set_ HP7.out 6 (.int .i64 k); have HB7s : Hid (Blk (w7.setCell ⟨w0.heap.size, 6, none⟩ (.int .i64 k)) (w.heap.size + 1) 46 #[.int .i64 3, .int .i64 0, .int .i64 0, .int .i64 0, .int .i64 0, .int .i64 0, .int .i64 0, .int .i64 0, .int .i64 0, .int .i64 0, .int .i64 0, .string ⟨#[]⟩, .int .i64 0, .int .i64 0, .bool false, .int .i64 0, .string ⟨#[]⟩, .int .i64 0, .int .i64 0, .int .i64 0, .int .i64 0, .int .i64 0, .int .i64 0, .slice none 0 0, .bool false, .int .i64 0, .int .i64 0]) := Blk.far HB7.out (p := ⟨w0.heap.size, 6, none⟩) hma (.int .i64 k); have HZ7s : Hid (Blk (w7.setCell ⟨w0.heap.size, 6, none⟩ (.int .i64 k)) w.heap.size 46 #[.int .i64 0, .int .i64 0, .int .i64 0, .int .i64 0, .int .i64 0, .int .i64 0, .int .i64 0, .int .i64 0, .int .i64 0, .int .i64 0, .int .i64 0, .string ⟨#[]⟩, .int .i64 0, .int .i64 0, .bool false, .int .i64 0, .string ⟨#[]⟩, .int .i64 0, .int .i64 0, .int .i64 0, .int .i64 0, .int .i64 0, .int .i64 0, .slice none 0 0, .bool false, .int .i64 0, .int .i64 0]) := Blk.far HZ7.out (p := ⟨w0.heap.size, 6, none⟩) hra (.int .i64 k); have HG7s : Hid (w.grownBy (w7.setCell ⟨w0.heap.size, 6, none⟩ (.int .i64 k)) (some g)) := only_setCell HG7.out (.inr HLE.out) (.int .i64 k))
    | (go_at_call 76; (with_reducible refine (qnum_any g A c zs a7 b7 1 _ bt a8 b8 _ HR7s.out E1.out (by omega) ha7 X8.out).mono ?_); rintro e w' ⟨w8, rfl, rfl, r8, g8⟩; have HR8 := Lib.hid r8; have HG8 := Lib.hid (only_trans HG7s.out g8 (fun q hq => by injection hq with hq; subst hq; exact hgl)); have HP8 := Lib.hid (HP7s.out.grown g8 (by intro e; injection e with e; exact hag e)); have HB8 := Lib.hid (HB7s.out.grown g8 (by intro e; injection e with e; exact hkg e)); have HZ8 := Lib.hid (HZ7s.out.grown g8 (by intro e; injection e with e; exact hkr e)); clear r8 g8; have c8_ : w8.cell? ⟨w0.heap.size, 7, none⟩ = some (.int .i64 0) := (HP8.out.cell 7).trans rfl; have f8_ : w8.frozen? ⟨w0.heap.size, 7, none⟩ = false := HP8.out.frozen 7; have HR8s : Hid (Rd 103 (w8.setCell ⟨w0.heap.size, 7, none⟩ (.int .i64 bt)) g A c zs a8 b8) := Rd.far HR8.out ⟨w0.heap.size, 7, none⟩ (.int .i64 bt) hga HAa.out; have HP8s : Hid (Blk (w8.setCell ⟨w0.heap.size, 7, none⟩ (.int .i64 bt)) w0.heap.size 29 #[.int .i64 sl, .int .i64 q, .int .i64 sh, .int .i64 sq, .int .i64 ep, .string t, .int .i64 k, .int .i64 bt, .bool false, .int .i64 0, .string ⟨#[]⟩]) := Blk.set_ HP8.out 7 (.int .i64 bt); have HB8s : Hid (Blk (w8.setCell ⟨w0.heap.size, 7, none⟩ (.int .i64 bt)) (w.heap.size + 1) 46 #[.int .i64 3, .int .i64 0, .int .i64 0, .int .i64 0, .int .i64 0, .int .i64 0, .int .i64 0, .int .i64 0, .int .i64 0, .int .i64 0, .int .i64 0, .string ⟨#[]⟩, .int .i64 0, .int .i64 0, .bool false, .int .i64 0, .string ⟨#[]⟩, .int .i64 0, .int .i64 0, .int .i64 0, .int .i64 0, .int .i64 0, .int .i64 0, .slice none 0 0, .bool false, .int .i64 0, .int .i64 0]) := Blk.far HB8.out (p := ⟨w0.heap.size, 7, none⟩) hma (.int .i64 bt); have HZ8s : Hid (Blk (w8.setCell ⟨w0.heap.size, 7, none⟩ (.int .i64 bt)) w.heap.size 46 #[.int .i64 0, .int .i64 0, .int .i64 0, .int .i64 0, .int .i64 0, .int .i64 0, .int .i64 0, .int .i64 0, .int .i64 0, .int .i64 0, .int .i64 0, .string ⟨#[]⟩, .int .i64 0, .int .i64 0, .bool false, .int .i64 0, .string ⟨#[]⟩, .int .i64 0, .int .i64 0, .int .i64 0, .int .i64 0, .int .i64 0, .int .i64 0, .slice none 0 0, .bool false, .int .i64 0, .int .i64 0]) := Blk.far HZ8.out (p := ⟨w0.heap.size, 7, none⟩) hra (.int .i64 bt); have HG8s : Hid (w.grownBy (w8.setCell ⟨w0.heap.size, 7, none⟩ (.int .i64 bt)) (some g)) := only_setCell HG8.out (.inr HLE.out) (.int .i64 bt))
    | (go_at_call 76; (with_reducible refine (qnum_any g A c zs a8 b8 1 _ f a9 b9 _ HR8s.out E1.out (by omega) ha8 X9.out).mono ?_); rintro e w' ⟨w9, rfl, rfl, r9, g9⟩; have HR9 := Lib.hid r9; have HG9 := Lib.hid (only_trans HG8s.out g9 (fun q hq => by injection hq with hq; subst hq; exact hgl)); have HP9 := Lib.hid (HP8s.out.grown g9 (by intro e; injection e with e; exact hag e)); have HB9 := Lib.hid (HB8s.out.grown g9 (by intro e; injection e with e; exact hkg e)); have HZ9 := Lib.hid (HZ8s.out.grown g9 (by intro e; injection e with e; exact hkr e)); clear r9 g9; have c9_ : w9.cell? ⟨w0.heap.size, 8, none⟩ = some (.bool false) := (HP9.out.cell 8).trans rfl; have f9_ : w9.frozen? ⟨w0.heap.size, 8, none⟩ = false := HP9.out.frozen 8; have HR9s : Hid (Rd 103 (w9.setCell ⟨w0.heap.size, 8, none⟩ (.bool (f == 1))) g A c zs a9 b9) := Rd.far HR9.out ⟨w0.heap.size, 8, none⟩ (.bool (f == 1)) hga HAa.out; have HP9s : Hid (Blk (w9.setCell ⟨w0.heap.size, 8, none⟩ (.bool (f == 1))) w0.heap.size 29 #[.int .i64 sl, .int .i64 q, .int .i64 sh, .int .i64 sq, .int .i64 ep, .string t, .int .i64 k, .int .i64 bt, .bool (f == 1), .int .i64 0, .string ⟨#[]⟩]) := Blk.set_ HP9.out 8 (.bool (f == 1)); have HB9s : Hid (Blk (w9.setCell ⟨w0.heap.size, 8, none⟩ (.bool (f == 1))) (w.heap.size + 1) 46 #[.int .i64 3, .int .i64 0, .int .i64 0, .int .i64 0, .int .i64 0, .int .i64 0, .int .i64 0, .int .i64 0, .int .i64 0, .int .i64 0, .int .i64 0, .string ⟨#[]⟩, .int .i64 0, .int .i64 0, .bool false, .int .i64 0, .string ⟨#[]⟩, .int .i64 0, .int .i64 0, .int .i64 0, .int .i64 0, .int .i64 0, .int .i64 0, .slice none 0 0, .bool false, .int .i64 0, .int .i64 0]) := Blk.far HB9.out (p := ⟨w0.heap.size, 8, none⟩) hma (.bool (f == 1)); have HZ9s : Hid (Blk (w9.setCell ⟨w0.heap.size, 8, none⟩ (.bool (f == 1))) w.heap.size 46 #[.int .i64 0, .int .i64 0, .int .i64 0, .int .i64 0, .int .i64 0, .int .i64 0, .int .i64 0, .int .i64 0, .int .i64 0, .int .i64 0, .int .i64 0, .string ⟨#[]⟩, .int .i64 0, .int .i64 0, .bool false, .int .i64 0, .string ⟨#[]⟩, .int .i64 0, .int .i64 0, .int .i64 0, .int .i64 0, .int .i64 0, .int .i64 0, .slice none 0 0, .bool false, .int .i64 0, .int .i64 0]) := Blk.far HZ9.out (p := ⟨w0.heap.size, 8, none⟩) hra (.bool (f == 1)); have HG9s : Hid (w.grownBy (w9.setCell ⟨w0.heap.size, 8, none⟩ (.bool (f == 1))) (some g)) := only_setCell HG9.out (.inr HLE.out) (.bool (f == 1)))
    | (go_at_call 76; (with_reducible refine (qnum_any g A c zs a9 b9 1 _ d a10 b10 _ HR9s.out E1.out (by omega) ha9 X10.out).mono ?_); rintro e w' ⟨w10, rfl, rfl, r10, g10⟩; have HR10 := Lib.hid r10; have HG10 := Lib.hid (only_trans HG9s.out g10 (fun q hq => by injection hq with hq; subst hq; exact hgl)); have HP10 := Lib.hid (HP9s.out.grown g10 (by intro e; injection e with e; exact hag e)); have HB10 := Lib.hid (HB9s.out.grown g10 (by intro e; injection e with e; exact hkg e)); have HZ10 := Lib.hid (HZ9s.out.grown g10 (by intro e; injection e with e; exact hkr e)); clear r10 g10; have c10_ : w10.cell? ⟨w0.heap.size, 9, none⟩ = some (.int .i64 0) := (HP10.out.cell 9).trans rfl; have f10_ : w10.frozen? ⟨w0.heap.size, 9, none⟩ = false := HP10.out.frozen 9; have HR10s : Hid (Rd 103 (w10.setCell ⟨w0.heap.size, 9, none⟩ (.int .i64 d)) g A c zs a10 b10) := Rd.far HR10.out ⟨w0.heap.size, 9, none⟩ (.int .i64 d) hga HAa.out; have HP10s : Hid (Blk (w10.setCell ⟨w0.heap.size, 9, none⟩ (.int .i64 d)) w0.heap.size 29 #[.int .i64 sl, .int .i64 q, .int .i64 sh, .int .i64 sq, .int .i64 ep, .string t, .int .i64 k, .int .i64 bt, .bool (f == 1), .int .i64 d, .string ⟨#[]⟩]) := Blk.set_ HP10.out 9 (.int .i64 d); have HB10s : Hid (Blk (w10.setCell ⟨w0.heap.size, 9, none⟩ (.int .i64 d)) (w.heap.size + 1) 46 #[.int .i64 3, .int .i64 0, .int .i64 0, .int .i64 0, .int .i64 0, .int .i64 0, .int .i64 0, .int .i64 0, .int .i64 0, .int .i64 0, .int .i64 0, .string ⟨#[]⟩, .int .i64 0, .int .i64 0, .bool false, .int .i64 0, .string ⟨#[]⟩, .int .i64 0, .int .i64 0, .int .i64 0, .int .i64 0, .int .i64 0, .int .i64 0, .slice none 0 0, .bool false, .int .i64 0, .int .i64 0]) := Blk.far HB10.out (p := ⟨w0.heap.size, 9, none⟩) hma (.int .i64 d); have HZ10s : Hid (Blk (w10.setCell ⟨w0.heap.size, 9, none⟩ (.int .i64 d)) w.heap.size 46 #[.int .i64 0, .int .i64 0, .int .i64 0, .int .i64 0, .int .i64 0, .int .i64 0, .int .i64 0, .int .i64 0, .int .i64 0, .int .i64 0, .int .i64 0, .string ⟨#[]⟩, .int .i64 0, .int .i64 0, .bool false, .int .i64 0, .string ⟨#[]⟩, .int .i64 0, .int .i64 0, .int .i64 0, .int .i64 0, .int .i64 0, .int .i64 0, .slice none 0 0, .bool false, .int .i64 0, .int .i64 0]) := Blk.far HZ10.out (p := ⟨w0.heap.size, 9, none⟩) hra (.int .i64 d); have HG10s : Hid (w.grownBy (w10.setCell ⟨w0.heap.size, 9, none⟩ (.int .i64 d)) (some g)) := only_setCell HG10.out (.inr HLE.out) (.int .i64 d))
    | (go_at_call 77; (with_reducible refine (qtext_any g A c zs a10 b10 s a11 b11 _ HR10s.out ha10 X11.out).mono ?_); rintro e w' ⟨w11, rfl, rfl, r11, g11⟩; have HR11 := Lib.hid r11; have HG11 := Lib.hid (only_trans HG10s.out g11 (fun q hq => by injection hq with hq; subst hq; exact hgl)); have HP11 := Lib.hid (HP10s.out.grown g11 (by intro e; injection e with e; exact hag e)); have HB11 := Lib.hid (HB10s.out.grown g11 (by intro e; injection e with e; exact hkg e)); have HZ11 := Lib.hid (HZ10s.out.grown g11 (by intro e; injection e with e; exact hkr e)); clear r11 g11; have c11_ : w11.cell? ⟨w0.heap.size, 10, none⟩ = some (.string ⟨#[]⟩) := (HP11.out.cell 10).trans rfl; have f11_ : w11.frozen? ⟨w0.heap.size, 10, none⟩ = false := HP11.out.frozen 10; have HR11s : Hid (Rd 103 (w11.setCell ⟨w0.heap.size, 10, none⟩ (.string s)) g A c zs a11 b11) := Rd.far HR11.out ⟨w0.heap.size, 10, none⟩ (.string s) hga HAa.out; have HP11s : Hid (Blk (w11.setCell ⟨w0.heap.size, 10, none⟩ (.string s)) w0.heap.size 29 #[.int .i64 sl, .int .i64 q, .int .i64 sh, .int .i64 sq, .int .i64 ep, .string t, .int .i64 k, .int .i64 bt, .bool (f == 1), .int .i64 d, .string s]) := Blk.set_ HP11.out 10 (.string s); have HB11s : Hid (Blk (w11.setCell ⟨w0.heap.size, 10, none⟩ (.string s)) (w.heap.size + 1) 46 #[.int .i64 3, .int .i64 0, .int .i64 0, .int .i64 0, .int .i64 0, .int .i64 0, .int .i64 0, .int .i64 0, .int .i64 0, .int .i64 0, .int .i64 0, .string ⟨#[]⟩, .int .i64 0, .int .i64 0, .bool false, .int .i64 0, .string ⟨#[]⟩, .int .i64 0, .int .i64 0, .int .i64 0, .int .i64 0, .int .i64 0, .int .i64 0, .slice none 0 0, .bool false, .int .i64 0, .int .i64 0]) := Blk.far HB11.out (p := ⟨w0.heap.size, 10, none⟩) hma (.string s); have HZ11s : Hid (Blk (w11.setCell ⟨w0.heap.size, 10, none⟩ (.string s)) w.heap.size 46 #[.int .i64 0, .int .i64 0, .int .i64 0, .int .i64 0, .int .i64 0, .int .i64 0, .int .i64 0, .int .i64 0, .int .i64 0, .int .i64 0, .int .i64 0, .string ⟨#[]⟩, .int .i64 0, .int .i64 0, .bool false, .int .i64 0, .string ⟨#[]⟩, .int .i64 0, .int .i64 0, .int .i64 0, .int .i64 0, .int .i64 0, .int .i64 0, .slice none 0 0, .bool false, .int .i64 0, .int .i64 0]) := Blk.far HZ11.out (p := ⟨w0.heap.size, 10, none⟩) hra (.string s); have HG11s : Hid (w.grownBy (w11.setCell ⟨w0.heap.size, 10, none⟩ (.string s)) (some g)) := only_setCell HG11.out (.inr HLE.out) (.string s); have HT : Hid ((w11.setCell ⟨w0.heap.size, 10, none⟩ (.string s)).there (w.heap.size + 1) 6 11) := Blk.there HB11s.out 6 11 (by simp); have HRe : Hid (Rd 103 ((w11.setCell ⟨w0.heap.size, 10, none⟩ (.string s)).setCells (w.heap.size + 1) 6 (#[.int .i64 sl, .int .i64 q, .int .i64 sh, .int .i64 sq, .int .i64 ep, .string t, .int .i64 k, .int .i64 bt, .bool (f == 1), .int .i64 d, .string s] : Array Value).toList) g A c zs a11 b11) := Rd.apart HR11s.out (setCells_grown _ _ _ _) hgk HA.out; have HBe : Hid (Blk ((w11.setCell ⟨w0.heap.size, 10, none⟩ (.string s)).setCells (w.heap.size + 1) 6 (#[.int .i64 sl, .int .i64 q, .int .i64 sh, .int .i64 sq, .int .i64 ep, .string t, .int .i64 k, .int .i64 bt, .bool (f == 1), .int .i64 d, .string s] : Array Value).toList) (w.heap.size + 1) 46 #[.int .i64 3, .int .i64 0, .int .i64 0, .int .i64 0, .int .i64 0, .int .i64 0, .int .i64 sl, .int .i64 q, .int .i64 sh, .int .i64 sq, .int .i64 ep, .string t, .int .i64 k, .int .i64 bt, .bool (f == 1), .int .i64 d, .string s, .int .i64 0, .int .i64 0, .int .i64 0, .int .i64 0, .int .i64 0, .int .i64 0, .slice none 0 0, .bool false, .int .i64 0, .int .i64 0]) := Blk.setMid _ HB11s.out 6; have HZe : Hid (Blk ((w11.setCell ⟨w0.heap.size, 10, none⟩ (.string s)).setCells (w.heap.size + 1) 6 (#[.int .i64 sl, .int .i64 q, .int .i64 sh, .int .i64 sq, .int .i64 ep, .string t, .int .i64 k, .int .i64 bt, .bool (f == 1), .int .i64 d, .string s] : Array Value).toList) w.heap.size 46 #[.int .i64 0, .int .i64 0, .int .i64 0, .int .i64 0, .int .i64 0, .int .i64 0, .int .i64 0, .int .i64 0, .int .i64 0, .int .i64 0, .int .i64 0, .string ⟨#[]⟩, .int .i64 0, .int .i64 0, .bool false, .int .i64 0, .string ⟨#[]⟩, .int .i64 0, .int .i64 0, .int .i64 0, .int .i64 0, .int .i64 0, .int .i64 0, .slice none 0 0, .bool false, .int .i64 0, .int .i64 0]) := Blk.grown HZ11s.out (setCells_grown _ _ _ _) (by intro e; injection e with e; exact hrk e); have HGe : Hid (w.grownBy ((w11.setCell ⟨w0.heap.size, 10, none⟩ (.string s)).setCells (w.heap.size + 1) 6 (#[.int .i64 sl, .int .i64 q, .int .i64 sh, .int .i64 sq, .int .i64 ep, .string t, .int .i64 k, .int .i64 bt, .bool (f == 1), .int .i64 d, .string s] : Array Value).toList) (some g)) := only_big HG11s.out (setCells_grown _ _ _ _) (Nat.le_succ _))
    | (have HP2_ := HP11s.out; refine wpList_load_row rfl 29 (.tmp 6) rfl w0.heap.size rfl 29 _ (0, 0) _ HP2_ Try.underlying29 rfl (by kernel_rfl) ?_)
    | (have HT_ := HT.out; refine wpList_store_mid rfl 29 (.tmp 75) (.tmp 74) rfl (w.heap.size + 1) 6 #[.int .i64 sl, .int .i64 q, .int .i64 sh, .int .i64 sq, .int .i64 ep, .string t, .int .i64 k, .int .i64 bt, .bool (f == 1), .int .i64 d, .string s] rfl rfl HT_ (by kernel_rfl) (by kernel_rfl) ?_; revert HRe HBe HZe HGe; generalize World.setCells _ _ _ _ = wz; intro HRe HBe HZe HGe)
    | (have HB2_ : Blk wz _ _ _ := HBe.out; refine wpList_load_row (by rfl) 46 (.tmp 5) (by rfl) (w.heap.size + 1) (by rfl) 46 _ (0, 0) _ HB2_ Try.underlying46 (by rfl) (by kernel_rfl) ?_)
    | (have HZ2_ : Blk wz _ _ _ := HZe.out; refine wpList_store_row (by rfl) 46 (.tmp 4) (.tmp 118) (by rfl) w.heap.size _ (by rfl) (by rfl) 46 _ HZ2_ (by kernel_rfl) (by kernel_rfl) (by kernel_rfl) ?_))
  (try simp only [Exit.inBlock, Exit.then])
  refine bodyPost_ret (results_cell_row rfl _ _ w.heap.size 46 #[.int .i64 3, .int .i64 0, .int .i64 0, .int .i64 0, .int .i64 0, .int .i64 0, .int .i64 sl, .int .i64 q, .int .i64 sh, .int .i64 sq, .int .i64 ep, .string t, .int .i64 k, .int .i64 bt, .bool (f == 1), .int .i64 d, .string s, .int .i64 0, .int .i64 0, .int .i64 0, .int .i64 0, .int .i64 0, .int .i64 0, .slice none 0 0, .bool false, .int .i64 0, .int .i64 0] (0, 0) _ rfl ?_ Try.underlying46 rfl (by kernel_rfl)) rfl ?_
  · exact setRow_heap _ _ _ _ _ _ HZe.out
  · exact ⟨_, rfl, rfl, rd_row HRe.out hkr HA0.out _, only_row HGe.out (Nat.le_refl _) _⟩
set_option maxHeartbeats 16000000 in
theorem qread_reply (g : Nat) (A : Option Addr) (c : Nat) (zs : List Int) (a : Nat) (bad : Bool) (sl : Int) (a1 : Nat) (b1 : Bool) (q : Int) (a2 : Nat) (b2 : Bool) (sh : Int) (a3 : Nat) (b3 : Bool) (sq : Int) (a4 : Nat) (b4 : Bool) (wk : Int) (a5 : Nat) (b5 : Bool) (ep : Int) (a6 : Nat) (b6 : Bool) (cnt : Int) (a7 : Nat) (b7 : Bool) (xs : List (Int × ByteArray)) (a8 : Nat) (b8 : Bool) (en : Int) (a9 : Nat) (b9 : Bool) (w : World) (h : Rd 103 w g A c zs a bad) (h0 : 0 < zs.length) (ha : a ≤ zs.length) (h1 : rnum zs a bad 4 = (sl, a1, b1)) (h2 : rnum zs a1 b1 4 = (q, a2, b2)) (h3 : rnum zs a2 b2 4 = (sh, a3, b3)) (h4 : rnum zs a3 b3 4 = (sq, a4, b4)) (h5 : rnum zs a4 b4 4 = (wk, a5, b5)) (h6 : rnum zs a5 b5 4 = (ep, a6, b6)) (h7 : rnum zs a6 b6 1 = (cnt, a7, b7)) (h8 : ritems zs (cnt).toNat a7 b7 = (xs, a8, b8)) (h9 : rnum zs a8 b8 1 = (en, a9, b9)) :
    Calls Try.prog 58 #[.pointer (some ⟨g, 0, none⟩), .int .i64 4] w (RdReplyQ w g A c zs sl q sh sq wk ep xs (en == 1) a9 b9) := by
  have hgl : g < w.heap.size := h.lt
  have hgk : g ≠ w.heap.size + 1 := by omega
  have hkg : ¬ w.heap.size + 1 = g := by omega
  have hkr : ¬ w.heap.size = g := by omega
  have hrk : w.heap.size ≠ w.heap.size + 1 := by omega
  have HA := Lib.hid (h.past h0)
  have HA0 := Lib.hid (h.old h0)
  have H0 := Lib.hid h
  have HST := Lib.hid (qstart h #[.int .i64 4, .int .i64 0, .int .i64 0, .int .i64 0, .int .i64 0, .int .i64 0, .int .i64 0, .int .i64 0, .int .i64 0, .int .i64 0, .int .i64 0, .string ⟨#[]⟩, .int .i64 0, .int .i64 0, .bool false, .int .i64 0, .string ⟨#[]⟩, .int .i64 0, .int .i64 0, .int .i64 0, .int .i64 0, .int .i64 0, .int .i64 0, .slice none 0 0, .bool false, .int .i64 0, .int .i64 0])
  have KST := Lib.hid (kst w)
  have HALT := Lib.hid (h.oldlt h0)
  have hcr : 0 ≤ cnt ∧ cnt < 256 := by
    unfold rnum at h7
    split at h7
    · injection h7 with h7 _
      rw [← h7]
      exact numI_up zs h.range a6 1 (by omega)
    · injection h7 with h7 _
      omega
  obtain ⟨N, hN⟩ : ∃ N : Nat, cnt = N := ⟨cnt.toNat, by omega⟩
  subst hN
  have hN2 : N ≤ 255 := by omega
  rw [Int.toNat_natCast] at h8
  have HXL : Hid (xs.length ≤ 4611686018427387904) := by
    have := ritems_len zs N a7 b7
    rw [h8] at this
    unfold Hid
    simp only at this
    omega
  have HI8 := Lib.hid h8
  have ha8 : a8 ≤ zs.length := ritems_bound h.range N h8 (rnum_bound h7 (rnum_bound h6 (rnum_bound h5 (rnum_bound h4 (rnum_bound h3 (rnum_bound h2 (rnum_bound h1 ha)))))))
  clear hcr
  have ha1 : a1 ≤ zs.length := rnum_bound h1 ha
  have X1 := Lib.hid h1
  have ha2 : a2 ≤ zs.length := rnum_bound h2 ha1
  have X2 := Lib.hid h2
  have ha3 : a3 ≤ zs.length := rnum_bound h3 ha2
  have X3 := Lib.hid h3
  have ha4 : a4 ≤ zs.length := rnum_bound h4 ha3
  have X4 := Lib.hid h4
  have ha5 : a5 ≤ zs.length := rnum_bound h5 ha4
  have X5 := Lib.hid h5
  have ha6 : a6 ≤ zs.length := rnum_bound h6 ha5
  have X6 := Lib.hid h6
  have ha7 : a7 ≤ zs.length := rnum_bound h7 ha6
  have X7 := Lib.hid h7
  have X8 := Lib.hid h8
  have ha9 : a9 ≤ zs.length := rnum_bound h9 ha8
  have X9 := Lib.hid h9
  have E4 : Hid ((4 : Int) = ((4 : Nat) : Int)) := rfl
  have E1 : Hid ((1 : Int) = ((1 : Nat) : Int)) := rfl
  clear h h1 h2 h3 h4 h5 h6 h7 h8 h9
  go_enter Try.func58, Try.ntmps58
  go_wp2_with (first
    | (have KST_ := KST.out; clear KST; refine wpList_store_row rfl 46 (.tmp 5) (.tmp 9) rfl (w.heap.size + 1) #[.int .i64 4, .int .i64 0, .int .i64 0, .int .i64 0, .int .i64 0, .int .i64 0, .int .i64 0, .int .i64 0, .int .i64 0, .int .i64 0, .int .i64 0, .string ⟨#[]⟩, .int .i64 0, .int .i64 0, .bool false, .int .i64 0, .string ⟨#[]⟩, .int .i64 0, .int .i64 0, .int .i64 0, .int .i64 0, .int .i64 0, .int .i64 0, .slice none 0 0, .bool false, .int .i64 0, .int .i64 0] rfl rfl 46 _ KST_ (by kernel_rfl) (by kernel_rfl) (by kernel_rfl) ?_; have HF := HST.out; revert HF; generalize World.setRow _ _ _ = w0; intro HF; have HR0 : Hid (Rd 103 w0 g A c zs a bad) := HF.1; have HZ0 : Hid (Blk w0 w.heap.size 46 #[.int .i64 0, .int .i64 0, .int .i64 0, .int .i64 0, .int .i64 0, .int .i64 0, .int .i64 0, .int .i64 0, .int .i64 0, .int .i64 0, .int .i64 0, .string ⟨#[]⟩, .int .i64 0, .int .i64 0, .bool false, .int .i64 0, .string ⟨#[]⟩, .int .i64 0, .int .i64 0, .int .i64 0, .int .i64 0, .int .i64 0, .int .i64 0, .slice none 0 0, .bool false, .int .i64 0, .int .i64 0]) := HF.2.1; have HB0 : Hid (Blk w0 (w.heap.size + 1) 46 #[.int .i64 4, .int .i64 0, .int .i64 0, .int .i64 0, .int .i64 0, .int .i64 0, .int .i64 0, .int .i64 0, .int .i64 0, .int .i64 0, .int .i64 0, .string ⟨#[]⟩, .int .i64 0, .int .i64 0, .bool false, .int .i64 0, .string ⟨#[]⟩, .int .i64 0, .int .i64 0, .int .i64 0, .int .i64 0, .int .i64 0, .int .i64 0, .slice none 0 0, .bool false, .int .i64 0, .int .i64 0]) := HF.2.2.1; have HG0 : Hid (w.grownBy w0 (some g)) := HF.2.2.2.1; have HS0 : Hid (w0.heap.size = w.heap.size + 2) := HF.2.2.2.2; clear HF; have hga : g ≠ w0.heap.size := (by have := HS0.out; omega); have hag : ¬ w0.heap.size = g := (by have := HS0.out; omega); have hra : w.heap.size ≠ w0.heap.size := (by have := HS0.out; omega); have hma : w.heap.size + 1 ≠ w0.heap.size := (by have := HS0.out; omega); have ham : w0.heap.size ≠ w.heap.size + 1 := (by have := HS0.out; omega); have har : w0.heap.size ≠ w.heap.size := (by have := HS0.out; omega); have HLE : Hid (w.heap.size ≤ w0.heap.size) := (by have := HS0.out; unfold Hid; omega); have HAa : Hid (∀ ad, A = some ad → ad.block ≠ w0.heap.size) := (fun ad e => by have h1 := HALT.out ad e; have := HS0.out; omega); have HP0s : Hid (Blk (w0.alloc (.cells #[.int .i64 0, .int .i64 0, .int .i64 0, .int .i64 0, .int .i64 0, .int .i64 0, .slice none 0 0, .bool false] 32)) w0.heap.size 32 #[.int .i64 0, .int .i64 0, .int .i64 0, .int .i64 0, .int .i64 0, .int .i64 0, .slice none 0 0, .bool false]) := Blk.new _ _ _; have HR0s : Hid (Rd 103 (w0.alloc (.cells #[.int .i64 0, .int .i64 0, .int .i64 0, .int .i64 0, .int .i64 0, .int .i64 0, .slice none 0 0, .bool false] 32)) g A c zs a bad) := HR0.out.below (bel_alloc _ _); have HB0s : Hid (Blk (w0.alloc (.cells #[.int .i64 0, .int .i64 0, .int .i64 0, .int .i64 0, .int .i64 0, .int .i64 0, .slice none 0 0, .bool false] 32)) (w.heap.size + 1) 46 #[.int .i64 4, .int .i64 0, .int .i64 0, .int .i64 0, .int .i64 0, .int .i64 0, .int .i64 0, .int .i64 0, .int .i64 0, .int .i64 0, .int .i64 0, .string ⟨#[]⟩, .int .i64 0, .int .i64 0, .bool false, .int .i64 0, .string ⟨#[]⟩, .int .i64 0, .int .i64 0, .int .i64 0, .int .i64 0, .int .i64 0, .int .i64 0, .slice none 0 0, .bool false, .int .i64 0, .int .i64 0]) := Blk.alloc HB0.out _; have HZ0s : Hid (Blk (w0.alloc (.cells #[.int .i64 0, .int .i64 0, .int .i64 0, .int .i64 0, .int .i64 0, .int .i64 0, .slice none 0 0, .bool false] 32)) w.heap.size 46 #[.int .i64 0, .int .i64 0, .int .i64 0, .int .i64 0, .int .i64 0, .int .i64 0, .int .i64 0, .int .i64 0, .int .i64 0, .int .i64 0, .int .i64 0, .string ⟨#[]⟩, .int .i64 0, .int .i64 0, .bool false, .int .i64 0, .string ⟨#[]⟩, .int .i64 0, .int .i64 0, .int .i64 0, .int .i64 0, .int .i64 0, .int .i64 0, .slice none 0 0, .bool false, .int .i64 0, .int .i64 0]) := Blk.alloc HZ0.out _; have HG0s : Hid (w.grownBy (w0.alloc (.cells #[.int .i64 0, .int .i64 0, .int .i64 0, .int .i64 0, .int .i64 0, .int .i64 0, .slice none 0 0, .bool false] 32)) (some g)) := only_trans HG0.out (only_of_below (bel_alloc _ _) (some g)) (fun q hq => by injection hq with hq; subst hq; exact hgl))
    | (go_at_call 76; (with_reducible refine (qnum_any g A c zs a bad 4 _ sl a1 b1 _ HR0s.out E4.out (by omega) ha X1.out).mono ?_); rintro e w' ⟨w1, rfl, rfl, r1, g1⟩; have HR1 := Lib.hid r1; have HG1 := Lib.hid (only_trans HG0s.out g1 (fun q hq => by injection hq with hq; subst hq; exact hgl)); have HP1 := Lib.hid (HP0s.out.grown g1 (by intro e; injection e with e; exact hag e)); have HB1 := Lib.hid (HB0s.out.grown g1 (by intro e; injection e with e; exact hkg e)); have HZ1 := Lib.hid (HZ0s.out.grown g1 (by intro e; injection e with e; exact hkr e)); clear r1 g1; have c1_ : w1.cell? ⟨w0.heap.size, 0, none⟩ = some (.int .i64 0) := (HP1.out.cell 0).trans rfl; have f1_ : w1.frozen? ⟨w0.heap.size, 0, none⟩ = false := HP1.out.frozen 0; have HR1s : Hid (Rd 103 (w1.setCell ⟨w0.heap.size, 0, none⟩ (.int .i64 sl)) g A c zs a1 b1) := Rd.far HR1.out ⟨w0.heap.size, 0, none⟩ (.int .i64 sl) hga HAa.out; have HP1s : Hid (Blk (w1.setCell ⟨w0.heap.size, 0, none⟩ (.int .i64 sl)) w0.heap.size 32 #[.int .i64 sl, .int .i64 0, .int .i64 0, .int .i64 0, .int .i64 0, .int .i64 0, .slice none 0 0, .bool false]) := Blk.set_ HP1.out 0 (.int .i64 sl); have HB1s : Hid (Blk (w1.setCell ⟨w0.heap.size, 0, none⟩ (.int .i64 sl)) (w.heap.size + 1) 46 #[.int .i64 4, .int .i64 0, .int .i64 0, .int .i64 0, .int .i64 0, .int .i64 0, .int .i64 0, .int .i64 0, .int .i64 0, .int .i64 0, .int .i64 0, .string ⟨#[]⟩, .int .i64 0, .int .i64 0, .bool false, .int .i64 0, .string ⟨#[]⟩, .int .i64 0, .int .i64 0, .int .i64 0, .int .i64 0, .int .i64 0, .int .i64 0, .slice none 0 0, .bool false, .int .i64 0, .int .i64 0]) := Blk.far HB1.out (p := ⟨w0.heap.size, 0, none⟩) hma (.int .i64 sl); have HZ1s : Hid (Blk (w1.setCell ⟨w0.heap.size, 0, none⟩ (.int .i64 sl)) w.heap.size 46 #[.int .i64 0, .int .i64 0, .int .i64 0, .int .i64 0, .int .i64 0, .int .i64 0, .int .i64 0, .int .i64 0, .int .i64 0, .int .i64 0, .int .i64 0, .string ⟨#[]⟩, .int .i64 0, .int .i64 0, .bool false, .int .i64 0, .string ⟨#[]⟩, .int .i64 0, .int .i64 0, .int .i64 0, .int .i64 0, .int .i64 0, .int .i64 0, .slice none 0 0, .bool false, .int .i64 0, .int .i64 0]) := Blk.far HZ1.out (p := ⟨w0.heap.size, 0, none⟩) hra (.int .i64 sl); have HG1s : Hid (w.grownBy (w1.setCell ⟨w0.heap.size, 0, none⟩ (.int .i64 sl)) (some g)) := only_setCell HG1.out (.inr HLE.out) (.int .i64 sl))
    | (go_at_call 76; (with_reducible refine (qnum_any g A c zs a1 b1 4 _ q a2 b2 _ HR1s.out E4.out (by omega) ha1 X2.out).mono ?_); rintro e w' ⟨w2, rfl, rfl, r2, g2⟩; have HR2 := Lib.hid r2; have HG2 := Lib.hid (only_trans HG1s.out g2 (fun q hq => by injection hq with hq; subst hq; exact hgl)); have HP2 := Lib.hid (HP1s.out.grown g2 (by intro e; injection e with e; exact hag e)); have HB2 := Lib.hid (HB1s.out.grown g2 (by intro e; injection e with e; exact hkg e)); have HZ2 := Lib.hid (HZ1s.out.grown g2 (by intro e; injection e with e; exact hkr e)); clear r2 g2; have c2_ : w2.cell? ⟨w0.heap.size, 1, none⟩ = some (.int .i64 0) := (HP2.out.cell 1).trans rfl; have f2_ : w2.frozen? ⟨w0.heap.size, 1, none⟩ = false := HP2.out.frozen 1; have HR2s : Hid (Rd 103 (w2.setCell ⟨w0.heap.size, 1, none⟩ (.int .i64 q)) g A c zs a2 b2) := Rd.far HR2.out ⟨w0.heap.size, 1, none⟩ (.int .i64 q) hga HAa.out; have HP2s : Hid (Blk (w2.setCell ⟨w0.heap.size, 1, none⟩ (.int .i64 q)) w0.heap.size 32 #[.int .i64 sl, .int .i64 q, .int .i64 0, .int .i64 0, .int .i64 0, .int .i64 0, .slice none 0 0, .bool false]) := Blk.set_ HP2.out 1 (.int .i64 q); have HB2s : Hid (Blk (w2.setCell ⟨w0.heap.size, 1, none⟩ (.int .i64 q)) (w.heap.size + 1) 46 #[.int .i64 4, .int .i64 0, .int .i64 0, .int .i64 0, .int .i64 0, .int .i64 0, .int .i64 0, .int .i64 0, .int .i64 0, .int .i64 0, .int .i64 0, .string ⟨#[]⟩, .int .i64 0, .int .i64 0, .bool false, .int .i64 0, .string ⟨#[]⟩, .int .i64 0, .int .i64 0, .int .i64 0, .int .i64 0, .int .i64 0, .int .i64 0, .slice none 0 0, .bool false, .int .i64 0, .int .i64 0]) := Blk.far HB2.out (p := ⟨w0.heap.size, 1, none⟩) hma (.int .i64 q); have HZ2s : Hid (Blk (w2.setCell ⟨w0.heap.size, 1, none⟩ (.int .i64 q)) w.heap.size 46 #[.int .i64 0, .int .i64 0, .int .i64 0, .int .i64 0, .int .i64 0, .int .i64 0, .int .i64 0, .int .i64 0, .int .i64 0, .int .i64 0, .int .i64 0, .string ⟨#[]⟩, .int .i64 0, .int .i64 0, .bool false, .int .i64 0, .string ⟨#[]⟩, .int .i64 0, .int .i64 0, .int .i64 0, .int .i64 0, .int .i64 0, .int .i64 0, .slice none 0 0, .bool false, .int .i64 0, .int .i64 0]) := Blk.far HZ2.out (p := ⟨w0.heap.size, 1, none⟩) hra (.int .i64 q); have HG2s : Hid (w.grownBy (w2.setCell ⟨w0.heap.size, 1, none⟩ (.int .i64 q)) (some g)) := only_setCell HG2.out (.inr HLE.out) (.int .i64 q))
    | (go_at_call 76; (with_reducible refine (qnum_any g A c zs a2 b2 4 _ sh a3 b3 _ HR2s.out E4.out (by omega) ha2 X3.out).mono ?_); rintro e w' ⟨w3, rfl, rfl, r3, g3⟩; have HR3 := Lib.hid r3; have HG3 := Lib.hid (only_trans HG2s.out g3 (fun q hq => by injection hq with hq; subst hq; exact hgl)); have HP3 := Lib.hid (HP2s.out.grown g3 (by intro e; injection e with e; exact hag e)); have HB3 := Lib.hid (HB2s.out.grown g3 (by intro e; injection e with e; exact hkg e)); have HZ3 := Lib.hid (HZ2s.out.grown g3 (by intro e; injection e with e; exact hkr e)); clear r3 g3; have c3_ : w3.cell? ⟨w0.heap.size, 2, none⟩ = some (.int .i64 0) := (HP3.out.cell 2).trans rfl; have f3_ : w3.frozen? ⟨w0.heap.size, 2, none⟩ = false := HP3.out.frozen 2; have HR3s : Hid (Rd 103 (w3.setCell ⟨w0.heap.size, 2, none⟩ (.int .i64 sh)) g A c zs a3 b3) := Rd.far HR3.out ⟨w0.heap.size, 2, none⟩ (.int .i64 sh) hga HAa.out; have HP3s : Hid (Blk (w3.setCell ⟨w0.heap.size, 2, none⟩ (.int .i64 sh)) w0.heap.size 32 #[.int .i64 sl, .int .i64 q, .int .i64 sh, .int .i64 0, .int .i64 0, .int .i64 0, .slice none 0 0, .bool false]) := Blk.set_ HP3.out 2 (.int .i64 sh); have HB3s : Hid (Blk (w3.setCell ⟨w0.heap.size, 2, none⟩ (.int .i64 sh)) (w.heap.size + 1) 46 #[.int .i64 4, .int .i64 0, .int .i64 0, .int .i64 0, .int .i64 0, .int .i64 0, .int .i64 0, .int .i64 0, .int .i64 0, .int .i64 0, .int .i64 0, .string ⟨#[]⟩, .int .i64 0, .int .i64 0, .bool false, .int .i64 0, .string ⟨#[]⟩, .int .i64 0, .int .i64 0, .int .i64 0, .int .i64 0, .int .i64 0, .int .i64 0, .slice none 0 0, .bool false, .int .i64 0, .int .i64 0]) := Blk.far HB3.out (p := ⟨w0.heap.size, 2, none⟩) hma (.int .i64 sh); have HZ3s : Hid (Blk (w3.setCell ⟨w0.heap.size, 2, none⟩ (.int .i64 sh)) w.heap.size 46 #[.int .i64 0, .int .i64 0, .int .i64 0, .int .i64 0, .int .i64 0, .int .i64 0, .int .i64 0, .int .i64 0, .int .i64 0, .int .i64 0, .int .i64 0, .string ⟨#[]⟩, .int .i64 0, .int .i64 0, .bool false, .int .i64 0, .string ⟨#[]⟩, .int .i64 0, .int .i64 0, .int .i64 0, .int .i64 0, .int .i64 0, .int .i64 0, .slice none 0 0, .bool false, .int .i64 0, .int .i64 0]) := Blk.far HZ3.out (p := ⟨w0.heap.size, 2, none⟩) hra (.int .i64 sh); have HG3s : Hid (w.grownBy (w3.setCell ⟨w0.heap.size, 2, none⟩ (.int .i64 sh)) (some g)) := only_setCell HG3.out (.inr HLE.out) (.int .i64 sh))
    | (go_at_call 76; (with_reducible refine (qnum_any g A c zs a3 b3 4 _ sq a4 b4 _ HR3s.out E4.out (by omega) ha3 X4.out).mono ?_); rintro e w' ⟨w4, rfl, rfl, r4, g4⟩; have HR4 := Lib.hid r4; have HG4 := Lib.hid (only_trans HG3s.out g4 (fun q hq => by injection hq with hq; subst hq; exact hgl)); have HP4 := Lib.hid (HP3s.out.grown g4 (by intro e; injection e with e; exact hag e)); have HB4 := Lib.hid (HB3s.out.grown g4 (by intro e; injection e with e; exact hkg e)); have HZ4 := Lib.hid (HZ3s.out.grown g4 (by intro e; injection e with e; exact hkr e)); clear r4 g4; have c4_ : w4.cell? ⟨w0.heap.size, 3, none⟩ = some (.int .i64 0) := (HP4.out.cell 3).trans rfl; have f4_ : w4.frozen? ⟨w0.heap.size, 3, none⟩ = false := HP4.out.frozen 3; have HR4s : Hid (Rd 103 (w4.setCell ⟨w0.heap.size, 3, none⟩ (.int .i64 sq)) g A c zs a4 b4) := Rd.far HR4.out ⟨w0.heap.size, 3, none⟩ (.int .i64 sq) hga HAa.out; have HP4s : Hid (Blk (w4.setCell ⟨w0.heap.size, 3, none⟩ (.int .i64 sq)) w0.heap.size 32 #[.int .i64 sl, .int .i64 q, .int .i64 sh, .int .i64 sq, .int .i64 0, .int .i64 0, .slice none 0 0, .bool false]) := Blk.set_ HP4.out 3 (.int .i64 sq); have HB4s : Hid (Blk (w4.setCell ⟨w0.heap.size, 3, none⟩ (.int .i64 sq)) (w.heap.size + 1) 46 #[.int .i64 4, .int .i64 0, .int .i64 0, .int .i64 0, .int .i64 0, .int .i64 0, .int .i64 0, .int .i64 0, .int .i64 0, .int .i64 0, .int .i64 0, .string ⟨#[]⟩, .int .i64 0, .int .i64 0, .bool false, .int .i64 0, .string ⟨#[]⟩, .int .i64 0, .int .i64 0, .int .i64 0, .int .i64 0, .int .i64 0, .int .i64 0, .slice none 0 0, .bool false, .int .i64 0, .int .i64 0]) := Blk.far HB4.out (p := ⟨w0.heap.size, 3, none⟩) hma (.int .i64 sq); have HZ4s : Hid (Blk (w4.setCell ⟨w0.heap.size, 3, none⟩ (.int .i64 sq)) w.heap.size 46 #[.int .i64 0, .int .i64 0, .int .i64 0, .int .i64 0, .int .i64 0, .int .i64 0, .int .i64 0, .int .i64 0, .int .i64 0, .int .i64 0, .int .i64 0, .string ⟨#[]⟩, .int .i64 0, .int .i64 0, .bool false, .int .i64 0, .string ⟨#[]⟩, .int .i64 0, .int .i64 0, .int .i64 0, .int .i64 0, .int .i64 0, .int .i64 0, .slice none 0 0, .bool false, .int .i64 0, .int .i64 0]) := Blk.far HZ4.out (p := ⟨w0.heap.size, 3, none⟩) hra (.int .i64 sq); have HG4s : Hid (w.grownBy (w4.setCell ⟨w0.heap.size, 3, none⟩ (.int .i64 sq)) (some g)) := only_setCell HG4.out (.inr HLE.out) (.int .i64 sq))
    | (go_at_call 76; (with_reducible refine (qnum_any g A c zs a4 b4 4 _ wk a5 b5 _ HR4s.out E4.out (by omega) ha4 X5.out).mono ?_); rintro e w' ⟨w5, rfl, rfl, r5, g5⟩; have HR5 := Lib.hid r5; have HG5 := Lib.hid (only_trans HG4s.out g5 (fun q hq => by injection hq with hq; subst hq; exact hgl)); have HP5 := Lib.hid (HP4s.out.grown g5 (by intro e; injection e with e; exact hag e)); have HB5 := Lib.hid (HB4s.out.grown g5 (by intro e; injection e with e; exact hkg e)); have HZ5 := Lib.hid (HZ4s.out.grown g5 (by intro e; injection e with e; exact hkr e)); clear r5 g5; have c5_ : w5.cell? ⟨w0.heap.size, 4, none⟩ = some (.int .i64 0) := (HP5.out.cell 4).trans rfl; have f5_ : w5.frozen? ⟨w0.heap.size, 4, none⟩ = false := HP5.out.frozen 4; have HR5s : Hid (Rd 103 (w5.setCell ⟨w0.heap.size, 4, none⟩ (.int .i64 wk)) g A c zs a5 b5) := Rd.far HR5.out ⟨w0.heap.size, 4, none⟩ (.int .i64 wk) hga HAa.out; have HP5s : Hid (Blk (w5.setCell ⟨w0.heap.size, 4, none⟩ (.int .i64 wk)) w0.heap.size 32 #[.int .i64 sl, .int .i64 q, .int .i64 sh, .int .i64 sq, .int .i64 wk, .int .i64 0, .slice none 0 0, .bool false]) := Blk.set_ HP5.out 4 (.int .i64 wk); have HB5s : Hid (Blk (w5.setCell ⟨w0.heap.size, 4, none⟩ (.int .i64 wk)) (w.heap.size + 1) 46 #[.int .i64 4, .int .i64 0, .int .i64 0, .int .i64 0, .int .i64 0, .int .i64 0, .int .i64 0, .int .i64 0, .int .i64 0, .int .i64 0, .int .i64 0, .string ⟨#[]⟩, .int .i64 0, .int .i64 0, .bool false, .int .i64 0, .string ⟨#[]⟩, .int .i64 0, .int .i64 0, .int .i64 0, .int .i64 0, .int .i64 0, .int .i64 0, .slice none 0 0, .bool false, .int .i64 0, .int .i64 0]) := Blk.far HB5.out (p := ⟨w0.heap.size, 4, none⟩) hma (.int .i64 wk); have HZ5s : Hid (Blk (w5.setCell ⟨w0.heap.size, 4, none⟩ (.int .i64 wk)) w.heap.size 46 #[.int .i64 0, .int .i64 0, .int .i64 0, .int .i64 0, .int .i64 0, .int .i64 0, .int .i64 0, .int .i64 0, .int .i64 0, .int .i64 0, .int .i64 0, .string ⟨#[]⟩, .int .i64 0, .int .i64 0, .bool false, .int .i64 0, .string ⟨#[]⟩, .int .i64 0, .int .i64 0, .int .i64 0, .int .i64 0, .int .i64 0, .int .i64 0, .slice none 0 0, .bool false, .int .i64 0, .int .i64 0]) := Blk.far HZ5.out (p := ⟨w0.heap.size, 4, none⟩) hra (.int .i64 wk); have HG5s : Hid (w.grownBy (w5.setCell ⟨w0.heap.size, 4, none⟩ (.int .i64 wk)) (some g)) := only_setCell HG5.out (.inr HLE.out) (.int .i64 wk))
    | (go_at_call 76; (with_reducible refine (qnum_any g A c zs a5 b5 4 _ ep a6 b6 _ HR5s.out E4.out (by omega) ha5 X6.out).mono ?_); rintro e w' ⟨w6, rfl, rfl, r6, g6⟩; have HR6 := Lib.hid r6; have HG6 := Lib.hid (only_trans HG5s.out g6 (fun q hq => by injection hq with hq; subst hq; exact hgl)); have HP6 := Lib.hid (HP5s.out.grown g6 (by intro e; injection e with e; exact hag e)); have HB6 := Lib.hid (HB5s.out.grown g6 (by intro e; injection e with e; exact hkg e)); have HZ6 := Lib.hid (HZ5s.out.grown g6 (by intro e; injection e with e; exact hkr e)); clear r6 g6; have c6_ : w6.cell? ⟨w0.heap.size, 5, none⟩ = some (.int .i64 0) := (HP6.out.cell 5).trans rfl; have f6_ : w6.frozen? ⟨w0.heap.size, 5, none⟩ = false := HP6.out.frozen 5; have HR6s : Hid (Rd 103 (w6.setCell ⟨w0.heap.size, 5, none⟩ (.int .i64 ep)) g A c zs a6 b6) := Rd.far HR6.out ⟨w0.heap.size, 5, none⟩ (.int .i64 ep) hga HAa.out; have HP6s : Hid (Blk (w6.setCell ⟨w0.heap.size, 5, none⟩ (.int .i64 ep)) w0.heap.size 32 #[.int .i64 sl, .int .i64 q, .int .i64 sh, .int .i64 sq, .int .i64 wk, .int .i64 ep, .slice none 0 0, .bool false]) := Blk.set_ HP6.out 5 (.int .i64 ep); have HB6s : Hid (Blk (w6.setCell ⟨w0.heap.size, 5, none⟩ (.int .i64 ep)) (w.heap.size + 1) 46 #[.int .i64 4, .int .i64 0, .int .i64 0, .int .i64 0, .int .i64 0, .int .i64 0, .int .i64 0, .int .i64 0, .int .i64 0, .int .i64 0, .int .i64 0, .string ⟨#[]⟩, .int .i64 0, .int .i64 0, .bool false, .int .i64 0, .string ⟨#[]⟩, .int .i64 0, .int .i64 0, .int .i64 0, .int .i64 0, .int .i64 0, .int .i64 0, .slice none 0 0, .bool false, .int .i64 0, .int .i64 0]) := Blk.far HB6.out (p := ⟨w0.heap.size, 5, none⟩) hma (.int .i64 ep); have HZ6s : Hid (Blk (w6.setCell ⟨w0.heap.size, 5, none⟩ (.int .i64 ep)) w.heap.size 46 #[.int .i64 0, .int .i64 0, .int .i64 0, .int .i64 0, .int .i64 0, .int .i64 0, .int .i64 0, .int .i64 0, .int .i64 0, .int .i64 0, .int .i64 0, .string ⟨#[]⟩, .int .i64 0, .int .i64 0, .bool false, .int .i64 0, .string ⟨#[]⟩, .int .i64 0, .int .i64 0, .int .i64 0, .int .i64 0, .int .i64 0, .int .i64 0, .slice none 0 0, .bool false, .int .i64 0, .int .i64 0]) := Blk.far HZ6.out (p := ⟨w0.heap.size, 5, none⟩) hra (.int .i64 ep); have HG6s : Hid (w.grownBy (w6.setCell ⟨w0.heap.size, 5, none⟩ (.int .i64 ep)) (some g)) := only_setCell HG6.out (.inr HLE.out) (.int .i64 ep))
    | (go_at_call 76; (with_reducible refine (qnum_any g A c zs a6 b6 1 _ N a7 b7 _ HR6s.out E1.out (by omega) ha6 X7.out).mono ?_); rintro e w' ⟨w7, rfl, rfl, r7, g7⟩; have HR7 := Lib.hid r7; have HG7 := Lib.hid (only_trans HG6s.out g7 (fun q hq => by injection hq with hq; subst hq; exact hgl)); have HP7 := Lib.hid (HP6s.out.grown g7 (by intro e; injection e with e; exact hag e)); have HB7 := Lib.hid (HB6s.out.grown g7 (by intro e; injection e with e; exact hkg e)); have HZ7 := Lib.hid (HZ6s.out.grown g7 (by intro e; injection e with e; exact hkr e)); clear r7 g7)
    | (go_at_call 78; (with_reducible refine (qitems_any g A c zs a7 b7 N xs a8 b8 _ HR7.out hN2 ha7 HI8.out).mono ?_); rintro e w' ⟨v8, w8, rfl, rfl, r8, o8, g8⟩; obtain ⟨A2, c2, rfl, hcc2, hxr2⟩ := own_xreads o8 HXL.out; clear hcc2 hxr2; have HO8 := Lib.hid o8; clear o8; have HR8 := Lib.hid r8; have HG8 := Lib.hid (only_trans HG7.out g8 (fun q hq => by injection hq with hq; subst hq; exact hgl)); have HP8 := Lib.hid (HP7.out.grown g8 (by intro e; injection e with e; exact hag e)); have HB8 := Lib.hid (HB7.out.grown g8 (by intro e; injection e with e; exact hkg e)); have HZ8 := Lib.hid (HZ7.out.grown g8 (by intro e; injection e with e; exact hkr e)); clear r8 g8; have c8_ : w8.cell? ⟨w0.heap.size, 6, none⟩ = some (.slice none 0 0) := (HP8.out.cell 6).trans rfl; have f8_ : w8.frozen? ⟨w0.heap.size, 6, none⟩ = false := HP8.out.frozen 6; have HR8s : Hid (Rd 103 (w8.setCell ⟨w0.heap.size, 6, none⟩ (.slice A2 xs.length c2)) g A c zs a8 b8) := Rd.far HR8.out ⟨w0.heap.size, 6, none⟩ (.slice A2 xs.length c2) hga HAa.out; have HP8s : Hid (Blk (w8.setCell ⟨w0.heap.size, 6, none⟩ (.slice A2 xs.length c2)) w0.heap.size 32 #[.int .i64 sl, .int .i64 q, .int .i64 sh, .int .i64 sq, .int .i64 wk, .int .i64 ep, .slice A2 xs.length c2, .bool false]) := Blk.set_ HP8.out 6 (.slice A2 xs.length c2); have HB8s : Hid (Blk (w8.setCell ⟨w0.heap.size, 6, none⟩ (.slice A2 xs.length c2)) (w.heap.size + 1) 46 #[.int .i64 4, .int .i64 0, .int .i64 0, .int .i64 0, .int .i64 0, .int .i64 0, .int .i64 0, .int .i64 0, .int .i64 0, .int .i64 0, .int .i64 0, .string ⟨#[]⟩, .int .i64 0, .int .i64 0, .bool false, .int .i64 0, .string ⟨#[]⟩, .int .i64 0, .int .i64 0, .int .i64 0, .int .i64 0, .int .i64 0, .int .i64 0, .slice none 0 0, .bool false, .int .i64 0, .int .i64 0]) := Blk.far HB8.out (p := ⟨w0.heap.size, 6, none⟩) hma (.slice A2 xs.length c2); have HZ8s : Hid (Blk (w8.setCell ⟨w0.heap.size, 6, none⟩ (.slice A2 xs.length c2)) w.heap.size 46 #[.int .i64 0, .int .i64 0, .int .i64 0, .int .i64 0, .int .i64 0, .int .i64 0, .int .i64 0, .int .i64 0, .int .i64 0, .int .i64 0, .int .i64 0, .string ⟨#[]⟩, .int .i64 0, .int .i64 0, .bool false, .int .i64 0, .string ⟨#[]⟩, .int .i64 0, .int .i64 0, .int .i64 0, .int .i64 0, .int .i64 0, .int .i64 0, .slice none 0 0, .bool false, .int .i64 0, .int .i64 0]) := Blk.far HZ8.out (p := ⟨w0.heap.size, 6, none⟩) hra (.slice A2 xs.length c2); have HG8s : Hid (w.grownBy (w8.setCell ⟨w0.heap.size, 6, none⟩ (.slice A2 xs.length c2)) (some g)) := only_setCell HG8.out (.inr HLE.out) (.slice A2 xs.length c2); have HO8s := Lib.hid (World.ownsRow.kept HO8.out (only_setCell (World.grownBy.refl w8 (some w0.heap.size)) (p := ⟨w0.heap.size, 6, none⟩) (.inl rfl) (.slice A2 xs.length c2)) (.inr (own_blk_ne HO8.out HP8.out (by decide)))))
    | (go_at_call 76; (with_reducible refine (qnum_any g A c zs a8 b8 1 _ en a9 b9 _ HR8s.out E1.out (by omega) ha8 X9.out).mono ?_); rintro e w' ⟨w9, rfl, rfl, r9, g9⟩; have HO9 := Lib.hid (World.ownsRow.kept HO8s.out g9 (.inr (own_blk_ne HO8s.out HR8s.out.1 (by decide)))); have HR9 := Lib.hid r9; have HG9 := Lib.hid (only_trans HG8s.out g9 (fun q hq => by injection hq with hq; subst hq; exact hgl)); have HP9 := Lib.hid (HP8s.out.grown g9 (by intro e; injection e with e; exact hag e)); have HB9 := Lib.hid (HB8s.out.grown g9 (by intro e; injection e with e; exact hkg e)); have HZ9 := Lib.hid (HZ8s.out.grown g9 (by intro e; injection e with e; exact hkr e)); clear r9 g9; have c9_ : w9.cell? ⟨w0.heap.size, 7, none⟩ = some (.bool false) := (HP9.out.cell 7).trans rfl; have f9_ : w9.frozen? ⟨w0.heap.size, 7, none⟩ = false := HP9.out.frozen 7; have HR9s : Hid (Rd 103 (w9.setCell ⟨w0.heap.size, 7, none⟩ (.bool (en == 1))) g A c zs a9 b9) := Rd.far HR9.out ⟨w0.heap.size, 7, none⟩ (.bool (en == 1)) hga HAa.out; have HP9s : Hid (Blk (w9.setCell ⟨w0.heap.size, 7, none⟩ (.bool (en == 1))) w0.heap.size 32 #[.int .i64 sl, .int .i64 q, .int .i64 sh, .int .i64 sq, .int .i64 wk, .int .i64 ep, .slice A2 xs.length c2, .bool (en == 1)]) := Blk.set_ HP9.out 7 (.bool (en == 1)); have HB9s : Hid (Blk (w9.setCell ⟨w0.heap.size, 7, none⟩ (.bool (en == 1))) (w.heap.size + 1) 46 #[.int .i64 4, .int .i64 0, .int .i64 0, .int .i64 0, .int .i64 0, .int .i64 0, .int .i64 0, .int .i64 0, .int .i64 0, .int .i64 0, .int .i64 0, .string ⟨#[]⟩, .int .i64 0, .int .i64 0, .bool false, .int .i64 0, .string ⟨#[]⟩, .int .i64 0, .int .i64 0, .int .i64 0, .int .i64 0, .int .i64 0, .int .i64 0, .slice none 0 0, .bool false, .int .i64 0, .int .i64 0]) := Blk.far HB9.out (p := ⟨w0.heap.size, 7, none⟩) hma (.bool (en == 1)); have HZ9s : Hid (Blk (w9.setCell ⟨w0.heap.size, 7, none⟩ (.bool (en == 1))) w.heap.size 46 #[.int .i64 0, .int .i64 0, .int .i64 0, .int .i64 0, .int .i64 0, .int .i64 0, .int .i64 0, .int .i64 0, .int .i64 0, .int .i64 0, .int .i64 0, .string ⟨#[]⟩, .int .i64 0, .int .i64 0, .bool false, .int .i64 0, .string ⟨#[]⟩, .int .i64 0, .int .i64 0, .int .i64 0, .int .i64 0, .int .i64 0, .int .i64 0, .slice none 0 0, .bool false, .int .i64 0, .int .i64 0]) := Blk.far HZ9.out (p := ⟨w0.heap.size, 7, none⟩) hra (.bool (en == 1)); have HG9s : Hid (w.grownBy (w9.setCell ⟨w0.heap.size, 7, none⟩ (.bool (en == 1))) (some g)) := only_setCell HG9.out (.inr HLE.out) (.bool (en == 1)); have HO9s := Lib.hid (World.ownsRow.kept HO9.out (only_setCell (World.grownBy.refl w9 (some w0.heap.size)) (p := ⟨w0.heap.size, 7, none⟩) (.inl rfl) (.bool (en == 1))) (.inr (own_blk_ne HO9.out HP9.out (by decide)))); have HT : Hid ((w9.setCell ⟨w0.heap.size, 7, none⟩ (.bool (en == 1))).there (w.heap.size + 1) 17 8) := Blk.there HB9s.out 17 8 (by simp); have HRe : Hid (Rd 103 ((w9.setCell ⟨w0.heap.size, 7, none⟩ (.bool (en == 1))).setCells (w.heap.size + 1) 17 (#[.int .i64 sl, .int .i64 q, .int .i64 sh, .int .i64 sq, .int .i64 wk, .int .i64 ep, .slice A2 xs.length c2, .bool (en == 1)] : Array Value).toList) g A c zs a9 b9) := Rd.apart HR9s.out (setCells_grown _ _ _ _) hgk HA.out; have HBe : Hid (Blk ((w9.setCell ⟨w0.heap.size, 7, none⟩ (.bool (en == 1))).setCells (w.heap.size + 1) 17 (#[.int .i64 sl, .int .i64 q, .int .i64 sh, .int .i64 sq, .int .i64 wk, .int .i64 ep, .slice A2 xs.length c2, .bool (en == 1)] : Array Value).toList) (w.heap.size + 1) 46 #[.int .i64 4, .int .i64 0, .int .i64 0, .int .i64 0, .int .i64 0, .int .i64 0, .int .i64 0, .int .i64 0, .int .i64 0, .int .i64 0, .int .i64 0, .string ⟨#[]⟩, .int .i64 0, .int .i64 0, .bool false, .int .i64 0, .string ⟨#[]⟩, .int .i64 sl, .int .i64 q, .int .i64 sh, .int .i64 sq, .int .i64 wk, .int .i64 ep, .slice A2 xs.length c2, .bool (en == 1), .int .i64 0, .int .i64 0]) := Blk.setMid _ HB9s.out 17; have HZe : Hid (Blk ((w9.setCell ⟨w0.heap.size, 7, none⟩ (.bool (en == 1))).setCells (w.heap.size + 1) 17 (#[.int .i64 sl, .int .i64 q, .int .i64 sh, .int .i64 sq, .int .i64 wk, .int .i64 ep, .slice A2 xs.length c2, .bool (en == 1)] : Array Value).toList) w.heap.size 46 #[.int .i64 0, .int .i64 0, .int .i64 0, .int .i64 0, .int .i64 0, .int .i64 0, .int .i64 0, .int .i64 0, .int .i64 0, .int .i64 0, .int .i64 0, .string ⟨#[]⟩, .int .i64 0, .int .i64 0, .bool false, .int .i64 0, .string ⟨#[]⟩, .int .i64 0, .int .i64 0, .int .i64 0, .int .i64 0, .int .i64 0, .int .i64 0, .slice none 0 0, .bool false, .int .i64 0, .int .i64 0]) := Blk.grown HZ9s.out (setCells_grown _ _ _ _) (by intro e; injection e with e; exact hrk e); have HGe : Hid (w.grownBy ((w9.setCell ⟨w0.heap.size, 7, none⟩ (.bool (en == 1))).setCells (w.heap.size + 1) 17 (#[.int .i64 sl, .int .i64 q, .int .i64 sh, .int .i64 sq, .int .i64 wk, .int .i64 ep, .slice A2 xs.length c2, .bool (en == 1)] : Array Value).toList) (some g)) := only_big HG9s.out (setCells_grown _ _ _ _) (Nat.le_succ _); have HOe := Lib.hid (World.ownsRow.kept HO9s.out (setCells_grown (w.heap.size + 1) (#[.int .i64 sl, .int .i64 q, .int .i64 sh, .int .i64 sq, .int .i64 wk, .int .i64 ep, .slice A2 xs.length c2, .bool (en == 1)] : Array Value).toList _ 17) (.inr (own_blk_ne HO9s.out HB9s.out (by decide)))))
    | (have HP2_ := HP9s.out; refine wpList_load_row rfl 32 (.tmp 7) rfl w0.heap.size rfl 32 _ (0, 0) _ HP2_ Try.underlying32 rfl (by kernel_rfl) ?_)
    | (have HT_ := HT.out; refine wpList_store_mid rfl 32 (.tmp 107) (.tmp 106) rfl (w.heap.size + 1) 17 #[.int .i64 sl, .int .i64 q, .int .i64 sh, .int .i64 sq, .int .i64 wk, .int .i64 ep, .slice A2 xs.length c2, .bool (en == 1)] rfl rfl HT_ (by kernel_rfl) (by kernel_rfl) ?_; revert HRe HBe HZe HGe HOe; generalize World.setCells _ _ _ _ = wz; intro HRe HBe HZe HGe HOe)
    | (have HB2_ : Blk wz _ _ _ := HBe.out; refine wpList_load_row (by rfl) 46 (.tmp 5) (by rfl) (w.heap.size + 1) (by rfl) 46 _ (0, 0) _ HB2_ Try.underlying46 (by rfl) (by kernel_rfl) ?_)
    | (have HZ2_ : Blk wz _ _ _ := HZe.out; refine wpList_store_row (by rfl) 46 (.tmp 4) (.tmp 118) (by rfl) w.heap.size _ (by rfl) (by rfl) 46 _ HZ2_ (by kernel_rfl) (by kernel_rfl) (by kernel_rfl) ?_))
  (try simp only [Exit.inBlock, Exit.then])
  refine bodyPost_ret (results_cell_row rfl _ _ w.heap.size 46 #[.int .i64 4, .int .i64 0, .int .i64 0, .int .i64 0, .int .i64 0, .int .i64 0, .int .i64 0, .int .i64 0, .int .i64 0, .int .i64 0, .int .i64 0, .string ⟨#[]⟩, .int .i64 0, .int .i64 0, .bool false, .int .i64 0, .string ⟨#[]⟩, .int .i64 sl, .int .i64 q, .int .i64 sh, .int .i64 sq, .int .i64 wk, .int .i64 ep, .slice A2 xs.length c2, .bool (en == 1), .int .i64 0, .int .i64 0] (0, 0) _ rfl ?_ Try.underlying46 rfl (by kernel_rfl)) rfl ?_
  · exact setRow_heap _ _ _ _ _ _ HZe.out
  · have HOf := Lib.hid (World.ownsRow.kept HOe.out (setRow_grown _ w.heap.size #[.int .i64 4, .int .i64 0, .int .i64 0, .int .i64 0, .int .i64 0, .int .i64 0, .int .i64 0, .int .i64 0, .int .i64 0, .int .i64 0, .int .i64 0, .string ⟨#[]⟩, .int .i64 0, .int .i64 0, .bool false, .int .i64 0, .string ⟨#[]⟩, .int .i64 sl, .int .i64 q, .int .i64 sh, .int .i64 sq, .int .i64 wk, .int .i64 ep, .slice A2 xs.length c2, .bool (en == 1), .int .i64 0, .int .i64 0]) (.inr (own_blk_ne HOe.out HZe.out (by decide))))
    obtain ⟨A3, c3, e3, _, hx3⟩ := own_xreads HOf.out HXL.out
    injection e3 with e3 _ _
    subst e3
    exact ⟨A2, c2, _, rfl, rfl, rd_row HRe.out hkr HA0.out _, hx3, (fun ad e => by
      rcases HOe.out.2 with ⟨e1, _⟩ | ⟨g', cap, cur, e1, hb, _⟩
      · injection e1 with e1 _ _; rw [e] at e1; cases e1
      · injection e1 with e1 _ _; rw [e] at e1; injection e1 with e1; subst e1; exact Nat.le_trans HG7.out.size hb), only_row HGe.out (Nat.le_refl _) _⟩
end Go.Proofs.Ytajhkjikcgfhdaa
namespace Go.Proofs.Ytajhkjikcgfhdaa
set_option linter.unusedVariables false
set_option linter.unusedSimpArgs false
set_option maxRecDepth 100000
open Go.RowKit
set_option maxHeartbeats 2000000 in
theorem refmay_other (k : Int) (w : World) (hk : k < 1 ∨ 5 < k) :
    Calls Try.prog 20 #[.agg #[.int .i64 k, .int .i64 0, .int .i64 0, .int .i64 0, .int .i64 0, .int .i64 0, .int .i64 0, .int .i64 0, .int .i64 0, .int .i64 0, .int .i64 0, .string ⟨#[]⟩, .int .i64 0, .int .i64 0, .bool false, .int .i64 0, .string ⟨#[]⟩, .int .i64 0, .int .i64 0, .int .i64 0, .int .i64 0, .int .i64 0, .int .i64 0, .slice none 0 0, .bool false, .int .i64 0, .int .i64 0]] w (Gives w (.bool false)) := by
  have k1 : (k == 1) = false := by rw [beq_eq_false_iff_ne]; omega
  have k2 : (k == 2) = false := by rw [beq_eq_false_iff_ne]; omega
  have k3 : (k == 3) = false := by rw [beq_eq_false_iff_ne]; omega
  have k4 : (k == 4) = false := by rw [beq_eq_false_iff_ne]; omega
  have k5 : (k == 5) = false := by rw [beq_eq_false_iff_ne]; omega
  clear hk
  go_enter Try.func20, Try.ntmps20
  go_wp2
  go_ret
  exact ⟨_, rfl, rfl, bel_alloc _ _⟩
set_option maxHeartbeats 2000000 in
theorem refencno_other (k : Int) (w : World) (hk : k < 1 ∨ 5 < k) :
    Calls Try.prog 15 #[.agg #[.int .i64 k, .int .i64 0, .int .i64 0, .int .i64 0, .int .i64 0, .int .i64 0, .int .i64 0, .int .i64 0, .int .i64 0, .int .i64 0, .int .i64 0, .string ⟨#[]⟩, .int .i64 0, .int .i64 0, .bool false, .int .i64 0, .string ⟨#[]⟩, .int .i64 0, .int .i64 0, .int .i64 0, .int .i64 0, .int .i64 0, .int .i64 0, .slice none 0 0, .bool false, .int .i64 0, .int .i64 0]] w (RefNo w) := by
  have K0 : Blk (w.alloc (.cells #[.int .i64 k, .int .i64 0, .int .i64 0, .int .i64 0, .int .i64 0, .int .i64 0, .int .i64 0, .int .i64 0, .int .i64 0, .int .i64 0, .int .i64 0, .string ⟨#[]⟩, .int .i64 0, .int .i64 0, .bool false, .int .i64 0, .string ⟨#[]⟩, .int .i64 0, .int .i64 0, .int .i64 0, .int .i64 0, .int .i64 0, .int .i64 0, .slice none 0 0, .bool false, .int .i64 0, .int .i64 0] 46)) w.heap.size 46 #[.int .i64 k, .int .i64 0, .int .i64 0, .int .i64 0, .int .i64 0, .int .i64 0, .int .i64 0, .int .i64 0, .int .i64 0, .int .i64 0, .int .i64 0, .string ⟨#[]⟩, .int .i64 0, .int .i64 0, .bool false, .int .i64 0, .string ⟨#[]⟩, .int .i64 0, .int .i64 0, .int .i64 0, .int .i64 0, .int .i64 0, .int .i64 0, .slice none 0 0, .bool false, .int .i64 0, .int .i64 0] := Blk.new w _ _
  have hb0 : Below w.heap.size w (w.alloc (.cells #[.int .i64 k, .int .i64 0, .int .i64 0, .int .i64 0, .int .i64 0, .int .i64 0, .int .i64 0, .int .i64 0, .int .i64 0, .int .i64 0, .int .i64 0, .string ⟨#[]⟩, .int .i64 0, .int .i64 0, .bool false, .int .i64 0, .string ⟨#[]⟩, .int .i64 0, .int .i64 0, .int .i64 0, .int .i64 0, .int .i64 0, .int .i64 0, .slice none 0 0, .bool false, .int .i64 0, .int .i64 0] 46)) := bel_alloc _ _
  have HK := Lib.hid hk
  clear hk
  go_enter Try.func15, Try.ntmps15
  go_wp2_with (first
    | (refine wpList_load_row rfl 46 (.tmp 1) rfl w.heap.size rfl 46 _ (0, 0) _ K0 Try.underlying46 rfl (by kernel_rfl) ?_)
    | (go_at_call 20; (with_reducible refine (refmay_other k _ HK.out).mono ?_); rintro e w' ⟨w1, rfl, rfl, b1⟩))
  go_ret2
  exact ⟨_, rfl, rfl, bel3 hb0 b1⟩
set_option maxHeartbeats 2000000 in
theorem refencno_ask_w (sl q sh sq ep : Int) (t : ByteArray) (k b : Int) (f : Bool) (d : Int) (s : ByteArray) (w : World) (ht : t.size ≤ 60000) (hs : s.size ≤ 60000) (h : askB sl q sh sq ep t k b f d s = false) :
    Calls Try.prog 15 #[.agg #[.int .i64 3, .int .i64 0, .int .i64 0, .int .i64 0, .int .i64 0, .int .i64 0, .int .i64 sl, .int .i64 q, .int .i64 sh, .int .i64 sq, .int .i64 ep, .string t, .int .i64 k, .int .i64 b, .bool f, .int .i64 d, .string s, .int .i64 0, .int .i64 0, .int .i64 0, .int .i64 0, .int .i64 0, .int .i64 0, .slice none 0 0, .bool false, .int .i64 0, .int .i64 0]] w (RefNo w) := by
  have HM := Lib.hid h
  clear h
  have K0 : Blk (w.alloc (.cells #[.int .i64 3, .int .i64 0, .int .i64 0, .int .i64 0, .int .i64 0, .int .i64 0, .int .i64 sl, .int .i64 q, .int .i64 sh, .int .i64 sq, .int .i64 ep, .string t, .int .i64 k, .int .i64 b, .bool f, .int .i64 d, .string s, .int .i64 0, .int .i64 0, .int .i64 0, .int .i64 0, .int .i64 0, .int .i64 0, .slice none 0 0, .bool false, .int .i64 0, .int .i64 0] 46)) w.heap.size 46 #[.int .i64 3, .int .i64 0, .int .i64 0, .int .i64 0, .int .i64 0, .int .i64 0, .int .i64 sl, .int .i64 q, .int .i64 sh, .int .i64 sq, .int .i64 ep, .string t, .int .i64 k, .int .i64 b, .bool f, .int .i64 d, .string s, .int .i64 0, .int .i64 0, .int .i64 0, .int .i64 0, .int .i64 0, .int .i64 0, .slice none 0 0, .bool false, .int .i64 0, .int .i64 0] := Blk.new w _ _
  have hb0 : Below w.heap.size w (w.alloc (.cells #[.int .i64 3, .int .i64 0, .int .i64 0, .int .i64 0, .int .i64 0, .int .i64 0, .int .i64 sl, .int .i64 q, .int .i64 sh, .int .i64 sq, .int .i64 ep, .string t, .int .i64 k, .int .i64 b, .bool f, .int .i64 d, .string s, .int .i64 0, .int .i64 0, .int .i64 0, .int .i64 0, .int .i64 0, .int .i64 0, .slice none 0 0, .bool false, .int .i64 0, .int .i64 0] 46)) := bel_alloc _ _
  go_enter Try.func15, Try.ntmps15
  go_wp2_with (first
    | (refine wpList_load_row rfl 46 (.tmp 1) rfl w.heap.size rfl 46 _ (0, 0) _ K0 Try.underlying46 rfl (by kernel_rfl) ?_)
    | (go_at_call 20; (with_reducible refine (refmay_ask sl q sh sq ep t k b f d s _ (by omega) (by omega)).mono ?_); rintro e w' ⟨w1, rfl, rfl, b1⟩; rw [HM.out]))
  go_ret2
  exact ⟨_, rfl, rfl, bel3 hb0 b1⟩
set_option maxHeartbeats 2000000 in
theorem refencno_reply_w (sl q sh sq wk ep : Int) (A : Option Addr) (n c : Nat) (en : Bool) (xs : List (Int × ByteArray)) (w : World) (hx : XReads w A n xs) (hs : Small 60000 xs) (h : replyB sl q sh sq wk ep xs = false) :
    Calls Try.prog 15 #[.agg #[.int .i64 4, .int .i64 0, .int .i64 0, .int .i64 0, .int .i64 0, .int .i64 0, .int .i64 0, .int .i64 0, .int .i64 0, .int .i64 0, .int .i64 0, .string ⟨#[]⟩, .int .i64 0, .int .i64 0, .bool false, .int .i64 0, .string ⟨#[]⟩, .int .i64 sl, .int .i64 q, .int .i64 sh, .int .i64 sq, .int .i64 wk, .int .i64 ep, .slice A n c, .bool en, .int .i64 0, .int .i64 0]] w (RefNo w) := by
  have HX : Hid (XReads (w.alloc (.cells #[.int .i64 4, .int .i64 0, .int .i64 0, .int .i64 0, .int .i64 0, .int .i64 0, .int .i64 0, .int .i64 0, .int .i64 0, .int .i64 0, .int .i64 0, .string ⟨#[]⟩, .int .i64 0, .int .i64 0, .bool false, .int .i64 0, .string ⟨#[]⟩, .int .i64 sl, .int .i64 q, .int .i64 sh, .int .i64 sq, .int .i64 wk, .int .i64 ep, .slice A n c, .bool en, .int .i64 0, .int .i64 0] 46)) A n xs) := hx.below (bel_alloc _ _)
  have HS1 : Hid (Small 1000000 xs) := fun x h => Nat.le_trans (hs x h) (by omega)
  have HS2 : Hid (Small 60000 xs) := fun x h => Nat.le_trans (hs x h) (by omega)
  have HM := Lib.hid h
  clear h
  have K0 : Blk (w.alloc (.cells #[.int .i64 4, .int .i64 0, .int .i64 0, .int .i64 0, .int .i64 0, .int .i64 0, .int .i64 0, .int .i64 0, .int .i64 0, .int .i64 0, .int .i64 0, .string ⟨#[]⟩, .int .i64 0, .int .i64 0, .bool false, .int .i64 0, .string ⟨#[]⟩, .int .i64 sl, .int .i64 q, .int .i64 sh, .int .i64 sq, .int .i64 wk, .int .i64 ep, .slice A n c, .bool en, .int .i64 0, .int .i64 0] 46)) w.heap.size 46 #[.int .i64 4, .int .i64 0, .int .i64 0, .int .i64 0, .int .i64 0, .int .i64 0, .int .i64 0, .int .i64 0, .int .i64 0, .int .i64 0, .int .i64 0, .string ⟨#[]⟩, .int .i64 0, .int .i64 0, .bool false, .int .i64 0, .string ⟨#[]⟩, .int .i64 sl, .int .i64 q, .int .i64 sh, .int .i64 sq, .int .i64 wk, .int .i64 ep, .slice A n c, .bool en, .int .i64 0, .int .i64 0] := Blk.new w _ _
  have hb0 : Below w.heap.size w (w.alloc (.cells #[.int .i64 4, .int .i64 0, .int .i64 0, .int .i64 0, .int .i64 0, .int .i64 0, .int .i64 0, .int .i64 0, .int .i64 0, .int .i64 0, .int .i64 0, .string ⟨#[]⟩, .int .i64 0, .int .i64 0, .bool false, .int .i64 0, .string ⟨#[]⟩, .int .i64 sl, .int .i64 q, .int .i64 sh, .int .i64 sq, .int .i64 wk, .int .i64 ep, .slice A n c, .bool en, .int .i64 0, .int .i64 0] 46)) := bel_alloc _ _
  go_enter Try.func15, Try.ntmps15
  go_wp2_with (first
    | (refine wpList_load_row rfl 46 (.tmp 1) rfl w.heap.size rfl 46 _ (0, 0) _ K0 Try.underlying46 rfl (by kernel_rfl) ?_)
    | (go_at_call 20; (with_reducible refine (refmay_reply sl q sh sq wk ep A n c en xs _ HX.out HS1.out).mono ?_); rintro e w' ⟨w1, rfl, rfl, b1⟩; rw [HM.out]))
  go_ret2
  exact ⟨_, rfl, rfl, bel3 hb0 b1⟩
/-- What the reference has read of a kind. -/
def QV (w : World) (v : Value) (k : Int) (m : M) : Prop := (RV w v m ∧ k = kindM m ∧ 1 ≤ k ∧ k ≤ 5) ∨ ((k < 1 ∨ 5 < k) ∧ v = .agg #[.int .i64 k, .int .i64 0, .int .i64 0, .int .i64 0, .int .i64 0, .int .i64 0, .int .i64 0, .int .i64 0, .int .i64 0, .int .i64 0, .int .i64 0, .string ⟨#[]⟩, .int .i64 0, .int .i64 0, .bool false, .int .i64 0, .string ⟨#[]⟩, .int .i64 0, .int .i64 0, .int .i64 0, .int .i64 0, .int .i64 0, .int .i64 0, .slice none 0 0, .bool false, .int .i64 0, .int .i64 0] ∧ m = .none)
theorem QV.below {w w1 : World} {v : Value} {k : Int} {m : M} (h : QV w v k m) (hb : Below w.heap.size w w1) : QV w1 v k m := by
  rcases h with ⟨h1, h2⟩ | h
  · exact .inl ⟨h1.below hb, h2⟩
  · exact .inr h
theorem refencno_w (v : Value) (m : M) (w : World) (h : RV w v m) (hs : SmallM 60000 m) (hm : mayM m = false) : Calls Try.prog 15 #[v] w (RefNo w) := by
  cases m with
  | hello hw hl => obtain rfl := h; exact refencno_hello hw hl w hm
  | grant gw gl ge => obtain rfl := h; exact refencno_grant gw gl ge w hm
  | ask sl q sh sq ep t k b f d s => obtain rfl := h; exact refencno_ask_w sl q sh sq ep t k b f d s w hs.1 hs.2 hm
  | reply sl q sh sq wk ep xs en =>
    obtain ⟨A, c, rfl, hx⟩ := h
    exact refencno_reply_w sl q sh sq wk ep A _ c en xs w hx hs hm
  | stop sl q => obtain rfl := h; exact refencno_stop sl q w hm
  | other x => obtain rfl := h; exact refencno_none w
  | none => obtain rfl := h; exact refencno_none w
theorem may_small {m : M} (h : mayM m = true) : SmallM 100 m := by
  cases m with
  | ask sl q sh sq ep t k b f d s =>
    have := askB_iff h
    exact ⟨by omega, by omega⟩
  | reply sl q sh sq wk ep xs en =>
    obtain ⟨_, _, _, _, _, _, _, h8⟩ := replyB_iff h
    intro x hx
    have := h8 x hx
    omega
  | hello => trivial
  | grant => trivial
  | stop => trivial
  | other => trivial
  | none => trivial
theorem refenc_q (v : Value) (k : Int) (m : M) (L : Nat) (w : World) (h : QV w v k m) (hm : mayM m = true) (hL : (frameM m).length = L) : Calls Try.prog 15 #[v] w (RefOk w (frameM m) L) := by
  rcases h with ⟨h1, h2⟩ | ⟨_, _, rfl⟩
  · exact refenc_m v m L w h1 (may_small hm) hm hL
  · cases hm
theorem refencno_q (v : Value) (k : Int) (m : M) (w : World) (h : QV w v k m) (hs : SmallM 60000 m) (hm : mayM m = false) : Calls Try.prog 15 #[v] w (RefNo w) := by
  rcases h with ⟨h1, h2⟩ | ⟨hk, rfl, rfl⟩
  · exact refencno_w v m w h1 hs hm
  · exact refencno_other k w hk
theorem XReads.of_blocks {w w1 : World} {A : Option Addr} {n : Nat} {xs : List (Int × ByteArray)} (h : XReads w A n xs) (hb : ∀ ad, A = some ad → ad.block < w.heap.size → w1.heap[ad.block]? = w.heap[ad.block]?) : XReads w1 A n xs :=
  ⟨h.1, h.2.1, fun h0 => by
    obtain ⟨ad, e, hc⟩ := h.2.2 h0
    refine ⟨ad, e, fun k hk => ?_⟩
    obtain ⟨c1, c2⟩ := hc k hk
    have hlt := World.block_lt_of_cell? w _ c1
    rw [block_of_add] at hlt
    have hbl := hb ad e hlt
    exact ⟨by rw [← c1]; exact World.cell?_of_block (by rw [block_of_add]; exact hbl), by rw [← c2]; exact World.cell?_of_block (by first | (rw [block_of_add]; exact hbl) | exact hbl)⟩⟩
/-- read has answered. -/
def RdQ (w : World) (g : Nat) (A : Option Addr) (c : Nat) (zs : List Int) (k : Int) (r : M × Nat × Bool) (e : Ending) (w' : World) : Prop :=
  ∃ v W, e = .returned v ∧ W = w' ∧ (∀ w1 : World, (∀ i, w.heap.size ≤ i → i < W.heap.size → w1.heap[i]? = W.heap[i]?) → QV w1 v k r.1) ∧ Rd 103 W g A c zs r.2.1 r.2.2 ∧ w.grownBy W (some g)
theorem rdq_of {w : World} {g c : Nat} {A : Option Addr} {zs : List Int} {v : Value} {m : M} {k : Int} {a : Nat} {b : Bool} {P : Program} {f : FuncId} {args : Array Value} (h : Calls P f args w (RdTo 103 w g A c zs v a b)) (hv : ∀ W, QV W v k m) : Calls P f args w (RdQ w g A c zs k (m, a, b)) :=
  h.mono fun e w' ⟨W, he, hw, hr, hg⟩ => ⟨v, W, he, hw, fun w1 _ => hv w1, hr, hg⟩
theorem qread_m (g : Nat) (A : Option Addr) (c : Nat) (zs : List Int) (a : Nat) (bad : Bool) (kind : Int) (w : World) (h : Rd 103 w g A c zs a bad) (h0 : 0 < zs.length) (ha : a ≤ zs.length) :
    Calls Try.prog 58 #[.pointer (some ⟨g, 0, none⟩), .int .i64 kind] w (RdQ w g A c zs kind (readR zs kind a bad)) := by
  by_cases k1 : kind = 1
  · subst k1
    obtain ⟨x1, a1, b1, h1⟩ : ∃ x a1 b1, rnum zs a bad 4 = (x, a1, b1) := ⟨_, _, _, rfl⟩
    obtain ⟨x2, a2, b2, h2⟩ : ∃ x a2 b2, rnum zs a1 b1 4 = (x, a2, b2) := ⟨_, _, _, rfl⟩
    rw [show readR zs 1 a bad = (.hello x1 x2, a2, b2) by simp [readR, readHello, h1, h2]]
    exact rdq_of (qread_hello g A c zs a bad x1 a1 b1 x2 a2 b2 w h h0 ha h1 h2) fun _ => .inl ⟨rfl, rfl, by decide, by decide⟩
  by_cases k2 : kind = 2
  · subst k2
    obtain ⟨x1, a1, b1, h1⟩ : ∃ x a1 b1, rnum zs a bad 4 = (x, a1, b1) := ⟨_, _, _, rfl⟩
    obtain ⟨x2, a2, b2, h2⟩ : ∃ x a2 b2, rnum zs a1 b1 4 = (x, a2, b2) := ⟨_, _, _, rfl⟩
    obtain ⟨x3, a3, b3, h3⟩ : ∃ x a3 b3, rnum zs a2 b2 4 = (x, a3, b3) := ⟨_, _, _, rfl⟩
    rw [show readR zs 2 a bad = (.grant x1 x2 x3, a3, b3) by simp [readR, readGrant, h1, h2, h3]]
    exact rdq_of (qread_grant g A c zs a bad x1 a1 b1 x2 a2 b2 x3 a3 b3 w h h0 ha h1 h2 h3) fun _ => .inl ⟨rfl, rfl, by decide, by decide⟩
  by_cases k3 : kind = 3
  · subst k3
    obtain ⟨x1, a1, b1, h1⟩ : ∃ x a1 b1, rnum zs a bad 4 = (x, a1, b1) := ⟨_, _, _, rfl⟩
    obtain ⟨x2, a2, b2, h2⟩ : ∃ x a2 b2, rnum zs a1 b1 4 = (x, a2, b2) := ⟨_, _, _, rfl⟩
    obtain ⟨x3, a3, b3, h3⟩ : ∃ x a3 b3, rnum zs a2 b2 4 = (x, a3, b3) := ⟨_, _, _, rfl⟩
    obtain ⟨x4, a4, b4, h4⟩ : ∃ x a4 b4, rnum zs a3 b3 4 = (x, a4, b4) := ⟨_, _, _, rfl⟩
    obtain ⟨x5, a5, b5, h5⟩ : ∃ x a5 b5, rnum zs a4 b4 4 = (x, a5, b5) := ⟨_, _, _, rfl⟩
    obtain ⟨t, a6, b6, h6⟩ : ∃ x a6 b6, rtext zs a5 b5 = (x, a6, b6) := ⟨_, _, _, rfl⟩
    obtain ⟨k, a7, b7, h7⟩ : ∃ x a7 b7, rnum zs a6 b6 1 = (x, a7, b7) := ⟨_, _, _, rfl⟩
    obtain ⟨b, a8, b8, h8⟩ : ∃ x a8 b8, rnum zs a7 b7 1 = (x, a8, b8) := ⟨_, _, _, rfl⟩
    obtain ⟨f, a9, b9, h9⟩ : ∃ x a9 b9, rnum zs a8 b8 1 = (x, a9, b9) := ⟨_, _, _, rfl⟩
    obtain ⟨d, a10, b10, h10⟩ : ∃ x a10 b10, rnum zs a9 b9 1 = (x, a10, b10) := ⟨_, _, _, rfl⟩
    obtain ⟨s, a11, b11, h11⟩ : ∃ x a11 b11, rtext zs a10 b10 = (x, a11, b11) := ⟨_, _, _, rfl⟩
    rw [show readR zs 3 a bad = (.ask x1 x2 x3 x4 x5 t k b (f == 1) d s, a11, b11) by simp [readR, readRAsk, h1, h2, h3, h4, h5, h6, h7, h8, h9, h10, h11]]
    exact rdq_of (qread_ask g A c zs a bad x1 a1 b1 x2 a2 b2 x3 a3 b3 x4 a4 b4 x5 a5 b5 t a6 b6 k a7 b7 b a8 b8 f a9 b9 d a10 b10 s a11 b11 w h h0 ha h1 h2 h3 h4 h5 h6 h7 h8 h9 h10 h11) fun _ => .inl ⟨rfl, rfl, by decide, by decide⟩
  by_cases k4 : kind = 4
  · subst k4
    obtain ⟨x1, a1, b1, h1⟩ : ∃ x a1 b1, rnum zs a bad 4 = (x, a1, b1) := ⟨_, _, _, rfl⟩
    obtain ⟨x2, a2, b2, h2⟩ : ∃ x a2 b2, rnum zs a1 b1 4 = (x, a2, b2) := ⟨_, _, _, rfl⟩
    obtain ⟨x3, a3, b3, h3⟩ : ∃ x a3 b3, rnum zs a2 b2 4 = (x, a3, b3) := ⟨_, _, _, rfl⟩
    obtain ⟨x4, a4, b4, h4⟩ : ∃ x a4 b4, rnum zs a3 b3 4 = (x, a4, b4) := ⟨_, _, _, rfl⟩
    obtain ⟨x5, a5, b5, h5⟩ : ∃ x a5 b5, rnum zs a4 b4 4 = (x, a5, b5) := ⟨_, _, _, rfl⟩
    obtain ⟨x6, a6, b6, h6⟩ : ∃ x a6 b6, rnum zs a5 b5 4 = (x, a6, b6) := ⟨_, _, _, rfl⟩
    obtain ⟨n, a7, b7, h7⟩ : ∃ x a7 b7, rnum zs a6 b6 1 = (x, a7, b7) := ⟨_, _, _, rfl⟩
    obtain ⟨xs, a8, b8, h8⟩ : ∃ x a8 b8, ritems zs n.toNat a7 b7 = (x, a8, b8) := ⟨_, _, _, rfl⟩
    obtain ⟨en, a9, b9, h9⟩ : ∃ x a9 b9, rnum zs a8 b8 1 = (x, a9, b9) := ⟨_, _, _, rfl⟩
    rw [show readR zs 4 a bad = (.reply x1 x2 x3 x4 x5 x6 xs (en == 1), a9, b9) by simp [readR, readRReply, h1, h2, h3, h4, h5, h6, h7, h8, h9]]
    refine (qread_reply g A c zs a bad x1 a1 b1 x2 a2 b2 x3 a3 b3 x4 a4 b4 x5 a5 b5 x6 a6 b6 n a7 b7 xs a8 b8 en a9 b9 w h h0 ha h1 h2 h3 h4 h5 h6 h7 h8 h9).mono ?_
    rintro e w' ⟨A2, c2, W, he, hw, hr, hx, hb, hg⟩
    exact ⟨_, W, he, hw, fun w1 h1 => .inl ⟨⟨A2, c2, rfl, hx.of_blocks fun ad e hlt => h1 _ (hb ad e) hlt⟩, rfl, by decide, by decide⟩, hr, hg⟩
  by_cases k5 : kind = 5
  · subst k5
    obtain ⟨x1, a1, b1, h1⟩ : ∃ x a1 b1, rnum zs a bad 4 = (x, a1, b1) := ⟨_, _, _, rfl⟩
    obtain ⟨x2, a2, b2, h2⟩ : ∃ x a2 b2, rnum zs a1 b1 4 = (x, a2, b2) := ⟨_, _, _, rfl⟩
    rw [show readR zs 5 a bad = (.stop x1 x2, a2, b2) by simp [readR, readStop, h1, h2]]
    exact rdq_of (qread_stop g A c zs a bad x1 a1 b1 x2 a2 b2 w h h0 ha h1 h2) fun _ => .inl ⟨rfl, rfl, by decide, by decide⟩
  rw [show readR zs kind a bad = (.none, a, bad) by simp [readR, k1, k2, k3, k4, k5]]
  exact rdq_of (qread_other g A c zs a bad kind w h h0 (by omega)) fun _ => .inr ⟨by omega, rfl, rfl⟩
end Go.Proofs.Ytajhkjikcgfhdaa
namespace Go.Proofs.Ytajhkjikcgfhdaa
set_option linter.unusedVariables false
set_option linter.unusedSimpArgs false
set_option maxRecDepth 100000
open Go.RowKit
theorem results_cell_row2 {P : Program} {fn : Func} {p u : Tmp} {ty : TypeId} (h : fn.results = #[.cell p ty, .tmp u]) (tmps : Array Value) (w : World) (g : Nat) (t : TypeId) (cs : Array Value) (fr : Nat × Nat) (d : TypeDesc)
    (hp : tmps.getD p undef = .pointer (some ⟨g, 0, none⟩)) (hg : w.heap[g]? = some (.cells cs t fr))
    (hu : P.underlying ty = some d) (hd : (match d with | .struct _ | .array _ _ => true | _ => false) = true) (hi : (P.info? ty).map (·.size) = some cs.size) :
    (results fn tmps).run P w = .ok (.tuple #[.agg cs, tmps.getD u undef]) w := by
  rw [results_cell_tmp h, hp]
  simp [asAddr, run_loadVar_row w g t ty cs fr d hg hu hd hi]
theorem i64_in (x : Int) (h0 : 0 ≤ x) (h1 : x < 4294967296) : IntKind.i64.wrap x = x := by
  simp only [IntKind.wrap, IntKind.signed, IntKind.bits]
  simp
  omega
set_option maxHeartbeats 2000000 in
theorem opened_any (A : Option Addr) (m c : Nat) (zs : List Int) (w : World) (h : BReads w A (m + 4) zs) (hc : m + 4 ≤ c) (hm : m ≤ 100000) :
    Calls Try.prog 57 #[.slice A (m + 4 : Nat) c] w (Gives w (.bool (numI zs m 4 == addI 0 (zs.take m)))) := by
  have hS := h.take_ m (by omega)
  have hra : 0 ≤ addI 0 (zs.take m) ∧ addI 0 (zs.take m) < 4294967296 := addI_range 0 _ (by omega) hS.range
  have HR := Lib.hid (refI_eq (zs.take m) hS.range)
  obtain ⟨L, hL⟩ : ∃ L, numI zs m 4 = L := ⟨_, rfl⟩
  obtain ⟨S, hSS⟩ : ∃ S, addI 0 (zs.take m) = S := ⟨_, rfl⟩
  rw [hSS] at hra
  have hw : IntKind.i64.wrap S = S := i64_in S hra.1 hra.2
  have HL := Lib.hid hL
  have HSS := Lib.hid hSS
  have HS := Lib.hid hS
  rw [hL, hSS]
  have h1' : decide (((m + 4 : Nat) : Int) < 4) = false := decide_eq_false (by omega)
  have H := Lib.hid h
  have HO4 : Hid (numOk (m + 4) m 4) := ⟨by omega, by omega, by omega, by omega⟩
  have hcc : m ≤ c := by omega
  clear h hL hSS hS
  go_enter Try.func57, Try.ntmps57
  go_wp2_with (first
    | (go_at_call 56; (with_reducible refine (refnum_yes _ _ _ m 4 _ _ H.out HO4.out).mono ?_); rintro e w' ⟨rfl, rfl⟩; rw [HL.out])
    | (go_at_call 65; (with_reducible refine (refof_any _ _ _ _ _ HS.out).mono ?_); rintro e w' ⟨rfl, rfl⟩; rw [HR.out, HSS.out]))
  go_ret
  exact ⟨_, rfl, rfl, Below.refl _ _⟩
/-- The reference's Decode has answered. -/
def RDecTo (w : World) (r : Int × M) (e : Ending) (w' : World) : Prop := ∃ v W, e = .returned (.tuple #[v, .int .i64 r.1]) ∧ W = w' ∧ RV W v r.2 ∧ Below w.heap.size w W
set_option maxHeartbeats 2000000 in
theorem rdec_short (A : Option Addr) (n c : Nat) (w : World) (h : n < 7 ∨ 1024 < n) (hn : n ≤ 9223372036854775807) :
    Calls Try.prog 26 #[.slice A n c] w (RDecTo w (8, .none)) := by
  have KZ : Hid (Blk (w.alloc (.cells #[.int .i64 0, .int .i64 0, .int .i64 0, .int .i64 0, .int .i64 0, .int .i64 0, .int .i64 0, .int .i64 0, .int .i64 0, .int .i64 0, .int .i64 0, .string ⟨#[]⟩, .int .i64 0, .int .i64 0, .bool false, .int .i64 0, .string ⟨#[]⟩, .int .i64 0, .int .i64 0, .int .i64 0, .int .i64 0, .int .i64 0, .int .i64 0, .slice none 0 0, .bool false, .int .i64 0, .int .i64 0] 46)) w.heap.size 46 #[.int .i64 0, .int .i64 0, .int .i64 0, .int .i64 0, .int .i64 0, .int .i64 0, .int .i64 0, .int .i64 0, .int .i64 0, .int .i64 0, .int .i64 0, .string ⟨#[]⟩, .int .i64 0, .int .i64 0, .bool false, .int .i64 0, .string ⟨#[]⟩, .int .i64 0, .int .i64 0, .int .i64 0, .int .i64 0, .int .i64 0, .int .i64 0, .slice none 0 0, .bool false, .int .i64 0, .int .i64 0]) := Blk.new w _ _
  by_cases h1 : n < 7
  · have h1' : decide ((n : Int) < 7) = true := decide_eq_true (by omega)
    have h2' : (n : Int) < 7 := by omega
    go_enter Try.func26, Try.ntmps26
    go_wp2_with (first | (have KZ_ := KZ.out; refine wpList_store_row rfl 46 (.tmp 2) (.tmp 18) rfl w.heap.size #[.int .i64 0, .int .i64 0, .int .i64 0, .int .i64 0, .int .i64 0, .int .i64 0, .int .i64 0, .int .i64 0, .int .i64 0, .int .i64 0, .int .i64 0, .string ⟨#[]⟩, .int .i64 0, .int .i64 0, .bool false, .int .i64 0, .string ⟨#[]⟩, .int .i64 0, .int .i64 0, .int .i64 0, .int .i64 0, .int .i64 0, .int .i64 0, .slice none 0 0, .bool false, .int .i64 0, .int .i64 0] rfl rfl 46 _ KZ_ (by kernel_rfl) (by kernel_rfl) (by kernel_rfl) ?_))
    (try simp only [Exit.inBlock, Exit.then])
    refine bodyPost_ret (results_cell_row2 rfl _ _ w.heap.size 46 #[.int .i64 0, .int .i64 0, .int .i64 0, .int .i64 0, .int .i64 0, .int .i64 0, .int .i64 0, .int .i64 0, .int .i64 0, .int .i64 0, .int .i64 0, .string ⟨#[]⟩, .int .i64 0, .int .i64 0, .bool false, .int .i64 0, .string ⟨#[]⟩, .int .i64 0, .int .i64 0, .int .i64 0, .int .i64 0, .int .i64 0, .int .i64 0, .slice none 0 0, .bool false, .int .i64 0, .int .i64 0] (0, 0) _ rfl (setRow_heap _ _ _ _ _ _ KZ.out) Try.underlying46 rfl (by kernel_rfl)) rfl ?_
    exact ⟨_, _, rfl, rfl, rfl, below_setRow (bel_alloc _ _) (Nat.le_refl _) _⟩
  · have h3 : 1024 < n := by omega
    have h1' : decide ((n : Int) < 7) = false := decide_eq_false (by omega)
    have h1'' : ¬ (n : Int) < 7 := by omega
    have h2' : decide ((1024 : Int) < (n : Int)) = true := decide_eq_true (by omega)
    have h2'' : (1024 : Int) < (n : Int) := by omega
    clear h h1
    go_enter Try.func26, Try.ntmps26
    go_wp2_with (first | (have KZ_ := KZ.out; refine wpList_store_row rfl 46 (.tmp 2) (.tmp 18) rfl w.heap.size #[.int .i64 0, .int .i64 0, .int .i64 0, .int .i64 0, .int .i64 0, .int .i64 0, .int .i64 0, .int .i64 0, .int .i64 0, .int .i64 0, .int .i64 0, .string ⟨#[]⟩, .int .i64 0, .int .i64 0, .bool false, .int .i64 0, .string ⟨#[]⟩, .int .i64 0, .int .i64 0, .int .i64 0, .int .i64 0, .int .i64 0, .int .i64 0, .slice none 0 0, .bool false, .int .i64 0, .int .i64 0] rfl rfl 46 _ KZ_ (by kernel_rfl) (by kernel_rfl) (by kernel_rfl) ?_))
    (try simp only [Exit.inBlock, Exit.then])
    refine bodyPost_ret (results_cell_row2 rfl _ _ w.heap.size 46 #[.int .i64 0, .int .i64 0, .int .i64 0, .int .i64 0, .int .i64 0, .int .i64 0, .int .i64 0, .int .i64 0, .int .i64 0, .int .i64 0, .int .i64 0, .string ⟨#[]⟩, .int .i64 0, .int .i64 0, .bool false, .int .i64 0, .string ⟨#[]⟩, .int .i64 0, .int .i64 0, .int .i64 0, .int .i64 0, .int .i64 0, .int .i64 0, .slice none 0 0, .bool false, .int .i64 0, .int .i64 0] (0, 0) _ rfl (setRow_heap _ _ _ _ _ _ KZ.out) Try.underlying46 rfl (by kernel_rfl)) rfl ?_
    exact ⟨_, _, rfl, rfl, rfl, below_setRow (bel_alloc _ _) (Nat.le_refl _) _⟩
set_option maxHeartbeats 2000000 in
theorem rdec_told (A : Option Addr) (n c : Nat) (zs : List Int) (w : World) (h : BReads w A n zs) (h1 : 7 ≤ n) (h2 : n ≤ 1024) (h3 : numI zs 0 2 ≠ n) :
    Calls Try.prog 26 #[.slice A n c] w (RDecTo w (8, .none)) := by
  have KZ : Hid (Blk (w.alloc (.cells #[.int .i64 0, .int .i64 0, .int .i64 0, .int .i64 0, .int .i64 0, .int .i64 0, .int .i64 0, .int .i64 0, .int .i64 0, .int .i64 0, .int .i64 0, .string ⟨#[]⟩, .int .i64 0, .int .i64 0, .bool false, .int .i64 0, .string ⟨#[]⟩, .int .i64 0, .int .i64 0, .int .i64 0, .int .i64 0, .int .i64 0, .int .i64 0, .slice none 0 0, .bool false, .int .i64 0, .int .i64 0] 46)) w.heap.size 46 #[.int .i64 0, .int .i64 0, .int .i64 0, .int .i64 0, .int .i64 0, .int .i64 0, .int .i64 0, .int .i64 0, .int .i64 0, .int .i64 0, .int .i64 0, .string ⟨#[]⟩, .int .i64 0, .int .i64 0, .bool false, .int .i64 0, .string ⟨#[]⟩, .int .i64 0, .int .i64 0, .int .i64 0, .int .i64 0, .int .i64 0, .int .i64 0, .slice none 0 0, .bool false, .int .i64 0, .int .i64 0]) := Blk.new w _ _
  obtain ⟨L, hL⟩ : ∃ L, numI zs 0 2 = L := ⟨_, rfl⟩
  have HL := Lib.hid hL
  have b1 : (L != (n : Int)) = true := by rw [← hL]; simpa using h3
  have h1' : decide ((n : Int) < 7) = false := decide_eq_false (by omega)
  have h2' : decide ((1024 : Int) < (n : Int)) = false := decide_eq_false (by omega)
  have h1'' : ¬ (n : Int) < 7 := by omega
  have h2'' : ¬ (1024 : Int) < (n : Int) := by omega
  have H : Hid (BReads (w.alloc (.cells #[.int .i64 0, .int .i64 0, .int .i64 0, .int .i64 0, .int .i64 0, .int .i64 0, .int .i64 0, .int .i64 0, .int .i64 0, .int .i64 0, .int .i64 0, .string ⟨#[]⟩, .int .i64 0, .int .i64 0, .bool false, .int .i64 0, .string ⟨#[]⟩, .int .i64 0, .int .i64 0, .int .i64 0, .int .i64 0, .int .i64 0, .int .i64 0, .slice none 0 0, .bool false, .int .i64 0, .int .i64 0] 46)) A n zs) := h.below (bel_alloc _ _)
  have HO : Hid (numOk n 0 2) := ⟨by omega, by omega, by omega, by omega⟩
  clear h h3 hL
  go_enter Try.func26, Try.ntmps26
  go_wp2_with (first
    | (go_at_call 56; (with_reducible refine (refnum_yes _ _ _ _ _ _ _ H.out HO.out).mono ?_); rintro e w' ⟨rfl, rfl⟩; rw [HL.out])
    | (have KZ_ := KZ.out; refine wpList_store_row rfl 46 (.tmp 2) (.tmp 28) rfl w.heap.size #[.int .i64 0, .int .i64 0, .int .i64 0, .int .i64 0, .int .i64 0, .int .i64 0, .int .i64 0, .int .i64 0, .int .i64 0, .int .i64 0, .int .i64 0, .string ⟨#[]⟩, .int .i64 0, .int .i64 0, .bool false, .int .i64 0, .string ⟨#[]⟩, .int .i64 0, .int .i64 0, .int .i64 0, .int .i64 0, .int .i64 0, .int .i64 0, .slice none 0 0, .bool false, .int .i64 0, .int .i64 0] rfl rfl 46 _ KZ_ (by kernel_rfl) (by kernel_rfl) (by kernel_rfl) ?_))
  (try simp only [Exit.inBlock, Exit.then])
  refine bodyPost_ret (results_cell_row2 rfl _ _ w.heap.size 46 #[.int .i64 0, .int .i64 0, .int .i64 0, .int .i64 0, .int .i64 0, .int .i64 0, .int .i64 0, .int .i64 0, .int .i64 0, .int .i64 0, .int .i64 0, .string ⟨#[]⟩, .int .i64 0, .int .i64 0, .bool false, .int .i64 0, .string ⟨#[]⟩, .int .i64 0, .int .i64 0, .int .i64 0, .int .i64 0, .int .i64 0, .int .i64 0, .slice none 0 0, .bool false, .int .i64 0, .int .i64 0] (0, 0) _ rfl (setRow_heap _ _ _ _ _ _ KZ.out) Try.underlying46 rfl (by kernel_rfl)) rfl ?_
  exact ⟨_, _, rfl, rfl, rfl, below_setRow (bel_alloc _ _) (Nat.le_refl _) _⟩
set_option maxHeartbeats 2000000 in
theorem rdec_sum (A : Option Addr) (m c : Nat) (zs : List Int) (w : World) (h : BReads w A (m + 4) zs) (hc : m + 4 ≤ c) (h1 : 3 ≤ m) (h2 : m ≤ 1020) (h3 : numI zs 0 2 = (m + 4 : Nat)) (h4 : numI zs m 4 ≠ addI 0 (zs.take m)) :
    Calls Try.prog 26 #[.slice A (m + 4 : Nat) c] w (RDecTo w (9, .none)) := by
  have KZ : Hid (Blk (w.alloc (.cells #[.int .i64 0, .int .i64 0, .int .i64 0, .int .i64 0, .int .i64 0, .int .i64 0, .int .i64 0, .int .i64 0, .int .i64 0, .int .i64 0, .int .i64 0, .string ⟨#[]⟩, .int .i64 0, .int .i64 0, .bool false, .int .i64 0, .string ⟨#[]⟩, .int .i64 0, .int .i64 0, .int .i64 0, .int .i64 0, .int .i64 0, .int .i64 0, .slice none 0 0, .bool false, .int .i64 0, .int .i64 0] 46)) w.heap.size 46 #[.int .i64 0, .int .i64 0, .int .i64 0, .int .i64 0, .int .i64 0, .int .i64 0, .int .i64 0, .int .i64 0, .int .i64 0, .int .i64 0, .int .i64 0, .string ⟨#[]⟩, .int .i64 0, .int .i64 0, .bool false, .int .i64 0, .string ⟨#[]⟩, .int .i64 0, .int .i64 0, .int .i64 0, .int .i64 0, .int .i64 0, .int .i64 0, .slice none 0 0, .bool false, .int .i64 0, .int .i64 0]) := Blk.new w _ _
  have b0 : (((m + 4 : Nat) : Int) != ((m + 4 : Nat) : Int)) = false := by simp
  have HE : Hid ((numI zs m 4 == addI 0 (zs.take m)) = false) := by unfold Hid; simpa using h4
  have h1' : decide (((m + 4 : Nat) : Int) < 7) = false := decide_eq_false (by omega)
  have h2' : decide ((1024 : Int) < ((m + 4 : Nat) : Int)) = false := decide_eq_false (by omega)
  have h1'' : ¬ ((m + 4 : Nat) : Int) < 7 := by omega
  have h2'' : ¬ (1024 : Int) < ((m + 4 : Nat) : Int) := by omega
  have H : Hid (BReads (w.alloc (.cells #[.int .i64 0, .int .i64 0, .int .i64 0, .int .i64 0, .int .i64 0, .int .i64 0, .int .i64 0, .int .i64 0, .int .i64 0, .int .i64 0, .int .i64 0, .string ⟨#[]⟩, .int .i64 0, .int .i64 0, .bool false, .int .i64 0, .string ⟨#[]⟩, .int .i64 0, .int .i64 0, .int .i64 0, .int .i64 0, .int .i64 0, .int .i64 0, .slice none 0 0, .bool false, .int .i64 0, .int .i64 0] 46)) A (m + 4) zs) := h.below (bel_alloc _ _)
  have HT := Lib.hid h3
  have HO : Hid (numOk (m + 4) 0 2) := ⟨by omega, by omega, by omega, by omega⟩
  clear h h3 h4
  go_enter Try.func26, Try.ntmps26
  go_wp2_with (first
    | (go_at_call 56; (with_reducible refine (refnum_yes _ _ _ 0 2 _ _ H.out HO.out).mono ?_); rintro e w' ⟨rfl, rfl⟩; rw [HT.out])
    | (go_at_call 57; (with_reducible refine (opened_any _ _ _ _ _ H.out hc (by omega)).mono ?_); rintro e w' ⟨w1, rfl, rfl, k1⟩; rw [HE.out]; have KZ1 := KZ.out.below k1 KZ.out.lt; have HB1 : Hid (Below w.heap.size w w1) := bel3 (bel_alloc _ _) k1)
    | (have KZ_ := KZ1; refine wpList_store_row rfl 46 (.tmp 2) (.tmp 32) rfl w.heap.size #[.int .i64 0, .int .i64 0, .int .i64 0, .int .i64 0, .int .i64 0, .int .i64 0, .int .i64 0, .int .i64 0, .int .i64 0, .int .i64 0, .int .i64 0, .string ⟨#[]⟩, .int .i64 0, .int .i64 0, .bool false, .int .i64 0, .string ⟨#[]⟩, .int .i64 0, .int .i64 0, .int .i64 0, .int .i64 0, .int .i64 0, .int .i64 0, .slice none 0 0, .bool false, .int .i64 0, .int .i64 0] rfl rfl 46 _ KZ_ (by kernel_rfl) (by kernel_rfl) (by kernel_rfl) ?_))
  (try simp only [Exit.inBlock, Exit.then])
  refine bodyPost_ret (results_cell_row2 rfl _ _ w.heap.size 46 #[.int .i64 0, .int .i64 0, .int .i64 0, .int .i64 0, .int .i64 0, .int .i64 0, .int .i64 0, .int .i64 0, .int .i64 0, .int .i64 0, .int .i64 0, .string ⟨#[]⟩, .int .i64 0, .int .i64 0, .bool false, .int .i64 0, .string ⟨#[]⟩, .int .i64 0, .int .i64 0, .int .i64 0, .int .i64 0, .int .i64 0, .int .i64 0, .slice none 0 0, .bool false, .int .i64 0, .int .i64 0] (0, 0) _ rfl (setRow_heap _ _ _ _ _ _ KZ1) Try.underlying46 rfl (by kernel_rfl)) rfl ?_
  exact ⟨_, _, rfl, rfl, rfl, below_setRow (HB1.out) (Nat.le_refl _) _⟩
end Go.Proofs.Ytajhkjikcgfhdaa
namespace Go.Proofs.Ytajhkjikcgfhdaa
set_option linter.unusedVariables false
set_option linter.unusedSimpArgs false
set_option maxRecDepth 100000
open Go.RowKit
theorem qv_agg {w : World} {v : Value} {k : Int} {m : M} (h : QV w v k m) : ∃ cs, v = .agg cs ∧ cs.size = 27 ∧ cs.all (·.oneCell') = true := by
  rcases h with ⟨h, _⟩ | ⟨_, rfl, _⟩
  · cases m with
    | reply sl q sh sq wk ep xs en =>
      obtain ⟨A, c, rfl, hx⟩ := h
      exact ⟨_, rfl, rfl, by kernel_rfl⟩
    | hello => obtain rfl := h; exact ⟨_, rfl, rfl, by kernel_rfl⟩
    | grant => obtain rfl := h; exact ⟨_, rfl, rfl, by kernel_rfl⟩
    | ask => obtain rfl := h; exact ⟨_, rfl, rfl, by kernel_rfl⟩
    | stop => obtain rfl := h; exact ⟨_, rfl, rfl, by kernel_rfl⟩
    | other => obtain rfl := h; exact ⟨_, rfl, rfl, by kernel_rfl⟩
    | none => obtain rfl := h; exact ⟨_, rfl, rfl, by kernel_rfl⟩
  · exact ⟨_, rfl, rfl, by kernel_rfl⟩
theorem str_inj {x y : List Int} (hx : ∀ z, z ∈ x → 0 ≤ z ∧ z < 256) (hy : ∀ z, z ∈ y → 0 ≤ z ∧ z < 256) (h : strOfNums x = strOfNums y) : x = y := by
  rw [← strB_of x hx, ← strB_of y hy, h]
/-- What was read lies in blocks of its own. -/
def Stays (B : Nat) (W : World) (v : Value) (k : Int) (m : M) : Prop := ∀ w1 : World, (∀ i, B ≤ i → i < W.heap.size → w1.heap[i]? = W.heap[i]?) → QV w1 v k m
theorem Stays.self {B : Nat} {W : World} {v : Value} {k : Int} {m : M} (h : Stays B W v k m) : QV W v k m := h W fun _ _ _ => rfl
theorem Stays.below {B : Nat} {W W1 : World} {v : Value} {k : Int} {m : M} (h : Stays B W v k m) (hb : Below W.heap.size W W1) : Stays B W1 v k m := fun w1 h1 => h w1 fun i hi hlt => by
  rw [h1 i hi (Nat.lt_of_lt_of_le hlt hb.size)]
  exact hb.block i hlt
theorem Stays.row {B p : Nat} {W : World} {v : Value} {k : Int} {m : M} (h : Stays B W v k m) (hp : p < B) (cs : Array Value) : QV (W.setRow p cs) v k m := h _ fun i hi _ => setRow_other W p i cs (by omega)
theorem qv_rv {w : World} {v : Value} {k : Int} {m : M} (h : QV w v k m) (hm : mayM m = true) : RV w v m := by
  rcases h with ⟨h, _⟩ | ⟨_, _, rfl⟩
  · exact h
  · cases hm
set_option maxHeartbeats 8000000 in
theorem rdec_no_true (A : Option Addr) (m c : Nat) (zs : List Int) (w : World) (h : BReads w A (m + 4) zs) (hc : m + 4 ≤ c) (hcm : c ≤ 9223372036854775807) (h1 : 3 ≤ m) (h2 : m ≤ 1020) (h3 : numI zs 0 2 = (m + 4 : Nat)) (h4 : numI zs m 4 = addI 0 (zs.take m)) (M' : M) (a' : Nat) (b' : Bool) (hR : readR zs (gi zs 2) 3 false = (M', a', b')) (hm : mayM M' = false) (hb : b' = true) :
    Calls Try.prog 26 #[.slice A (m + 4 : Nat) c] w (RDecTo w (8, .none)) := by
  have KZ : Hid (Blk (w.alloc (.cells #[.int .i64 0, .int .i64 0, .int .i64 0, .int .i64 0, .int .i64 0, .int .i64 0, .int .i64 0, .int .i64 0, .int .i64 0, .int .i64 0, .int .i64 0, .string ⟨#[]⟩, .int .i64 0, .int .i64 0, .bool false, .int .i64 0, .string ⟨#[]⟩, .int .i64 0, .int .i64 0, .int .i64 0, .int .i64 0, .int .i64 0, .int .i64 0, .slice none 0 0, .bool false, .int .i64 0, .int .i64 0] 46)) w.heap.size 46 #[.int .i64 0, .int .i64 0, .int .i64 0, .int .i64 0, .int .i64 0, .int .i64 0, .int .i64 0, .int .i64 0, .int .i64 0, .int .i64 0, .int .i64 0, .string ⟨#[]⟩, .int .i64 0, .int .i64 0, .bool false, .int .i64 0, .string ⟨#[]⟩, .int .i64 0, .int .i64 0, .int .i64 0, .int .i64 0, .int .i64 0, .int .i64 0, .slice none 0 0, .bool false, .int .i64 0, .int .i64 0]) := Blk.new w _ _
  have b0 : (((m + 4 : Nat) : Int) != ((m + 4 : Nat) : Int)) = false := by simp
  have HE : Hid ((numI zs m 4 == addI 0 (zs.take m)) = true) := by unfold Hid; simpa using h4
  have hl4 : zs.length = m + 4 := h.1
  have h0 : 0 < zs.length := by omega
  have h03 : 3 ≤ zs.length := by omega
  obtain ⟨x2, hx2⟩ : ∃ x, gi zs 2 = x := ⟨_, rfl⟩
  obtain ⟨ad, hA, hc2⟩ := h.at_ 2 (by omega)
  have hrx := h.2.2.2 2
  rw [hx2] at hc2 hR hrx
  have hadl : ad.block < w.heap.size := by
    have := World.block_lt_of_cell? w _ hc2
    rwa [block_of_add] at this
  have hc2a : w.cell? ⟨ad.block, ad.off + 2, none⟩ = some (.int .u8 x2) := by
    have e : ad.add 2 = ⟨ad.block, ad.off + 2, none⟩ := by simp [Addr.add]
    rw [← e]; exact hc2
  have HC2 := Lib.hid hc2a
  have hsm : SmallM 60000 M' := by
    have h5 := readR_small zs x2 3 false
    rw [hR] at h5
    exact h5.of_len (by omega)
  have HSM := Lib.hid hsm
  have HR := Lib.hid hR
  have HZL := Lib.hid hl4
  have h1' : decide (((m + 4 : Nat) : Int) < 7) = false := decide_eq_false (by omega)
  have h2' : decide ((1024 : Int) < ((m + 4 : Nat) : Int)) = false := decide_eq_false (by omega)
  have h1'' : ¬ ((m + 4 : Nat) : Int) < 7 := by omega
  have h2'' : ¬ (1024 : Int) < ((m + 4 : Nat) : Int) := by omega
  have H : Hid (BReads (w.alloc (.cells #[.int .i64 0, .int .i64 0, .int .i64 0, .int .i64 0, .int .i64 0, .int .i64 0, .int .i64 0, .int .i64 0, .int .i64 0, .int .i64 0, .int .i64 0, .string ⟨#[]⟩, .int .i64 0, .int .i64 0, .bool false, .int .i64 0, .string ⟨#[]⟩, .int .i64 0, .int .i64 0, .int .i64 0, .int .i64 0, .int .i64 0, .int .i64 0, .slice none 0 0, .bool false, .int .i64 0, .int .i64 0] 46)) A (m + 4) zs) := h.below (bel_alloc _ _)
  have H00 := Lib.hid h
  have HT := Lib.hid h3
  have HO : Hid (numOk (m + 4) 0 2) := ⟨by omega, by omega, by omega, by omega⟩
  obtain ⟨S1, hS1⟩ : ∃ S, strOfNums (frameM M') = S := ⟨_, rfl⟩
  obtain ⟨S2, hS2⟩ : ∃ S, strOfNums zs = S := ⟨_, rfl⟩
  have HS1 := Lib.hid hS1
  have HS2 := Lib.hid hS2
  have HM := Lib.hid hm
  clear hS1 hS2
  subst hb
  clear hm
  clear h h3 h4 hc2 hc2a hx2 hR hsm
  subst hA
  go_enter Try.func26, Try.ntmps26
  go_wp2_with (first
    | (go_at_call 56; (with_reducible refine (refnum_yes _ _ _ 0 2 _ _ H.out HO.out).mono ?_); rintro e w' ⟨rfl, rfl⟩; rw [HT.out])
    | (go_at_call 57; (with_reducible refine (opened_any _ _ _ _ _ H.out hc (by omega)).mono ?_); rintro e w' ⟨w1, rfl, rfl, k1⟩; rw [HE.out]; have KZ1 := KZ.out.below k1 KZ.out.lt; have HB1 : Hid (Below w.heap.size w w1) := bel3 (bel_alloc _ _) k1; have hw1 : w.heap.size < w1.heap.size := (by have e1 := k1.size; have e2 := KZ1.lt; omega); have H1 := Lib.hid (H00.out.below HB1.out); have cc1 : (w1.alloc (.cells #[.slice (some ad) (m + 4 : Nat) c, .int .i64 3, .bool false] 103)).cell? ⟨ad.block, ad.off + 2, none⟩ = some (.int .u8 x2) := cell_keep HC2.out (bel2 HB1.out (bel_alloc _ _)); have cc2 : (w1.alloc (.cells #[.slice (some ad) (m + 4 : Nat) c, .int .i64 3, .bool false] 103)).cell? ⟨ad.block, ad.off + 1 + 1, none⟩ = some (.int .u8 x2) := cc1; have HRD : Hid (Rd 103 (w1.alloc (.cells #[.slice (some ad) (m + 4 : Nat) c, .int .i64 3, .bool false] 103)) w1.heap.size (some ad) c zs 3 false) := (⟨by rw [HZL.out]; exact Blk.new w1 _ _, by rw [HZL.out]; exact H1.out.below (bel_alloc _ _), by rw [HZL.out]; exact hc, hcm, fun ad2 e => by injection e with e; subst e; omega⟩); have HB1r : Hid (Below w.heap.size w (w1.alloc (.cells #[.slice (some ad) (m + 4 : Nat) c, .int .i64 3, .bool false] 103))) := bel2 HB1.out (bel_alloc _ _); have KZ1r : Hid (Blk (w1.alloc (.cells #[.slice (some ad) (m + 4 : Nat) c, .int .i64 3, .bool false] 103)) w.heap.size 46 #[.int .i64 0, .int .i64 0, .int .i64 0, .int .i64 0, .int .i64 0, .int .i64 0, .int .i64 0, .int .i64 0, .int .i64 0, .int .i64 0, .int .i64 0, .string ⟨#[]⟩, .int .i64 0, .int .i64 0, .bool false, .int .i64 0, .string ⟨#[]⟩, .int .i64 0, .int .i64 0, .int .i64 0, .int .i64 0, .int .i64 0, .int .i64 0, .slice none 0 0, .bool false, .int .i64 0, .int .i64 0]) := Blk.alloc KZ1 _; have hwne : ¬ w.heap.size = w1.heap.size := (by omega); clear k1)
    | (go_at_call 58; (with_reducible refine (qread_m _ (some ad) c zs 3 false x2 _ HRD.out h0 h03).mono ?_); rw [HR.out]; rintro e w' ⟨v, w2, rfl, rfl, hst, r2, g2⟩; have HS0 : Hid (Stays (w1.alloc (.cells #[.slice (some ad) (m + 4 : Nat) c, .int .i64 3, .bool false] 103)).heap.size w2 v x2 M') := hst; obtain ⟨cs, rfl, hcs, hones⟩ := qv_agg HS0.out.self; have HCS := Lib.hid hcs; have HONE := Lib.hid hones; clear hst hcs hones; have HST : Hid (Stays (w1.heap.size + 1) w2 (.agg cs) x2 M') := (by have := HS0.out; rwa [show (w1.alloc (.cells #[.slice (some ad) (m + 4 : Nat) c, .int .i64 3, .bool false] 103)).heap.size = w1.heap.size + 1 by simp] at this); have HB2 : Hid (Below w.heap.size w w2) := Below.grown HB1r.out g2 HB1r.out.size (fun q hq => by injection hq with hq; subst hq; omega); have KZ2 := Lib.hid (Blk.grown KZ1r.out g2 (by intro e; injection e with e; exact hwne e)); have HR2 := Lib.hid r2; have KN2 := Lib.hid (Blk.new w2 46 #[.int .i64 0, .int .i64 0, .int .i64 0, .int .i64 0, .int .i64 0, .int .i64 0, .int .i64 0, .int .i64 0, .int .i64 0, .int .i64 0, .int .i64 0, .string ⟨#[]⟩, .int .i64 0, .int .i64 0, .bool false, .int .i64 0, .string ⟨#[]⟩, .int .i64 0, .int .i64 0, .int .i64 0, .int .i64 0, .int .i64 0, .int .i64 0, .slice none 0 0, .bool false, .int .i64 0, .int .i64 0]); have HI : Hid ((Try.prog.info? 46).map (·.size) = some cs.size) := (by unfold Hid; rw [HCS.out]; kernel_rfl); have HSZ : Hid ((#[.int .i64 0, .int .i64 0, .int .i64 0, .int .i64 0, .int .i64 0, .int .i64 0, .int .i64 0, .int .i64 0, .int .i64 0, .int .i64 0, .int .i64 0, .string ⟨#[]⟩, .int .i64 0, .int .i64 0, .bool false, .int .i64 0, .string ⟨#[]⟩, .int .i64 0, .int .i64 0, .int .i64 0, .int .i64 0, .int .i64 0, .int .i64 0, .slice none 0 0, .bool false, .int .i64 0, .int .i64 0] : Array Value).size = cs.size) := HCS.out.symm; clear r2 g2)
    | (have KN_ : Blk (w2.alloc (.cells #[.int .i64 0, .int .i64 0, .int .i64 0, .int .i64 0, .int .i64 0, .int .i64 0, .int .i64 0, .int .i64 0, .int .i64 0, .int .i64 0, .int .i64 0, .string ⟨#[]⟩, .int .i64 0, .int .i64 0, .bool false, .int .i64 0, .string ⟨#[]⟩, .int .i64 0, .int .i64 0, .int .i64 0, .int .i64 0, .int .i64 0, .int .i64 0, .slice none 0 0, .bool false, .int .i64 0, .int .i64 0] 46)) w2.heap.size 46 #[.int .i64 0, .int .i64 0, .int .i64 0, .int .i64 0, .int .i64 0, .int .i64 0, .int .i64 0, .int .i64 0, .int .i64 0, .int .i64 0, .int .i64 0, .string ⟨#[]⟩, .int .i64 0, .int .i64 0, .bool false, .int .i64 0, .string ⟨#[]⟩, .int .i64 0, .int .i64 0, .int .i64 0, .int .i64 0, .int .i64 0, .int .i64 0, .slice none 0 0, .bool false, .int .i64 0, .int .i64 0] := KN2.out; refine wpList_store_row rfl 46 (.tmp 7) (.tmp 41) rfl w2.heap.size cs rfl rfl 46 _ KN_ HI.out HSZ.out HONE.out ?_; have hs3 : Below w2.heap.size w2 ((w2.alloc (.cells #[.int .i64 0, .int .i64 0, .int .i64 0, .int .i64 0, .int .i64 0, .int .i64 0, .int .i64 0, .int .i64 0, .int .i64 0, .int .i64 0, .int .i64 0, .string ⟨#[]⟩, .int .i64 0, .int .i64 0, .bool false, .int .i64 0, .string ⟨#[]⟩, .int .i64 0, .int .i64 0, .int .i64 0, .int .i64 0, .int .i64 0, .int .i64 0, .slice none 0 0, .bool false, .int .i64 0, .int .i64 0] 46)).setRow w2.heap.size cs) := below_setRow (bel_alloc _ _) (Nat.le_refl _) _; have hk3 : Blk ((w2.alloc (.cells #[.int .i64 0, .int .i64 0, .int .i64 0, .int .i64 0, .int .i64 0, .int .i64 0, .int .i64 0, .int .i64 0, .int .i64 0, .int .i64 0, .int .i64 0, .string ⟨#[]⟩, .int .i64 0, .int .i64 0, .bool false, .int .i64 0, .string ⟨#[]⟩, .int .i64 0, .int .i64 0, .int .i64 0, .int .i64 0, .int .i64 0, .int .i64 0, .slice none 0 0, .bool false, .int .i64 0, .int .i64 0] 46)).setRow w2.heap.size cs) w2.heap.size 46 cs := setRow_heap _ _ _ _ _ _ KN_; clear KN_ KN2; revert hs3 hk3; generalize World.setRow _ _ _ = w3; intro hs3 hk3; have HST3 := Lib.hid (HST.out.below hs3); have HB3 := Lib.hid (bel3 HB2.out hs3); have KZ3 := Lib.hid (KZ2.out.below hs3 KZ2.out.lt); have KM3 := Lib.hid hk3; have HR3 := Lib.hid (HR2.out.below hs3); clear hs3 hk3)
    | (have KM_ : Blk w3 _ _ _ := KM3.out; refine wpList_load_row (by rfl) 46 (.tmp 7) (by rfl) w2.heap.size (by rfl) 46 _ (0, 0) _ KM_ Try.underlying46 (by rfl) HI.out ?_)
    | (go_at_call 15; (with_reducible refine (refencno_q _ x2 M' _ HST3.out.self HSM.out HM.out).mono ?_); rintro e w' ⟨w4, rfl, rfl, k4⟩; have HST4 := Lib.hid (HST3.out.below k4); have HB4 := Lib.hid (bel3 HB3.out k4); have KZ4 := Lib.hid (KZ3.out.below k4 KZ3.out.lt); have KM4 := Lib.hid (KM3.out.below k4 KM3.out.lt); have HR4 := Lib.hid (HR3.out.below k4); have HBR4 : Hid (BReads w4 (some ad) (m + 4) zs) := H00.out.below HB4.out; have rc2 : w4.cell? ⟨w1.heap.size, 2, none⟩ = some (.bool true) := HR4.out.cells.2.1; have kc2 : (convert 39 9 (.slice (some ad) (m + 4 : Nat) c)).run Try.prog w4 = .ok (.string S2) w4 := (by rw [← HS2.out]; exact conv_any HBR4.out c); clear k4)
    | (have KZ_ : Blk w4 _ _ _ := KZ4.out; refine wpList_store_row rfl 46 (.tmp 2) (.tmp 62) rfl w.heap.size #[.int .i64 0, .int .i64 0, .int .i64 0, .int .i64 0, .int .i64 0, .int .i64 0, .int .i64 0, .int .i64 0, .int .i64 0, .int .i64 0, .int .i64 0, .string ⟨#[]⟩, .int .i64 0, .int .i64 0, .bool false, .int .i64 0, .string ⟨#[]⟩, .int .i64 0, .int .i64 0, .int .i64 0, .int .i64 0, .int .i64 0, .int .i64 0, .slice none 0 0, .bool false, .int .i64 0, .int .i64 0] rfl rfl 46 _ KZ_ (by kernel_rfl) (by kernel_rfl) (by kernel_rfl) ?_))
  (try simp only [Exit.inBlock, Exit.then])
  refine bodyPost_ret (results_cell_row2 rfl _ _ w.heap.size 46 #[.int .i64 0, .int .i64 0, .int .i64 0, .int .i64 0, .int .i64 0, .int .i64 0, .int .i64 0, .int .i64 0, .int .i64 0, .int .i64 0, .int .i64 0, .string ⟨#[]⟩, .int .i64 0, .int .i64 0, .bool false, .int .i64 0, .string ⟨#[]⟩, .int .i64 0, .int .i64 0, .int .i64 0, .int .i64 0, .int .i64 0, .int .i64 0, .slice none 0 0, .bool false, .int .i64 0, .int .i64 0] (0, 0) _ rfl (setRow_heap _ _ _ _ _ _ KZ4.out) Try.underlying46 rfl (by kernel_rfl)) rfl ?_
  exact ⟨_, _, rfl, rfl, rfl, below_setRow HB4.out (Nat.le_refl _) _⟩
set_option maxHeartbeats 8000000 in
theorem rdec_no_false (A : Option Addr) (m c : Nat) (zs : List Int) (w : World) (h : BReads w A (m + 4) zs) (hc : m + 4 ≤ c) (hcm : c ≤ 9223372036854775807) (h1 : 3 ≤ m) (h2 : m ≤ 1020) (h3 : numI zs 0 2 = (m + 4 : Nat)) (h4 : numI zs m 4 = addI 0 (zs.take m)) (M' : M) (a' : Nat) (b' : Bool) (hR : readR zs (gi zs 2) 3 false = (M', a', b')) (hm : mayM M' = false) (hb : b' = false) :
    Calls Try.prog 26 #[.slice A (m + 4 : Nat) c] w (RDecTo w (8, .none)) := by
  have KZ : Hid (Blk (w.alloc (.cells #[.int .i64 0, .int .i64 0, .int .i64 0, .int .i64 0, .int .i64 0, .int .i64 0, .int .i64 0, .int .i64 0, .int .i64 0, .int .i64 0, .int .i64 0, .string ⟨#[]⟩, .int .i64 0, .int .i64 0, .bool false, .int .i64 0, .string ⟨#[]⟩, .int .i64 0, .int .i64 0, .int .i64 0, .int .i64 0, .int .i64 0, .int .i64 0, .slice none 0 0, .bool false, .int .i64 0, .int .i64 0] 46)) w.heap.size 46 #[.int .i64 0, .int .i64 0, .int .i64 0, .int .i64 0, .int .i64 0, .int .i64 0, .int .i64 0, .int .i64 0, .int .i64 0, .int .i64 0, .int .i64 0, .string ⟨#[]⟩, .int .i64 0, .int .i64 0, .bool false, .int .i64 0, .string ⟨#[]⟩, .int .i64 0, .int .i64 0, .int .i64 0, .int .i64 0, .int .i64 0, .int .i64 0, .slice none 0 0, .bool false, .int .i64 0, .int .i64 0]) := Blk.new w _ _
  have b0 : (((m + 4 : Nat) : Int) != ((m + 4 : Nat) : Int)) = false := by simp
  have HE : Hid ((numI zs m 4 == addI 0 (zs.take m)) = true) := by unfold Hid; simpa using h4
  have hl4 : zs.length = m + 4 := h.1
  have h0 : 0 < zs.length := by omega
  have h03 : 3 ≤ zs.length := by omega
  obtain ⟨x2, hx2⟩ : ∃ x, gi zs 2 = x := ⟨_, rfl⟩
  obtain ⟨ad, hA, hc2⟩ := h.at_ 2 (by omega)
  have hrx := h.2.2.2 2
  rw [hx2] at hc2 hR hrx
  have hadl : ad.block < w.heap.size := by
    have := World.block_lt_of_cell? w _ hc2
    rwa [block_of_add] at this
  have hc2a : w.cell? ⟨ad.block, ad.off + 2, none⟩ = some (.int .u8 x2) := by
    have e : ad.add 2 = ⟨ad.block, ad.off + 2, none⟩ := by simp [Addr.add]
    rw [← e]; exact hc2
  have HC2 := Lib.hid hc2a
  have hsm : SmallM 60000 M' := by
    have h5 := readR_small zs x2 3 false
    rw [hR] at h5
    exact h5.of_len (by omega)
  have HSM := Lib.hid hsm
  have HR := Lib.hid hR
  have HZL := Lib.hid hl4
  have h1' : decide (((m + 4 : Nat) : Int) < 7) = false := decide_eq_false (by omega)
  have h2' : decide ((1024 : Int) < ((m + 4 : Nat) : Int)) = false := decide_eq_false (by omega)
  have h1'' : ¬ ((m + 4 : Nat) : Int) < 7 := by omega
  have h2'' : ¬ (1024 : Int) < ((m + 4 : Nat) : Int) := by omega
  have H : Hid (BReads (w.alloc (.cells #[.int .i64 0, .int .i64 0, .int .i64 0, .int .i64 0, .int .i64 0, .int .i64 0, .int .i64 0, .int .i64 0, .int .i64 0, .int .i64 0, .int .i64 0, .string ⟨#[]⟩, .int .i64 0, .int .i64 0, .bool false, .int .i64 0, .string ⟨#[]⟩, .int .i64 0, .int .i64 0, .int .i64 0, .int .i64 0, .int .i64 0, .int .i64 0, .slice none 0 0, .bool false, .int .i64 0, .int .i64 0] 46)) A (m + 4) zs) := h.below (bel_alloc _ _)
  have H00 := Lib.hid h
  have HT := Lib.hid h3
  have HO : Hid (numOk (m + 4) 0 2) := ⟨by omega, by omega, by omega, by omega⟩
  obtain ⟨S1, hS1⟩ : ∃ S, strOfNums (frameM M') = S := ⟨_, rfl⟩
  obtain ⟨S2, hS2⟩ : ∃ S, strOfNums zs = S := ⟨_, rfl⟩
  have HS1 := Lib.hid hS1
  have HS2 := Lib.hid hS2
  have HM := Lib.hid hm
  clear hS1 hS2
  subst hb
  clear hm
  clear h h3 h4 hc2 hc2a hx2 hR hsm
  subst hA
  go_enter Try.func26, Try.ntmps26
  go_wp2_with (first
    | (go_at_call 56; (with_reducible refine (refnum_yes _ _ _ 0 2 _ _ H.out HO.out).mono ?_); rintro e w' ⟨rfl, rfl⟩; rw [HT.out])
    | (go_at_call 57; (with_reducible refine (opened_any _ _ _ _ _ H.out hc (by omega)).mono ?_); rintro e w' ⟨w1, rfl, rfl, k1⟩; rw [HE.out]; have KZ1 := KZ.out.below k1 KZ.out.lt; have HB1 : Hid (Below w.heap.size w w1) := bel3 (bel_alloc _ _) k1; have hw1 : w.heap.size < w1.heap.size := (by have e1 := k1.size; have e2 := KZ1.lt; omega); have H1 := Lib.hid (H00.out.below HB1.out); have cc1 : (w1.alloc (.cells #[.slice (some ad) (m + 4 : Nat) c, .int .i64 3, .bool false] 103)).cell? ⟨ad.block, ad.off + 2, none⟩ = some (.int .u8 x2) := cell_keep HC2.out (bel2 HB1.out (bel_alloc _ _)); have cc2 : (w1.alloc (.cells #[.slice (some ad) (m + 4 : Nat) c, .int .i64 3, .bool false] 103)).cell? ⟨ad.block, ad.off + 1 + 1, none⟩ = some (.int .u8 x2) := cc1; have HRD : Hid (Rd 103 (w1.alloc (.cells #[.slice (some ad) (m + 4 : Nat) c, .int .i64 3, .bool false] 103)) w1.heap.size (some ad) c zs 3 false) := (⟨by rw [HZL.out]; exact Blk.new w1 _ _, by rw [HZL.out]; exact H1.out.below (bel_alloc _ _), by rw [HZL.out]; exact hc, hcm, fun ad2 e => by injection e with e; subst e; omega⟩); have HB1r : Hid (Below w.heap.size w (w1.alloc (.cells #[.slice (some ad) (m + 4 : Nat) c, .int .i64 3, .bool false] 103))) := bel2 HB1.out (bel_alloc _ _); have KZ1r : Hid (Blk (w1.alloc (.cells #[.slice (some ad) (m + 4 : Nat) c, .int .i64 3, .bool false] 103)) w.heap.size 46 #[.int .i64 0, .int .i64 0, .int .i64 0, .int .i64 0, .int .i64 0, .int .i64 0, .int .i64 0, .int .i64 0, .int .i64 0, .int .i64 0, .int .i64 0, .string ⟨#[]⟩, .int .i64 0, .int .i64 0, .bool false, .int .i64 0, .string ⟨#[]⟩, .int .i64 0, .int .i64 0, .int .i64 0, .int .i64 0, .int .i64 0, .int .i64 0, .slice none 0 0, .bool false, .int .i64 0, .int .i64 0]) := Blk.alloc KZ1 _; have hwne : ¬ w.heap.size = w1.heap.size := (by omega); clear k1)
    | (go_at_call 58; (with_reducible refine (qread_m _ (some ad) c zs 3 false x2 _ HRD.out h0 h03).mono ?_); rw [HR.out]; rintro e w' ⟨v, w2, rfl, rfl, hst, r2, g2⟩; have HS0 : Hid (Stays (w1.alloc (.cells #[.slice (some ad) (m + 4 : Nat) c, .int .i64 3, .bool false] 103)).heap.size w2 v x2 M') := hst; obtain ⟨cs, rfl, hcs, hones⟩ := qv_agg HS0.out.self; have HCS := Lib.hid hcs; have HONE := Lib.hid hones; clear hst hcs hones; have HST : Hid (Stays (w1.heap.size + 1) w2 (.agg cs) x2 M') := (by have := HS0.out; rwa [show (w1.alloc (.cells #[.slice (some ad) (m + 4 : Nat) c, .int .i64 3, .bool false] 103)).heap.size = w1.heap.size + 1 by simp] at this); have HB2 : Hid (Below w.heap.size w w2) := Below.grown HB1r.out g2 HB1r.out.size (fun q hq => by injection hq with hq; subst hq; omega); have KZ2 := Lib.hid (Blk.grown KZ1r.out g2 (by intro e; injection e with e; exact hwne e)); have HR2 := Lib.hid r2; have KN2 := Lib.hid (Blk.new w2 46 #[.int .i64 0, .int .i64 0, .int .i64 0, .int .i64 0, .int .i64 0, .int .i64 0, .int .i64 0, .int .i64 0, .int .i64 0, .int .i64 0, .int .i64 0, .string ⟨#[]⟩, .int .i64 0, .int .i64 0, .bool false, .int .i64 0, .string ⟨#[]⟩, .int .i64 0, .int .i64 0, .int .i64 0, .int .i64 0, .int .i64 0, .int .i64 0, .slice none 0 0, .bool false, .int .i64 0, .int .i64 0]); have HI : Hid ((Try.prog.info? 46).map (·.size) = some cs.size) := (by unfold Hid; rw [HCS.out]; kernel_rfl); have HSZ : Hid ((#[.int .i64 0, .int .i64 0, .int .i64 0, .int .i64 0, .int .i64 0, .int .i64 0, .int .i64 0, .int .i64 0, .int .i64 0, .int .i64 0, .int .i64 0, .string ⟨#[]⟩, .int .i64 0, .int .i64 0, .bool false, .int .i64 0, .string ⟨#[]⟩, .int .i64 0, .int .i64 0, .int .i64 0, .int .i64 0, .int .i64 0, .int .i64 0, .slice none 0 0, .bool false, .int .i64 0, .int .i64 0] : Array Value).size = cs.size) := HCS.out.symm; clear r2 g2)
    | (have KN_ : Blk (w2.alloc (.cells #[.int .i64 0, .int .i64 0, .int .i64 0, .int .i64 0, .int .i64 0, .int .i64 0, .int .i64 0, .int .i64 0, .int .i64 0, .int .i64 0, .int .i64 0, .string ⟨#[]⟩, .int .i64 0, .int .i64 0, .bool false, .int .i64 0, .string ⟨#[]⟩, .int .i64 0, .int .i64 0, .int .i64 0, .int .i64 0, .int .i64 0, .int .i64 0, .slice none 0 0, .bool false, .int .i64 0, .int .i64 0] 46)) w2.heap.size 46 #[.int .i64 0, .int .i64 0, .int .i64 0, .int .i64 0, .int .i64 0, .int .i64 0, .int .i64 0, .int .i64 0, .int .i64 0, .int .i64 0, .int .i64 0, .string ⟨#[]⟩, .int .i64 0, .int .i64 0, .bool false, .int .i64 0, .string ⟨#[]⟩, .int .i64 0, .int .i64 0, .int .i64 0, .int .i64 0, .int .i64 0, .int .i64 0, .slice none 0 0, .bool false, .int .i64 0, .int .i64 0] := KN2.out; refine wpList_store_row rfl 46 (.tmp 7) (.tmp 41) rfl w2.heap.size cs rfl rfl 46 _ KN_ HI.out HSZ.out HONE.out ?_; have hs3 : Below w2.heap.size w2 ((w2.alloc (.cells #[.int .i64 0, .int .i64 0, .int .i64 0, .int .i64 0, .int .i64 0, .int .i64 0, .int .i64 0, .int .i64 0, .int .i64 0, .int .i64 0, .int .i64 0, .string ⟨#[]⟩, .int .i64 0, .int .i64 0, .bool false, .int .i64 0, .string ⟨#[]⟩, .int .i64 0, .int .i64 0, .int .i64 0, .int .i64 0, .int .i64 0, .int .i64 0, .slice none 0 0, .bool false, .int .i64 0, .int .i64 0] 46)).setRow w2.heap.size cs) := below_setRow (bel_alloc _ _) (Nat.le_refl _) _; have hk3 : Blk ((w2.alloc (.cells #[.int .i64 0, .int .i64 0, .int .i64 0, .int .i64 0, .int .i64 0, .int .i64 0, .int .i64 0, .int .i64 0, .int .i64 0, .int .i64 0, .int .i64 0, .string ⟨#[]⟩, .int .i64 0, .int .i64 0, .bool false, .int .i64 0, .string ⟨#[]⟩, .int .i64 0, .int .i64 0, .int .i64 0, .int .i64 0, .int .i64 0, .int .i64 0, .slice none 0 0, .bool false, .int .i64 0, .int .i64 0] 46)).setRow w2.heap.size cs) w2.heap.size 46 cs := setRow_heap _ _ _ _ _ _ KN_; clear KN_ KN2; revert hs3 hk3; generalize World.setRow _ _ _ = w3; intro hs3 hk3; have HST3 := Lib.hid (HST.out.below hs3); have HB3 := Lib.hid (bel3 HB2.out hs3); have KZ3 := Lib.hid (KZ2.out.below hs3 KZ2.out.lt); have KM3 := Lib.hid hk3; have HR3 := Lib.hid (HR2.out.below hs3); clear hs3 hk3)
    | (have KM_ : Blk w3 _ _ _ := KM3.out; refine wpList_load_row (by rfl) 46 (.tmp 7) (by rfl) w2.heap.size (by rfl) 46 _ (0, 0) _ KM_ Try.underlying46 (by rfl) HI.out ?_)
    | (go_at_call 15; (with_reducible refine (refencno_q _ x2 M' _ HST3.out.self HSM.out HM.out).mono ?_); rintro e w' ⟨w4, rfl, rfl, k4⟩; have HST4 := Lib.hid (HST3.out.below k4); have HB4 := Lib.hid (bel3 HB3.out k4); have KZ4 := Lib.hid (KZ3.out.below k4 KZ3.out.lt); have KM4 := Lib.hid (KM3.out.below k4 KM3.out.lt); have HR4 := Lib.hid (HR3.out.below k4); have HBR4 : Hid (BReads w4 (some ad) (m + 4) zs) := H00.out.below HB4.out; have rc2 : w4.cell? ⟨w1.heap.size, 2, none⟩ = some (.bool false) := HR4.out.cells.2.1; have kc2 : (convert 39 9 (.slice (some ad) (m + 4 : Nat) c)).run Try.prog w4 = .ok (.string S2) w4 := (by rw [← HS2.out]; exact conv_any HBR4.out c); clear k4)
    | (have KZ_ : Blk w4 _ _ _ := KZ4.out; refine wpList_store_row rfl 46 (.tmp 2) (.tmp 62) rfl w.heap.size #[.int .i64 0, .int .i64 0, .int .i64 0, .int .i64 0, .int .i64 0, .int .i64 0, .int .i64 0, .int .i64 0, .int .i64 0, .int .i64 0, .int .i64 0, .string ⟨#[]⟩, .int .i64 0, .int .i64 0, .bool false, .int .i64 0, .string ⟨#[]⟩, .int .i64 0, .int .i64 0, .int .i64 0, .int .i64 0, .int .i64 0, .int .i64 0, .slice none 0 0, .bool false, .int .i64 0, .int .i64 0] rfl rfl 46 _ KZ_ (by kernel_rfl) (by kernel_rfl) (by kernel_rfl) ?_))
  (try simp only [Exit.inBlock, Exit.then])
  refine bodyPost_ret (results_cell_row2 rfl _ _ w.heap.size 46 #[.int .i64 0, .int .i64 0, .int .i64 0, .int .i64 0, .int .i64 0, .int .i64 0, .int .i64 0, .int .i64 0, .int .i64 0, .int .i64 0, .int .i64 0, .string ⟨#[]⟩, .int .i64 0, .int .i64 0, .bool false, .int .i64 0, .string ⟨#[]⟩, .int .i64 0, .int .i64 0, .int .i64 0, .int .i64 0, .int .i64 0, .int .i64 0, .slice none 0 0, .bool false, .int .i64 0, .int .i64 0] (0, 0) _ rfl (setRow_heap _ _ _ _ _ _ KZ4.out) Try.underlying46 rfl (by kernel_rfl)) rfl ?_
  exact ⟨_, _, rfl, rfl, rfl, below_setRow HB4.out (Nat.le_refl _) _⟩
set_option maxHeartbeats 8000000 in
theorem rdec_bad (A : Option Addr) (m c : Nat) (zs : List Int) (w : World) (h : BReads w A (m + 4) zs) (hc : m + 4 ≤ c) (hcm : c ≤ 9223372036854775807) (h1 : 3 ≤ m) (h2 : m ≤ 1020) (h3 : numI zs 0 2 = (m + 4 : Nat)) (h4 : numI zs m 4 = addI 0 (zs.take m)) (M' : M) (a' : Nat) (b' : Bool) (hR : readR zs (gi zs 2) 3 false = (M', a', b')) (hm : mayM M' = true) (hb : b' = true) :
    Calls Try.prog 26 #[.slice A (m + 4 : Nat) c] w (RDecTo w (8, .none)) := by
  have KZ : Hid (Blk (w.alloc (.cells #[.int .i64 0, .int .i64 0, .int .i64 0, .int .i64 0, .int .i64 0, .int .i64 0, .int .i64 0, .int .i64 0, .int .i64 0, .int .i64 0, .int .i64 0, .string ⟨#[]⟩, .int .i64 0, .int .i64 0, .bool false, .int .i64 0, .string ⟨#[]⟩, .int .i64 0, .int .i64 0, .int .i64 0, .int .i64 0, .int .i64 0, .int .i64 0, .slice none 0 0, .bool false, .int .i64 0, .int .i64 0] 46)) w.heap.size 46 #[.int .i64 0, .int .i64 0, .int .i64 0, .int .i64 0, .int .i64 0, .int .i64 0, .int .i64 0, .int .i64 0, .int .i64 0, .int .i64 0, .int .i64 0, .string ⟨#[]⟩, .int .i64 0, .int .i64 0, .bool false, .int .i64 0, .string ⟨#[]⟩, .int .i64 0, .int .i64 0, .int .i64 0, .int .i64 0, .int .i64 0, .int .i64 0, .slice none 0 0, .bool false, .int .i64 0, .int .i64 0]) := Blk.new w _ _
  have b0 : (((m + 4 : Nat) : Int) != ((m + 4 : Nat) : Int)) = false := by simp
  have HE : Hid ((numI zs m 4 == addI 0 (zs.take m)) = true) := by unfold Hid; simpa using h4
  have hl4 : zs.length = m + 4 := h.1
  have h0 : 0 < zs.length := by omega
  have h03 : 3 ≤ zs.length := by omega
  obtain ⟨x2, hx2⟩ : ∃ x, gi zs 2 = x := ⟨_, rfl⟩
  obtain ⟨ad, hA, hc2⟩ := h.at_ 2 (by omega)
  have hrx := h.2.2.2 2
  rw [hx2] at hc2 hR hrx
  have hadl : ad.block < w.heap.size := by
    have := World.block_lt_of_cell? w _ hc2
    rwa [block_of_add] at this
  have hc2a : w.cell? ⟨ad.block, ad.off + 2, none⟩ = some (.int .u8 x2) := by
    have e : ad.add 2 = ⟨ad.block, ad.off + 2, none⟩ := by simp [Addr.add]
    rw [← e]; exact hc2
  have HC2 := Lib.hid hc2a
  have hsm : SmallM 60000 M' := by
    have h5 := readR_small zs x2 3 false
    rw [hR] at h5
    exact h5.of_len (by omega)
  have HSM := Lib.hid hsm
  have HR := Lib.hid hR
  have HZL := Lib.hid hl4
  have h1' : decide (((m + 4 : Nat) : Int) < 7) = false := decide_eq_false (by omega)
  have h2' : decide ((1024 : Int) < ((m + 4 : Nat) : Int)) = false := decide_eq_false (by omega)
  have h1'' : ¬ ((m + 4 : Nat) : Int) < 7 := by omega
  have h2'' : ¬ (1024 : Int) < ((m + 4 : Nat) : Int) := by omega
  have H : Hid (BReads (w.alloc (.cells #[.int .i64 0, .int .i64 0, .int .i64 0, .int .i64 0, .int .i64 0, .int .i64 0, .int .i64 0, .int .i64 0, .int .i64 0, .int .i64 0, .int .i64 0, .string ⟨#[]⟩, .int .i64 0, .int .i64 0, .bool false, .int .i64 0, .string ⟨#[]⟩, .int .i64 0, .int .i64 0, .int .i64 0, .int .i64 0, .int .i64 0, .int .i64 0, .slice none 0 0, .bool false, .int .i64 0, .int .i64 0] 46)) A (m + 4) zs) := h.below (bel_alloc _ _)
  have H00 := Lib.hid h
  have HT := Lib.hid h3
  have HO : Hid (numOk (m + 4) 0 2) := ⟨by omega, by omega, by omega, by omega⟩
  obtain ⟨S1, hS1⟩ : ∃ S, strOfNums (frameM M') = S := ⟨_, rfl⟩
  obtain ⟨S2, hS2⟩ : ∃ S, strOfNums zs = S := ⟨_, rfl⟩
  have HS1 := Lib.hid hS1
  have HS2 := Lib.hid hS2
  have HM := Lib.hid hm
  obtain ⟨L, hL⟩ : ∃ L, (frameM M').length = L := ⟨_, rfl⟩
  have HLL := Lib.hid hL
  clear hS1 hS2
  subst hb
  clear hL
  clear hm
  clear h h3 h4 hc2 hc2a hx2 hR hsm
  subst hA
  go_enter Try.func26, Try.ntmps26
  go_wp2_with (first
    | (go_at_call 56; (with_reducible refine (refnum_yes _ _ _ 0 2 _ _ H.out HO.out).mono ?_); rintro e w' ⟨rfl, rfl⟩; rw [HT.out])
    | (go_at_call 57; (with_reducible refine (opened_any _ _ _ _ _ H.out hc (by omega)).mono ?_); rintro e w' ⟨w1, rfl, rfl, k1⟩; rw [HE.out]; have KZ1 := KZ.out.below k1 KZ.out.lt; have HB1 : Hid (Below w.heap.size w w1) := bel3 (bel_alloc _ _) k1; have hw1 : w.heap.size < w1.heap.size := (by have e1 := k1.size; have e2 := KZ1.lt; omega); have H1 := Lib.hid (H00.out.below HB1.out); have cc1 : (w1.alloc (.cells #[.slice (some ad) (m + 4 : Nat) c, .int .i64 3, .bool false] 103)).cell? ⟨ad.block, ad.off + 2, none⟩ = some (.int .u8 x2) := cell_keep HC2.out (bel2 HB1.out (bel_alloc _ _)); have cc2 : (w1.alloc (.cells #[.slice (some ad) (m + 4 : Nat) c, .int .i64 3, .bool false] 103)).cell? ⟨ad.block, ad.off + 1 + 1, none⟩ = some (.int .u8 x2) := cc1; have HRD : Hid (Rd 103 (w1.alloc (.cells #[.slice (some ad) (m + 4 : Nat) c, .int .i64 3, .bool false] 103)) w1.heap.size (some ad) c zs 3 false) := (⟨by rw [HZL.out]; exact Blk.new w1 _ _, by rw [HZL.out]; exact H1.out.below (bel_alloc _ _), by rw [HZL.out]; exact hc, hcm, fun ad2 e => by injection e with e; subst e; omega⟩); have HB1r : Hid (Below w.heap.size w (w1.alloc (.cells #[.slice (some ad) (m + 4 : Nat) c, .int .i64 3, .bool false] 103))) := bel2 HB1.out (bel_alloc _ _); have KZ1r : Hid (Blk (w1.alloc (.cells #[.slice (some ad) (m + 4 : Nat) c, .int .i64 3, .bool false] 103)) w.heap.size 46 #[.int .i64 0, .int .i64 0, .int .i64 0, .int .i64 0, .int .i64 0, .int .i64 0, .int .i64 0, .int .i64 0, .int .i64 0, .int .i64 0, .int .i64 0, .string ⟨#[]⟩, .int .i64 0, .int .i64 0, .bool false, .int .i64 0, .string ⟨#[]⟩, .int .i64 0, .int .i64 0, .int .i64 0, .int .i64 0, .int .i64 0, .int .i64 0, .slice none 0 0, .bool false, .int .i64 0, .int .i64 0]) := Blk.alloc KZ1 _; have hwne : ¬ w.heap.size = w1.heap.size := (by omega); clear k1)
    | (go_at_call 58; (with_reducible refine (qread_m _ (some ad) c zs 3 false x2 _ HRD.out h0 h03).mono ?_); rw [HR.out]; rintro e w' ⟨v, w2, rfl, rfl, hst, r2, g2⟩; have HS0 : Hid (Stays (w1.alloc (.cells #[.slice (some ad) (m + 4 : Nat) c, .int .i64 3, .bool false] 103)).heap.size w2 v x2 M') := hst; obtain ⟨cs, rfl, hcs, hones⟩ := qv_agg HS0.out.self; have HCS := Lib.hid hcs; have HONE := Lib.hid hones; clear hst hcs hones; have HST : Hid (Stays (w1.heap.size + 1) w2 (.agg cs) x2 M') := (by have := HS0.out; rwa [show (w1.alloc (.cells #[.slice (some ad) (m + 4 : Nat) c, .int .i64 3, .bool false] 103)).heap.size = w1.heap.size + 1 by simp] at this); have HB2 : Hid (Below w.heap.size w w2) := Below.grown HB1r.out g2 HB1r.out.size (fun q hq => by injection hq with hq; subst hq; omega); have KZ2 := Lib.hid (Blk.grown KZ1r.out g2 (by intro e; injection e with e; exact hwne e)); have HR2 := Lib.hid r2; have KN2 := Lib.hid (Blk.new w2 46 #[.int .i64 0, .int .i64 0, .int .i64 0, .int .i64 0, .int .i64 0, .int .i64 0, .int .i64 0, .int .i64 0, .int .i64 0, .int .i64 0, .int .i64 0, .string ⟨#[]⟩, .int .i64 0, .int .i64 0, .bool false, .int .i64 0, .string ⟨#[]⟩, .int .i64 0, .int .i64 0, .int .i64 0, .int .i64 0, .int .i64 0, .int .i64 0, .slice none 0 0, .bool false, .int .i64 0, .int .i64 0]); have HI : Hid ((Try.prog.info? 46).map (·.size) = some cs.size) := (by unfold Hid; rw [HCS.out]; kernel_rfl); have HSZ : Hid ((#[.int .i64 0, .int .i64 0, .int .i64 0, .int .i64 0, .int .i64 0, .int .i64 0, .int .i64 0, .int .i64 0, .int .i64 0, .int .i64 0, .int .i64 0, .string ⟨#[]⟩, .int .i64 0, .int .i64 0, .bool false, .int .i64 0, .string ⟨#[]⟩, .int .i64 0, .int .i64 0, .int .i64 0, .int .i64 0, .int .i64 0, .int .i64 0, .slice none 0 0, .bool false, .int .i64 0, .int .i64 0] : Array Value).size = cs.size) := HCS.out.symm; clear r2 g2)
    | (have KN_ : Blk (w2.alloc (.cells #[.int .i64 0, .int .i64 0, .int .i64 0, .int .i64 0, .int .i64 0, .int .i64 0, .int .i64 0, .int .i64 0, .int .i64 0, .int .i64 0, .int .i64 0, .string ⟨#[]⟩, .int .i64 0, .int .i64 0, .bool false, .int .i64 0, .string ⟨#[]⟩, .int .i64 0, .int .i64 0, .int .i64 0, .int .i64 0, .int .i64 0, .int .i64 0, .slice none 0 0, .bool false, .int .i64 0, .int .i64 0] 46)) w2.heap.size 46 #[.int .i64 0, .int .i64 0, .int .i64 0, .int .i64 0, .int .i64 0, .int .i64 0, .int .i64 0, .int .i64 0, .int .i64 0, .int .i64 0, .int .i64 0, .string ⟨#[]⟩, .int .i64 0, .int .i64 0, .bool false, .int .i64 0, .string ⟨#[]⟩, .int .i64 0, .int .i64 0, .int .i64 0, .int .i64 0, .int .i64 0, .int .i64 0, .slice none 0 0, .bool false, .int .i64 0, .int .i64 0] := KN2.out; refine wpList_store_row rfl 46 (.tmp 7) (.tmp 41) rfl w2.heap.size cs rfl rfl 46 _ KN_ HI.out HSZ.out HONE.out ?_; have hs3 : Below w2.heap.size w2 ((w2.alloc (.cells #[.int .i64 0, .int .i64 0, .int .i64 0, .int .i64 0, .int .i64 0, .int .i64 0, .int .i64 0, .int .i64 0, .int .i64 0, .int .i64 0, .int .i64 0, .string ⟨#[]⟩, .int .i64 0, .int .i64 0, .bool false, .int .i64 0, .string ⟨#[]⟩, .int .i64 0, .int .i64 0, .int .i64 0, .int .i64 0, .int .i64 0, .int .i64 0, .slice none 0 0, .bool false, .int .i64 0, .int .i64 0] 46)).setRow w2.heap.size cs) := below_setRow (bel_alloc _ _) (Nat.le_refl _) _; have hk3 : Blk ((w2.alloc (.cells #[.int .i64 0, .int .i64 0, .int .i64 0, .int .i64 0, .int .i64 0, .int .i64 0, .int .i64 0, .int .i64 0, .int .i64 0, .int .i64 0, .int .i64 0, .string ⟨#[]⟩, .int .i64 0, .int .i64 0, .bool false, .int .i64 0, .string ⟨#[]⟩, .int .i64 0, .int .i64 0, .int .i64 0, .int .i64 0, .int .i64 0, .int .i64 0, .slice none 0 0, .bool false, .int .i64 0, .int .i64 0] 46)).setRow w2.heap.size cs) w2.heap.size 46 cs := setRow_heap _ _ _ _ _ _ KN_; clear KN_ KN2; revert hs3 hk3; generalize World.setRow _ _ _ = w3; intro hs3 hk3; have HST3 := Lib.hid (HST.out.below hs3); have HB3 := Lib.hid (bel3 HB2.out hs3); have KZ3 := Lib.hid (KZ2.out.below hs3 KZ2.out.lt); have KM3 := Lib.hid hk3; have HR3 := Lib.hid (HR2.out.below hs3); clear hs3 hk3)
    | (have KM_ : Blk w3 _ _ _ := KM3.out; refine wpList_load_row (by rfl) 46 (.tmp 7) (by rfl) w2.heap.size (by rfl) 46 _ (0, 0) _ KM_ Try.underlying46 (by rfl) HI.out ?_)
    | (go_at_call 15; (with_reducible refine (refenc_q _ x2 M' L _ HST3.out.self HM.out HLL.out).mono ?_); rintro e w' ⟨A6, c6, w4, rfl, rfl, r6, hc6, hcm6, k4⟩; have kc1 : (convert 39 9 (.slice A6 L c6)).run Try.prog w4 = .ok (.string S1) w4 := (by rw [← HS1.out]; exact conv_any r6 c6); clear r6; have HST4 := Lib.hid (HST3.out.below k4); have HB4 := Lib.hid (bel3 HB3.out k4); have KZ4 := Lib.hid (KZ3.out.below k4 KZ3.out.lt); have KM4 := Lib.hid (KM3.out.below k4 KM3.out.lt); have HR4 := Lib.hid (HR3.out.below k4); have HBR4 : Hid (BReads w4 (some ad) (m + 4) zs) := H00.out.below HB4.out; have rc2 : w4.cell? ⟨w1.heap.size, 2, none⟩ = some (.bool true) := HR4.out.cells.2.1; have kc2 : (convert 39 9 (.slice (some ad) (m + 4 : Nat) c)).run Try.prog w4 = .ok (.string S2) w4 := (by rw [← HS2.out]; exact conv_any HBR4.out c); clear k4)
    | (have KZ_ : Blk w4 _ _ _ := KZ4.out; refine wpList_store_row rfl 46 (.tmp 2) (.tmp 62) rfl w.heap.size #[.int .i64 0, .int .i64 0, .int .i64 0, .int .i64 0, .int .i64 0, .int .i64 0, .int .i64 0, .int .i64 0, .int .i64 0, .int .i64 0, .int .i64 0, .string ⟨#[]⟩, .int .i64 0, .int .i64 0, .bool false, .int .i64 0, .string ⟨#[]⟩, .int .i64 0, .int .i64 0, .int .i64 0, .int .i64 0, .int .i64 0, .int .i64 0, .slice none 0 0, .bool false, .int .i64 0, .int .i64 0] rfl rfl 46 _ KZ_ (by kernel_rfl) (by kernel_rfl) (by kernel_rfl) ?_))
  (try simp only [Exit.inBlock, Exit.then])
  refine bodyPost_ret (results_cell_row2 rfl _ _ w.heap.size 46 #[.int .i64 0, .int .i64 0, .int .i64 0, .int .i64 0, .int .i64 0, .int .i64 0, .int .i64 0, .int .i64 0, .int .i64 0, .int .i64 0, .int .i64 0, .string ⟨#[]⟩, .int .i64 0, .int .i64 0, .bool false, .int .i64 0, .string ⟨#[]⟩, .int .i64 0, .int .i64 0, .int .i64 0, .int .i64 0, .int .i64 0, .int .i64 0, .slice none 0 0, .bool false, .int .i64 0, .int .i64 0] (0, 0) _ rfl (setRow_heap _ _ _ _ _ _ KZ4.out) Try.underlying46 rfl (by kernel_rfl)) rfl ?_
  exact ⟨_, _, rfl, rfl, rfl, below_setRow HB4.out (Nat.le_refl _) _⟩
set_option maxHeartbeats 8000000 in
theorem rdec_unlike (A : Option Addr) (m c : Nat) (zs : List Int) (w : World) (h : BReads w A (m + 4) zs) (hc : m + 4 ≤ c) (hcm : c ≤ 9223372036854775807) (h1 : 3 ≤ m) (h2 : m ≤ 1020) (h3 : numI zs 0 2 = (m + 4 : Nat)) (h4 : numI zs m 4 = addI 0 (zs.take m)) (M' : M) (a' : Nat) (b' : Bool) (hR : readR zs (gi zs 2) 3 false = (M', a', b')) (hm : mayM M' = true) (hb : b' = false) (hf : frameM M' ≠ zs) :
    Calls Try.prog 26 #[.slice A (m + 4 : Nat) c] w (RDecTo w (8, .none)) := by
  have KZ : Hid (Blk (w.alloc (.cells #[.int .i64 0, .int .i64 0, .int .i64 0, .int .i64 0, .int .i64 0, .int .i64 0, .int .i64 0, .int .i64 0, .int .i64 0, .int .i64 0, .int .i64 0, .string ⟨#[]⟩, .int .i64 0, .int .i64 0, .bool false, .int .i64 0, .string ⟨#[]⟩, .int .i64 0, .int .i64 0, .int .i64 0, .int .i64 0, .int .i64 0, .int .i64 0, .slice none 0 0, .bool false, .int .i64 0, .int .i64 0] 46)) w.heap.size 46 #[.int .i64 0, .int .i64 0, .int .i64 0, .int .i64 0, .int .i64 0, .int .i64 0, .int .i64 0, .int .i64 0, .int .i64 0, .int .i64 0, .int .i64 0, .string ⟨#[]⟩, .int .i64 0, .int .i64 0, .bool false, .int .i64 0, .string ⟨#[]⟩, .int .i64 0, .int .i64 0, .int .i64 0, .int .i64 0, .int .i64 0, .int .i64 0, .slice none 0 0, .bool false, .int .i64 0, .int .i64 0]) := Blk.new w _ _
  have b0 : (((m + 4 : Nat) : Int) != ((m + 4 : Nat) : Int)) = false := by simp
  have HE : Hid ((numI zs m 4 == addI 0 (zs.take m)) = true) := by unfold Hid; simpa using h4
  have hl4 : zs.length = m + 4 := h.1
  have h0 : 0 < zs.length := by omega
  have h03 : 3 ≤ zs.length := by omega
  obtain ⟨x2, hx2⟩ : ∃ x, gi zs 2 = x := ⟨_, rfl⟩
  obtain ⟨ad, hA, hc2⟩ := h.at_ 2 (by omega)
  have hrx := h.2.2.2 2
  rw [hx2] at hc2 hR hrx
  have hadl : ad.block < w.heap.size := by
    have := World.block_lt_of_cell? w _ hc2
    rwa [block_of_add] at this
  have hc2a : w.cell? ⟨ad.block, ad.off + 2, none⟩ = some (.int .u8 x2) := by
    have e : ad.add 2 = ⟨ad.block, ad.off + 2, none⟩ := by simp [Addr.add]
    rw [← e]; exact hc2
  have HC2 := Lib.hid hc2a
  have hsm : SmallM 60000 M' := by
    have h5 := readR_small zs x2 3 false
    rw [hR] at h5
    exact h5.of_len (by omega)
  have HSM := Lib.hid hsm
  have HR := Lib.hid hR
  have HZL := Lib.hid hl4
  have h1' : decide (((m + 4 : Nat) : Int) < 7) = false := decide_eq_false (by omega)
  have h2' : decide ((1024 : Int) < ((m + 4 : Nat) : Int)) = false := decide_eq_false (by omega)
  have h1'' : ¬ ((m + 4 : Nat) : Int) < 7 := by omega
  have h2'' : ¬ (1024 : Int) < ((m + 4 : Nat) : Int) := by omega
  have H : Hid (BReads (w.alloc (.cells #[.int .i64 0, .int .i64 0, .int .i64 0, .int .i64 0, .int .i64 0, .int .i64 0, .int .i64 0, .int .i64 0, .int .i64 0, .int .i64 0, .int .i64 0, .string ⟨#[]⟩, .int .i64 0, .int .i64 0, .bool false, .int .i64 0, .string ⟨#[]⟩, .int .i64 0, .int .i64 0, .int .i64 0, .int .i64 0, .int .i64 0, .int .i64 0, .slice none 0 0, .bool false, .int .i64 0, .int .i64 0] 46)) A (m + 4) zs) := h.below (bel_alloc _ _)
  have H00 := Lib.hid h
  have HT := Lib.hid h3
  have HO : Hid (numOk (m + 4) 0 2) := ⟨by omega, by omega, by omega, by omega⟩
  obtain ⟨S1, hS1⟩ : ∃ S, strOfNums (frameM M') = S := ⟨_, rfl⟩
  obtain ⟨S2, hS2⟩ : ∃ S, strOfNums zs = S := ⟨_, rfl⟩
  have HS1 := Lib.hid hS1
  have HS2 := Lib.hid hS2
  have HM := Lib.hid hm
  obtain ⟨L, hL⟩ : ∃ L, (frameM M').length = L := ⟨_, rfl⟩
  have HLL := Lib.hid hL
  have hne : (!S1.toList == S2.toList) = true := by
    have h5 : ¬ S1.toList = S2.toList := by
      rw [← hS1, ← hS2, bs_toList]
      exact fun e => hf (str_inj (frameM_range M') h.range e)
    simp [h5]
  clear hS1 hS2
  subst hb
  clear hL hm hf
  clear h h3 h4 hc2 hc2a hx2 hR hsm
  subst hA
  go_enter Try.func26, Try.ntmps26
  go_wp2_with (first
    | (go_at_call 56; (with_reducible refine (refnum_yes _ _ _ 0 2 _ _ H.out HO.out).mono ?_); rintro e w' ⟨rfl, rfl⟩; rw [HT.out])
    | (go_at_call 57; (with_reducible refine (opened_any _ _ _ _ _ H.out hc (by omega)).mono ?_); rintro e w' ⟨w1, rfl, rfl, k1⟩; rw [HE.out]; have KZ1 := KZ.out.below k1 KZ.out.lt; have HB1 : Hid (Below w.heap.size w w1) := bel3 (bel_alloc _ _) k1; have hw1 : w.heap.size < w1.heap.size := (by have e1 := k1.size; have e2 := KZ1.lt; omega); have H1 := Lib.hid (H00.out.below HB1.out); have cc1 : (w1.alloc (.cells #[.slice (some ad) (m + 4 : Nat) c, .int .i64 3, .bool false] 103)).cell? ⟨ad.block, ad.off + 2, none⟩ = some (.int .u8 x2) := cell_keep HC2.out (bel2 HB1.out (bel_alloc _ _)); have cc2 : (w1.alloc (.cells #[.slice (some ad) (m + 4 : Nat) c, .int .i64 3, .bool false] 103)).cell? ⟨ad.block, ad.off + 1 + 1, none⟩ = some (.int .u8 x2) := cc1; have HRD : Hid (Rd 103 (w1.alloc (.cells #[.slice (some ad) (m + 4 : Nat) c, .int .i64 3, .bool false] 103)) w1.heap.size (some ad) c zs 3 false) := (⟨by rw [HZL.out]; exact Blk.new w1 _ _, by rw [HZL.out]; exact H1.out.below (bel_alloc _ _), by rw [HZL.out]; exact hc, hcm, fun ad2 e => by injection e with e; subst e; omega⟩); have HB1r : Hid (Below w.heap.size w (w1.alloc (.cells #[.slice (some ad) (m + 4 : Nat) c, .int .i64 3, .bool false] 103))) := bel2 HB1.out (bel_alloc _ _); have KZ1r : Hid (Blk (w1.alloc (.cells #[.slice (some ad) (m + 4 : Nat) c, .int .i64 3, .bool false] 103)) w.heap.size 46 #[.int .i64 0, .int .i64 0, .int .i64 0, .int .i64 0, .int .i64 0, .int .i64 0, .int .i64 0, .int .i64 0, .int .i64 0, .int .i64 0, .int .i64 0, .string ⟨#[]⟩, .int .i64 0, .int .i64 0, .bool false, .int .i64 0, .string ⟨#[]⟩, .int .i64 0, .int .i64 0, .int .i64 0, .int .i64 0, .int .i64 0, .int .i64 0, .slice none 0 0, .bool false, .int .i64 0, .int .i64 0]) := Blk.alloc KZ1 _; have hwne : ¬ w.heap.size = w1.heap.size := (by omega); clear k1)
    | (go_at_call 58; (with_reducible refine (qread_m _ (some ad) c zs 3 false x2 _ HRD.out h0 h03).mono ?_); rw [HR.out]; rintro e w' ⟨v, w2, rfl, rfl, hst, r2, g2⟩; have HS0 : Hid (Stays (w1.alloc (.cells #[.slice (some ad) (m + 4 : Nat) c, .int .i64 3, .bool false] 103)).heap.size w2 v x2 M') := hst; obtain ⟨cs, rfl, hcs, hones⟩ := qv_agg HS0.out.self; have HCS := Lib.hid hcs; have HONE := Lib.hid hones; clear hst hcs hones; have HST : Hid (Stays (w1.heap.size + 1) w2 (.agg cs) x2 M') := (by have := HS0.out; rwa [show (w1.alloc (.cells #[.slice (some ad) (m + 4 : Nat) c, .int .i64 3, .bool false] 103)).heap.size = w1.heap.size + 1 by simp] at this); have HB2 : Hid (Below w.heap.size w w2) := Below.grown HB1r.out g2 HB1r.out.size (fun q hq => by injection hq with hq; subst hq; omega); have KZ2 := Lib.hid (Blk.grown KZ1r.out g2 (by intro e; injection e with e; exact hwne e)); have HR2 := Lib.hid r2; have KN2 := Lib.hid (Blk.new w2 46 #[.int .i64 0, .int .i64 0, .int .i64 0, .int .i64 0, .int .i64 0, .int .i64 0, .int .i64 0, .int .i64 0, .int .i64 0, .int .i64 0, .int .i64 0, .string ⟨#[]⟩, .int .i64 0, .int .i64 0, .bool false, .int .i64 0, .string ⟨#[]⟩, .int .i64 0, .int .i64 0, .int .i64 0, .int .i64 0, .int .i64 0, .int .i64 0, .slice none 0 0, .bool false, .int .i64 0, .int .i64 0]); have HI : Hid ((Try.prog.info? 46).map (·.size) = some cs.size) := (by unfold Hid; rw [HCS.out]; kernel_rfl); have HSZ : Hid ((#[.int .i64 0, .int .i64 0, .int .i64 0, .int .i64 0, .int .i64 0, .int .i64 0, .int .i64 0, .int .i64 0, .int .i64 0, .int .i64 0, .int .i64 0, .string ⟨#[]⟩, .int .i64 0, .int .i64 0, .bool false, .int .i64 0, .string ⟨#[]⟩, .int .i64 0, .int .i64 0, .int .i64 0, .int .i64 0, .int .i64 0, .int .i64 0, .slice none 0 0, .bool false, .int .i64 0, .int .i64 0] : Array Value).size = cs.size) := HCS.out.symm; clear r2 g2)
    | (have KN_ : Blk (w2.alloc (.cells #[.int .i64 0, .int .i64 0, .int .i64 0, .int .i64 0, .int .i64 0, .int .i64 0, .int .i64 0, .int .i64 0, .int .i64 0, .int .i64 0, .int .i64 0, .string ⟨#[]⟩, .int .i64 0, .int .i64 0, .bool false, .int .i64 0, .string ⟨#[]⟩, .int .i64 0, .int .i64 0, .int .i64 0, .int .i64 0, .int .i64 0, .int .i64 0, .slice none 0 0, .bool false, .int .i64 0, .int .i64 0] 46)) w2.heap.size 46 #[.int .i64 0, .int .i64 0, .int .i64 0, .int .i64 0, .int .i64 0, .int .i64 0, .int .i64 0, .int .i64 0, .int .i64 0, .int .i64 0, .int .i64 0, .string ⟨#[]⟩, .int .i64 0, .int .i64 0, .bool false, .int .i64 0, .string ⟨#[]⟩, .int .i64 0, .int .i64 0, .int .i64 0, .int .i64 0, .int .i64 0, .int .i64 0, .slice none 0 0, .bool false, .int .i64 0, .int .i64 0] := KN2.out; refine wpList_store_row rfl 46 (.tmp 7) (.tmp 41) rfl w2.heap.size cs rfl rfl 46 _ KN_ HI.out HSZ.out HONE.out ?_; have hs3 : Below w2.heap.size w2 ((w2.alloc (.cells #[.int .i64 0, .int .i64 0, .int .i64 0, .int .i64 0, .int .i64 0, .int .i64 0, .int .i64 0, .int .i64 0, .int .i64 0, .int .i64 0, .int .i64 0, .string ⟨#[]⟩, .int .i64 0, .int .i64 0, .bool false, .int .i64 0, .string ⟨#[]⟩, .int .i64 0, .int .i64 0, .int .i64 0, .int .i64 0, .int .i64 0, .int .i64 0, .slice none 0 0, .bool false, .int .i64 0, .int .i64 0] 46)).setRow w2.heap.size cs) := below_setRow (bel_alloc _ _) (Nat.le_refl _) _; have hk3 : Blk ((w2.alloc (.cells #[.int .i64 0, .int .i64 0, .int .i64 0, .int .i64 0, .int .i64 0, .int .i64 0, .int .i64 0, .int .i64 0, .int .i64 0, .int .i64 0, .int .i64 0, .string ⟨#[]⟩, .int .i64 0, .int .i64 0, .bool false, .int .i64 0, .string ⟨#[]⟩, .int .i64 0, .int .i64 0, .int .i64 0, .int .i64 0, .int .i64 0, .int .i64 0, .slice none 0 0, .bool false, .int .i64 0, .int .i64 0] 46)).setRow w2.heap.size cs) w2.heap.size 46 cs := setRow_heap _ _ _ _ _ _ KN_; clear KN_ KN2; revert hs3 hk3; generalize World.setRow _ _ _ = w3; intro hs3 hk3; have HST3 := Lib.hid (HST.out.below hs3); have HB3 := Lib.hid (bel3 HB2.out hs3); have KZ3 := Lib.hid (KZ2.out.below hs3 KZ2.out.lt); have KM3 := Lib.hid hk3; have HR3 := Lib.hid (HR2.out.below hs3); clear hs3 hk3)
    | (have KM_ : Blk w3 _ _ _ := KM3.out; refine wpList_load_row (by rfl) 46 (.tmp 7) (by rfl) w2.heap.size (by rfl) 46 _ (0, 0) _ KM_ Try.underlying46 (by rfl) HI.out ?_)
    | (go_at_call 15; (with_reducible refine (refenc_q _ x2 M' L _ HST3.out.self HM.out HLL.out).mono ?_); rintro e w' ⟨A6, c6, w4, rfl, rfl, r6, hc6, hcm6, k4⟩; have kc1 : (convert 39 9 (.slice A6 L c6)).run Try.prog w4 = .ok (.string S1) w4 := (by rw [← HS1.out]; exact conv_any r6 c6); clear r6; have HST4 := Lib.hid (HST3.out.below k4); have HB4 := Lib.hid (bel3 HB3.out k4); have KZ4 := Lib.hid (KZ3.out.below k4 KZ3.out.lt); have KM4 := Lib.hid (KM3.out.below k4 KM3.out.lt); have HR4 := Lib.hid (HR3.out.below k4); have HBR4 : Hid (BReads w4 (some ad) (m + 4) zs) := H00.out.below HB4.out; have rc2 : w4.cell? ⟨w1.heap.size, 2, none⟩ = some (.bool false) := HR4.out.cells.2.1; have kc2 : (convert 39 9 (.slice (some ad) (m + 4 : Nat) c)).run Try.prog w4 = .ok (.string S2) w4 := (by rw [← HS2.out]; exact conv_any HBR4.out c); clear k4)
    | (have KZ_ : Blk w4 _ _ _ := KZ4.out; refine wpList_store_row rfl 46 (.tmp 2) (.tmp 62) rfl w.heap.size #[.int .i64 0, .int .i64 0, .int .i64 0, .int .i64 0, .int .i64 0, .int .i64 0, .int .i64 0, .int .i64 0, .int .i64 0, .int .i64 0, .int .i64 0, .string ⟨#[]⟩, .int .i64 0, .int .i64 0, .bool false, .int .i64 0, .string ⟨#[]⟩, .int .i64 0, .int .i64 0, .int .i64 0, .int .i64 0, .int .i64 0, .int .i64 0, .slice none 0 0, .bool false, .int .i64 0, .int .i64 0] rfl rfl 46 _ KZ_ (by kernel_rfl) (by kernel_rfl) (by kernel_rfl) ?_))
  (try simp only [Exit.inBlock, Exit.then])
  refine bodyPost_ret (results_cell_row2 rfl _ _ w.heap.size 46 #[.int .i64 0, .int .i64 0, .int .i64 0, .int .i64 0, .int .i64 0, .int .i64 0, .int .i64 0, .int .i64 0, .int .i64 0, .int .i64 0, .int .i64 0, .string ⟨#[]⟩, .int .i64 0, .int .i64 0, .bool false, .int .i64 0, .string ⟨#[]⟩, .int .i64 0, .int .i64 0, .int .i64 0, .int .i64 0, .int .i64 0, .int .i64 0, .slice none 0 0, .bool false, .int .i64 0, .int .i64 0] (0, 0) _ rfl (setRow_heap _ _ _ _ _ _ KZ4.out) Try.underlying46 rfl (by kernel_rfl)) rfl ?_
  exact ⟨_, _, rfl, rfl, rfl, below_setRow HB4.out (Nat.le_refl _) _⟩
set_option maxHeartbeats 8000000 in
theorem rdec_yes (A : Option Addr) (m c : Nat) (zs : List Int) (w : World) (h : BReads w A (m + 4) zs) (hc : m + 4 ≤ c) (hcm : c ≤ 9223372036854775807) (h1 : 3 ≤ m) (h2 : m ≤ 1020) (h3 : numI zs 0 2 = (m + 4 : Nat)) (h4 : numI zs m 4 = addI 0 (zs.take m)) (M' : M) (a' : Nat) (b' : Bool) (hR : readR zs (gi zs 2) 3 false = (M', a', b')) (hm : mayM M' = true) (hb : b' = false) (hf : frameM M' = zs) :
    Calls Try.prog 26 #[.slice A (m + 4 : Nat) c] w (RDecTo w (0, M')) := by
  have KZ : Hid (Blk (w.alloc (.cells #[.int .i64 0, .int .i64 0, .int .i64 0, .int .i64 0, .int .i64 0, .int .i64 0, .int .i64 0, .int .i64 0, .int .i64 0, .int .i64 0, .int .i64 0, .string ⟨#[]⟩, .int .i64 0, .int .i64 0, .bool false, .int .i64 0, .string ⟨#[]⟩, .int .i64 0, .int .i64 0, .int .i64 0, .int .i64 0, .int .i64 0, .int .i64 0, .slice none 0 0, .bool false, .int .i64 0, .int .i64 0] 46)) w.heap.size 46 #[.int .i64 0, .int .i64 0, .int .i64 0, .int .i64 0, .int .i64 0, .int .i64 0, .int .i64 0, .int .i64 0, .int .i64 0, .int .i64 0, .int .i64 0, .string ⟨#[]⟩, .int .i64 0, .int .i64 0, .bool false, .int .i64 0, .string ⟨#[]⟩, .int .i64 0, .int .i64 0, .int .i64 0, .int .i64 0, .int .i64 0, .int .i64 0, .slice none 0 0, .bool false, .int .i64 0, .int .i64 0]) := Blk.new w _ _
  have b0 : (((m + 4 : Nat) : Int) != ((m + 4 : Nat) : Int)) = false := by simp
  have HE : Hid ((numI zs m 4 == addI 0 (zs.take m)) = true) := by unfold Hid; simpa using h4
  have hl4 : zs.length = m + 4 := h.1
  have h0 : 0 < zs.length := by omega
  have h03 : 3 ≤ zs.length := by omega
  obtain ⟨x2, hx2⟩ : ∃ x, gi zs 2 = x := ⟨_, rfl⟩
  obtain ⟨ad, hA, hc2⟩ := h.at_ 2 (by omega)
  have hrx := h.2.2.2 2
  rw [hx2] at hc2 hR hrx
  have hadl : ad.block < w.heap.size := by
    have := World.block_lt_of_cell? w _ hc2
    rwa [block_of_add] at this
  have hc2a : w.cell? ⟨ad.block, ad.off + 2, none⟩ = some (.int .u8 x2) := by
    have e : ad.add 2 = ⟨ad.block, ad.off + 2, none⟩ := by simp [Addr.add]
    rw [← e]; exact hc2
  have HC2 := Lib.hid hc2a
  have hsm : SmallM 60000 M' := by
    have h5 := readR_small zs x2 3 false
    rw [hR] at h5
    exact h5.of_len (by omega)
  have HSM := Lib.hid hsm
  have HR := Lib.hid hR
  have HZL := Lib.hid hl4
  have h1' : decide (((m + 4 : Nat) : Int) < 7) = false := decide_eq_false (by omega)
  have h2' : decide ((1024 : Int) < ((m + 4 : Nat) : Int)) = false := decide_eq_false (by omega)
  have h1'' : ¬ ((m + 4 : Nat) : Int) < 7 := by omega
  have h2'' : ¬ (1024 : Int) < ((m + 4 : Nat) : Int) := by omega
  have H : Hid (BReads (w.alloc (.cells #[.int .i64 0, .int .i64 0, .int .i64 0, .int .i64 0, .int .i64 0, .int .i64 0, .int .i64 0, .int .i64 0, .int .i64 0, .int .i64 0, .int .i64 0, .string ⟨#[]⟩, .int .i64 0, .int .i64 0, .bool false, .int .i64 0, .string ⟨#[]⟩, .int .i64 0, .int .i64 0, .int .i64 0, .int .i64 0, .int .i64 0, .int .i64 0, .slice none 0 0, .bool false, .int .i64 0, .int .i64 0] 46)) A (m + 4) zs) := h.below (bel_alloc _ _)
  have H00 := Lib.hid h
  have HT := Lib.hid h3
  have HO : Hid (numOk (m + 4) 0 2) := ⟨by omega, by omega, by omega, by omega⟩
  obtain ⟨S1, hS1⟩ : ∃ S, strOfNums (frameM M') = S := ⟨_, rfl⟩
  obtain ⟨S2, hS2⟩ : ∃ S, strOfNums zs = S := ⟨_, rfl⟩
  have HS1 := Lib.hid hS1
  have HS2 := Lib.hid hS2
  have HM := Lib.hid hm
  obtain ⟨L, hL⟩ : ∃ L, (frameM M').length = L := ⟨_, rfl⟩
  have HLL := Lib.hid hL
  have hne : (!S1.toList == S2.toList) = false := by
    rw [← hS1, ← hS2, hf]
    simp
  clear hS1 hS2
  subst hb
  clear hL hm hf
  clear h h3 h4 hc2 hc2a hx2 hR hsm
  subst hA
  go_enter Try.func26, Try.ntmps26
  go_wp2_with (first
    | (go_at_call 56; (with_reducible refine (refnum_yes _ _ _ 0 2 _ _ H.out HO.out).mono ?_); rintro e w' ⟨rfl, rfl⟩; rw [HT.out])
    | (go_at_call 57; (with_reducible refine (opened_any _ _ _ _ _ H.out hc (by omega)).mono ?_); rintro e w' ⟨w1, rfl, rfl, k1⟩; rw [HE.out]; have KZ1 := KZ.out.below k1 KZ.out.lt; have HB1 : Hid (Below w.heap.size w w1) := bel3 (bel_alloc _ _) k1; have hw1 : w.heap.size < w1.heap.size := (by have e1 := k1.size; have e2 := KZ1.lt; omega); have H1 := Lib.hid (H00.out.below HB1.out); have cc1 : (w1.alloc (.cells #[.slice (some ad) (m + 4 : Nat) c, .int .i64 3, .bool false] 103)).cell? ⟨ad.block, ad.off + 2, none⟩ = some (.int .u8 x2) := cell_keep HC2.out (bel2 HB1.out (bel_alloc _ _)); have cc2 : (w1.alloc (.cells #[.slice (some ad) (m + 4 : Nat) c, .int .i64 3, .bool false] 103)).cell? ⟨ad.block, ad.off + 1 + 1, none⟩ = some (.int .u8 x2) := cc1; have HRD : Hid (Rd 103 (w1.alloc (.cells #[.slice (some ad) (m + 4 : Nat) c, .int .i64 3, .bool false] 103)) w1.heap.size (some ad) c zs 3 false) := (⟨by rw [HZL.out]; exact Blk.new w1 _ _, by rw [HZL.out]; exact H1.out.below (bel_alloc _ _), by rw [HZL.out]; exact hc, hcm, fun ad2 e => by injection e with e; subst e; omega⟩); have HB1r : Hid (Below w.heap.size w (w1.alloc (.cells #[.slice (some ad) (m + 4 : Nat) c, .int .i64 3, .bool false] 103))) := bel2 HB1.out (bel_alloc _ _); have KZ1r : Hid (Blk (w1.alloc (.cells #[.slice (some ad) (m + 4 : Nat) c, .int .i64 3, .bool false] 103)) w.heap.size 46 #[.int .i64 0, .int .i64 0, .int .i64 0, .int .i64 0, .int .i64 0, .int .i64 0, .int .i64 0, .int .i64 0, .int .i64 0, .int .i64 0, .int .i64 0, .string ⟨#[]⟩, .int .i64 0, .int .i64 0, .bool false, .int .i64 0, .string ⟨#[]⟩, .int .i64 0, .int .i64 0, .int .i64 0, .int .i64 0, .int .i64 0, .int .i64 0, .slice none 0 0, .bool false, .int .i64 0, .int .i64 0]) := Blk.alloc KZ1 _; have hwne : ¬ w.heap.size = w1.heap.size := (by omega); clear k1)
    | (go_at_call 58; (with_reducible refine (qread_m _ (some ad) c zs 3 false x2 _ HRD.out h0 h03).mono ?_); rw [HR.out]; rintro e w' ⟨v, w2, rfl, rfl, hst, r2, g2⟩; have HS0 : Hid (Stays (w1.alloc (.cells #[.slice (some ad) (m + 4 : Nat) c, .int .i64 3, .bool false] 103)).heap.size w2 v x2 M') := hst; obtain ⟨cs, rfl, hcs, hones⟩ := qv_agg HS0.out.self; have HCS := Lib.hid hcs; have HONE := Lib.hid hones; clear hst hcs hones; have HST : Hid (Stays (w1.heap.size + 1) w2 (.agg cs) x2 M') := (by have := HS0.out; rwa [show (w1.alloc (.cells #[.slice (some ad) (m + 4 : Nat) c, .int .i64 3, .bool false] 103)).heap.size = w1.heap.size + 1 by simp] at this); have HB2 : Hid (Below w.heap.size w w2) := Below.grown HB1r.out g2 HB1r.out.size (fun q hq => by injection hq with hq; subst hq; omega); have KZ2 := Lib.hid (Blk.grown KZ1r.out g2 (by intro e; injection e with e; exact hwne e)); have HR2 := Lib.hid r2; have KN2 := Lib.hid (Blk.new w2 46 #[.int .i64 0, .int .i64 0, .int .i64 0, .int .i64 0, .int .i64 0, .int .i64 0, .int .i64 0, .int .i64 0, .int .i64 0, .int .i64 0, .int .i64 0, .string ⟨#[]⟩, .int .i64 0, .int .i64 0, .bool false, .int .i64 0, .string ⟨#[]⟩, .int .i64 0, .int .i64 0, .int .i64 0, .int .i64 0, .int .i64 0, .int .i64 0, .slice none 0 0, .bool false, .int .i64 0, .int .i64 0]); have HI : Hid ((Try.prog.info? 46).map (·.size) = some cs.size) := (by unfold Hid; rw [HCS.out]; kernel_rfl); have HSZ : Hid ((#[.int .i64 0, .int .i64 0, .int .i64 0, .int .i64 0, .int .i64 0, .int .i64 0, .int .i64 0, .int .i64 0, .int .i64 0, .int .i64 0, .int .i64 0, .string ⟨#[]⟩, .int .i64 0, .int .i64 0, .bool false, .int .i64 0, .string ⟨#[]⟩, .int .i64 0, .int .i64 0, .int .i64 0, .int .i64 0, .int .i64 0, .int .i64 0, .slice none 0 0, .bool false, .int .i64 0, .int .i64 0] : Array Value).size = cs.size) := HCS.out.symm; clear r2 g2)
    | (have KN_ : Blk (w2.alloc (.cells #[.int .i64 0, .int .i64 0, .int .i64 0, .int .i64 0, .int .i64 0, .int .i64 0, .int .i64 0, .int .i64 0, .int .i64 0, .int .i64 0, .int .i64 0, .string ⟨#[]⟩, .int .i64 0, .int .i64 0, .bool false, .int .i64 0, .string ⟨#[]⟩, .int .i64 0, .int .i64 0, .int .i64 0, .int .i64 0, .int .i64 0, .int .i64 0, .slice none 0 0, .bool false, .int .i64 0, .int .i64 0] 46)) w2.heap.size 46 #[.int .i64 0, .int .i64 0, .int .i64 0, .int .i64 0, .int .i64 0, .int .i64 0, .int .i64 0, .int .i64 0, .int .i64 0, .int .i64 0, .int .i64 0, .string ⟨#[]⟩, .int .i64 0, .int .i64 0, .bool false, .int .i64 0, .string ⟨#[]⟩, .int .i64 0, .int .i64 0, .int .i64 0, .int .i64 0, .int .i64 0, .int .i64 0, .slice none 0 0, .bool false, .int .i64 0, .int .i64 0] := KN2.out; refine wpList_store_row rfl 46 (.tmp 7) (.tmp 41) rfl w2.heap.size cs rfl rfl 46 _ KN_ HI.out HSZ.out HONE.out ?_; have hs3 : Below w2.heap.size w2 ((w2.alloc (.cells #[.int .i64 0, .int .i64 0, .int .i64 0, .int .i64 0, .int .i64 0, .int .i64 0, .int .i64 0, .int .i64 0, .int .i64 0, .int .i64 0, .int .i64 0, .string ⟨#[]⟩, .int .i64 0, .int .i64 0, .bool false, .int .i64 0, .string ⟨#[]⟩, .int .i64 0, .int .i64 0, .int .i64 0, .int .i64 0, .int .i64 0, .int .i64 0, .slice none 0 0, .bool false, .int .i64 0, .int .i64 0] 46)).setRow w2.heap.size cs) := below_setRow (bel_alloc _ _) (Nat.le_refl _) _; have hk3 : Blk ((w2.alloc (.cells #[.int .i64 0, .int .i64 0, .int .i64 0, .int .i64 0, .int .i64 0, .int .i64 0, .int .i64 0, .int .i64 0, .int .i64 0, .int .i64 0, .int .i64 0, .string ⟨#[]⟩, .int .i64 0, .int .i64 0, .bool false, .int .i64 0, .string ⟨#[]⟩, .int .i64 0, .int .i64 0, .int .i64 0, .int .i64 0, .int .i64 0, .int .i64 0, .slice none 0 0, .bool false, .int .i64 0, .int .i64 0] 46)).setRow w2.heap.size cs) w2.heap.size 46 cs := setRow_heap _ _ _ _ _ _ KN_; clear KN_ KN2; revert hs3 hk3; generalize World.setRow _ _ _ = w3; intro hs3 hk3; have HST3 := Lib.hid (HST.out.below hs3); have HB3 := Lib.hid (bel3 HB2.out hs3); have KZ3 := Lib.hid (KZ2.out.below hs3 KZ2.out.lt); have KM3 := Lib.hid hk3; have HR3 := Lib.hid (HR2.out.below hs3); clear hs3 hk3)
    | (have KM_ : Blk w3 _ _ _ := KM3.out; refine wpList_load_row (by rfl) 46 (.tmp 7) (by rfl) w2.heap.size (by rfl) 46 _ (0, 0) _ KM_ Try.underlying46 (by rfl) HI.out ?_)
    | (go_at_call 15; (with_reducible refine (refenc_q _ x2 M' L _ HST3.out.self HM.out HLL.out).mono ?_); rintro e w' ⟨A6, c6, w4, rfl, rfl, r6, hc6, hcm6, k4⟩; have kc1 : (convert 39 9 (.slice A6 L c6)).run Try.prog w4 = .ok (.string S1) w4 := (by rw [← HS1.out]; exact conv_any r6 c6); clear r6; have HST4 := Lib.hid (HST3.out.below k4); have HB4 := Lib.hid (bel3 HB3.out k4); have KZ4 := Lib.hid (KZ3.out.below k4 KZ3.out.lt); have KM4 := Lib.hid (KM3.out.below k4 KM3.out.lt); have HR4 := Lib.hid (HR3.out.below k4); have HBR4 : Hid (BReads w4 (some ad) (m + 4) zs) := H00.out.below HB4.out; have rc2 : w4.cell? ⟨w1.heap.size, 2, none⟩ = some (.bool false) := HR4.out.cells.2.1; have kc2 : (convert 39 9 (.slice (some ad) (m + 4 : Nat) c)).run Try.prog w4 = .ok (.string S2) w4 := (by rw [← HS2.out]; exact conv_any HBR4.out c); clear k4)
    | (have KM_ : Blk w4 _ _ _ := KM4.out; refine wpList_load_row (by rfl) 46 (.tmp 7) (by rfl) w2.heap.size (by rfl) 46 _ (0, 0) _ KM_ Try.underlying46 (by rfl) HI.out ?_)
    | (have KZ_ : Blk w4 _ _ _ := KZ4.out; refine wpList_store_row (by rfl) 46 (.tmp 2) (.tmp 63) (by rfl) w.heap.size cs (by rfl) (by rfl) 46 _ KZ_ HI.out HSZ.out HONE.out ?_))
  (try simp only [Exit.inBlock, Exit.then])
  refine bodyPost_ret (results_cell_row2 rfl _ _ w.heap.size 46 cs (0, 0) _ rfl (setRow_heap _ _ _ _ _ _ KZ4.out) Try.underlying46 rfl HI.out) rfl ?_
  exact ⟨_, _, rfl, rfl, qv_rv (HST4.out.row (by omega) _) HM.out, below_setRow HB4.out (Nat.le_refl _) _⟩
theorem rdecode_any (A : Option Addr) (n c : Nat) (zs : List Int) (w : World) (h : BReads w A n zs) (hc : n ≤ c) (hcm : c ≤ 9223372036854775807) :
    Calls Try.prog 26 #[.slice A n c] w (RDecTo w (decI zs)) := by
  rw [← ref_dec zs h.range]
  have hl := h.1
  unfold rdecI
  rw [hl]
  by_cases h1 : n < 7
  · rw [if_pos (.inl h1)]
    exact rdec_short A n c w (.inl h1) h.2.1
  by_cases h2 : 1024 < n
  · rw [if_pos (.inr (.inl h2))]
    exact rdec_short A n c w (.inr h2) h.2.1
  by_cases h3 : numI zs 0 2 = n
  · rw [if_neg (by omega)]
    obtain ⟨m, rfl⟩ : ∃ m, n = m + 4 := ⟨n - 4, by omega⟩
    rw [show m + 4 - 4 = m by omega]
    by_cases h4 : numI zs m 4 = addI 0 (zs.take m)
    · rw [if_neg (by simpa using h4)]
      obtain ⟨M', a', b', hR⟩ : ∃ M' a' b', readR zs (gi zs 2) 3 false = (M', a', b') := ⟨_, _, _, rfl⟩
      rw [hR]
      simp only
      cases hm : mayM M' with
      | false =>
        rw [if_pos (.inr (.inl rfl))]
        cases hb : b' with
        | true => exact rdec_no_true A m c zs w h hc hcm (by omega) (by omega) h3 h4 M' a' b' hR hm hb
        | false => exact rdec_no_false A m c zs w h hc hcm (by omega) (by omega) h3 h4 M' a' b' hR hm hb
      | true =>
        cases hb : b' with
        | true =>
          rw [if_pos (.inl rfl)]
          exact rdec_bad A m c zs w h hc hcm (by omega) (by omega) h3 h4 M' a' b' hR hm hb
        | false =>
          by_cases hf : frameM M' = zs
          · rw [if_neg (fun e => e.elim (fun e => by cases e) fun e => e.elim (fun e => by cases e) fun e => e hf)]
            exact rdec_yes A m c zs w h hc hcm (by omega) (by omega) h3 h4 M' a' b' hR hm hb hf
          · rw [if_pos (.inr (.inr hf))]
            exact rdec_unlike A m c zs w h hc hcm (by omega) (by omega) h3 h4 M' a' b' hR hm hb hf
    · rw [if_pos h4]
      exact rdec_sum A m c zs w h hc (by omega) (by omega) h3 h4
  · rw [if_pos (.inr (.inr h3))]
    exact rdec_told A n c zs w h (by omega) (by omega) h3
end Go.Proofs.Ytajhkjikcgfhdaa
namespace Go.Proofs.Ytajhkjikcgfhdaa
set_option linter.unusedVariables false
set_option linter.unusedSimpArgs false
set_option maxRecDepth 100000
open Go.RowKit
set_option maxHeartbeats 4000000 in
theorem any_hello (hw hl : Int) (w : World) : Calls Try.prog 28 #[.agg #[.int .i64 1, .int .i64 hw, .int .i64 hl, .int .i64 0, .int .i64 0, .int .i64 0, .int .i64 0, .int .i64 0, .int .i64 0, .int .i64 0, .int .i64 0, .string ⟨#[]⟩, .int .i64 0, .int .i64 0, .bool false, .int .i64 0, .string ⟨#[]⟩, .int .i64 0, .int .i64 0, .int .i64 0, .int .i64 0, .int .i64 0, .int .i64 0, .slice none 0 0, .bool false, .int .i64 0, .int .i64 0]] w (Gives w (.iface 23 (.agg #[.int .i64 hw, .int .i64 hl]))) := by
  have K0 : Blk (w.alloc (.cells #[.int .i64 1, .int .i64 hw, .int .i64 hl, .int .i64 0, .int .i64 0, .int .i64 0, .int .i64 0, .int .i64 0, .int .i64 0, .int .i64 0, .int .i64 0, .string ⟨#[]⟩, .int .i64 0, .int .i64 0, .bool false, .int .i64 0, .string ⟨#[]⟩, .int .i64 0, .int .i64 0, .int .i64 0, .int .i64 0, .int .i64 0, .int .i64 0, .slice none 0 0, .bool false, .int .i64 0, .int .i64 0] 46)) w.heap.size 46 #[.int .i64 1, .int .i64 hw, .int .i64 hl, .int .i64 0, .int .i64 0, .int .i64 0, .int .i64 0, .int .i64 0, .int .i64 0, .int .i64 0, .int .i64 0, .string ⟨#[]⟩, .int .i64 0, .int .i64 0, .bool false, .int .i64 0, .string ⟨#[]⟩, .int .i64 0, .int .i64 0, .int .i64 0, .int .i64 0, .int .i64 0, .int .i64 0, .slice none 0 0, .bool false, .int .i64 0, .int .i64 0] := Blk.new w _ _
  have R0 : (w.alloc (.cells #[.int .i64 1, .int .i64 hw, .int .i64 hl, .int .i64 0, .int .i64 0, .int .i64 0, .int .i64 0, .int .i64 0, .int .i64 0, .int .i64 0, .int .i64 0, .string ⟨#[]⟩, .int .i64 0, .int .i64 0, .bool false, .int .i64 0, .string ⟨#[]⟩, .int .i64 0, .int .i64 0, .int .i64 0, .int .i64 0, .int .i64 0, .int .i64 0, .slice none 0 0, .bool false, .int .i64 0, .int .i64 0] 46)).rangeAt w.heap.size 1 [.int .i64 hw, .int .i64 hl] := World.rangeAt_of_block K0 1 2
  have KC : (w.alloc (.cells #[.int .i64 1, .int .i64 hw, .int .i64 hl, .int .i64 0, .int .i64 0, .int .i64 0, .int .i64 0, .int .i64 0, .int .i64 0, .int .i64 0, .int .i64 0, .string ⟨#[]⟩, .int .i64 0, .int .i64 0, .bool false, .int .i64 0, .string ⟨#[]⟩, .int .i64 0, .int .i64 0, .int .i64 0, .int .i64 0, .int .i64 0, .int .i64 0, .slice none 0 0, .bool false, .int .i64 0, .int .i64 0] 46)).cell? ⟨w.heap.size, 0, none⟩ = some (.int .i64 1) := (K0.cell 0).trans rfl
  clear K0
  go_enter Try.func28, Try.ntmps28
  go_wp2_with (first
    | (refine wpList_load_mid rfl 23 (.tmp 7) rfl w.heap.size 1 rfl [.int .i64 hw, .int .i64 hl] _ R0 Try.underlying23 rfl (by kernel_rfl) ?_))
  go_ret
  exact ⟨_, rfl, rfl, bel_alloc _ _⟩
set_option maxHeartbeats 4000000 in
theorem any_grant (gw gl ge : Int) (w : World) : Calls Try.prog 28 #[.agg #[.int .i64 2, .int .i64 0, .int .i64 0, .int .i64 gw, .int .i64 gl, .int .i64 ge, .int .i64 0, .int .i64 0, .int .i64 0, .int .i64 0, .int .i64 0, .string ⟨#[]⟩, .int .i64 0, .int .i64 0, .bool false, .int .i64 0, .string ⟨#[]⟩, .int .i64 0, .int .i64 0, .int .i64 0, .int .i64 0, .int .i64 0, .int .i64 0, .slice none 0 0, .bool false, .int .i64 0, .int .i64 0]] w (Gives w (.iface 25 (.agg #[.int .i64 gw, .int .i64 gl, .int .i64 ge]))) := by
  have K0 : Blk (w.alloc (.cells #[.int .i64 2, .int .i64 0, .int .i64 0, .int .i64 gw, .int .i64 gl, .int .i64 ge, .int .i64 0, .int .i64 0, .int .i64 0, .int .i64 0, .int .i64 0, .string ⟨#[]⟩, .int .i64 0, .int .i64 0, .bool false, .int .i64 0, .string ⟨#[]⟩, .int .i64 0, .int .i64 0, .int .i64 0, .int .i64 0, .int .i64 0, .int .i64 0, .slice none 0 0, .bool false, .int .i64 0, .int .i64 0] 46)) w.heap.size 46 #[.int .i64 2, .int .i64 0, .int .i64 0, .int .i64 gw, .int .i64 gl, .int .i64 ge, .int .i64 0, .int .i64 0, .int .i64 0, .int .i64 0, .int .i64 0, .string ⟨#[]⟩, .int .i64 0, .int .i64 0, .bool false, .int .i64 0, .string ⟨#[]⟩, .int .i64 0, .int .i64 0, .int .i64 0, .int .i64 0, .int .i64 0, .int .i64 0, .slice none 0 0, .bool false, .int .i64 0, .int .i64 0] := Blk.new w _ _
  have R0 : (w.alloc (.cells #[.int .i64 2, .int .i64 0, .int .i64 0, .int .i64 gw, .int .i64 gl, .int .i64 ge, .int .i64 0, .int .i64 0, .int .i64 0, .int .i64 0, .int .i64 0, .string ⟨#[]⟩, .int .i64 0, .int .i64 0, .bool false, .int .i64 0, .string ⟨#[]⟩, .int .i64 0, .int .i64 0, .int .i64 0, .int .i64 0, .int .i64 0, .int .i64 0, .slice none 0 0, .bool false, .int .i64 0, .int .i64 0] 46)).rangeAt w.heap.size 3 [.int .i64 gw, .int .i64 gl, .int .i64 ge] := World.rangeAt_of_block K0 3 3
  have KC : (w.alloc (.cells #[.int .i64 2, .int .i64 0, .int .i64 0, .int .i64 gw, .int .i64 gl, .int .i64 ge, .int .i64 0, .int .i64 0, .int .i64 0, .int .i64 0, .int .i64 0, .string ⟨#[]⟩, .int .i64 0, .int .i64 0, .bool false, .int .i64 0, .string ⟨#[]⟩, .int .i64 0, .int .i64 0, .int .i64 0, .int .i64 0, .int .i64 0, .int .i64 0, .slice none 0 0, .bool false, .int .i64 0, .int .i64 0] 46)).cell? ⟨w.heap.size, 0, none⟩ = some (.int .i64 2) := (K0.cell 0).trans rfl
  clear K0
  go_enter Try.func28, Try.ntmps28
  go_wp2_with (first
    | (refine wpList_load_mid rfl 25 (.tmp 12) rfl w.heap.size 3 rfl [.int .i64 gw, .int .i64 gl, .int .i64 ge] _ R0 Try.underlying25 rfl (by kernel_rfl) ?_))
  go_ret
  exact ⟨_, rfl, rfl, bel_alloc _ _⟩
set_option maxHeartbeats 4000000 in
theorem any_ask (sl q sh sq ep : Int) (t : ByteArray) (k b : Int) (f : Bool) (d : Int) (s : ByteArray) (w : World) : Calls Try.prog 28 #[.agg #[.int .i64 3, .int .i64 0, .int .i64 0, .int .i64 0, .int .i64 0, .int .i64 0, .int .i64 sl, .int .i64 q, .int .i64 sh, .int .i64 sq, .int .i64 ep, .string t, .int .i64 k, .int .i64 b, .bool f, .int .i64 d, .string s, .int .i64 0, .int .i64 0, .int .i64 0, .int .i64 0, .int .i64 0, .int .i64 0, .slice none 0 0, .bool false, .int .i64 0, .int .i64 0]] w (Gives w (.iface 29 (.agg #[.int .i64 sl, .int .i64 q, .int .i64 sh, .int .i64 sq, .int .i64 ep, .string t, .int .i64 k, .int .i64 b, .bool f, .int .i64 d, .string s]))) := by
  have K0 : Blk (w.alloc (.cells #[.int .i64 3, .int .i64 0, .int .i64 0, .int .i64 0, .int .i64 0, .int .i64 0, .int .i64 sl, .int .i64 q, .int .i64 sh, .int .i64 sq, .int .i64 ep, .string t, .int .i64 k, .int .i64 b, .bool f, .int .i64 d, .string s, .int .i64 0, .int .i64 0, .int .i64 0, .int .i64 0, .int .i64 0, .int .i64 0, .slice none 0 0, .bool false, .int .i64 0, .int .i64 0] 46)) w.heap.size 46 #[.int .i64 3, .int .i64 0, .int .i64 0, .int .i64 0, .int .i64 0, .int .i64 0, .int .i64 sl, .int .i64 q, .int .i64 sh, .int .i64 sq, .int .i64 ep, .string t, .int .i64 k, .int .i64 b, .bool f, .int .i64 d, .string s, .int .i64 0, .int .i64 0, .int .i64 0, .int .i64 0, .int .i64 0, .int .i64 0, .slice none 0 0, .bool false, .int .i64 0, .int .i64 0] := Blk.new w _ _
  have R0 : (w.alloc (.cells #[.int .i64 3, .int .i64 0, .int .i64 0, .int .i64 0, .int .i64 0, .int .i64 0, .int .i64 sl, .int .i64 q, .int .i64 sh, .int .i64 sq, .int .i64 ep, .string t, .int .i64 k, .int .i64 b, .bool f, .int .i64 d, .string s, .int .i64 0, .int .i64 0, .int .i64 0, .int .i64 0, .int .i64 0, .int .i64 0, .slice none 0 0, .bool false, .int .i64 0, .int .i64 0] 46)).rangeAt w.heap.size 6 [.int .i64 sl, .int .i64 q, .int .i64 sh, .int .i64 sq, .int .i64 ep, .string t, .int .i64 k, .int .i64 b, .bool f, .int .i64 d, .string s] := World.rangeAt_of_block K0 6 11
  have KC : (w.alloc (.cells #[.int .i64 3, .int .i64 0, .int .i64 0, .int .i64 0, .int .i64 0, .int .i64 0, .int .i64 sl, .int .i64 q, .int .i64 sh, .int .i64 sq, .int .i64 ep, .string t, .int .i64 k, .int .i64 b, .bool f, .int .i64 d, .string s, .int .i64 0, .int .i64 0, .int .i64 0, .int .i64 0, .int .i64 0, .int .i64 0, .slice none 0 0, .bool false, .int .i64 0, .int .i64 0] 46)).cell? ⟨w.heap.size, 0, none⟩ = some (.int .i64 3) := (K0.cell 0).trans rfl
  clear K0
  go_enter Try.func28, Try.ntmps28
  go_wp2_with (first
    | (refine wpList_load_mid rfl 29 (.tmp 17) rfl w.heap.size 6 rfl [.int .i64 sl, .int .i64 q, .int .i64 sh, .int .i64 sq, .int .i64 ep, .string t, .int .i64 k, .int .i64 b, .bool f, .int .i64 d, .string s] _ R0 Try.underlying29 rfl (by kernel_rfl) ?_))
  go_ret
  exact ⟨_, rfl, rfl, bel_alloc _ _⟩
set_option maxHeartbeats 4000000 in
theorem any_reply (sl q sh sq wk ep : Int) (A : Option Addr) (n c : Nat) (en : Bool) (w : World) : Calls Try.prog 28 #[.agg #[.int .i64 4, .int .i64 0, .int .i64 0, .int .i64 0, .int .i64 0, .int .i64 0, .int .i64 0, .int .i64 0, .int .i64 0, .int .i64 0, .int .i64 0, .string ⟨#[]⟩, .int .i64 0, .int .i64 0, .bool false, .int .i64 0, .string ⟨#[]⟩, .int .i64 sl, .int .i64 q, .int .i64 sh, .int .i64 sq, .int .i64 wk, .int .i64 ep, .slice A n c, .bool en, .int .i64 0, .int .i64 0]] w (Gives w (.iface 32 (.agg #[.int .i64 sl, .int .i64 q, .int .i64 sh, .int .i64 sq, .int .i64 wk, .int .i64 ep, .slice A n c, .bool en]))) := by
  have K0 : Blk (w.alloc (.cells #[.int .i64 4, .int .i64 0, .int .i64 0, .int .i64 0, .int .i64 0, .int .i64 0, .int .i64 0, .int .i64 0, .int .i64 0, .int .i64 0, .int .i64 0, .string ⟨#[]⟩, .int .i64 0, .int .i64 0, .bool false, .int .i64 0, .string ⟨#[]⟩, .int .i64 sl, .int .i64 q, .int .i64 sh, .int .i64 sq, .int .i64 wk, .int .i64 ep, .slice A n c, .bool en, .int .i64 0, .int .i64 0] 46)) w.heap.size 46 #[.int .i64 4, .int .i64 0, .int .i64 0, .int .i64 0, .int .i64 0, .int .i64 0, .int .i64 0, .int .i64 0, .int .i64 0, .int .i64 0, .int .i64 0, .string ⟨#[]⟩, .int .i64 0, .int .i64 0, .bool false, .int .i64 0, .string ⟨#[]⟩, .int .i64 sl, .int .i64 q, .int .i64 sh, .int .i64 sq, .int .i64 wk, .int .i64 ep, .slice A n c, .bool en, .int .i64 0, .int .i64 0] := Blk.new w _ _
  have R0 : (w.alloc (.cells #[.int .i64 4, .int .i64 0, .int .i64 0, .int .i64 0, .int .i64 0, .int .i64 0, .int .i64 0, .int .i64 0, .int .i64 0, .int .i64 0, .int .i64 0, .string ⟨#[]⟩, .int .i64 0, .int .i64 0, .bool false, .int .i64 0, .string ⟨#[]⟩, .int .i64 sl, .int .i64 q, .int .i64 sh, .int .i64 sq, .int .i64 wk, .int .i64 ep, .slice A n c, .bool en, .int .i64 0, .int .i64 0] 46)).rangeAt w.heap.size 17 [.int .i64 sl, .int .i64 q, .int .i64 sh, .int .i64 sq, .int .i64 wk, .int .i64 ep, .slice A n c, .bool en] := World.rangeAt_of_block K0 17 8
  have KC : (w.alloc (.cells #[.int .i64 4, .int .i64 0, .int .i64 0, .int .i64 0, .int .i64 0, .int .i64 0, .int .i64 0, .int .i64 0, .int .i64 0, .int .i64 0, .int .i64 0, .string ⟨#[]⟩, .int .i64 0, .int .i64 0, .bool false, .int .i64 0, .string ⟨#[]⟩, .int .i64 sl, .int .i64 q, .int .i64 sh, .int .i64 sq, .int .i64 wk, .int .i64 ep, .slice A n c, .bool en, .int .i64 0, .int .i64 0] 46)).cell? ⟨w.heap.size, 0, none⟩ = some (.int .i64 4) := (K0.cell 0).trans rfl
  clear K0
  go_enter Try.func28, Try.ntmps28
  go_wp2_with (first
    | (refine wpList_load_mid rfl 32 (.tmp 22) rfl w.heap.size 17 rfl [.int .i64 sl, .int .i64 q, .int .i64 sh, .int .i64 sq, .int .i64 wk, .int .i64 ep, .slice A n c, .bool en] _ R0 Try.underlying32 rfl (by kernel_rfl) ?_))
  go_ret
  exact ⟨_, rfl, rfl, bel_alloc _ _⟩
set_option maxHeartbeats 4000000 in
theorem any_stop (sl q : Int) (w : World) : Calls Try.prog 28 #[.agg #[.int .i64 5, .int .i64 0, .int .i64 0, .int .i64 0, .int .i64 0, .int .i64 0, .int .i64 0, .int .i64 0, .int .i64 0, .int .i64 0, .int .i64 0, .string ⟨#[]⟩, .int .i64 0, .int .i64 0, .bool false, .int .i64 0, .string ⟨#[]⟩, .int .i64 0, .int .i64 0, .int .i64 0, .int .i64 0, .int .i64 0, .int .i64 0, .slice none 0 0, .bool false, .int .i64 sl, .int .i64 q]] w (Gives w (.iface 34 (.agg #[.int .i64 sl, .int .i64 q]))) := by
  have K0 : Blk (w.alloc (.cells #[.int .i64 5, .int .i64 0, .int .i64 0, .int .i64 0, .int .i64 0, .int .i64 0, .int .i64 0, .int .i64 0, .int .i64 0, .int .i64 0, .int .i64 0, .string ⟨#[]⟩, .int .i64 0, .int .i64 0, .bool false, .int .i64 0, .string ⟨#[]⟩, .int .i64 0, .int .i64 0, .int .i64 0, .int .i64 0, .int .i64 0, .int .i64 0, .slice none 0 0, .bool false, .int .i64 sl, .int .i64 q] 46)) w.heap.size 46 #[.int .i64 5, .int .i64 0, .int .i64 0, .int .i64 0, .int .i64 0, .int .i64 0, .int .i64 0, .int .i64 0, .int .i64 0, .int .i64 0, .int .i64 0, .string ⟨#[]⟩, .int .i64 0, .int .i64 0, .bool false, .int .i64 0, .string ⟨#[]⟩, .int .i64 0, .int .i64 0, .int .i64 0, .int .i64 0, .int .i64 0, .int .i64 0, .slice none 0 0, .bool false, .int .i64 sl, .int .i64 q] := Blk.new w _ _
  have R0 : (w.alloc (.cells #[.int .i64 5, .int .i64 0, .int .i64 0, .int .i64 0, .int .i64 0, .int .i64 0, .int .i64 0, .int .i64 0, .int .i64 0, .int .i64 0, .int .i64 0, .string ⟨#[]⟩, .int .i64 0, .int .i64 0, .bool false, .int .i64 0, .string ⟨#[]⟩, .int .i64 0, .int .i64 0, .int .i64 0, .int .i64 0, .int .i64 0, .int .i64 0, .slice none 0 0, .bool false, .int .i64 sl, .int .i64 q] 46)).rangeAt w.heap.size 25 [.int .i64 sl, .int .i64 q] := World.rangeAt_of_block K0 25 2
  have KC : (w.alloc (.cells #[.int .i64 5, .int .i64 0, .int .i64 0, .int .i64 0, .int .i64 0, .int .i64 0, .int .i64 0, .int .i64 0, .int .i64 0, .int .i64 0, .int .i64 0, .string ⟨#[]⟩, .int .i64 0, .int .i64 0, .bool false, .int .i64 0, .string ⟨#[]⟩, .int .i64 0, .int .i64 0, .int .i64 0, .int .i64 0, .int .i64 0, .int .i64 0, .slice none 0 0, .bool false, .int .i64 sl, .int .i64 q] 46)).cell? ⟨w.heap.size, 0, none⟩ = some (.int .i64 5) := (K0.cell 0).trans rfl
  clear K0
  go_enter Try.func28, Try.ntmps28
  go_wp2_with (first
    | (refine wpList_load_mid rfl 34 (.tmp 27) rfl w.heap.size 25 rfl [.int .i64 sl, .int .i64 q] _ R0 Try.underlying34 rfl (by kernel_rfl) ?_))
  go_ret
  exact ⟨_, rfl, rfl, bel_alloc _ _⟩
/-- Any has answered. -/
def AnyTo (w : World) (m : M) (e : Ending) (w' : World) : Prop := ∃ r W, e = .returned r ∧ W = w' ∧ MV W r m ∧ Below w.heap.size w W
theorem any_m (v : Value) (m : M) (w : World) (h : RV w v m) (hm : mayM m = true) : Calls Try.prog 28 #[v] w (AnyTo w m) := by
  cases m with
  | hello hw hl => obtain rfl := h; exact (any_hello hw hl w).mono fun e w' ⟨W, he, hw, hb⟩ => ⟨_, W, he, hw, rfl, hb⟩
  | grant gw gl ge => obtain rfl := h; exact (any_grant gw gl ge w).mono fun e w' ⟨W, he, hw, hb⟩ => ⟨_, W, he, hw, rfl, hb⟩
  | ask sl q sh sq ep t k b f d s => obtain rfl := h; exact (any_ask sl q sh sq ep t k b f d s w).mono fun e w' ⟨W, he, hw, hb⟩ => ⟨_, W, he, hw, rfl, hb⟩
  | reply sl q sh sq wk ep xs en =>
    obtain ⟨A, c, rfl, hx⟩ := h
    exact (any_reply sl q sh sq wk ep A _ c en w).mono fun e w' ⟨W, he, hw, hb⟩ => ⟨_, W, he, hw, ⟨A, c, rfl, hx.below hb⟩, hb⟩
  | stop sl q => obtain rfl := h; exact (any_stop sl q w).mono fun e w' ⟨W, he, hw, hb⟩ => ⟨_, W, he, hw, rfl, hb⟩
  | other x => cases hm
  | none => cases hm
set_option maxHeartbeats 2000000 in
theorem over_in (g n cap : Nat) (base : Nat) (xs : List Int) (w : World) (h : w.ownsRow base 5 1 (.slice (some ⟨g, 0, none⟩) n cap) n (bvals xs)) (hb : base ≤ w.heap.size) (hn : n ≤ 2000000) :
    Calls Try.prog 22 #[.slice (some ⟨g, 0, none⟩) n cap] w fun e w' => ∃ W, e = .returned (.tuple #[]) ∧ W = w' ∧ w.grownBy W (some g) := by
  obtain ⟨i0, hi, hz0, hz1, hz2⟩ := info_parts info_u8
  have I := Lib.hid (And.intro hi (And.intro hz0 (And.intro hz1 hz2)))
  clear hi hz0 hz1 hz2
  have H := Lib.hid h
  clear h
  go_enter Try.func22, Try.ntmps22
  go_wp2
  go_loopw [2] (fun i wr => ∃ (k : Nat) (ys : List Int), k ≤ n ∧ i = .int .i64 k ∧ Hid (wr.ownsRow base 5 1 (.slice (some ⟨g, 0, none⟩) n cap) n (bvals ys)) ∧ Hid (w.grownBy wr (some g))) (fun i _ => n - (intOf i).toNat)
  case atStart => exact ⟨0, xs, by omega, rfl, H, World.grownBy.refl _ _⟩
  case round =>
    obtain ⟨k, ys, hk, rfl, HO, HG⟩ := hrel
    by_cases hlt : k < n
    · have hc := own_row_cell HO.out k hlt
      have hf : wr.frozen? ⟨g, k, none⟩ = false := World.ownsRow.frozenAt HO.out _
      go_wp2
      go_roundw
      case rel => exact ⟨k + 1, ys.set k 238, by omega, by go_num, (by
        have hs := World.ownsRow.stored HO.out k (.int .u8 238)
        rw [bvals_set] at hs
        exact hs.1), only_setCell HG.out (.inl rfl) _⟩
      case measure => simp [intOf]; omega
    · obtain rfl : k = n := by omega
      go_wp2_with (at_builtin; refine wpList_append_any _ rfl (.tmp 12) (.tmp 13) _ rfl base 5 i0 _ 1 1 Try.underlying39 I.out.1 I.out.2.1 I.out.2.2.1 I.out.2.2.2 rfl (by omega) _ k (bvals ys) rfl (HO.out.alloc _) _ _ 1 1 [.int .u8 238] rfl (reads_new _ _ _) (bvals_one [_]) (by simp only [maxLen]; omega) (by omega) (Nat.le_trans hb (Nat.le_trans HG.out.size (by simp))) ?_; intro v2 w2 hown2 hg2 hat2)
      go_end0
      refine ⟨rfl, ?_⟩
      have h1 : wr.grownBy (wr.alloc (.cells #[.int .u8 238] 5)) (some g) := only_of_below (bel_alloc _ _) _
      exact ⟨(hg2.os.trans h1.os).trans HG.out.os, (hg2.tape.trans h1.tape).trans HG.out.tape, (hg2.output.trans h1.output).trans HG.out.output, Nat.le_trans HG.out.size (Nat.le_trans h1.size hg2.size), fun i hi hne => ((hg2.block i (Nat.lt_of_lt_of_le (Nat.lt_of_lt_of_le hi HG.out.size) h1.size) hne).trans (h1.block i (Nat.lt_of_lt_of_le hi HG.out.size) hne)).trans (HG.out.block i hi hne)⟩
theorem Lent.own {w : World} {g n : Nat} {zs : List Int} (h : Lent w g zs) (hn : zs.length = n) (hm : n ≤ 100000) (base : Nat) (hb : base ≤ g) : w.ownsRow base 5 1 (.slice (some ⟨g, 0, none⟩) n (n + 3)) n (bvals zs) := by
  refine ⟨by rw [bvals_length, hn, Nat.mul_one], .inr ⟨g, n + 3, _, rfl, hb, h, by omega, by simp only [maxLen]; omega, ?_, ?_⟩⟩
  · simp only [List.size_toArray, bvals_length, List.length_append, List.length_cons, List.length_nil, hn]
    omega
  · simp only [bvals, List.map_append]
    rw [List.take_left' (by rw [List.length_map, hn, Nat.mul_one])]
theorem XReads.lent {w w1 : World} {A : Option Addr} {n g : Nat} {xs : List (Int × ByteArray)} {zs : List Int} (h : XReads w A n xs) (hl : Lent w g zs) (hg : w.grownBy w1 (some g)) : XReads w1 A n xs := by
  by_cases h0 : 0 < n
  · refine h.of_blocks fun ad e hlt => hg.block _ hlt ?_
    intro e2
    injection e2 with e2
    obtain ⟨ad', e', hc⟩ := h.2.2 h0
    rw [e] at e'
    injection e' with e'
    subst e'
    have h2 := (hc 0 h0).2
    rw [show (ad.add (0 * 2)).block = g by rw [block_of_add]; exact e2] at h2
    rw [cell_of_row _ _ _ _ _ _ hl, List.getElem?_toArray, bvals, List.getElem?_map] at h2
    cases hq : (zs ++ [119, 119, 119])[(ad.add (0 * 2)).off + 1]? with
    | none => rw [hq] at h2; cases h2
    | some z => rw [hq] at h2; injection h2 with h2; cases h2
  · exact ⟨h.1, h.2.1, fun k => absurd k h0⟩
theorem MV.lent {w w1 : World} {v : Value} {m : M} {g : Nat} {zs : List Int} (h : MV w v m) (hl : Lent w g zs) (hg : w.grownBy w1 (some g)) : MV w1 v m := by
  cases m <;> try exact h
  obtain ⟨A, c, e, hx⟩ := h
  exact ⟨A, c, e, hx.lent hl hg⟩
theorem RV.lent {w w1 : World} {v : Value} {m : M} {g : Nat} {zs : List Int} (h : RV w v m) (hl : Lent w g zs) (hg : w.grownBy w1 (some g)) : RV w1 v m := by
  cases m <;> try exact h
  obtain ⟨A, c, e, hx⟩ := h
  exact ⟨A, c, e, hx.lent hl hg⟩
theorem rv_agg {w : World} {v : Value} {m : M} (h : RV w v m) : ∃ cs, v = .agg cs ∧ cs.size = 27 ∧ cs.all (·.oneCell') = true := by
  cases m with
  | reply sl q sh sq wk ep xs en =>
    obtain ⟨A, c, rfl, hx⟩ := h
    exact ⟨_, rfl, rfl, by kernel_rfl⟩
  | hello => obtain rfl := h; exact ⟨_, rfl, rfl, by kernel_rfl⟩
  | grant => obtain rfl := h; exact ⟨_, rfl, rfl, by kernel_rfl⟩
  | ask => obtain rfl := h; exact ⟨_, rfl, rfl, by kernel_rfl⟩
  | stop => obtain rfl := h; exact ⟨_, rfl, rfl, by kernel_rfl⟩
  | other => obtain rfl := h; exact ⟨_, rfl, rfl, by kernel_rfl⟩
  | none => obtain rfl := h; exact ⟨_, rfl, rfl, by kernel_rfl⟩
theorem dec_may {zs : List Int} (h : (decI zs).1 = 0) : mayM (decI zs).2 = true := by
  unfold decI at h ⊢
  split at h
  · cases h
  split at h
  · cases h
  split at h
  · cases h
  · rename_i h1 h2 h3
    rw [if_neg h1, if_neg h2, if_neg h3]
    cases hm : mayM (readM (zs.take (zs.length - 4)) (gi zs 2) 3 false).1 with
    | true => rfl
    | false => exact absurd (.inr (.inr hm)) h3
theorem dec_none {zs : List Int} (h : (decI zs).1 ≠ 0) : (decI zs).2 = .none := by
  unfold decI at h ⊢
  split
  · rfl
  split
  · rfl
  split
  · rfl
  · rename_i h1 h2 h3
    rw [if_neg h1, if_neg h2, if_neg h3] at h
    exact absurd rfl h
theorem msgReads_far (A : Option Addr) (n c : Nat) (w : World) (h : 1100 < n) (hn : n ≤ 9223372036854775807) :
    Calls Try.prog 4 #[.slice A n c] w (Gives w (.bool true)) := by
  have h1 : decide ((1100 : Int) < (n : Int)) = true := decide_eq_true (by omega)
  have h2 : (1100 : Int) < (n : Int) := by omega
  go_enter Try.func4, Try.ntmps4
  go_wp2_with (go_at_call 11; (with_reducible refine (awake_any _).mono ?_); rintro e w' ⟨w9, rfl, rfl, b9⟩)
  go_ret
  exact ⟨_, rfl, rfl, b9⟩
set_option maxHeartbeats 8000000 in
theorem msgReads_no (A : Option Addr) (n c : Nat) (zs : List Int) (w : World) (h : BReads w A n zs) (hc : n ≤ c) (hcm : c ≤ 9223372036854775807) (hn : n ≤ 1100) (E : Int) (m : M) (hd : decI zs = (E, m)) (hE : E ≠ 0) (hm : m = .none) :
    Calls Try.prog 4 #[.slice A n c] w (Gives w (.bool true)) := by
  have h1 : decide ((1100 : Int) < (n : Int)) = false := decide_eq_false (by omega)
  have h2 : ¬ (1100 : Int) < (n : Int) := by omega
  have hl := h.1
  have bE : (E != E) = false := by simp
  have HZR := Lib.hid h.range
  have HZL := Lib.hid hl
  have H := Lib.hid h
  have HD := Lib.hid hd
  subst hm
  have hE' : (E != 0) = true := by simpa using hE
  clear h hd hl
  go_enter Try.func4, Try.ntmps4
  go_wp2_with (first
    | (go_at_call 24; (with_reducible refine (lend_any A n c zs w H.out (by omega)).mono ?_); rintro e w' ⟨w1, rfl, rfl, hl, hb⟩; have HL1 := Lib.hid hl; have HB1 := Lib.hid hb; have HI1 : Hid (BReads w1 (some ⟨w.heap.size, 0, none⟩) n zs) := hl.breads n HZL.out (by omega) HZR.out; have hg1 : w.heap.size < w1.heap.size := (Blk.lt hl); clear hl hb)
    | (go_at_call 25; (with_reducible refine (decode_any (some ⟨w.heap.size, 0, none⟩) n (n + 3) zs w1 HI1.out (by omega) (by omega)).mono ?_); rw [HD.out]; rintro e w' ⟨v, w2, rfl, rfl, mv, sm, hb⟩; have mv0 := mv; obtain rfl : v = .nilIface := mv0; have HMV2 := Lib.hid mv; have HB2 := Lib.hid (bel3 HB1.out hb); have HL2 := Lib.hid (HL1.out.below hb hg1); have HA2 := Lib.hid (H.out.below HB2.out); have hg2 : w.heap.size < w2.heap.size := Nat.lt_of_lt_of_le hg1 hb.size; clear mv sm hb)
    | (go_at_call 26; (with_reducible refine (rdecode_any A n c zs w2 HA2.out hc hcm).mono ?_); rw [HD.out]; rintro e w' ⟨rv, w3, rfl, rfl, mv, hb⟩; have HMV3 := Lib.hid (HMV2.out.below hb); have HB3 := Lib.hid (bel3 HB2.out hb); have HL3 := Lib.hid (HL2.out.below hb hg2); have hg3 : w.heap.size < w3.heap.size := Nat.lt_of_lt_of_le hg2 hb.size; obtain ⟨cs, rfl, hcs, hones⟩ := rv_agg mv; have HRV3 := Lib.hid mv; have HCS := Lib.hid hcs; have HONE := Lib.hid hones; have HI : Hid ((Try.prog.info? 46).map (·.size) = some cs.size) := (by unfold Hid; rw [HCS.out]; kernel_rfl); have HSZ : Hid ((#[.int .i64 0, .int .i64 0, .int .i64 0, .int .i64 0, .int .i64 0, .int .i64 0, .int .i64 0, .int .i64 0, .int .i64 0, .int .i64 0, .int .i64 0, .string ⟨#[]⟩, .int .i64 0, .int .i64 0, .bool false, .int .i64 0, .string ⟨#[]⟩, .int .i64 0, .int .i64 0, .int .i64 0, .int .i64 0, .int .i64 0, .int .i64 0, .slice none 0 0, .bool false, .int .i64 0, .int .i64 0] : Array Value).size = cs.size) := HCS.out.symm; have KN3 := Lib.hid (Blk.new w3 46 #[.int .i64 0, .int .i64 0, .int .i64 0, .int .i64 0, .int .i64 0, .int .i64 0, .int .i64 0, .int .i64 0, .int .i64 0, .int .i64 0, .int .i64 0, .string ⟨#[]⟩, .int .i64 0, .int .i64 0, .bool false, .int .i64 0, .string ⟨#[]⟩, .int .i64 0, .int .i64 0, .int .i64 0, .int .i64 0, .int .i64 0, .int .i64 0, .slice none 0 0, .bool false, .int .i64 0, .int .i64 0]); clear mv hb hcs hones)
    | (have KN_ : Blk (w3.alloc (.cells #[.int .i64 0, .int .i64 0, .int .i64 0, .int .i64 0, .int .i64 0, .int .i64 0, .int .i64 0, .int .i64 0, .int .i64 0, .int .i64 0, .int .i64 0, .string ⟨#[]⟩, .int .i64 0, .int .i64 0, .bool false, .int .i64 0, .string ⟨#[]⟩, .int .i64 0, .int .i64 0, .int .i64 0, .int .i64 0, .int .i64 0, .int .i64 0, .slice none 0 0, .bool false, .int .i64 0, .int .i64 0] 46)) w3.heap.size 46 #[.int .i64 0, .int .i64 0, .int .i64 0, .int .i64 0, .int .i64 0, .int .i64 0, .int .i64 0, .int .i64 0, .int .i64 0, .int .i64 0, .int .i64 0, .string ⟨#[]⟩, .int .i64 0, .int .i64 0, .bool false, .int .i64 0, .string ⟨#[]⟩, .int .i64 0, .int .i64 0, .int .i64 0, .int .i64 0, .int .i64 0, .int .i64 0, .slice none 0 0, .bool false, .int .i64 0, .int .i64 0] := KN3.out; refine wpList_store_row rfl 46 (.tmp 6) (.tmp 22) rfl w3.heap.size cs rfl rfl 46 _ KN_ HI.out HSZ.out HONE.out ?_; have hs4 : Below w3.heap.size w3 ((w3.alloc (.cells #[.int .i64 0, .int .i64 0, .int .i64 0, .int .i64 0, .int .i64 0, .int .i64 0, .int .i64 0, .int .i64 0, .int .i64 0, .int .i64 0, .int .i64 0, .string ⟨#[]⟩, .int .i64 0, .int .i64 0, .bool false, .int .i64 0, .string ⟨#[]⟩, .int .i64 0, .int .i64 0, .int .i64 0, .int .i64 0, .int .i64 0, .int .i64 0, .slice none 0 0, .bool false, .int .i64 0, .int .i64 0] 46)).setRow w3.heap.size cs) := below_setRow (bel_alloc _ _) (Nat.le_refl _) _; have hk4 : Blk ((w3.alloc (.cells #[.int .i64 0, .int .i64 0, .int .i64 0, .int .i64 0, .int .i64 0, .int .i64 0, .int .i64 0, .int .i64 0, .int .i64 0, .int .i64 0, .int .i64 0, .string ⟨#[]⟩, .int .i64 0, .int .i64 0, .bool false, .int .i64 0, .string ⟨#[]⟩, .int .i64 0, .int .i64 0, .int .i64 0, .int .i64 0, .int .i64 0, .int .i64 0, .slice none 0 0, .bool false, .int .i64 0, .int .i64 0] 46)).setRow w3.heap.size cs) w3.heap.size 46 cs := setRow_heap _ _ _ _ _ _ KN_; clear KN_ KN3; revert hs4 hk4; generalize World.setRow _ _ _ = w4; intro hs4 hk4; have HMV4 := Lib.hid (HMV3.out.below hs4); have HRV4 := Lib.hid (HRV3.out.below hs4); have HB4 := Lib.hid (bel3 HB3.out hs4); have HL4 := Lib.hid (HL3.out.below hs4 hg3); have KM4 := Lib.hid hk4; clear hs4 hk4)
    | (go_at_call 22; (with_reducible refine (over_in w.heap.size n (n + 3) w.heap.size zs w4 (HL4.out.own HZL.out (by omega) _ (Nat.le_refl _)) HB4.out.size (by omega)).mono ?_); rintro e w' ⟨w5, rfl, rfl, hg⟩; have HMV5 := Lib.hid (HMV4.out.lent HL4.out hg); have HRV5 := Lib.hid (HRV4.out.lent HL4.out hg); have HB5 : Hid (Below w.heap.size w w5) := Below.grown HB4.out hg HB4.out.size (fun q hq => by injection hq with hq; omega); have KM5 := Lib.hid (KM4.out.grown hg (by intro e; injection e with e; omega)); clear hg)
    | (go_at_call 18; (with_reducible refine (lawnum_any _ _).mono ?_); rintro e w' ⟨rfl, rfl⟩)
    | (go_at_call 11; (with_reducible refine (awake_any _).mono ?_); rintro e w' ⟨w9, rfl, rfl, b9⟩; have HBZ := Lib.hid (bel3 HB5.out b9)))
  go_ret
  exact ⟨_, rfl, rfl, HBZ.out⟩
set_option maxHeartbeats 8000000 in
theorem msgReads_yes (A : Option Addr) (n c : Nat) (zs : List Int) (w : World) (h : BReads w A n zs) (hc : n ≤ c) (hcm : c ≤ 9223372036854775807) (hn : n ≤ 1100) (E : Int) (m : M) (hd : decI zs = (E, m)) (hE : E = 0) (hm : mayM m = true) :
    Calls Try.prog 4 #[.slice A n c] w (Gives w (.bool true)) := by
  have h1 : decide ((1100 : Int) < (n : Int)) = false := decide_eq_false (by omega)
  have h2 : ¬ (1100 : Int) < (n : Int) := by omega
  have hl := h.1
  have bE : (E != E) = false := by simp
  have HZR := Lib.hid h.range
  have HZL := Lib.hid hl
  have H := Lib.hid h
  have HD := Lib.hid hd
  subst hE
  have HM := Lib.hid hm
  have HSS := Lib.hid (same_self hm)
  clear hm
  clear h hd hl
  go_enter Try.func4, Try.ntmps4
  go_wp2_with (first
    | (go_at_call 24; (with_reducible refine (lend_any A n c zs w H.out (by omega)).mono ?_); rintro e w' ⟨w1, rfl, rfl, hl, hb⟩; have HL1 := Lib.hid hl; have HB1 := Lib.hid hb; have HI1 : Hid (BReads w1 (some ⟨w.heap.size, 0, none⟩) n zs) := hl.breads n HZL.out (by omega) HZR.out; have hg1 : w.heap.size < w1.heap.size := (Blk.lt hl); clear hl hb)
    | (go_at_call 25; (with_reducible refine (decode_any (some ⟨w.heap.size, 0, none⟩) n (n + 3) zs w1 HI1.out (by omega) (by omega)).mono ?_); rw [HD.out]; rintro e w' ⟨v, w2, rfl, rfl, mv, sm, hb⟩; have HMV2 := Lib.hid mv; have HB2 := Lib.hid (bel3 HB1.out hb); have HL2 := Lib.hid (HL1.out.below hb hg1); have HA2 := Lib.hid (H.out.below HB2.out); have hg2 : w.heap.size < w2.heap.size := Nat.lt_of_lt_of_le hg1 hb.size; clear mv sm hb)
    | (go_at_call 26; (with_reducible refine (rdecode_any A n c zs w2 HA2.out hc hcm).mono ?_); rw [HD.out]; rintro e w' ⟨rv, w3, rfl, rfl, mv, hb⟩; have HMV3 := Lib.hid (HMV2.out.below hb); have HB3 := Lib.hid (bel3 HB2.out hb); have HL3 := Lib.hid (HL2.out.below hb hg2); have hg3 : w.heap.size < w3.heap.size := Nat.lt_of_lt_of_le hg2 hb.size; obtain ⟨cs, rfl, hcs, hones⟩ := rv_agg mv; have HRV3 := Lib.hid mv; have HCS := Lib.hid hcs; have HONE := Lib.hid hones; have HI : Hid ((Try.prog.info? 46).map (·.size) = some cs.size) := (by unfold Hid; rw [HCS.out]; kernel_rfl); have HSZ : Hid ((#[.int .i64 0, .int .i64 0, .int .i64 0, .int .i64 0, .int .i64 0, .int .i64 0, .int .i64 0, .int .i64 0, .int .i64 0, .int .i64 0, .int .i64 0, .string ⟨#[]⟩, .int .i64 0, .int .i64 0, .bool false, .int .i64 0, .string ⟨#[]⟩, .int .i64 0, .int .i64 0, .int .i64 0, .int .i64 0, .int .i64 0, .int .i64 0, .slice none 0 0, .bool false, .int .i64 0, .int .i64 0] : Array Value).size = cs.size) := HCS.out.symm; have KN3 := Lib.hid (Blk.new w3 46 #[.int .i64 0, .int .i64 0, .int .i64 0, .int .i64 0, .int .i64 0, .int .i64 0, .int .i64 0, .int .i64 0, .int .i64 0, .int .i64 0, .int .i64 0, .string ⟨#[]⟩, .int .i64 0, .int .i64 0, .bool false, .int .i64 0, .string ⟨#[]⟩, .int .i64 0, .int .i64 0, .int .i64 0, .int .i64 0, .int .i64 0, .int .i64 0, .slice none 0 0, .bool false, .int .i64 0, .int .i64 0]); clear mv hb hcs hones)
    | (have KN_ : Blk (w3.alloc (.cells #[.int .i64 0, .int .i64 0, .int .i64 0, .int .i64 0, .int .i64 0, .int .i64 0, .int .i64 0, .int .i64 0, .int .i64 0, .int .i64 0, .int .i64 0, .string ⟨#[]⟩, .int .i64 0, .int .i64 0, .bool false, .int .i64 0, .string ⟨#[]⟩, .int .i64 0, .int .i64 0, .int .i64 0, .int .i64 0, .int .i64 0, .int .i64 0, .slice none 0 0, .bool false, .int .i64 0, .int .i64 0] 46)) w3.heap.size 46 #[.int .i64 0, .int .i64 0, .int .i64 0, .int .i64 0, .int .i64 0, .int .i64 0, .int .i64 0, .int .i64 0, .int .i64 0, .int .i64 0, .int .i64 0, .string ⟨#[]⟩, .int .i64 0, .int .i64 0, .bool false, .int .i64 0, .string ⟨#[]⟩, .int .i64 0, .int .i64 0, .int .i64 0, .int .i64 0, .int .i64 0, .int .i64 0, .slice none 0 0, .bool false, .int .i64 0, .int .i64 0] := KN3.out; refine wpList_store_row rfl 46 (.tmp 6) (.tmp 22) rfl w3.heap.size cs rfl rfl 46 _ KN_ HI.out HSZ.out HONE.out ?_; have hs4 : Below w3.heap.size w3 ((w3.alloc (.cells #[.int .i64 0, .int .i64 0, .int .i64 0, .int .i64 0, .int .i64 0, .int .i64 0, .int .i64 0, .int .i64 0, .int .i64 0, .int .i64 0, .int .i64 0, .string ⟨#[]⟩, .int .i64 0, .int .i64 0, .bool false, .int .i64 0, .string ⟨#[]⟩, .int .i64 0, .int .i64 0, .int .i64 0, .int .i64 0, .int .i64 0, .int .i64 0, .slice none 0 0, .bool false, .int .i64 0, .int .i64 0] 46)).setRow w3.heap.size cs) := below_setRow (bel_alloc _ _) (Nat.le_refl _) _; have hk4 : Blk ((w3.alloc (.cells #[.int .i64 0, .int .i64 0, .int .i64 0, .int .i64 0, .int .i64 0, .int .i64 0, .int .i64 0, .int .i64 0, .int .i64 0, .int .i64 0, .int .i64 0, .string ⟨#[]⟩, .int .i64 0, .int .i64 0, .bool false, .int .i64 0, .string ⟨#[]⟩, .int .i64 0, .int .i64 0, .int .i64 0, .int .i64 0, .int .i64 0, .int .i64 0, .slice none 0 0, .bool false, .int .i64 0, .int .i64 0] 46)).setRow w3.heap.size cs) w3.heap.size 46 cs := setRow_heap _ _ _ _ _ _ KN_; clear KN_ KN3; revert hs4 hk4; generalize World.setRow _ _ _ = w4; intro hs4 hk4; have HMV4 := Lib.hid (HMV3.out.below hs4); have HRV4 := Lib.hid (HRV3.out.below hs4); have HB4 := Lib.hid (bel3 HB3.out hs4); have HL4 := Lib.hid (HL3.out.below hs4 hg3); have KM4 := Lib.hid hk4; clear hs4 hk4)
    | (go_at_call 22; (with_reducible refine (over_in w.heap.size n (n + 3) w.heap.size zs w4 (HL4.out.own HZL.out (by omega) _ (Nat.le_refl _)) HB4.out.size (by omega)).mono ?_); rintro e w' ⟨w5, rfl, rfl, hg⟩; have HMV5 := Lib.hid (HMV4.out.lent HL4.out hg); have HRV5 := Lib.hid (HRV4.out.lent HL4.out hg); have HB5 : Hid (Below w.heap.size w w5) := Below.grown HB4.out hg HB4.out.size (fun q hq => by injection hq with hq; omega); have KM5 := Lib.hid (KM4.out.grown hg (by intro e; injection e with e; omega)); clear hg)
    | (go_at_call 18; (with_reducible refine (lawnum_any _ _).mono ?_); rintro e w' ⟨rfl, rfl⟩)
    | (have KM_ : Blk w5 _ _ _ := KM5.out; refine wpList_load_row (by rfl) 46 (.tmp 6) (by rfl) w3.heap.size (by rfl) 46 _ (0, 0) _ KM_ Try.underlying46 (by rfl) HI.out ?_)
    | (go_at_call 28; (with_reducible refine (any_m _ m w5 HRV5.out HM.out).mono ?_); rintro e w' ⟨r, w6, rfl, rfl, mv, hb⟩; have HMV6 := Lib.hid (HMV5.out.below hb); have HMR6 := Lib.hid mv; have HB6 := Lib.hid (bel3 HB5.out hb); clear mv hb)
    | (go_at_call 27; (with_reducible refine (same_m v r m m w6 HMV6.out HMR6.out).mono ?_); rintro e w' ⟨w7, rfl, rfl, hb⟩; rw [HSS.out]; have HB7 := Lib.hid (bel3 HB6.out hb); clear hb)
    | (go_at_call 11; (with_reducible refine (awake_any _).mono ?_); rintro e w' ⟨w9, rfl, rfl, b9⟩; have HBZ := Lib.hid (bel3 HB7.out b9)))
  go_ret
  exact ⟨_, rfl, rfl, HBZ.out⟩
theorem msgReads_walk (A : Option Addr) (n c : Nat) (zs : List Int) (w : World) (h : n ≤ 1100 → BReads w A n zs) (hc : n ≤ c) (hcm : c ≤ 9223372036854775807) :
    Calls Try.prog 4 #[.slice A n c] w (Gives w (.bool true)) := by
  by_cases hn : n ≤ 1100
  · by_cases hE : (decI zs).1 = 0
    · exact msgReads_yes A n c zs w (h hn) hc hcm hn (decI zs).1 (decI zs).2 rfl hE (dec_may hE)
    · exact msgReads_no A n c zs w (h hn) hc hcm hn (decI zs).1 (decI zs).2 rfl hE (dec_none hE)
  · exact msgReads_far A n c w (by omega) (by omega)
end Go.Proofs.Ytajhkjikcgfhdaa
