/-
  Plain laws of the heap: what push, fix, remove and pop keep; what Due answers. No program in sight.
-/
import Derived.Test.YtkjjdbbogfjdlaaTimer4
namespace Go.Proofs.Ytkjjdbbogfjdlaa
set_option linter.unusedVariables false
set_option linter.unusedSimpArgs false
namespace HP
theorem lessP_iff (a b : P2) : lessP a b = true ↔ a.1 < b.1 ∨ (a.1 = b.1 ∧ a.2 < b.2) := by
  unfold lessP; simp
def le (a b : P2) : Prop := lessP b a = false
theorem le_iff (a b : P2) : le a b ↔ ¬ (b.1 < a.1 ∨ (b.1 = a.1 ∧ b.2 < a.2)) := by
  unfold le; rw [← Bool.not_eq_true, lessP_iff]
theorem le_refl (a : P2) : le a a := by rw [le_iff]; omega
theorem le_trans {a b c : P2} (h : le a b) (k : le b c) : le a c := by rw [le_iff] at *; omega
theorem le_antisymm {a b : P2} (h : le a b) (k : le b a) : a = b := by
  rw [le_iff] at *
  have h1 : a.1 = b.1 := by omega
  have h2 : a.2 = b.2 := by omega
  exact Prod.ext h1 h2
theorem le_total (a b : P2) : le a b ∨ le b a := by rw [le_iff, le_iff]; omega
theorem le_of_less {a b : P2} (h : lessP a b = true) : le a b := by
  rw [lessP_iff] at h; rw [le_iff]; omega
theorem less_or (a b : P2) : lessP a b = true ∨ le b a := by
  unfold le
  cases lessP a b <;> simp
theorem gp_set (xs : List P2) (i k : Nat) (p : P2) (hi : i < xs.length) : gp (xs.set i p) k = if k = i then p else gp xs k := by
  unfold gp
  rw [List.getD_eq_getElem?_getD, List.getD_eq_getElem?_getD, List.getElem?_set]
  by_cases h : k = i
  · subst h; simp [hi]
  · simp [h, Ne.symm h]
theorem gp_swap (xs : List P2) (i j k : Nat) (hi : i < xs.length) (hj : j < xs.length) : gp (swapP xs i j) k = if k = j then gp xs i else if k = i then gp xs j else gp xs k := by
  unfold swapP
  rw [gp_set _ _ _ _ (by rw [List.length_set]; exact hj), gp_set _ _ _ _ hi]
theorem swapP_perm (xs : List P2) (i j : Nat) (hi : i < xs.length) (hj : j < xs.length) : (swapP xs i j).Perm xs := by
  have h := Array.swap_perm (xs := xs.toArray) (i := i) (j := j) (by simpa using hi) (by simpa using hj)
  rw [Array.perm_iff_toList_perm] at h
  have e1 : gp xs i = xs[i] := by simp [gp, List.getD_eq_getElem?_getD, List.getElem?_eq_getElem hi]
  have e2 : gp xs j = xs[j] := by simp [gp, List.getD_eq_getElem?_getD, List.getElem?_eq_getElem hj]
  unfold swapP
  rw [e1, e2]
  simpa [Array.swap] using h
/-- A heap in its first m places. -/
def HeapP (m : Nat) (xs : List P2) : Prop := ∀ c, 0 < c → c < m → le (gp xs ((c - 1) / 2)) (gp xs c)
/-- A heap but for place j, which may be too small. -/
def UpOk (m j : Nat) (xs : List P2) : Prop :=
  (∀ c, 0 < c → c < m → c ≠ j → le (gp xs ((c - 1) / 2)) (gp xs c)) ∧ (∀ c, 0 < c → c < m → (c - 1) / 2 = j → 0 < j → le (gp xs ((j - 1) / 2)) (gp xs c))
/-- A heap but for place j. -/
def AnyOk (m j : Nat) (xs : List P2) : Prop :=
  (∀ c, 0 < c → c < m → c ≠ j → (c - 1) / 2 ≠ j → le (gp xs ((c - 1) / 2)) (gp xs c)) ∧ (∀ c, 0 < c → c < m → (c - 1) / 2 = j → 0 < j → le (gp xs ((j - 1) / 2)) (gp xs c))
theorem up_spec (m : Nat) (f : Nat) : ∀ (xs : List P2) (j : Nat), j ≤ f → j < m → m ≤ xs.length → UpOk m j xs →
    (upP f xs j).Perm xs ∧ HeapP m (upP f xs j) ∧ ∀ c, j < c → gp (upP f xs j) c = gp xs c := by
  induction f with
  | zero =>
    intro xs j hj hjm hm hu
    obtain rfl : j = 0 := by omega
    exact ⟨List.Perm.refl _, fun c h0 hc => hu.1 c h0 hc (by omega), fun c _ => rfl⟩
  | succ f ih =>
    intro xs j hj hjm hm hu
    simp only [upP]
    by_cases hc : j = 0 ∨ lessP (gp xs j) (gp xs ((j - 1) / 2)) = false
    · rw [if_pos hc]
      refine ⟨List.Perm.refl _, fun c h0 hcm => ?_, fun c _ => rfl⟩
      by_cases hcj : c = j
      · subst hcj
        rcases hc with h | h
        · omega
        · exact h
      · exact hu.1 c h0 hcm hcj
    · rw [if_neg hc]
      have hj0 : 0 < j := by omega
      have hl : lessP (gp xs j) (gp xs ((j - 1) / 2)) = true := by
        cases h : lessP (gp xs j) (gp xs ((j - 1) / 2)) with
        | true => rfl
        | false => exact absurd (Or.inr h) hc
      have hp : (j - 1) / 2 < xs.length := by omega
      have hjl : j < xs.length := by omega
      have hx := gp_swap xs ((j - 1) / 2) j
      have hle := le_of_less hl
      have hU : UpOk m ((j - 1) / 2) (swapP xs ((j - 1) / 2) j) := by
        refine ⟨fun c h0 hcm hcp => ?_, fun c h0 hcm hcp hpp => ?_⟩
        · rw [hx _ hp hjl, hx _ hp hjl]
          by_cases h1 : c = j
          · subst h1
            rw [if_neg (by omega), if_pos rfl, if_pos rfl]
            exact hle
          · rw [if_neg h1, if_neg hcp]
            by_cases h2 : (c - 1) / 2 = j
            · rw [if_pos h2]
              exact hu.2 c h0 hcm h2 hj0
            · rw [if_neg h2]
              by_cases h3 : (c - 1) / 2 = (j - 1) / 2
              · rw [if_pos h3]
                have := hu.1 c h0 hcm h1
                rw [h3] at this
                exact le_trans hle this
              · rw [if_neg h3]
                exact hu.1 c h0 hcm h1
        · have hpar : le (gp xs (((j - 1) / 2 - 1) / 2)) (gp xs ((j - 1) / 2)) := hu.1 _ hpp (by omega) (by omega)
          rw [hx _ hp hjl, hx _ hp hjl, if_neg (by omega), if_neg (by omega)]
          by_cases h1 : c = j
          · rw [if_pos h1]
            exact hpar
          · rw [if_neg h1, if_neg (by omega)]
            have := hu.1 c h0 hcm h1
            rw [hcp] at this
            exact le_trans hpar this
      obtain ⟨i1, i2, i3⟩ := ih (swapP xs ((j - 1) / 2) j) ((j - 1) / 2) (by omega) (by omega) (by rw [swapP_length]; exact hm) hU
      refine ⟨i1.trans (swapP_perm xs _ _ hp hjl), i2, fun c hcj => ?_⟩
      rw [i3 c (by omega), hx c hp hjl, if_neg (by omega), if_neg (by omega)]
theorem kid_lt (xs : List P2) (k m : Nat) (h : 2 * k + 1 < m) : kid xs k m < m ∧ (kid xs k m = 2 * k + 1 ∨ kid xs k m = 2 * k + 1 + 1) := by
  unfold kid
  split
  · next h => exact ⟨h.1, .inr rfl⟩
  · exact ⟨h, .inl rfl⟩
theorem kid_le (xs : List P2) (k m c : Nat) (h0 : 0 < c) (hc : c < m) (hp : (c - 1) / 2 = k) : le (gp xs (kid xs k m)) (gp xs c) := by
  have h : c = 2 * k + 1 ∨ c = 2 * k + 1 + 1 := by omega
  unfold kid
  split
  · next hk =>
    rcases h with rfl | rfl
    · exact le_of_less hk.2
    · exact le_refl _
  · next hk =>
    rcases h with rfl | rfl
    · exact le_refl _
    · rcases less_or (gp xs (2 * k + 1 + 1)) (gp xs (2 * k + 1)) with q | q
      · exact absurd ⟨hc, q⟩ hk
      · exact q
theorem down_spec (m : Nat) (f : Nat) : ∀ (xs : List P2) (k : Nat), m - k ≤ f → m ≤ xs.length → AnyOk m k xs →
    (downP m f xs k).1.Perm xs ∧ (∀ c, m ≤ c → gp (downP m f xs k).1 c = gp xs c) ∧
      ((k < (downP m f xs k).2 ∧ HeapP m (downP m f xs k).1) ∨ ((downP m f xs k).2 = k ∧ (downP m f xs k).1 = xs ∧ UpOk m k xs)) := by
  induction f with
  | zero =>
    intro xs k hk hm hu
    refine ⟨List.Perm.refl _, fun c _ => rfl, .inr ⟨rfl, rfl, fun c h0 hc hck => hu.1 c h0 hc hck (by omega), hu.2⟩⟩
  | succ f ih =>
    intro xs k hk hm hu
    simp only [downP]
    by_cases hc : m ≤ 2 * k + 1 ∨ lessP (gp xs (kid xs k m)) (gp xs k) = false
    · rw [if_pos hc]
      refine ⟨List.Perm.refl _, fun c _ => rfl, .inr ⟨rfl, rfl, fun c h0 hcm hck => ?_, hu.2⟩⟩
      by_cases hp : (c - 1) / 2 = k
      · rw [hp]
        rcases hc with h | h
        · omega
        · exact le_trans (b := gp xs (kid xs k m)) h (kid_le xs k m c h0 hcm hp)
      · exact hu.1 c h0 hcm hck hp
    · rw [if_neg hc]
      have hin : 2 * k + 1 < m := by omega
      have hl : lessP (gp xs (kid xs k m)) (gp xs k) = true := by
        cases h : lessP (gp xs (kid xs k m)) (gp xs k) with
        | true => rfl
        | false => exact absurd (Or.inr h) hc
      obtain ⟨hjm, hj⟩ := kid_lt xs k m hin
      have hkl : k < xs.length := by omega
      have hkid := kid_le xs k m
      generalize kid xs k m = j at *
      have hjl : j < xs.length := by omega
      have hx := gp_swap xs k j
      have hle := le_of_less hl
      have hA : AnyOk m j (swapP xs k j) := by
        refine ⟨fun c h0 hcm hcj hpj => ?_, fun c h0 hcm hp h0j => ?_⟩
        · rw [hx _ hkl hjl, hx _ hkl hjl, if_neg hpj, if_neg hcj]
          by_cases h1 : c = k
          · subst h1
            rw [if_neg (by omega), if_pos rfl]
            exact hu.2 j (by omega) hjm (by omega) h0
          · rw [if_neg h1]
            by_cases h2 : (c - 1) / 2 = k
            · rw [if_pos h2]
              exact hkid c h0 hcm h2
            · rw [if_neg h2]
              exact hu.1 c h0 hcm h1 h2
        · rw [hx _ hkl hjl, hx _ hkl hjl, if_neg (by omega), if_pos (by omega), if_neg (by omega), if_neg (by omega)]
          have := hu.1 c h0 hcm (by omega) (by omega)
          rw [hp] at this
          exact this
      obtain ⟨i1, i2, i3⟩ := ih (swapP xs k j) j (by omega) (by rw [swapP_length]; exact hm) hA
      refine ⟨i1.trans (swapP_perm xs _ _ hkl hjl), fun c hcm => ?_, .inl ?_⟩
      · rw [i2 c hcm, hx c hkl hjl, if_neg (by omega), if_neg (by omega)]
      · rcases i3 with ⟨q1, q2⟩ | ⟨q1, q2, q3⟩
        · exact ⟨by omega, q2⟩
        · refine ⟨by omega, ?_⟩
          rw [q2]
          intro c h0 hcm
          by_cases hcj : c = j
          · subst hcj
            rw [hx _ hkl hjl, hx _ hkl hjl, if_neg (by omega), if_pos (by omega), if_pos rfl]
            exact hle
          · exact q3.1 c h0 hcm hcj
theorem heap_root (m : Nat) (xs : List P2) (h : HeapP m xs) (k : Nat) (hk : k < m) : le (gp xs 0) (gp xs k) := by
  induction k using Nat.strongRecOn with
  | _ k ih =>
    rcases Nat.eq_zero_or_pos k with rfl | h0
    · exact le_refl _
    · exact le_trans (ih ((k - 1) / 2) (by omega) (by omega)) (h k h0 hk)
theorem gp_append_left (xs : List P2) (x : P2) (k : Nat) (h : k < xs.length) : gp (xs ++ [x]) k = gp xs k := by
  simp [gp, List.getD_eq_getElem?_getD, List.getElem?_append_left h]
theorem gp_take (xs : List P2) (n k : Nat) (h : k < n) : gp (xs.take n) k = gp xs k := by
  simp [gp, List.getD_eq_getElem?_getD, List.getElem?_take, h]
theorem heap_take (n : Nat) (xs : List P2) (h : HeapP n xs) : HeapP n (xs.take n) := by
  intro c h0 hc
  rw [gp_take _ _ _ hc, gp_take _ _ _ (by omega)]
  exact h c h0 hc
theorem heap_mono {n m : Nat} {xs : List P2} (h : HeapP m xs) (hn : n ≤ m) : HeapP n xs := fun c h0 hc => h c h0 (by omega)
/-! ### Push, Fix, Pop, Remove -/
theorem push_spec (xs : List P2) (x : P2) (h : HeapP xs.length xs) : (hpush xs x).Perm (x :: xs) ∧ HeapP (hpush xs x).length (hpush xs x) := by
  have hu : UpOk (xs.length + 1) xs.length (xs ++ [x]) := by
    refine ⟨fun c h0 hc hcn => ?_, fun c h0 hc hp hn => ?_⟩
    · rw [gp_append_left _ _ _ (by omega), gp_append_left _ _ _ (by omega)]
      exact h c h0 (by omega)
    · omega
  have hl : (xs ++ [x]).length = xs.length + 1 := by simp
  obtain ⟨i1, i2, _⟩ := up_spec (xs.length + 1) xs.length (xs ++ [x]) xs.length (Nat.le_refl _) (by omega) (by omega) hu
  refine ⟨i1.trans (List.perm_append_singleton _ _), ?_⟩
  unfold hpush
  rw [upP_length, hl]
  exact i2
theorem fix_spec (xs : List P2) (i : Nat) (p : P2) (hi : i < xs.length) (h : HeapP xs.length xs) : (hfix (xs.set i p) i).Perm (xs.set i p) ∧ HeapP (hfix (xs.set i p) i).length (hfix (xs.set i p) i) := by
  have hl : (xs.set i p).length = xs.length := List.length_set
  have hA : AnyOk xs.length i (xs.set i p) := by
    refine ⟨fun c h0 hc hci hpi => ?_, fun c h0 hc hp hi0 => ?_⟩
    · rw [gp_set _ _ _ _ hi, gp_set _ _ _ _ hi, if_neg hpi, if_neg hci]
      exact h c h0 hc
    · rw [gp_set _ _ _ _ hi, gp_set _ _ _ _ hi, if_neg (by omega), if_neg (by omega)]
      have h1 := h c h0 hc
      rw [hp] at h1
      exact le_trans (h i hi0 hi) h1
  obtain ⟨i1, i2, i3⟩ := down_spec xs.length (xs.length - i) (xs.set i p) i (Nat.le_refl _) (by omega) hA
  unfold hfix
  rw [hl]
  rcases i3 with ⟨q1, q2⟩ | ⟨q1, q2, q3⟩
  · rw [if_pos q1, downP_length, hl]
    exact ⟨i1, q2⟩
  · rw [if_neg (by omega), q2, upP_length, hl]
    obtain ⟨j1, j2, _⟩ := up_spec xs.length i (xs.set i p) i (Nat.le_refl _) hi (by omega) q3
    exact ⟨j1, j2⟩
theorem pop_spec (xs : List P2) (n : Nat) (hn : xs.length = n + 1) (h : HeapP xs.length xs) :
    gp (hpop0 xs n) n = gp xs 0 ∧ ((hpop0 xs n).take n ++ [gp xs 0]).Perm xs ∧ HeapP n ((hpop0 xs n).take n) := by
  have hx := gp_swap xs 0 n
  have hA : AnyOk n 0 (swapP xs 0 n) := by
    refine ⟨fun c h0 hc hc0 hp => ?_, fun c h0 hc hp h0' => absurd h0' (by omega)⟩
    rw [hx _ (by omega) (by omega), hx _ (by omega) (by omega), if_neg (by omega), if_neg (by omega), if_neg (by omega), if_neg (by omega)]
    exact h c h0 (by omega)
  obtain ⟨i1, i2, i3⟩ := down_spec n (n - 0) (swapP xs 0 n) 0 (Nat.le_refl _) (by rw [swapP_length]; omega) hA
  have hlast : gp (hpop0 xs n) n = gp xs 0 := by
    unfold hpop0
    rw [i2 n (Nat.le_refl _), hx n (by omega) (by omega), if_pos rfl]
  have hs := split_last (hpop0 xs n) n (hpop0_length xs n hn)
  refine ⟨hlast, ?_, heap_take n _ ?_⟩
  · rw [← hlast, ← hs]
    exact i1.trans (swapP_perm xs 0 n (by omega) (by omega))
  · unfold hpop0
    rcases i3 with ⟨_, q2⟩ | ⟨_, q2, q3⟩
    · exact q2
    · rw [q2]
      exact fun c h0 hc => q3.1 c h0 hc (by omega)
theorem rem_spec (xs : List P2) (n i : Nat) (hn : xs.length = n + 1) (hi : i ≤ n) (h : HeapP xs.length xs) :
    ((hrem xs n i).take n ++ [gp xs i]).Perm xs ∧ HeapP n ((hrem xs n i).take n) := by
  have hs := split_last (hrem xs n i) n (by rw [hrem_length, hn])
  by_cases hin : i = n
  · subst hin
    have e : hrem xs i i = xs := if_pos rfl
    rw [e] at hs ⊢
    rw [← hs]
    exact ⟨List.Perm.refl _, heap_take i _ (heap_mono h (by omega))⟩
  · have hx := gp_swap xs i n
    have hA : AnyOk n i (swapP xs i n) := by
      refine ⟨fun c h0 hc hci hp => ?_, fun c h0 hc hp h0' => ?_⟩
      · rw [hx _ (by omega) (by omega), hx _ (by omega) (by omega), if_neg (by omega), if_neg hp, if_neg (by omega), if_neg hci]
        exact h c h0 (by omega)
      · rw [hx _ (by omega) (by omega), hx _ (by omega) (by omega), if_neg (by omega), if_neg (by omega), if_neg (by omega), if_neg (by omega)]
        have h1 := h c h0 (by omega)
        rw [hp] at h1
        exact le_trans (h i h0' (by omega)) h1
    obtain ⟨i1, i2, i3⟩ := down_spec n (n - i) (swapP xs i n) i (Nat.le_refl _) (by rw [swapP_length]; omega) hA
    have hpm := swapP_perm xs i n (by omega) (by omega)
    have hl : gp (swapP xs i n) n = gp xs i := by rw [hx n (by omega) (by omega), if_pos rfl]
    have key : (hrem xs n i).Perm xs ∧ HeapP n (hrem xs n i) ∧ gp (hrem xs n i) n = gp xs i := by
      unfold hrem
      rw [if_neg hin]
      rcases i3 with ⟨q1, q2⟩ | ⟨q1, q2, q3⟩
      · rw [if_pos q1]
        exact ⟨i1.trans hpm, q2, by rw [i2 n (Nat.le_refl _), hl]⟩
      · rw [if_neg (by omega), q2]
        obtain ⟨j1, j2, j3⟩ := up_spec n i (swapP xs i n) i (Nat.le_refl _) (by omega) (by rw [swapP_length]; omega) q3
        exact ⟨j1.trans hpm, j2, by rw [j3 n (by omega), hl]⟩
    rw [key.2.2] at hs
    rw [← hs]
    exact ⟨key.1, heap_take n _ key.2.1⟩
/-- What Due answers: of the list in order, as far as its moments are not ahead. -/
theorem due_spec (now : Int) (n : Nat) : ∀ (xs ys : List P2), xs.length = n → HeapP n xs → ys.Perm xs → ys.Pairwise le → dueL n xs now = (ys.takeWhile (fun p => decide (p.1 ≤ now))).map (·.2) := by
  induction n with
  | zero =>
    intro xs ys hl _ hp _
    obtain rfl : xs = [] := List.eq_nil_of_length_eq_zero hl
    obtain rfl : ys = [] := hp.eq_nil
    rfl
  | succ n ih =>
    intro xs ys hl hh hp hs
    obtain ⟨p1, p2, p3⟩ := pop_spec xs n hl (by rw [hl]; exact hh)
    cases ys with
    | nil =>
      have := hp.length_eq
      rw [hl] at this
      simp at this
    | cons y ys =>
      have hy : y = gp xs 0 := by
        have h0 : gp xs 0 ∈ y :: ys := hp.mem_iff.2 (List.mem_of_getElem? (gp_get xs 0 (by omega)))
        have hyx : y ∈ xs := hp.mem_iff.1 List.mem_cons_self
        obtain ⟨k, hk, e⟩ := List.getElem_of_mem hyx
        have e' : gp xs k = y := by
          have := gp_get xs k hk
          rw [List.getElem?_eq_getElem hk, e] at this
          injection this with this
          exact this.symm
        have l1 : le (gp xs 0) y := by rw [← e']; exact heap_root (n + 1) xs hh k (by omega)
        rcases List.mem_cons.1 h0 with q | q
        · exact q.symm
        · exact le_antisymm ((List.pairwise_cons.1 hs).1 _ q) l1
      have hp2 : ys.Perm ((hpop0 xs n).take n) := by
        have := hp.trans (p2.symm.trans (List.perm_append_singleton _ _))
        rw [← hy] at this
        exact List.Perm.cons_inv this
      simp only [dueL]
      rw [p1, ← hy, List.takeWhile_cons]
      by_cases hd : now < y.1
      · rw [if_pos hd, if_neg (by simp; omega)]
        rfl
      · rw [if_neg hd, if_pos (by simp; omega), ih _ ys (by rw [List.length_take, hpop0_length xs n hl]; omega) p3 hp2 (List.pairwise_cons.1 hs).2]
        rfl
end HP
end Go.Proofs.Ytkjjdbbogfjdlaa
