/-
  The sum of bytes as plain numbers: it is the document's; a sum is told byte by byte; up to four bytes that lie together tell sums apart.
-/
import Derived.Laws.BitsAllLaws
import Derived.Laws.BitsLemmas
namespace Go.Proofs.Ytajhkjikcgfhdaa
set_option linter.unusedVariables false
set_option linter.unusedSimpArgs false
/-- One of the eight steps of a byte. -/
def step1 (c : Int) : Int := if Go.bits .and .u32 c 1 = 1 then Go.bits .xor .u32 (c / 2) 3988292384 else c / 2
def stepN : Nat → Int → Int
  | 0, c => c
  | n + 1, c => step1 (stepN n c)
def turnI (c b : Int) : Int := stepN 8 (Go.bits .xor .u32 c b)
def notI (c : Int) : Int := Go.bits .xor .u32 IntKind.u32.max c
def addI (c : Int) (zs : List Int) : Int := notI (zs.foldl turnI (notI c))
/-- What the answer is of the nine digits. -/
theorem addI_digits : addI 0 [49, 50, 51, 52, 53, 54, 55, 56, 57] = 3421780262 := by decide +kernel
theorem addI_nil : addI 0 [] = 0 := by decide +kernel
/-- The document's step: the register x, the byte b, its bit q. -/
def refStep (b : Int) (q : Nat) (x : Int) : Int := if (x % 2 != (b / 2 ^ q).tmod 2) = true then Go.bits .xor .u32 (x / 2) 3988292384 else x / 2
def refTurn (b : Int) : Nat → Int → Int
  | 0, x => x
  | q + 1, x => refStep b q (refTurn b q x)
def refI (zs : List Int) : Int := 4294967295 - zs.foldl (fun x b => refTurn b 8 x) 4294967295
/-! ### Over Nat -/
def pN : Nat := 3988292384
def sN (c : Nat) : Nat := if c % 2 = 1 then (c / 2) ^^^ pN else c / 2
def iN : Nat → Nat → Nat
  | 0, c => c
  | n + 1, c => sN (iN n c)
theorem iN_add (a b c : Nat) : iN (a + b) c = iN a (iN b c) := by
  induction a with
  | zero => simp [iN]
  | succ a ih => rw [Nat.succ_add]; simp only [iN]; rw [ih]
def tN (c b : Nat) : Nat := iN 8 (c ^^^ b)
theorem half_xor (a b : Nat) : (a ^^^ b) / 2 = (a / 2) ^^^ (b / 2) := by
  have := Nat.shiftRight_xor_distrib (a := a) (b := b) (i := 1)
  simpa [Nat.shiftRight_eq_div_pow] using this
theorem odd_xor (a b : Nat) : (a ^^^ b) % 2 = (a + b) % 2 := by
  have h := @Nat.xor_mod_two_eq_one a b
  by_cases h1 : a % 2 = 1
  · by_cases h2 : b % 2 = 1
    · have : ¬ (a ^^^ b) % 2 = 1 := fun k => h.1 k ⟨fun _ => h2, fun _ => h1⟩
      omega
    · have : (a ^^^ b) % 2 = 1 := h.2 fun k => h2 (k.1 h1)
      omega
  · by_cases h2 : b % 2 = 1
    · have : (a ^^^ b) % 2 = 1 := h.2 fun k => h1 (k.2 h2)
      omega
    · have : ¬ (a ^^^ b) % 2 = 1 := fun k => h.1 k ⟨fun x => absurd x h1, fun x => absurd x h2⟩
      omega
theorem xor_zero_eq (a b : Nat) (h : a ^^^ b = 0) : a = b := by
  have h1 : (a ^^^ b) ^^^ b = b := by rw [h, Nat.zero_xor]
  rw [Nat.xor_assoc, Nat.xor_self, Nat.xor_zero] at h1
  exact h1
theorem sN_lt (c : Nat) (h : c < 4294967296) : sN c < 4294967296 := by
  unfold sN
  split
  · exact Nat.xor_lt_two_pow (n := 32) (by omega) (by decide)
  · omega
theorem iN_lt (n c : Nat) (h : c < 4294967296) : iN n c < 4294967296 := by
  induction n with
  | zero => exact h
  | succ n ih => exact sN_lt _ ih
theorem xor_lt (a b : Nat) (ha : a < 4294967296) (hb : b < 4294967296) : a ^^^ b < 4294967296 := Nat.xor_lt_two_pow (n := 32) ha hb
theorem sN_xor (a b : Nat) : sN (a ^^^ b) = sN a ^^^ sN b := by
  unfold sN
  rw [half_xor, odd_xor]
  have ha : a % 2 = 0 ∨ a % 2 = 1 := by omega
  have hb : b % 2 = 0 ∨ b % 2 = 1 := by omega
  rcases ha with ha | ha <;> rcases hb with hb | hb
  · rw [if_neg (by omega), if_neg (by omega), if_neg (by omega)]
  · rw [if_pos (by omega), if_neg (by omega), if_pos hb, Nat.xor_assoc]
  · rw [if_pos (by omega), if_pos ha, if_neg (by omega), Nat.xor_assoc, Nat.xor_assoc, Nat.xor_comm (b / 2) pN]
  · rw [if_neg (by omega), if_pos ha, if_pos hb]
    have e : (a / 2 ^^^ pN) ^^^ (b / 2 ^^^ pN) = (a / 2 ^^^ b / 2) ^^^ (pN ^^^ pN) := by
      rw [Nat.xor_assoc, Nat.xor_assoc, ← Nat.xor_assoc pN, Nat.xor_comm pN (b / 2), Nat.xor_assoc]
    rw [e, Nat.xor_self, Nat.xor_zero]
theorem iN_xor (n a b : Nat) : iN n (a ^^^ b) = iN n a ^^^ iN n b := by
  induction n with
  | zero => rfl
  | succ n ih => simp only [iN]; rw [ih, sN_xor]
/-- Nothing but 0 goes to 0. -/
theorem sN_zero (c : Nat) (h : c < 4294967296) (h0 : sN c = 0) : c = 0 := by
  unfold sN at h0
  split at h0
  · have h1 : c / 2 = pN := xor_zero_eq _ _ h0
    unfold pN at h1
    omega
  · omega
theorem iN_zero (n c : Nat) (h : c < 4294967296) (h0 : iN n c = 0) : c = 0 := by
  induction n with
  | zero => exact h0
  | succ n ih => exact ih (sN_zero _ (iN_lt n c h) h0)
theorem iN_zero' (n : Nat) : iN n 0 = 0 := by
  induction n with
  | zero => rfl
  | succ n ih => simp only [iN]; rw [ih]; rfl
theorem iN_inj (n a b : Nat) (ha : a < 4294967296) (hb : b < 4294967296) (h : iN n a = iN n b) : a = b := by
  have h1 : iN n (a ^^^ b) = 0 := by rw [iN_xor, h, Nat.xor_self]
  exact xor_zero_eq _ _ (iN_zero n _ (xor_lt a b ha hb) h1)
/-- A word whose low bits are none goes down by as many places. -/
theorem iN_shift (n e : Nat) : iN n (e * 2 ^ n) = e := by
  induction n generalizing e with
  | zero => simp [iN]
  | succ n ih =>
    have e1 : e * 2 ^ (n + 1) = (e * 2) * 2 ^ n := by rw [Nat.pow_succ, Nat.mul_assoc, Nat.mul_comm (2 ^ n) 2]
    rw [e1]
    simp only [iN]
    rw [ih]
    unfold sN
    rw [if_neg (by omega)]
    omega
theorem tN_lt (c b : Nat) (hc : c < 4294967296) (hb : b < 256) : tN c b < 4294967296 := iN_lt 8 _ (xor_lt c b hc (by omega))
/-- The register behind bytes. -/
def rN (c : Nat) (l : List Nat) : Nat := l.foldl tN c
theorem rN_lt (c : Nat) (l : List Nat) (hc : c < 4294967296) (hl : ∀ b ∈ l, b < 256) : rN c l < 4294967296 := by
  induction l generalizing c with
  | nil => exact hc
  | cons b l ih => exact ih _ (tN_lt c b hc (hl b (by simp))) (fun x hx => hl x (by simp [hx]))
theorem rN_inj (c d : Nat) (l : List Nat) (hc : c < 4294967296) (hd : d < 4294967296) (hl : ∀ b ∈ l, b < 256) (h : rN c l = rN d l) : c = d := by
  induction l generalizing c d with
  | nil => exact h
  | cons b l ih =>
    have hb := hl b (by simp)
    have h1 := ih _ _ (tN_lt c b hc hb) (tN_lt d b hd hb) (fun x hx => hl x (by simp [hx])) h
    have h2 := iN_inj 8 _ _ (xor_lt c b hc (by omega)) (xor_lt d b hd (by omega)) h1
    have h3 : (c ^^^ b) ^^^ b = (d ^^^ b) ^^^ b := by rw [h2]
    simpa [Nat.xor_assoc] using h3
theorem sh8 (e : Nat) : iN 8 (e * 256) = e := iN_shift 8 e
/-- Four bytes take the register as one word. -/
theorem four_word (c a0 a1 a2 a3 : Nat) : rN c [a0, a1, a2, a3] = iN 32 (c ^^^ (a0 ^^^ (a1 * 256 ^^^ (a2 * 65536 ^^^ a3 * 16777216)))) := by
  simp only [rN, List.foldl, tN]
  have e3 : iN 24 (a3 * 16777216) = a3 := iN_shift 24 a3
  have e2 : iN 16 (a2 * 65536) = a2 := iN_shift 16 a2
  have e1 := sh8 a1
  have h1 : iN 8 (c ^^^ a0) ^^^ a1 = iN 8 (c ^^^ (a0 ^^^ a1 * 256)) := by rw [← Nat.xor_assoc c, iN_xor 8 (c ^^^ a0), e1]
  have h2 : iN 8 (iN 8 (c ^^^ a0) ^^^ a1) ^^^ a2 = iN 16 (c ^^^ (a0 ^^^ (a1 * 256 ^^^ a2 * 65536))) := by
    rw [h1, ← iN_add 8 8, ← Nat.xor_assoc a0, ← Nat.xor_assoc c (a0 ^^^ a1 * 256), iN_xor 16 (c ^^^ (a0 ^^^ a1 * 256)), e2]
  have h3 : iN 8 (iN 8 (iN 8 (c ^^^ a0) ^^^ a1) ^^^ a2) ^^^ a3 = iN 24 (c ^^^ (a0 ^^^ (a1 * 256 ^^^ (a2 * 65536 ^^^ a3 * 16777216)))) := by
    rw [h2, ← iN_add 8 16, ← Nat.xor_assoc (a1 * 256) (a2 * 65536), ← Nat.xor_assoc a0 (a1 * 256 ^^^ a2 * 65536), ← Nat.xor_assoc c (a0 ^^^ (a1 * 256 ^^^ a2 * 65536)), iN_xor 24 (c ^^^ (a0 ^^^ (a1 * 256 ^^^ a2 * 65536))), e3]
  rw [h3, ← iN_add 8 24]
theorem join4 (a0 a1 a2 a3 : Nat) (h0 : a0 < 256) (h1 : a1 < 256) (h2 : a2 < 256) : a0 ^^^ (a1 * 256 ^^^ (a2 * 65536 ^^^ a3 * 16777216)) = a0 + a1 * 256 + a2 * 65536 + a3 * 16777216 := by
  have k (x y n : Nat) (hx : x < 2 ^ n) : x ^^^ y * 2 ^ n = x + y * 2 ^ n := by
    rw [Nat.mul_comm y, Nat.add_comm, Nat.two_pow_add_eq_or_of_lt hx y]
    apply Nat.eq_of_testBit_eq
    intro i
    simp only [Nat.testBit_xor, Nat.testBit_or, Nat.testBit_two_pow_mul]
    by_cases hi : n ≤ i
    · have : x.testBit i = false := Nat.testBit_lt_two_pow (Nat.lt_of_lt_of_le hx (Nat.pow_le_pow_right (by omega) hi))
      simp [this]
    · simp [hi]
  have e2 : a2 * 65536 ^^^ a3 * 16777216 = (a2 + a3 * 256) * 65536 := by
    have := k (a2 * 65536) a3 24 (by omega)
    simp only [Nat.reducePow] at this
    rw [this]
    omega
  have e1 : a1 * 256 ^^^ (a2 + a3 * 256) * 65536 = (a1 + (a2 + a3 * 256) * 256) * 256 := by
    have := k (a1 * 256) (a2 + a3 * 256) 16 (by omega)
    simp only [Nat.reducePow] at this
    rw [this]
    omega
  have e0 := k a0 (a1 + (a2 + a3 * 256) * 256) 8 (by omega)
  simp only [Nat.reducePow] at e0
  rw [e2, e1, e0]
  omega
theorem four_apart (c a0 a1 a2 a3 b0 b1 b2 b3 : Nat) (hc : c < 4294967296) (p0 : a0 < 256) (p1 : a1 < 256) (p2 : a2 < 256) (p3 : a3 < 256) (q0 : b0 < 256) (q1 : b1 < 256) (q2 : b2 < 256) (q3 : b3 < 256)
    (h : rN c [a0, a1, a2, a3] = rN c [b0, b1, b2, b3]) : a0 = b0 ∧ a1 = b1 ∧ a2 = b2 ∧ a3 = b3 := by
  rw [four_word, four_word, join4 _ _ _ _ p0 p1 p2, join4 _ _ _ _ q0 q1 q2] at h
  have h1 := iN_inj 32 _ _ (xor_lt _ _ hc (by omega)) (xor_lt _ _ hc (by omega)) h
  have h2 : c ^^^ (c ^^^ (a0 + a1 * 256 + a2 * 65536 + a3 * 16777216)) = c ^^^ (c ^^^ (b0 + b1 * 256 + b2 * 65536 + b3 * 16777216)) := by rw [h1]
  simp only [← Nat.xor_assoc, Nat.xor_self, Nat.zero_xor] at h2
  omega
/-! ### The model's numbers -/
theorem step1_nat (c : Nat) (h : c < 4294967296) : step1 (c : Int) = (sN c : Nat) := by
  unfold step1 sN
  have e1 : Go.bits .and .u32 (c : Int) 1 = ((c % 2 : Nat) : Int) := by
    have := u32_and_nat c 1 h (by omega)
    rw [nat_mask1] at this
    exact this
  have e2 : ((c : Int) / 2) = ((c / 2 : Nat) : Int) := by omega
  have e3 : Go.bits .xor .u32 ((c / 2 : Nat) : Int) 3988292384 = ((c / 2 ^^^ pN : Nat) : Int) := u32_xor_nat (c / 2) 3988292384 (by omega) (by omega)
  rw [e1, e2, e3]
  by_cases h1 : c % 2 = 1
  · rw [if_pos (by omega), if_pos h1]
  · rw [if_neg (by omega), if_neg h1]
theorem stepN_nat (n c : Nat) (h : c < 4294967296) : stepN n (c : Int) = (iN n c : Nat) := by
  induction n with
  | zero => rfl
  | succ n ih =>
    simp only [stepN, iN]
    rw [ih, step1_nat _ (iN_lt n c h)]
theorem turnI_nat (c b : Nat) (h : c < 4294967296) (hb : b < 256) : turnI (c : Int) (b : Int) = (tN c b : Nat) := by
  unfold turnI tN
  rw [u32_xor_nat c b h (by omega), stepN_nat _ _ (xor_lt c b h (by omega))]
def bytesN (zs : List Int) : List Nat := zs.map Int.toNat
theorem bytesN_lt (zs : List Int) (hz : ∀ z, z ∈ zs → 0 ≤ z ∧ z < 256) : ∀ b ∈ bytesN zs, b < 256 := by
  intro b hb
  simp only [bytesN, List.mem_map] at hb
  obtain ⟨z, hz', rfl⟩ := hb
  have := hz z hz'
  omega
theorem foldI_nat (c : Nat) (zs : List Int) (h : c < 4294967296) (hz : ∀ z, z ∈ zs → 0 ≤ z ∧ z < 256) : zs.foldl turnI (c : Int) = (rN c (bytesN zs) : Nat) := by
  induction zs generalizing c with
  | nil => rfl
  | cons z zs ih =>
    obtain ⟨z0, z1⟩ := hz z (by simp)
    obtain ⟨b, rfl⟩ := Int.eq_ofNat_of_zero_le z0
    have hb : b < 256 := by omega
    simp only [List.foldl_cons]
    rw [turnI_nat c b h hb, ih _ (tN_lt c b h hb) (fun x hx => hz x (by simp [hx]))]
    rfl
theorem notI_nat (c : Nat) (h : c < 4294967296) : notI (c : Int) = ((4294967295 - c : Nat) : Int) := by
  unfold notI
  have e : (IntKind.u32.max : Int) = ((4294967295 : Nat) : Int) := rfl
  rw [e, u32_xor_nat 4294967295 c (by omega) h]
  congr 1
  apply Nat.eq_of_testBit_eq
  intro i
  have k := Nat.testBit_two_pow_sub_succ (n := 32) (x := c) h i
  have e2 : (2 : Nat) ^ 32 - (c + 1) = 4294967295 - c := by omega
  rw [e2] at k
  rw [k, Nat.testBit_xor]
  have e3 : (4294967295 : Nat) = 2 ^ 32 - 1 := rfl
  rw [e3, Nat.testBit_two_pow_sub_one]
  by_cases hi : i < 32
  · simp [hi]
  · have : c.testBit i = false := Nat.testBit_lt_two_pow (Nat.lt_of_lt_of_le h (by rw [show (4294967296 : Nat) = 2 ^ 32 from rfl]; exact Nat.pow_le_pow_right (by omega) (by omega)))
    simp [hi, this]
theorem addI_nat (c : Nat) (zs : List Int) (h : c < 4294967296) (hz : ∀ z, z ∈ zs → 0 ≤ z ∧ z < 256) : addI (c : Int) zs = ((4294967295 - rN (4294967295 - c) (bytesN zs) : Nat) : Int) := by
  unfold addI
  rw [notI_nat c h, foldI_nat _ _ (by omega) hz, notI_nat _ (rN_lt _ _ (by omega) (bytesN_lt zs hz))]
theorem addI_range (c : Nat) (zs : List Int) (h : c < 4294967296) (hz : ∀ z, z ∈ zs → 0 ≤ z ∧ z < 256) : 0 ≤ addI (c : Int) zs ∧ addI (c : Int) zs < 4294967296 := by
  rw [addI_nat c zs h hz]
  omega
theorem addI_join (c : Nat) (xs ys : List Int) (h : c < 4294967296) (hx : ∀ z, z ∈ xs → 0 ≤ z ∧ z < 256) (hy : ∀ z, z ∈ ys → 0 ≤ z ∧ z < 256) : addI (addI (c : Int) xs) ys = addI (c : Int) (xs ++ ys) := by
  rw [addI_nat c xs h hx, addI_nat _ ys (by omega) hy, addI_nat c (xs ++ ys) h (by
    intro z hz
    rcases List.mem_append.1 hz with h | h
    · exact hx z h
    · exact hy z h)]
  have hl := rN_lt (4294967295 - c) (bytesN xs) (by omega) (bytesN_lt xs hx)
  have e1 : 4294967295 - (4294967295 - rN (4294967295 - c) (bytesN xs)) = rN (4294967295 - c) (bytesN xs) := by omega
  have e : rN (rN (4294967295 - c) (bytesN xs)) (bytesN ys) = rN (4294967295 - c) (bytesN (xs ++ ys)) := by simp [rN, bytesN]
  rw [e1, e]
theorem add0_join (xs ys : List Int) (hx : ∀ z, z ∈ xs → 0 ≤ z ∧ z < 256) (hy : ∀ z, z ∈ ys → 0 ≤ z ∧ z < 256) : addI (addI 0 xs) ys = addI 0 (xs ++ ys) := addI_join 0 xs ys (by omega) hx hy
/-! ### The document's sum -/
def refN (b : Nat) : Nat → Nat → Nat
  | 0, x => x
  | q + 1, x => if refN b q x % 2 ≠ b / 2 ^ q % 2 then (refN b q x / 2) ^^^ pN else refN b q x / 2
theorem refN_inv (b x q : Nat) : iN q (x ^^^ b) = refN b q x ^^^ (b / 2 ^ q) := by
  induction q with
  | zero => simp [iN, refN]
  | succ q ih =>
    simp only [iN, refN]
    rw [ih]
    unfold sN
    rw [half_xor, odd_xor]
    have e : b / 2 ^ (q + 1) = b / 2 ^ q / 2 := by rw [Nat.pow_succ, Nat.div_div_eq_div_mul]
    rw [e]
    by_cases h : refN b q x % 2 = b / 2 ^ q % 2
    · rw [if_neg (by omega), if_neg (by omega)]
    · rw [if_pos (by omega), if_pos h, Nat.xor_assoc, Nat.xor_assoc, Nat.xor_comm (b / 2 ^ q / 2) pN]
theorem refN_turn (b x : Nat) (hb : b < 256) : refN b 8 x = tN x b := by
  have := refN_inv b x 8
  rw [show b / 2 ^ 8 = 0 by omega, Nat.xor_zero] at this
  exact this.symm
theorem refN_lt (b x q : Nat) (hx : x < 4294967296) : refN b q x < 4294967296 := by
  induction q with
  | zero => exact hx
  | succ q ih =>
    simp only [refN]
    split
    · exact xor_lt _ _ (by omega) (by decide)
    · omega
theorem refTurn_nat (b x q : Nat) (hx : x < 4294967296) : refTurn (b : Int) q (x : Int) = (refN b q x : Nat) := by
  induction q with
  | zero => rfl
  | succ q ih =>
    have hl := refN_lt b x q hx
    simp only [refTurn, refN]
    rw [ih]
    unfold refStep
    have e1 : ((refN b q x : Nat) : Int) % 2 = ((refN b q x % 2 : Nat) : Int) := by omega
    have e2 : ((b : Int) / 2 ^ q).tmod 2 = ((b / 2 ^ q % 2 : Nat) : Int) := by
      have : ((b : Int) / 2 ^ q) = ((b / 2 ^ q : Nat) : Int) := by
        rw [Int.natCast_ediv, Int.natCast_pow]; rfl
      rw [this]; rfl
    have e3 : ((refN b q x : Nat) : Int) / 2 = ((refN b q x / 2 : Nat) : Int) := by omega
    have e4 : Go.bits .xor .u32 ((refN b q x / 2 : Nat) : Int) 3988292384 = ((refN b q x / 2 ^^^ pN : Nat) : Int) := u32_xor_nat _ 3988292384 (by omega) (by omega)
    rw [e1, e2, e3, e4]
    by_cases h : refN b q x % 2 = b / 2 ^ q % 2
    · rw [if_neg (by simp [h]), if_neg (by simp [h])]
    · rw [if_pos (by rw [bne_iff_ne]; omega), if_pos h]
theorem refTurn_range (b x : Int) (q : Nat) (hb : 0 ≤ b) (h0 : 0 ≤ x) (h1 : x < 4294967296) : 0 ≤ refTurn b q x ∧ refTurn b q x < 4294967296 := by
  obtain ⟨b, rfl⟩ := Int.eq_ofNat_of_zero_le hb
  obtain ⟨x, rfl⟩ := Int.eq_ofNat_of_zero_le h0
  have := refN_lt b x q (by omega)
  rw [refTurn_nat b x q (by omega)]
  omega
theorem refTurn_turn (b x : Int) (hb : 0 ≤ b) (hb' : b < 256) (h0 : 0 ≤ x) (h1 : x < 4294967296) : refTurn b 8 x = turnI x b := by
  obtain ⟨b, rfl⟩ := Int.eq_ofNat_of_zero_le hb
  obtain ⟨x, rfl⟩ := Int.eq_ofNat_of_zero_le h0
  rw [refTurn_nat b x 8 (by omega), refN_turn b x (by omega), turnI_nat x b (by omega) (by omega)]
theorem turnI_range (b x : Int) (hb : 0 ≤ b) (hb' : b < 256) (h0 : 0 ≤ x) (h1 : x < 4294967296) : 0 ≤ turnI x b ∧ turnI x b < 4294967296 := by
  rw [← refTurn_turn b x hb hb' h0 h1]
  exact refTurn_range b x 8 hb h0 h1
theorem fold_ref (zs : List Int) (x : Int) (hz : ∀ z, z ∈ zs → 0 ≤ z ∧ z < 256) (h0 : 0 ≤ x) (h1 : x < 4294967296) : zs.foldl (fun x b => refTurn b 8 x) x = zs.foldl turnI x := by
  induction zs generalizing x with
  | nil => rfl
  | cons z zs ih =>
    obtain ⟨z0, z1⟩ := hz z (by simp)
    have hr := turnI_range z x z0 z1 h0 h1
    simp only [List.foldl_cons]
    rw [refTurn_turn z x z0 z1 h0 h1]
    exact ih _ (fun y hy => hz y (by simp [hy])) hr.1 hr.2
theorem refI_eq (zs : List Int) (hz : ∀ z, z ∈ zs → 0 ≤ z ∧ z < 256) : refI zs = addI 0 zs := by
  unfold refI
  rw [fold_ref zs _ hz (by decide) (by decide)]
  have e1 := foldI_nat 4294967295 zs (by omega) hz
  have e2 := addI_nat 0 zs (by omega) hz
  have hl := rN_lt 4294967295 (bytesN zs) (by omega) (bytesN_lt zs hz)
  rw [show ((4294967295 : Nat) : Int) = 4294967295 from rfl] at e1
  rw [show ((0 : Nat) : Int) = 0 from rfl] at e2
  rw [e1, e2]
  simp only [Nat.sub_zero]
  omega
end Go.Proofs.Ytajhkjikcgfhdaa
