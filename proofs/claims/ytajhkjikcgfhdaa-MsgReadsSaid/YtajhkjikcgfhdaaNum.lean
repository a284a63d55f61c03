/-
  Numbers as bytes, plainly: what is laid is told again; numbers of one size are in order as their bytes are.
-/
import Derived.Test.YtajhkjikcgfhdaaCode
import Derived.Laws.BitsAllLaws
namespace Go.Proofs.Ytajhkjikcgfhdaa
set_option linter.unusedVariables false
set_option linter.unusedSimpArgs false
open Go.RowKit
theorem accI_plain (acc b : Int) (h0 : 0 ≤ acc) (h1 : acc < 72057594037927936) (b0 : 0 ≤ b) (b1 : b < 256) : accI acc b = acc * 256 + b := by
  obtain ⟨x, rfl⟩ := Int.eq_ofNat_of_zero_le h0
  obtain ⟨y, rfl⟩ := Int.eq_ofNat_of_zero_le b0
  have e : IntKind.u64.wrap ((x : Int) * 256) = ((x * 256 : Nat) : Int) := by
    simp [IntKind.wrap, IntKind.signed, IntKind.bits]
    omega
  unfold accI
  rw [e, u64_or_nat _ _ (by omega) (by omega), nat_join 8 (x * 256) y (by omega) (by omega)]
  omega
/-- The number that bytes tell, the most significant first. -/
def horner (acc : Int) : List Int → Int
  | [] => acc
  | b :: l => horner (acc * 256 + b) l
theorem horner_range (l : List Int) (acc : Int) (j : Nat) (hl : ∀ z, z ∈ l → 0 ≤ z ∧ z < 256) (h0 : 0 ≤ acc) (h1 : acc < 256 ^ j) : 0 ≤ horner acc l ∧ horner acc l < 256 ^ (j + l.length) := by
  induction l generalizing acc j with
  | nil => exact ⟨h0, h1⟩
  | cons b l ih =>
    obtain ⟨b0, b1⟩ := hl b (by simp)
    have h2 : acc * 256 + b < 256 ^ (j + 1) := by
      rw [Int.pow_succ]
      generalize (256 : Int) ^ j = p at h1
      omega
    have := ih (acc * 256 + b) (j + 1) (fun z hz => hl z (by simp [hz])) (by omega) h2
    rw [show j + (b :: l).length = j + 1 + l.length by simp; omega]
    exact this
theorem pow_le_256 (j : Nat) (h : j ≤ 7) : (256 : Int) ^ j ≤ 72057594037927936 := by
  have : j = 0 ∨ j = 1 ∨ j = 2 ∨ j = 3 ∨ j = 4 ∨ j = 5 ∨ j = 6 ∨ j = 7 := by omega
  rcases this with rfl | rfl | rfl | rfl | rfl | rfl | rfl | rfl <;> decide
theorem foldl_accI (l : List Int) (acc : Int) (j : Nat) (hl : ∀ z, z ∈ l → 0 ≤ z ∧ z < 256) (h0 : 0 ≤ acc) (h1 : acc < 256 ^ j) (hj : j + l.length ≤ 8) : l.foldl accI acc = horner acc l := by
  induction l generalizing acc j with
  | nil => rfl
  | cons b l ih =>
    obtain ⟨b0, b1⟩ := hl b (by simp)
    have hj' : j ≤ 7 := by simp at hj; omega
    have h3 := pow_le_256 j hj'
    have h2 : acc * 256 + b < 256 ^ (j + 1) := by
      rw [Int.pow_succ]
      generalize (256 : Int) ^ j = p at h1 h3
      omega
    simp only [List.foldl_cons, horner]
    rw [accI_plain acc b h0 (by omega) b0 b1]
    exact ih _ (j + 1) (fun z hz => hl z (by simp [hz])) (by omega) h2 (by simp at hj; omega)
theorem numU_horner (l : List Int) (hl : ∀ z, z ∈ l → 0 ≤ z ∧ z < 256) (h : l.length ≤ 8) : numU l = horner 0 l := foldl_accI l 0 0 hl (by omega) (by decide) (by omega)
theorem horner_lt (l : List Int) (hl : ∀ z, z ∈ l → 0 ≤ z ∧ z < 256) : 0 ≤ horner 0 l ∧ horner 0 l < 256 ^ l.length := by
  have := horner_range l 0 0 hl (by omega) (by decide)
  rwa [Nat.zero_add] at this
theorem range_mid (zs : List Int) (hz : ∀ z, z ∈ zs → 0 ≤ z ∧ z < 256) (a q : Nat) : ∀ z, z ∈ (zs.drop a).take q → 0 ≤ z ∧ z < 256 := fun z h => hz z (List.mem_of_mem_drop (List.mem_of_mem_take h))
theorem wrap64_plain (x : Int) (h0 : -9223372036854775808 ≤ x) (h1 : x ≤ 9223372036854775807) : wrap64 x = x := by unfold wrap64; omega
/-- A number of up to seven bytes is told as it is. -/
theorem numI_plain (zs : List Int) (hz : ∀ z, z ∈ zs → 0 ≤ z ∧ z < 256) (a s : Int) (hs : s ≤ 7) : numI zs a s = horner 0 ((zs.drop a.toNat).take s.toNat) := by
  have hl : ((zs.drop a.toNat).take s.toNat).length ≤ 7 := by rw [List.length_take]; omega
  have hr := horner_lt _ (range_mid zs hz a.toNat s.toNat)
  have := pow_le_256 _ hl
  unfold numI
  rw [numU_horner _ (range_mid zs hz _ _) (by omega), wrap64_plain _ (by omega) (by omega)]
theorem numI_two (zs : List Int) (hz : ∀ z, z ∈ zs → 0 ≤ z ∧ z < 256) (a : Int) : 0 ≤ numI zs a 2 ∧ numI zs a 2 < 65536 := by
  rw [numI_plain zs hz a 2 (by omega)]
  have hr := horner_lt _ (range_mid zs hz a.toNat 2)
  have hl : ((zs.drop a.toNat).take 2).length ≤ 2 := by rw [List.length_take]; omega
  have : (256 : Int) ^ ((zs.drop a.toNat).take 2).length ≤ 65536 := by
    generalize ((zs.drop a.toNat).take 2).length = j at hl
    have : j = 0 ∨ j = 1 ∨ j = 2 := by omega
    rcases this with rfl | rfl | rfl <;> decide
  have e2 : (2 : Int).toNat = 2 := rfl
  rw [e2]
  omega
/-- A number's byte is that of the number itself, whatever its sign. -/
theorem byteI_plain (x : Int) (j : Nat) (h : j ≤ 7) : byteI x j = x / 2 ^ (8 * j) % 256 := by
  have e : IntKind.u64.wrap x = x % 18446744073709551616 := by simp [IntKind.wrap, IntKind.signed, IntKind.bits]
  unfold byteI
  rw [e]
  have : j = 0 ∨ j = 1 ∨ j = 2 ∨ j = 3 ∨ j = 4 ∨ j = 5 ∨ j = 6 ∨ j = 7 := by omega
  rcases this with rfl | rfl | rfl | rfl | rfl | rfl | rfl | rfl
  · show x % 18446744073709551616 / 1 % 256 = x / 1 % 256; omega
  · show x % 18446744073709551616 / 256 % 256 = x / 256 % 256; omega
  · show x % 18446744073709551616 / 65536 % 256 = x / 65536 % 256; omega
  · show x % 18446744073709551616 / 16777216 % 256 = x / 16777216 % 256; omega
  · show x % 18446744073709551616 / 4294967296 % 256 = x / 4294967296 % 256; omega
  · show x % 18446744073709551616 / 1099511627776 % 256 = x / 1099511627776 % 256; omega
  · show x % 18446744073709551616 / 281474976710656 % 256 = x / 281474976710656 % 256; omega
  · show x % 18446744073709551616 / 72057594037927936 % 256 = x / 72057594037927936 % 256; omega
theorem putI_cons (x : Int) (q : Nat) : putI x (q + 1) = byteI x q :: putI x q := by
  unfold putI
  rw [List.range_succ_eq_map, List.map_cons, List.map_map]
  simp only [Nat.add_sub_cancel, Nat.sub_zero]
  congr 1
  apply List.map_congr_left
  intro i _
  show byteI x (q - (i + 1)) = byteI x (q - 1 - i)
  congr 1
  omega
theorem horner_acc (l : List Int) (acc : Int) : horner acc l = acc * 256 ^ l.length + horner 0 l := by
  induction l generalizing acc with
  | nil => simp [horner]
  | cons b l ih =>
    simp only [horner, List.length_cons]
    rw [ih (acc * 256 + b), ih (0 * 256 + b), Int.pow_succ]
    generalize (256 : Int) ^ l.length = p
    rw [Int.zero_mul, Int.zero_add, Int.add_mul, Int.mul_assoc, Int.mul_comm 256 p, Int.add_assoc]
theorem pow_8 (j : Nat) : (2 : Int) ^ (8 * j) = 256 ^ j := by rw [Int.pow_mul]; rfl
/-- What was laid is told again. -/
theorem horner_put (x : Int) (q : Nat) (h : q ≤ 8) : horner 0 (putI x q) = x % 256 ^ q := by
  induction q with
  | zero => simp [putI, horner]
  | succ q ih =>
    rw [putI_cons, horner, horner_acc, putI_length, ih (by omega), byteI_plain x q (by omega), pow_8, Int.zero_mul, Int.zero_add, Int.pow_succ]
    have hp : (0 : Int) < 256 ^ q := Int.pow_pos (by omega)
    generalize (256 : Int) ^ q = p at hp
    have e1 := Int.emod_add_mul_ediv x p
    have e2 := Int.emod_add_mul_ediv (x / p) 256
    have r1 := Int.emod_nonneg x (show p ≠ 0 by omega)
    have r2 := Int.emod_lt_of_pos x hp
    have r3 := Int.emod_nonneg (x / p) (show (256 : Int) ≠ 0 by omega)
    have r4 := Int.emod_lt_of_pos (x / p) (show (0 : Int) < 256 by omega)
    generalize x / p % 256 = b at *
    generalize x / p / 256 = c at *
    generalize x % p = r at *
    have e3 : x = (b * p + r) + (p * 256) * c := by
      rw [← e1, ← e2, Int.mul_add, Int.mul_comm p b, Int.mul_assoc]
      omega
    rw [e3, Int.add_mul_emod_self_left]
    have hb : b * p ≤ 255 * p := Int.mul_le_mul_of_nonneg_right (by omega) (by omega)
    have hb0 : 0 ≤ b * p := Int.mul_nonneg r3 (by omega)
    exact (Int.emod_eq_of_lt (by omega) (by omega)).symm
/-! ### Order -/
theorem u8_lt (a b : Int) (ha : 0 ≤ a ∧ a < 256) (hb : 0 ≤ b ∧ b < 256) : (UInt8.ofNat a.toNat < UInt8.ofNat b.toNat) ↔ a < b := by
  rw [UInt8.lt_iff_toNat_lt]
  simp only [UInt8.toNat_ofNat']
  rw [Nat.mod_eq_of_lt (show a.toNat < 2 ^ 8 by omega), Nat.mod_eq_of_lt (show b.toNat < 2 ^ 8 by omega)]
  omega
theorem u8_eq (a b : Int) (ha : 0 ≤ a ∧ a < 256) (hb : 0 ≤ b ∧ b < 256) : (UInt8.ofNat a.toNat = UInt8.ofNat b.toNat) ↔ a = b := by
  rw [← UInt8.toNat_inj]
  simp only [UInt8.toNat_ofNat']
  rw [Nat.mod_eq_of_lt (show a.toNat < 2 ^ 8 by omega), Nat.mod_eq_of_lt (show b.toNat < 2 ^ 8 by omega)]
  omega
theorem horner_cons (a : Int) (l : List Int) : horner 0 (a :: l) = a * 256 ^ l.length + horner 0 l := by
  rw [horner, horner_acc, Int.zero_mul, Int.zero_add]
theorem horner_cmp (x y : List Int) (a b : Int) (hx : ∀ z, z ∈ x → 0 ≤ z ∧ z < 256) (hy : ∀ z, z ∈ y → 0 ≤ z ∧ z < 256) (hl : x.length = y.length) (h : a < b) : horner 0 (a :: x) < horner 0 (b :: y) := by
  rw [horner_cons, horner_cons, hl]
  have h1 := horner_lt x hx
  have h2 := horner_lt y hy
  rw [hl] at h1
  have hp : (0 : Int) < 256 ^ y.length := Int.pow_pos (by omega)
  generalize (256 : Int) ^ y.length = p at *
  have : (a + 1) * p ≤ b * p := Int.mul_le_mul_of_nonneg_right (by omega) (by omega)
  rw [Int.add_mul, Int.one_mul] at this
  omega
theorem less_lists (x y : List Int) (hx : ∀ z, z ∈ x → 0 ≤ z ∧ z < 256) (hy : ∀ z, z ∈ y → 0 ≤ z ∧ z < 256) (hl : x.length = y.length) :
    Op.bytesLess (x.map fun n => UInt8.ofNat n.toNat) (y.map fun n => UInt8.ofNat n.toNat) = decide (horner 0 x < horner 0 y) ∧ ((x = y) ↔ horner 0 x = horner 0 y) := by
  induction x generalizing y with
  | nil =>
    cases y with
    | nil => exact ⟨by simp [Op.bytesLess], by simp⟩
    | cons b y => simp at hl
  | cons a x ih =>
    cases y with
    | nil => simp at hl
    | cons b y =>
      have ha := hx a (by simp)
      have hb := hy b (by simp)
      have hx' : ∀ z, z ∈ x → 0 ≤ z ∧ z < 256 := fun z hz => hx z (by simp [hz])
      have hy' : ∀ z, z ∈ y → 0 ≤ z ∧ z < 256 := fun z hz => hy z (by simp [hz])
      have hl' : x.length = y.length := by simpa using hl
      obtain ⟨i1, i2⟩ := ih y hx' hy' hl'
      simp only [List.map_cons, Op.bytesLess]
      rcases Int.lt_trichotomy a b with h | h | h
      · have hc := horner_cmp x y a b hx' hy' hl' h
        have h1 : decide (UInt8.ofNat a.toNat < UInt8.ofNat b.toNat) = true := decide_eq_true ((u8_lt a b ha hb).2 h)
        refine ⟨by rw [h1, decide_eq_true hc]; rfl, ⟨fun e => ?_, fun e => ?_⟩⟩
        · injection e with e _; omega
        · omega
      · subst h
        have h1 : decide (UInt8.ofNat a.toNat < UInt8.ofNat a.toNat) = false := decide_eq_false (fun k => by have := (u8_lt a a ha ha).1 k; omega)
        have h2 : (UInt8.ofNat a.toNat == UInt8.ofNat a.toNat) = true := beq_self_eq_true _
        rw [horner_cons, horner_cons, hl', h1, h2, i1]
        refine ⟨?_, ⟨fun e => ?_, fun e => ?_⟩⟩
        · simp
        · injection e with _ e; rw [e]
        · rw [i2.2 (by omega)]
      · have hc := horner_cmp y x b a hy' hx' hl'.symm h
        have h1 : decide (UInt8.ofNat a.toNat < UInt8.ofNat b.toNat) = false := decide_eq_false (fun k => by have := (u8_lt a b ha hb).1 k; omega)
        have h2 : (UInt8.ofNat a.toNat == UInt8.ofNat b.toNat) = false := beq_eq_false_iff_ne.2 (fun k => by have := (u8_eq a b ha hb).1 k; omega)
        refine ⟨by rw [h1, h2, decide_eq_false (by omega)]; rfl, ⟨fun e => ?_, fun e => ?_⟩⟩
        · injection e with e _; omega
        · omega
theorem toList_str (xs : List Int) : (strOfNums xs).toList = xs.map fun n => UInt8.ofNat n.toNat := by
  rw [ByteArray.toList_eq]
  exact strOfNums_data xs
theorem pow_le_two (q : Nat) (h1 : 1 ≤ q) (h : q ≤ 7) : (2 : Int) ^ (8 * q) ≤ 72057594037927936 := by rw [pow_8]; exact pow_le_256 q h
theorem horner_put_fit (x : Int) (q : Nat) (h : q ≤ 8) (h0 : 0 ≤ x) (h1 : x < 2 ^ (8 * q)) : horner 0 (putI x q) = x := by
  rw [horner_put x q h]
  rw [pow_8] at h1
  exact Int.emod_eq_of_lt h0 h1
theorem order_less (x y : Int) (q : Nat) (h : q ≤ 8) (x0 : 0 ≤ x) (x1 : x < 2 ^ (8 * q)) (y0 : 0 ≤ y) (y1 : y < 2 ^ (8 * q)) : Op.bytesLess (strOfNums (putI x q)).toList (strOfNums (putI y q)).toList = decide (x < y) := by
  rw [toList_str, toList_str, (less_lists _ _ (putI_range _ _) (putI_range _ _) (by rw [putI_length, putI_length])).1, horner_put_fit x q h x0 x1, horner_put_fit y q h y0 y1]
theorem map_u8_inj (x y : List Int) (hx : ∀ z, z ∈ x → 0 ≤ z ∧ z < 256) (hy : ∀ z, z ∈ y → 0 ≤ z ∧ z < 256) (h : (x.map fun n => UInt8.ofNat n.toNat) = (y.map fun n => UInt8.ofNat n.toNat)) : x = y := by
  induction x generalizing y with
  | nil => cases y with
    | nil => rfl
    | cons b y => simp at h
  | cons a x ih => cases y with
    | nil => simp at h
    | cons b y =>
      simp only [List.map_cons] at h
      injection h with h1 h2
      rw [(u8_eq a b (hx a (by simp)) (hy b (by simp))).1 h1, ih y (fun z hz => hx z (by simp [hz])) (fun z hz => hy z (by simp [hz])) h2]
theorem order_eq (x y : Int) (q : Nat) (h : q ≤ 8) (x0 : 0 ≤ x) (x1 : x < 2 ^ (8 * q)) (y0 : 0 ≤ y) (y1 : y < 2 ^ (8 * q)) : ((strOfNums (putI x q)).toList == (strOfNums (putI y q)).toList) = (x == y) := by
  rw [toList_str, toList_str]
  have hi := (less_lists _ _ (putI_range x q) (putI_range y q) (by rw [putI_length, putI_length])).2
  rw [horner_put_fit x q h x0 x1, horner_put_fit y q h y0 y1] at hi
  by_cases e : x = y
  · subst e
    rw [beq_self_eq_true, beq_self_eq_true]
  · rw [beq_eq_false_iff_ne.2 e, beq_eq_false_iff_ne.2]
    intro k
    exact e (hi.1 (map_u8_inj _ _ (putI_range _ _) (putI_range _ _) k))
/-- A number without its k lowest bytes. -/
def upI (x : Int) : Nat → Int
  | 0 => x
  | k + 1 => upI x k / 256
theorem upI_eq (x : Int) (k : Nat) : upI x k = x / 2 ^ (8 * k) := by
  induction k with
  | zero => simp [upI]
  | succ k ih =>
    rw [upI, ih, pow_8, pow_8, Int.pow_succ, Int.ediv_ediv_of_nonneg (Int.le_of_lt (Int.pow_pos (by omega)))]
theorem byteI_up (x : Int) (l d : Nat) (h : l + d ≤ 7) : byteI (upI x l) d = byteI x (l + d) := by
  rw [byteI_plain _ d (by omega), byteI_plain _ (l + d) h, upI_eq, pow_8, pow_8, pow_8, Int.ediv_ediv_of_nonneg (Int.le_of_lt (Int.pow_pos (by omega))), ← Int.pow_add]
theorem putI_parts (x : Int) (l d : Nat) (h : l + d ≤ 8) : putI x (l + d) = putI (upI x l) d ++ putI x l := by
  induction d with
  | zero => simp [putI]
  | succ d ih =>
    rw [← Nat.add_assoc, putI_cons, putI_cons, byteI_up x l d (by omega), ih (by omega)]
    rfl
end Go.Proofs.Ytajhkjikcgfhdaa
