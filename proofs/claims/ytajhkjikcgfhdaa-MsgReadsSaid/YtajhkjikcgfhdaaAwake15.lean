/-
  The walks of inkhornlaw15.awake, great, one, pick.
-/
import Derived.Test.YtajhkjikcgfhdaaSame2
import Derived.Test.YtajhkjikcgfhdaaParse2
namespace Go.Proofs.Ytajhkjikcgfhdaa
set_option linter.unusedVariables false
set_option linter.unusedSimpArgs false
set_option maxRecDepth 20000
open Go.RowKit
/-- Encode of what may be, with all that is wanted of it. -/
theorem enc_len (v : Value) (m : M) (n : Nat) (w : World) (h : MV w v m) (hs : SmallM 60000 m) (hm : mayM m = true) (hn : (frameM m).length = n) :
    Calls Try.prog 14 #[v] w fun e w' => ∃ A c W, e = .returned (.tuple #[.slice A n c, .int .i64 0]) ∧ W = w' ∧ W.ownsRow w.heap.size 5 1 (.slice A n c) n (bvals (frameM m)) ∧ BReads W A n (frameM m) ∧ n ≤ c ∧ c ≤ 9223372036854775807 ∧ Below w.heap.size w W := by
  refine (enc_yes v m w h hs hm).mono ?_
  rintro e w' ⟨A, c, W, rfl, rfl, ho, hr, hc, hb⟩
  rw [hn] at ho hr hc
  rw [hn]
  exact ⟨A, c, W, rfl, rfl, ho, hr, hc, own_cap ho, hb⟩
theorem decode_frame (A : Option Addr) (n c : Nat) (m : M) (w : World) (h : BReads w A n (frameM m)) (hc : n ≤ c) (hcm : c ≤ 9223372036854775807) (hm : mayM m = true) :
    Calls Try.prog 25 #[.slice A n c] w fun e w' => ∃ v W, e = .returned (.tuple #[v, .int .i64 0]) ∧ W = w' ∧ MV W v m ∧ SmallM 60000 m ∧ Below w.heap.size w W := by
  have := decode_any A n c (frameM m) w h hc hcm
  rw [dec_frame m hm] at this
  exact this
theorem bel3 {a b c : World} (h : Below a.heap.size a b) (k : Below b.heap.size b c) : Below a.heap.size a c := h.trans (k.mono h.size)
set_option maxHeartbeats 4000000 in
theorem awake_any (w : World) : Calls Try.prog 11 #[] w (Gives w (.bool true)) := by
  have HLT : ∀ W : World, BReads (W.alloc (.cells #[.int .u8 0, .int .u8 15, .int .u8 1, .int .u8 0, .int .u8 0, .int .u8 0, .int .u8 2, .int .u8 0, .int .u8 0, .int .u8 0, .int .u8 1] 5)) (some ⟨W.heap.size, 0, none⟩) 11 [0, 15, 1, 0, 0, 0, 2, 0, 0, 0, 1] :=
    fun W => breads_lit W [0, 15, 1, 0, 0, 0, 2, 0, 0, 0, 1] _ _ (by decide) (by decide)
  have HL : Hid ((frameM (.hello 2 1)).length = 15) := by rw [frameM_length]; rfl
  have HE : Hid (decide ((frameM (.hello 2 1)).take 11 = [0, 15, 1, 0, 0, 0, 2, 0, 0, 0, 1]) = true) := Lib.hid (decide_eq_true (by decide +kernel))
  have HM : Hid (mayM (.hello 2 1) = true) := Lib.hid (show mayM (.hello 2 1) = true by decide)
  have mvh : ∀ w, MV w (.iface 23 (.agg #[.int .i64 2, .int .i64 1])) (.hello 2 1) := fun _ => rfl
  have mv7 : ∀ w, MV w (.iface 3 (.int .i64 7)) (.other 7) := fun _ => rfl
  have smh : SmallM 60000 (.hello 2 1) := trivial
  go_enter Try.func11, Try.ntmps11
  go_wp2_with (first
    | (go_at_call 14; (with_reducible refine (enc_len _ (.hello 2 1) 15 _ (mvh _) smh HM.out HL.out).mono ?_); rintro e w' ⟨A, c, W, rfl, rfl, ho, hr, hc, hcm, hb⟩; have HR := Lib.hid hr; have HB := Lib.hid hb; have hc11 : 11 ≤ c := (by omega); have HS : ∀ o, Hid (BReads (W.alloc o) A 11 ((frameM (.hello 2 1)).take 11)) := fun o => Lib.hid ((hr.take_ 11 (by omega)).below (Below.alloc (Below.refl _ _) (Nat.le_refl _) o)); have HS2 : ∀ o q, Hid (BReads ((W.alloc o).drewN q) A 15 (frameM (.hello 2 1))) := fun o q => Lib.hid ((hr.below (Below.alloc (Below.refl _ _) (Nat.le_refl _) o)).drewN q); clear ho hr hb)
    | (go_at_call 17; (with_reducible refine (same_any _ _ _ _ _ _ _ _ _ (HS _).out (HLT _)).mono ?_); rintro e w' ⟨rfl, q, rfl⟩; rw [HE.out])
    | (go_at_call 25; (with_reducible refine (decode_frame _ _ _ _ _ (HS2 _ _).out hc hcm HM.out).mono ?_); rintro e w' ⟨v, W1, rfl, rfl, rfl, sm, hb1⟩; have HB1 := Lib.hid hb1; clear hb1)
    | (go_at_call 27; (with_reducible refine (same_m _ _ (.hello 2 1) (.hello 2 1) _ (mvh _) (mvh _)).mono ?_); rintro e w' ⟨W2, rfl, rfl, hb2⟩; have HB2 := Lib.hid hb2; clear hb2)
    | (go_at_call 21; (with_reducible refine (kind_m _ (.hello 2 1) _ (mvh _)).mono ?_); rintro e w' ⟨W3, rfl, rfl, hb3⟩; have HB3 := Lib.hid hb3; clear hb3)
    | (go_at_call 21; (with_reducible refine (kind_m _ (.other 7) _ (mv7 _)).mono ?_); rintro e w' ⟨W4, rfl, rfl, hb4⟩; have HB4 := Lib.hid hb4; clear hb4))
  go_ret
  refine ⟨_, rfl, rfl, ?_⟩
  exact bel3 (bel3 (bel3 (bel3 (HB.out.trans ((below_drewN (Below.alloc (Below.refl _ _) (Nat.le_refl _) _) q).mono HB.out.size)) HB1.out) HB2.out) HB3.out) HB4.out
end Go.Proofs.Ytajhkjikcgfhdaa
