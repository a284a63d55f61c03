/-
  The reader of messages: num, text, flag, item.
-/
import Derived.Test.YtajhkjikcgfhdaaRd0
namespace Go.Proofs.Ytajhkjikcgfhdaa
set_option linter.unusedVariables false
set_option linter.unusedSimpArgs false
set_option maxRecDepth 20000
open Go.RowKit
set_option maxHeartbeats 4000000 in
theorem rnum_any (g : Nat) (A : Option Addr) (c : Nat) (zs : List Int) (a : Nat) (bad : Bool) (q : Nat) (s : Int) (v : Int) (a' : Nat) (b' : Bool) (w : World) (h : Rd 99 w g A c zs a bad) (hs : s = q) (hq : 1 ≤ q ∧ q ≤ 7) (ha : a ≤ zs.length) (hv : rnum zs a bad q = (v, a', b')) :
    Calls Try.prog 72 #[.pointer (some ⟨g, 0, none⟩), .int .i64 s] w (RdTo 99 w g A c zs (.int .i64 v) a' b') := by
  have H := Lib.hid h
  obtain ⟨hbk, hrd, hc, hcm, hA⟩ := h
  have hm := hrd.2.1
  have HR := Lib.hid hrd
  have hc0 : w.cell? ⟨g, 0, none⟩ = some (.slice A zs.length c) := hbk.cell 0
  have hc1 : w.cell? ⟨g, 1, none⟩ = some (.int .i64 a) := hbk.cell 1
  have hf1 : w.frozen? ⟨g, 1, none⟩ = false := hbk.frozen 1
  have hf2 : w.frozen? ⟨g, 2, none⟩ = false := hbk.frozen 2
  have hc2 : w.cell? ⟨g, 2, none⟩ = some (.bool bad) := hbk.cell 2
  obtain ⟨n, hn⟩ : ∃ n, zs.length = n := ⟨_, rfl⟩
  rw [hn] at hc0 HR hc hm ha
  have HN := Lib.hid hn
  clear hrd hbk hA hn
  unfold rnum at hv
  have hq1 := hq.1
  have hq2 := hq.2
  subst hs
  by_cases ho : a + q ≤ n
  · rw [if_pos (by rw [HN.out]; exact ho)] at hv
    injection hv with e1 e2
    injection e2 with e2 e3
    subst e2
    subst e3
    have HV := Lib.hid e1
    have hok : numOk n a q := ⟨by omega, by omega, by omega, by omega⟩
    have HOK := Lib.hid hok
    clear e1 hok
    go_enter Try.func72, Try.ntmps72
    go_wp2
    go_quiet ((go_at_call 54; exact quiet_left (num_yes A n c a q zs _ (HR.out.below (below_drewN (Below.refl _ _) _)) HOK.out)))
    go_wp2
    go_ret
    exact ⟨_, by rw [← HV.out]; rfl, rfl, (H.out.drewN _).setAt, only_setCell (only_of_below (below_drewN (Below.refl _ _) _) _) (.inl rfl) _⟩
  · rw [if_neg (by rw [HN.out]; exact ho)] at hv
    injection hv with e1 e2
    injection e2 with e2 e3
    subst e1
    subst e2
    subst e3
    have hok : ¬ numOk n a q := fun h => ho (by have := h.2.2.2; omega)
    have HOK := Lib.hid hok
    clear hok
    go_enter Try.func72, Try.ntmps72
    go_wp2
    go_quiet ((go_at_call 54; exact quiet_left (num_no A n c a q _ hm HOK.out)))
    go_wp2
    go_ret
    exact ⟨_, rfl, rfl, (H.out.drewN _).setBad, only_setCell (only_of_below (below_drewN (Below.refl _ _) _) _) (.inl rfl) _⟩
set_option maxHeartbeats 4000000 in
theorem rtext_any (g : Nat) (A : Option Addr) (c : Nat) (zs : List Int) (a : Nat) (bad : Bool) (v : ByteArray) (a' : Nat) (b' : Bool) (w : World) (h : Rd 99 w g A c zs a bad) (ha : a ≤ zs.length) (hv : rtext zs a bad = (v, a', b')) :
    Calls Try.prog 73 #[.pointer (some ⟨g, 0, none⟩)] w (RdTo 99 w g A c zs (.string v) a' b') := by
  have H := Lib.hid h
  have HRG := Lib.hid h.range
  obtain ⟨hbk, hrd, hc, hcm, hA⟩ := h
  have hm := hrd.2.1
  have HR := Lib.hid hrd
  have hc0 : w.cell? ⟨g, 0, none⟩ = some (.slice A zs.length c) := hbk.cell 0
  have hc1 : w.cell? ⟨g, 1, none⟩ = some (.int .i64 a) := hbk.cell 1
  have hf1 : w.frozen? ⟨g, 1, none⟩ = false := hbk.frozen 1
  have hf2 : w.frozen? ⟨g, 2, none⟩ = false := hbk.frozen 2
  have hc2 : w.cell? ⟨g, 2, none⟩ = some (.bool bad) := hbk.cell 2
  obtain ⟨n, hn⟩ : ∃ n, zs.length = n := ⟨_, rfl⟩
  rw [hn] at hc0 HR hc hm ha
  have HN := Lib.hid hn
  clear hrd hbk hA hn
  unfold rtext at hv
  rw [HN.out] at hv
  by_cases ho : textOk n zs a
  · rw [if_pos ho] at hv
    injection hv with e1 e2
    injection e2 with e2 e3
    subst e3
    have HV := Lib.hid e1
    have HOK := Lib.hid ho
    have h2 := numI_two zs HRG.out a
    have hx := ho.2
    have HA : Hid ((a : Int) + 2 + numI zs a 2 = (a' : Int)) := by unfold Hid; omega
    clear e1 e2 ho h2 hx
    go_enter Try.func73, Try.ntmps73
    go_wp2
    go_quiet ((go_at_call 88; exact quiet_left (text_yes A n c a zs _ (HR.out.below (below_drewN (Below.refl _ _) _)) hc hcm HOK.out)))
    go_wp2
    go_ret
    rw [HA.out]
    exact ⟨_, by rw [← HV.out]; rfl, rfl, (H.out.drewN _).setAt, only_setCell (only_of_below (below_drewN (Below.refl _ _) _) _) (.inl rfl) _⟩
  · rw [if_neg ho] at hv
    injection hv with e1 e2
    injection e2 with e2 e3
    subst e1
    subst e2
    subst e3
    have HOK := Lib.hid ho
    clear ho
    go_enter Try.func73, Try.ntmps73
    go_wp2
    go_quiet ((go_at_call 88; exact quiet_left (text_no A n c a zs _ (HR.out.below (below_drewN (Below.refl _ _) _)) HOK.out)))
    go_wp2
    go_ret
    exact ⟨_, rfl, rfl, (H.out.drewN _).setBad, only_setCell (only_of_below (below_drewN (Below.refl _ _) _) _) (.inl rfl) _⟩
end Go.Proofs.Ytajhkjikcgfhdaa
