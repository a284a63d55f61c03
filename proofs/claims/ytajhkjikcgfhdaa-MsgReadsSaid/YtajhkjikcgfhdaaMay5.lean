/-
  Which Replies may be: the document's answer.
-/
import Derived.Test.YtajhkjikcgfhdaaMay4
namespace Go.Proofs.Ytajhkjikcgfhdaa
set_option linter.unusedVariables false
set_option linter.unusedSimpArgs false
set_option maxRecDepth 20000
open Go.RowKit
theorem below_two {B : Nat} {a b c : World} (h : Below B a b) (k : Below (B + 1) b c) : Below B a c := h.trans (k.mono (by omega))
set_option maxHeartbeats 4000000 in
theorem mayReply_any (sl q sh sq wk ep : Int) (A : Option Addr) (n c : Nat) (en : Bool) (xs : List (Int × ByteArray)) (w : World) (h : XReads w A n xs) (hs : Small 1000000 xs) :
    Calls Try.prog 52 #[.agg #[.int .i64 sl, .int .i64 q, .int .i64 sh, .int .i64 sq, .int .i64 wk, .int .i64 ep, .slice A n c, .bool en]] w (Gives w (.bool (replyB sl q sh sq wk ep xs))) := by
  have hm := h.2.1
  have H := Lib.hid h
  have HL := Lib.hid h.1
  have HS := Lib.hid hs
  clear h hs
  have hb0 : Below w.heap.size w ((w.alloc (.cells #[.int .i64 sl, .int .i64 q, .int .i64 sh, .int .i64 sq, .int .i64 wk, .int .i64 ep, .slice A n c, .bool en] 32)).alloc (.cells #[.int .i64 q, .int .i64 sq, .int .i64 ep] 3)) := bel2 (bel_alloc _ _) (bel_alloc _ _)
  have HB0 := Lib.hid hb0
  clear hb0
  have R0 : Hid (NReads ((w.alloc (.cells #[.int .i64 sl, .int .i64 q, .int .i64 sh, .int .i64 sq, .int .i64 wk, .int .i64 ep, .slice A n c, .bool en] 32)).alloc (.cells #[.int .i64 q, .int .i64 sq, .int .i64 ep] 3)) (some ⟨w.heap.size + 1, 0, none⟩) 3 [q, sq, ep]) := by
    have := nreads3 (w.alloc (.cells #[.int .i64 sl, .int .i64 q, .int .i64 sh, .int .i64 sq, .int .i64 wk, .int .i64 ep, .slice A n c, .bool en] 32)) q sq ep 3
    rwa [show (w.alloc (.cells #[.int .i64 sl, .int .i64 q, .int .i64 sh, .int .i64 sq, .int .i64 wk, .int .i64 ep, .slice A n c, .bool en] 32)).heap.size = w.heap.size + 1 by simp] at this
  obtain ⟨wi, hw⟩ : ∃ x, withinB [q, sq, ep] = x := ⟨_, rfl⟩
  obtain ⟨p1, h1⟩ : ∃ x, inB sl 0 3 = x := ⟨_, rfl⟩
  obtain ⟨p2, h2⟩ : ∃ x, inB sh 0 5 = x := ⟨_, rfl⟩
  obtain ⟨kk, h3⟩ : ∃ x, inB wk 1 5 = x := ⟨_, rfl⟩
  have HW := Lib.hid hw
  have H1 := Lib.hid h1
  have H2 := Lib.hid h2
  have H3 := Lib.hid h3
  have HE : Hid (replyB sl q sh sq wk ep xs = (itemsB xs && (decide (n ≤ 5) && ((p1 && p2) && (wi && kk))))) := by
    unfold replyB placeB Hid
    rw [HL.out, h1, h2, h3, hw]
  clear hw h1 h2 h3
  cases wi with
  | false =>
    go_enter Try.func52, Try.ntmps52
    go_wp2_with (first
      | (go_at_call 50; (with_reducible refine (nums_any _ _ _ [q, sq, ep] _ R0.out).mono ?_); rintro e w' ⟨rfl, rfl⟩; rw [HW.out])
      | (go_at_call 49; (with_reducible refine (in_any sl _ _ _).mono ?_); rintro e w' ⟨rfl, rfl⟩; rw [H1.out])
      | (go_at_call 49; (with_reducible refine (in_any sh _ _ _).mono ?_); rintro e w' ⟨rfl, rfl⟩; rw [H2.out])
      | (go_at_call 49; (with_reducible refine (in_any wk _ _ _).mono ?_); rintro e w' ⟨rfl, rfl⟩; rw [H3.out]))
    go_ret
    exact ⟨_, by rw [HE.out]; first | (simp; done) | (simp; rfl), rfl, HB0.out⟩
  | true =>
    cases p1 with
    | false =>
      go_enter Try.func52, Try.ntmps52
      go_wp2_with (first
        | (go_at_call 50; (with_reducible refine (nums_any _ _ _ [q, sq, ep] _ R0.out).mono ?_); rintro e w' ⟨rfl, rfl⟩; rw [HW.out])
        | (go_at_call 49; (with_reducible refine (in_any sl _ _ _).mono ?_); rintro e w' ⟨rfl, rfl⟩; rw [H1.out])
        | (go_at_call 49; (with_reducible refine (in_any sh _ _ _).mono ?_); rintro e w' ⟨rfl, rfl⟩; rw [H2.out])
        | (go_at_call 49; (with_reducible refine (in_any wk _ _ _).mono ?_); rintro e w' ⟨rfl, rfl⟩; rw [H3.out]))
      go_ret
      exact ⟨_, by rw [HE.out]; first | (simp; done) | (simp; rfl), rfl, HB0.out⟩
    | true =>
      cases p2 with
      | false =>
        go_enter Try.func52, Try.ntmps52
        go_wp2_with (first
          | (go_at_call 50; (with_reducible refine (nums_any _ _ _ [q, sq, ep] _ R0.out).mono ?_); rintro e w' ⟨rfl, rfl⟩; rw [HW.out])
          | (go_at_call 49; (with_reducible refine (in_any sl _ _ _).mono ?_); rintro e w' ⟨rfl, rfl⟩; rw [H1.out])
          | (go_at_call 49; (with_reducible refine (in_any sh _ _ _).mono ?_); rintro e w' ⟨rfl, rfl⟩; rw [H2.out])
          | (go_at_call 49; (with_reducible refine (in_any wk _ _ _).mono ?_); rintro e w' ⟨rfl, rfl⟩; rw [H3.out]))
        go_ret
        exact ⟨_, by rw [HE.out]; first | (simp; done) | (simp; rfl), rfl, HB0.out⟩
      | true =>
        cases kk with
        | false =>
          go_enter Try.func52, Try.ntmps52
          go_wp2_with (first
            | (go_at_call 50; (with_reducible refine (nums_any _ _ _ [q, sq, ep] _ R0.out).mono ?_); rintro e w' ⟨rfl, rfl⟩; rw [HW.out])
            | (go_at_call 49; (with_reducible refine (in_any sl _ _ _).mono ?_); rintro e w' ⟨rfl, rfl⟩; rw [H1.out])
            | (go_at_call 49; (with_reducible refine (in_any sh _ _ _).mono ?_); rintro e w' ⟨rfl, rfl⟩; rw [H2.out])
            | (go_at_call 49; (with_reducible refine (in_any wk _ _ _).mono ?_); rintro e w' ⟨rfl, rfl⟩; rw [H3.out]))
          go_ret
          exact ⟨_, by rw [HE.out]; first | (simp; done) | (simp; rfl), rfl, HB0.out⟩
        | true =>
          by_cases h5 : n ≤ 5
          · have h5' : decide ((5 : Int) < (n : Int)) = false := decide_eq_false (by omega)
            go_enter Try.func52, Try.ntmps52
            go_wp2_with (first
              | (go_at_call 50; (with_reducible refine (nums_any _ _ _ [q, sq, ep] _ R0.out).mono ?_); rintro e w' ⟨rfl, rfl⟩; rw [HW.out])
              | (go_at_call 49; (with_reducible refine (in_any sl _ _ _).mono ?_); rintro e w' ⟨rfl, rfl⟩; rw [H1.out])
              | (go_at_call 49; (with_reducible refine (in_any sh _ _ _).mono ?_); rintro e w' ⟨rfl, rfl⟩; rw [H2.out])
              | (go_at_call 49; (with_reducible refine (in_any wk _ _ _).mono ?_); rintro e w' ⟨rfl, rfl⟩; rw [H3.out]))
            go_loopw [3] (fun i wr => ∃ k : Nat, k ≤ n ∧ i = .int .i64 k ∧ Hid (Below (w.heap.size + 1) ((w.alloc (.cells #[.int .i64 sl, .int .i64 q, .int .i64 sh, .int .i64 sq, .int .i64 wk, .int .i64 ep, .slice A n c, .bool en] 32)).alloc (.cells #[.int .i64 q, .int .i64 sq, .int .i64 ep] 3)) wr) ∧ Hid ((List.range k).all (roundB xs) = true)) (fun i _ => n - (intOf i).toNat)
            case atStart => exact ⟨0, by omega, rfl, Below.refl _ _, rfl⟩
            case round =>
              obtain ⟨k, hk, rfl, HB, HR⟩ := hrel
              have hc6 : wr.cell? ⟨w.heap.size, 6, none⟩ = some (.slice A n c) := (HB.out.cell (by simp)).trans (by simp)
              have hz1 : w.heap.size + 1 ≤ wr.heap.size := by have := HB.out.size; simp at this; omega
              by_cases hlt : k < n
              · have XW : Hid (XReads wr A n xs) := H.out.below (HB0.out.trans (HB.out.mono (by simp)))
                obtain ⟨ad, rfl, y0, y1⟩ := XW.out.at_ k hlt
                obtain ⟨d, hd⟩ : ∃ d, (gx xs k).1 = d := ⟨_, rfl⟩
                obtain ⟨s, hs⟩ : ∃ s, (gx xs k).2 = s := ⟨_, rfl⟩
                rw [hd] at y0
                rw [hs] at y1
                have HD := Lib.hid hd
                have HSS := Lib.hid hs
                have hsz : s.size ≤ 1000000 := by rw [← hs]; exact HS.out.gx_ k
                obtain ⟨it, hi⟩ : ∃ x, itemB d s = x := ⟨_, rfl⟩
                have HI := Lib.hid hi
                clear hd hs hi
                cases it with
                | false =>
                  have HE2 : Hid (replyB sl q sh sq wk ep xs = false) := by
                    unfold Hid
                    rw [HE.out, itemsB_no xs k (by rw [HL.out]; exact hlt) (by unfold roundB; rw [HD.out, HSS.out, HI.out]; rfl)]
                    rfl
                  go_wp2_with fail
                  refine wp_region_noPanic ?_
                  refine wp_region_held_drew (S := fun w' => w'.cell? ⟨w.heap.size, 6, none⟩ = some (.slice (some ad) n c) ∧ w'.cell? (ad.add (k * 2)) = some (.int .i64 d) ∧ w'.cell? ⟨(ad.add (k * 2)).block, (ad.add (k * 2)).off + 1, none⟩ = some (.string s)) (by kernel_rfl) ?_ (fun hHeld => ?_)
                  · exact ⟨hc6, y0, y1⟩
                  refine wpAnyH_take (i := 0) (oi := ?obx0) (v := ?vbx0) ?hbx0 ?abx0 ?bbx0 ?cbx0 ?dbx0 ?ybx0 (by assumption) ?rbx0
                  case hbx0 => (simp only [List.getElem?_toArray, List.getElem?_cons_succ, List.getElem?_cons_zero]; rfl)
                  case abx0 => kernel_rfl
                  case bbx0 => kernel_rfl
                  case cbx0 => kernel_rfl
                  case dbx0 => exact fun _ _ _ h => h
                  case ybx0 => (refine Or.inl ⟨by rfl, ?_⟩; intro w hSw; (try dsimp only at hSw); go_simp; first | done | with_reducible rfl)
                  try simp only [Act.put, List.setIfInBounds_toArray, List.set_cons_zero, List.set_cons_succ]
                  refine wpAnyH_take (i := 1) (oi := ?obx1) (v := ?vbx1) ?hbx1 ?abx1 ?bbx1 ?cbx1 ?dbx1 ?ybx1 (by assumption) ?rbx1
                  case hbx1 => (simp only [List.getElem?_toArray, List.getElem?_cons_succ, List.getElem?_cons_zero]; rfl)
                  case abx1 => kernel_rfl
                  case bbx1 => kernel_rfl
                  case cbx1 => kernel_rfl
                  case dbx1 => exact fun _ _ _ h => h
                  case ybx1 => (refine Or.inl ⟨by rfl, ?_⟩; intro w hSw; (try dsimp only at hSw); go_simp; first | done | with_reducible rfl)
                  try simp only [Act.put, List.setIfInBounds_toArray, List.set_cons_zero, List.set_cons_succ]
                  refine wpAnyH_take (i := 2) (oi := ?obx2) (v := ?vbx2) ?hbx2 ?abx2 ?bbx2 ?cbx2 ?dbx2 ?ybx2 (by assumption) ?rbx2
                  case hbx2 => (simp only [List.getElem?_toArray, List.getElem?_cons_succ, List.getElem?_cons_zero]; rfl)
                  case abx2 => kernel_rfl
                  case bbx2 => kernel_rfl
                  case cbx2 => kernel_rfl
                  case dbx2 => exact fun _ _ _ h => h
                  case ybx2 => (refine Or.inl ⟨by rfl, ?_⟩; intro w hSw; (try dsimp only at hSw); go_simp; first | done | with_reducible rfl)
                  try simp only [Act.put, List.setIfInBounds_toArray, List.set_cons_zero, List.set_cons_succ]
                  refine wpAnyH_take (i := 3) (oi := ?obx3) (v := ?vbx3) ?hbx3 ?abx3 ?bbx3 ?cbx3 ?dbx3 ?ybx3 (by assumption) ?rbx3
                  case hbx3 => (simp only [List.getElem?_toArray, List.getElem?_cons_succ, List.getElem?_cons_zero]; rfl)
                  case abx3 => kernel_rfl
                  case bbx3 => kernel_rfl
                  case cbx3 => kernel_rfl
                  case dbx3 => exact fun _ _ _ h => h
                  case ybx3 => (refine Or.inl ⟨by rfl, ?_⟩; intro w hSw; (try dsimp only at hSw); go_simp; first | done | with_reducible rfl)
                  try simp only [Act.put, List.setIfInBounds_toArray, List.set_cons_zero, List.set_cons_succ]
                  refine wpAnyH_take (i := 4) (oi := ?obx4) (v := ?vbx4) ?hbx4 ?abx4 ?bbx4 ?cbx4 ?dbx4 ?ybx4 (by assumption) ?rbx4
                  case hbx4 => (simp only [List.getElem?_toArray, List.getElem?_cons_succ, List.getElem?_cons_zero]; rfl)
                  case abx4 => kernel_rfl
                  case bbx4 => kernel_rfl
                  case cbx4 => kernel_rfl
                  case dbx4 => exact fun _ _ _ h => h
                  case ybx4 => (refine Or.inl ⟨by rfl, ?_⟩; intro w hSw; (try dsimp only at hSw); go_simp; first | done | with_reducible rfl)
                  try simp only [Act.put, List.setIfInBounds_toArray, List.set_cons_zero, List.set_cons_succ]
                  refine wpAnyH_ready (rs := [5]) (by kernel_rfl) (by simp) ?_
                  refine AllReadyH.cons (o := ?obx5) ?hbx5 (fun K hK => ?_) AllReadyH.nil
                  case hbx5 => (simp only [List.getElem?_toArray, List.getElem?_cons_succ, List.getElem?_cons_zero]; rfl)
                  go_simp
                  refine (refitem_any _ _ _ hsz).mono ?_; rintro e w' ⟨w2, rfl, rfl, b2⟩; rw [HI.out]
                  refine hK.out _ _ ?_ (fun hHeld => ?_)
                  · exact ⟨cell_keep hHeld.1 b2, cell_keep hHeld.2.1 b2, cell_keep hHeld.2.2 b2⟩
                  clear hK K
                  try simp only [Act.put, List.setIfInBounds_toArray, List.set_cons_zero, List.set_cons_succ]
                  refine wpAnyH_take (i := 6) (oi := ?obx6) (v := ?vbx6) ?hbx6 ?abx6 ?bbx6 ?cbx6 ?dbx6 ?ybx6 (by assumption) ?rbx6
                  case hbx6 => (simp only [List.getElem?_toArray, List.getElem?_cons_succ, List.getElem?_cons_zero]; rfl)
                  case abx6 => kernel_rfl
                  case bbx6 => kernel_rfl
                  case cbx6 => kernel_rfl
                  case dbx6 => exact fun _ _ _ h => h
                  case ybx6 => (refine Or.inl ⟨by rfl, ?_⟩; intro w hSw; (try dsimp only at hSw); go_simp; first | done | with_reducible rfl)
                  try simp only [Act.put, List.setIfInBounds_toArray, List.set_cons_zero, List.set_cons_succ]
                  refine wpAnyH_take (i := 7) (oi := ?obx7) (v := ?vbx7) ?hbx7 ?abx7 ?bbx7 ?cbx7 ?dbx7 ?ybx7 (by assumption) ?rbx7
                  case hbx7 => (simp only [List.getElem?_toArray, List.getElem?_cons_succ, List.getElem?_cons_zero]; rfl)
                  case abx7 => kernel_rfl
                  case bbx7 => kernel_rfl
                  case cbx7 => kernel_rfl
                  case dbx7 => exact fun _ _ _ h => h
                  case ybx7 => (refine Or.inl ⟨by rfl, ?_⟩; intro w hSw; (try dsimp only at hSw); go_simp; first | done | with_reducible rfl)
                  try simp only [Act.put, List.setIfInBounds_toArray, List.set_cons_zero, List.set_cons_succ]
                  refine wpAnyH_take (i := 8) (oi := ?obx8) (v := undef) ?hbx8 ?abx8 ?bbx8 ?cbx8 ?dbx8 ?ybx8 (by assumption) ?rbx8
                  case hbx8 => (simp only [List.getElem?_toArray, List.getElem?_cons_succ, List.getElem?_cons_zero]; rfl)
                  case abx8 => kernel_rfl
                  case bbx8 => kernel_rfl
                  case cbx8 => kernel_rfl
                  case dbx8 => exact fun _ _ _ h => h
                  case ybx8 => exact Or.inr ⟨by rfl, rfl⟩
                  try simp only [Act.put, List.setIfInBounds_toArray, List.set_cons_zero, List.set_cons_succ]
                  refine wpAnyH_take (i := 9) (oi := ?obx9) (v := undef) ?hbx9 ?abx9 ?bbx9 ?cbx9 ?dbx9 ?ybx9 (by assumption) ?rbx9
                  case hbx9 => (simp only [List.getElem?_toArray, List.getElem?_cons_succ, List.getElem?_cons_zero]; rfl)
                  case abx9 => kernel_rfl
                  case bbx9 => kernel_rfl
                  case cbx9 => kernel_rfl
                  case dbx9 => exact fun _ _ _ h => h
                  case ybx9 => exact Or.inr ⟨by rfl, rfl⟩
                  try simp only [Act.put, List.setIfInBounds_toArray, List.set_cons_zero, List.set_cons_succ]
                  refine wpAnyH_take (i := 10) (oi := ?obx10) (v := undef) ?hbx10 ?abx10 ?bbx10 ?cbx10 ?dbx10 ?ybx10 (by assumption) ?rbx10
                  case hbx10 => (simp only [List.getElem?_toArray, List.getElem?_cons_succ, List.getElem?_cons_zero]; rfl)
                  case abx10 => kernel_rfl
                  case bbx10 => kernel_rfl
                  case cbx10 => kernel_rfl
                  case dbx10 => exact fun _ _ _ h => h
                  case ybx10 => exact Or.inr ⟨by rfl, rfl⟩
                  try simp only [Act.put, List.setIfInBounds_toArray, List.set_cons_zero, List.set_cons_succ]
                  refine wpAnyH_take (i := 11) (oi := ?obx11) (v := undef) ?hbx11 ?abx11 ?bbx11 ?cbx11 ?dbx11 ?ybx11 (by assumption) ?rbx11
                  case hbx11 => (simp only [List.getElem?_toArray, List.getElem?_cons_succ, List.getElem?_cons_zero]; rfl)
                  case abx11 => kernel_rfl
                  case bbx11 => kernel_rfl
                  case cbx11 => kernel_rfl
                  case dbx11 => exact fun _ _ _ h => h
                  case ybx11 => exact Or.inr ⟨by rfl, rfl⟩
                  try simp only [Act.put, List.setIfInBounds_toArray, List.set_cons_zero, List.set_cons_succ]
                  refine wpAnyH_take (i := 12) (oi := ?obx12) (v := undef) ?hbx12 ?abx12 ?bbx12 ?cbx12 ?dbx12 ?ybx12 (by assumption) ?rbx12
                  case hbx12 => (simp only [List.getElem?_toArray, List.getElem?_cons_succ, List.getElem?_cons_zero]; rfl)
                  case abx12 => kernel_rfl
                  case bbx12 => kernel_rfl
                  case cbx12 => kernel_rfl
                  case dbx12 => exact fun _ _ _ h => h
                  case ybx12 => exact Or.inr ⟨by rfl, rfl⟩
                  try simp only [Act.put, List.setIfInBounds_toArray, List.set_cons_zero, List.set_cons_succ]
                  refine wpAnyH_take (i := 13) (oi := ?obx13) (v := undef) ?hbx13 ?abx13 ?bbx13 ?cbx13 ?dbx13 ?ybx13 (by assumption) ?rbx13
                  case hbx13 => (simp only [List.getElem?_toArray, List.getElem?_cons_succ, List.getElem?_cons_zero]; rfl)
                  case abx13 => kernel_rfl
                  case bbx13 => kernel_rfl
                  case cbx13 => kernel_rfl
                  case dbx13 => exact fun _ _ _ h => h
                  case ybx13 => exact Or.inr ⟨by rfl, rfl⟩
                  try simp only [Act.put, List.setIfInBounds_toArray, List.set_cons_zero, List.set_cons_succ]
                  refine wpAnyH_take (i := 14) (oi := ?obx14) (v := undef) ?hbx14 ?abx14 ?bbx14 ?cbx14 ?dbx14 ?ybx14 (by assumption) ?rbx14
                  case hbx14 => (simp only [List.getElem?_toArray, List.getElem?_cons_succ, List.getElem?_cons_zero]; rfl)
                  case abx14 => kernel_rfl
                  case bbx14 => kernel_rfl
                  case cbx14 => kernel_rfl
                  case dbx14 => exact fun _ _ _ h => h
                  case ybx14 => exact Or.inr ⟨by rfl, rfl⟩
                  try simp only [Act.put, List.setIfInBounds_toArray, List.set_cons_zero, List.set_cons_succ]
                  refine wpAnyH_take (i := 15) (oi := ?obx15) (v := undef) ?hbx15 ?abx15 ?bbx15 ?cbx15 ?dbx15 ?ybx15 (by assumption) ?rbx15
                  case hbx15 => (simp only [List.getElem?_toArray, List.getElem?_cons_succ, List.getElem?_cons_zero]; rfl)
                  case abx15 => kernel_rfl
                  case bbx15 => kernel_rfl
                  case cbx15 => kernel_rfl
                  case dbx15 => exact fun _ _ _ h => h
                  case ybx15 => exact Or.inr ⟨by rfl, rfl⟩
                  try simp only [Act.put, List.setIfInBounds_toArray, List.set_cons_zero, List.set_cons_succ]
                  refine wpAnyH_take (i := 16) (oi := ?obx16) (v := undef) ?hbx16 ?abx16 ?bbx16 ?cbx16 ?dbx16 ?ybx16 (by assumption) ?rbx16
                  case hbx16 => (simp only [List.getElem?_toArray, List.getElem?_cons_succ, List.getElem?_cons_zero]; rfl)
                  case abx16 => kernel_rfl
                  case bbx16 => kernel_rfl
                  case cbx16 => kernel_rfl
                  case dbx16 => exact fun _ _ _ h => h
                  case ybx16 => exact Or.inr ⟨by rfl, rfl⟩
                  try simp only [Act.put, List.setIfInBounds_toArray, List.set_cons_zero, List.set_cons_succ]
                  refine wpAnyH_take (i := 17) (oi := ?obx17) (v := undef) ?hbx17 ?abx17 ?bbx17 ?cbx17 ?dbx17 ?ybx17 (by assumption) ?rbx17
                  case hbx17 => (simp only [List.getElem?_toArray, List.getElem?_cons_succ, List.getElem?_cons_zero]; rfl)
                  case abx17 => kernel_rfl
                  case bbx17 => kernel_rfl
                  case cbx17 => kernel_rfl
                  case dbx17 => exact fun _ _ _ h => h
                  case ybx17 => exact Or.inr ⟨by rfl, rfl⟩
                  try simp only [Act.put, List.setIfInBounds_toArray, List.set_cons_zero, List.set_cons_succ]
                  refine wpAnyH_take (i := 18) (oi := ?obx18) (v := undef) ?hbx18 ?abx18 ?bbx18 ?cbx18 ?dbx18 ?ybx18 (by assumption) ?rbx18
                  case hbx18 => (simp only [List.getElem?_toArray, List.getElem?_cons_succ, List.getElem?_cons_zero]; rfl)
                  case abx18 => kernel_rfl
                  case bbx18 => kernel_rfl
                  case cbx18 => kernel_rfl
                  case dbx18 => exact fun _ _ _ h => h
                  case ybx18 => exact Or.inr ⟨by rfl, rfl⟩
                  try simp only [Act.put, List.setIfInBounds_toArray, List.set_cons_zero, List.set_cons_succ]
                  refine wpAnyH_take (i := 19) (oi := ?obx19) (v := undef) ?hbx19 ?abx19 ?bbx19 ?cbx19 ?dbx19 ?ybx19 (by assumption) ?rbx19
                  case hbx19 => (simp only [List.getElem?_toArray, List.getElem?_cons_succ, List.getElem?_cons_zero]; rfl)
                  case abx19 => kernel_rfl
                  case bbx19 => kernel_rfl
                  case cbx19 => kernel_rfl
                  case dbx19 => exact fun _ _ _ h => h
                  case ybx19 => exact Or.inr ⟨by rfl, rfl⟩
                  try simp only [Act.put, List.setIfInBounds_toArray, List.set_cons_zero, List.set_cons_succ]
                  refine wpAnyH_take (i := 20) (oi := ?obx20) (v := undef) ?hbx20 ?abx20 ?bbx20 ?cbx20 ?dbx20 ?ybx20 (by assumption) ?rbx20
                  case hbx20 => (simp only [List.getElem?_toArray, List.getElem?_cons_succ, List.getElem?_cons_zero]; rfl)
                  case abx20 => kernel_rfl
                  case bbx20 => kernel_rfl
                  case cbx20 => kernel_rfl
                  case dbx20 => exact fun _ _ _ h => h
                  case ybx20 => exact Or.inr ⟨by rfl, rfl⟩
                  try simp only [Act.put, List.setIfInBounds_toArray, List.set_cons_zero, List.set_cons_succ]
                  refine wpAnyH_take (i := 21) (oi := ?obx21) (v := undef) ?hbx21 ?abx21 ?bbx21 ?cbx21 ?dbx21 ?ybx21 (by assumption) ?rbx21
                  case hbx21 => (simp only [List.getElem?_toArray, List.getElem?_cons_succ, List.getElem?_cons_zero]; rfl)
                  case abx21 => kernel_rfl
                  case bbx21 => kernel_rfl
                  case cbx21 => kernel_rfl
                  case dbx21 => exact fun _ _ _ h => h
                  case ybx21 => exact Or.inr ⟨by rfl, rfl⟩
                  try simp only [Act.put, List.setIfInBounds_toArray, List.set_cons_zero, List.set_cons_succ]
                  refine wpAnyH_take (i := 22) (oi := ?obx22) (v := undef) ?hbx22 ?abx22 ?bbx22 ?cbx22 ?dbx22 ?ybx22 (by assumption) ?rbx22
                  case hbx22 => (simp only [List.getElem?_toArray, List.getElem?_cons_succ, List.getElem?_cons_zero]; rfl)
                  case abx22 => kernel_rfl
                  case bbx22 => kernel_rfl
                  case cbx22 => kernel_rfl
                  case dbx22 => exact fun _ _ _ h => h
                  case ybx22 => exact Or.inr ⟨by rfl, rfl⟩
                  try simp only [Act.put, List.setIfInBounds_toArray, List.set_cons_zero, List.set_cons_succ]
                  refine wpAnyH_take (i := 23) (oi := ?obx23) (v := undef) ?hbx23 ?abx23 ?bbx23 ?cbx23 ?dbx23 ?ybx23 (by assumption) ?rbx23
                  case hbx23 => (simp only [List.getElem?_toArray, List.getElem?_cons_succ, List.getElem?_cons_zero]; rfl)
                  case abx23 => kernel_rfl
                  case bbx23 => kernel_rfl
                  case cbx23 => kernel_rfl
                  case dbx23 => exact fun _ _ _ h => h
                  case ybx23 => exact Or.inr ⟨by rfl, rfl⟩
                  try simp only [Act.put, List.setIfInBounds_toArray, List.set_cons_zero, List.set_cons_succ]
                  refine wpAnyH_take (i := 24) (oi := ?obx24) (v := undef) ?hbx24 ?abx24 ?bbx24 ?cbx24 ?dbx24 ?ybx24 (by assumption) ?rbx24
                  case hbx24 => (simp only [List.getElem?_toArray, List.getElem?_cons_succ, List.getElem?_cons_zero]; rfl)
                  case abx24 => kernel_rfl
                  case bbx24 => kernel_rfl
                  case cbx24 => kernel_rfl
                  case dbx24 => exact fun _ _ _ h => h
                  case ybx24 => exact Or.inr ⟨by rfl, rfl⟩
                  try simp only [Act.put, List.setIfInBounds_toArray, List.set_cons_zero, List.set_cons_succ]
                  refine wpAnyH_take (i := 25) (oi := ?obx25) (v := ?vbx25) ?hbx25 ?abx25 ?bbx25 ?cbx25 ?dbx25 ?ybx25 (by assumption) ?rbx25
                  case hbx25 => (simp only [List.getElem?_toArray, List.getElem?_cons_succ, List.getElem?_cons_zero]; rfl)
                  case abx25 => kernel_rfl
                  case bbx25 => kernel_rfl
                  case cbx25 => kernel_rfl
                  case dbx25 => exact fun _ _ _ h => h
                  case ybx25 => (refine Or.inl ⟨by rfl, ?_⟩; intro w hSw; (try dsimp only at hSw); go_simp; first | done | with_reducible rfl)
                  try simp only [Act.put, List.setIfInBounds_toArray, List.set_cons_zero, List.set_cons_succ]
                  refine wpAnyH_done (by kernel_rfl) ?_ _
                  refine NoPanic.normal ?_
                  go_wp2
                  go_ret
                  exact ⟨_, by rw [HE2.out]; rfl, rfl, (HB0.out.trans ((HB.out.drew.trans (b2.mono hz1)).mono (by simp)))⟩
                | true =>
                  by_cases hk0 : k = 0
                  · have HK0 := Lib.hid hk0
                    have g1 : decide ((0 : Int) < (k : Int)) = false := decide_eq_false (by omega)
                    have g2 : ¬ 0 < k := by omega
                    have HR2 : Hid ((List.range (k + 1)).all (roundB xs) = true) := by
                      unfold Hid
                      rw [range_all, HR.out]
                      unfold roundB
                      rw [HD.out, HSS.out, HI.out, decide_eq_true HK0.out]
                      rfl
                    clear hk0
                    go_wp2_with fail
                    refine wp_region_noPanic ?_
                    refine wp_region_held_drew (S := fun w' => w'.cell? ⟨w.heap.size, 6, none⟩ = some (.slice (some ad) n c) ∧ w'.cell? (ad.add (k * 2)) = some (.int .i64 d) ∧ w'.cell? ⟨(ad.add (k * 2)).block, (ad.add (k * 2)).off + 1, none⟩ = some (.string s)) (by kernel_rfl) ?_ (fun hHeld => ?_)
                    · exact ⟨hc6, y0, y1⟩
                    refine wpAnyH_take (i := 0) (oi := ?ocx0) (v := ?vcx0) ?hcx0 ?acx0 ?bcx0 ?ccx0 ?dcx0 ?ycx0 (by assumption) ?rcx0
                    case hcx0 => (simp only [List.getElem?_toArray, List.getElem?_cons_succ, List.getElem?_cons_zero]; rfl)
                    case acx0 => kernel_rfl
                    case bcx0 => kernel_rfl
                    case ccx0 => kernel_rfl
                    case dcx0 => exact fun _ _ _ h => h
                    case ycx0 => (refine Or.inl ⟨by rfl, ?_⟩; intro w hSw; (try dsimp only at hSw); go_simp; first | done | with_reducible rfl)
                    try simp only [Act.put, List.setIfInBounds_toArray, List.set_cons_zero, List.set_cons_succ]
                    refine wpAnyH_take (i := 1) (oi := ?ocx1) (v := ?vcx1) ?hcx1 ?acx1 ?bcx1 ?ccx1 ?dcx1 ?ycx1 (by assumption) ?rcx1
                    case hcx1 => (simp only [List.getElem?_toArray, List.getElem?_cons_succ, List.getElem?_cons_zero]; rfl)
                    case acx1 => kernel_rfl
                    case bcx1 => kernel_rfl
                    case ccx1 => kernel_rfl
                    case dcx1 => exact fun _ _ _ h => h
                    case ycx1 => (refine Or.inl ⟨by rfl, ?_⟩; intro w hSw; (try dsimp only at hSw); go_simp; first | done | with_reducible rfl)
                    try simp only [Act.put, List.setIfInBounds_toArray, List.set_cons_zero, List.set_cons_succ]
                    refine wpAnyH_take (i := 2) (oi := ?ocx2) (v := ?vcx2) ?hcx2 ?acx2 ?bcx2 ?ccx2 ?dcx2 ?ycx2 (by assumption) ?rcx2
                    case hcx2 => (simp only [List.getElem?_toArray, List.getElem?_cons_succ, List.getElem?_cons_zero]; rfl)
                    case acx2 => kernel_rfl
                    case bcx2 => kernel_rfl
                    case ccx2 => kernel_rfl
                    case dcx2 => exact fun _ _ _ h => h
                    case ycx2 => (refine Or.inl ⟨by rfl, ?_⟩; intro w hSw; (try dsimp only at hSw); go_simp; first | done | with_reducible rfl)
                    try simp only [Act.put, List.setIfInBounds_toArray, List.set_cons_zero, List.set_cons_succ]
                    refine wpAnyH_take (i := 3) (oi := ?ocx3) (v := ?vcx3) ?hcx3 ?acx3 ?bcx3 ?ccx3 ?dcx3 ?ycx3 (by assumption) ?rcx3
                    case hcx3 => (simp only [List.getElem?_toArray, List.getElem?_cons_succ, List.getElem?_cons_zero]; rfl)
                    case acx3 => kernel_rfl
                    case bcx3 => kernel_rfl
                    case ccx3 => kernel_rfl
                    case dcx3 => exact fun _ _ _ h => h
                    case ycx3 => (refine Or.inl ⟨by rfl, ?_⟩; intro w hSw; (try dsimp only at hSw); go_simp; first | done | with_reducible rfl)
                    try simp only [Act.put, List.setIfInBounds_toArray, List.set_cons_zero, List.set_cons_succ]
                    refine wpAnyH_take (i := 4) (oi := ?ocx4) (v := ?vcx4) ?hcx4 ?acx4 ?bcx4 ?ccx4 ?dcx4 ?ycx4 (by assumption) ?rcx4
                    case hcx4 => (simp only [List.getElem?_toArray, List.getElem?_cons_succ, List.getElem?_cons_zero]; rfl)
                    case acx4 => kernel_rfl
                    case bcx4 => kernel_rfl
                    case ccx4 => kernel_rfl
                    case dcx4 => exact fun _ _ _ h => h
                    case ycx4 => (refine Or.inl ⟨by rfl, ?_⟩; intro w hSw; (try dsimp only at hSw); go_simp; first | done | with_reducible rfl)
                    try simp only [Act.put, List.setIfInBounds_toArray, List.set_cons_zero, List.set_cons_succ]
                    refine wpAnyH_ready (rs := [5]) (by kernel_rfl) (by simp) ?_
                    refine AllReadyH.cons (o := ?ocx5) ?hcx5 (fun K hK => ?_) AllReadyH.nil
                    case hcx5 => (simp only [List.getElem?_toArray, List.getElem?_cons_succ, List.getElem?_cons_zero]; rfl)
                    go_simp
                    refine (refitem_any _ _ _ hsz).mono ?_; rintro e w' ⟨w2, rfl, rfl, b2⟩; rw [HI.out]
                    refine hK.out _ _ ?_ (fun hHeld => ?_)
                    · exact ⟨cell_keep hHeld.1 b2, cell_keep hHeld.2.1 b2, cell_keep hHeld.2.2 b2⟩
                    clear hK K
                    try simp only [Act.put, List.setIfInBounds_toArray, List.set_cons_zero, List.set_cons_succ]
                    refine wpAnyH_take (i := 6) (oi := ?ocx6) (v := ?vcx6) ?hcx6 ?acx6 ?bcx6 ?ccx6 ?dcx6 ?ycx6 (by assumption) ?rcx6
                    case hcx6 => (simp only [List.getElem?_toArray, List.getElem?_cons_succ, List.getElem?_cons_zero]; rfl)
                    case acx6 => kernel_rfl
                    case bcx6 => kernel_rfl
                    case ccx6 => kernel_rfl
                    case dcx6 => exact fun _ _ _ h => h
                    case ycx6 => (refine Or.inl ⟨by rfl, ?_⟩; intro w hSw; (try dsimp only at hSw); go_simp; first | done | with_reducible rfl)
                    try simp only [Act.put, List.setIfInBounds_toArray, List.set_cons_zero, List.set_cons_succ]
                    refine wpAnyH_take (i := 7) (oi := ?ocx7) (v := ?vcx7) ?hcx7 ?acx7 ?bcx7 ?ccx7 ?dcx7 ?ycx7 (by assumption) ?rcx7
                    case hcx7 => (simp only [List.getElem?_toArray, List.getElem?_cons_succ, List.getElem?_cons_zero]; rfl)
                    case acx7 => kernel_rfl
                    case bcx7 => kernel_rfl
                    case ccx7 => kernel_rfl
                    case dcx7 => exact fun _ _ _ h => h
                    case ycx7 => (refine Or.inl ⟨by rfl, ?_⟩; intro w hSw; (try dsimp only at hSw); go_simp; first | done | with_reducible rfl)
                    try simp only [Act.put, List.setIfInBounds_toArray, List.set_cons_zero, List.set_cons_succ]
                    refine wpAnyH_take (i := 8) (oi := ?ocx8) (v := ?vcx8) ?hcx8 ?acx8 ?bcx8 ?ccx8 ?dcx8 ?ycx8 (by assumption) ?rcx8
                    case hcx8 => (simp only [List.getElem?_toArray, List.getElem?_cons_succ, List.getElem?_cons_zero]; rfl)
                    case acx8 => kernel_rfl
                    case bcx8 => kernel_rfl
                    case ccx8 => kernel_rfl
                    case dcx8 => exact fun _ _ _ h => h
                    case ycx8 => (refine Or.inl ⟨by rfl, ?_⟩; intro w hSw; (try dsimp only at hSw); go_simp; first | done | with_reducible rfl)
                    try simp only [Act.put, List.setIfInBounds_toArray, List.set_cons_zero, List.set_cons_succ]
                    refine wpAnyH_take (i := 9) (oi := ?ocx9) (v := ?vcx9) ?hcx9 ?acx9 ?bcx9 ?ccx9 ?dcx9 ?ycx9 (by assumption) ?rcx9
                    case hcx9 => (simp only [List.getElem?_toArray, List.getElem?_cons_succ, List.getElem?_cons_zero]; rfl)
                    case acx9 => kernel_rfl
                    case bcx9 => kernel_rfl
                    case ccx9 => kernel_rfl
                    case dcx9 => exact fun _ _ _ h => h
                    case ycx9 => (refine Or.inl ⟨by rfl, ?_⟩; intro w hSw; (try dsimp only at hSw); go_simp; first | done | with_reducible rfl)
                    try simp only [Act.put, List.setIfInBounds_toArray, List.set_cons_zero, List.set_cons_succ]
                    refine wpAnyH_take (i := 10) (oi := ?ocx10) (v := ?vcx10) ?hcx10 ?acx10 ?bcx10 ?ccx10 ?dcx10 ?ycx10 (by assumption) ?rcx10
                    case hcx10 => (simp only [List.getElem?_toArray, List.getElem?_cons_succ, List.getElem?_cons_zero]; rfl)
                    case acx10 => kernel_rfl
                    case bcx10 => kernel_rfl
                    case ccx10 => kernel_rfl
                    case dcx10 => exact fun _ _ _ h => h
                    case ycx10 => (refine Or.inl ⟨by rfl, ?_⟩; intro w hSw; (try dsimp only at hSw); go_simp; first | done | with_reducible rfl)
                    try simp only [Act.put, List.setIfInBounds_toArray, List.set_cons_zero, List.set_cons_succ]
                    refine wpAnyH_take (i := 11) (oi := ?ocx11) (v := undef) ?hcx11 ?acx11 ?bcx11 ?ccx11 ?dcx11 ?ycx11 (by assumption) ?rcx11
                    case hcx11 => (simp only [List.getElem?_toArray, List.getElem?_cons_succ, List.getElem?_cons_zero]; rfl)
                    case acx11 => kernel_rfl
                    case bcx11 => kernel_rfl
                    case ccx11 => kernel_rfl
                    case dcx11 => exact fun _ _ _ h => h
                    case ycx11 => exact Or.inr ⟨by rfl, rfl⟩
                    try simp only [Act.put, List.setIfInBounds_toArray, List.set_cons_zero, List.set_cons_succ]
                    refine wpAnyH_take (i := 12) (oi := ?ocx12) (v := undef) ?hcx12 ?acx12 ?bcx12 ?ccx12 ?dcx12 ?ycx12 (by assumption) ?rcx12
                    case hcx12 => (simp only [List.getElem?_toArray, List.getElem?_cons_succ, List.getElem?_cons_zero]; rfl)
                    case acx12 => kernel_rfl
                    case bcx12 => kernel_rfl
                    case ccx12 => kernel_rfl
                    case dcx12 => exact fun _ _ _ h => h
                    case ycx12 => exact Or.inr ⟨by rfl, rfl⟩
                    try simp only [Act.put, List.setIfInBounds_toArray, List.set_cons_zero, List.set_cons_succ]
                    refine wpAnyH_take (i := 13) (oi := ?ocx13) (v := undef) ?hcx13 ?acx13 ?bcx13 ?ccx13 ?dcx13 ?ycx13 (by assumption) ?rcx13
                    case hcx13 => (simp only [List.getElem?_toArray, List.getElem?_cons_succ, List.getElem?_cons_zero]; rfl)
                    case acx13 => kernel_rfl
                    case bcx13 => kernel_rfl
                    case ccx13 => kernel_rfl
                    case dcx13 => exact fun _ _ _ h => h
                    case ycx13 => exact Or.inr ⟨by rfl, rfl⟩
                    try simp only [Act.put, List.setIfInBounds_toArray, List.set_cons_zero, List.set_cons_succ]
                    refine wpAnyH_take (i := 14) (oi := ?ocx14) (v := undef) ?hcx14 ?acx14 ?bcx14 ?ccx14 ?dcx14 ?ycx14 (by assumption) ?rcx14
                    case hcx14 => (simp only [List.getElem?_toArray, List.getElem?_cons_succ, List.getElem?_cons_zero]; rfl)
                    case acx14 => kernel_rfl
                    case bcx14 => kernel_rfl
                    case ccx14 => kernel_rfl
                    case dcx14 => exact fun _ _ _ h => h
                    case ycx14 => exact Or.inr ⟨by rfl, rfl⟩
                    try simp only [Act.put, List.setIfInBounds_toArray, List.set_cons_zero, List.set_cons_succ]
                    refine wpAnyH_take (i := 15) (oi := ?ocx15) (v := undef) ?hcx15 ?acx15 ?bcx15 ?ccx15 ?dcx15 ?ycx15 (by assumption) ?rcx15
                    case hcx15 => (simp only [List.getElem?_toArray, List.getElem?_cons_succ, List.getElem?_cons_zero]; rfl)
                    case acx15 => kernel_rfl
                    case bcx15 => kernel_rfl
                    case ccx15 => kernel_rfl
                    case dcx15 => exact fun _ _ _ h => h
                    case ycx15 => exact Or.inr ⟨by rfl, rfl⟩
                    try simp only [Act.put, List.setIfInBounds_toArray, List.set_cons_zero, List.set_cons_succ]
                    refine wpAnyH_take (i := 16) (oi := ?ocx16) (v := undef) ?hcx16 ?acx16 ?bcx16 ?ccx16 ?dcx16 ?ycx16 (by assumption) ?rcx16
                    case hcx16 => (simp only [List.getElem?_toArray, List.getElem?_cons_succ, List.getElem?_cons_zero]; rfl)
                    case acx16 => kernel_rfl
                    case bcx16 => kernel_rfl
                    case ccx16 => kernel_rfl
                    case dcx16 => exact fun _ _ _ h => h
                    case ycx16 => exact Or.inr ⟨by rfl, rfl⟩
                    try simp only [Act.put, List.setIfInBounds_toArray, List.set_cons_zero, List.set_cons_succ]
                    refine wpAnyH_take (i := 17) (oi := ?ocx17) (v := undef) ?hcx17 ?acx17 ?bcx17 ?ccx17 ?dcx17 ?ycx17 (by assumption) ?rcx17
                    case hcx17 => (simp only [List.getElem?_toArray, List.getElem?_cons_succ, List.getElem?_cons_zero]; rfl)
                    case acx17 => kernel_rfl
                    case bcx17 => kernel_rfl
                    case ccx17 => kernel_rfl
                    case dcx17 => exact fun _ _ _ h => h
                    case ycx17 => exact Or.inr ⟨by rfl, rfl⟩
                    try simp only [Act.put, List.setIfInBounds_toArray, List.set_cons_zero, List.set_cons_succ]
                    refine wpAnyH_take (i := 18) (oi := ?ocx18) (v := undef) ?hcx18 ?acx18 ?bcx18 ?ccx18 ?dcx18 ?ycx18 (by assumption) ?rcx18
                    case hcx18 => (simp only [List.getElem?_toArray, List.getElem?_cons_succ, List.getElem?_cons_zero]; rfl)
                    case acx18 => kernel_rfl
                    case bcx18 => kernel_rfl
                    case ccx18 => kernel_rfl
                    case dcx18 => exact fun _ _ _ h => h
                    case ycx18 => exact Or.inr ⟨by rfl, rfl⟩
                    try simp only [Act.put, List.setIfInBounds_toArray, List.set_cons_zero, List.set_cons_succ]
                    refine wpAnyH_take (i := 19) (oi := ?ocx19) (v := undef) ?hcx19 ?acx19 ?bcx19 ?ccx19 ?dcx19 ?ycx19 (by assumption) ?rcx19
                    case hcx19 => (simp only [List.getElem?_toArray, List.getElem?_cons_succ, List.getElem?_cons_zero]; rfl)
                    case acx19 => kernel_rfl
                    case bcx19 => kernel_rfl
                    case ccx19 => kernel_rfl
                    case dcx19 => exact fun _ _ _ h => h
                    case ycx19 => exact Or.inr ⟨by rfl, rfl⟩
                    try simp only [Act.put, List.setIfInBounds_toArray, List.set_cons_zero, List.set_cons_succ]
                    refine wpAnyH_take (i := 20) (oi := ?ocx20) (v := undef) ?hcx20 ?acx20 ?bcx20 ?ccx20 ?dcx20 ?ycx20 (by assumption) ?rcx20
                    case hcx20 => (simp only [List.getElem?_toArray, List.getElem?_cons_succ, List.getElem?_cons_zero]; rfl)
                    case acx20 => kernel_rfl
                    case bcx20 => kernel_rfl
                    case ccx20 => kernel_rfl
                    case dcx20 => exact fun _ _ _ h => h
                    case ycx20 => exact Or.inr ⟨by rfl, rfl⟩
                    try simp only [Act.put, List.setIfInBounds_toArray, List.set_cons_zero, List.set_cons_succ]
                    refine wpAnyH_take (i := 21) (oi := ?ocx21) (v := undef) ?hcx21 ?acx21 ?bcx21 ?ccx21 ?dcx21 ?ycx21 (by assumption) ?rcx21
                    case hcx21 => (simp only [List.getElem?_toArray, List.getElem?_cons_succ, List.getElem?_cons_zero]; rfl)
                    case acx21 => kernel_rfl
                    case bcx21 => kernel_rfl
                    case ccx21 => kernel_rfl
                    case dcx21 => exact fun _ _ _ h => h
                    case ycx21 => exact Or.inr ⟨by rfl, rfl⟩
                    try simp only [Act.put, List.setIfInBounds_toArray, List.set_cons_zero, List.set_cons_succ]
                    refine wpAnyH_take (i := 22) (oi := ?ocx22) (v := undef) ?hcx22 ?acx22 ?bcx22 ?ccx22 ?dcx22 ?ycx22 (by assumption) ?rcx22
                    case hcx22 => (simp only [List.getElem?_toArray, List.getElem?_cons_succ, List.getElem?_cons_zero]; rfl)
                    case acx22 => kernel_rfl
                    case bcx22 => kernel_rfl
                    case ccx22 => kernel_rfl
                    case dcx22 => exact fun _ _ _ h => h
                    case ycx22 => exact Or.inr ⟨by rfl, rfl⟩
                    try simp only [Act.put, List.setIfInBounds_toArray, List.set_cons_zero, List.set_cons_succ]
                    refine wpAnyH_take (i := 23) (oi := ?ocx23) (v := undef) ?hcx23 ?acx23 ?bcx23 ?ccx23 ?dcx23 ?ycx23 (by assumption) ?rcx23
                    case hcx23 => (simp only [List.getElem?_toArray, List.getElem?_cons_succ, List.getElem?_cons_zero]; rfl)
                    case acx23 => kernel_rfl
                    case bcx23 => kernel_rfl
                    case ccx23 => kernel_rfl
                    case dcx23 => exact fun _ _ _ h => h
                    case ycx23 => exact Or.inr ⟨by rfl, rfl⟩
                    try simp only [Act.put, List.setIfInBounds_toArray, List.set_cons_zero, List.set_cons_succ]
                    refine wpAnyH_take (i := 24) (oi := ?ocx24) (v := ?vcx24) ?hcx24 ?acx24 ?bcx24 ?ccx24 ?dcx24 ?ycx24 (by assumption) ?rcx24
                    case hcx24 => (simp only [List.getElem?_toArray, List.getElem?_cons_succ, List.getElem?_cons_zero]; rfl)
                    case acx24 => kernel_rfl
                    case bcx24 => kernel_rfl
                    case ccx24 => kernel_rfl
                    case dcx24 => exact fun _ _ _ h => h
                    case ycx24 => (refine Or.inl ⟨by rfl, ?_⟩; intro w hSw; (try dsimp only at hSw); go_simp; first | done | with_reducible rfl)
                    try simp only [Act.put, List.setIfInBounds_toArray, List.set_cons_zero, List.set_cons_succ]
                    refine wpAnyH_take (i := 25) (oi := ?ocx25) (v := ?vcx25) ?hcx25 ?acx25 ?bcx25 ?ccx25 ?dcx25 ?ycx25 (by assumption) ?rcx25
                    case hcx25 => (simp only [List.getElem?_toArray, List.getElem?_cons_succ, List.getElem?_cons_zero]; rfl)
                    case acx25 => kernel_rfl
                    case bcx25 => kernel_rfl
                    case ccx25 => kernel_rfl
                    case dcx25 => exact fun _ _ _ h => h
                    case ycx25 => (refine Or.inl ⟨by rfl, ?_⟩; intro w hSw; (try dsimp only at hSw); go_simp; first | done | with_reducible rfl)
                    try simp only [Act.put, List.setIfInBounds_toArray, List.set_cons_zero, List.set_cons_succ]
                    refine wpAnyH_done (by kernel_rfl) ?_ _
                    refine NoPanic.normal ?_
                    go_wp2
                    go_roundw
                    case rel => exact ⟨k + 1, by omega, by go_num, (HB.out.drew.trans (b2.mono hz1)), HR2⟩
                    case measure => simp [intOf]; omega
                  · obtain ⟨j, hj⟩ : ∃ j, k = j + 1 := ⟨k - 1, by omega⟩
                    have HJ := Lib.hid hj
                    have hjn : j < n := by omega
                    have g1 : decide ((0 : Int) < (k : Int)) = true := decide_eq_true (by omega)
                    have g2 : 0 < k := by omega
                    have sm : IntKind.i64.wrap ((k : Int) - 1) = (j : Int) := by
                      have e : (k : Int) - 1 = j := by omega
                      rw [e]
                      simp only [IntKind.wrap, IntKind.signed, IntKind.bits]
                      simp
                      omega
                    obtain ⟨ad', e', z0, z1⟩ := XW.out.at_ j hjn
                    injection e' with e'
                    subst e'
                    have hsz' : (gx xs j).2.size ≤ 1000000 := HS.out.gx_ j
                    obtain ⟨d', hd'⟩ : ∃ d, (gx xs j).1 = d := ⟨_, rfl⟩
                    obtain ⟨s', hs'⟩ : ∃ s, (gx xs j).2 = s := ⟨_, rfl⟩
                    rw [hd'] at z0
                    rw [hs'] at z1 hsz'
                    obtain ⟨le, hle⟩ : ∃ x, lessIt d' s' d s = x := ⟨_, rfl⟩
                    have HLE := Lib.hid hle
                    have HRB : Hid (roundB xs k = le) := by
                      unfold roundB Hid
                      rw [HD.out, HSS.out, HI.out, decide_eq_false hk0, ← hle]
                      unfold lessX
                      rw [show k - 1 = j by omega, hd', hs', HD.out, HSS.out]
                      rfl
                    clear hd' hs' hle hj
                    cases le with
                    | false =>
                      have HE2 : Hid (replyB sl q sh sq wk ep xs = false) := by
                        unfold Hid
                        rw [HE.out, itemsB_no xs k (by rw [HL.out]; exact hlt) HRB.out]
                        rfl
                      clear hk0
                      go_wp2_with fail
                      refine wp_region_noPanic ?_
                      refine wp_region_held_drew (S := fun w' => w'.cell? ⟨w.heap.size, 6, none⟩ = some (.slice (some ad) n c) ∧ w'.cell? (ad.add (k * 2)) = some (.int .i64 d) ∧ w'.cell? ⟨(ad.add (k * 2)).block, (ad.add (k * 2)).off + 1, none⟩ = some (.string s) ∧ w'.cell? (ad.add (j * 2)) = some (.int .i64 d') ∧ w'.cell? ⟨(ad.add (j * 2)).block, (ad.add (j * 2)).off + 1, none⟩ = some (.string s')) (by kernel_rfl) ?_ (fun hHeld => ?_)
                      · exact ⟨hc6, y0, y1, z0, z1⟩
                      refine wpAnyH_take (i := 0) (oi := ?odx0) (v := ?vdx0) ?hdx0 ?adx0 ?bdx0 ?cdx0 ?ddx0 ?ydx0 (by assumption) ?rdx0
                      case hdx0 => (simp only [List.getElem?_toArray, List.getElem?_cons_succ, List.getElem?_cons_zero]; rfl)
                      case adx0 => kernel_rfl
                      case bdx0 => kernel_rfl
                      case cdx0 => kernel_rfl
                      case ddx0 => exact fun _ _ _ h => h
                      case ydx0 => (refine Or.inl ⟨by rfl, ?_⟩; intro w hSw; (try dsimp only at hSw); go_simp; first | done | with_reducible rfl)
                      try simp only [Act.put, List.setIfInBounds_toArray, List.set_cons_zero, List.set_cons_succ]
                      refine wpAnyH_take (i := 1) (oi := ?odx1) (v := ?vdx1) ?hdx1 ?adx1 ?bdx1 ?cdx1 ?ddx1 ?ydx1 (by assumption) ?rdx1
                      case hdx1 => (simp only [List.getElem?_toArray, List.getElem?_cons_succ, List.getElem?_cons_zero]; rfl)
                      case adx1 => kernel_rfl
                      case bdx1 => kernel_rfl
                      case cdx1 => kernel_rfl
                      case ddx1 => exact fun _ _ _ h => h
                      case ydx1 => (refine Or.inl ⟨by rfl, ?_⟩; intro w hSw; (try dsimp only at hSw); go_simp; first | done | with_reducible rfl)
                      try simp only [Act.put, List.setIfInBounds_toArray, List.set_cons_zero, List.set_cons_succ]
                      refine wpAnyH_take (i := 2) (oi := ?odx2) (v := ?vdx2) ?hdx2 ?adx2 ?bdx2 ?cdx2 ?ddx2 ?ydx2 (by assumption) ?rdx2
                      case hdx2 => (simp only [List.getElem?_toArray, List.getElem?_cons_succ, List.getElem?_cons_zero]; rfl)
                      case adx2 => kernel_rfl
                      case bdx2 => kernel_rfl
                      case cdx2 => kernel_rfl
                      case ddx2 => exact fun _ _ _ h => h
                      case ydx2 => (refine Or.inl ⟨by rfl, ?_⟩; intro w hSw; (try dsimp only at hSw); go_simp; first | done | with_reducible rfl)
                      try simp only [Act.put, List.setIfInBounds_toArray, List.set_cons_zero, List.set_cons_succ]
                      refine wpAnyH_take (i := 3) (oi := ?odx3) (v := ?vdx3) ?hdx3 ?adx3 ?bdx3 ?cdx3 ?ddx3 ?ydx3 (by assumption) ?rdx3
                      case hdx3 => (simp only [List.getElem?_toArray, List.getElem?_cons_succ, List.getElem?_cons_zero]; rfl)
                      case adx3 => kernel_rfl
                      case bdx3 => kernel_rfl
                      case cdx3 => kernel_rfl
                      case ddx3 => exact fun _ _ _ h => h
                      case ydx3 => (refine Or.inl ⟨by rfl, ?_⟩; intro w hSw; (try dsimp only at hSw); go_simp; first | done | with_reducible rfl)
                      try simp only [Act.put, List.setIfInBounds_toArray, List.set_cons_zero, List.set_cons_succ]
                      refine wpAnyH_take (i := 4) (oi := ?odx4) (v := ?vdx4) ?hdx4 ?adx4 ?bdx4 ?cdx4 ?ddx4 ?ydx4 (by assumption) ?rdx4
                      case hdx4 => (simp only [List.getElem?_toArray, List.getElem?_cons_succ, List.getElem?_cons_zero]; rfl)
                      case adx4 => kernel_rfl
                      case bdx4 => kernel_rfl
                      case cdx4 => kernel_rfl
                      case ddx4 => exact fun _ _ _ h => h
                      case ydx4 => (refine Or.inl ⟨by rfl, ?_⟩; intro w hSw; (try dsimp only at hSw); go_simp; first | done | with_reducible rfl)
                      try simp only [Act.put, List.setIfInBounds_toArray, List.set_cons_zero, List.set_cons_succ]
                      refine wpAnyH_ready (rs := [5]) (by kernel_rfl) (by simp) ?_
                      refine AllReadyH.cons (o := ?odx5) ?hdx5 (fun K hK => ?_) AllReadyH.nil
                      case hdx5 => (simp only [List.getElem?_toArray, List.getElem?_cons_succ, List.getElem?_cons_zero]; rfl)
                      go_simp
                      refine (refitem_any _ _ _ hsz).mono ?_; rintro e w' ⟨w2, rfl, rfl, b2⟩; rw [HI.out]
                      refine hK.out _ _ ?_ (fun hHeld => ?_)
                      · exact ⟨cell_keep hHeld.1 b2, cell_keep hHeld.2.1 b2, cell_keep hHeld.2.2.1 b2, cell_keep hHeld.2.2.2.1 b2, cell_keep hHeld.2.2.2.2 b2⟩
                      clear hK K
                      try simp only [Act.put, List.setIfInBounds_toArray, List.set_cons_zero, List.set_cons_succ]
                      refine wpAnyH_take (i := 6) (oi := ?odx6) (v := ?vdx6) ?hdx6 ?adx6 ?bdx6 ?cdx6 ?ddx6 ?ydx6 (by assumption) ?rdx6
                      case hdx6 => (simp only [List.getElem?_toArray, List.getElem?_cons_succ, List.getElem?_cons_zero]; rfl)
                      case adx6 => kernel_rfl
                      case bdx6 => kernel_rfl
                      case cdx6 => kernel_rfl
                      case ddx6 => exact fun _ _ _ h => h
                      case ydx6 => (refine Or.inl ⟨by rfl, ?_⟩; intro w hSw; (try dsimp only at hSw); go_simp; first | done | with_reducible rfl)
                      try simp only [Act.put, List.setIfInBounds_toArray, List.set_cons_zero, List.set_cons_succ]
                      refine wpAnyH_take (i := 7) (oi := ?odx7) (v := ?vdx7) ?hdx7 ?adx7 ?bdx7 ?cdx7 ?ddx7 ?ydx7 (by assumption) ?rdx7
                      case hdx7 => (simp only [List.getElem?_toArray, List.getElem?_cons_succ, List.getElem?_cons_zero]; rfl)
                      case adx7 => kernel_rfl
                      case bdx7 => kernel_rfl
                      case cdx7 => kernel_rfl
                      case ddx7 => exact fun _ _ _ h => h
                      case ydx7 => (refine Or.inl ⟨by rfl, ?_⟩; intro w hSw; (try dsimp only at hSw); go_simp; first | done | with_reducible rfl)
                      try simp only [Act.put, List.setIfInBounds_toArray, List.set_cons_zero, List.set_cons_succ]
                      refine wpAnyH_take (i := 8) (oi := ?odx8) (v := ?vdx8) ?hdx8 ?adx8 ?bdx8 ?cdx8 ?ddx8 ?ydx8 (by assumption) ?rdx8
                      case hdx8 => (simp only [List.getElem?_toArray, List.getElem?_cons_succ, List.getElem?_cons_zero]; rfl)
                      case adx8 => kernel_rfl
                      case bdx8 => kernel_rfl
                      case cdx8 => kernel_rfl
                      case ddx8 => exact fun _ _ _ h => h
                      case ydx8 => (refine Or.inl ⟨by rfl, ?_⟩; intro w hSw; (try dsimp only at hSw); go_simp; first | done | with_reducible rfl)
                      try simp only [Act.put, List.setIfInBounds_toArray, List.set_cons_zero, List.set_cons_succ]
                      refine wpAnyH_take (i := 9) (oi := ?odx9) (v := ?vdx9) ?hdx9 ?adx9 ?bdx9 ?cdx9 ?ddx9 ?ydx9 (by assumption) ?rdx9
                      case hdx9 => (simp only [List.getElem?_toArray, List.getElem?_cons_succ, List.getElem?_cons_zero]; rfl)
                      case adx9 => kernel_rfl
                      case bdx9 => kernel_rfl
                      case cdx9 => kernel_rfl
                      case ddx9 => exact fun _ _ _ h => h
                      case ydx9 => (refine Or.inl ⟨by rfl, ?_⟩; intro w hSw; (try dsimp only at hSw); go_simp; first | done | with_reducible rfl)
                      try simp only [Act.put, List.setIfInBounds_toArray, List.set_cons_zero, List.set_cons_succ]
                      refine wpAnyH_take (i := 10) (oi := ?odx10) (v := ?vdx10) ?hdx10 ?adx10 ?bdx10 ?cdx10 ?ddx10 ?ydx10 (by assumption) ?rdx10
                      case hdx10 => (simp only [List.getElem?_toArray, List.getElem?_cons_succ, List.getElem?_cons_zero]; rfl)
                      case adx10 => kernel_rfl
                      case bdx10 => kernel_rfl
                      case cdx10 => kernel_rfl
                      case ddx10 => exact fun _ _ _ h => h
                      case ydx10 => (refine Or.inl ⟨by rfl, ?_⟩; intro w hSw; (try dsimp only at hSw); go_simp; first | done | with_reducible rfl)
                      try simp only [Act.put, List.setIfInBounds_toArray, List.set_cons_zero, List.set_cons_succ]
                      refine wpAnyH_take (i := 11) (oi := ?odx11) (v := ?vdx11) ?hdx11 ?adx11 ?bdx11 ?cdx11 ?ddx11 ?ydx11 (by assumption) ?rdx11
                      case hdx11 => (simp only [List.getElem?_toArray, List.getElem?_cons_succ, List.getElem?_cons_zero]; rfl)
                      case adx11 => kernel_rfl
                      case bdx11 => kernel_rfl
                      case cdx11 => kernel_rfl
                      case ddx11 => exact fun _ _ _ h => h
                      case ydx11 => (refine Or.inl ⟨by rfl, ?_⟩; intro w hSw; (try dsimp only at hSw); go_simp; first | done | with_reducible rfl)
                      try simp only [Act.put, List.setIfInBounds_toArray, List.set_cons_zero, List.set_cons_succ]
                      refine wpAnyH_take (i := 12) (oi := ?odx12) (v := ?vdx12) ?hdx12 ?adx12 ?bdx12 ?cdx12 ?ddx12 ?ydx12 (by assumption) ?rdx12
                      case hdx12 => (simp only [List.getElem?_toArray, List.getElem?_cons_succ, List.getElem?_cons_zero]; rfl)
                      case adx12 => kernel_rfl
                      case bdx12 => kernel_rfl
                      case cdx12 => kernel_rfl
                      case ddx12 => exact fun _ _ _ h => h
                      case ydx12 => (refine Or.inl ⟨by rfl, ?_⟩; intro w hSw; (try dsimp only at hSw); go_simp; first | done | with_reducible rfl)
                      try simp only [Act.put, List.setIfInBounds_toArray, List.set_cons_zero, List.set_cons_succ]
                      refine wpAnyH_take (i := 13) (oi := ?odx13) (v := ?vdx13) ?hdx13 ?adx13 ?bdx13 ?cdx13 ?ddx13 ?ydx13 (by assumption) ?rdx13
                      case hdx13 => (simp only [List.getElem?_toArray, List.getElem?_cons_succ, List.getElem?_cons_zero]; rfl)
                      case adx13 => kernel_rfl
                      case bdx13 => kernel_rfl
                      case cdx13 => kernel_rfl
                      case ddx13 => exact fun _ _ _ h => h
                      case ydx13 => (refine Or.inl ⟨by rfl, ?_⟩; intro w hSw; (try dsimp only at hSw); go_simp; first | done | with_reducible rfl)
                      try simp only [Act.put, List.setIfInBounds_toArray, List.set_cons_zero, List.set_cons_succ]
                      refine wpAnyH_take (i := 14) (oi := ?odx14) (v := ?vdx14) ?hdx14 ?adx14 ?bdx14 ?cdx14 ?ddx14 ?ydx14 (by assumption) ?rdx14
                      case hdx14 => (simp only [List.getElem?_toArray, List.getElem?_cons_succ, List.getElem?_cons_zero]; rfl)
                      case adx14 => kernel_rfl
                      case bdx14 => kernel_rfl
                      case cdx14 => kernel_rfl
                      case ddx14 => exact fun _ _ _ h => h
                      case ydx14 => (refine Or.inl ⟨by rfl, ?_⟩; intro w hSw; (try dsimp only at hSw); go_simp; first | done | with_reducible rfl)
                      try simp only [Act.put, List.setIfInBounds_toArray, List.set_cons_zero, List.set_cons_succ]
                      refine wpAnyH_take (i := 15) (oi := ?odx15) (v := ?vdx15) ?hdx15 ?adx15 ?bdx15 ?cdx15 ?ddx15 ?ydx15 (by assumption) ?rdx15
                      case hdx15 => (simp only [List.getElem?_toArray, List.getElem?_cons_succ, List.getElem?_cons_zero]; rfl)
                      case adx15 => kernel_rfl
                      case bdx15 => kernel_rfl
                      case cdx15 => kernel_rfl
                      case ddx15 => exact fun _ _ _ h => h
                      case ydx15 => (refine Or.inl ⟨by rfl, ?_⟩; intro w hSw; (try dsimp only at hSw); go_simp; first | done | with_reducible rfl)
                      try simp only [Act.put, List.setIfInBounds_toArray, List.set_cons_zero, List.set_cons_succ]
                      refine wpAnyH_take (i := 16) (oi := ?odx16) (v := ?vdx16) ?hdx16 ?adx16 ?bdx16 ?cdx16 ?ddx16 ?ydx16 (by assumption) ?rdx16
                      case hdx16 => (simp only [List.getElem?_toArray, List.getElem?_cons_succ, List.getElem?_cons_zero]; rfl)
                      case adx16 => kernel_rfl
                      case bdx16 => kernel_rfl
                      case cdx16 => kernel_rfl
                      case ddx16 => exact fun _ _ _ h => h
                      case ydx16 => (refine Or.inl ⟨by rfl, ?_⟩; intro w hSw; (try dsimp only at hSw); go_simp; first | done | with_reducible rfl)
                      try simp only [Act.put, List.setIfInBounds_toArray, List.set_cons_zero, List.set_cons_succ]
                      refine wpAnyH_take (i := 17) (oi := ?odx17) (v := ?vdx17) ?hdx17 ?adx17 ?bdx17 ?cdx17 ?ddx17 ?ydx17 (by assumption) ?rdx17
                      case hdx17 => (simp only [List.getElem?_toArray, List.getElem?_cons_succ, List.getElem?_cons_zero]; rfl)
                      case adx17 => kernel_rfl
                      case bdx17 => kernel_rfl
                      case cdx17 => kernel_rfl
                      case ddx17 => exact fun _ _ _ h => h
                      case ydx17 => (refine Or.inl ⟨by rfl, ?_⟩; intro w hSw; (try dsimp only at hSw); go_simp; first | done | with_reducible rfl)
                      try simp only [Act.put, List.setIfInBounds_toArray, List.set_cons_zero, List.set_cons_succ]
                      refine wpAnyH_take (i := 18) (oi := ?odx18) (v := ?vdx18) ?hdx18 ?adx18 ?bdx18 ?cdx18 ?ddx18 ?ydx18 (by assumption) ?rdx18
                      case hdx18 => (simp only [List.getElem?_toArray, List.getElem?_cons_succ, List.getElem?_cons_zero]; rfl)
                      case adx18 => kernel_rfl
                      case bdx18 => kernel_rfl
                      case cdx18 => kernel_rfl
                      case ddx18 => exact fun _ _ _ h => h
                      case ydx18 => (refine Or.inl ⟨by rfl, ?_⟩; intro w hSw; (try dsimp only at hSw); go_simp; first | done | with_reducible rfl)
                      try simp only [Act.put, List.setIfInBounds_toArray, List.set_cons_zero, List.set_cons_succ]
                      refine wpAnyH_take (i := 19) (oi := ?odx19) (v := ?vdx19) ?hdx19 ?adx19 ?bdx19 ?cdx19 ?ddx19 ?ydx19 (by assumption) ?rdx19
                      case hdx19 => (simp only [List.getElem?_toArray, List.getElem?_cons_succ, List.getElem?_cons_zero]; rfl)
                      case adx19 => kernel_rfl
                      case bdx19 => kernel_rfl
                      case cdx19 => kernel_rfl
                      case ddx19 => exact fun _ _ _ h => h
                      case ydx19 => (refine Or.inl ⟨by rfl, ?_⟩; intro w hSw; (try dsimp only at hSw); go_simp; first | done | with_reducible rfl)
                      try simp only [Act.put, List.setIfInBounds_toArray, List.set_cons_zero, List.set_cons_succ]
                      refine wpAnyH_take (i := 20) (oi := ?odx20) (v := ?vdx20) ?hdx20 ?adx20 ?bdx20 ?cdx20 ?ddx20 ?ydx20 (by assumption) ?rdx20
                      case hdx20 => (simp only [List.getElem?_toArray, List.getElem?_cons_succ, List.getElem?_cons_zero]; rfl)
                      case adx20 => kernel_rfl
                      case bdx20 => kernel_rfl
                      case cdx20 => kernel_rfl
                      case ddx20 => exact fun _ _ _ h => h
                      case ydx20 => (refine Or.inl ⟨by rfl, ?_⟩; intro w hSw; (try dsimp only at hSw); go_simp; first | done | with_reducible rfl)
                      try simp only [Act.put, List.setIfInBounds_toArray, List.set_cons_zero, List.set_cons_succ]
                      refine wpAnyH_take (i := 21) (oi := ?odx21) (v := ?vdx21) ?hdx21 ?adx21 ?bdx21 ?cdx21 ?ddx21 ?ydx21 (by assumption) ?rdx21
                      case hdx21 => (simp only [List.getElem?_toArray, List.getElem?_cons_succ, List.getElem?_cons_zero]; rfl)
                      case adx21 => kernel_rfl
                      case bdx21 => kernel_rfl
                      case cdx21 => kernel_rfl
                      case ddx21 => exact fun _ _ _ h => h
                      case ydx21 => (refine Or.inl ⟨by rfl, ?_⟩; intro w hSw; (try dsimp only at hSw); go_simp; first | done | with_reducible rfl)
                      try simp only [Act.put, List.setIfInBounds_toArray, List.set_cons_zero, List.set_cons_succ]
                      refine wpAnyH_ready (rs := [22]) (by kernel_rfl) (by simp) ?_
                      refine AllReadyH.cons (o := ?odx22) ?hdx22 (fun K hK => ?_) AllReadyH.nil
                      case hdx22 => (simp only [List.getElem?_toArray, List.getElem?_cons_succ, List.getElem?_cons_zero]; rfl)
                      go_simp
                      refine (refLess_any _ _ _ _ _ (Nat.le_trans hsz' (by omega)) (Nat.le_trans hsz (by omega))).mono ?_; rintro e w' ⟨w3, rfl, rfl, b3⟩; rw [HLE.out]
                      refine hK.out _ _ ?_ (fun hHeld => ?_)
                      · exact ⟨cell_keep hHeld.1 b3, cell_keep hHeld.2.1 b3, cell_keep hHeld.2.2.1 b3, cell_keep hHeld.2.2.2.1 b3, cell_keep hHeld.2.2.2.2 b3⟩
                      clear hK K
                      try simp only [Act.put, List.setIfInBounds_toArray, List.set_cons_zero, List.set_cons_succ]
                      refine wpAnyH_take (i := 23) (oi := ?odx23) (v := ?vdx23) ?hdx23 ?adx23 ?bdx23 ?cdx23 ?ddx23 ?ydx23 (by assumption) ?rdx23
                      case hdx23 => (simp only [List.getElem?_toArray, List.getElem?_cons_succ, List.getElem?_cons_zero]; rfl)
                      case adx23 => kernel_rfl
                      case bdx23 => kernel_rfl
                      case cdx23 => kernel_rfl
                      case ddx23 => exact fun _ _ _ h => h
                      case ydx23 => (refine Or.inl ⟨by rfl, ?_⟩; intro w hSw; (try dsimp only at hSw); go_simp; first | done | with_reducible rfl)
                      try simp only [Act.put, List.setIfInBounds_toArray, List.set_cons_zero, List.set_cons_succ]
                      refine wpAnyH_take (i := 24) (oi := ?odx24) (v := ?vdx24) ?hdx24 ?adx24 ?bdx24 ?cdx24 ?ddx24 ?ydx24 (by assumption) ?rdx24
                      case hdx24 => (simp only [List.getElem?_toArray, List.getElem?_cons_succ, List.getElem?_cons_zero]; rfl)
                      case adx24 => kernel_rfl
                      case bdx24 => kernel_rfl
                      case cdx24 => kernel_rfl
                      case ddx24 => exact fun _ _ _ h => h
                      case ydx24 => (refine Or.inl ⟨by rfl, ?_⟩; intro w hSw; (try dsimp only at hSw); go_simp; first | done | with_reducible rfl)
                      try simp only [Act.put, List.setIfInBounds_toArray, List.set_cons_zero, List.set_cons_succ]
                      refine wpAnyH_take (i := 25) (oi := ?odx25) (v := ?vdx25) ?hdx25 ?adx25 ?bdx25 ?cdx25 ?ddx25 ?ydx25 (by assumption) ?rdx25
                      case hdx25 => (simp only [List.getElem?_toArray, List.getElem?_cons_succ, List.getElem?_cons_zero]; rfl)
                      case adx25 => kernel_rfl
                      case bdx25 => kernel_rfl
                      case cdx25 => kernel_rfl
                      case ddx25 => exact fun _ _ _ h => h
                      case ydx25 => (refine Or.inl ⟨by rfl, ?_⟩; intro w hSw; (try dsimp only at hSw); go_simp; first | done | with_reducible rfl)
                      try simp only [Act.put, List.setIfInBounds_toArray, List.set_cons_zero, List.set_cons_succ]
                      refine wpAnyH_done (by kernel_rfl) ?_ _
                      refine NoPanic.normal ?_
                      go_wp2
                      go_ret
                      exact ⟨_, by rw [HE2.out]; rfl, rfl, (HB0.out.trans (((HB.out.drew.trans (b2.mono hz1)).trans (b3.mono (Nat.le_trans hz1 b2.size))).mono (by simp)))⟩
                    | true =>
                      have HR2 : Hid ((List.range (k + 1)).all (roundB xs) = true) := by
                        unfold Hid
                        rw [range_all, HR.out, HRB.out]
                        rfl
                      clear hk0
                      go_wp2_with fail
                      refine wp_region_noPanic ?_
                      refine wp_region_held_drew (S := fun w' => w'.cell? ⟨w.heap.size, 6, none⟩ = some (.slice (some ad) n c) ∧ w'.cell? (ad.add (k * 2)) = some (.int .i64 d) ∧ w'.cell? ⟨(ad.add (k * 2)).block, (ad.add (k * 2)).off + 1, none⟩ = some (.string s) ∧ w'.cell? (ad.add (j * 2)) = some (.int .i64 d') ∧ w'.cell? ⟨(ad.add (j * 2)).block, (ad.add (j * 2)).off + 1, none⟩ = some (.string s')) (by kernel_rfl) ?_ (fun hHeld => ?_)
                      · exact ⟨hc6, y0, y1, z0, z1⟩
                      refine wpAnyH_take (i := 0) (oi := ?oex0) (v := ?vex0) ?hex0 ?aex0 ?bex0 ?cex0 ?dex0 ?yex0 (by assumption) ?rex0
                      case hex0 => (simp only [List.getElem?_toArray, List.getElem?_cons_succ, List.getElem?_cons_zero]; rfl)
                      case aex0 => kernel_rfl
                      case bex0 => kernel_rfl
                      case cex0 => kernel_rfl
                      case dex0 => exact fun _ _ _ h => h
                      case yex0 => (refine Or.inl ⟨by rfl, ?_⟩; intro w hSw; (try dsimp only at hSw); go_simp; first | done | with_reducible rfl)
                      try simp only [Act.put, List.setIfInBounds_toArray, List.set_cons_zero, List.set_cons_succ]
                      refine wpAnyH_take (i := 1) (oi := ?oex1) (v := ?vex1) ?hex1 ?aex1 ?bex1 ?cex1 ?dex1 ?yex1 (by assumption) ?rex1
                      case hex1 => (simp only [List.getElem?_toArray, List.getElem?_cons_succ, List.getElem?_cons_zero]; rfl)
                      case aex1 => kernel_rfl
                      case bex1 => kernel_rfl
                      case cex1 => kernel_rfl
                      case dex1 => exact fun _ _ _ h => h
                      case yex1 => (refine Or.inl ⟨by rfl, ?_⟩; intro w hSw; (try dsimp only at hSw); go_simp; first | done | with_reducible rfl)
                      try simp only [Act.put, List.setIfInBounds_toArray, List.set_cons_zero, List.set_cons_succ]
                      refine wpAnyH_take (i := 2) (oi := ?oex2) (v := ?vex2) ?hex2 ?aex2 ?bex2 ?cex2 ?dex2 ?yex2 (by assumption) ?rex2
                      case hex2 => (simp only [List.getElem?_toArray, List.getElem?_cons_succ, List.getElem?_cons_zero]; rfl)
                      case aex2 => kernel_rfl
                      case bex2 => kernel_rfl
                      case cex2 => kernel_rfl
                      case dex2 => exact fun _ _ _ h => h
                      case yex2 => (refine Or.inl ⟨by rfl, ?_⟩; intro w hSw; (try dsimp only at hSw); go_simp; first | done | with_reducible rfl)
                      try simp only [Act.put, List.setIfInBounds_toArray, List.set_cons_zero, List.set_cons_succ]
                      refine wpAnyH_take (i := 3) (oi := ?oex3) (v := ?vex3) ?hex3 ?aex3 ?bex3 ?cex3 ?dex3 ?yex3 (by assumption) ?rex3
                      case hex3 => (simp only [List.getElem?_toArray, List.getElem?_cons_succ, List.getElem?_cons_zero]; rfl)
                      case aex3 => kernel_rfl
                      case bex3 => kernel_rfl
                      case cex3 => kernel_rfl
                      case dex3 => exact fun _ _ _ h => h
                      case yex3 => (refine Or.inl ⟨by rfl, ?_⟩; intro w hSw; (try dsimp only at hSw); go_simp; first | done | with_reducible rfl)
                      try simp only [Act.put, List.setIfInBounds_toArray, List.set_cons_zero, List.set_cons_succ]
                      refine wpAnyH_take (i := 4) (oi := ?oex4) (v := ?vex4) ?hex4 ?aex4 ?bex4 ?cex4 ?dex4 ?yex4 (by assumption) ?rex4
                      case hex4 => (simp only [List.getElem?_toArray, List.getElem?_cons_succ, List.getElem?_cons_zero]; rfl)
                      case aex4 => kernel_rfl
                      case bex4 => kernel_rfl
                      case cex4 => kernel_rfl
                      case dex4 => exact fun _ _ _ h => h
                      case yex4 => (refine Or.inl ⟨by rfl, ?_⟩; intro w hSw; (try dsimp only at hSw); go_simp; first | done | with_reducible rfl)
                      try simp only [Act.put, List.setIfInBounds_toArray, List.set_cons_zero, List.set_cons_succ]
                      refine wpAnyH_ready (rs := [5]) (by kernel_rfl) (by simp) ?_
                      refine AllReadyH.cons (o := ?oex5) ?hex5 (fun K hK => ?_) AllReadyH.nil
                      case hex5 => (simp only [List.getElem?_toArray, List.getElem?_cons_succ, List.getElem?_cons_zero]; rfl)
                      go_simp
                      refine (refitem_any _ _ _ hsz).mono ?_; rintro e w' ⟨w2, rfl, rfl, b2⟩; rw [HI.out]
                      refine hK.out _ _ ?_ (fun hHeld => ?_)
                      · exact ⟨cell_keep hHeld.1 b2, cell_keep hHeld.2.1 b2, cell_keep hHeld.2.2.1 b2, cell_keep hHeld.2.2.2.1 b2, cell_keep hHeld.2.2.2.2 b2⟩
                      clear hK K
                      try simp only [Act.put, List.setIfInBounds_toArray, List.set_cons_zero, List.set_cons_succ]
                      refine wpAnyH_take (i := 6) (oi := ?oex6) (v := ?vex6) ?hex6 ?aex6 ?bex6 ?cex6 ?dex6 ?yex6 (by assumption) ?rex6
                      case hex6 => (simp only [List.getElem?_toArray, List.getElem?_cons_succ, List.getElem?_cons_zero]; rfl)
                      case aex6 => kernel_rfl
                      case bex6 => kernel_rfl
                      case cex6 => kernel_rfl
                      case dex6 => exact fun _ _ _ h => h
                      case yex6 => (refine Or.inl ⟨by rfl, ?_⟩; intro w hSw; (try dsimp only at hSw); go_simp; first | done | with_reducible rfl)
                      try simp only [Act.put, List.setIfInBounds_toArray, List.set_cons_zero, List.set_cons_succ]
                      refine wpAnyH_take (i := 7) (oi := ?oex7) (v := ?vex7) ?hex7 ?aex7 ?bex7 ?cex7 ?dex7 ?yex7 (by assumption) ?rex7
                      case hex7 => (simp only [List.getElem?_toArray, List.getElem?_cons_succ, List.getElem?_cons_zero]; rfl)
                      case aex7 => kernel_rfl
                      case bex7 => kernel_rfl
                      case cex7 => kernel_rfl
                      case dex7 => exact fun _ _ _ h => h
                      case yex7 => (refine Or.inl ⟨by rfl, ?_⟩; intro w hSw; (try dsimp only at hSw); go_simp; first | done | with_reducible rfl)
                      try simp only [Act.put, List.setIfInBounds_toArray, List.set_cons_zero, List.set_cons_succ]
                      refine wpAnyH_take (i := 8) (oi := ?oex8) (v := ?vex8) ?hex8 ?aex8 ?bex8 ?cex8 ?dex8 ?yex8 (by assumption) ?rex8
                      case hex8 => (simp only [List.getElem?_toArray, List.getElem?_cons_succ, List.getElem?_cons_zero]; rfl)
                      case aex8 => kernel_rfl
                      case bex8 => kernel_rfl
                      case cex8 => kernel_rfl
                      case dex8 => exact fun _ _ _ h => h
                      case yex8 => (refine Or.inl ⟨by rfl, ?_⟩; intro w hSw; (try dsimp only at hSw); go_simp; first | done | with_reducible rfl)
                      try simp only [Act.put, List.setIfInBounds_toArray, List.set_cons_zero, List.set_cons_succ]
                      refine wpAnyH_take (i := 9) (oi := ?oex9) (v := ?vex9) ?hex9 ?aex9 ?bex9 ?cex9 ?dex9 ?yex9 (by assumption) ?rex9
                      case hex9 => (simp only [List.getElem?_toArray, List.getElem?_cons_succ, List.getElem?_cons_zero]; rfl)
                      case aex9 => kernel_rfl
                      case bex9 => kernel_rfl
                      case cex9 => kernel_rfl
                      case dex9 => exact fun _ _ _ h => h
                      case yex9 => (refine Or.inl ⟨by rfl, ?_⟩; intro w hSw; (try dsimp only at hSw); go_simp; first | done | with_reducible rfl)
                      try simp only [Act.put, List.setIfInBounds_toArray, List.set_cons_zero, List.set_cons_succ]
                      refine wpAnyH_take (i := 10) (oi := ?oex10) (v := ?vex10) ?hex10 ?aex10 ?bex10 ?cex10 ?dex10 ?yex10 (by assumption) ?rex10
                      case hex10 => (simp only [List.getElem?_toArray, List.getElem?_cons_succ, List.getElem?_cons_zero]; rfl)
                      case aex10 => kernel_rfl
                      case bex10 => kernel_rfl
                      case cex10 => kernel_rfl
                      case dex10 => exact fun _ _ _ h => h
                      case yex10 => (refine Or.inl ⟨by rfl, ?_⟩; intro w hSw; (try dsimp only at hSw); go_simp; first | done | with_reducible rfl)
                      try simp only [Act.put, List.setIfInBounds_toArray, List.set_cons_zero, List.set_cons_succ]
                      refine wpAnyH_take (i := 11) (oi := ?oex11) (v := ?vex11) ?hex11 ?aex11 ?bex11 ?cex11 ?dex11 ?yex11 (by assumption) ?rex11
                      case hex11 => (simp only [List.getElem?_toArray, List.getElem?_cons_succ, List.getElem?_cons_zero]; rfl)
                      case aex11 => kernel_rfl
                      case bex11 => kernel_rfl
                      case cex11 => kernel_rfl
                      case dex11 => exact fun _ _ _ h => h
                      case yex11 => (refine Or.inl ⟨by rfl, ?_⟩; intro w hSw; (try dsimp only at hSw); go_simp; first | done | with_reducible rfl)
                      try simp only [Act.put, List.setIfInBounds_toArray, List.set_cons_zero, List.set_cons_succ]
                      refine wpAnyH_take (i := 12) (oi := ?oex12) (v := ?vex12) ?hex12 ?aex12 ?bex12 ?cex12 ?dex12 ?yex12 (by assumption) ?rex12
                      case hex12 => (simp only [List.getElem?_toArray, List.getElem?_cons_succ, List.getElem?_cons_zero]; rfl)
                      case aex12 => kernel_rfl
                      case bex12 => kernel_rfl
                      case cex12 => kernel_rfl
                      case dex12 => exact fun _ _ _ h => h
                      case yex12 => (refine Or.inl ⟨by rfl, ?_⟩; intro w hSw; (try dsimp only at hSw); go_simp; first | done | with_reducible rfl)
                      try simp only [Act.put, List.setIfInBounds_toArray, List.set_cons_zero, List.set_cons_succ]
                      refine wpAnyH_take (i := 13) (oi := ?oex13) (v := ?vex13) ?hex13 ?aex13 ?bex13 ?cex13 ?dex13 ?yex13 (by assumption) ?rex13
                      case hex13 => (simp only [List.getElem?_toArray, List.getElem?_cons_succ, List.getElem?_cons_zero]; rfl)
                      case aex13 => kernel_rfl
                      case bex13 => kernel_rfl
                      case cex13 => kernel_rfl
                      case dex13 => exact fun _ _ _ h => h
                      case yex13 => (refine Or.inl ⟨by rfl, ?_⟩; intro w hSw; (try dsimp only at hSw); go_simp; first | done | with_reducible rfl)
                      try simp only [Act.put, List.setIfInBounds_toArray, List.set_cons_zero, List.set_cons_succ]
                      refine wpAnyH_take (i := 14) (oi := ?oex14) (v := ?vex14) ?hex14 ?aex14 ?bex14 ?cex14 ?dex14 ?yex14 (by assumption) ?rex14
                      case hex14 => (simp only [List.getElem?_toArray, List.getElem?_cons_succ, List.getElem?_cons_zero]; rfl)
                      case aex14 => kernel_rfl
                      case bex14 => kernel_rfl
                      case cex14 => kernel_rfl
                      case dex14 => exact fun _ _ _ h => h
                      case yex14 => (refine Or.inl ⟨by rfl, ?_⟩; intro w hSw; (try dsimp only at hSw); go_simp; first | done | with_reducible rfl)
                      try simp only [Act.put, List.setIfInBounds_toArray, List.set_cons_zero, List.set_cons_succ]
                      refine wpAnyH_take (i := 15) (oi := ?oex15) (v := ?vex15) ?hex15 ?aex15 ?bex15 ?cex15 ?dex15 ?yex15 (by assumption) ?rex15
                      case hex15 => (simp only [List.getElem?_toArray, List.getElem?_cons_succ, List.getElem?_cons_zero]; rfl)
                      case aex15 => kernel_rfl
                      case bex15 => kernel_rfl
                      case cex15 => kernel_rfl
                      case dex15 => exact fun _ _ _ h => h
                      case yex15 => (refine Or.inl ⟨by rfl, ?_⟩; intro w hSw; (try dsimp only at hSw); go_simp; first | done | with_reducible rfl)
                      try simp only [Act.put, List.setIfInBounds_toArray, List.set_cons_zero, List.set_cons_succ]
                      refine wpAnyH_take (i := 16) (oi := ?oex16) (v := ?vex16) ?hex16 ?aex16 ?bex16 ?cex16 ?dex16 ?yex16 (by assumption) ?rex16
                      case hex16 => (simp only [List.getElem?_toArray, List.getElem?_cons_succ, List.getElem?_cons_zero]; rfl)
                      case aex16 => kernel_rfl
                      case bex16 => kernel_rfl
                      case cex16 => kernel_rfl
                      case dex16 => exact fun _ _ _ h => h
                      case yex16 => (refine Or.inl ⟨by rfl, ?_⟩; intro w hSw; (try dsimp only at hSw); go_simp; first | done | with_reducible rfl)
                      try simp only [Act.put, List.setIfInBounds_toArray, List.set_cons_zero, List.set_cons_succ]
                      refine wpAnyH_take (i := 17) (oi := ?oex17) (v := ?vex17) ?hex17 ?aex17 ?bex17 ?cex17 ?dex17 ?yex17 (by assumption) ?rex17
                      case hex17 => (simp only [List.getElem?_toArray, List.getElem?_cons_succ, List.getElem?_cons_zero]; rfl)
                      case aex17 => kernel_rfl
                      case bex17 => kernel_rfl
                      case cex17 => kernel_rfl
                      case dex17 => exact fun _ _ _ h => h
                      case yex17 => (refine Or.inl ⟨by rfl, ?_⟩; intro w hSw; (try dsimp only at hSw); go_simp; first | done | with_reducible rfl)
                      try simp only [Act.put, List.setIfInBounds_toArray, List.set_cons_zero, List.set_cons_succ]
                      refine wpAnyH_take (i := 18) (oi := ?oex18) (v := ?vex18) ?hex18 ?aex18 ?bex18 ?cex18 ?dex18 ?yex18 (by assumption) ?rex18
                      case hex18 => (simp only [List.getElem?_toArray, List.getElem?_cons_succ, List.getElem?_cons_zero]; rfl)
                      case aex18 => kernel_rfl
                      case bex18 => kernel_rfl
                      case cex18 => kernel_rfl
                      case dex18 => exact fun _ _ _ h => h
                      case yex18 => (refine Or.inl ⟨by rfl, ?_⟩; intro w hSw; (try dsimp only at hSw); go_simp; first | done | with_reducible rfl)
                      try simp only [Act.put, List.setIfInBounds_toArray, List.set_cons_zero, List.set_cons_succ]
                      refine wpAnyH_take (i := 19) (oi := ?oex19) (v := ?vex19) ?hex19 ?aex19 ?bex19 ?cex19 ?dex19 ?yex19 (by assumption) ?rex19
                      case hex19 => (simp only [List.getElem?_toArray, List.getElem?_cons_succ, List.getElem?_cons_zero]; rfl)
                      case aex19 => kernel_rfl
                      case bex19 => kernel_rfl
                      case cex19 => kernel_rfl
                      case dex19 => exact fun _ _ _ h => h
                      case yex19 => (refine Or.inl ⟨by rfl, ?_⟩; intro w hSw; (try dsimp only at hSw); go_simp; first | done | with_reducible rfl)
                      try simp only [Act.put, List.setIfInBounds_toArray, List.set_cons_zero, List.set_cons_succ]
                      refine wpAnyH_take (i := 20) (oi := ?oex20) (v := ?vex20) ?hex20 ?aex20 ?bex20 ?cex20 ?dex20 ?yex20 (by assumption) ?rex20
                      case hex20 => (simp only [List.getElem?_toArray, List.getElem?_cons_succ, List.getElem?_cons_zero]; rfl)
                      case aex20 => kernel_rfl
                      case bex20 => kernel_rfl
                      case cex20 => kernel_rfl
                      case dex20 => exact fun _ _ _ h => h
                      case yex20 => (refine Or.inl ⟨by rfl, ?_⟩; intro w hSw; (try dsimp only at hSw); go_simp; first | done | with_reducible rfl)
                      try simp only [Act.put, List.setIfInBounds_toArray, List.set_cons_zero, List.set_cons_succ]
                      refine wpAnyH_take (i := 21) (oi := ?oex21) (v := ?vex21) ?hex21 ?aex21 ?bex21 ?cex21 ?dex21 ?yex21 (by assumption) ?rex21
                      case hex21 => (simp only [List.getElem?_toArray, List.getElem?_cons_succ, List.getElem?_cons_zero]; rfl)
                      case aex21 => kernel_rfl
                      case bex21 => kernel_rfl
                      case cex21 => kernel_rfl
                      case dex21 => exact fun _ _ _ h => h
                      case yex21 => (refine Or.inl ⟨by rfl, ?_⟩; intro w hSw; (try dsimp only at hSw); go_simp; first | done | with_reducible rfl)
                      try simp only [Act.put, List.setIfInBounds_toArray, List.set_cons_zero, List.set_cons_succ]
                      refine wpAnyH_ready (rs := [22]) (by kernel_rfl) (by simp) ?_
                      refine AllReadyH.cons (o := ?oex22) ?hex22 (fun K hK => ?_) AllReadyH.nil
                      case hex22 => (simp only [List.getElem?_toArray, List.getElem?_cons_succ, List.getElem?_cons_zero]; rfl)
                      go_simp
                      refine (refLess_any _ _ _ _ _ (Nat.le_trans hsz' (by omega)) (Nat.le_trans hsz (by omega))).mono ?_; rintro e w' ⟨w3, rfl, rfl, b3⟩; rw [HLE.out]
                      refine hK.out _ _ ?_ (fun hHeld => ?_)
                      · exact ⟨cell_keep hHeld.1 b3, cell_keep hHeld.2.1 b3, cell_keep hHeld.2.2.1 b3, cell_keep hHeld.2.2.2.1 b3, cell_keep hHeld.2.2.2.2 b3⟩
                      clear hK K
                      try simp only [Act.put, List.setIfInBounds_toArray, List.set_cons_zero, List.set_cons_succ]
                      refine wpAnyH_take (i := 23) (oi := ?oex23) (v := ?vex23) ?hex23 ?aex23 ?bex23 ?cex23 ?dex23 ?yex23 (by assumption) ?rex23
                      case hex23 => (simp only [List.getElem?_toArray, List.getElem?_cons_succ, List.getElem?_cons_zero]; rfl)
                      case aex23 => kernel_rfl
                      case bex23 => kernel_rfl
                      case cex23 => kernel_rfl
                      case dex23 => exact fun _ _ _ h => h
                      case yex23 => (refine Or.inl ⟨by rfl, ?_⟩; intro w hSw; (try dsimp only at hSw); go_simp; first | done | with_reducible rfl)
                      try simp only [Act.put, List.setIfInBounds_toArray, List.set_cons_zero, List.set_cons_succ]
                      refine wpAnyH_take (i := 24) (oi := ?oex24) (v := ?vex24) ?hex24 ?aex24 ?bex24 ?cex24 ?dex24 ?yex24 (by assumption) ?rex24
                      case hex24 => (simp only [List.getElem?_toArray, List.getElem?_cons_succ, List.getElem?_cons_zero]; rfl)
                      case aex24 => kernel_rfl
                      case bex24 => kernel_rfl
                      case cex24 => kernel_rfl
                      case dex24 => exact fun _ _ _ h => h
                      case yex24 => (refine Or.inl ⟨by rfl, ?_⟩; intro w hSw; (try dsimp only at hSw); go_simp; first | done | with_reducible rfl)
                      try simp only [Act.put, List.setIfInBounds_toArray, List.set_cons_zero, List.set_cons_succ]
                      refine wpAnyH_take (i := 25) (oi := ?oex25) (v := ?vex25) ?hex25 ?aex25 ?bex25 ?cex25 ?dex25 ?yex25 (by assumption) ?rex25
                      case hex25 => (simp only [List.getElem?_toArray, List.getElem?_cons_succ, List.getElem?_cons_zero]; rfl)
                      case aex25 => kernel_rfl
                      case bex25 => kernel_rfl
                      case cex25 => kernel_rfl
                      case dex25 => exact fun _ _ _ h => h
                      case yex25 => (refine Or.inl ⟨by rfl, ?_⟩; intro w hSw; (try dsimp only at hSw); go_simp; first | done | with_reducible rfl)
                      try simp only [Act.put, List.setIfInBounds_toArray, List.set_cons_zero, List.set_cons_succ]
                      refine wpAnyH_done (by kernel_rfl) ?_ _
                      refine NoPanic.normal ?_
                      go_wp2
                      go_roundw
                      case rel => exact ⟨k + 1, by omega, by go_num, ((HB.out.drew.trans (b2.mono hz1)).trans (b3.mono (Nat.le_trans hz1 b2.size))), HR2⟩
                      case measure => simp [intOf]; omega
              · obtain rfl : k = n := by omega
                have HIT : Hid (replyB sl q sh sq wk ep xs = true) := by
                  unfold Hid
                  rw [HE.out]
                  unfold itemsB
                  rw [HL.out, HR.out]
                  simp [h5]
                have HB1 : Hid (Below w.heap.size w wr) := HB0.out.trans (HB.out.mono (by simp))
                go_wp2
                go_ret
                exact ⟨_, by rw [HIT.out]; rfl, rfl, HB1.out⟩
          · have h5' : decide ((5 : Int) < (n : Int)) = true := decide_eq_true (by omega)
            go_enter Try.func52, Try.ntmps52
            go_wp2_with (first
              | (go_at_call 50; (with_reducible refine (nums_any _ _ _ [q, sq, ep] _ R0.out).mono ?_); rintro e w' ⟨rfl, rfl⟩; rw [HW.out])
              | (go_at_call 49; (with_reducible refine (in_any sl _ _ _).mono ?_); rintro e w' ⟨rfl, rfl⟩; rw [H1.out])
              | (go_at_call 49; (with_reducible refine (in_any sh _ _ _).mono ?_); rintro e w' ⟨rfl, rfl⟩; rw [H2.out])
              | (go_at_call 49; (with_reducible refine (in_any wk _ _ _).mono ?_); rintro e w' ⟨rfl, rfl⟩; rw [H3.out]))
            go_ret
            exact ⟨_, by rw [HE.out]; first | (simp [h5]; done) | (simp [h5]; rfl), rfl, HB0.out⟩
end Go.Proofs.Ytajhkjikcgfhdaa
