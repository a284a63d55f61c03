/-
  The walk of timer's Due.
-/
import Derived.Test.YtkjjdbbogfjdlaaTimer3
import Derived.Test.YtkjjdbbogfjdlaaInts
namespace Go.Proofs.Ytkjjdbbogfjdlaa
set_option linter.unusedVariables false
set_option linter.unusedSimpArgs false
open Go.RowKit
theorem ivals_append (l k : List Int) : ivals (l ++ k) = ivals l ++ ivals k := by simp [ivals]
/-- Those that are due: popped one by one; n is how many there are. -/
def dueL : Nat → List P2 → Int → List Int
  | 0, _, _ => []
  | n + 1, xs, now => if now < (gp (hpop0 xs n) n).1 then [] else (gp (hpop0 xs n) n).2 :: dueL n ((hpop0 xs n).take n) now
theorem info_int : (Try.prog.info? 3).map (fun i => (i.zero, i.size, i.bytes)) = some (some (.int .i64 0), 1, 8) := by kernel_rfl
theorem Moved.below_ {B g : Nat} {v v2 : Value} {w w2 : World} (h : Moved g v v2 w w2) (hB : B ≤ w.heap.size) (hg : B ≤ g) (hv : ∀ k, v.ownBlock = some k → B ≤ k) : Below B w w2 :=
  ⟨h.os, h.tape, h.output, h.size, fun k hk => h.block k (by omega) (by omega) (fun e => by have := hv k e; omega)⟩
theorem own_own_ne {w : World} {b1 b2 : Nat} {e1 e2 : TypeId} {s1 s2 n1 n2 : Nat} {v1 v2 : Value} {x1 x2 : List Value} (h1 : w.ownsRow b1 e1 s1 v1 n1 x1) (h2 : w.ownsRow b2 e2 s2 v2 n2 x2) (hne : e1 ≠ e2) (k : Nat) (hk : v1.ownBlock = some k) : v2.ownBlock ≠ some k := by
  rcases h1.2 with ⟨rfl, _⟩ | ⟨g', cap, cur, rfl, _, hh, _⟩
  · simp [Value.ownBlock] at hk
  · have : g' = k := by simpa [Value.ownBlock] using hk
    subst this
    exact own_blk_ne h2 hh (Ne.symm hne)
/-- A row that no Push, Pop .. of another list has touched. -/
theorem row_moved {w w2 : World} {base g : Nat} {e : TypeId} {size n : Nat} {v v2 l : Value} {xs : List Value} (h : w.ownsRow base e size l n xs) (hm : Moved g v v2 w w2) (h1 : l.ownBlock ≠ some g) (h2 : ∀ k, l.ownBlock = some k → v.ownBlock ≠ some k) : w2.ownsRow base e size l n xs := by
  refine ⟨h.1, ?_⟩
  rcases h.2 with q | ⟨g', cap, cur, rfl, hb, hh, hr⟩
  · exact .inl q
  · refine .inr ⟨g', cap, cur, rfl, hb, ?_, hr⟩
    rw [hm.block g' ?_ ?_ (h2 g' rfl)]
    · exact hh
    · rcases Nat.lt_or_ge g' w.heap.size with hlt | hge
      · exact hlt
      · rw [Array.getElem?_eq_none hge] at hh; cases hh
    · intro e
      subst e
      exact h1 rfl
theorem own_zero {w : World} {base : Nat} {e : TypeId} {size n : Nat} {v : Value} {xs : List Value} (h : w.ownsRow base e size v n xs) : w.ownsRow 0 e size v n xs := by
  refine ⟨h.1, ?_⟩
  rcases h.2 with q | ⟨g', cap, cur, e, _, hr⟩
  · exact .inl q
  · exact .inr ⟨g', cap, cur, e, Nat.zero_le _, hr⟩
theorem own_base {w : World} {base : Nat} {e : TypeId} {size n : Nat} {v : Value} {xs : List Value} (h : w.ownsRow base e size v n xs) (c : Nat) (hc : v.ownBlock = some c) : base ≤ c := by
  rcases h.2 with ⟨rfl, _⟩ | ⟨g', cap, cur, rfl, hb, _⟩
  · simp [Value.ownBlock] at hc
  · have : g' = c := by simpa [Value.ownBlock] using hc
    omega
structure DInv (w wr : World) (rb k : Nat) (v l : Value) (ys xs : List P2) (dn : List Int) (now : Int) : Prop where
  hp : HeapAt wr rb 0 54 #[v] v ys
  base : ∀ c, v.ownBlock = some c → w.heap.size ≤ c
  len : ys.length = k
  dnl : dn.length + k ≤ 1000
  lrow : wr.ownsRow w.heap.size 3 1 l dn.length (ivals dn)
  bel : Below w.heap.size w wr
  rbb : w.heap.size ≤ rb
  eq : dn ++ dueL k ys now = dueL xs.length xs now
theorem set0 (v x : Value) : (#[v] : Array Value).setIfInBounds 0 x = #[x] := rfl
/-- What stands behind a Pop of Due's. -/
theorem DInv.popped {w wr w2 : World} {rb b k cap : Nat} {l : Value} {ys xs : List P2} {dn : List Int} {now : Int} (h : DInv w wr rb (k + 1) (.slice (some ⟨b, 0, none⟩) (k + 1) cap) l ys xs dn now)
    (hp : HeapAt w2 rb 0 54 ((#[.slice (some ⟨b, 0, none⟩) (k + 1) cap] : Array Value).setIfInBounds 0 (.slice (some ⟨b, 0, none⟩) k cap)) (.slice (some ⟨b, 0, none⟩) k cap) ((hpop0 ys k).take k))
    (hm : Moved rb (.slice (some ⟨b, 0, none⟩) (k + 1) cap) (.slice (some ⟨b, 0, none⟩) k cap) wr w2) :
    HeapAt w2 rb 0 54 #[.slice (some ⟨b, 0, none⟩) k cap] (.slice (some ⟨b, 0, none⟩) k cap) ((hpop0 ys k).take k) ∧ w2.ownsRow w.heap.size 3 1 l dn.length (ivals dn) ∧ Below w.heap.size w w2 := by
  rw [set0] at hp
  exact ⟨hp, row_moved h.lrow hm (own_blk_ne h.lrow h.hp.blk (by decide)) (fun k hk => own_own_ne h.lrow h.hp.row (by decide) k hk),
    h.bel.trans (hm.below_ h.bel.size h.rbb h.base)⟩
theorem hpop0_length (xs : List P2) (n : Nat) (h : xs.length = n + 1) : (hpop0 xs n).length = n + 1 := by
  unfold hpop0; rw [downP_length, swapP_length, h]
theorem HeapAt.alloc {w : World} {g o : Nat} {t : TypeId} {cs : Array Value} {v : Value} {xs : List P2} (h : HeapAt w g o t cs v xs) (O : Obj) : HeapAt (w.alloc O) g o t cs v xs := ⟨h.blk.alloc O, h.at_, World.ownsRow.alloc h.row O, h.ne⟩
theorem HeapAt.grown_ {w w1 : World} {g o : Nat} {t : TypeId} {cs : Array Value} {v l : Value} {xs : List P2} (h : HeapAt w g o t cs v xs) (hg : w.grownBy w1 l.ownBlock) (h1 : l.ownBlock ≠ some g) (h2 : ∀ k, l.ownBlock = some k → v.ownBlock ≠ some k) : HeapAt w1 g o t cs v xs := by
  refine ⟨h.blk.grown hg (fun e => h1 e.symm), h.at_, World.ownsRow.kept h.row hg ?_, h.ne⟩
  cases hv : v.ownBlock with
  | none => simp
  | some k => exact .inr (fun e => h2 k e.symm hv)
theorem clonem_sl (v : Value) (xs : List P2) (w : World) (h : Row w v xs) (hm : xs.length ≤ 1000) :
    Calls Try.prog 27 #[v] w fun e w' => ∃ W A c, e = .returned (.slice A xs.length c) ∧ W = w' ∧ W.ownsRow w.heap.size 59 2 (.slice A xs.length c) xs.length (ocells xs) ∧ Below w.heap.size w W := by
  refine (clonem_any v xs w h hm).mono fun e w' ⟨W, v2, he, hw, ho, hb⟩ => ?_
  rcases ho.2 with ⟨rfl, hn⟩ | ⟨g', cap', cur, rfl, _⟩
  · have e0 : Value.slice none 0 0 = .slice none xs.length 0 := by rw [hn]
    rw [e0] at he ho
    exact ⟨W, none, 0, he, hw, ho, hb⟩
  · exact ⟨W, _, cap', he, hw, ho, hb⟩
set_option maxHeartbeats 2000000 in
theorem due_any (g : Nat) (most : Int) (v : Value) (xs : List P2) (now : Int) (w : World) (h : Tm w g most v xs) (hm : xs.length ≤ 1000) :
    Calls Try.prog 13 #[.pointer (some ⟨g, 0, none⟩), .int .i64 now] w fun e w' => ∃ W l, e = .returned l ∧ W = w' ∧ W.ownsRow w.heap.size 3 1 l (dueL xs.length xs now).length (ivals (dueL xs.length xs now)) ∧ Below w.heap.size w W := by
  obtain ⟨i0, hi, hz0, hz1, hz2⟩ := info_parts info_int
  have I := Lib.hid (And.intro hi (And.intro hz0 (And.intro hz1 hz2)))
  have hc := h.c1
  have H := Lib.hid h
  clear h hi hz0 hz1 hz2
  go_enter Try.func13, Try.ntmps13
  go_wp2_with (go_at_call 27; (refine (clonem_sl v xs _ H.out.row hm).mono ?_); rintro e w' ⟨w1, A1, c1, rfl, rfl, hown1, hb1⟩; have HO := Lib.hid hown1; have HB := Lib.hid hb1; clear hown1 hb1)
  go_loopw [6, 7] (fun l o wr => ∃ (k : Nat) (v' : Value) (ys : List P2) (dn : List Int), k ≤ 1000 ∧ Hid (DInv w wr w1.heap.size k v' l ys xs dn now)) (fun _ _ wr => match wr.cell? ⟨w1.heap.size, 0, none⟩ with | some (.slice _ n _) => n | _ => 0)
  case atStart =>
    exact ⟨xs.length, _, xs, [], hm, { hp := ⟨Blk.new _ _ _, rfl, World.ownsRow.alloc (own_zero HO.out) _, by decide⟩, base := fun c hc => own_base HO.out c hc, len := rfl, dnl := by simpa using hm, lrow := World.ownsRow_nil _ _ _ _, bel := HB.out.alloc HB.out.size _, rbb := HB.out.size, eq := rfl }⟩
  case round =>
    obtain ⟨k, v', ys, dn, hk, HD⟩ := hrel
    obtain ⟨A2, c2, hv2⟩ := HD.out.hp.row.len_
    rw [HD.out.len] at hv2
    cases k with
    | zero =>
      have hcell := HD.out.hp.cell
      have e : Hid (dn = dueL xs.length xs now) := by
        have := HD.out.eq
        rwa [show dueL 0 ys now = [] from rfl, List.append_nil] at this
      rw [hv2] at hcell
      go_wp2
      go_ret
      have p1 := HD.out.lrow
      rw [e.out] at p1
      exact ⟨_, _, rfl, rfl, p1, HD.out.bel⟩
    | succ k =>
      obtain ⟨b, cap, hv, hlt⟩ := HD.out.hp.row.form_ (by rw [HD.out.len]; omega)
      rw [HD.out.len] at hv
      subst hv
      clear hv2
      have hcell := HD.out.hp.cell
      have hta := assert_one1 (gp (hpop0 ys k) k).1 (gp (hpop0 ys k) k).2
      by_cases hd : now < (gp (hpop0 ys k) k).1
      · have hb : decide (now < (gp (hpop0 ys k) k).1) = true := by simp [hd]
        have e : Hid (dn = dueL xs.length xs now) := by
          have := HD.out.eq
          rwa [show dueL (k + 1) ys now = [] from if_pos hd, List.append_nil] at this
        clear hd
        go_wp2_with (go_at_call 28; (with_reducible refine (hpop_any _ 0 b k cap _ _ ys _ HD.out.hp HD.out.len (by omega)).mono ?_); rintro e w' ⟨w2, rfl, rfl, h2, q2⟩; have P := Lib.hid (HD.out.popped h2 q2); clear h2 q2)
        go_ret
        have p1 := World.ownsRow.alloc P.out.2.1 (.cells #[.int .i64 (gp (hpop0 ys k) k).1, .int .i64 (gp (hpop0 ys k) k).2] 59)
        rw [e.out] at p1
        exact ⟨_, _, rfl, rfl, p1, P.out.2.2.alloc P.out.2.2.size _⟩
      · have hb : decide (now < (gp (hpop0 ys k) k).1) = false := by simp; omega
        have e : Hid ((dn ++ [(gp (hpop0 ys k) k).2]) ++ dueL k ((hpop0 ys k).take k) now = dueL xs.length xs now) := by
          have := HD.out.eq
          rw [show dueL (k + 1) ys now = _ from if_neg hd] at this
          rw [List.append_assoc]
          exact this
        have HR (w2 : World) : Reads ((w2.alloc (.cells #[.int .i64 (gp (hpop0 ys k) k).1, .int .i64 (gp (hpop0 ys k) k).2] 59)).alloc (.cells #[.int .i64 (gp (hpop0 ys k) k).2] 3)) (w2.heap.size + 1 + 1) 1 (some ⟨w2.heap.size + 1, 0, none⟩) 1 [.int .i64 (gp (hpop0 ys k) k).2] := by
          have := reads_new (w2.alloc (.cells #[.int .i64 (gp (hpop0 ys k) k).1, .int .i64 (gp (hpop0 ys k) k).2] 59)) (.int .i64 (gp (hpop0 ys k) k).2) 3
          simp only [World.size_alloc] at this
          exact this
        have HDN : Hid (dn.length ≤ 1000) := by
          have := HD.out.dnl
          unfold Hid
          omega
        clear hd
        go_wp2_with (first
          | (go_at_call 28; (with_reducible refine (hpop_any _ 0 b k cap _ _ ys _ HD.out.hp HD.out.len (by omega)).mono ?_); rintro e w' ⟨w2, rfl, rfl, h2, q2⟩; have P := Lib.hid (HD.out.popped h2 q2); clear h2 q2)
          | (at_builtin; refine wpList_append_any _ rfl (.tmp 25) (.tmp 28) 22 rfl w.heap.size 3 i0 (.int .i64 0) 1 8 Try.underlying22 I.out.1 I.out.2.1 I.out.2.2.1 I.out.2.2.2 rfl (by omega) u6 dn.length (ivals dn) rfl (World.ownsRow.alloc (World.ownsRow.alloc P.out.2.1 _) _) (w2.heap.size + 1 + 1) (some ⟨w2.heap.size + 1, 0, none⟩) 1 1 [.int .i64 (gp (hpop0 ys k) k).2] rfl (HR w2) (by simp [Value.oneCell']) (by have := HDN.out; simp only [maxLen]; omega) (by have := HDN.out; omega) (by have := P.out.2.2.size; simp only [World.size_alloc]; omega) ?_; intro v4 w4 hown4 hg4 hat4; have H4 := Lib.hid hown4; have G4 := Lib.hid hg4; clear hown4 hg4 hat4))
        go_roundw
        case rel =>
          refine ⟨k, _, (hpop0 ys k).take k, dn ++ [(gp (hpop0 ys k) k).2], by omega, { hp := (HeapAt.grown_ ((P.out.1.alloc _).alloc _) G4.out ?_ ?_), base := HD.out.base, len := ?_, dnl := ?_, lrow := ?_, bel := ?_, rbb := HD.out.rbb, eq := e.out }⟩
          · exact own_blk_ne P.out.2.1 P.out.1.blk (by decide)
          · exact fun q hq => own_own_ne P.out.2.1 P.out.1.row (by decide) q hq
          · rw [List.length_take, hpop0_length ys k HD.out.len]; omega
          · have := HD.out.dnl
            rw [List.length_append]
            simp only [List.length_cons, List.length_nil]
            omega
          · rw [ivals_append, List.length_append]
            exact H4.out
          · refine (((P.out.2.2.alloc P.out.2.2.size _).alloc ?_ _).grown G4.out ?_ (fun q hq => own_base HD.out.lrow q hq))
            · have := P.out.2.2.size
              simp only [World.size_alloc]; omega
            · have := P.out.2.2.size
              simp only [World.size_alloc]; omega
        case measure =>
          have c4 := (HeapAt.grown_ ((P.out.1.alloc (.cells #[.int .i64 (gp (hpop0 ys k) k).1, .int .i64 (gp (hpop0 ys k) k).2] 59)).alloc (.cells #[.int .i64 (gp (hpop0 ys k) k).2] 3)) G4.out (own_blk_ne P.out.2.1 P.out.1.blk (by decide)) (fun q hq => own_own_ne P.out.2.1 P.out.1.row (by decide) q hq)).cell
          rw [c4, hcell]
          simp
end Go.Proofs.Ytkjjdbbogfjdlaa
