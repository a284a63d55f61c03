/-
  Opening the messages among a row's arguments.
-/
import Derived.Test.YtajhkjikcgfhdaaRows
import Derived.Test.YtajhkjikcgfhdaaGreat
import Derived.WalkKit
import Derived.ProofKit
import Derived.OpenShut
import Derived.ShutString
import Derived.ChangeOld
import Derived.Below
import Derived.Lib.SmallJoins
import Derived.Deep.Slices
import Derived.Deep.Fields
import Derived.ChangeSame
namespace Go.Proofs.Ytajhkjikcgfhdaa.rowKit
open Go.ChangeShapes Go.WideShapes Go.ChangeAt Go.RowKit Go.Deep
open Go.ChangeMaps (open_string shut_string)
set_option linter.unusedVariables false
set_option maxRecDepth 20000
section
variable {H : Type} {enc : TypeId × Value → H} {P : Program} {w : World} {base : Nat} {spare : Nat → Bool} {held : Bool}
theorem open_slice_fields {t e : TypeId} {fs : Array Field} {fuel : Nat} {cs : List Value} {x : DataW H × List MemPlace} (ht : P.underlying t = some (.slice e)) (he : P.underlying e = some (.struct fs))
    (hone : oneCellFields P fs = true) (hC : P.cellsOf e = fs.size) (h : DataW.trod enc P w base spare held fuel t cs = some x) :
    (cs = [.slice none 0 0] ∧ x = (.nil, [])) ∨
    ∃ (a : Addr) (len cap m : Nat) (D : Nat → DataW H) (Pl : Nat → List MemPlace), cs = [.slice (some a) len cap] ∧ base ≤ a.block ∧ len ≤ cap ∧ cap ≤ maxLen ∧ m = (if spare a.block then cap else len) ∧
      x = (.slice ((List.range len).map D) ((List.range (m - len)).map fun j => D (len + j)), MemPlace.row a (m * fs.size) ++ (List.range m).flatMap Pl) ∧
      ∀ i, i < m → ∃ (ys : List (DataW H × List MemPlace)) (n : Nat), D i = .agg (ys.map (·.1)) ∧ Pl i = ys.flatMap (·.2) ∧ ys.length = fs.size ∧
        ∀ (j : Nat) (f : Field), fs[j]? = some f → ∃ (v : Value) (y : DataW H × List MemPlace), w.cell? (a.add (i * fs.size + j)) = some v ∧ ys[j]? = some y ∧ DataW.trod enc P w base spare held n f.type [v] = some y := by
  rcases open_slice ht h with h0 | ⟨a, len, cap, m, n, D, Pl, hcs, hb, hl, hm, hmm, hx, hi⟩
  · exact .inl h0
  · refine .inr ⟨a, len, cap, m, D, Pl, hcs, hb, hl, hm, hmm, by rw [hC] at hx; exact hx, fun i him => ?_⟩
    obtain ⟨cs', hc, ht'⟩ := hi i him
    rw [hC] at hc
    obtain ⟨ys, n', hn', hy, hlen, hyl, hf⟩ := DataW.trod_struct he ht'
    obtain ⟨_, hcl, hat⟩ := World.cells?_some hc
    simp only [Prod.mk.injEq] at hy
    refine ⟨ys, n', hy.1, hy.2, hyl, fun j f hj => ?_⟩
    obtain ⟨ho, hk⟩ := hone_of hone j f hj
    have hjl : j < fs.size := (Array.getElem?_eq_some_iff.1 hj).1
    have hcell := hat j hjl
    have hv : cs'[j]? = some (cs'[j]'(by omega)) := List.getElem?_eq_getElem (by omega)
    have h1 := hf j f hj
    rw [ho, hk] at h1
    have hone' : (cs'.drop j).take 1 = [cs'[j]'(by omega)] := by
      rw [List.drop_eq_getElem_cons (by omega)]
      rfl
    rw [hone'] at h1
    have hys : ys[j]? = some (ys[j]'(by omega)) := List.getElem?_eq_getElem (by omega)
    refine ⟨_, _, ?_, hys, h1.trans hys⟩
    rw [← Go.Deep.add_add, hcell, hv]
/-- What a struct's fields are. -/
def Flds (enc : TypeId × Value → H) (P : Program) (w : World) (base : Nat) (spare : Nat → Bool) (held : Bool) (fs : Array Field) (cs : List Value) : Prop :=
  ∀ (i : Nat) (f : Field), fs[i]? = some f → ∃ (n : Nat) (y : DataW H × List MemPlace), DataW.trod enc P w base spare held n f.type ((cs.drop f.offset).take (P.cellsOf f.type)) = some y
theorem flds_of {t : TypeId} {fs : Array Field} {fuel : Nat} {cs : List Value} {x : DataW H × List MemPlace} (ht : P.underlying t = some (.struct fs)) (h : DataW.trod enc P w base spare held fuel t cs = some x) : cs.length = P.cellsOf t ∧ Flds enc P w base spare held fs cs := by
  obtain ⟨xs, n, _, _, hl, hx, hf⟩ := DataW.trod_struct ht h
  refine ⟨hl, fun i f hi => ?_⟩
  have hil : i < fs.size := (Array.getElem?_eq_some_iff.1 hi).1
  exact ⟨n, xs[i]'(by omega), (hf i f hi).trans (List.getElem?_eq_getElem (by omega))⟩
theorem Flds.int {fs : Array Field} {cs : List Value} (h : Flds enc P w base spare held fs cs) (i : Nat) (f : Field) (hi : fs[i]? = some f) (k : IntKind) (hu : P.underlying f.type = some (.int k)) (c : Value) (hc : (cs.drop f.offset).take (P.cellsOf f.type) = [c]) : ∃ x, c = .int k x := by
  obtain ⟨n, y, hy⟩ := h i f hi
  obtain ⟨x, e, _⟩ := DataW.trod_int hu hy
  rw [hc] at e
  injection e with e
  exact ⟨x, e⟩
theorem Flds.bool {fs : Array Field} {cs : List Value} (h : Flds enc P w base spare held fs cs) (i : Nat) (f : Field) (hi : fs[i]? = some f) (hu : P.underlying f.type = some .bool) (c : Value) (hc : (cs.drop f.offset).take (P.cellsOf f.type) = [c]) : ∃ x, c = .bool x := by
  obtain ⟨n, y, hy⟩ := h i f hi
  obtain ⟨x, e, _⟩ := DataW.trod_bool hu hy
  rw [hc] at e
  injection e with e
  exact ⟨x, e⟩
theorem Flds.str {fs : Array Field} {cs : List Value} (h : Flds enc P w base spare held fs cs) (i : Nat) (f : Field) (hi : fs[i]? = some f) (hu : P.underlying f.type = some .string) (c : Value) (hc : (cs.drop f.offset).take (P.cellsOf f.type) = [c]) : ∃ x, c = .string x := by
  obtain ⟨n, y, hy⟩ := h i f hi
  obtain ⟨x, e, _⟩ := DataW.trod_string hu hy
  rw [hc] at e
  injection e with e
  exact ⟨x, e⟩
end
theorem cells_int : Try.prog.cellsOf 3 = 1 := by kernel_rfl
theorem cells_str : Try.prog.cellsOf 9 = 1 := by kernel_rfl
theorem cells_bool : Try.prog.cellsOf 4 = 1 := by kernel_rfl
theorem cells_items : Try.prog.cellsOf 30 = 1 := by kernel_rfl
theorem cells_hello : Try.prog.cellsOf 23 = 2 := by kernel_rfl
theorem cells_grant : Try.prog.cellsOf 25 = 3 := by kernel_rfl
theorem cells_item : Try.prog.cellsOf 27 = 2 := by kernel_rfl
theorem cells_ask : Try.prog.cellsOf 29 = 11 := by kernel_rfl
theorem cells_reply : Try.prog.cellsOf 32 = 8 := by kernel_rfl
theorem cells_stop : Try.prog.cellsOf 34 = 2 := by kernel_rfl
section
variable {H : Type} {enc : TypeId × Value → H} {w : World}
theorem open_items {cs : List Value} {y : DataW H × List MemPlace} {fuel : Nat} (hf : DataW.trod enc Try.prog w 0 (fun _ => true) true fuel 30 cs = some y) :
    ∃ A n c xs, cs = [.slice A n c] ∧ n ≤ 9223372036854775807 ∧ (n ≤ 80 → XReads w A n xs) := by
  rcases open_slice_fields Try.underlying30 Try.underlying27 (by kernel_rfl) (by kernel_rfl) hf with ⟨hcs, _⟩ | ⟨x, l, c, m, D, Pl, hcs, _, hl, hm, hmm, _, hi⟩
  · exact ⟨none, 0, 0, [], hcs, by omega, fun _ => xreads_nil w none⟩
  · simp only [maxLen] at hm
    rw [if_pos rfl] at hmm
    have hg : ∀ k, ∃ z : Int × ByteArray, k < l → w.cell? (x.add (k * 2)) = some (.int .i64 z.1) ∧ w.cell? (x.add (k * 2 + 1)) = some (.string z.2) := fun k => by
      by_cases hk : k < l
      · obtain ⟨ys, n, _, _, _, hf⟩ := hi k (by omega)
        obtain ⟨u0, y0, c0, _, t0⟩ := hf 0 _ rfl
        obtain ⟨u1, y1, c1, _, t1⟩ := hf 1 _ rfl
        obtain ⟨x0, e0, _⟩ := DataW.trod_int Try.underlying3 t0
        obtain ⟨x1, e1, _⟩ := DataW.trod_string Try.underlying9 t1
        injection e0 with e0
        injection e1 with e1
        subst e0
        subst e1
        exact ⟨(x0, x1), fun _ => ⟨c0, c1⟩⟩
      · exact ⟨(0, ⟨#[]⟩), fun h => absurd h hk⟩
    refine ⟨some x, l, c, (List.range l).map fun k => Classical.choose (hg k), hcs, by omega, fun h80 => ⟨by simp, by omega, fun _ => ⟨x, rfl, fun k hk => ?_⟩⟩⟩
    have hs := Classical.choose_spec (hg k) hk
    have e : gx ((List.range l).map fun k => Classical.choose (hg k)) k = Classical.choose (hg k) := by simp [gx, List.getD_eq_getElem?_getD, hk]
    rw [e]
    refine ⟨hs.1, ?_⟩
    rw [← hs.2]
    show w.cell? ((x.add (k * 2)).add 1) = _
    rw [Go.Deep.add_add]
theorem open_hello {v : Value} {x : DataW H × List MemPlace} (ho : Value.okWide Try.prog w .any 0 23 v) (h : ∃ fuel, DataW.trod enc Try.prog w 0 (fun _ => true) true fuel 23 v.cells.toList = some x) : ∃ x0 x1 : Int, v = .agg #[.int .i64 x0, .int .i64 x1] := by
  obtain ⟨cs, rfl, hsz⟩ := okWide_struct Try.underlying23 ho
  obtain ⟨fuel, h⟩ := h
  obtain ⟨hl, F⟩ := flds_of Try.underlying23 h
  rw [cells_hello] at hsz
  obtain ⟨cs⟩ := cs
  dsimp only [Value.cells, List.toList_toArray] at F
  match cs, hsz with
  | [c0, c1], _ =>
    obtain ⟨x0, rfl⟩ := F.int 0 _ rfl .i64 Try.underlying3 c0 (congrArg (fun k => List.take k _) cells_int)
    obtain ⟨x1, rfl⟩ := F.int 1 _ rfl .i64 Try.underlying3 c1 (congrArg (fun k => List.take k _) cells_int)
    exact ⟨x0, x1, rfl⟩
theorem open_grant {v : Value} {x : DataW H × List MemPlace} (ho : Value.okWide Try.prog w .any 0 25 v) (h : ∃ fuel, DataW.trod enc Try.prog w 0 (fun _ => true) true fuel 25 v.cells.toList = some x) : ∃ x0 x1 x2 : Int, v = .agg #[.int .i64 x0, .int .i64 x1, .int .i64 x2] := by
  obtain ⟨cs, rfl, hsz⟩ := okWide_struct Try.underlying25 ho
  obtain ⟨fuel, h⟩ := h
  obtain ⟨hl, F⟩ := flds_of Try.underlying25 h
  rw [cells_grant] at hsz
  obtain ⟨cs⟩ := cs
  dsimp only [Value.cells, List.toList_toArray] at F
  match cs, hsz with
  | [c0, c1, c2], _ =>
    obtain ⟨x0, rfl⟩ := F.int 0 _ rfl .i64 Try.underlying3 c0 (congrArg (fun k => List.take k _) cells_int)
    obtain ⟨x1, rfl⟩ := F.int 1 _ rfl .i64 Try.underlying3 c1 (congrArg (fun k => List.take k _) cells_int)
    obtain ⟨x2, rfl⟩ := F.int 2 _ rfl .i64 Try.underlying3 c2 (congrArg (fun k => List.take k _) cells_int)
    exact ⟨x0, x1, x2, rfl⟩
theorem open_stop {v : Value} {x : DataW H × List MemPlace} (ho : Value.okWide Try.prog w .any 0 34 v) (h : ∃ fuel, DataW.trod enc Try.prog w 0 (fun _ => true) true fuel 34 v.cells.toList = some x) : ∃ x0 x1 : Int, v = .agg #[.int .i64 x0, .int .i64 x1] := by
  obtain ⟨cs, rfl, hsz⟩ := okWide_struct Try.underlying34 ho
  obtain ⟨fuel, h⟩ := h
  obtain ⟨hl, F⟩ := flds_of Try.underlying34 h
  rw [cells_stop] at hsz
  obtain ⟨cs⟩ := cs
  dsimp only [Value.cells, List.toList_toArray] at F
  match cs, hsz with
  | [c0, c1], _ =>
    obtain ⟨x0, rfl⟩ := F.int 0 _ rfl .i64 Try.underlying3 c0 (congrArg (fun k => List.take k _) cells_int)
    obtain ⟨x1, rfl⟩ := F.int 1 _ rfl .i64 Try.underlying3 c1 (congrArg (fun k => List.take k _) cells_int)
    exact ⟨x0, x1, rfl⟩
theorem open_ask {v : Value} {x : DataW H × List MemPlace} (ho : Value.okWide Try.prog w .any 0 29 v) (h : ∃ fuel, DataW.trod enc Try.prog w 0 (fun _ => true) true fuel 29 v.cells.toList = some x) : ∃ (x0 x1 x2 x3 x4 : Int) (x5 : ByteArray) (x6 x7 : Int) (x8 : Bool) (x9 : Int) (x10 : ByteArray), v = .agg #[.int .i64 x0, .int .i64 x1, .int .i64 x2, .int .i64 x3, .int .i64 x4, .string x5, .int .i64 x6, .int .i64 x7, .bool x8, .int .i64 x9, .string x10] := by
  obtain ⟨cs, rfl, hsz⟩ := okWide_struct Try.underlying29 ho
  obtain ⟨fuel, h⟩ := h
  obtain ⟨hl, F⟩ := flds_of Try.underlying29 h
  rw [cells_ask] at hsz
  obtain ⟨cs⟩ := cs
  dsimp only [Value.cells, List.toList_toArray] at F
  match cs, hsz with
  | [c0, c1, c2, c3, c4, c5, c6, c7, c8, c9, c10], _ =>
    obtain ⟨x0, rfl⟩ := F.int 0 _ rfl .i64 Try.underlying3 c0 (congrArg (fun k => List.take k _) cells_int)
    obtain ⟨x1, rfl⟩ := F.int 1 _ rfl .i64 Try.underlying3 c1 (congrArg (fun k => List.take k _) cells_int)
    obtain ⟨x2, rfl⟩ := F.int 2 _ rfl .i64 Try.underlying3 c2 (congrArg (fun k => List.take k _) cells_int)
    obtain ⟨x3, rfl⟩ := F.int 3 _ rfl .i64 Try.underlying3 c3 (congrArg (fun k => List.take k _) cells_int)
    obtain ⟨x4, rfl⟩ := F.int 4 _ rfl .i64 Try.underlying3 c4 (congrArg (fun k => List.take k _) cells_int)
    obtain ⟨x5, rfl⟩ := F.str 5 _ rfl Try.underlying9 c5 (congrArg (fun k => List.take k _) cells_str)
    obtain ⟨x6, rfl⟩ := F.int 6 _ rfl .i64 Try.underlying3 c6 (congrArg (fun k => List.take k _) cells_int)
    obtain ⟨x7, rfl⟩ := F.int 7 _ rfl .i64 Try.underlying3 c7 (congrArg (fun k => List.take k _) cells_int)
    obtain ⟨x8, rfl⟩ := F.bool 8 _ rfl Try.underlying4 c8 (congrArg (fun k => List.take k _) cells_bool)
    obtain ⟨n9, y9, h9⟩ := F 9 _ rfl
    obtain ⟨_, G⟩ := flds_of Try.underlying27 h9
    have G : Flds enc Try.prog w 0 (fun _ => true) true _ [c9, c10] := (congrArg (fun k => List.take k [c9, c10]) cells_item) ▸ G
    obtain ⟨x9, rfl⟩ := G.int 0 _ rfl .i64 Try.underlying3 c9 (congrArg (fun k => List.take k _) cells_int)
    obtain ⟨x10, rfl⟩ := G.str 1 _ rfl Try.underlying9 c10 (congrArg (fun k => List.take k _) cells_str)
    exact ⟨x0, x1, x2, x3, x4, x5, x6, x7, x8, x9, x10, rfl⟩
theorem open_reply {v : Value} {x : DataW H × List MemPlace} (ho : Value.okWide Try.prog w .any 0 32 v) (h : ∃ fuel, DataW.trod enc Try.prog w 0 (fun _ => true) true fuel 32 v.cells.toList = some x) : ∃ (x0 x1 x2 x3 x4 x5 : Int) (A : Option Addr) (n c : Nat) (x7 : Bool) (xs : List (Int × ByteArray)), v = .agg #[.int .i64 x0, .int .i64 x1, .int .i64 x2, .int .i64 x3, .int .i64 x4, .int .i64 x5, .slice A n c, .bool x7] ∧ n ≤ 9223372036854775807 ∧ (n ≤ 80 → XReads w A n xs) := by
  obtain ⟨cs, rfl, hsz⟩ := okWide_struct Try.underlying32 ho
  obtain ⟨fuel, h⟩ := h
  obtain ⟨hl, F⟩ := flds_of Try.underlying32 h
  rw [cells_reply] at hsz
  obtain ⟨cs⟩ := cs
  dsimp only [Value.cells, List.toList_toArray] at F
  match cs, hsz with
  | [c0, c1, c2, c3, c4, c5, c6, c7], _ =>
    obtain ⟨x0, rfl⟩ := F.int 0 _ rfl .i64 Try.underlying3 c0 (congrArg (fun k => List.take k _) cells_int)
    obtain ⟨x1, rfl⟩ := F.int 1 _ rfl .i64 Try.underlying3 c1 (congrArg (fun k => List.take k _) cells_int)
    obtain ⟨x2, rfl⟩ := F.int 2 _ rfl .i64 Try.underlying3 c2 (congrArg (fun k => List.take k _) cells_int)
    obtain ⟨x3, rfl⟩ := F.int 3 _ rfl .i64 Try.underlying3 c3 (congrArg (fun k => List.take k _) cells_int)
    obtain ⟨x4, rfl⟩ := F.int 4 _ rfl .i64 Try.underlying3 c4 (congrArg (fun k => List.take k _) cells_int)
    obtain ⟨x5, rfl⟩ := F.int 5 _ rfl .i64 Try.underlying3 c5 (congrArg (fun k => List.take k _) cells_int)
    obtain ⟨x7, rfl⟩ := F.bool 7 _ rfl Try.underlying4 c7 (congrArg (fun k => List.take k _) cells_bool)
    obtain ⟨n6, y6, h6⟩ := F 6 _ rfl
    have e6 : List.take (Try.prog.cellsOf 30) [c6, .bool x7] = [c6] := congrArg (fun k => List.take k [c6, .bool x7]) cells_items
    have h6 : DataW.trod enc Try.prog w 0 (fun _ => true) true n6 30 [c6] = some y6 := by
      rw [← e6]
      exact h6
    obtain ⟨A, n, c, xs, e, hn, hx⟩ := open_items h6
    injection e with e
    subst e
    exact ⟨x0, x1, x2, x3, x4, x5, A, n, c, x7, xs, rfl, hn, hx⟩
end
theorem own : ownKnob Try.prog.godebug = none := by kernel_rfl
theorem laidOut : laidOutB Try.prog = true := by kernel_rfl
end Go.Proofs.Ytajhkjikcgfhdaa.rowKit
