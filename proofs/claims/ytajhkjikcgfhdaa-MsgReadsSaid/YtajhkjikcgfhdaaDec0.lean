/-
  What is read of a frame; reader.message of any kind.
-/
import Derived.Test.YtajhkjikcgfhdaaM
import Derived.Test.YtajhkjikcgfhdaaRmsgReply
namespace Go.Proofs.Ytajhkjikcgfhdaa
set_option linter.unusedVariables false
set_option linter.unusedSimpArgs false
set_option maxRecDepth 20000
open Go.RowKit
def readHello (zs : List Int) (a : Nat) (bad : Bool) : M × Nat × Bool :=
  match rnum zs a bad 4 with
  | (x1, a1, b1) => match rnum zs a1 b1 4 with
    | (x2, a2, b2) => (.hello x1 x2, a2, b2)
def readGrant (zs : List Int) (a : Nat) (bad : Bool) : M × Nat × Bool :=
  match rnum zs a bad 4 with
  | (x1, a1, b1) => match rnum zs a1 b1 4 with
    | (x2, a2, b2) => match rnum zs a2 b2 4 with
      | (x3, a3, b3) => (.grant x1 x2 x3, a3, b3)
def readStop (zs : List Int) (a : Nat) (bad : Bool) : M × Nat × Bool :=
  match rnum zs a bad 4 with
  | (x1, a1, b1) => match rnum zs a1 b1 4 with
    | (x2, a2, b2) => (.stop x1 x2, a2, b2)
def readAsk (zs : List Int) (a : Nat) (bad : Bool) : M × Nat × Bool :=
  match rnum zs a bad 4 with
  | (x1, a1, b1) => match rnum zs a1 b1 4 with
    | (x2, a2, b2) => match rnum zs a2 b2 4 with
      | (x3, a3, b3) => match rnum zs a3 b3 4 with
        | (x4, a4, b4) => match rnum zs a4 b4 4 with
          | (x5, a5, b5) => match rtext zs a5 b5 with
            | (t, a6, b6) => match rnum zs a6 b6 1 with
              | (k, a7, b7) => match rnum zs a7 b7 1 with
                | (b, a8, b8) => match rflag zs a8 b8 with
                  | (f, a9, b9) => match ritem zs a9 b9 with
                    | ((d, s), a10, b10) => (.ask x1 x2 x3 x4 x5 t k b f d s, a10, b10)
def readReply (zs : List Int) (a : Nat) (bad : Bool) : M × Nat × Bool :=
  match rnum zs a bad 4 with
  | (x1, a1, b1) => match rnum zs a1 b1 4 with
    | (x2, a2, b2) => match rnum zs a2 b2 4 with
      | (x3, a3, b3) => match rnum zs a3 b3 4 with
        | (x4, a4, b4) => match rnum zs a4 b4 4 with
          | (x5, a5, b5) => match rnum zs a5 b5 4 with
            | (x6, a6, b6) => match rnum zs a6 b6 1 with
              | (n, a7, b7) => match ritems zs n.toNat a7 b7 with
                | (xs, a8, b8) => match rflag zs a8 b8 with
                  | (en, a9, b9) => (.reply x1 x2 x3 x4 x5 x6 xs en, a9, b9)
def readM (zs : List Int) (kind : Int) (a : Nat) (bad : Bool) : M × Nat × Bool :=
  if kind = 1 then readHello zs a bad
  else if kind = 2 then readGrant zs a bad
  else if kind = 3 then readAsk zs a bad
  else if kind = 4 then readReply zs a bad
  else if kind = 5 then readStop zs a bad
  else (.none, a, true)
/-- A message has been read. -/
def RdM (w : World) (g : Nat) (A : Option Addr) (c : Nat) (zs : List Int) (r : M × Nat × Bool) (e : Ending) (w' : World) : Prop :=
  ∃ v W, e = .returned v ∧ W = w' ∧ MV W v r.1 ∧ Rd 99 W g A c zs r.2.1 r.2.2 ∧ w.grownBy W (some g)
theorem rdm_of {w : World} {g c : Nat} {A : Option Addr} {zs : List Int} {v : Value} {m : M} {a : Nat} {b : Bool} {P : Program} {f : FuncId} {args : Array Value} (h : Calls P f args w (RdTo 99 w g A c zs v a b)) (hv : ∀ W, MV W v m) : Calls P f args w (RdM w g A c zs (m, a, b)) :=
  h.mono fun e w' ⟨W, he, hw, hr, hg⟩ => ⟨v, W, he, hw, hv W, hr, hg⟩
theorem rmsg_m (g : Nat) (A : Option Addr) (c : Nat) (zs : List Int) (a : Nat) (bad : Bool) (kind : Int) (w : World) (h : Rd 99 w g A c zs a bad) (h0 : 0 < zs.length) (ha : a ≤ zs.length) :
    Calls Try.prog 55 #[.pointer (some ⟨g, 0, none⟩), .int .i64 kind] w (RdM w g A c zs (readM zs kind a bad)) := by
  by_cases k1 : kind = 1
  · subst k1
    obtain ⟨x1, a1, b1, h1⟩ : ∃ x a1 b1, rnum zs a bad 4 = (x, a1, b1) := ⟨_, _, _, rfl⟩
    obtain ⟨x2, a2, b2, h2⟩ : ∃ x a2 b2, rnum zs a1 b1 4 = (x, a2, b2) := ⟨_, _, _, rfl⟩
    rw [show readM zs 1 a bad = (.hello x1 x2, a2, b2) by simp [readM, readHello, h1, h2]]
    exact rdm_of (rmsg_hello g A c zs a bad x1 a1 b1 x2 a2 b2 w h h0 ha h1 h2) fun _ => rfl
  by_cases k2 : kind = 2
  · subst k2
    obtain ⟨x1, a1, b1, h1⟩ : ∃ x a1 b1, rnum zs a bad 4 = (x, a1, b1) := ⟨_, _, _, rfl⟩
    obtain ⟨x2, a2, b2, h2⟩ : ∃ x a2 b2, rnum zs a1 b1 4 = (x, a2, b2) := ⟨_, _, _, rfl⟩
    obtain ⟨x3, a3, b3, h3⟩ : ∃ x a3 b3, rnum zs a2 b2 4 = (x, a3, b3) := ⟨_, _, _, rfl⟩
    rw [show readM zs 2 a bad = (.grant x1 x2 x3, a3, b3) by simp [readM, readGrant, h1, h2, h3]]
    exact rdm_of (rmsg_grant g A c zs a bad x1 a1 b1 x2 a2 b2 x3 a3 b3 w h h0 ha h1 h2 h3) fun _ => rfl
  by_cases k3 : kind = 3
  · subst k3
    obtain ⟨x1, a1, b1, h1⟩ : ∃ x a1 b1, rnum zs a bad 4 = (x, a1, b1) := ⟨_, _, _, rfl⟩
    obtain ⟨x2, a2, b2, h2⟩ : ∃ x a2 b2, rnum zs a1 b1 4 = (x, a2, b2) := ⟨_, _, _, rfl⟩
    obtain ⟨x3, a3, b3, h3⟩ : ∃ x a3 b3, rnum zs a2 b2 4 = (x, a3, b3) := ⟨_, _, _, rfl⟩
    obtain ⟨x4, a4, b4, h4⟩ : ∃ x a4 b4, rnum zs a3 b3 4 = (x, a4, b4) := ⟨_, _, _, rfl⟩
    obtain ⟨x5, a5, b5, h5⟩ : ∃ x a5 b5, rnum zs a4 b4 4 = (x, a5, b5) := ⟨_, _, _, rfl⟩
    obtain ⟨t, a6, b6, h6⟩ : ∃ x a6 b6, rtext zs a5 b5 = (x, a6, b6) := ⟨_, _, _, rfl⟩
    obtain ⟨k, a7, b7, h7⟩ : ∃ x a7 b7, rnum zs a6 b6 1 = (x, a7, b7) := ⟨_, _, _, rfl⟩
    obtain ⟨b, a8, b8, h8⟩ : ∃ x a8 b8, rnum zs a7 b7 1 = (x, a8, b8) := ⟨_, _, _, rfl⟩
    obtain ⟨f, a9, b9, h9⟩ : ∃ x a9 b9, rflag zs a8 b8 = (x, a9, b9) := ⟨_, _, _, rfl⟩
    obtain ⟨d, s, a10, b10, h10⟩ : ∃ d s a10 b10, ritem zs a9 b9 = ((d, s), a10, b10) := ⟨_, _, _, _, rfl⟩
    rw [show readM zs 3 a bad = (.ask x1 x2 x3 x4 x5 t k b f d s, a10, b10) by simp [readM, readAsk, h1, h2, h3, h4, h5, h6, h7, h8, h9, h10]]
    exact rdm_of (rmsg_ask g A c zs a bad x1 a1 b1 x2 a2 b2 x3 a3 b3 x4 a4 b4 x5 a5 b5 t a6 b6 k a7 b7 b a8 b8 f a9 b9 d s a10 b10 w h h0 ha h1 h2 h3 h4 h5 h6 h7 h8 h9 h10) fun _ => rfl
  by_cases k4 : kind = 4
  · subst k4
    obtain ⟨x1, a1, b1, h1⟩ : ∃ x a1 b1, rnum zs a bad 4 = (x, a1, b1) := ⟨_, _, _, rfl⟩
    obtain ⟨x2, a2, b2, h2⟩ : ∃ x a2 b2, rnum zs a1 b1 4 = (x, a2, b2) := ⟨_, _, _, rfl⟩
    obtain ⟨x3, a3, b3, h3⟩ : ∃ x a3 b3, rnum zs a2 b2 4 = (x, a3, b3) := ⟨_, _, _, rfl⟩
    obtain ⟨x4, a4, b4, h4⟩ : ∃ x a4 b4, rnum zs a3 b3 4 = (x, a4, b4) := ⟨_, _, _, rfl⟩
    obtain ⟨x5, a5, b5, h5⟩ : ∃ x a5 b5, rnum zs a4 b4 4 = (x, a5, b5) := ⟨_, _, _, rfl⟩
    obtain ⟨x6, a6, b6, h6⟩ : ∃ x a6 b6, rnum zs a5 b5 4 = (x, a6, b6) := ⟨_, _, _, rfl⟩
    obtain ⟨n, a7, b7, h7⟩ : ∃ x a7 b7, rnum zs a6 b6 1 = (x, a7, b7) := ⟨_, _, _, rfl⟩
    obtain ⟨xs, a8, b8, h8⟩ : ∃ x a8 b8, ritems zs n.toNat a7 b7 = (x, a8, b8) := ⟨_, _, _, rfl⟩
    obtain ⟨en, a9, b9, h9⟩ : ∃ x a9 b9, rflag zs a8 b8 = (x, a9, b9) := ⟨_, _, _, rfl⟩
    rw [show readM zs 4 a bad = (.reply x1 x2 x3 x4 x5 x6 xs en, a9, b9) by simp [readM, readReply, h1, h2, h3, h4, h5, h6, h7, h8, h9]]
    refine (rmsg_reply g A c zs a bad x1 x2 x3 x4 x5 x6 n a1 a2 a3 a4 a5 a6 a7 b1 b2 b3 b4 b5 b6 b7 xs a8 b8 en a9 b9 w h h0 ha h1 h2 h3 h4 h5 h6 h7 h8 h9).mono ?_
    rintro e w' ⟨A2, c2, W, he, hw, hr, hx, hg⟩
    exact ⟨_, W, he, hw, ⟨A2, c2, rfl, hx⟩, hr, hg⟩
  by_cases k5 : kind = 5
  · subst k5
    obtain ⟨x1, a1, b1, h1⟩ : ∃ x a1 b1, rnum zs a bad 4 = (x, a1, b1) := ⟨_, _, _, rfl⟩
    obtain ⟨x2, a2, b2, h2⟩ : ∃ x a2 b2, rnum zs a1 b1 4 = (x, a2, b2) := ⟨_, _, _, rfl⟩
    rw [show readM zs 5 a bad = (.stop x1 x2, a2, b2) by simp [readM, readStop, h1, h2]]
    exact rdm_of (rmsg_stop g A c zs a bad x1 a1 b1 x2 a2 b2 w h h0 ha h1 h2) fun _ => rfl
  rw [show readM zs kind a bad = (.none, a, true) by simp [readM, k1, k2, k3, k4, k5]]
  exact rdm_of (rmsg_other g A c zs a bad kind w h (by omega)) fun _ => rfl
/-! ### Sizes of what is read -/
theorem rtext_size {zs : List Int} {a a' : Nat} {bad b' : Bool} {v : ByteArray} (h : rtext zs a bad = (v, a', b')) : v.size ≤ zs.length := by
  unfold rtext at h
  split at h
  · injection h with h0 _
    rw [← h0]
    unfold textS
    have : (strOfNums ((zs.drop ((a : Int).toNat + 2)).take (numI zs a 2).toNat)).size = ((zs.drop ((a : Int).toNat + 2)).take (numI zs a 2).toNat).length := by
      simp [strOfNums, ByteArray.size]
    rw [this, List.length_take, List.length_drop]
    omega
  · injection h with h0 _
    rw [← h0]
    show 0 ≤ _
    omega
theorem ritem_size {zs : List Int} {a a' : Nat} {bad b' : Bool} {d : Int} {v : ByteArray} (h : ritem zs a bad = ((d, v), a', b')) : v.size ≤ zs.length := by
  unfold ritem at h
  injection h with h1 h2
  injection h1 with h0 h1
  exact rtext_size (a := (rnum zs a bad 1).2.1) (bad := (rnum zs a bad 1).2.2) (v := v) (a' := a') (b' := b') (by rw [← h1, ← h2])
theorem ritems_size {zs : List Int} (n a : Nat) (bad : Bool) : Small zs.length (ritems zs n a bad).1 := by
  induction n generalizing a bad with
  | zero => intro x hx; simp [ritems] at hx
  | succ n ih =>
    intro x hx
    simp only [ritems] at hx
    split at hx
    · simp at hx
    · rcases List.mem_cons.1 hx with rfl | hx
      · exact ritem_size (a := a) (bad := bad) (d := (ritem zs a bad).1.1) (a' := (ritem zs a bad).2.1) (b' := (ritem zs a bad).2.2) rfl
      · exact ih _ _ x hx
theorem readM_small (zs : List Int) (kind : Int) (a : Nat) (bad : Bool) : SmallM zs.length (readM zs kind a bad).1 := by
  unfold readM
  split
  · exact trivial
  split
  · exact trivial
  split
  · refine ⟨rtext_size (v := _) (a' := _) (b' := _) rfl, ritem_size (d := _) (v := _) (a' := _) (b' := _) rfl⟩
  split
  · exact ritems_size _ _ _
  split
  · exact trivial
  · exact trivial
end Go.Proofs.Ytajhkjikcgfhdaa
