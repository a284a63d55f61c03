/-
  Decode of a frame is the message.
-/
import Derived.Test.YtajhkjikcgfhdaaParse
namespace Go.Proofs.Ytajhkjikcgfhdaa
set_option linter.unusedVariables false
set_option linter.unusedSimpArgs false
set_option maxRecDepth 20000
open Go.RowKit
theorem inB_iff {n lo hi : Int} : inB n lo hi = true ↔ lo ≤ n ∧ n ≤ hi := by simp [inB]
theorem withinB_cons {a : Int} {l : List Int} : withinB (a :: l) = true ↔ (0 ≤ a ∧ a ≤ 2147483647) ∧ withinB l = true := by
  simp [withinB, okN]
theorem itemB_iff {d : Int} {s : ByteArray} (h : itemB d s = true) : 0 ≤ d ∧ d ≤ 4 ∧ s.size ≤ 48 := by
  simp only [itemB, Bool.and_eq_true, inB_iff] at h
  exact ⟨h.1.1, h.1.2, word_size h.2⟩
theorem askB_iff {sl q sh sq ep : Int} {t : ByteArray} {k b : Int} {f : Bool} {d : Int} {s : ByteArray} (h : askB sl q sh sq ep t k b f d s = true) :
    (0 ≤ sl ∧ sl ≤ 3) ∧ (0 ≤ q ∧ q ≤ 2147483647) ∧ (0 ≤ sh ∧ sh ≤ 5) ∧ (0 ≤ sq ∧ sq ≤ 2147483647) ∧ (0 ≤ ep ∧ ep ≤ 2147483647) ∧ t.size ≤ 64 ∧ (0 ≤ k ∧ k ≤ 4) ∧ (1 ≤ b ∧ b ≤ 5) ∧ (0 ≤ d ∧ d ≤ 4) ∧ s.size ≤ 48 := by
  simp only [askB, placeB, Bool.and_eq_true, inB_iff, withinB_cons] at h
  obtain ⟨h1, ⟨h2, h3⟩, ⟨h4, h5, h6, _⟩, h7, h8, h9⟩ := h
  refine ⟨h2, h4, h3, h5, h6, asked_size h7, h8, h9, ?_⟩
  cases f with
  | true =>
    have hz := of_decide_eq_true h1
    rw [hz.1, hz.2]
    exact ⟨by omega, by decide⟩
  | false =>
    have := itemB_iff h1
    exact ⟨⟨this.1, this.2.1⟩, this.2.2⟩
theorem itemsB_all {xs : List (Int × ByteArray)} (h : itemsB xs = true) : ∀ x, x ∈ xs → 0 ≤ x.1 ∧ x.1 ≤ 4 ∧ x.2.size ≤ 48 := by
  intro x hx
  obtain ⟨k, hk, e⟩ := List.getElem_of_mem hx
  have := List.all_eq_true.1 h k (List.mem_range.2 hk)
  simp only [roundB, Bool.and_eq_true] at this
  have e2 : gx xs k = x := by simp [gx, List.getD_eq_getElem?_getD, hk, e]
  rw [e2] at this
  exact itemB_iff this.1
theorem replyB_iff {sl q sh sq wk ep : Int} {xs : List (Int × ByteArray)} (h : replyB sl q sh sq wk ep xs = true) :
    (0 ≤ sl ∧ sl ≤ 3) ∧ (0 ≤ q ∧ q ≤ 2147483647) ∧ (0 ≤ sh ∧ sh ≤ 5) ∧ (0 ≤ sq ∧ sq ≤ 2147483647) ∧ (1 ≤ wk ∧ wk ≤ 5) ∧ (0 ≤ ep ∧ ep ≤ 2147483647) ∧ xs.length ≤ 5 ∧ ∀ x, x ∈ xs → 0 ≤ x.1 ∧ x.1 ≤ 4 ∧ x.2.size ≤ 48 := by
  simp only [replyB, placeB, Bool.and_eq_true, inB_iff, withinB_cons, decide_eq_true_eq] at h
  obtain ⟨h1, h2, ⟨h3, h4⟩, ⟨h5, h6, h7, _⟩, h8⟩ := h
  exact ⟨h3, h5, h4, h6, h8, h7, h2, itemsB_all h1⟩
theorem helloB_iff {a b : Int} (h : helloB a b = true) : (1 ≤ a ∧ a ≤ 5) ∧ (0 ≤ b ∧ b ≤ 2147483647) := by
  simp only [helloB, Bool.and_eq_true, inB_iff, withinB_cons] at h
  exact ⟨h.1, h.2.1⟩
theorem grantB_iff {a b c : Int} (h : grantB a b c = true) : (1 ≤ a ∧ a ≤ 5) ∧ (0 ≤ b ∧ b ≤ 2147483647) ∧ (0 ≤ c ∧ c ≤ 2147483647) := by
  simp only [grantB, Bool.and_eq_true, inB_iff, withinB_cons] at h
  exact ⟨h.1, h.2.1, h.2.2.1⟩
theorem stopB_iff {a b : Int} (h : stopB a b = true) : (0 ≤ a ∧ a ≤ 3) ∧ (0 ≤ b ∧ b ≤ 2147483647) := by
  simp only [stopB, placeB, Bool.and_eq_true, inB_iff, withinB_cons] at h
  exact ⟨h.1.1, h.2.1⟩
theorem askI_length (sl q sh sq ep : Int) (t : ByteArray) (k b : Int) (f : Bool) (d : Int) (s : ByteArray) : (askI sl q sh sq ep t k b f d s).length = 28 + t.size + s.size := by
  simp only [askI, List.length_append, foursI_length, textI_length, putI_length, itemI_length, List.length_cons, List.length_nil]
  omega
theorem replyI_length (sl q sh sq wk ep : Int) (xs : List (Int × ByteArray)) (en : Bool) : (replyI sl q sh sq wk ep xs en).length = 26 + (itemsI xs).length := by
  simp only [replyI, List.length_append, foursI_length, putI_length, List.length_cons, List.length_nil]
  omega
theorem bodyM_length (m : M) (h : mayM m = true) : (bodyM m).length ≤ 900 := by
  cases m with
  | hello a b => simp [bodyM, helloI, foursI_length]
  | grant a b c => simp [bodyM, grantI, foursI_length]
  | ask sl q sh sq ep t k b f d s =>
    have h1 := askB_iff h
    simp only [bodyM, askI_length]
    omega
  | reply sl q sh sq wk ep xs en =>
    have h1 := replyB_iff h
    simp only [bodyM, replyI_length]
    have h2 := itemsI_len xs 48 (fun x hx => (h1.2.2.2.2.2.2.2 x hx).2.2)
    have h3 : (3 + 48) * xs.length ≤ 51 * 5 := Nat.mul_le_mul (by omega) h1.2.2.2.2.2.2.1
    omega
  | stop a b => simp [bodyM, stopI, foursI_length]
  | other x => simp [bodyM]
  | none => simp [bodyM]
theorem bodyM_range (m : M) : ∀ z, z ∈ bodyM m → 0 ≤ z ∧ z < 256 := by
  cases m with
  | hello a b => exact foursI_range _
  | grant a b c => exact foursI_range _
  | ask sl q sh sq ep t k b f d s => exact range_app (foursI_range _) (range_app (textI_range _) (range_app (putI_range _ _) (range_app (putI_range _ _) (range_app (putI_range _ _) (range_app (putI_range _ _) (textI_range _))))))
  | reply sl q sh sq wk ep xs en => exact range_app (foursI_range _) (range_app (putI_range _ _) (range_app (itemsI_range _) (putI_range _ _)))
  | stop a b => exact foursI_range _
  | other x => intro z hz; cases hz
  | none => intro z hz; cases hz
theorem headI_range (m : M) : ∀ z, z ∈ headI (kindM m) (bodyM m) → 0 ≤ z ∧ z < 256 := by
  refine range_app (putI_range _ _) (range_app ?_ (bodyM_range m))
  intro z hz
  simp only [List.mem_singleton] at hz
  subst hz
  cases m <;> simp [kindM]
theorem headI_length (k : Int) (b : List Int) : (headI k b).length = 3 + b.length := by
  simp only [headI, List.length_append, putI_length, List.length_cons, List.length_nil]
  omega
theorem frameM_length (m : M) : (frameM m).length = 7 + (bodyM m).length := by
  simp only [frameM, frameI, List.length_append, headI_length, putI_length]
  omega
theorem frameM_range (m : M) : ∀ z, z ∈ frameM m → 0 ≤ z ∧ z < 256 := range_app (headI_range m) (putI_range _ _)
theorem fours_cons (x : Int) (l : List Int) : foursI (x :: l) = putI x 4 ++ foursI l := rfl
theorem read_back (m : M) (h : mayM m = true) : readM (headI (kindM m) (bodyM m)) (kindM m) 3 false = (m, (headI (kindM m) (bodyM m)).length, false) := by
  have hz := headI_range m
  have h0 : At (headI (kindM m) (bodyM m)) 3 (bodyM m) := ⟨putI ((bodyM m).length + 7) 2 ++ [(kindM m : Int)], by unfold headI; rw [List.append_assoc], by rw [List.length_append, putI_length]; rfl⟩
  have hp : (2 : Int) ^ (8 * 4) = 4294967296 := by decide
  have hp1 : (2 : Int) ^ (8 * 1) = 256 := by decide
  generalize headI (kindM m) (bodyM m) = zs at *
  cases m with
  | hello a b =>
    obtain ⟨r1, r2⟩ := helloB_iff h
    have h0' : At zs 3 (putI a 4 ++ (putI b 4 ++ [])) := h0
    obtain ⟨e1, h1⟩ := h0'.num (bad := false) hz (by omega) (by omega) (by omega)
    obtain ⟨e2, h2⟩ := h1.num (bad := false) hz (by omega) (by omega) (by omega)
    rw [← h2.end_]
    simp [readM, readHello, kindM, e1, e2]
  | grant a b c =>
    obtain ⟨r1, r2, r3⟩ := grantB_iff h
    have h0' : At zs 3 (putI a 4 ++ (putI b 4 ++ (putI c 4 ++ []))) := h0
    obtain ⟨e1, h1⟩ := h0'.num (bad := false) hz (by omega) (by omega) (by omega)
    obtain ⟨e2, h2⟩ := h1.num (bad := false) hz (by omega) (by omega) (by omega)
    obtain ⟨e3, h3⟩ := h2.num (bad := false) hz (by omega) (by omega) (by omega)
    rw [← h3.end_]
    simp [readM, readGrant, kindM, e1, e2, e3]
  | ask sl q sh sq ep t k b f d s =>
    obtain ⟨r1, r2, r3, r4, r5, r6, r7, r8, r9, r10⟩ := askB_iff h
    have h0' : At zs 3 (putI sl 4 ++ (putI q 4 ++ (putI sh 4 ++ (putI sq 4 ++ (putI ep 4 ++ (textI t ++ (putI k 1 ++ (putI b 1 ++ (putI (b2n f) 1 ++ (itemI d s ++ [])))))))))) := by
      have e : bodyM (.ask sl q sh sq ep t k b f d s) = (putI sl 4 ++ (putI q 4 ++ (putI sh 4 ++ (putI sq 4 ++ (putI ep 4 ++ (textI t ++ (putI k 1 ++ (putI b 1 ++ (putI (b2n f) 1 ++ (itemI d s ++ [])))))))))) := by
        simp only [bodyM, askI, foursI, List.flatMap_cons, List.flatMap_nil, List.append_assoc, List.append_nil, List.nil_append]
      rw [← e]
      exact h0
    obtain ⟨e1, h1⟩ := h0'.num (bad := false) hz (by omega) (by omega) (by omega)
    obtain ⟨e2, h2⟩ := h1.num (bad := false) hz (by omega) (by omega) (by omega)
    obtain ⟨e3, h3⟩ := h2.num (bad := false) hz (by omega) (by omega) (by omega)
    obtain ⟨e4, h4⟩ := h3.num (bad := false) hz (by omega) (by omega) (by omega)
    obtain ⟨e5, h5⟩ := h4.num (bad := false) hz (by omega) (by omega) (by omega)
    obtain ⟨e6, h6⟩ := h5.text (bad := false) hz (by omega)
    obtain ⟨e7, h7⟩ := h6.num (bad := false) hz (by omega) (by omega) (by omega)
    obtain ⟨e8, h8⟩ := h7.num (bad := false) hz (by omega) (by omega) (by omega)
    obtain ⟨e9, h9⟩ := h8.flag hz
    obtain ⟨e10, h10⟩ := h9.item (bad := false) hz (by omega) (by omega) (by omega)
    rw [← h10.end_]
    simp [readM, readAsk, kindM, e1, e2, e3, e4, e5, e6, e7, e8, e9, e10]
  | reply sl q sh sq wk ep xs en =>
    obtain ⟨r1, r2, r3, r4, r5, r6, r7, r8⟩ := replyB_iff h
    have h0' : At zs 3 (putI sl 4 ++ (putI q 4 ++ (putI sh 4 ++ (putI sq 4 ++ (putI wk 4 ++ (putI ep 4 ++ (putI xs.length 1 ++ (itemsI xs ++ (putI (b2n en) 1 ++ []))))))))) := by
      have e : bodyM (.reply sl q sh sq wk ep xs en) = (putI sl 4 ++ (putI q 4 ++ (putI sh 4 ++ (putI sq 4 ++ (putI wk 4 ++ (putI ep 4 ++ (putI xs.length 1 ++ (itemsI xs ++ (putI (b2n en) 1 ++ []))))))))) := by
        simp only [bodyM, replyI, foursI, List.flatMap_cons, List.flatMap_nil, List.append_assoc, List.append_nil, List.nil_append]
      rw [← e]
      exact h0
    obtain ⟨e1, h1⟩ := h0'.num (bad := false) hz (by omega) (by omega) (by omega)
    obtain ⟨e2, h2⟩ := h1.num (bad := false) hz (by omega) (by omega) (by omega)
    obtain ⟨e3, h3⟩ := h2.num (bad := false) hz (by omega) (by omega) (by omega)
    obtain ⟨e4, h4⟩ := h3.num (bad := false) hz (by omega) (by omega) (by omega)
    obtain ⟨e5, h5⟩ := h4.num (bad := false) hz (by omega) (by omega) (by omega)
    obtain ⟨e6, h6⟩ := h5.num (bad := false) hz (by omega) (by omega) (by omega)
    obtain ⟨e7, h7⟩ := h6.num (bad := false) hz (by omega) (by omega) (by omega)
    obtain ⟨a8, e8, h8⟩ := At.items hz xs h7 (fun x hx => by have := r8 x hx; omega)
    obtain ⟨e9, h9⟩ := h8.flag hz
    rw [← h9.end_]
    simp [readM, readReply, kindM, e1, e2, e3, e4, e5, e6, e7, e8, e9]
  | stop a b =>
    obtain ⟨r1, r2⟩ := stopB_iff h
    have h0' : At zs 3 (putI a 4 ++ (putI b 4 ++ [])) := h0
    obtain ⟨e1, h1⟩ := h0'.num (bad := false) hz (by omega) (by omega) (by omega)
    obtain ⟨e2, h2⟩ := h1.num (bad := false) hz (by omega) (by omega) (by omega)
    rw [← h2.end_]
    simp [readM, readStop, kindM, e1, e2]
  | other x => cases h
  | none => cases h
theorem dec_frame (m : M) (h : mayM m = true) : decI (frameM m) = (0, m) := by
  have hl := frameM_length m
  have hb := bodyM_length m h
  have hr := frameM_range m
  have hh := headI_length (kindM m) (bodyM m)
  have hsum : 0 ≤ addI 0 (headI (kindM m) (bodyM m)) ∧ addI 0 (headI (kindM m) (bodyM m)) < 4294967296 := addI_range 0 _ (by omega) (headI_range m)
  have e1 : numI (frameM m) 0 2 = ((frameM m).length : Int) := by
    have ef : frameM m = [] ++ (putI ((bodyM m).length + 7) 2 ++ (([(kindM m : Int)] ++ bodyM m) ++ putI (addI 0 (headI (kindM m) (bodyM m))) 4)) := by
      unfold frameM frameI headI
      simp only [List.append_assoc, List.nil_append]
    have := numI_mid [] (([(kindM m : Int)] ++ bodyM m) ++ putI (addI 0 (headI (kindM m) (bodyM m))) 4) ((bodyM m).length + 7) 0 2 2 rfl rfl (by rw [← ef]; exact hr) (by omega) (by omega) (by simp; omega)
    rw [← ef] at this
    rw [this, hl]
    omega
  have e0 : (frameM m).length - 4 = (headI (kindM m) (bodyM m)).length := by omega
  have e2 : (frameM m).take ((frameM m).length - 4) = headI (kindM m) (bodyM m) := by
    rw [e0]
    unfold frameM frameI
    exact List.take_left' rfl
  have e3 : numI (frameM m) (((frameM m).length - 4 : Nat) : Int) 4 = addI 0 (headI (kindM m) (bodyM m)) := by
    rw [e0]
    have ef : frameM m = headI (kindM m) (bodyM m) ++ (putI (addI 0 (headI (kindM m) (bodyM m))) 4 ++ []) := by
      unfold frameM frameI
      rw [List.append_nil]
    have := numI_mid (headI (kindM m) (bodyM m)) [] (addI 0 (headI (kindM m) (bodyM m))) (headI (kindM m) (bodyM m)).length 4 4 rfl rfl (by rw [← ef]; exact hr) (by omega) hsum.1 (by simp; omega)
    rw [← ef] at this
    exact this
  have e4 : gi (frameM m) 2 = kindM m := by
    have ef : frameM m = putI ((bodyM m).length + 7) 2 ++ ((kindM m : Int) :: (bodyM m ++ putI (addI 0 (headI (kindM m) (bodyM m))) 4)) := by
      unfold frameM frameI headI
      simp only [List.append_assoc, List.cons_append, List.nil_append]
    rw [ef]
    unfold gi
    rw [List.getD_eq_getElem?_getD, List.getElem?_append_right (by rw [putI_length]; omega), putI_length]
    rfl
  unfold decI
  rw [e1, e2, e3, e4, read_back m h, if_neg (by omega), if_neg (by simp)]
  simp only
  rw [if_neg]
  rintro (h1 | h1 | h1)
  · cases h1
  · exact h1 e0.symm
  · rw [h] at h1; cases h1
end Go.Proofs.Ytajhkjikcgfhdaa
