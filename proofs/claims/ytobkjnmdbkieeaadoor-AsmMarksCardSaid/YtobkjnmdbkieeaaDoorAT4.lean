/- Lines of instructions are assembled to their words; conditions: those of each theorem. -/
import Derived.Test.YtobkjnmdbkieeaaDoorAT3
namespace Go.Proofs.YtobkjnmdbkieeaaDoor
open Go.Fx
set_option maxRecDepth 100000
set_option linter.unusedSimpArgs false
set_option linter.unusedVariables false
def selfL (t : List UInt8) : List (List UInt8) := [t]
theorem text_head {i : IZ} (h : encOk i = true) : ∃ b t, textF i = b :: t ∧ 97 ≤ b.toNat ∧ b.toNat ≤ 122 := by
  obtain ⟨ho, -⟩ := enc_ranges h
  obtain ⟨-, n2, n3, -⟩ := name_ok ho
  cases hn : nameR i with
  | nil => exact absurd hn n2
  | cons b t =>
    have hb := n3 b (by rw [hn]; simp)
    unfold textF
    rw [h, if_pos rfl, hn]
    split
    · exact ⟨b, t, rfl, hb⟩
    · exact ⟨b, _, rfl, hb⟩
theorem trim_text {b : UInt8} {t : List UInt8} (h : b ≠ 32) : Lib.trimLeftB (b :: t) 32 = b :: t := by
  unfold Lib.trimLeftB
  rw [List.dropWhile_cons, if_neg (by simpa using h)]
theorem trim_two (t : List UInt8) : Lib.trimLeftB (32 :: 32 :: t) 32 = Lib.trimLeftB t 32 := rfl
theorem hasSuffix_no {t : List UInt8} {c : UInt8} (h : c ∉ t) : Lib.hasSuffix t [c] = false := by
  rw [Bool.eq_false_iff]
  intro hs
  unfold Lib.hasSuffix at hs
  rw [List.isSuffixOf_iff_suffix] at hs
  exact h (hs.subset (by simp))
/-- a line of no mark. -/
theorem line_plain {t u : List UInt8} {k : Nat} (hu : Lib.trimLeftB u 32 = t) (h0 : t ≠ []) (h35 : t[0]? ≠ some 35) (h58 : (58 : UInt8) ∉ t) : lineF k u = some ⟨k, t, false⟩ := by
  unfold lineF
  dsimp only
  rw [hu, hasSuffix_no h58]
  rw [if_neg]
  · rfl
  · rintro (h | h)
    · exact h0 h
    · cases t with
      | nil => exact h0 rfl
      | cons b t =>
        unfold Lib.hasPrefix at h
        rw [List.isPrefixOf_cons_cons, Bool.and_eq_true, beq_iff_eq] at h
        exact h35 (by rw [← h.1]; rfl)
theorem text_line {i : IZ} (h : encOk i = true) (k : Nat) : lineF k (32 :: 32 :: textF i) = some ⟨k, textF i, false⟩ ∧ lineF k (textF i) = some ⟨k, textF i, false⟩ := by
  obtain ⟨b, t, e, h1, h2⟩ := text_head h
  have hne : ∀ c : UInt8, ¬ (97 ≤ c.toNat ∧ c.toNat ≤ 122) → b ≠ c := fun c hc e => hc (e ▸ ⟨h1, h2⟩)
  have ht : Lib.trimLeftB (textF i) 32 = textF i := by
    rw [e]
    exact trim_text (hne 32 (by decide))
  have h35 : (textF i)[0]? ≠ some 35 := by
    rw [e]
    intro h
    exact hne 35 (by decide) (Option.some.inj h)
  have h58 : (58 : UInt8) ∉ textF i := by
    intro h
    rcases text_sign h with h | h | h | h | h
    · exact absurd h (by decide)
    · exact absurd h (by decide)
    · exact absurd h (by decide)
    · exact absurd h (by decide)
    · exact absurd h (by decide)
  have h0 : textF i ≠ [] := by rw [e]; simp
  exact ⟨line_plain (by rw [trim_two, ht]) h0 h35 h58, line_plain ht h0 h35 h58⟩
theorem text_plain {i : IZ} (h : encOk i = true) : Plain (textF i) := by
  obtain ⟨ho, -⟩ := enc_ranges h
  obtain ⟨-, n2, n3, n4, n5, n6, n7, n8⟩ := name_ok ho
  obtain ⟨-, -, -, hc⟩ := parse_parts h
  refine ⟨fun e => n4 ?_, fun e => n5 ?_, .inr ⟨?_, ?_, ?_⟩⟩
  · rw [← hc, e]
    decide
  · rw [← hc, e]
    decide
  · rw [hc]; exact n6
  · rw [hc]; exact n7
  · rw [hc]; exact n8
theorem told_none {A T : List UInt8 → Option Int} {s : List UInt8} {n : Int} (h : ∀ b, T b = none) : toldF A T s n = s := by
  unfold toldF
  rw [h]
  split
  · rfl
  · rw [if_pos (.inl (by simp))]
theorem inner_text {A T : List UInt8 → Option Int} {i : IZ} {out : List Nat} (hT : toldF A T (textF i) out.length = textF i) (h : encOk i = true) : innerF A T (selfL (textF i)) out = some (out ++ [encR i]) := by
  obtain ⟨x, hx, ha⟩ := parse_back h
  obtain ⟨e1, e2⟩ := agree_enc ha
  unfold selfL innerF
  rw [hT, hx]
  dsimp only
  rw [e1, h, e2]
  rfl
/-- the lines of instructions. -/
def mkLines : Nat → List IZ → List Ln
  | _, [] => []
  | k, i :: l => ⟨k + 1, textF i, false⟩ :: mkLines (k + 1) l
theorem mkLines_len : ∀ (l : List IZ) (k : Nat), (mkLines k l).length = l.length
  | [], _ => rfl
  | i :: l, k => by rw [mkLines, List.length_cons, mkLines_len l, List.length_cons]
theorem mkLines_mem : ∀ (l : List IZ) (k : Nat) (x : Ln), x ∈ mkLines k l → x.m = false ∧ (∃ i ∈ l, x.t = textF i) ∧ 0 < x.n ∧ x.n ≤ k + l.length
  | [], _, x, h => by simp [mkLines] at h
  | i :: l, k, x, h => by
    rw [mkLines, List.mem_cons] at h
    rcases h with rfl | h
    · exact ⟨rfl, ⟨i, by simp, rfl⟩, Nat.succ_pos _, by simp⟩
    · obtain ⟨h1, ⟨j, hj, h2⟩, h3, h4⟩ := mkLines_mem l (k + 1) x h
      exact ⟨h1, ⟨j, by simp [hj], h2⟩, h3, by rw [List.length_cons]; omega⟩
theorem lines_of (f : IZ → List UInt8) (hf : ∀ i k, encOk i = true → lineF k (f i) = some ⟨k, textF i, false⟩) : ∀ (l : List IZ) (k : Nat), (∀ i ∈ l, encOk i = true) → linesFrom k (l.map f ++ [[]]) = mkLines k l
  | [], k, _ => rfl
  | i :: l, k, h => by
    rw [List.map_cons, List.cons_append, linesFrom, hf i _ (h i (by simp)), lines_of f hf l (k + 1) fun j hj => h j (by simp [hj])]
    rfl
theorem count_plain : ∀ (L : List Ln) (p : Mk), (∀ x ∈ L, x.m = false) → L.foldl (stepC selfL) p = ⟨p.a, p.t, p.n + L.length⟩
  | [], p, _ => rfl
  | x :: L, p, h => by
    rw [List.foldl_cons, count_plain L _ fun y hy => h y (by simp [hy])]
    unfold stepC
    rw [h x (by simp)]
    simp [selfL]
    omega
theorem go_plain {A T : List UInt8 → Option Int} (hT : ∀ b, T b = none) : ∀ (l : List IZ) (k : Nat) (met : List UInt8 → Bool) (out : List Nat), (∀ i ∈ l, encOk i = true) → asmGo selfL A T (mkLines k l) met out = .ok (out ++ l.map encR)
  | [], k, met, out, _ => by rw [mkLines, asmGo]; simp
  | i :: l, k, met, out, h => by
    rw [mkLines, asmGo]
    dsimp only
    rw [inner_text (told_none hT) (h i (by simp))]
    rw [if_neg (by decide)]
    dsimp only
    rw [go_plain hT l (k + 1) met _ fun j hj => h j (by simp [hj])]
    simp
/-- texts, a line each. -/
def textL (f : IZ → List UInt8) (l : List IZ) : List UInt8 := l.flatMap fun i => f i ++ [10]
theorem split_lines (f : IZ → List UInt8) : ∀ (l : List IZ), (∀ i ∈ l, (10 : UInt8) ∉ f i) → Lib.split (textL f l) [10] = l.map f ++ [[]]
  | [], _ => by
    show Lib.split [] [10] = [[]]
    exact split_none (c := 10) (t := []) (by simp)
  | i :: l, h => by
    have e : textL f (i :: l) = f i ++ (10 :: [] ++ textL f l) := by simp [textL]
    rw [e, split_at (h i (by simp)), split_lines f l fun j hj => h j (by simp [hj])]
    rfl
end Go.Proofs.YtobkjnmdbkieeaaDoor
