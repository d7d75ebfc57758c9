/- What is told of an instruction is parsed as it: joined; conditions: those of each theorem. -/
import Derived.Test.YtobkjnmdbkieeaaDoorAT2
namespace Go.Proofs.YtobkjnmdbkieeaaDoor
open Go.Fx
set_option maxRecDepth 100000
set_option linter.unusedSimpArgs false
set_option linter.unusedVariables false
theorem enc_ranges {i : IZ} (h : encOk i = true) : okOp i.op = true ∧ ((hasS (rowZ i.op).s).1 = true → 0 ≤ i.rd ∧ i.rd < 32) ∧ ((hasS (rowZ i.op).s).2.1 = true → 0 ≤ i.r1 ∧ i.r1 < 32) ∧ ((hasS (rowZ i.op).s).2.2 = true → 0 ≤ i.r2 ∧ i.r2 < 32) ∧ ((laidS (rowZ i.op).s).1 ≠ [] → -10000000000 < i.im ∧ i.im < 10000000000) := by
  unfold encOk at h
  dsimp only at h
  rw [Bool.and_eq_true, Bool.and_eq_true] at h
  obtain ⟨⟨h1, h2⟩, h3⟩ := h
  unfold regsI at h3
  dsimp only at h3
  simp only [List.all_cons, List.all_nil, Bool.and_true, Bool.and_eq_true] at h3
  obtain ⟨h4, h5, h6⟩ := h3
  have key : ∀ (t : Bool) (a : Nat) (r : Int), okTr (t, a, r) = true → t = true → 0 ≤ r ∧ r < 32 := by
    intro t a r h ht
    rw [ht] at h
    have : fitsU r 5 = true := h
    unfold fitsU at this
    rw [decide_eq_true_eq] at this
    have e5 : ((2 ^ 5 : Nat) : Int) = 32 := by decide
    omega
  refine ⟨h1, key _ _ _ h4, key _ _ _ h5, key _ _ _ h6, fun hne => ?_⟩
  have hn : ((laidS (rowZ i.op).s).1.length == 0) = false := by
    rw [beq_eq_false_iff_ne]
    intro e
    exact hne (List.length_eq_zero_iff.1 e)
  have hb : (laidS (rowZ i.op).s).2.1 ≤ 32 := by
    have hall : ∀ s, (laidS s).2.1 ≤ 32 := by
      intro s
      unfold laidS
      repeat' split
      all_goals decide
    exact hall _
  unfold fitsL at h2
  rw [hn, Bool.false_or, Bool.and_eq_true] at h2
  have h7 := h2.1
  generalize (laidS (rowZ i.op).s).2.1 = b at *
  have hp : (2 : Nat) ^ b ≤ 2 ^ 32 := Nat.pow_le_pow_right (by decide) hb
  have hp2 : (2 : Nat) ^ (b - 1) ≤ 2 ^ 32 := Nat.pow_le_pow_right (by decide) (by omega)
  have e32 : (2 : Nat) ^ 32 = 4294967296 := by decide
  split at h7
  · unfold fitsS at h7
    rw [decide_eq_true_eq] at h7
    omega
  · unfold fitsU at h7
    rw [decide_eq_true_eq] at h7
    omega
theorem part_sign {i : IZ} {b c : UInt8} (h : c ∈ partF i b) : c = 99 ∨ c = 45 ∨ (48 ≤ c.toNat ∧ c.toNat ≤ 57) := by
  have key : ∀ n, c ∈ 99 :: dec n → c = 99 ∨ c = 45 ∨ (48 ≤ c.toNat ∧ c.toNat ≤ 57) := by
    intro n h
    rw [List.mem_cons] at h
    rcases h with h | h
    · exact .inl h
    · exact .inr (dec_sign c h)
  unfold partF at h
  split at h
  · exact key _ h
  · split at h
    · exact key _ h
    · split at h
      · exact key _ h
      · exact .inr (dec_sign c h)
theorem name_no {i : IZ} (h : okOp i.op = true) {c : UInt8} (hc : ¬ (97 ≤ c.toNat ∧ c.toNat ≤ 122)) : c ∉ nameR i := fun hm => hc ((name_ok h).2.2.1 c hm)
theorem parse_parts {i : IZ} (h : encOk i = true) : parseOp (textF i) = i.op ∧ parseL (textF i) = (orderS (rowZ i.op).s).map (partF i) ∧ textF i ≠ [] ∧ (Lib.cut (textF i) [32]).1 = nameR i := by
  obtain ⟨ho, -⟩ := enc_ranges h
  obtain ⟨n1, n2, n3, -⟩ := name_ok ho
  have h32 : (32 : UInt8) ∉ nameR i := name_no ho (by decide)
  unfold parseOp parseL textF
  rw [h, if_pos rfl]
  by_cases h0 : orderS (rowZ i.op).s = []
  · rw [if_pos h0, h0, cut_none h32]
    exact ⟨n1, rfl, n2, rfl⟩
  · rw [if_neg h0]
    have hc := cut_at (c := 32) (t := []) (x := nameR i) (r := Lib.join ((orderS (rowZ i.op).s).map (partF i)) [44, 32]) h32
    have e : [32] ++ Lib.join ((orderS (rowZ i.op).s).map (partF i)) [44, 32] = 32 :: [] ++ Lib.join ((orderS (rowZ i.op).s).map (partF i)) [44, 32] := rfl
    rw [e, hc]
    refine ⟨n1, ?_, ?_, rfl⟩
    · rw [if_pos rfl]
      refine split_join (by simpa using h0) fun x hx => ?_
      obtain ⟨b, -, rfl⟩ := List.mem_map.1 hx
      intro h44
      rcases part_sign h44 with h1 | h1 | h1
      · exact absurd h1 (by decide)
      · exact absurd h1 (by decide)
      · exact absurd h1.1 (by decide)
    · simp [n2]
theorem parse_back {i : IZ} (h : encOk i = true) : ∃ x, parseF (textF i) = (x, true) ∧ agreeI i x := by
  obtain ⟨p1, p2, p3, -⟩ := parse_parts h
  obtain ⟨ho, e1, e2, e3, e4⟩ := enc_ranges h
  obtain ⟨q1, q2, q3, q4, q5, q6⟩ := order_has (rowZ i.op).s (rowZ_sh i.op)
  have ho2 := ho
  unfold okOp at ho2
  rw [decide_eq_true_eq] at ho2
  have hop : parseOp (textF i) ≠ 0 := by omega
  obtain ⟨x, hx, hxop, r1, r2, r3, r4, -⟩ := fold_back (i := i) (orderS (rowZ i.op).s) ⟨i.op, 0, 0, 0, 0⟩ q6 q5 (fun h => e1 (q1.2 h)) (fun h => e2 (q2.2 h)) (fun h => e3 (q3.2 h)) (fun h => e4 (q4.2 h))
  have ha : agreeI i x := ⟨hxop, fun h => r1 (q1.1 h), fun h => r2 (q2.1 h), fun h => r3 (q3.1 h), fun h => r4 (q4.1 h)⟩
  refine ⟨x, ?_, ha⟩
  unfold parseF
  rw [p1, p2, if_neg (by rintro (h5 | h5); exact hop h5; exact h5 (by simp))]
  have hP : parseP (textF i) = (x, true) := by
    unfold parseP
    rw [p1, p2, hx]
  rw [hP]
  dsimp only
  rw [(agree_enc ha).1, h]
  rfl
theorem text_agree {i x : IZ} (h : encOk i = true) (ha : agreeI i x) : textF x = textF i := by
  have he := (agree_enc ha).1
  obtain ⟨h0, h1, h2, h3, h4⟩ := ha
  obtain ⟨q1, q2, q3, q4, q5, q6⟩ := order_has (rowZ i.op).s (rowZ_sh i.op)
  have hn : nameR x = nameR i := by unfold nameR; rw [h0]
  have hm : (orderS (rowZ i.op).s).map (partF x) = (orderS (rowZ i.op).s).map (partF i) := by
    apply List.map_congr_left
    intro b hb
    rcases q5 b hb with rfl | rfl | rfl | rfl
    · show 99 :: dec x.rd = 99 :: dec i.rd
      rw [h1 (q1.2 hb)]
    · show 99 :: dec x.r1 = 99 :: dec i.r1
      rw [h2 (q2.2 hb)]
    · show 99 :: dec x.r2 = 99 :: dec i.r2
      rw [h3 (q3.2 hb)]
    · show dec x.im = dec i.im
      rw [h4 (q4.2 hb)]
  unfold textF
  rw [he, h0, hn, hm]
theorem text_none {i : IZ} (h : encOk i = false) : textF i = [] := by
  unfold textF
  rw [h]
  rfl
theorem parse_nil : parseF [] = (izZ, false) := by decide
/-- the signs of an instruction's text. -/
theorem text_sign {i : IZ} {c : UInt8} (h : c ∈ textF i) : (97 ≤ c.toNat ∧ c.toNat ≤ 122) ∨ c = 45 ∨ (48 ≤ c.toNat ∧ c.toNat ≤ 57) ∨ c = 32 ∨ c = 44 := by
  unfold textF at h
  split at h
  · rename_i he
    obtain ⟨ho, -⟩ := enc_ranges he
    have hn := (name_ok ho).2.2.1
    split at h
    · exact .inl (hn c h)
    · rw [List.mem_append, List.mem_append] at h
      rcases h with h | h | h
      · exact .inl (hn c h)
      · simp at h
        exact .inr (.inr (.inr (.inl h)))
      · have key : ∀ (L : List (List UInt8)), (∀ x ∈ L, ∀ c ∈ x, c = 99 ∨ c = 45 ∨ (48 ≤ c.toNat ∧ c.toNat ≤ 57)) → ∀ c ∈ Lib.join L [44, 32], c = 99 ∨ c = 45 ∨ (48 ≤ c.toNat ∧ c.toNat ≤ 57) ∨ c = 32 ∨ c = 44 := by
          intro L hL c hc
          cases L with
          | nil => simp [Lib.join_nil] at hc
          | cons x L =>
            rw [Lib.join_cons, List.mem_append] at hc
            rcases hc with hc | hc
            · rcases hL x (by simp) c hc with h | h | h
              · exact .inl h
              · exact .inr (.inl h)
              · exact .inr (.inr (.inl h))
            · unfold Lib.joinTail at hc
              rw [List.mem_flatten] at hc
              obtain ⟨y, hy, hcy⟩ := hc
              obtain ⟨z, hz, rfl⟩ := List.mem_map.1 hy
              rw [List.mem_append] at hcy
              rcases hcy with hcy | hcy
              · simp at hcy
                rcases hcy with rfl | rfl
                · exact .inr (.inr (.inr (.inr rfl)))
                · exact .inr (.inr (.inr (.inl rfl)))
              · rcases hL z (by simp [hz]) c hcy with h | h | h
                · exact .inl h
                · exact .inr (.inl h)
                · exact .inr (.inr (.inl h))
        rcases key _ (by
          intro x hx c hc
          obtain ⟨b, -, rfl⟩ := List.mem_map.1 hx
          exact part_sign hc) c h with rfl | h | h | h | h
        · exact .inl (by decide)
        · exact .inr (.inl h)
        · exact .inr (.inr (.inl h))
        · exact .inr (.inr (.inr (.inl h)))
        · exact .inr (.inr (.inr (.inr h)))
  · simp at h
end Go.Proofs.YtobkjnmdbkieeaaDoor
