/- Plain laws of texts: cut, split, numbers' texts; conditions: those of each theorem. -/
import Derived.Test.YtobkjnmdbkieeaaDoorASd
namespace Go.Proofs.YtobkjnmdbkieeaaDoor
open Go.Fx
set_option maxRecDepth 100000
set_option linter.unusedSimpArgs false
set_option linter.unusedVariables false
theorem index_none {c : UInt8} {t : List UInt8} : ∀ {x : List UInt8}, c ∉ x → Lib.index x (c :: t) = -1
  | [], _ => rfl
  | b :: x, h => by
    rw [List.mem_cons, not_or] at h
    have ih := index_none (t := t) h.2
    unfold Lib.index
    have h1 : (c :: t).isPrefixOf (b :: x) = false := by
      rw [List.isPrefixOf_cons_cons]
      have : (c == b) = false := by rw [beq_eq_false_iff_ne]; exact h.1
      rw [this, Bool.false_and]
    rw [h1, ih]
    rfl
theorem isPrefix_self (p r : List UInt8) : p.isPrefixOf (p ++ r) = true := by
  rw [List.isPrefixOf_iff_prefix]
  exact List.prefix_append p r
theorem index_at {c : UInt8} {t r : List UInt8} : ∀ {x : List UInt8}, c ∉ x → Lib.index (x ++ (c :: t ++ r)) (c :: t) = x.length
  | [], _ => by
    have := isPrefix_self (c :: t) r
    rw [List.nil_append, List.cons_append] at *
    unfold Lib.index
    rw [this]
    rfl
  | b :: x, h => by
    rw [List.mem_cons, not_or] at h
    have ih := index_at (t := t) (r := r) h.2
    rw [List.cons_append]
    unfold Lib.index
    have h1 : (c :: t).isPrefixOf (b :: (x ++ (c :: t ++ r))) = false := by
      rw [List.isPrefixOf_cons_cons]
      have : (c == b) = false := by rw [beq_eq_false_iff_ne]; exact h.1
      rw [this, Bool.false_and]
    rw [h1, ih]
    have : ((x.length : Int) == -1) = false := by rw [beq_eq_false_iff_ne]; omega
    simp [this]
theorem cut_at {c : UInt8} {t x r : List UInt8} (h : c ∉ x) : Lib.cut (x ++ (c :: t ++ r)) (c :: t) = (x, r, true) := by
  unfold Lib.cut
  rw [index_at h, if_pos (by omega), Int.toNat_natCast]
  rw [List.take_left, ← List.append_assoc, List.drop_left' (by simp)]
theorem cut_none {c : UInt8} {t x : List UInt8} (h : c ∉ x) : Lib.cut x (c :: t) = (x, [], false) := by
  unfold Lib.cut
  rw [index_none h, if_neg (by omega)]
theorem split_none {c : UInt8} {t x : List UInt8} (h : c ∉ x) : Lib.split x (c :: t) = [x] := by
  unfold Lib.split
  rw [Lib.count_miss (index_none h)]
  rfl
theorem split_at {c : UInt8} {t x r : List UInt8} (h : c ∉ x) : Lib.split (x ++ (c :: t ++ r)) (c :: t) = x :: Lib.split r (c :: t) := by
  unfold Lib.split
  have hi := index_at (t := t) (r := r) h
  have hd : (x ++ (c :: t ++ r)).drop (x.length + (c :: t).length) = r := by
    rw [← List.append_assoc, List.drop_left' (by simp)]
  rw [Lib.count_hit (by simp) hi, hd, Nat.add_comm 1, Lib.splitK, hi]
  have : ((x.length : Int) == -1) = false := by rw [beq_eq_false_iff_ne]; omega
  rw [this, Int.toNat_natCast, hd, Nat.add_zero, List.take_left]
  rfl
theorem split_join {c : UInt8} {t : List UInt8} : ∀ {L : List (List UInt8)}, L ≠ [] → (∀ x ∈ L, c ∉ x) → Lib.split (Lib.join L (c :: t)) (c :: t) = L
  | [], h, _ => absurd rfl h
  | [x], _, h => by rw [Lib.join_one, split_none (h x (by simp))]
  | x :: y :: L, _, h => by
    have ih := split_join (c := c) (t := t) (L := y :: L) (by simp) (fun z hz => h z (by simp [hz]))
    rw [Lib.join_cons] at ih ⊢
    have e : Lib.joinTail (c :: t) (y :: L) = c :: t ++ (y ++ Lib.joinTail (c :: t) L) := by simp [Lib.joinTail]
    rw [e, split_at (h x (by simp)), ih]
/-! ### numbers' texts -/
theorem valL_app (a : List UInt8) (b : UInt8) : valL (a ++ [b]) = valL a * 10 + (b.toNat - 48) := by
  unfold valL
  rw [List.foldl_append]
  rfl
theorem dig_nat {d : Nat} (h : d < 10) : (UInt8.ofNat (48 + d)).toNat = 48 + d := by
  rw [UInt8.toNat_ofNat']
  omega
theorem digB_dig {d : Nat} (h : d < 10) : digB (UInt8.ofNat (48 + d)) = true := by
  unfold digB
  rw [dig_nat h]
  exact decide_eq_true (by omega)
theorem decF_all : ∀ (f n : Nat), (decF f n).all digB = true
  | 0, n => rfl
  | f + 1, n => by
    by_cases h : n < 10
    · rw [decF_small h, List.all_cons, digB_dig h]
      rfl
    · rw [decF_big h, List.all_append, decF_all f, List.all_cons, digB_dig (show n % 10 < 10 by omega)]
      rfl
theorem decF_val : ∀ (f n : Nat), n < 10 ^ f → 0 < f → valL (decF f n) = n
  | 0, n, _, h => absurd h (by omega)
  | f + 1, n, hn, _ => by
    by_cases h : n < 10
    · rw [decF_small h]
      show 0 * 10 + ((UInt8.ofNat (48 + n)).toNat - 48) = n
      rw [dig_nat h]
      omega
    · have hf : 0 < f := by
        rcases Nat.eq_zero_or_pos f with rfl | h1
        · simp at hn; omega
        · exact h1
      rw [decF_big h, valL_app, decF_val f (n / 10) (by rw [Nat.div_lt_iff_lt_mul (by omega), ← Nat.pow_succ]; exact hn) hf, dig_nat (by omega)]
      omega
theorem decF_ne {f n : Nat} (hf : 0 < f) : decF f n ≠ [] := by
  obtain ⟨f, rfl⟩ : ∃ g, f = g + 1 := ⟨f - 1, by omega⟩
  by_cases h : n < 10
  · rw [decF_small h]; simp
  · rw [decF_big h]; simp
theorem decF_head : ∀ (f n : Nat), n < 10 ^ f → 0 < n → (decF f n)[0]? ≠ some 48
  | 0, n, hn, h => absurd hn (by simp; omega)
  | f + 1, n, hn, h0 => by
    by_cases h : n < 10
    · rw [decF_small h]
      intro e
      have e2 : UInt8.ofNat (48 + n) = 48 := Option.some.inj e
      have := congrArg UInt8.toNat e2
      rw [dig_nat h] at this
      have h48 : (48 : UInt8).toNat = 48 := rfl
      omega
    · have hf : 0 < f := by
        rcases Nat.eq_zero_or_pos f with rfl | h1
        · simp at hn; omega
        · exact h1
      have hne := decF_ne (n := n / 10) hf
      rw [decF_big h, List.getElem?_append_left (List.length_pos_iff.2 hne)]
      exact decF_head f (n / 10) (by rw [Nat.div_lt_iff_lt_mul (by omega), ← Nat.pow_succ]; exact hn) (by omega)
theorem number_dec {n : Int} (h : -10000000000 < n ∧ n < 10000000000) : numberF (dec n) = (n, true) := by
  have p20 : n.natAbs < 10 ^ 20 := by
    have : (10 : Nat) ^ 20 = 100000000000000000000 := by decide
    omega
  have hall := decF_all 20 n.natAbs
  have hval := decF_val 20 n.natAbs p20 (by omega)
  have hne := decF_ne (f := 20) (n := n.natAbs) (by omega)
  have hlen := decF_lenk 10 20 n.natAbs (by omega) (by omega)
  have hh := decF_head 20 n.natAbs p20
  have hdig : ∀ b ∈ decF 20 n.natAbs, digB b = true := List.all_eq_true.1 hall
  have hsm : n.natAbs = 0 → decF 20 n.natAbs = [48] := fun h => by rw [h]; rfl
  obtain ⟨D, hD⟩ : ∃ D, D = decF 20 n.natAbs := ⟨_, rfl⟩
  have hdec : dec n = if n < 0 then 45 :: D else D := by rw [dec, decN, hD]
  rw [← hD] at hall hval hne hlen hh hdig hsm
  have h1 : 1 < D.length → D[0]? ≠ some 48 := by
    intro hl
    by_cases h0 : n.natAbs = 0
    · rw [hsm h0] at hl
      exact absurd hl (by decide)
    · exact hh (by omega)
  by_cases hn : n < 0
  · rw [if_pos hn] at hdec
    have ht : Lib.trimPrefix (dec n) [45] = D := by rw [hdec]; rfl
    have hp : Lib.hasPrefix (dec n) [45] = true := by rw [hdec]; rfl
    unfold numberF
    rw [ht, hp, if_neg, hall, hval]
    · simp
      omega
    · rintro (h2 | h2 | h2 | h2)
      · exact hne h2
      · omega
      · exact h1 h2.1 h2.2
      · have := hh (by omega)
        rw [h2.2] at this
        exact this rfl
  · rw [if_neg hn] at hdec
    have hp : Lib.hasPrefix (dec n) [45] = false := by
      rw [hdec]
      cases hc : D with
      | nil => exact absurd hc hne
      | cons b D' =>
        have hb := hdig b (by rw [hc]; simp)
        unfold digB at hb
        rw [decide_eq_true_eq] at hb
        show ([45] : List UInt8).isPrefixOf (b :: D') = false
        rw [List.isPrefixOf_cons_cons]
        have : ((45 : UInt8) == b) = false := by
          rw [beq_eq_false_iff_ne]
          rintro rfl
          have h45 : (45 : UInt8).toNat = 45 := rfl
          omega
        rw [this, Bool.false_and]
    have ht : Lib.trimPrefix (dec n) [45] = D := by
      unfold Lib.trimPrefix
      rw [hp, hdec]
      rfl
    unfold numberF
    rw [ht, hp, if_neg, hall, hval]
    · simp
      omega
    · rintro (h2 | h2 | h2 | h2)
      · exact hne h2
      · omega
      · exact h1 h2.1 h2.2
      · exact absurd h2.1 (by decide)
theorem dec_sign {n : Int} : ∀ b ∈ dec n, b = 45 ∨ (48 ≤ b.toNat ∧ b.toNat ≤ 57) := by
  have hdig : ∀ b ∈ decN n.natAbs, digB b = true := List.all_eq_true.1 (decF_all 20 n.natAbs)
  have h2 : ∀ b ∈ decN n.natAbs, b = 45 ∨ (48 ≤ b.toNat ∧ b.toNat ≤ 57) := fun b hb => .inr (of_decide_eq_true (hdig b hb))
  intro b hb
  unfold dec at hb
  split at hb
  · rw [List.mem_cons] at hb
    rcases hb with rfl | hb
    · exact .inl rfl
    · exact h2 b hb
  · exact h2 b hb
end Go.Proofs.YtobkjnmdbkieeaaDoor
