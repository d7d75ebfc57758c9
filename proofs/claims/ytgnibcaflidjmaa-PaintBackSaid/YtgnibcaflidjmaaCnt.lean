/- Granules counted, and sets of granules told by truth values; plainly; conditions: those of each theorem. -/
import Derived.Test.YtgnibcaflidjmaaTags
import Derived.Test.YtgnibcaflidjmaaOnes2
namespace Go.Proofs.Ytgnibcaflidjmaa
open Go.Fx
set_option linter.unusedSimpArgs false
set_option linter.unusedVariables false
/-- how many of the first n. -/
def cnt (B : Nat → Bool) : Nat → Nat
  | 0 => 0
  | n + 1 => cnt B n + (if B n then 1 else 0)
theorem cnt_congr {A B : Nat → Bool} : ∀ n, (∀ i, i < n → A i = B i) → cnt A n = cnt B n
  | 0, _ => rfl
  | n + 1, h => by rw [cnt, cnt, cnt_congr n fun i hi => h i (by omega), h n (by omega)]
theorem cnt_add (B : Nat → Bool) (m : Nat) : ∀ n, cnt B (m + n) = cnt B m + cnt (fun i => B (m + i)) n
  | 0 => rfl
  | n + 1 => by rw [← Nat.add_assoc, cnt, cnt_add B m n, cnt, Nat.add_assoc]
theorem cnt_front (B : Nat → Bool) (n : Nat) : cnt B (n + 1) = (if B 0 then 1 else 0) + cnt (fun i => B (i + 1)) n := by
  rw [Nat.add_comm n 1, cnt_add B 1 n]
  simp [cnt, Nat.add_comm]
theorem cnt_le (B : Nat → Bool) : ∀ n, cnt B n ≤ n
  | 0 => Nat.le_refl _
  | n + 1 => by
    have := cnt_le B n
    rw [cnt]
    split <;> omega
theorem cnt_or_and (A B : Nat → Bool) : ∀ n, cnt (fun i => A i || B i) n + cnt (fun i => A i && B i) n = cnt A n + cnt B n
  | 0 => rfl
  | n + 1 => by
    have := cnt_or_and A B n
    simp only [cnt]
    rcases Bool.eq_false_or_eq_true (A n) with ha | ha <;> rcases Bool.eq_false_or_eq_true (B n) with hb | hb <;> simp only [ha, hb, Bool.or_self, Bool.and_self, Bool.or_true, Bool.true_or, Bool.and_true, Bool.and_false, Bool.false_and, Bool.true_and, Bool.or_false, Bool.false_or, Bool.not_true, Bool.not_false, if_true, if_false, Bool.false_eq_true] <;> omega
theorem cnt_less_and (A B : Nat → Bool) : ∀ n, cnt (fun i => A i && !B i) n + cnt (fun i => A i && B i) n = cnt A n
  | 0 => rfl
  | n + 1 => by
    have := cnt_less_and A B n
    simp only [cnt]
    rcases Bool.eq_false_or_eq_true (A n) with ha | ha <;> rcases Bool.eq_false_or_eq_true (B n) with hb | hb <;> simp only [ha, hb, Bool.or_self, Bool.and_self, Bool.or_true, Bool.true_or, Bool.and_true, Bool.and_false, Bool.false_and, Bool.true_and, Bool.or_false, Bool.false_or, Bool.not_true, Bool.not_false, if_true, if_false, Bool.false_eq_true] <;> omega
theorem cnt_none {B : Nat → Bool} : ∀ n, (∀ i, i < n → B i = false) → cnt B n = 0
  | 0, _ => rfl
  | n + 1, h => by rw [cnt, cnt_none n fun i hi => h i (by omega), h n (by omega)]; rfl
theorem pcN_cnt : ∀ n x, pcN n x = cnt x.testBit n
  | 0, _ => rfl
  | n + 1, x => by
    rw [pcN, cnt_front, pcN_cnt n (x / 2)]
    congr 1
    · rw [Nat.testBit_zero]
      rcases Nat.mod_two_eq_zero_or_one x with h | h <;> simp [h]
    · exact cnt_congr n fun i _ => by rw [Nat.testBit_succ]
/-- a word of truth values. -/
def wordOf (f : Nat → Bool) (o : Nat) : Nat → Nat
  | 0 => 0
  | n + 1 => 2 ^ n * (if f (o + n) then 1 else 0) + wordOf f o n
theorem wordOf_lt (f : Nat → Bool) (o : Nat) : ∀ n, wordOf f o n < 2 ^ n
  | 0 => by simp [wordOf]
  | n + 1 => by
    have := wordOf_lt f o n
    rw [wordOf, Nat.pow_succ]
    split <;> omega
theorem wordOf_bit (f : Nat → Bool) (o : Nat) : ∀ n i, (wordOf f o n).testBit i = (decide (i < n) && f (o + i))
  | 0, i => by simp [wordOf]
  | n + 1, i => by
    rw [wordOf, Nat.testBit_two_pow_mul_add _ (wordOf_lt f o n)]
    by_cases h : i < n
    · rw [if_pos h, wordOf_bit f o n i, decide_eq_true h, decide_eq_true (by omega : i < n + 1)]
    · rw [if_neg h]
      by_cases h2 : i = n
      · subst h2
        rw [Nat.sub_self, decide_eq_true (by omega : i < i + 1)]
        cases f (o + i) <;> rfl
      · rw [decide_eq_false (by omega), Bool.false_and]
        have : i - n ≠ 0 := by omega
        obtain ⟨m, hm⟩ : ∃ m, i - n = m + 1 := ⟨i - n - 1, by omega⟩
        rw [hm, Nat.testBit_succ]
        split <;> simp
/-- the words of a set that is told by truth values. -/
def ofB (f : Nat → Bool) (k : Nat) : Int := (wordOf f (64 * k) 64 : Nat)
theorem ofB_ok (f : Nat → Bool) : Wok (ofB f) := fun k => by
  have := wordOf_lt f (64 * k) 64
  unfold ofB
  omega
theorem bit_ofB (f : Nat → Bool) (i : Nat) : bit (ofB f) i = f i := by
  unfold bit ofB
  rw [Int.toNat_natCast, wordOf_bit, decide_eq_true (by omega : i % 64 < 64), Bool.true_and]
  congr 1
  omega
/-- a set's cells. -/
def tsC (f : Nat → Bool) : List Value := tgC (ofB f)
theorem tsC_of {g : Nat → Int} {f : Nat → Bool} (hg : Wok g) (h : ∀ j, j < 256 → bit g j = f j) : tgC g = tsC f := bits_eq hg (ofB_ok f) fun i hi => by rw [h i hi, bit_ofB]
theorem tsC_congr {f g : Nat → Bool} (h : ∀ j, j < 256 → f j = g j) : tsC f = tsC g := tsC_of (ofB_ok f) fun j hj => by rw [bit_ofB, h j hj]
theorem tsC_len (f : Nat → Bool) : (tsC f).length = 4 := by simp [tsC, tgC_len]
theorem tsC_sub (f : Nat → Bool) : sub (tsC f) 0 4 = tsC f := tgC_sub _
theorem tsC_all (f : Nat → Bool) : (tsC f).all (fun v => v.oneCell') = true := tgC_all _
theorem tsC_over (g h : Nat → Bool) : splice (tsC g) 0 (tsC h) = tsC h := tgC_over _ _
theorem tsC_over2 (g h : Nat → Bool) : tsC h ++ List.drop (tsC h).length (tsC g) = tsC h := tgC_over2 _ _
theorem tsC_get {f : Nat → Bool} {k : Nat} (h : k < 4) : (tsC f)[k]? = some (.int .u64 (ofB f k)) := tgC_get h
theorem tsC_zero : tsC (fun _ => false) = [.int .u64 0, .int .u64 0, .int .u64 0, .int .u64 0] := by
  rw [← tgC_zero]
  exact (tsC_of Wok.zero fun j _ => bit_zero j).symm
theorem ofB_cnt (f : Nat → Bool) (k : Nat) : pcN 64 (ofB f k).toNat = cnt (fun i => f (64 * k + i)) 64 := by
  rw [pcN_cnt]
  refine cnt_congr 64 fun i hi => ?_
  show (((wordOf f (64 * k) 64 : Nat) : Int).toNat).testBit i = _
  rw [Int.toNat_natCast, wordOf_bit, decide_eq_true hi, Bool.true_and]
theorem cnt4 (f : Nat → Bool) : cnt f 256 = pcN 64 (ofB f 0).toNat + pcN 64 (ofB f 1).toNat + pcN 64 (ofB f 2).toNat + pcN 64 (ofB f 3).toNat := by
  simp only [ofB_cnt]
  rw [show (256 : Nat) = 64 + (64 + (64 + 64)) by rfl, cnt_add, cnt_add, cnt_add]
  simp only [Nat.mul_zero, Nat.zero_add, Nat.mul_one, Nat.reduceMul, ← Nat.add_assoc, Nat.reduceAdd]
/-- is there one? -/
def anyB (f : Nat → Bool) : Bool := (List.range 256).any f
theorem anyB_iff {f : Nat → Bool} : anyB f = true ↔ ∃ j, j < 256 ∧ f j = true := by simp [anyB]
theorem anyB_no {f : Nat → Bool} : anyB f = false ↔ ∀ j, j < 256 → f j = false := by simp [anyB]
/-- the sum over pages. -/
def sumTo (c : Nat → Nat) : Nat → Nat
  | 0 => 0
  | n + 1 => sumTo c n + c n
theorem sumTo_congr {c d : Nat → Nat} : ∀ n, (∀ i, i < n → c i = d i) → sumTo c n = sumTo d n
  | 0, _ => rfl
  | n + 1, h => by rw [sumTo, sumTo, sumTo_congr n fun i hi => h i (by omega), h n (by omega)]
theorem sumTo_one {c : Nat → Nat} {k x : Nat} (h0 : c k = 0) : ∀ n, k < n → sumTo (fun a => if a = k then x else c a) n = x + sumTo c n
  | 0, h => by omega
  | n + 1, h => by
    rw [sumTo, sumTo]
    by_cases hk : k = n
    · subst hk
      rw [if_pos rfl, h0, sumTo_congr (d := c) k fun i hi => by rw [if_neg (by omega)]]
      omega
    · rw [sumTo_one h0 n (by omega), if_neg (Ne.symm hk)]
      omega
theorem sum_list {ν : Type} (c : ν → Nat) (n : Nat) : ∀ (l : List (Nat × ν)), (l.map (·.1)).Nodup → (∀ p ∈ l, p.1 < n) → (l.map fun p => c p.2).sum = sumTo (fun a => ((getM l a).map c).getD 0) n
  | [], _, _ => by
    have : ∀ n, sumTo (fun a => ((getM ([] : List (Nat × ν)) a).map c).getD 0) n = 0 := by
      intro n
      induction n with
      | zero => rfl
      | succ n ih => rw [sumTo, ih]; rfl
    rw [this]; rfl
  | (k, v) :: l, h, hn => by
    simp only [List.map_cons, List.nodup_cons] at h
    rw [List.map_cons, List.sum_cons, sum_list c n l h.2 fun p hp => hn p (List.mem_cons_of_mem _ hp)]
    have h0 : ((getM l k).map c).getD 0 = 0 := by rw [getM_none.2 h.1]; rfl
    rw [← sumTo_one (c := fun a => ((getM l a).map c).getD 0) (x := c v) h0 n (hn _ (List.mem_cons_self ..))]
    refine sumTo_congr n fun a _ => ?_
    rw [getM_cons]
    split <;> rfl
theorem cnt_pages (B : Nat → Bool) : ∀ n, cnt B (256 * n) = sumTo (fun k => cnt (fun j => B (256 * k + j)) 256) n
  | 0 => rfl
  | n + 1 => by rw [Nat.mul_succ, cnt_add, cnt_pages B n, sumTo]
end Go.Proofs.Ytgnibcaflidjmaa
