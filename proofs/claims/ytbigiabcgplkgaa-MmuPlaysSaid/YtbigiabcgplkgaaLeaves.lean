/- A page is found by its three indices, and by no others: plain; conditions: those of each theorem. -/
import Derived.Test.YtbigiabcgplkgaaChecks
namespace Go.Proofs.Ytbigiabcgplkgaa
open Go.Fx
set_option maxRecDepth 100000
set_option linter.unusedSimpArgs false
set_option linter.unusedVariables false
theorem leaf_wd (f : Nat → Bool) (n : Nat) : leaf (fl (wd f n)) = leaf f := by
  unfold leaf
  rw [fl_wd f n 0 (by omega), fl_wd f n 1 (by omega), fl_wd f n 2 (by omega), fl_wd f n 3 (by omega)]
theorem right_wd (f : Nat → Bool) (n m : Nat) : right (fl (wd f n)) m = right f m := by
  unfold right
  rw [leaf_wd, fl_wd f n 0 (by omega), fl_wd f n 1 (by omega), fl_wd f n 2 (by omega), fl_wd f n 4 (by omega), fl_wd f n 6 (by omega), fl_wd f n 7 (by omega), fl_wd f n 8 (by omega), fl_wd f n 9 (by omega), fl_wd f n 10 (by omega), fl_wd f n 11 (by omega)]
theorem bad_wd (f : Nat → Bool) (n k m : Nat) : bad (wd f n) k m = (!f 0 || !right f (n % 17592186044416) || (leaf f != decide (k = 0)) || decide (m ≤ n % 17592186044416)) := by
  unfold bad
  rw [leaf_wd, right_wd, fr_wd, fl_wd f n 0 (by omega)]
theorem bad_zero (k n : Nat) : bad 0 k n = true := by
  unfold bad
  rw [show fl 0 0 = false by decide]
  rfl
theorem bad_leaf {f : Nat → Bool} {n m : Nat} (hn : n < 17592186044416) (hm : n < m) : bad (wd f n) 0 m = !(leaf f && right f n) := by
  rw [bad_wd, Nat.mod_eq_of_lt hn, decide_eq_false (by omega : ¬ m ≤ n)]
  unfold leaf
  cases f 0 <;> cases right f n <;> simp
def pl (a b c : Nat) : Nat := a * 1073741824 + b * 2097152 + c * 4096
theorem idx_pl {a b c : Nat} (hb : b < 512) (hc : c < 512) (ha : a < 512) : idx (pl a b c) 0 = c ∧ idx (pl a b c) 1 = b ∧ idx (pl a b c) 2 = a := by
  unfold idx pl
  simp only [Nat.reduceMul, Nat.reduceAdd, Nat.reducePow]
  omega
theorem V1 : bad (wd fV 1) 2 8 = false ∧ fr (wd fV 1) = 1 ∧ bad (wd fV 2) 1 8 = false ∧ fr (wd fV 2) = 2 := by decide +kernel
theorem wk_bad {M : Nat → Nat} {n va k frame x : Nat} (hf : frame < n) (hx : M (frame * 4096 + idx va k * 8) = x) (hb : bad x k n = true) : wk M n va (k + 1) frame = none := by
  unfold wk
  rw [if_neg (by omega), hx, if_pos hb]
theorem wk_go {M : Nat → Nat} {n va k frame x : Nat} (hf : frame < n) (hx : M (frame * 4096 + idx va k * 8) = x) (hb : bad x k n = false) (hk : k ≠ 0) : wk M n va (k + 1) frame = wk M n va k (fr x) := by
  conv => lhs; unfold wk
  rw [if_neg (by omega), hx, if_neg (by rw [hb]; simp), if_neg hk]
theorem wk_end {M : Nat → Nat} {n va frame x : Nat} (hf : frame < n) (hx : M (frame * 4096 + idx va 0 * 8) = x) (hb : bad x 0 n = false) : wk M n va 1 frame = some (x, frame * 4096 + idx va 0 * 8) := by
  unfold wk
  rw [if_neg (by omega), hx, if_neg (by rw [hb]; simp), if_pos rfl]
/-- three tables, one behind another. -/
theorem walk3 {f : Nat → Bool} {i j k a b c : Nat} (hi : i < 256) (hj : j < 512) (hk : k < 512) (ha : a < 256) (hb : b < 512) (hc : c < 512) :
    walkA (laidW [⟨0, i, fV, 1⟩, ⟨1, j, fV, 2⟩, ⟨2, k, f, 7⟩]) 8 0 (pl a b c) = if (a = i ∧ b = j ∧ c = k) ∧ (leaf f && right f 7) = true then some (wd f 7, 8192 + k * 8) else none := by
  obtain ⟨e0, e1, e2⟩ := idx_pl hb hc (show a < 512 by omega)
  have hva : pl a b c < 274877906944 := by unfold pl; omega
  have hM : ∀ x, laidW [⟨0, i, fV, 1⟩, ⟨1, j, fV, 2⟩, ⟨2, k, f, 7⟩] x = if x = 8192 + k * 8 then wd f 7 else if x = 4096 + j * 8 then wd fV 2 else if x = i * 8 then wd fV 1 else 0 := by
    intro x
    have a1 : atOf ⟨0, i, fV, 1⟩ = i * 8 := by unfold atOf; simp only; omega
    have a2 : atOf ⟨1, j, fV, 2⟩ = 4096 + j * 8 := by unfold atOf; simp only; omega
    have a3 : atOf ⟨2, k, f, 7⟩ = 8192 + k * 8 := by unfold atOf; simp only; omega
    unfold laidW
    simp only [List.foldl_cons, List.foldl_nil, a1, a2, a3, setW]
  generalize laidW [⟨0, i, fV, 1⟩, ⟨1, j, fV, 2⟩, ⟨2, k, f, 7⟩] = M at hM
  obtain ⟨v1, v2, v3, v4⟩ := V1
  unfold walkA
  rw [if_pos hva]
  have m2 : M (0 * 4096 + a * 8) = if a = i then wd fV 1 else 0 := by
    rw [hM, if_neg (by omega), if_neg (by omega)]
    by_cases h : a = i
    · rw [if_pos h, if_pos (by omega)]
    · rw [if_neg h, if_neg (by omega)]
  have m1 : M (1 * 4096 + b * 8) = if b = j then wd fV 2 else 0 := by
    rw [hM, if_neg (by omega)]
    by_cases h : b = j
    · rw [if_pos h, if_pos (by omega)]
    · rw [if_neg h, if_neg (by omega), if_neg (by omega)]
  have m0 : M (2 * 4096 + c * 8) = if c = k then wd f 7 else 0 := by
    rw [hM]
    by_cases h : c = k
    · rw [if_pos h, if_pos (by omega)]
    · rw [if_neg h, if_neg (by omega), if_neg (by omega), if_neg (by omega)]
  by_cases h1 : a = i
  case neg =>
    rw [wk_bad (k := 2) (x := 0) (by omega) (by rw [e2, m2, if_neg h1]) (bad_zero _ _), if_neg (fun h => h1 h.1.1)]
  rw [wk_go (k := 2) (x := wd fV 1) (by omega) (by rw [e2, m2, if_pos h1]) v1 (by omega), v2]
  by_cases h2 : b = j
  case neg =>
    rw [wk_bad (k := 1) (x := 0) (by omega) (by rw [e1, m1, if_neg h2]) (bad_zero _ _), if_neg (fun h => h2 h.1.2.1)]
  rw [wk_go (k := 1) (x := wd fV 2) (by omega) (by rw [e1, m1, if_pos h2]) v3 (by omega), v4]
  by_cases h3 : c = k
  case neg =>
    rw [wk_bad (k := 0) (x := 0) (by omega) (by rw [e0, m0, if_neg h3]) (bad_zero _ _), if_neg (fun h => h3 h.1.2.2)]
  cases hg : (leaf f && right f 7)
  · rw [wk_bad (k := 0) (x := wd f 7) (by omega) (by rw [e0, m0, if_pos h3]) (by rw [bad_leaf (by omega) (by omega), hg]; rfl), if_neg (by simp)]
  · rw [wk_end (x := wd f 7) (by omega) (by rw [e0, m0, if_pos h3]) (by rw [bad_leaf (by omega) (by omega), hg]; rfl), if_pos ⟨⟨h1, h2, h3⟩, rfl⟩, e0, h3]
/-- an entry of the highest table is no page. -/
theorem walk1 {f : Nat → Bool} {i a b c : Nat} (hi : i < 256) (ha : a < 256) (hb : b < 512) (hc : c < 512) : walkA (laidW [⟨0, i, f, 7⟩]) 8 0 (pl a b c) = none := by
  obtain ⟨e0, e1, e2⟩ := idx_pl hb hc (show a < 512 by omega)
  have hva : pl a b c < 274877906944 := by unfold pl; omega
  have hM : ∀ x, laidW [⟨0, i, f, 7⟩] x = if x = i * 8 then wd f 7 else 0 := by
    intro x
    have a1 : atOf ⟨0, i, f, 7⟩ = i * 8 := by unfold atOf; simp only; omega
    unfold laidW
    simp only [List.foldl_cons, List.foldl_nil, a1, setW]
  generalize laidW [⟨0, i, f, 7⟩] = M at hM
  unfold walkA
  rw [if_pos hva]
  have m2 : M (0 * 4096 + a * 8) = if a = i then wd f 7 else 0 := by
    rw [hM]
    by_cases h : a = i
    · rw [if_pos h, if_pos (by omega)]
    · rw [if_neg h, if_neg (by omega)]
  have m1 : M (7 * 4096 + b * 8) = 0 := by rw [hM, if_neg (by omega)]
  by_cases h1 : a = i
  case neg =>
    rw [wk_bad (k := 2) (x := 0) (by omega) (by rw [e2, m2, if_neg h1]) (bad_zero _ _)]
  cases hb2 : bad (wd f 7) 2 8
  · rw [wk_go (k := 2) (x := wd f 7) (by omega) (by rw [e2, m2, if_pos h1]) hb2 (by omega), fr_wd, wk_bad (k := 1) (x := 0) (by omega) (by rw [e1]; exact m1) (bad_zero _ _)]
  · rw [wk_bad (k := 2) (x := wd f 7) (by omega) (by rw [e2, m2, if_pos h1]) hb2]
theorem or_pl {a b c : Nat} (ha : a < 256) (hb : b < 512) (hc : c < 512) : (a * 1073741824 ||| b * 2097152) = a * 1073741824 + b * 2097152 ∧ (a * 1073741824 + b * 2097152 ||| c * 4096) = pl a b c := by
  have h1 := Nat.two_pow_add_eq_or_of_lt (i := 30) (b := b * 2097152) (by omega) a
  have h2 := Nat.two_pow_add_eq_or_of_lt (i := 21) (b := c * 4096) (by omega) (a * 512 + b)
  have p30 : (2 : Nat) ^ 30 = 1073741824 := by decide
  have p21 : (2 : Nat) ^ 21 = 2097152 := by decide
  rw [p30] at h1
  rw [p21] at h2
  have e1 : 1073741824 * a = a * 1073741824 := by omega
  have e2 : 2097152 * (a * 512 + b) = a * 1073741824 + b * 2097152 := by omega
  rw [e1] at h1
  rw [e2] at h2
  exact ⟨h1.symm, by rw [← h2]; rfl⟩
end Go.Proofs.Ytbigiabcgplkgaa
