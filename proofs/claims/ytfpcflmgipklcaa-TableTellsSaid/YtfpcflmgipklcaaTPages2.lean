/- The pages that tables tell are those that a look finds; conditions: those of each theorem. -/
import Derived.Test.YtfpcflmgipklcaaTAny
import Derived.Test.YtfpcflmgipklcaaMoves22
import Derived.Test.YtfpcflmgipklcaaMaps
namespace Go.Proofs.Ytfpcflmgipklcaa
open Go.Fx
set_option linter.unusedSimpArgs false
set_option linter.unusedVariables false
theorem pow_page (l : Nat) : 2 ^ (12 + 9 * l) = 4096 * 512 ^ l := by rw [Nat.pow_add, Nat.pow_mul]
theorem idx_base {va base i S : Nat} (hb : base % (512 * S) = 0) (hi : i < 512) (h1 : base + i * S ≤ va) (h2 : va < base + i * S + S) : va / S % 512 = i := by
  obtain ⟨c, hc⟩ : ∃ c, base = (512 * S) * c := ⟨base / (512 * S), (Nat.mul_div_cancel' (Nat.dvd_of_mod_eq_zero hb)).symm⟩
  have e : base = (512 * c) * S := by rw [hc, Nat.mul_comm 512 S, Nat.mul_assoc, Nat.mul_comm S]
  have e2 : base + i * S = (512 * c + i) * S := by rw [e, Nat.add_mul]
  have h3 : va / S = 512 * c + i := by
    apply Nat.div_eq_of_lt_le
    · rw [← e2]; exact h1
    · rw [Nat.succ_mul, ← e2]; exact h2
  rw [h3]
  omega
theorem base_idx {va base S : Nat} (hb : base % (512 * S) = 0) (hS : 0 < S) (h1 : base ≤ va) (h2 : va < base + 512 * S) : base + va / S % 512 * S ≤ va ∧ va < base + va / S % 512 * S + S := by
  obtain ⟨c, hc⟩ : ∃ c, base = (512 * S) * c := ⟨base / (512 * S), (Nat.mul_div_cancel' (Nat.dvd_of_mod_eq_zero hb)).symm⟩
  have e : base = (512 * c) * S := by rw [hc, Nat.mul_comm 512 S, Nat.mul_assoc, Nat.mul_comm S]
  have h3 : 512 * c ≤ va / S := by
    rw [Nat.le_div_iff_mul_le hS, ← e]; exact h1
  have h4 : va / S < 512 * c + 512 := by
    rw [Nat.div_lt_iff_lt_mul hS, Nat.add_mul, ← e]; exact h2
  have h5 : va / S % 512 = va / S - 512 * c := by omega
  have h6 : base + (va / S - 512 * c) * S = va / S * S := by
    rw [e, ← Nat.add_mul]
    congr 1
    omega
  rw [h5, h6]
  have h7 := Nat.div_add_mod va S
  have h8 := Nat.mod_lt va hS
  rw [Nat.mul_comm] at h7
  omega
theorem pages_mem {m : Nat → Int} {n : Nat} {fs : List Nat} {lv : Nat → Nat} {par : Nat → Nat × Nat} (hT : Tree m n fs lv par) {va x : Nat} : ∀ {L F base : Nat}, F ∈ fs → lv F = L → base % (4096 * 512 ^ (L + 1)) = 0 →
    ((va, x) ∈ pagesOf m L F base ↔ base ≤ va ∧ va < base + 4096 * 512 ^ (L + 1) ∧ va % 4096 = 0 ∧ (low m va L F).2.2 = true ∧ x = ew m (low m va L F).1 (idx va 0) ∧ fl x 0 = true)
  | 0, F, base, hF, hL, hb => by
    rw [pages_at, List.mem_flatMap]
    unfold pagesAt low
    have e0 : 4096 * 512 ^ (0 + 1) = 2097152 := by decide
    rw [e0] at hb ⊢
    have ei : idx va 0 = va / 4096 % 512 := rfl
    constructor
    · rintro ⟨i, hi, hp⟩
      have hi := List.mem_range.1 hi
      by_cases hv : fl (ew m F i) 0 = true
      · rw [if_pos hv, List.mem_singleton, Prod.mk.injEq] at hp
        obtain ⟨rfl, rfl⟩ := hp
        have e1 : (base + i * 4096) / 4096 % 512 = i := by omega
        refine ⟨by omega, by omega, by omega, rfl, ?_, hv⟩
        rw [ei, e1]
      · rw [if_neg hv] at hp
        cases hp
    · rintro ⟨h1, h2, h3, -, h5, h6⟩
      refine ⟨idx va 0, List.mem_range.2 (idx_lt _ _), ?_⟩
      rw [← h5, if_pos h6, List.mem_singleton, Prod.mk.injEq]
      exact ⟨by rw [ei]; omega, rfl⟩
  | L + 1, F, base, hF, hL, hb => by
    rw [pages_at, List.mem_flatMap]
    obtain ⟨S, hS⟩ : ∃ S, S = 4096 * 512 ^ (L + 1) := ⟨_, rfl⟩
    have e1 : 4096 * 512 ^ (L + 1 + 1) = 512 * S := by rw [hS, Nat.pow_succ]; omega
    have hS0 : 0 < S := by rw [hS]; exact Nat.mul_pos (by decide) (Nat.pow_pos (by decide))
    have ei : idx va (L + 1) = va / S % 512 := by
      unfold idx
      rw [pow_page, ← hS]
    rw [e1] at hb ⊢
    rw [low_s m va L F]
    have hbi : ∀ i, (base + i * S) % S = 0 := fun i => by
      rw [Nat.add_mul_mod_self_right]
      exact Nat.mod_eq_zero_of_dvd (Nat.dvd_trans ⟨512, Nat.mul_comm _ _⟩ (Nat.dvd_of_mod_eq_zero hb))
    have hat : ∀ i, pagesAt m (L + 1) F base i = if fl (ew m F i) 0 then pagesOf m L (fr (ew m F i)) (base + i * S) else [] := fun i => by
      unfold pagesAt
      rw [hS]
    constructor
    · rintro ⟨i, hi, hp⟩
      have hi := List.mem_range.1 hi
      rw [hat] at hp
      by_cases hv : fl (ew m F i) 0 = true
      · rw [if_pos hv] at hp
        obtain ⟨a1, a2, -⟩ := hT.ent F hF i hi L hL hv
        obtain ⟨h1, h2, h3, h4⟩ := (pages_mem hT a1 a2 (by rw [← hS]; exact hbi i)).1 hp
        rw [← hS] at h2
        have e2 : idx va (L + 1) = i := by
          rw [ei]
          exact idx_base hb hi h1 h2
        have h5 : (i + 1) * S ≤ 512 * S := Nat.mul_le_mul_right _ (by omega)
        have h6 : (i + 1) * S = i * S + S := Nat.succ_mul _ _
        rw [e2, if_pos hv]
        exact ⟨by omega, by omega, h3, h4⟩
      · rw [if_neg hv] at hp
        cases hp
    · rintro ⟨h1, h2, h3, h4, h5, h6⟩
      refine ⟨idx va (L + 1), List.mem_range.2 (idx_lt _ _), ?_⟩
      rw [hat]
      by_cases hv : fl (ew m F (idx va (L + 1))) 0 = true
      · rw [if_pos hv] at h4 h5 ⊢
        obtain ⟨a1, a2, -⟩ := hT.ent F hF _ (idx_lt _ _) L hL hv
        obtain ⟨h7, h8⟩ := base_idx hb hS0 h1 h2
        rw [← ei] at h7 h8
        exact (pages_mem hT a1 a2 (by rw [← hS]; exact hbi _)).2 ⟨h7, by rw [← hS]; exact h8, h3, h4, h5, h6⟩
      · rw [if_neg hv] at h4
        cases h4
theorem tells_mem {m : Nat → Int} {n root : Nat} {fs : List Nat} {lv : Nat → Nat} {par : Nat → Nat × Nat} (hT : Tree m n fs lv par) (hr : fs.headD 0 = root) {va x : Nat} :
    (va, x) ∈ pagesOf m 2 root 0 ↔ va < 549755813888 ∧ va % 4096 = 0 ∧ x = lookW m root va ∧ fl x 0 = true := by
  obtain ⟨f0, l0, hfs, hf0⟩ := hT.top
  rw [hfs, List.headD_cons] at hr
  subst hr
  rw [pages_mem hT (by rw [hfs]; simp) hf0 (Nat.zero_mod _)]
  have e : 0 + 4096 * 512 ^ (2 + 1) = 549755813888 := by decide
  rw [e]
  unfold lookW
  obtain ⟨y, hy⟩ : ∃ y, low m va 2 f0 = y := ⟨_, rfl⟩
  rw [hy]
  constructor
  · rintro ⟨-, h2, h3, h4, h5, h6⟩
    rw [if_pos h4]
    exact ⟨h2, h3, h5, h6⟩
  · rintro ⟨h2, h3, h5, h6⟩
    by_cases h4 : y.2.2 = true
    · rw [if_pos h4] at h5
      exact ⟨Nat.zero_le _, h2, h3, h4, h5, h6⟩
    · rw [if_neg h4] at h5
      rw [h5, fl_zero] at h6
      cases h6
/-- the entries that tables have, by their pages' numbers. -/
def lastF (m : Nat → Int) (k : Nat) : Option Nat := if k < 134217728 ∧ fl (lookW m 0 (k * 4096)) 0 = true then some (lookW m 0 (k * 4096)) else none
theorem look_page {m : Nat → Int} {root va va' : Nat} (hva : va < 549755813888) (hva' : va' < 549755813888) (h : va' / 4096 = va / 4096) : lookW m root va' = lookW m root va := by
  obtain ⟨h1, h2⟩ := low_page (f := root) hva hva' h
  unfold lookW
  rw [h1, h2]
theorem last_put {m m' : Nat → Int} {va x : Nat} (hva : va < 549755813888) (h : ∀ va', va' < 549755813888 → lookW m' 0 va' = if va' / 4096 = va / 4096 then x else lookW m 0 va') :
    lastF m' = fun k => if k = va / 4096 then (if fl x 0 = true then some x else none) else lastF m k := by
  funext k
  unfold lastF
  by_cases hk : k < 134217728
  · rw [h _ (by omega), show k * 4096 / 4096 = k by omega]
    by_cases e : k = va / 4096
    · rw [if_pos e, if_pos e]
      simp [hk]
    · rw [if_neg e, if_neg e]
  · rw [if_neg (fun h => hk h.1), if_neg (show ¬ k = va / 4096 by omega), if_neg (fun h => hk h.1)]
theorem tells_len {m : Nat → Int} {n : Nat} {fs : List Nat} {lv : Nat → Nat} {par : Nat → Nat × Nat} (hT : Tree m n fs lv par) (hr : fs.headD 0 = 0) {ks : List Nat} (h1 : ks.Nodup) (h2 : ∀ k, k ∈ ks ↔ lastF m k ≠ none) : (pagesOf m 2 0 0).length = ks.length := by
  have h3 : ((pagesOf m 2 0 0).map fun p => p.1 / 4096).Nodup := by
    rw [List.Nodup, List.pairwise_map]
    refine List.Pairwise.imp_of_mem (fun {a b} ha hb hab => ?_) pages_rise
    obtain ⟨-, ha, -⟩ := (tells_mem hT hr).1 (show (a.1, a.2) ∈ _ from ha)
    obtain ⟨-, hb, -⟩ := (tells_mem hT hr).1 (show (b.1, b.2) ∈ _ from hb)
    omega
  have h4 := ((List.perm_ext_iff_of_nodup h3 h1).2 fun k => ?_).length_eq
  · rw [← h4, List.length_map]
  rw [h2, List.mem_map]
  unfold lastF
  constructor
  · rintro ⟨⟨va, x⟩, hp, rfl⟩
    obtain ⟨a1, a2, a3, a4⟩ := (tells_mem hT hr).1 hp
    have e : va / 4096 * 4096 = va := by omega
    simp only
    rw [e, ← a3, if_pos ⟨by omega, a4⟩]
    simp
  · intro h
    by_cases hc : k < 134217728 ∧ fl (lookW m 0 (k * 4096)) 0 = true
    · exact ⟨(k * 4096, lookW m 0 (k * 4096)), (tells_mem hT hr).2 ⟨by omega, by omega, rfl, hc.2⟩, by simp⟩
    · rw [if_neg hc] at h
      exact absurd rfl h
end Go.Proofs.Ytfpcflmgipklcaa
