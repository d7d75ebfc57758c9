/- The pages that tables tell, plain; conditions: those of each theorem. -/
import Derived.Test.YtfpcflmgipklcaaTOne2
namespace Go.Proofs.Ytfpcflmgipklcaa
open Go.Fx
/-- the pages of a table of so high a level, the first of which is base: each with its entry's word. -/
def pagesOf (m : Nat → Int) : Nat → Nat → Nat → List (Nat × Nat)
  | 0, f, base => (List.range 512).flatMap fun i => if fl (ew m f i) 0 then [(base + i * 4096, ew m f i)] else []
  | l + 1, f, base => (List.range 512).flatMap fun i => if fl (ew m f i) 0 then pagesOf m l (fr (ew m f i)) (base + i * (4096 * 512 ^ (l + 1))) else []
theorem pages_in {m : Nat → Int} : ∀ {l f base : Nat} {p : Nat × Nat}, p ∈ pagesOf m l f base → base ≤ p.1 ∧ p.1 < base + 4096 * 512 ^ (l + 1) ∧ (p.1 - base) % 4096 = 0 ∧ fl p.2 0 = true
  | 0, f, base, p, h => by
    unfold pagesOf at h
    obtain ⟨i, hi, hp⟩ := List.mem_flatMap.1 h
    have hi := List.mem_range.1 hi
    by_cases hv : fl (ew m f i) 0 = true
    · rw [if_pos hv, List.mem_singleton] at hp
      subst hp
      exact ⟨by simp, by simp; omega, by simp, hv⟩
    · rw [if_neg hv] at hp
      cases hp
  | l + 1, f, base, p, h => by
    unfold pagesOf at h
    obtain ⟨i, hi, hp⟩ := List.mem_flatMap.1 h
    have hi := List.mem_range.1 hi
    by_cases hv : fl (ew m f i) 0 = true
    · rw [if_pos hv] at hp
      obtain ⟨h1, h2, h3, h4⟩ := pages_in hp
      have e : 4096 * 512 ^ (l + 1 + 1) = 512 * (4096 * 512 ^ (l + 1)) := by rw [Nat.pow_succ]; omega
      have e2 : (i + 1) * (4096 * 512 ^ (l + 1)) ≤ 512 * (4096 * 512 ^ (l + 1)) := Nat.mul_le_mul_right _ (by omega)
      have e3 : (i + 1) * (4096 * 512 ^ (l + 1)) = i * (4096 * 512 ^ (l + 1)) + 4096 * 512 ^ (l + 1) := Nat.succ_mul _ _
      have e4 : i * (4096 * 512 ^ (l + 1)) = 4096 * (i * 512 ^ (l + 1)) := by rw [Nat.mul_left_comm]
      refine ⟨by omega, by omega, ?_, h4⟩
      rw [e4] at h1 h3
      omega
    · rw [if_neg hv] at hp
      cases hp
/-- rising: each page lies behind the one before it. -/
theorem pages_rise {m : Nat → Int} : ∀ {l f base : Nat}, (pagesOf m l f base).Pairwise fun a b => a.1 < b.1
  | 0, f, base => by
    unfold pagesOf
    rw [List.pairwise_flatMap]
    refine ⟨fun i _ => ?_, ?_⟩
    · split <;> simp
    · refine List.Pairwise.imp (fun {i j} hij x hx y hy => ?_) List.pairwise_lt_range
      split at hx <;> split at hy <;> simp at hx hy
      subst hx hy
      simp
      omega
  | l + 1, f, base => by
    unfold pagesOf
    rw [List.pairwise_flatMap]
    refine ⟨fun i _ => ?_, ?_⟩
    · split
      · exact pages_rise
      · simp
    · refine List.Pairwise.imp (fun {i j} hij x hx y hy => ?_) List.pairwise_lt_range
      split at hx
      · split at hy
        · have h1 := pages_in hx
          have h2 := pages_in hy
          have e2 : (i + 1) * (4096 * 512 ^ (l + 1)) ≤ j * (4096 * 512 ^ (l + 1)) := Nat.mul_le_mul_right _ (by omega)
          have e3 : (i + 1) * (4096 * 512 ^ (l + 1)) = i * (4096 * 512 ^ (l + 1)) + 4096 * 512 ^ (l + 1) := Nat.succ_mul _ _
          omega
        · cases hy
      · cases hx
end Go.Proofs.Ytfpcflmgipklcaa
