/- What many spans paint and wipe, plainly; conditions: those of each theorem. -/
import Derived.Test.YtgnibcaflidjmaaSK6
namespace Go.Proofs.Ytgnibcaflidjmaa
open Go.Fx
set_option linter.unusedSimpArgs false
set_option linter.unusedVariables false
theorem fold_or (l : List (Nat × Nat)) : ∀ (A : Nat → Bool) (g : Nat), l.foldl (wth orB) A g = (A g || l.any fun s => sp s g) := by
  induction l with
  | nil => intro A g; simp
  | cons s l ih => intro A g; rw [List.foldl_cons, ih, or_two, List.any_cons, Bool.or_assoc]
theorem fold_less (l : List (Nat × Nat)) : ∀ (A : Nat → Bool) (g : Nat), l.foldl (wth lessB) A g = (A g && !l.any fun s => sp s g) := by
  induction l with
  | nil => intro A g; simp
  | cons s l ih => intro A g; rw [List.foldl_cons, ih, less_two, List.any_cons, Bool.not_or, Bool.and_assoc]
/-- the granules that spans paint. -/
def bl (l : List (Nat × Nat)) : Nat → Bool := l.foldl (wth orB) fun _ => false
theorem bl_any (l : List (Nat × Nat)) (g : Nat) : bl l g = l.any fun s => sp s g := by rw [bl, fold_or, Bool.false_or]
theorem wiped (l : List (Nat × Nat)) : l.foldl (wth lessB) (bl l) = fun _ => false := by
  funext g
  rw [fold_less, bl_any, Bool.and_not_self]
theorem bl_page {l : List (Nat × Nat)} {k : Nat} (h : anyB (pgB (bl l) k) = true) : ∃ s ∈ l, s.1 / 4096 ≤ k ∧ k < s.1 / 4096 + 64 ∧ k < 67108864 := by
  obtain ⟨j, hj, hb⟩ := anyB_iff.1 h
  rw [pgB_at hj, bl_any, List.any_eq_true] at hb
  obtain ⟨s, hs, h1⟩ := hb
  unfold sp mayS inS at h1
  rw [Bool.and_eq_true, decide_eq_true_eq, decide_eq_true_eq] at h1
  exact ⟨s, hs, by omega, by omega, by omega⟩
theorem nodup_le {ys : List Nat} : ∀ {L : List Nat}, ys.Nodup → (∀ y ∈ ys, y ∈ L) → ys.length ≤ L.length := by
  induction ys with
  | nil => intro L _ _; simp
  | cons y ys ih =>
    intro L h1 h2
    rw [List.nodup_cons] at h1
    have hy := h2 y (List.mem_cons_self ..)
    have := ih (L := L.erase y) h1.2 fun z hz => (List.mem_erase_of_ne (fun (e : z = y) => h1.1 (by rw [← e]; exact hz))).2 (h2 z (List.mem_cons_of_mem _ hz))
    rw [List.length_erase_of_mem hy] at this
    have := List.length_pos_of_mem hy
    simp only [List.length_cons]
    omega
theorem bl_pages {l : List (Nat × Nat)} {ys : List Nat} (h : PagesOf (bl l) ys) : ys.length ≤ 64 * l.length := by
  have h2 := nodup_le (L := l.flatMap fun s => (List.range 64).map fun k => s.1 / 4096 + k) h.1 fun k hk => by
    obtain ⟨s, hs, h1, h2, -⟩ := bl_page ((h.2 k).1 hk)
    exact List.mem_flatMap.2 ⟨s, hs, List.mem_map.2 ⟨k - s.1 / 4096, List.mem_range.2 (by omega), by omega⟩⟩
  have h3 : ∀ l : List (Nat × Nat), (l.flatMap fun s => (List.range 64).map fun k => s.1 / 4096 + k).length = 64 * l.length := by
    intro l
    induction l with
    | nil => rfl
    | cons s l ih => rw [List.flatMap_cons, List.length_append, ih, List.length_map, List.length_range, List.length_cons]; omega
  rw [h3] at h2
  exact h2
theorem bl_small {l : List (Nat × Nat)} {g : Nat} (h : 256 * 67108864 ≤ g) : bl l g = false := by
  rw [bl_any, List.any_eq_false]
  intro s _
  rw [sp_small (N := 67108864) rfl h]
  exact Bool.false_ne_true
/-- its own spans paint it again. -/
theorem again {l : List (Nat × Nat)} {B : Nat → Bool} (h : Cov l (fun g => B g = true)) (hf : ∀ s ∈ l.map up, (s.2 - 1) / 4096 - s.1 / 4096 < 64) : bl (l.map up) = B := by
  funext g
  have hsp : ∀ p ∈ l, sp (up p) g = decide (p.1 ≤ g ∧ g < p.2) := fun p hp => by
    have h1 := h.1 p hp
    have h2 := hf (up p) (List.mem_map.2 ⟨p, hp, rfl⟩)
    unfold up at h2
    simp only at h2
    unfold sp mayS inS up
    rw [← Bool.decide_and]
    refine decide_eq_decide.2 ?_
    simp only
    omega
  have hb : bl (l.map up) g = true ↔ B g = true := by
    rw [bl_any, List.any_eq_true]
    refine Iff.trans ?_ (h.2 g).symm
    constructor
    · rintro ⟨s, hs, h1⟩
      obtain ⟨p, hp, rfl⟩ := List.mem_map.1 hs
      rw [hsp p hp, decide_eq_true_eq] at h1
      exact ⟨p, hp, h1⟩
    · rintro ⟨p, hp, h1⟩
      exact ⟨up p, List.mem_map.2 ⟨p, hp, rfl⟩, by rw [hsp p hp]; exact decide_eq_true h1⟩
  cases h1 : bl (l.map up) g <;> cases h2 : B g <;> simp_all
theorem up_wf {l : List (Nat × Nat)} {D : Nat → Prop} (h : Cov l D) : ∀ s ∈ l.map up, 0 < s.2 ∧ s.2 ≤ 274877906944 ∧ s.1 < s.2 := by
  intro s hs
  obtain ⟨p, hp, rfl⟩ := List.mem_map.1 hs
  have := h.1 p hp
  unfold up
  simp only
  omega
theorem rowsU {w : World} {v : Value} {l : List (Nat × Nat)} (h : RowsAt w v 2 (l.map spU)) : RowsAt w v 2 ((l.map up).map spC) := by
  rw [List.map_map]
  exact h
end Go.Proofs.Ytgnibcaflidjmaa
