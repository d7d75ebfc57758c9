/- The spans of a bitmap; conditions: those of each theorem. -/
import Derived.Test.YtgnibcaflidjmaaSK3
namespace Go.Proofs.Ytgnibcaflidjmaa
open Go Go.RowKit Go.Shelf Go.Fx
set_option maxRecDepth 100000
set_option linter.unusedSimpArgs false
set_option linter.unusedVariables false
/-- a span of granules, as bytes. -/
def up (p : Nat × Nat) : Nat × Nat := (16 * p.1, 16 * p.2)
def spU (p : Nat × Nat) : List Value := spC (up p)
/-- spans that have just these granules. -/
def Cov (l : List (Nat × Nat)) (D : Nat → Prop) : Prop := (∀ p ∈ l, p.1 < p.2 ∧ p.2 ≤ 17179869184) ∧ ∀ g, D g ↔ ∃ p ∈ l, p.1 ≤ g ∧ g < p.2
theorem Cov.congr {l : List (Nat × Nat)} {D E : Nat → Prop} (h : Cov l D) (e : ∀ g, D g ↔ E g) : Cov l E := ⟨h.1, fun g => (e g).symm.trans (h.2 g)⟩
theorem Cov.more {l : List (Nat × Nat)} {D : Nat → Prop} {G : Nat} (h : Cov l D) (hG : G < 17179869184) : Cov (l ++ [(G, G + 1)]) (fun g => D g ∨ g = G) := by
  refine ⟨fun p hp => ?_, fun g => ?_⟩
  · rcases List.mem_append.1 hp with hp | hp
    · exact h.1 p hp
    · rw [List.mem_singleton.1 hp]
      exact ⟨by simp, hG⟩
  · show (D g ∨ g = G) ↔ _
    rw [h.2 g]
    constructor
    · rintro (⟨p, hp, h1⟩ | rfl)
      · exact ⟨p, List.mem_append_left _ hp, h1⟩
      · exact ⟨(g, g + 1), List.mem_append_right _ (List.mem_singleton.2 rfl), Nat.le_refl _, Nat.lt_succ_self _⟩
    · rintro ⟨p, hp, h1, h2⟩
      rcases List.mem_append.1 hp with hp | hp
      · exact .inl ⟨p, hp, h1, h2⟩
      · rw [List.mem_singleton.1 hp] at h1 h2
        simp only at h1 h2
        exact .inr (by omega)
theorem Cov.last {l : List (Nat × Nat)} {D : Nat → Prop} {a G : Nat} (h : Cov (l ++ [(a, G)]) D) (hG : G < 17179869184) : Cov (l ++ [(a, G + 1)]) (fun g => D g ∨ g = G) := by
  have ha := (h.1 (a, G) (List.mem_append_right _ (List.mem_singleton.2 rfl))).1
  simp only at ha
  refine ⟨fun p hp => ?_, fun g => ?_⟩
  · rcases List.mem_append.1 hp with hp | hp
    · exact h.1 p (List.mem_append_left _ hp)
    · rw [List.mem_singleton.1 hp]
      exact ⟨by simp only; omega, hG⟩
  · show (D g ∨ g = G) ↔ _
    rw [h.2 g]
    constructor
    · rintro (⟨p, hp, h1, h2⟩ | rfl)
      · rcases List.mem_append.1 hp with hp | hp
        · exact ⟨p, List.mem_append_left _ hp, h1, h2⟩
        · rw [List.mem_singleton.1 hp] at h1 h2
          simp only at h1 h2
          exact ⟨(a, G + 1), List.mem_append_right _ (List.mem_singleton.2 rfl), h1, by simp only; omega⟩
      · exact ⟨(a, g + 1), List.mem_append_right _ (List.mem_singleton.2 rfl), by simp only; omega, Nat.lt_succ_self _⟩
    · rintro ⟨p, hp, h1, h2⟩
      rcases List.mem_append.1 hp with hp | hp
      · exact .inl ⟨p, List.mem_append_left _ hp, h1, h2⟩
      · rw [List.mem_singleton.1 hp] at h1 h2
        simp only at h1 h2
        by_cases e : g = G
        · exact .inr e
        · exact .inl ⟨(a, G), List.mem_append_right _ (List.mem_singleton.2 rfl), h1, by simp only; omega⟩
theorem Cov.none {D : Nat → Prop} (h : ∀ g, ¬ D g) : Cov [] D := ⟨fun p hp => by simp at hp, fun g => ⟨fun hd => (h g hd).elim, fun ⟨p, hp, _⟩ => by simp at hp⟩⟩
theorem spU_all (l : List (Nat × Nat)) : ∀ r ∈ l.map spU, r.all (fun v => v.oneCell') = true := by
  intro r hr
  obtain ⟨p, -, rfl⟩ := List.mem_map.1 hr
  rfl
theorem flatU (l : List (Nat × Nat)) : (l.map spU).flatten.length = l.length * 2 := by
  induction l with
  | nil => rfl
  | cons p l ih => simp only [List.map_cons, List.flatten_cons, List.length_append, ih, List.length_cons]; simp only [spU, spC, List.length_cons, List.length_nil]; omega
/-- the last of spans, and another one in its place. -/
theorem own_last {w : World} {base a b : Nat} {v : Value} {l : List (Nat × Nat)} (ho : OwnR w base 47 2 v ((l ++ [(a, b)]).map spU)) :
    ∃ (g cap : Nat) (cur : List Value), v = .slice (some ⟨g, 0, none⟩) (l.length + 1) cap ∧ base ≤ g ∧ w.heap[g]? = some (.cells cur.toArray 47 (0, 0)) ∧ l.length * 2 + 2 ≤ cur.length ∧ cur[l.length * 2 + 1]? = some (.int .u64 (16 * b : Nat)) ∧
      ∀ T, OwnR (World.upd w g (cur.set (l.length * 2 + 1) (.int .u64 (16 * T : Nat)))) base 47 2 v ((l ++ [(a, T)]).map spU) := by
  obtain ⟨⟨hl, h⟩, hs, h1⟩ := ho
  simp only [List.length_map, List.length_append, List.length_singleton] at h
  rcases h with ⟨-, h0⟩ | ⟨g, cap, cur, rfl, hb, hg, hn, hc, hsz, ht⟩
  · omega
  · have hf := flatU l
    have hcur : cur = (l.map spU).flatten ++ (spU (a, b) ++ cur.drop ((l.length + 1) * 2)) := by
      rw [← List.append_assoc]
      have : (l.map spU).flatten ++ spU (a, b) = ((l ++ [(a, b)]).map spU).flatten := by simp
      rw [this, ← ht, List.take_append_drop]
    obtain ⟨rest, hrest⟩ : ∃ rest, rest = cur.drop ((l.length + 1) * 2) := ⟨_, rfl⟩
    rw [← hrest] at hcur
    refine ⟨g, cap, cur, rfl, hb, hg, by omega, ?_, fun T => ⟨⟨by simp [spU, spC] at hl ⊢; exact hl, .inr ⟨g, cap, cur.set (l.length * 2 + 1) (.int .u64 (16 * T : Nat)), by simp, hb, upd_at hg, by simpa using hn, hc, by simpa using hsz, ?_⟩⟩, fun r hr => ?_, spU_all _⟩⟩
    · rw [hcur, List.getElem?_append_right (by omega), hf, show l.length * 2 + 1 - l.length * 2 = 1 by omega]
      rfl
    · rw [hcur, List.set_append_right _ _ (by omega), hf, show l.length * 2 + 1 - l.length * 2 = 1 by omega]
      have e2 : (spU (a, b) ++ rest).set 1 (.int .u64 (16 * T : Nat)) = spU (a, T) ++ rest := rfl
      rw [e2, ← List.append_assoc]
      have e3 : (l.map spU).flatten ++ spU (a, T) = ((l ++ [(a, T)]).map spU).flatten := by simp
      rw [e3]
      refine List.take_left' ?_
      rw [flatU]
      simp
    · obtain ⟨p, -, rfl⟩ := List.mem_map.1 hr
      rfl
end Go.Proofs.Ytgnibcaflidjmaa
