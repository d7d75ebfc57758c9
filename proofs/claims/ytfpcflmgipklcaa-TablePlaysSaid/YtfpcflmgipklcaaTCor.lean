/- The tables and the document's, plain; conditions: those of each theorem. -/
import Derived.Test.YtfpcflmgipklcaaTRef5
import Derived.Test.YtfpcflmgipklcaaTAny
namespace Go.Proofs.Ytfpcflmgipklcaa
open Go.Fx
set_option linter.unusedSimpArgs false
set_option linter.unusedVariables false
theorem look_pg {m : Nat → Int} {root va va' : Nat} (hva : va < 549755813888) (hva' : va' < 549755813888) (h : va' / 4096 = va / 4096) : lookW m root va' = lookW m root va := by
  obtain ⟨h1, h2⟩ := low_page (f := root) hva hva' h
  unfold lookW
  rw [h1, h2]
/-- an entry told by an address's word. -/
def SaysE (y : Nat) : Option EntE → Prop
  | some e => y = wd e.f e.n ∧ leaf e.f = true ∧ right e.f e.n = true
  | none => y = 0
/-- tables that have the document's pages, and its tables below. -/
structure Cor (m : Nat → Int) (fs : List Nat) (R : RT) : Prop where
  pages : ∀ k, k < 67108864 → SaysE (lookW m 0 (k * 4096)) (findP R.ps k)
  levs : ∀ va, va < 274877906944 → lev m 0 va = if va / 1073741824 ∈ R.mid then (if va / 2097152 ∈ R.low then 0 else 1) else 2
  clo : ∀ x ∈ R.low, x / 512 ∈ R.mid
  cnt : fs.length = 1 + R.mid.length + R.low.length
theorem Cor.at {m : Nat → Int} {fs : List Nat} {R : RT} (h : Cor m fs R) {va : Nat} (hva : va < 274877906944) : SaysE (lookW m 0 va) (findP R.ps (va / 4096)) := by
  rw [← look_pg (m := m) (root := 0) (va := va) (va' := va / 4096 * 4096) (by omega) (by omega) (by omega)]
  exact h.pages _ (by omega)
theorem Cor.need {m : Nat → Int} {fs : List Nat} {R : RT} (h : Cor m fs R) {va : Nat} (hva : va < 274877906944) : lev m 0 va = needR R va := by
  rw [h.levs va hva]
  unfold needR
  by_cases h1 : va / 1073741824 ∈ R.mid
  · rw [if_pos h1, if_pos h1]
    split <;> rfl
  · rw [if_neg h1, if_neg h1]
    by_cases h2 : va / 2097152 ∈ R.low
    · exact absurd (by have := h.clo _ h2; rwa [show va / 2097152 / 512 = va / 1073741824 by omega] at this) h1
    · rw [if_neg h2]
theorem find_clr {P : List (Nat × EntE)} {k k' : Nat} : findP (P.filter (fun p => !(p.1 == k))) k' = if k' = k then none else findP P k' := by
  unfold findP
  rw [List.find?_filter]
  by_cases h : k' = k
  · rw [if_pos h, List.find?_eq_none.2]
    · rfl
    · intro p _ hp
      simp at hp
      exact hp.1 (hp.2.trans h)
  · rw [if_neg h]
    congr 2
    funext p
    by_cases hp : p.1 = k'
    · have : ¬ p.1 = k := fun e => h (hp.symm.trans e)
      simp [hp, h]
    · simp [hp]
theorem find_ins {P : List (Nat × EntE)} {k k' : Nat} {e : EntE} : findP (insR (P.filter (fun p => !(p.1 == k))) k e) k' = if k' = k then some e else findP P k' := by
  have hc := find_clr (P := P) (k := k) (k' := k')
  obtain ⟨Q, hQ⟩ : ∃ Q, Q = P.filter (fun p => !(p.1 == k)) := ⟨_, rfl⟩
  rw [← hQ] at hc ⊢
  have hs : Q = Q.takeWhile (fun p => decide (p.1 < k)) ++ Q.dropWhile (fun p => decide (p.1 < k)) := (List.takeWhile_append_dropWhile ..).symm
  have hno : ∀ p ∈ Q, ¬ p.1 = k := by
    rw [hQ]
    intro p hp
    have := (List.mem_filter.1 hp).2
    simpa using this
  unfold insR findP
  unfold findP at hc
  by_cases h : k' = k
  · rw [if_pos h, List.find?_append, List.find?_eq_none.2 (fun p hp hq => hno p (by rw [hs]; exact List.mem_append_left _ hp) (by rw [← h]; simpa using hq)), h]
    simp
  · rw [if_neg h] at hc ⊢
    rw [← hc]
    conv => rhs; rw [hs]
    rw [List.find?_append, List.find?_append, List.find?_cons]
    have : ((k, e).1 == k') = false := by simpa using fun e => h e.symm
    rw [this]
theorem Cor.clear {m m' : Nat → Int} {fs : List Nat} {R : RT} (h : Cor m fs R) {va : Nat} (hva : va < 274877906944) (hl : ∀ va', va' < 549755813888 → lookW m' 0 va' = if va' / 4096 = va / 4096 then 0 else lookW m 0 va') (hv : ∀ va', low m' va' 2 0 = low m va' 2 0) : Cor m' fs (clr R (va / 4096)) := by
  refine ⟨fun k hk => ?_, fun va' hva' => ?_, h.clo, h.cnt⟩
  · show SaysE _ (findP (R.ps.filter (fun p => !(p.1 == va / 4096))) k)
    rw [hl _ (by omega), find_clr, show k * 4096 / 4096 = k by omega]
    by_cases hk2 : k = va / 4096
    · rw [if_pos hk2, if_pos hk2]
      rfl
    · rw [if_neg hk2, if_neg hk2]
      exact h.pages k hk
  · have e : lev m' 0 va' = lev m 0 va' := congrArg levT (hv va')
    rw [e]
    exact h.levs va' hva'
theorem Cor.set {m m' : Nat → Int} {fs fs' : List Nat} {R : RT} (h : Cor m fs R) {va : Nat} (hva : va < 274877906944) {e : EntE} (hlr : (leaf e.f && right e.f e.n) = true) (hl : ∀ va', va' < 549755813888 → lookW m' 0 va' = if va' / 4096 = va / 4096 then wd e.f e.n else lookW m 0 va')
    (hv : ∀ va', va' < 549755813888 → lev m' 0 va' = levS (lev m 0) va 0 va') (hf : fs'.length = fs.length + lev m 0 va) : Cor m' fs' (setR R va e) := by
  refine ⟨fun k hk => ?_, fun va' hva' => ?_, fun x hx => ?_, ?_⟩
  · show SaysE _ (findP (insR (R.ps.filter (fun p => !(p.1 == va / 4096))) (va / 4096) e) k)
    rw [hl _ (by omega), find_ins, show k * 4096 / 4096 = k by omega]
    by_cases hk2 : k = va / 4096
    · rw [if_pos hk2, if_pos hk2]
      rw [Bool.and_eq_true] at hlr
      exact ⟨rfl, hlr⟩
    · rw [if_neg hk2, if_neg hk2]
      exact h.pages k hk
  · rw [hv va' (by omega)]
    have h0 := h.levs va' hva'
    unfold levS
    rw [h0]
    clear h0 hv hf hl
    have hm : ∀ y, y ∈ (setR R va e).mid ↔ y ∈ R.mid ∨ y = va / 1073741824 := fun y => by
      unfold setR
      simp only
      split
      · rename_i hin
        exact ⟨fun h => .inl h, fun h => h.elim id fun e => e ▸ hin⟩
      · simp
    have hw : ∀ y, y ∈ (setR R va e).low ↔ y ∈ R.low ∨ y = va / 2097152 := fun y => by
      unfold setR
      simp only
      split
      · rename_i hin
        exact ⟨fun h => .inl h, fun h => h.elim id fun e => e ▸ hin⟩
      · simp
    by_cases hs2 : va' / 1073741824 = va / 1073741824
    · rw [if_pos ⟨by omega, hs2⟩, if_pos ((hm _).2 (.inr hs2))]
      by_cases hs : va' / 2097152 = va / 2097152
      · rw [if_pos ⟨rfl, hs⟩, if_pos ((hw _).2 (.inr hs))]
      · rw [if_neg (fun h => hs h.2)]
        by_cases h1 : va' / 2097152 ∈ R.low
        · have h2 := h.clo _ h1
          rw [show va' / 2097152 / 512 = va' / 1073741824 by omega] at h2
          rw [if_pos h2, if_pos h1, if_pos ((hw _).2 (.inl h1))]
          rfl
        · rw [if_neg (fun h => h1 (((hw _).1 h).resolve_right hs)), if_neg h1]
          split <;> rfl
    · have hs : ¬ va' / 2097152 = va / 2097152 := by omega
      rw [if_neg (fun h => hs2 h.2)]
      by_cases h1 : va' / 1073741824 ∈ R.mid
      · rw [if_pos h1, if_pos ((hm _).2 (.inl h1))]
        by_cases h2 : va' / 2097152 ∈ R.low
        · rw [if_pos h2, if_pos ((hw _).2 (.inl h2))]
        · rw [if_neg h2, if_neg (fun h => h2 (((hw _).1 h).resolve_right hs))]
      · rw [if_neg h1, if_neg (fun h => h1 (((hm _).1 h).resolve_right hs2))]
  · have hx' : x ∈ R.low ∨ x = va / 2097152 := by
      unfold setR at hx
      simp only at hx
      split at hx
      · exact .inl hx
      · simpa using hx
    have hm : x / 512 ∈ R.mid ∨ x / 512 = va / 1073741824 := by
      rcases hx' with hx' | hx'
      · exact .inl (h.clo x hx')
      · exact .inr (by omega)
    unfold setR
    simp only
    split
    · rename_i hin
      rcases hm with hm | hm
      · exact hm
      · rw [hm]; exact hin
    · simpa using hm
  · rw [hf, h.need hva, h.cnt]
    unfold needR setR
    simp only
    split <;> split <;> simp <;> omega
theorem setR_len (R : RT) (va : Nat) (e : EntE) : (setR R va e).ps.length ≤ R.ps.length + 1 ∧ (setR R va e).mid.length ≤ R.mid.length + 1 ∧ (setR R va e).low.length ≤ R.low.length + 1 := by
  unfold setR insR
  refine ⟨?_, ?_, ?_⟩
  · have h1 := List.length_filter_le (fun p : Nat × EntE => !(p.1 == va / 4096)) R.ps
    have h2 := congrArg List.length (List.takeWhile_append_dropWhile (p := fun p : Nat × EntE => decide (p.1 < va / 4096)) (l := (clr R (va / 4096)).ps))
    simp only [List.length_append, List.length_cons] at h2 ⊢
    have h3 : (clr R (va / 4096)).ps.length ≤ R.ps.length := h1
    omega
  · simp only
    split <;> simp
  · simp only
    split <;> simp
end Go.Proofs.Ytfpcflmgipklcaa
