/- The lines of four sets beside one row of lines, plainly; conditions: those of each theorem. -/
import Derived.Test.YtbigiabcgplkgaaRef12
namespace Go.Proofs.Ytbigiabcgplkgaa
open Go.Fx
set_option maxRecDepth 100000
set_option linter.unusedSimpArgs false
set_option linter.unusedVariables false
def upt (S : Nat → List Rn) : Nat → List Rn
  | 0 => []
  | k + 1 => upt S k ++ S k
def TwoR (S : Nat → List Rn) : Prop := ∀ i, (S i).length ≤ 2
def pt4 (S : Nat → List Rn) (i : Nat) (s : List Rn) : Nat → List Rn := fun j => if j = i then s else S j
def pt2 (s : List Rn) (l : Rn) : List Rn := (if s.length = 2 then s.drop 1 else s) ++ [l]
def ptS (S : Nat → List Rn) (l : Rn) : Nat → List Rn := pt4 S (l.n % 4).toNat (pt2 ((S (l.n % 4).toNat).filter (fun r => !(r.a == l.a && r.n == l.n))) l)
theorem modR {n : Int} (hn : 0 ≤ n) : (n % 4).toNat < 4 := by omega
theorem upt_le {S : Nat → List Rn} (h : TwoR S) : ∀ k, (upt S k).length ≤ 2 * k
  | 0 => Nat.le_refl _
  | k + 1 => by
    have h1 := upt_le h k
    have h2 := h k
    show (upt S k ++ S k).length ≤ _
    rw [List.length_append]
    omega
theorem TwoR.pt4 {S : Nat → List Rn} (h : TwoR S) {i : Nat} {s : List Rn} (hs : s.length ≤ 2) : TwoR (pt4 S i s) := by
  intro j
  unfold Ytbigiabcgplkgaa.pt4
  split
  · exact hs
  · exact h j
theorem pt2_le {s : List Rn} {l : Rn} (h : s.length ≤ 2) : (pt2 s l).length ≤ 2 := by
  unfold pt2
  split
  · rename_i h2; simp [h2]
  · simp; omega
structure GoodR (S : Nat → List Rn) : Prop where
  two : TwoR S
  num : ∀ i, ∀ x ∈ S i, 0 ≤ x.n ∧ (x.n % 4).toNat = i
  top : ∀ i, ∀ x ∈ S i, x.n < 18446744073709551616
  nod : ∀ i, (S i).Pairwise fun x y => ¬ (x.a = y.a ∧ x.n = y.n)
theorem GoodR.none : GoodR (fun _ => []) := ⟨fun _ => by simp, by simp, by simp, by simp⟩
theorem GoodR.pt4 {S : Nat → List Rn} (h : GoodR S) {i : Nat} {s : List Rn} (h2 : s.length ≤ 2) (hn : ∀ x ∈ s, 0 ≤ x.n ∧ (x.n % 4).toNat = i) (ht : ∀ x ∈ s, x.n < 18446744073709551616) (hp : s.Pairwise fun x y => ¬ (x.a = y.a ∧ x.n = y.n)) : GoodR (pt4 S i s) := by
  refine ⟨h.two.pt4 h2, fun j => ?_, fun j => ?_, fun j => ?_⟩ <;> unfold Ytbigiabcgplkgaa.pt4 <;> split
  · rename_i hj; subst hj; exact hn
  · exact h.num j
  · exact ht
  · exact h.top j
  · exact hp
  · exact h.nod j
theorem pt2_mem {s : List Rn} {l x : Rn} (h : x ∈ pt2 s l) : x ∈ s ∨ x = l := by
  unfold pt2 at h
  rcases List.mem_append.1 h with h1 | h1
  · left
    split at h1
    · exact List.mem_of_mem_drop h1
    · exact h1
  · exact .inr (List.mem_singleton.1 h1)
theorem GoodR.ptS {S : Nat → List Rn} (h : GoodR S) {l : Rn} (hn : 0 ≤ l.n ∧ l.n < 18446744073709551616) : GoodR (ptS S l) := by
  have hm : ∀ x, x ∈ pt2 ((S (l.n % 4).toNat).filter (fun r => !(r.a == l.a && r.n == l.n))) l → x ∈ S (l.n % 4).toNat ∨ x = l := fun x hx => (pt2_mem hx).imp (fun h => (List.mem_filter.1 h).1) id
  refine h.pt4 (pt2_le (Nat.le_trans (List.length_filter_le _ _) (h.two _))) (fun x hx => ?_) (fun x hx => ?_) ?_
  · rcases hm x hx with h1 | rfl
    · exact h.num _ x h1
    · exact ⟨hn.1, rfl⟩
  · rcases hm x hx with h1 | rfl
    · exact h.top _ x h1
    · exact hn.2
  · have hf : ((S (l.n % 4).toNat).filter (fun r => !(r.a == l.a && r.n == l.n))).Pairwise fun x y => ¬ (x.a = y.a ∧ x.n = y.n) := (h.nod _).filter _
    unfold pt2
    refine List.pairwise_append.2 ⟨?_, by simp, ?_⟩
    · split
      · exact hf.sublist (List.drop_sublist _ _)
      · exact hf
    · intro x hx y hy
      rw [List.mem_singleton.1 hy]
      have h1 : x ∈ (S (l.n % 4).toNat).filter (fun r => !(r.a == l.a && r.n == l.n)) := by
        split at hx
        · exact List.mem_of_mem_drop hx
        · exact hx
      have h2 := (List.mem_filter.1 h1).2
      rintro ⟨h3, h4⟩
      simp [h3, h4] at h2
theorem ptS_other {S : Nat → List Rn} {l : Rn} {i : Nat} (h : i ≠ (l.n % 4).toNat) : ptS S l i = S i := by
  unfold ptS pt4
  rw [if_neg h]
theorem upt_num {S : Nat → List Rn} (h : GoodR S) : ∀ k, ∀ x ∈ upt S k, 0 ≤ x.n ∧ (x.n % 4).toNat < k
  | 0 => by simp [upt]
  | k + 1 => fun x hx => by
    rcases List.mem_append.1 (show x ∈ upt S k ++ S k from hx) with h1 | h1
    · have := upt_num h k x h1; omega
    · have := h.num k x h1; omega
/-- what is kept without the line of a place. -/
def evR (S : Nat → List Rn) (place : Int) : Nat → List Rn :=
  match (upt S 4)[gone (upt S 4).length place]? with
  | some x => pt4 S (x.n % 4).toNat ((S (x.n % 4).toNat).filter (fun l => !(l.a == x.a && l.n == x.n)))
  | none => S
theorem upt_top {S : Nat → List Rn} (h : GoodR S) : ∀ k, ∀ x ∈ upt S k, x.n < 18446744073709551616
  | 0 => by simp [upt]
  | k + 1 => fun x hx => by
    rcases List.mem_append.1 (show x ∈ upt S k ++ S k from hx) with h1 | h1
    · exact upt_top h k x h1
    · exact h.top k x h1
theorem parts4R (S : Nat → List Rn) {i : Nat} (hi : i < 4) : ∃ X Z : List Rn, (∀ Q, upt (pt4 S i Q) 4 = X ++ (Q ++ Z)) ∧ (∀ x ∈ X, ∃ j, j < i ∧ x ∈ S j) ∧ (∀ z ∈ Z, ∃ j, i < j ∧ z ∈ S j) := by
  match i, hi with
  | 0, _ =>
    refine ⟨[], S 1 ++ (S 2 ++ S 3), fun Q => by simp [upt, pt4], by simp, fun z hz => ?_⟩
    simp only [List.mem_append] at hz
    rcases hz with h | h | h
    · exact ⟨1, by omega, h⟩
    · exact ⟨2, by omega, h⟩
    · exact ⟨3, by omega, h⟩
  | 1, _ =>
    refine ⟨S 0, S 2 ++ S 3, fun Q => by simp [upt, pt4], fun x hx => ⟨0, by omega, hx⟩, fun z hz => ?_⟩
    rcases List.mem_append.1 hz with h | h
    · exact ⟨2, by omega, h⟩
    · exact ⟨3, by omega, h⟩
  | 2, _ =>
    refine ⟨S 0 ++ S 1, S 3, fun Q => by simp [upt, pt4], fun x hx => ?_, fun z hz => ⟨3, by omega, hz⟩⟩
    rcases List.mem_append.1 hx with h | h
    · exact ⟨0, by omega, h⟩
    · exact ⟨1, by omega, h⟩
  | 3, _ =>
    refine ⟨S 0 ++ (S 1 ++ S 2), [], fun Q => by simp [upt, pt4], fun x hx => ?_, by simp⟩
    simp only [List.mem_append] at hx
    rcases hx with h | h | h
    · exact ⟨0, by omega, h⟩
    · exact ⟨1, by omega, h⟩
    · exact ⟨2, by omega, h⟩
theorem pt4_self (S : Nat → List Rn) (i : Nat) : pt4 S i (S i) = S := by
  funext j
  unfold pt4
  split
  · rename_i h; rw [h]
  · rfl
theorem filter_otherR {X : List Rn} {a n : Int} (h : ∀ x ∈ X, x.n ≠ n) : X.filter (fun l => !(l.a == a && l.n == n)) = X := by
  rw [List.filter_eq_self]
  intro x hx
  simp [h x hx]
theorem drop_lawR {S : Nat → List Rn} (hg : GoodR S) {a n : Int} (hn : 0 ≤ n) :
    upt (pt4 S (n % 4).toNat ((S (n % 4).toNat).filter (fun l => !(l.a == a && l.n == n)))) 4 = (upt S 4).filter (fun l => !(l.a == a && l.n == n)) := by
  obtain ⟨X, Z, hQ, hX, hZ⟩ := parts4R S (i := (n % 4).toNat) (modR hn)
  have h0 := hQ (S (n % 4).toNat)
  rw [pt4_self] at h0
  rw [hQ, h0, List.filter_append, List.filter_append, filter_otherR (X := X), filter_otherR (X := Z)]
  · intro x hx
    obtain ⟨j, hj, hxj⟩ := hZ x hx
    have := hg.num j x hxj
    rintro rfl; omega
  · intro x hx
    obtain ⟨j, hj, hxj⟩ := hX x hx
    have := hg.num j x hxj
    rintro rfl; omega
theorem flush_lawR (S : Nat → List Rn) (p : Rn → Bool) : ∀ k, upt (fun j => (S j).filter p) k = (upt S k).filter p
  | 0 => rfl
  | k + 1 => by simp [upt, flush_lawR S p k]
theorem clear_lawR : ∀ k, upt (fun _ => []) k = []
  | 0 => rfl
  | k + 1 => by simp [upt, clear_lawR k]
/-- what 'rput' asks of its lines. -/
theorem put_lawR {S : Nat → List Rn} (hg : GoodR S) {l : Rn} (hn : 0 ≤ l.n) : ∃ A B : Nat, A ≤ ((upt S 4).filter (fun r => !(r.a == l.a && r.n == l.n))).length ∧ B ≤ A ∧
    (∀ j (h : j < ((upt S 4).filter (fun r => !(r.a == l.a && r.n == l.n))).length), ((upt S 4).filter (fun r => !(r.a == l.a && r.n == l.n)))[j].n % 4 ≤ l.n % 4 ↔ j < A) ∧
    (∀ j (h : j < ((upt S 4).filter (fun r => !(r.a == l.a && r.n == l.n))).length), ((upt S 4).filter (fun r => !(r.a == l.a && r.n == l.n)))[j].n % 4 = l.n % 4 ↔ B ≤ j ∧ j < A) ∧
    rput ((upt S 4).filter (fun r => !(r.a == l.a && r.n == l.n))) l A B = upt (ptS S l) 4 := by
  obtain ⟨X, Z, hQ, hX, hZ⟩ := parts4R S (i := (l.n % 4).toNat) (modR hn)
  have hd := drop_lawR hg (a := l.a) hn
  rw [hQ] at hd
  rw [← hd]
  unfold ptS
  rw [hQ]
  have hY2 : ((S (l.n % 4).toNat).filter (fun r => !(r.a == l.a && r.n == l.n))).length ≤ 2 := Nat.le_trans (List.length_filter_le _ _) (hg.two _)
  have hX' : ∀ x ∈ X, 0 ≤ x.n ∧ x.n % 4 < l.n % 4 := fun x hx => by
    obtain ⟨j, hj, hxj⟩ := hX x hx
    have := hg.num j x hxj
    omega
  have hZ' : ∀ x ∈ Z, l.n % 4 < x.n % 4 := fun x hx => by
    obtain ⟨j, hj, hxj⟩ := hZ x hx
    have := hg.num j x hxj
    omega
  have hY' : ∀ x ∈ (S (l.n % 4).toNat).filter (fun r => !(r.a == l.a && r.n == l.n)), x.n % 4 = l.n % 4 := fun x hx => by
    have := hg.num _ x (List.mem_filter.1 hx).1
    omega
  generalize (S (l.n % 4).toNat).filter (fun r => !(r.a == l.a && r.n == l.n)) = Y at hY2 hY'
  have key : ∀ j (h : j < (X ++ (Y ++ Z)).length), (j < X.length ∧ (X ++ (Y ++ Z))[j].n % 4 < l.n % 4) ∨ (X.length ≤ j ∧ j < X.length + Y.length ∧ (X ++ (Y ++ Z))[j].n % 4 = l.n % 4) ∨ (X.length + Y.length ≤ j ∧ l.n % 4 < (X ++ (Y ++ Z))[j].n % 4) := by
    intro j h
    by_cases h1 : j < X.length
    · left
      rw [List.getElem_append_left h1]
      exact ⟨h1, (hX' _ (List.getElem_mem h1)).2⟩
    · right
      rw [List.getElem_append_right (by omega)]
      simp only [List.length_append] at h
      by_cases h2 : j < X.length + Y.length
      · left
        rw [List.getElem_append_left (by omega)]
        exact ⟨by omega, h2, hY' _ (List.getElem_mem _)⟩
      · right
        rw [List.getElem_append_right (by omega)]
        exact ⟨by omega, hZ' _ (List.getElem_mem _)⟩
  refine ⟨X.length + Y.length, X.length, by simp, by omega, fun j h => ?_, fun j h => ?_, ?_⟩
  · rcases key j h with h1 | h1 | h1 <;> omega
  · rcases key j h with h1 | h1 | h1 <;> omega
  · unfold rput pt2
    have e1 : (X ++ (Y ++ Z)).take (X.length + Y.length) = X ++ Y := by rw [← List.append_assoc, ← List.length_append, List.take_left]
    have e2 : (X ++ (Y ++ Z)).drop (X.length + Y.length) = Z := by rw [← List.append_assoc, ← List.length_append, List.drop_left]
    rw [e1, e2, Nat.add_sub_cancel_left]
    by_cases h : Y.length = 2
    · rw [if_pos h, if_pos h]
      match Y, h with
      | [y, z], _ => simp [List.eraseIdx_append_of_length_le]
    · rw [if_neg h, if_neg h]
      simp
theorem upt_nod {S : Nat → List Rn} (h : GoodR S) : ∀ k, (upt S k).Pairwise fun x y => ¬ (x.a = y.a ∧ x.n = y.n)
  | 0 => by simp [upt]
  | k + 1 => by
    show (upt S k ++ S k).Pairwise _
    refine List.pairwise_append.2 ⟨upt_nod h k, h.nod k, fun x hx y hy => ?_⟩
    have h1 := upt_num h k x hx
    have h2 := h.num k y hy
    rintro ⟨-, h3⟩
    rw [h3] at h1
    omega
theorem erase_filterR : ∀ {M : List Rn} {g : Nat} {x : Rn}, M.Pairwise (fun x y => ¬ (x.a = y.a ∧ x.n = y.n)) → M[g]? = some x → M.eraseIdx g = M.filter (fun r => !(r.a == x.a && r.n == x.n))
  | [], g, x, _, h => by simp at h
  | y :: M, 0, x, hp, h => by
    simp at h
    subst h
    obtain ⟨h1, h2⟩ := List.pairwise_cons.1 hp
    rw [List.eraseIdx_cons_zero, List.filter_cons_of_neg (by simp), List.filter_eq_self.2]
    intro z hz
    have := h1 z hz
    simp
    exact Decidable.not_and_iff_or_not.1 fun e => this ⟨e.1.symm, e.2.symm⟩
  | y :: M, g + 1, x, hp, h => by
    obtain ⟨h1, h2⟩ := List.pairwise_cons.1 hp
    rw [List.getElem?_cons_succ] at h
    have hx := List.mem_of_getElem? h
    rw [List.eraseIdx_cons_succ, List.filter_cons_of_pos, erase_filterR h2 h]
    have := h1 x hx
    simp
    exact Decidable.not_and_iff_or_not.1 this
theorem evict_lawR {S : Nat → List Rn} (hg : GoodR S) {place : Int} : upt (evR S place) 4 = (upt S 4).eraseIdx (gone (upt S 4).length place) := by
  unfold evR
  split
  · rename_i x hx
    rw [drop_lawR hg (upt_num hg 4 x (List.mem_of_getElem? hx)).1, erase_filterR (upt_nod hg 4) hx]
  · rename_i hx
    rw [List.eraseIdx_of_length_le (List.getElem?_eq_none_iff.1 hx)]
theorem GoodR.filter {S : Nat → List Rn} (h : GoodR S) (p : Rn → Bool) : GoodR (fun j => (S j).filter p) :=
  ⟨fun i => Nat.le_trans (List.length_filter_le _ _) (h.two i), fun i x hx => h.num i x (List.mem_filter.1 hx).1, fun i x hx => h.top i x (List.mem_filter.1 hx).1, fun i => (h.nod i).filter _⟩
theorem GoodR.drop {S : Nat → List Rn} (h : GoodR S) (i : Nat) (p : Rn → Bool) : GoodR (Ytbigiabcgplkgaa.pt4 S i ((S i).filter p)) :=
  h.pt4 (Nat.le_trans (List.length_filter_le _ _) (h.two i)) (fun x hx => h.num i x (List.mem_filter.1 hx).1) (fun x hx => h.top i x (List.mem_filter.1 hx).1) ((h.nod i).filter _)
theorem GoodR.evict {S : Nat → List Rn} (h : GoodR S) (place : Int) : GoodR (evR S place) := by
  unfold evR
  split
  · exact h.drop _ _
  · exact h
end Go.Proofs.Ytbigiabcgplkgaa
