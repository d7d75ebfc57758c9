/- A unit's lines beside the document's, and the entries behind them, plainly; conditions: those of each theorem. -/
import Derived.Test.YtbigiabcgplkgaaKept
namespace Go.Proofs.Ytbigiabcgplkgaa
open Go.Fx
set_option maxRecDepth 100000
set_option linter.unusedSimpArgs false
set_option linter.unusedVariables false
/-- an entry that the document keeps, and where it is. -/
structure Dn where
  f : Nat → Bool
  m : Nat
  x : Nat
def Dn.zero : Dn := ⟨fun _ => false, 0, 0⟩
def deC (d : Dn) : List Value := entC d.f d.m
/-- the unit's line behind the document's. -/
def ln (D : List Dn) (r : Rn) : Ln := ⟨r.a, r.n, (D.getD r.x.toNat Dn.zero).f, (D.getD r.x.toNat Dn.zero).m, (D.getD r.x.toNat Dn.zero).x⟩
def lnS (D : List Dn) (G : Nat → List Rn) : Nat → List Ln := fun i => (G i).map (ln D)
def Idx (c : Nat) (G : Nat → List Rn) : Prop := ∀ i, ∀ r ∈ G i, 0 ≤ r.x ∧ r.x < c
theorem Idx.none (c : Nat) : Idx c (fun _ => []) := fun _ => by simp
theorem Idx.pt4 {c : Nat} {G : Nat → List Rn} (h : Idx c G) {i : Nat} {s : List Rn} (hs : ∀ r ∈ s, 0 ≤ r.x ∧ r.x < c) : Idx c (pt4 G i s) := by
  intro j
  unfold Ytbigiabcgplkgaa.pt4
  split
  · exact hs
  · exact h j
theorem Idx.filter {c : Nat} {G : Nat → List Rn} (h : Idx c G) (p : Rn → Bool) : Idx c (fun j => (G j).filter p) := fun i r hr => h i r (List.mem_filter.1 hr).1
theorem Idx.drop {c : Nat} {G : Nat → List Rn} (h : Idx c G) (i : Nat) (p : Rn → Bool) : Idx c (Ytbigiabcgplkgaa.pt4 G i ((G i).filter p)) := h.pt4 fun r hr => h i r (List.mem_filter.1 hr).1
theorem Idx.evict {c : Nat} {G : Nat → List Rn} (h : Idx c G) (place : Int) : Idx c (evR G place) := by
  unfold evR
  split
  · exact h.drop _ _
  · exact h
theorem Idx.put {c : Nat} {G : Nat → List Rn} (h : Idx c G) (a n : Int) : Idx (c + 1) (ptS G ⟨a, n, c⟩) := by
  have h1 : Idx (c + 1) G := fun i r hr => by have := h i r hr; omega
  refine h1.pt4 fun r hr => ?_
  rcases pt2_mem hr with hm | rfl
  · exact h1 _ r (List.mem_filter.1 hm).1
  · exact ⟨by show (0 : Int) ≤ (c : Nat); omega, by show ((c : Nat) : Int) < ((c + 1 : Nat) : Int); omega⟩
theorem upt_idx {c : Nat} {G : Nat → List Rn} (h : Idx c G) : ∀ k, ∀ r ∈ upt G k, 0 ≤ r.x ∧ r.x < c
  | 0 => by simp [upt]
  | k + 1 => fun r hr => by
    rcases List.mem_append.1 (show r ∈ upt G k ++ G k from hr) with h1 | h1
    · exact upt_idx h k r h1
    · exact h k r h1
theorem upto_lnS (D : List Dn) (G : Nat → List Rn) : ∀ k, upto (lnS D G) k = (upt G k).map (ln D)
  | 0 => rfl
  | k + 1 => by
    show upto (lnS D G) k ++ lnS D G k = (upt G k ++ G k).map (ln D)
    rw [upto_lnS D G k, List.map_append]
    rfl
theorem lnS_pt4 (D : List Dn) (G : Nat → List Rn) (i : Nat) (s : List Rn) : put4 (lnS D G) i (s.map (ln D)) = lnS D (pt4 G i s) := by
  funext j
  unfold put4 lnS pt4
  split <;> rfl
theorem ln_filter (D : List Dn) (s : List Rn) (a n : Int) : (s.map (ln D)).filter (fun l => !(l.a == a && l.n == n)) = (s.filter (fun l => !(l.a == a && l.n == n))).map (ln D) := by
  rw [List.filter_map]
  rfl
theorem lnS_drop (D : List Dn) (G : Nat → List Rn) (i : Nat) (a n : Int) : put4 (lnS D G) i ((lnS D G i).filter (fun l => !(l.a == a && l.n == n))) = lnS D (pt4 G i ((G i).filter (fun l => !(l.a == a && l.n == n)))) := by
  rw [← lnS_pt4, ← ln_filter]
  rfl
theorem lnS_flush (D : List Dn) (G : Nat → List Rn) (a : Int) : (fun j => (lnS D G j).filter (fun l => !(l.a == a))) = lnS D (fun j => (G j).filter (fun l => !(l.a == a))) := by
  funext j
  show ((G j).map (ln D)).filter _ = ((G j).filter _).map (ln D)
  rw [List.filter_map]
  rfl
theorem lnS_clear (D : List Dn) : (fun _ => []) = lnS D (fun _ => []) := rfl
theorem ln_add {D : List Dn} {r : Rn} (d : Dn) (h : 0 ≤ r.x ∧ r.x < D.length) : ln (D ++ [d]) r = ln D r := by
  have e : (D ++ [d]).getD r.x.toNat Dn.zero = D.getD r.x.toNat Dn.zero := by
    rw [List.getD_eq_getElem?_getD, List.getD_eq_getElem?_getD, List.getElem?_append_left (by omega)]
  unfold ln
  rw [e]
theorem lnS_add {D : List Dn} {G : Nat → List Rn} (d : Dn) (h : Idx D.length G) : lnS (D ++ [d]) G = lnS D G := by
  funext j
  exact List.map_congr_left fun r hr => ln_add d (h j r hr)
theorem ln_new (D : List Dn) (d : Dn) (a n : Int) : ln (D ++ [d]) ⟨a, n, D.length⟩ = ⟨a, n, d.f, d.m, d.x⟩ := by
  have e : (D ++ [d]).getD (((D.length : Nat) : Int)).toNat Dn.zero = d := by simp
  show (⟨a, n, _, _, _⟩ : Ln) = _
  rw [e]
theorem put2_map (D : List Dn) (s : List Rn) (l : Rn) : put2 (s.map (ln D)) (ln D l) = (pt2 s l).map (ln D) := by
  unfold put2 pt2
  rw [List.length_map, List.map_append]
  split
  · rw [List.map_drop]; rfl
  · rfl
theorem lnS_put {D : List Dn} {G : Nat → List Rn} (d : Dn) (h : Idx D.length G) (a n : Int) : putS (lnS D G) ⟨a, n, d.f, d.m, d.x⟩ = lnS (D ++ [d]) (ptS G ⟨a, n, D.length⟩) := by
  rw [← lnS_add d h, ← ln_new D d a n]
  unfold putS ptS
  rw [← lnS_pt4, ← put2_map, ← ln_filter]
  rfl
theorem lnS_two {D : List Dn} {G : Nat → List Rn} (h : TwoR G) : Two (lnS D G) := fun i => by
  show ((G i).map (ln D)).length ≤ 2
  rw [List.length_map]
  exact h i
theorem lnS_fit {D : List Dn} (G : Nat → List Rn) (h : ∀ d ∈ D, d.m < 17592186044416) : Fit (lnS D G) := by
  intro i l hl
  obtain ⟨r, -, rfl⟩ := List.mem_map.1 hl
  refine ⟨(D.getD r.x.toNat Dn.zero).m, rfl, ?_⟩
  rw [List.getD_eq_getElem?_getD]
  cases hd : D[r.x.toNat]? with
  | none => show (0 : Nat) < _; omega
  | some d => exact h d (List.mem_of_getElem? hd)
/-- what is told by a line that the document keeps: a place, and what is wrong. -/
def hitD (R : List Rn) (D : List Dn) (a va : Nat) (k : Int) (t g : Bool) : Option (List Value × Int) :=
  match R.find? (fun l => l.a == (a : Int) && l.n == ((va / 4096 : Nat) : Int)) with
  | some l => if checkA (D.getD l.x.toNat Dn.zero).f k t g = 0 then (if eqE (markA (D.getD l.x.toNat Dn.zero).f k t) (D.getD l.x.toNat Dn.zero).m (D.getD l.x.toNat Dn.zero).f (D.getD l.x.toNat Dn.zero).m = true then some (plA (D.getD l.x.toNat Dn.zero).f (D.getD l.x.toNat Dn.zero).m va k, 0) else none) else some (plC 0 false, checkA (D.getD l.x.toNat Dn.zero).f k t g)
  | none => none
theorem find_law {G : Nat → List Rn} (hg : GoodR G) {a n : Int} (hn : 0 ≤ n) : (G (n % 4).toNat).find? (fun l => l.a == a && l.n == n) = (upt G 4).find? (fun l => l.a == a && l.n == n) := by
  obtain ⟨X, Z, hQ, hX, hZ⟩ := parts4R G (i := (n % 4).toNat) (modR hn)
  have h0 := hQ (G (n % 4).toNat)
  rw [pt4_self] at h0
  rw [h0, List.find?_append, List.find?_append]
  have e1 : X.find? (fun l => l.a == a && l.n == n) = none := List.find?_eq_none.2 fun x hx => by
    obtain ⟨j, hj, hxj⟩ := hX x hx
    have := hg.num j x hxj
    have : x.n ≠ n := by rintro rfl; omega
    simp [this]
  have e2 : Z.find? (fun l => l.a == a && l.n == n) = none := List.find?_eq_none.2 fun x hx => by
    obtain ⟨j, hj, hxj⟩ := hZ x hx
    have := hg.num j x hxj
    have : x.n ≠ n := by rintro rfl; omega
    simp [this]
  rw [e1, e2]
  simp only [Option.none_or, Option.or_none]
theorem hit_law {D : List Dn} {G : Nat → List Rn} (hg : GoodR G) (a va : Nat) (k : Int) (t g : Bool) :
    hitA (lnS D G) a va k t g = (hitD (upt G 4) D a va k t g).map fun p => .tuple #[.agg p.1.toArray, .int .i64 p.2] := by
  unfold hitA hitD look
  rw [← find_law hg (by omega)]
  have e : (lnS D G (((va / 4096 : Nat) : Int) % 4).toNat).find? (fun l => l.a == (a : Int) && l.n == ((va / 4096 : Nat) : Int)) = ((G (((va / 4096 : Nat) : Int) % 4).toNat).find? (fun l => l.a == (a : Int) && l.n == ((va / 4096 : Nat) : Int))).map (ln D) := by
    unfold lnS
    rw [List.find?_map]
    rfl
  rw [e]
  cases (G (((va / 4096 : Nat) : Int) % 4).toNat).find? (fun l => l.a == (a : Int) && l.n == ((va / 4096 : Nat) : Int)) with
  | none => rfl
  | some l =>
    simp only [Option.map_some, ln, Int.toNat_natCast]
    split
    · split <;> rfl
    · rfl
theorem hitD_some {R : List Rn} {D : List Dn} {a va : Nat} {k : Int} {t g : Bool} {l : Rn} (h : R.find? (fun l => l.a == (a : Int) && l.n == ((va / 4096 : Nat) : Int)) = some l) {d : Dn} (hd : D[l.x.toNat]? = some d) :
    hitD R D a va k t g = if checkA d.f k t g = 0 then (if eqE (markA d.f k t) d.m d.f d.m = true then some (plA d.f d.m va k, 0) else none) else some (plC 0 false, checkA d.f k t g) := by
  unfold hitD
  rw [h]
  simp only [List.getD_eq_getElem?_getD, hd, Option.getD_some]
theorem hitD_none {R : List Rn} {D : List Dn} {a va : Nat} {k : Int} {t g : Bool} (h : R.find? (fun l => l.a == (a : Int) && l.n == ((va / 4096 : Nat) : Int)) = none) : hitD R D a va k t g = none := by
  unfold hitD
  rw [h]
end Go.Proofs.Ytbigiabcgplkgaa
