/- What is kept for one number is never told for another one: parts; conditions: those of each theorem. -/
import Derived.Test.YtbigiabcgplkgaaFlush
namespace Go.Proofs.Ytbigiabcgplkgaa
open Go.Fx
set_option maxRecDepth 100000
set_option linter.unusedSimpArgs false
set_option linter.unusedVariables false
theorem un_set (S : Nat → List Ln) (ro ai b : Nat) (g : Bool) : (tlbC S ++ uT ro ai g).set 133 (.int .u64 b) = tlbC S ++ uT ro b g := by
  rw [List.set_append, if_neg (by rw [tlb_length]; omega), tlb_length]
  rfl
/-- the tables, and a word of the lowest one. -/
structure MA (m : Nat → Int) (a X : Nat) : Prop where
  z : leN m 0 8 = wd fV 1
  o : leN m 4096 8 = wd fV 2
  c : leN m a 8 = X
theorem MA.set {m : Nat → Int} {a X v : Nat} (h : MA m a X) (ha : 8192 ≤ a) (ha8 : a % 8 = 0) (hv : v < 18446744073709551616) : MA (stored m a 8 (v : Int)) a v := by
  have hst := fun b hb => leN_set (m := m) (a := a) (b := b) (v := v) ha8 hb hv
  refine ⟨?_, ?_, ?_⟩
  · rw [hst 0 (by omega)]
    unfold setW
    rw [if_neg (by omega)]
    exact h.z
  · rw [hst 4096 (by omega)]
    unfold setW
    rw [if_neg (by omega)]
    exact h.o
  · rw [hst a ha8]
    unfold setW
    rw [if_pos rfl]
theorem plA_one (f : Nat → Bool) (n p : Nat) : plA f n (p * 4096) 1 = [.int .u64 ((n * 4096 : Nat) : Int), .bool false] := by
  unfold plA plC
  rw [show p * 4096 % 4096 = 0 by omega, Nat.add_zero]
  simp
theorem tmiss {w : World} {b r q ai p X N : Nat} {S : Nat → List Ln} {m g0 : Nat → Int} (hS : At w b S (uT 0 ai false)) (h2S : Two S) (hF : Fit S) (h : Mem w r q 8 m g0) (hbr : b ≠ r) (hbq : b ≠ q) (hp : p < 8) (hM : MA m (8192 + p * 8) X)
    (hh : hitA S ai (p * 4096) 1 false false = none) (hb : bad X 0 8 = false) (hc : checkA (fl X) 1 false false = 0) (hN : fr X = N) {K : Value → World → Prop}
    (hK : ∀ w' m' g' X', At w' b (putS S ⟨ai, p, markA (fl X) 1 false, N, (8192 + p * 8 : Nat)⟩) (uT 0 ai false) → Mem w' r q 8 m' g' → MA m' (8192 + p * 8) X' → (X' = X ∨ X' = wd (markA (fl X) 1 false) N) → Ext [b, q] w w' → K (.tuple #[.agg [.int .u64 ((N * 4096 : Nat) : Int), .bool false].toArray, .int .i64 0]) w') :
    callsK Try.prog 28 #[.pointer (some ⟨b, 0, none⟩), .pointer (some ⟨r, 0, none⟩), .int .u64 (p * 4096 : Nat), .int .i64 1, .bool false] w K := by
  have hw : walkA (fun a => leN m a 8) 8 0 (p * 4096) = some (X, 8192 + p * 8) := by
    have := walkO (M := fun a => leN m a 8) (k := p) (off := 0) hM.z hM.o (by omega) (by omega)
    rw [Nat.add_zero] at this
    rw [this]
    simp only [hM.c]
    rw [if_neg (by rw [hb]; simp)]
  refine Translate_put (va := p * 4096) (ro := 0) hS h2S hF h hbr hbq (by omega) (by omega) hh hw hc fun w' m' g' hS' hm' hcase hx => ?_
  rw [plA_one, hN]
  rw [hN, show p * 4096 / 4096 = p by omega] at hS'
  rw [hN] at hcase
  rcases hcase with ⟨rfl, -⟩ | rfl
  · exact hK w' _ g' X hS' hm' hM (.inl rfl) hx
  · have hwl := wd_lt (markA (fl X) 1 false) N
    exact hK w' _ g' _ hS' hm' (hM.set (by omega) (by omega) (by omega)) (.inr rfl) hx
theorem thit {w : World} {b r q ai p N : Nat} {S : Nat → List Ln} {m g0 : Nat → Int} {l : Ln} (hS : At w b S (uT 0 ai false)) (h2S : Two S) (hF : Fit S) (h : Mem w r q 8 m g0) (hbr : b ≠ r) (hbq : b ≠ q) (hp : p < 8)
    (hl : look S ai p = (l, true)) (hm : l.m = (N : Int)) (hc : checkA l.f 1 false false = 0) (he : eqE (markA l.f 1 false) N l.f N = true) {K : Value → World → Prop} (hK : ∀ w', Ext [] w w' → K (.tuple #[.agg [.int .u64 ((N * 4096 : Nat) : Int), .bool false].toArray, .int .i64 0]) w') :
    callsK Try.prog 28 #[.pointer (some ⟨b, 0, none⟩), .pointer (some ⟨r, 0, none⟩), .int .u64 (p * 4096 : Nat), .int .i64 1, .bool false] w K := by
  refine Translate_hit (va := p * 4096) (ro := 0) (ai := ai) (v := .tuple #[.agg [.int .u64 ((N * 4096 : Nat) : Int), .bool false].toArray, .int .i64 0]) hS h2S hF h hbr hbq (by omega) (by omega) ?_ hK
  unfold hitA
  rw [show p * 4096 / 4096 = p by omega, hl]
  simp only
  rw [if_pos hc, hm, Int.toNat_natCast, if_pos he, plA_one]
theorem hit_none {S : Nat → List Ln} {ai p : Nat} {k : Int} {t g : Bool} (hl : (look S ai p).2 = false) : hitA S ai (p * 4096) k t g = none := by
  unfold hitA
  rw [show p * 4096 / 4096 = p by omega]
  obtain ⟨l, is, hlk⟩ : ∃ l is, look S ai p = (l, is) := ⟨_, _, rfl⟩
  rw [hlk] at hl ⊢
  simp only at hl
  subst hl
  rfl
def G5 : Nat → Bool := markA (fl (wd fU 5)) 1 false
def G6 : Nat → Bool := markA (fl (wd fU 6)) 1 false
theorem w5 : bad (wd fU 5) 0 8 = false ∧ checkA (fl (wd fU 5)) 1 false false = 0 ∧ fr (wd fU 5) = 5 ∧ checkA G5 1 false false = 0 ∧ eqE (markA G5 1 false) 5 G5 5 = true := by decide +kernel
theorem w6 : bad (wd fU 6) 0 8 = false ∧ checkA (fl (wd fU 6)) 1 false false = 0 ∧ fr (wd fU 6) = 6 ∧ checkA G6 1 false false = 0 ∧ eqE (markA G6 1 false) 6 G6 6 = true := by decide +kernel
theorem w6' : bad (wd G6 6) 0 8 = false ∧ checkA (fl (wd G6 6)) 1 false false = 0 ∧ fr (wd G6 6) = 6 := by decide +kernel
/-- the lines, step by step. -/
def LA (a p n : Nat) (F : Nat → Bool) : Ln := ⟨a, p, F, n, (8192 + p * 8 : Nat)⟩
theorem look1 (a p n : Nat) (F : Nat → Bool) : look (putS noS (LA a p n F)) a p = (LA a p n F, true) := by
  unfold look putS put4 noS put2 LA
  simp
theorem look2 {a b p n : Nat} {F : Nat → Bool} (h : a ≠ b) : (look (putS noS (LA a p n F)) b p).2 = false := by
  have h' : ¬ (a : Int) = (b : Int) := by omega
  unfold look putS put4 noS put2 LA
  simp [h']
def flS (S : Nat → List Ln) (b : Nat) : Nat → List Ln := fun j => (S j).filter (fun l => !(l.a == (b : Int)))
theorem look3 {b p n : Nat} {F : Nat → Bool} : (look (flS (putS noS (LA b p n F)) b) b p).2 = false := by
  unfold look flS putS put4 noS put2 LA
  simp
theorem look4 {b p n : Nat} {F G : Nat → Bool} {n2 : Nat} : look (putS (flS (putS noS (LA b p n F)) b) (LA b p n2 G)) b p = (LA b p n2 G, true) := by
  unfold look flS putS put4 noS put2 LA
  simp
theorem look5 {a b p n n2 : Nat} {F G : Nat → Bool} (h : a ≠ b) : (look (flS (putS (putS noS (LA a p n F)) (LA b p n2 G)) b) b p).2 = false := by
  have h' : ¬ (a : Int) = (b : Int) := by omega
  unfold look flS putS put4 noS put2 LA
  simp [h']
theorem look6 {a b p n n2 n3 : Nat} {F G H : Nat → Bool} (h : a ≠ b) : look (putS (flS (putS (putS noS (LA a p n F)) (LA b p n2 G)) b) (LA b p n3 H)) a p = (LA a p n F, true) := by
  have h' : ¬ (a : Int) = (b : Int) := by omega
  unfold look flS putS put4 noS put2 LA
  simp [h']
theorem Two.fl {S : Nat → List Ln} (h : Two S) (b : Nat) : Two (flS S b) := fun i => Nat.le_trans (List.length_filter_le _ _) (h i)
theorem Fit.fl {S : Nat → List Ln} (h : Fit S) (b : Nat) : Fit (flS S b) := fun i l hl => h i l (List.mem_filter.1 hl).1
end Go.Proofs.Ytbigiabcgplkgaa
