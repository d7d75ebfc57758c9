/- A page that is kept, when its entry is gone; conditions: those of each theorem. -/
import Derived.Test.YtbigiabcgplkgaaSetup
namespace Go.Proofs.Ytbigiabcgplkgaa
open Go.Fx
set_option maxRecDepth 100000
set_option linter.unusedSimpArgs false
set_option linter.unusedVariables false
def noS : Nat → List Ln := fun _ => []
theorem un_all0 (ro ai : Nat) (g : Bool) : (tlbC noS ++ uT ro ai g).all (fun v => v.oneCell') = true := by
  rw [List.all_append]
  rfl
theorem zeroU : Try.zeroCells74 = (tlbC noS ++ uT 0 0 false).toArray := by kernel_rfl
theorem blU2 (a : Nat) (w : World) : (Instr.build 74 [(2, .int .u64 a)].toArray).run Try.prog w = .ok (.agg (tlbC noS ++ uT 0 a false).toArray) w := run_build w 74 _ _ (by kernel_rfl)
theorem blU3 (g : Bool) (w : World) : (Instr.build 74 [(3, .bool g)].toArray).run Try.prog w = .ok (.agg (tlbC noS ++ uT 0 0 g).toArray) w := run_build w 74 _ _ (by kernel_rfl)
theorem Two.no : Two noS := fun _ => by simp [noS]
theorem Fit.no : Fit noS := fun i l hl => by simp [noS] at hl
theorem hitA_no (ai va : Nat) (k : Int) (t g : Bool) : hitA noS ai va k t g = none := rfl
theorem Fit.put {S : Nat → List Ln} (h : Fit S) {l : Ln} (hl : ∃ n : Nat, l.m = n ∧ n < 17592186044416) : Fit (putS S l) := by
  intro i l' hl'
  unfold putS put4 at hl'
  split at hl'
  · unfold put2 at hl'
    rcases List.mem_append.1 hl' with h1 | h1
    · have : l' ∈ (S (l.n % 4).toNat).filter (fun r => !(r.a == l.a && r.n == l.n)) := by
        split at h1
        · exact List.mem_of_mem_drop h1
        · exact h1
      exact h _ _ (List.mem_filter.1 this).1
    · rw [List.mem_singleton.1 h1]
      exact hl
  · exact h _ _ hl'
theorem Translate_hit {w : World} {b r q ro ai va : Nat} {S : Nat → List Ln} {g : Bool} {m g0 : Nat → Int} {k : Int} {t : Bool} {v : Value} (hS : At w b S (uT ro ai g)) (h2S : Two S) (hF : Fit S) (h : Mem w r q 8 m g0) (hbr : b ≠ r) (hbq : b ≠ q) (hro : ro < 18446744073709551616) (hva : va < 274877906944)
    (hh : hitA S ai va k t g = some v) {K : Value → World → Prop} (hK : ∀ w', Ext [] w w' → K v w') : callsK Try.prog 28 #[.pointer (some ⟨b, 0, none⟩), .pointer (some ⟨r, 0, none⟩), .int .u64 va, .int .i64 k, .bool t] w K :=
  Translate_spec hS h2S hF h hbr hbq hro (by omega) (fun hc => absurd hva hc) (fun v' _ h' => by rw [hh] at h'; cases h'; exact hK) (fun _ h' => by rw [hh] at h'; cases h') (fun _ _ _ h' => by rw [hh] at h'; cases h') (fun _ _ _ h' => by rw [hh] at h'; cases h')
theorem Translate_put {w : World} {b r q ro ai va x a : Nat} {S : Nat → List Ln} {g : Bool} {m g0 : Nat → Int} {k : Int} {t : Bool} (hS : At w b S (uT ro ai g)) (h2S : Two S) (hF : Fit S) (h : Mem w r q 8 m g0) (hbr : b ≠ r) (hbq : b ≠ q) (hro : ro < 18446744073709551616) (hva : va < 274877906944)
    (hh : hitA S ai va k t g = none) (hw : walkA (fun a => leN m a 8) 8 ro va = some (x, a)) (hc : checkA (fl x) k t g = 0) {K : Value → World → Prop}
    (hK : ∀ w' m' g', At w' b (putS S ⟨ai, (va / 4096 : Nat), markA (fl x) k t, fr x, a⟩) (uT ro ai g) → Mem w' r q 8 m' g' → (m' = m ∧ eqE (markA (fl x) k t) (fr x) (fl x) (fr x) = true ∨ m' = stored m a 8 (wd (markA (fl x) k t) (fr x) : Nat)) → Ext [b, q] w w' →
      K (.tuple #[.agg (plA (markA (fl x) k t) (fr x) va k).toArray, .int .i64 0]) w') : callsK Try.prog 28 #[.pointer (some ⟨b, 0, none⟩), .pointer (some ⟨r, 0, none⟩), .int .u64 va, .int .i64 k, .bool t] w K :=
  Translate_spec hS h2S hF h hbr hbq hro (by omega) (fun hc' => absurd hva hc') (fun v' _ h' => by rw [hh] at h'; cases h') (fun _ _ h' => by rw [hw] at h'; cases h') (fun _ _ _ _ h' hc' => by rw [hw] at h'; cases h'; exact absurd hc hc') (fun _ _ _ _ h' _ => by rw [hw] at h'; cases h'; exact hK)
def fU : Nat → Bool := fun j => decide (j = 0) || (decide (j = 1) || decide (j = 4))
theorem foldU : [.bool true, .bool true, .bool false, .bool false, .bool true, .bool false, .bool false, .bool false, .bool false, .bool false, .bool false, .bool false, .int .u64 5] = entC fU 5 := by simp [entC, fU]
theorem wU_walk : walkA (setW (laidW twoE) 8192 (wd fU 5)) 8 0 4 = some (wd fU 5, 8192) := by decide +kernel
theorem wU_gone (v : Nat) (hv : v = wd (markA (fl (wd fU 5)) 1 false) (fr (wd fU 5))) : walkA (setW (setW (setW (laidW twoE) 8192 (wd fU 5)) 8192 v) 8192 0) 8 0 5 = none := by subst hv; decide +kernel
theorem wU_check : checkA (fl (wd fU 5)) 1 false false = 0 ∧ eqE (markA (fl (wd fU 5)) 1 false) (fr (wd fU 5)) (fl (wd fU 5)) (fr (wd fU 5)) = false ∧ fr (wd fU 5) = 5 ∧ checkA (markA (fl (wd fU 5)) 1 false) 1 false false = 0 ∧ eqE (markA (markA (fl (wd fU 5)) 1 false) 1 false) 5 (markA (fl (wd fU 5)) 1 false) 5 = true := by decide +kernel
theorem walkA_stored {m : Nat → Int} {M : Nat → Nat} {a v : Nat} (ha : a % 8 = 0) (hv : v < 18446744073709551616) (h : ∀ b, b % 8 = 0 → leN m b 8 = M b) : ∀ b, b % 8 = 0 → leN (stored m a 8 (v : Int)) b 8 = setW M a v b := fun b hb => by
  rw [leN_set ha hb hv]
  unfold setW
  split
  · rfl
  · exact h b hb
end Go.Proofs.Ytbigiabcgplkgaa
