/- Tables as words by their addresses, and a walk that finds a page; conditions: those of each theorem. -/
import Derived.Test.YtbigiabcgplkgaaLaid
namespace Go.Proofs.Ytbigiabcgplkgaa
open Go.Fx
set_option maxRecDepth 100000
set_option linter.unusedSimpArgs false
set_option linter.unusedVariables false
theorem leN_stored' (m : Nat → Int) (a s : Nat) (v : Int) : ∀ k, k ≤ s → leN (stored m a s v) a k = v.toNat % 2 ^ (8 * k)
  | 0, _ => by simp [leN, Nat.mod_one]
  | k + 1, h => by
    have ih := leN_stored' m a s v k (by omega)
    have hb : stored m a s v (a + k) = ((v.toNat / 2 ^ (8 * k) % 256 : Nat) : Int) := by
      unfold stored
      rw [if_pos (by omega), show a + k - a = k by omega]
    unfold leN
    rw [ih, hb, Int.toNat_natCast]
    have h4 : (2 : Nat) ^ (8 * (k + 1)) = 2 ^ (8 * k) * 256 := by rw [show 8 * (k + 1) = 8 * k + 8 by omega, Nat.pow_add]
    rw [h4, Nat.mod_mul]
    congr 1
    rw [Nat.mul_comm]
theorem leN_congr {m m' : Nat → Int} {a : Nat} : ∀ k, (∀ i, i < k → m (a + i) = m' (a + i)) → leN m a k = leN m' a k
  | 0, _ => rfl
  | k + 1, h => by
    unfold leN
    rw [leN_congr k fun i hi => h i (by omega), h k (by omega)]
/-- one word laid anew. -/
def setW (M : Nat → Nat) (a v : Nat) : Nat → Nat := fun b => if b = a then v else M b
theorem leN_set {m : Nat → Int} {a b v : Nat} (ha : a % 8 = 0) (hb : b % 8 = 0) (hv : v < 18446744073709551616) : leN (stored m a 8 (v : Int)) b 8 = setW (fun b => leN m b 8) a v b := by
  unfold setW
  by_cases h : b = a
  · subst h
    rw [if_pos rfl, leN_stored' m b 8 v 8 (Nat.le_refl _), Int.toNat_natCast]
    exact Nat.mod_eq_of_lt (by simpa using hv)
  · rw [if_neg h]
    refine leN_congr 8 fun i hi => ?_
    unfold stored
    rw [if_neg (by omega)]
def laidW (R : List LayE) : Nat → Nat := R.foldl (fun M p => setW M (atOf p) (wd p.f p.n)) (fun _ => 0)
theorem laidW_add (R : List LayE) (p : LayE) : laidW (R ++ [p]) = setW (laidW R) (atOf p) (wd p.f p.n) := by unfold laidW; rw [List.foldl_append]; rfl
theorem laidW_eq (R : List LayE) {b : Nat} (hb : b % 8 = 0) : leN (laidM R) b 8 = laidW R b := by
  have key : ∀ (R : List LayE) (m : Nat → Int) (M : Nat → Nat), (∀ b, b % 8 = 0 → leN m b 8 = M b) → ∀ b, b % 8 = 0 → leN (R.foldl (fun m p => stored m (atOf p) 8 (wd p.f p.n : Nat)) m) b 8 = R.foldl (fun M p => setW M (atOf p) (wd p.f p.n)) M b := by
    intro R
    induction R with
    | nil => intro m M h b hb; exact h b hb
    | cons p R ih =>
      intro m M h b hb
      rw [List.foldl_cons, List.foldl_cons]
      refine ih _ _ (fun b hb => ?_) b hb
      have hw := wd_lt p.f p.n
      rw [leN_set (atOf_mod p) hb (by omega)]
      unfold setW
      split
      · rfl
      · exact h b hb
  exact key R _ _ (fun b _ => by simp [leN]) b hb
theorem wk_congr {M M' : Nat → Nat} (h : ∀ b, b % 8 = 0 → M b = M' b) (n va : Nat) : ∀ k fr, wk M n va k fr = wk M' n va k fr
  | 0, _ => rfl
  | k + 1, frame => by
    unfold wk
    rw [h (frame * 4096 + idx va k * 8) (by omega), wk_congr h n va k]
theorem walkA_congr {M M' : Nat → Nat} (h : ∀ b, b % 8 = 0 → M b = M' b) (n root va : Nat) : walkA M n root va = walkA M' n root va := by
  unfold walkA
  rw [wk_congr h]
theorem walkA_laid (R : List LayE) (n root va : Nat) : walkA (fun a => leN (laidM R) a 8) n root va = walkA (laidW R) n root va := walkA_congr (fun b hb => laidW_eq R hb) n root va
def fV : Nat → Bool := fun j => decide (j = 0)
def fVR : Nat → Bool := fun j => decide (j = 0) || decide (j = 1)
def E1 : LayE := ⟨0, 0, fV, 1⟩
def E2 : LayE := ⟨1, 0, fV, 2⟩
def E3 : LayE := ⟨2, 3, fVR, 7⟩
theorem bsLay (R : List LayE) (h : R.length ≤ 1000000) (w : World) : (Instr.buildSlice 22 R.length (partsFrom 0 (R.map fun p => Value.agg (layC p).toArray)).toArray).run Try.prog w = .ok (.slice (some ⟨w.heap.size, 0, none⟩) R.length R.length) (w.alloc (.cells (R.flatMap layC).toArray 44)) := by
  have h1 := run_bs (P := Try.prog) (size := 15) Try.underlying22 (by kernel_rfl) (R.map fun p => Value.agg (layC p).toArray) (fun v hv => by
    obtain ⟨p, -, rfl⟩ := List.mem_map.1 hv
    simp [Value.cells, layC_len]) (by simp; omega) w
  have h2 : ((R.map fun p => Value.agg (layC p).toArray).flatMap fun v => v.cells.toList) = R.flatMap layC := by
    rw [List.flatMap_map]
    rfl
  rw [h2] at h1
  simpa using h1
theorem lays_len (R : List LayE) : (R.flatMap layC).length = R.length * 15 := by
  induction R with
  | nil => rfl
  | cons p R ih => rw [List.flatMap_cons, List.length_append, ih, layC_len, List.length_cons]; omega
theorem lays_sub : ∀ (R : List LayE) (i : Nat) (h : i < R.length), sub (R.flatMap layC) (i * 15) 15 = layC R[i]
  | p :: R, 0, _ => by
    simp only [List.flatMap_cons, sub, Nat.zero_mul, List.drop_zero]
    rw [List.take_append_of_le_length (by rw [layC_len]; omega)]
    exact List.take_of_length_le (by rw [layC_len]; omega)
  | p :: R, i + 1, h => by
    have ih := lays_sub R i (by simpa using h)
    simp only [List.getElem_cons_succ]
    rw [← ih]
    unfold sub
    rw [List.flatMap_cons, show (i + 1) * 15 = (layC p).length + i * 15 by rw [layC_len]; omega, List.drop_append, List.drop_eq_nil_of_le (by omega), Nat.add_sub_cancel_left, List.nil_append]
theorem laysAt {w : World} {R : List LayE} {b : Nat} {E : TypeId} {f : Nat × Nat} (h : w.heap[b]? = some (.cells (R.flatMap layC).toArray E f)) (hl : R.length ≤ 1000000) : RowsAt w (.slice (some ⟨b, 0, none⟩) R.length R.length) 15 (R.map layC) := by
  refine ⟨some ⟨b, 0, none⟩, R.length, by simp, ⟨by simp, by simp only [maxLen]; omega⟩, .inr ⟨b, 0, _, E, f, rfl, h, by rw [List.length_map, lays_len]; omega, fun i r hi => ?_⟩⟩
  rw [List.getElem?_map] at hi
  obtain ⟨p, hp, rfl⟩ := Option.map_eq_some_iff.1 hi
  obtain ⟨hi2, rfl⟩ := List.getElem?_eq_some_iff.1 hp
  rw [Nat.zero_add]
  exact lays_sub R i hi2
theorem blV (n : Nat) (w : World) : (Instr.build 32 [(0, .bool true), (12, .int .u64 n)].toArray).run Try.prog w = .ok (.agg (entC fV n).toArray) w := RM_bl_32_0_12 true n w
theorem blVR (n : Nat) (w : World) : (Instr.build 32 [(0, .bool true), (1, .bool true), (12, .int .u64 n)].toArray).run Try.prog w = .ok (.agg (entC fVR n).toArray) w := RM_bl_32_0_1_12 true true n w
theorem blLay (a b : Int) (f : Nat → Bool) (n : Nat) (w : World) : (Instr.build 44 [(0, .int .i64 a), (1, .int .i64 b), (2, .agg (entC f n).toArray)].toArray).run Try.prog w = .ok (.agg (layC ⟨a, b, f, n⟩).toArray) w := RM_bl_44_0_1_2 a b _ _ _ _ _ _ _ _ _ _ _ _ _ w
theorem bs3 (A B C : LayE) (w : World) : (Instr.buildSlice 22 3 [(0, .agg (layC A).toArray), (1, .agg (layC B).toArray), (2, .agg (layC C).toArray)].toArray).run Try.prog w = .ok (.slice (some ⟨w.heap.size, 0, none⟩) 3 3) (w.alloc (.cells ([A, B, C].flatMap layC).toArray 44)) := bsLay [A, B, C] (by simp) w
theorem bs2 (A B : LayE) (w : World) : (Instr.buildSlice 22 2 [(0, .agg (layC A).toArray), (1, .agg (layC B).toArray)].toArray).run Try.prog w = .ok (.slice (some ⟨w.heap.size, 0, none⟩) 2 2) (w.alloc (.cells ([A, B].flatMap layC).toArray 44)) := bsLay [A, B] (by simp) w
theorem bs1 (A : LayE) (w : World) : (Instr.buildSlice 22 1 [(0, .agg (layC A).toArray)].toArray).run Try.prog w = .ok (.slice (some ⟨w.heap.size, 0, none⟩) 1 1) (w.alloc (.cells ([A].flatMap layC).toArray 44)) := bsLay [A] (by simp) w
theorem one_a : walkA (laidW [E1, E2, E3]) 8 0 12288 = some (wd fVR 7, 8216) := by decide +kernel
theorem one_b : walkA (laidW [E1, E2, E3]) 8 0 16384 = none := by decide +kernel
theorem one_c : fr (wd fVR 7) = 7 := by decide +kernel
end Go.Proofs.Ytbigiabcgplkgaa
