/- What is kept of a page is what was put last of it: the walk; conditions: those of each theorem. -/
import Derived.Test.YtlklhempbpphhaaPlays2
import Derived.Test.YtlklhempbpphhaaMaps
namespace Go.Proofs.Ytlklhempbpphhaa
open Go.Fx
set_option maxRecDepth 100000
set_option linter.unusedSimpArgs false
set_option linter.unusedVariables false
def pgf (p : Int × Int) : Value := .agg [.int .u64 p.1, .int .u64 p.2].toArray
def u64f (x : Int) : Value := .int .u64 x
def boolf (x : Bool) : Value := .bool x
theorem check_int {P : Program} {t : TypeId} {k : IntKind} {e : Bool} {n : Nat} {v : Value} (h : P.underlying t = some (.int k)) (w : World) : (Instr.checkKey e (n + 1) t v).run P w = .ok () w := by
  unfold Instr.checkKey
  rw [Sem.run_bind, run_underlying h]
  rfl
theorem check_page (e : Bool) (a b : Int) (w : World) : (Instr.checkKey e (9999 + 1) 86 (pgf (a, b))).run Try.prog w = .ok () w := by
  unfold Instr.checkKey
  rw [Sem.run_bind, run_underlying Try.underlying86]
  simp only [Result.andThen_ok, pgf]
  have h1 : ∀ v, (Instr.checkKey e 9999 22 v).run Try.prog w = .ok () w := fun v => check_int Try.underlying22 w
  have p1 : (part 22 [Value.int .u64 a, .int .u64 b].toArray 0).run Try.prog w = .ok (.int .u64 a) w := Fx.part1 Try.isAgg22 rfl
  have p2 : (part 22 [Value.int .u64 a, .int .u64 b].toArray 1).run Try.prog w = .ok (.int .u64 b) w := Fx.part1 Try.isAgg22 rfl
  simp [h1, p1, p2]
theorem pageKey : KeyOk Try.prog 86 pgf := by
  refine ⟨.inr ?_, fun e a w => ?_, fun a => ?_⟩
  · refine ⟨_, Try.underlying86, fun a b => rfl, fun a b w => ?_⟩
    have h : (Op.equal 86 (pgf a) (pgf b)).run Try.prog w = .ok ((a.1 == b.1) && ((a.2 == b.2) && true)) w :=
      Fx.equalIn_struct (d := 9999) (by kernel_rfl) (by kernel_rfl) (q := [(22, 0), (22, 1)]) (by kernel_rfl) (by kernel_rfl) (Fx.eqQ_cons (Fx.part1 Try.isAgg22 rfl) (Fx.part1 Try.isAgg22 rfl) (run_equalIn_int _ 9998 22 .u64 .u64 _ _ Try.underlying22) (Fx.eqQ_cons (Fx.part1 Try.isAgg22 rfl) (Fx.part1 Try.isAgg22 rfl) (run_equalIn_int _ 9998 22 .u64 .u64 _ _ Try.underlying22) Fx.eqQ_nil))
    rw [h]
    congr 1
    rw [Bool.eq_iff_iff]
    obtain ⟨a1, a2⟩ := a
    obtain ⟨b1, b2⟩ := b
    simp
  · exact check_page e a.1 a.2 w
  · simp [pgf, Instr.sameBits]
/-! ### nobody's cache -/
theorem nilPut_spec {w : World} {l : Ln} {K : Value → World → Prop} (hK : ∀ w', Ext [] w w' → K (.tuple #[]) w') : callsK Try.prog 20 #[.pointer none, .agg (lnC l).toArray] w K := by
  apply F20_ok
  unfold F20
  simp (disch := first | assumption | omega | (simp only [szR] <;> omega) | rfl | decide) only [gen0, gen1, gen2, rulesT, litR, bolR, Nat.reduceAdd, Nat.reduceLeDiff, numR, memR, valR, heapR, updR, intR, decR, extR, slR, segR, thenR, pnR, Int.reduceToNat, Int.reduceAdd, Int.reduceSub, Int.reduceLT, Int.reduceLE, Nat.reduceSub, Nat.reduceMul, Nat.reduceEqDiff, Option.isNone_none]
  exact hK _ (by (repeat first | assumption | exact Ext.refl | apply Ext.alloc | apply Ext.drew | (refine Ext.updN ?_ ?_; (focus first | omega | (simp only [szR] <;> omega))) | (refine Ext.updI ?_ ?_; (focus (simp; done)))))
theorem nilClear_spec {w : World} {K : Value → World → Prop} (hK : ∀ w', Ext [] w w' → K (.tuple #[]) w') : callsK Try.prog 31 #[.pointer none] w K := by
  apply F31_ok
  unfold F31
  simp (disch := first | assumption | omega | (simp only [szR] <;> omega) | rfl | decide) only [gen0, gen1, gen2, rulesT, litR, bolR, Nat.reduceAdd, Nat.reduceLeDiff, numR, memR, valR, heapR, updR, intR, decR, extR, slR, segR, thenR, pnR, Int.reduceToNat, Int.reduceAdd, Int.reduceSub, Int.reduceLT, Int.reduceLE, Nat.reduceSub, Nat.reduceMul, Nat.reduceEqDiff]
  apply F57_ok
  unfold F57
  simp (disch := first | assumption | omega | (simp only [szR] <;> omega) | rfl | decide) only [gen0, gen1, gen2, rulesT, litR, bolR, Nat.reduceAdd, Nat.reduceLeDiff, numR, memR, valR, heapR, updR, intR, decR, extR, slR, segR, thenR, pnR, Int.reduceToNat, Int.reduceAdd, Int.reduceSub, Int.reduceLT, Int.reduceLE, Nat.reduceSub, Nat.reduceMul, Nat.reduceEqDiff, Option.isNone_none]
  exact hK _ (by (repeat first | assumption | exact Ext.refl | apply Ext.alloc | apply Ext.drew | (refine Ext.updN ?_ ?_; (focus first | omega | (simp only [szR] <;> omega))) | (refine Ext.updI ?_ ?_; (focus (simp; done)))))
theorem nilLook_spec {w : World} {a n : Int} {K : Value → World → Prop} (hK : ∀ w', Ext [] w w' → K (.tuple #[.agg (lnC Ln.zero).toArray, .bool false]) w') : callsK Try.prog 23 #[.pointer none, .int .u64 a, .int .u64 n] w K := by
  apply F23_ok
  unfold F23
  simp only [lnC, Ln.zero] at hK
  simp (disch := first | assumption | omega | (simp only [szR] <;> omega) | rfl | decide) only [gen0, gen1, gen2, rulesT, litR, bolR, Nat.reduceAdd, Nat.reduceLeDiff, numR, memR, valR, heapR, updR, intR, decR, extR, slR, segR, thenR, pnR, Int.reduceToNat, Int.reduceAdd, Int.reduceSub, Int.reduceLT, Int.reduceLE, Nat.reduceSub, Nat.reduceMul, Nat.reduceEqDiff, Option.isNone_none]
  exact hK _ (by (repeat first | assumption | exact Ext.refl | apply Ext.alloc | apply Ext.drew | (refine Ext.updN ?_ ?_; (focus first | omega | (simp only [szR] <;> omega))) | (refine Ext.updI ?_ ?_; (focus (simp; done)))))
theorem nilLines_spec {w : World} {K : Value → World → Prop} (hK : ∀ w', Ext [] w w' → K (.slice none 0 0) w') : callsK Try.prog 22 #[.pointer none] w K := by
  apply F22_ok
  unfold F22
  simp (disch := first | assumption | omega | (simp only [szR] <;> omega) | rfl | decide) only [gen0, gen1, gen2, rulesT, litR, bolR, Nat.reduceAdd, Nat.reduceLeDiff, numR, memR, valR, heapR, updR, intR, decR, extR, slR, segR, thenR, pnR, Int.reduceToNat, Int.reduceAdd, Int.reduceSub, Int.reduceLT, Int.reduceLE, Nat.reduceSub, Nat.reduceMul, Nat.reduceEqDiff, Option.isNone_none]
  exact hK _ (by (repeat first | assumption | exact Ext.refl | apply Ext.alloc | apply Ext.drew | (refine Ext.updN ?_ ?_; (focus first | omega | (simp only [szR] <;> omega))) | (refine Ext.updI ?_ ?_; (focus (simp; done)))))
/-! ### what is told of a page -/
def Told (S : Nat → List Ln) (f : Int × Int → Option Int) : Prop := ∀ x ∈ upto S 4, f (x.a, x.n) = some x.x
theorem mem_upto {S : Nat → List Ln} {x : Ln} : ∀ {k}, x ∈ upto S k ↔ ∃ i, i < k ∧ x ∈ S i
  | 0 => by simp [upto]
  | k + 1 => by
    show x ∈ upto S k ++ S k ↔ _
    rw [List.mem_append, mem_upto (k := k)]
    constructor
    · rintro (⟨i, h1, h2⟩ | h)
      · exact ⟨i, by omega, h2⟩
      · exact ⟨k, by omega, h⟩
    · rintro ⟨i, h1, h2⟩
      by_cases h : i = k
      · subst h; exact .inr h2
      · exact .inl ⟨i, by omega, h2⟩
theorem told_sub {S S' : Nat → List Ln} {f : Int × Int → Option Int} (h : Told S f) (hs : ∀ i x, x ∈ S' i → x ∈ S i) : Told S' f := by
  intro x hx
  obtain ⟨i, h1, h2⟩ := mem_upto.1 hx
  exact h x (mem_upto.2 ⟨i, h1, hs i x h2⟩)
theorem told_put {S : Nat → List Ln} {f : Int × Int → Option Int} (h : Told S f) (hg : Good S) {l : Ln} (hn : 0 ≤ l.n) : Told (putS S l) (fun b => if b = (l.a, l.n) then some l.x else f b) := by
  intro x hx
  obtain ⟨i, h1, h2⟩ := mem_upto.1 hx
  unfold putS put4 at h2
  by_cases hi : i = (l.n % 4).toNat
  · rw [if_pos hi] at h2
    rcases put2_mem h2 with h3 | h3
    · obtain ⟨h4, h5⟩ := List.mem_filter.1 h3
      have : ¬ (x.a, x.n) = (l.a, l.n) := by
        simp only [Prod.mk.injEq]
        rintro ⟨e1, e2⟩
        simp [e1, e2] at h5
      show (if (x.a, x.n) = (l.a, l.n) then some l.x else f (x.a, x.n)) = _
      rw [if_neg this]
      exact h x (mem_upto.2 ⟨_, by omega, h4⟩)
    · subst h3
      simp
  · rw [if_neg hi] at h2
    have : ¬ (x.a, x.n) = (l.a, l.n) := by
      simp only [Prod.mk.injEq]
      rintro ⟨e1, e2⟩
      have := (hg.num i x h2).2
      rw [e2] at this
      exact hi this.symm
    show (if (x.a, x.n) = (l.a, l.n) then some l.x else f (x.a, x.n)) = _
    rw [if_neg this]
    exact h x (mem_upto.2 ⟨i, h1, h2⟩)
theorem told_del {S S' : Nat → List Ln} {f : Int × Int → Option Int} {a n : Int} (h : Told S f) (hs : ∀ x ∈ upto S' 4, x ∈ upto S 4 ∧ ¬ (x.a = a ∧ x.n = n)) : Told S' (fun b => if b = (a, n) then none else f b) := by
  intro x hx
  obtain ⟨h1, h2⟩ := hs x hx
  show (if (x.a, x.n) = (a, n) then none else f (x.a, x.n)) = _
  rw [if_neg (by simpa using h2)]
  exact h x h1
theorem look_put {S : Nat → List Ln} (hg : Good S) {l : Ln} (hn : 0 ≤ l.n) : (look (putS S l) l.a l.n).2 = true := by
  unfold look
  have hm : l ∈ putS S l (l.n % 4).toNat := by
    unfold putS put4 put2
    rw [if_pos rfl]
    exact List.mem_append_right _ (List.mem_singleton.2 rfl)
  have : (putS S l (l.n % 4).toNat).find? (fun x => x.a == l.a && x.n == l.n) ≠ none := by
    rw [Ne, List.find?_eq_none]
    intro h
    exact h l hm (by simp)
  cases hf : (putS S l (l.n % 4).toNat).find? (fun x => x.a == l.a && x.n == l.n) with
  | none => exact absurd hf this
  | some x => rfl
end Go.Proofs.Ytlklhempbpphhaa
