/- What the law's two bodies do with a page; conditions: those of each theorem. -/
import Derived.Test.YtfpcflmgipklcaaTTells1
namespace Go.Proofs.Ytfpcflmgipklcaa
open Go.Fx
set_option maxRecDepth 100000
set_option linter.unusedSimpArgs false
set_option linter.unusedVariables false
def pgf (k : Nat) : Value := .int .u64 (k : Int)
def entf (x : Nat) : Value := .agg (entC (fl x) (fr x)).toArray
theorem pg_check {P : Program} {t : TypeId} {k : IntKind} {e : Bool} {n : Nat} {v : Value} (h : P.underlying t = some (.int k)) (w : World) : (Instr.checkKey e (n + 1) t v).run P w = .ok () w := by
  unfold Instr.checkKey
  rw [Sem.run_bind, run_underlying h]
  rfl
theorem pgKey : KeyOk Try.prog 23 pgf := by
  refine ⟨.inl ⟨_, Try.underlying23, fun a b => ?_⟩, fun e a w => pg_check Try.underlying23 w, fun a => ?_⟩
  · show some ((a : Int) == (b : Int)) = some (decide (a = b))
    congr 1
    rw [Bool.eq_iff_iff, beq_iff_eq, decide_eq_true_eq]
    omega
  · simp [pgf, Instr.sameBits]
theorem entZ (w : World) : (zeroValue 40).run Try.prog w = .ok (.agg (entC (fun _ => false) 0).toArray) w := by
  rw [Try.zeroValue40]
  rfl
theorem run_lenM {κ ν : Type} [DecidableEq κ] {P : Program} {t kt et ty : TypeId} {kf : κ → Value} {vf : ν → Value} (ht : P.underlying t = some (.map kt et)) {w : World} {r : Nat} {f : κ → Option ν} (h : MapF w r kf vf f) : ∃ ks : List κ, ks.Nodup ∧ (∀ k, k ∈ ks ↔ f k ≠ none) ∧ (Builtin.len_ #[t] ty #[.map (some r)]).run P w = .ok (.int .i64 (ks.length : Nat)) w := by
  obtain ⟨l, ⟨⟨es, cl, h1, h2, hbn⟩, h3⟩, h4⟩ := h
  have hl : es.toList.length = l.length := by simpa using congrArg List.length h2
  refine ⟨l.map (·.1), h3, fun k => ?_, ?_⟩
  · rw [← h4 k, ne_eq, getM_none, Classical.not_not]
  · unfold Builtin.len_
    simp only [List.getElem?_toArray, List.getElem?_cons_zero, Sem.run_bind, run_underlying ht, Result.andThen_ok, getO h1, Sem.run_pure, goInt, List.length_map]
    rw [← hl]
    simp
theorem Tab.out {w0 w w' : World} {tb r q p n : Nat} {m g : Nat → Int} {t : Nat} {fs S : List Nat} (h : Tab w0 w tb r q p n m g t fs) (hx : Ext S w w') (hS : ∀ b, b ∈ S → w0.heap.size ≤ b ∧ b ≠ r ∧ b ≠ q ∧ b ≠ p ∧ b ≠ tb ∧ ∀ a c, w.heap[tb]? = some (.cells (tbC r p (.slice a fs.length c)).toArray 85 (0, 0)) → blockOf (.slice a fs.length c) ≠ some b) : Tab w0 w' tb r q p n m g t fs := by
  obtain ⟨a, c, h1, h2⟩ := h.box
  exact ⟨h.mem.ext hx (fun hm => (hS _ hm).2.1 rfl) (fun hm => (hS _ hm).2.2.1 rfl), h.num, h.bits, hx.at h.pool (fun hm => (hS _ hm).2.2.2.1 rfl), ⟨a, c, hx.at h1 (fun hm => (hS _ hm).2.2.2.2.1 rfl), h2.ext hx (fun b hb hm => (hS _ hm).2.2.2.2.2 a c h1 hb)⟩, h.lo, extUp h.ext hx (fun b hb => (hS _ hb).1)⟩
/-- a block that no part of the tables is. -/
structure Off (w0 w : World) (tb r q p : Nat) (fs : List Nat) (b : Nat) : Prop where
  lo : w0.heap.size ≤ b
  ne : b ≠ r ∧ b ≠ q ∧ b ≠ p ∧ b ≠ tb
  own : ∀ a c, w.heap[tb]? = some (.cells (tbC r p (.slice a fs.length c)).toArray 85 (0, 0)) → blockOf (.slice a fs.length c) ≠ some b
theorem Off.new {w0 w : World} {tb r q p n : Nat} {m g : Nat → Int} {t : Nat} {fs : List Nat} (h : Tab w0 w tb r q p n m g t fs) {b : Nat} (hb : w.heap.size ≤ b) : Off w0 w tb r q p fs b := by
  obtain ⟨a, c, h1, h2⟩ := h.box
  have h3 := lt_of_at h.mem.head
  have h4 := lt_of_at h.mem.body.choose_spec.1
  have h5 := lt_of_at h.pool
  have h6 := lt_of_at h1
  refine ⟨by have := h.ext.size; omega, ⟨by omega, by omega, by omega, by omega⟩, fun a' c' h7 h8 => ?_⟩
  rw [h1] at h7
  have h9 : Value.slice a fs.length c = Value.slice a' fs.length c' := by
    simp only [Option.some.injEq, Obj.cells.injEq] at h7
    have h10 := congrArg (fun x : Array Value => x[2]?) h7.1
    simpa [tbC] using h10
  rw [← h9] at h8
  obtain ⟨l, hl⟩ := own_int h2 h8
  have := lt_of_at hl
  omega
theorem Off.step {w0 w w' : World} {tb r q p n : Nat} {m g : Nat → Int} {t : Nat} {fs S : List Nat} {b : Nat} (h : Tab w0 w tb r q p n m g t fs) (ho : Off w0 w tb r q p fs b) (hx : Ext S w w') (hS : tb ∉ S) : Off w0 w' tb r q p fs b := by
  obtain ⟨a, c, h1, h2⟩ := h.box
  refine ⟨ho.lo, ho.ne, fun a' c' h3 => ?_⟩
  have h4 := hx.at h1 hS
  rw [h4] at h3
  rw [← h1] at h3
  exact ho.own a' c' h3
theorem Off.step' {w0 w w' : World} {tb r q p n : Nat} {m g : Nat → Int} {t : Nat} {fs S : List Nat} {b : Nat} (ho : Off w0 w tb r q p fs b) (h : Tab w0 w tb r q p n m g t fs) (hx : Ext S w w') (hS : tb ∉ S) : Off w0 w' tb r q p fs b := Off.step h ho hx hS
/-- where the law stands, in its bodies. -/
structure Sit (w0 w : World) (tb r q p n : Nat) (m g : Nat → Int) (t : Nat) (fs : List Nat) (bf bn bb bl b3 mr : Nat) (most : Int) (cnt bef : Nat) : Prop where
  tab : Tab w0 w tb r q p n m g t fs
  fine : w.heap[bf]? = some (.cells [.bool true].toArray 4 (0, 0))
  cnt : w.heap[bn]? = some (.cells [.int .i64 (cnt : Nat)].toArray 3 (0, 0))
  bef : w.heap[bb]? = some (.cells [.int .u64 (bef : Nat)].toArray 23 (0, 0))
  lst : w.heap[bl]? = some (.cells [.map (some mr)].toArray 67 (0, 0))
  mst : w.heap[b3]? = some (.cells [.int .i64 most].toArray 3 (0, 0))
  map : MapF w mr pgf entf (lastF m)
  off : Off w0 w tb r q p fs bf ∧ Off w0 w tb r q p fs bn ∧ Off w0 w tb r q p fs bb
  ne : bf ≠ bn ∧ bf ≠ bb ∧ bn ≠ bb ∧ b3 ≠ bn ∧ bl ≠ bf ∧ bl ≠ bn ∧ bl ≠ bb ∧ b3 ≠ bf ∧ b3 ≠ bb
theorem map_ne {κ ν : Type} [DecidableEq κ] {w : World} {r b : Nat} {kf : κ → Value} {vf : ν → Value} {f : κ → Option ν} (h : MapF w r kf vf f) {l : Array Value} {E : TypeId} {ff : Nat × Nat} (hb : w.heap[b]? = some (.cells l E ff)) : r ≠ b := by
  rintro rfl
  obtain ⟨l0, ⟨⟨es, c, h1, _⟩, _⟩, _⟩ := h
  rw [h1] at hb
  cases hb
theorem Sit.step {w0 w w' : World} {tb r q p n : Nat} {m g : Nat → Int} {t : Nat} {fs : List Nat} {bf bn bb bl b3 mr : Nat} {most : Int} {cnt bef : Nat} (h : Sit w0 w tb r q p n m g t fs bf bn bb bl b3 mr most cnt bef) (hx : Ext [] w w') : Sit w0 w' tb r q p n m g t fs bf bn bb bl b3 mr most cnt bef :=
  ⟨h.tab.step hx, hx.at h.fine (by simp), hx.at h.cnt (by simp), hx.at h.bef (by simp), hx.at h.lst (by simp), hx.at h.mst (by simp), h.map.ext hx (by simp), ⟨h.off.1.step' h.tab hx (by simp), h.off.2.1.step' h.tab hx (by simp), h.off.2.2.step' h.tab hx (by simp)⟩, h.ne⟩
def lastOf (d : List (Nat × Nat)) : Nat := (d.getLast?.map (·.1)).getD 0
theorem last_lt {d : List (Nat × Nat)} {va x : Nat} (h : (d ++ [(va, x)]).Pairwise fun a b => a.1 < b.1) (hd : d ≠ []) : lastOf d < va := by
  rw [List.pairwise_append] at h
  obtain ⟨y, hy⟩ : ∃ y, d.getLast? = some y := ⟨d.getLast hd, List.getLast?_eq_some_getLast hd⟩
  unfold lastOf
  rw [hy]
  exact h.2.2 y (List.mem_of_getLast? hy) (va, x) (by simp)
theorem lastOf_snoc (d : List (Nat × Nat)) (va x : Nat) : lastOf (d ++ [(va, x)]) = va := by simp [lastOf]
end Go.Proofs.Ytfpcflmgipklcaa
