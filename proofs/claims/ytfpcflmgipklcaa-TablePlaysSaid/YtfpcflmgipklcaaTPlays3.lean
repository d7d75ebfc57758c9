/- The law's standing, step by step; conditions: those of each theorem. -/
import Derived.Test.YtfpcflmgipklcaaTPlays2
import Derived.Test.YtfpcflmgipklcaaMoves22
namespace Go.Proofs.Ytfpcflmgipklcaa
open Go.Fx
set_option maxRecDepth 100000
set_option linter.unusedSimpArgs false
set_option linter.unusedVariables false
theorem OthS.low {w : World} {b1 b2 : Nat} {v : Value} {oth : List Nat} (h : OthS w b1 v oth) (hb : b2 ≤ b1) : OthS w b2 v oth := by
  refine h.imp id ?_
  rintro ⟨g, o, cap, cur, rfl, h1, h2⟩
  exact ⟨g, o, cap, cur, rfl, by omega, h2⟩
theorem OffT.step {w w' : World} {tb k : Nat} {S : List Nat} (h : OffT w tb k) {l : Array Value} (h1 : w.heap[tb]? = some (.cells l 85 (0, 0))) (hx : Ext S w w') (hS : tb ∉ S) : OffT w' tb k := fun l' v h2 h3 => by
  rw [hx.at h1 hS] at h2
  simp only [Option.some.injEq, Obj.cells.injEq, and_true] at h2
  exact h l v h1 (by rw [h2]; exact h3)
/-- tables stay where other numbers turn. -/
theorem Tab.outI {w0 w w' : World} {tb r q p n : Nat} {m g : Nat → Int} {t : Nat} {fs S : List Nat} (h : Tab w0 w tb r q p n m g t fs) (hx : Ext S w w') (hS : ∀ b, b ∈ S → w0.heap.size ≤ b ∧ (∃ l : Array Value, w.heap[b]? = some (.cells l 3 (0, 0))) ∧ OffT w tb b) : Tab w0 w' tb r q p n m g t fs := by
  obtain ⟨a, c, h1, h2⟩ := h.box
  have hne : ∀ {b : Nat} {l : Array Value} {E : TypeId}, w.heap[b]? = some (.cells l E (0, 0)) → E ≠ 3 → b ∉ S := fun hb hE hm => by
    obtain ⟨-, ⟨l', hl⟩, -⟩ := hS _ hm
    exact at_ne hb hl hE rfl
  exact ⟨h.mem.ext hx (hne h.mem.head (by decide)) (hne h.mem.body.choose_spec.1 (by decide)), h.num, h.bits, hx.at h.pool (hne h.pool (by decide)), ⟨a, c, hx.at h1 (hne h1 (by decide)), h2.ext hx (fun b hb hm => (hS b hm).2.2 _ (.slice a fs.length c) h1 rfl hb)⟩, h.lo, extUp h.ext hx (fun b hb => (hS b hb).1)⟩
/-- where the law stands. -/
structure Pl (w0 w : World) (tb r q p bx : Nat) (m g : Nat → Int) (t : Nat) (fs : List Nat) (lv : Nat → Nat) (par : Nat → Nat × Nat) (oth : List Nat) (R : RT) (vo u0 u1 u2 u3 : Value) (i : Nat) : Prop where
  tab : Tab w0 w tb r q p 12 m g t fs
  tree : Tree m 12 fs lv par
  own : OwnT t (fs ++ oth)
  dis : (fs ++ oth).Nodup
  small : ∀ f ∈ oth, f < 12
  hd : fs.headD 0 = 0
  box : w.heap[bx]? = some (.cells (tvC u0 u1 u2 u3).toArray 37 (0, 0))
  ref : RefT w u0 u1 u2 u3 R
  cor : Cor m fs R
  ov : OthS w w0.heap.size vo oth
  off : ∀ b, blockOf vo = some b → OffT w tb b
  len : R.ps.length ≤ i ∧ R.mid.length ≤ i ∧ R.low.length ≤ i
theorem Pl.step {w0 w w' : World} {tb r q p bx : Nat} {m g : Nat → Int} {t : Nat} {fs : List Nat} {lv : Nat → Nat} {par : Nat → Nat × Nat} {oth : List Nat} {R : RT} {vo u0 u1 u2 u3 : Value} {i : Nat} (h : Pl w0 w tb r q p bx m g t fs lv par oth R vo u0 u1 u2 u3 i) (hx : Ext [] w w') : Pl w0 w' tb r q p bx m g t fs lv par oth R vo u0 u1 u2 u3 i := by
  obtain ⟨a, c, h1, -⟩ := h.tab.box
  exact ⟨h.tab.step hx, h.tree, h.own, h.dis, h.small, h.hd, hx.at h.box (by simp), h.ref.ext hx (by simp), h.cor, h.ov.ext hx (by simp), fun b hb => (h.off b hb).step h1 hx (by simp), h.len⟩
theorem Pl.mono {w0 w : World} {tb r q p bx : Nat} {m g : Nat → Int} {t : Nat} {fs : List Nat} {lv : Nat → Nat} {par : Nat → Nat × Nat} {oth : List Nat} {R : RT} {vo u0 u1 u2 u3 : Value} {i : Nat} (h : Pl w0 w tb r q p bx m g t fs lv par oth R vo u0 u1 u2 u3 i) : Pl w0 w tb r q p bx m g t fs lv par oth R vo u0 u1 u2 u3 (i + 1) :=
  ⟨h.tab, h.tree, h.own, h.dis, h.small, h.hd, h.box, h.ref, h.cor, h.ov, h.off, by have := h.len; omega⟩
theorem Pl.fs0 {w0 w : World} {tb r q p bx : Nat} {m g : Nat → Int} {t : Nat} {fs : List Nat} {lv : Nat → Nat} {par : Nat → Nat × Nat} {oth : List Nat} {R : RT} {vo u0 u1 u2 u3 : Value} {i : Nat} (h : Pl w0 w tb r q p bx m g t fs lv par oth R vo u0 u1 u2 u3 i) : (0 < fs.length ∧ fs.length ≤ 64) ∧ fs.length + oth.length ≤ 12 := by
  obtain ⟨f0, l0, h1, h2⟩ := h.tree.top
  have h3 := nodup_le (n := 12) h.dis fun f hf => (List.mem_append.1 hf).elim (h.tree.lt f) (h.small f)
  rw [List.length_append] at h3
  exact ⟨⟨by rw [h1]; simp, by omega⟩, h3⟩
/-- other tables' memory, the rest as it was. -/
theorem OthS.keptI {w w' : World} {base tb : Nat} {v : Value} {oth : List Nat} (h : OthS w base v oth) (ho : ∀ b, blockOf v = some b → OffT w tb b) (hk : KeptI tb w w') : OthS w' base v oth ∧ ∀ b, blockOf v = some b → OffT w' tb b := by
  rcases h with ⟨rfl, rfl⟩ | ⟨g, o, cap, cur, rfl, h1, h2, h3⟩
  · exact ⟨.inl ⟨rfl, rfl⟩, fun b hb => by cases hb⟩
  · obtain ⟨h4, h5⟩ := hk g _ h2 (ho g rfl)
    exact ⟨.inr ⟨g, o, cap, cur, rfl, h1, h4, h3⟩, fun b hb => by cases hb; exact h5⟩
theorem Get_no38 {w0 w : World} {tb r q p n : Nat} {m g : Nat → Int} {t : Nat} {fs : List Nat} (h : Tab w0 w tb r q p n m g t fs) (hfs : 0 < fs.length ∧ fs.length ≤ 64) {va : Nat} (hva : ¬ va < 274877906944) {K : Value → World → Prop} (hK : ∀ w', Ext [] w w' → K (.tuple #[.agg (entC (fun _ => false) 0).toArray, .bool false]) w') :
    callsK Try.prog 17 #[.pointer (some ⟨tb, 0, none⟩), .int .u64 (va : Nat)] w K := by
  have hmay : decide (va < 274877906944) = false := decide_eq_false hva
  have hx0 : Ext [] w (w.alloc (.cells #[.bool false, .bool false, .bool false, .bool false, .bool false, .bool false, .bool false, .bool false, .bool false, .bool false, .bool false, .bool false, .int .u64 0] 40)) := by (repeat first | assumption | exact Ext.refl | apply Ext.alloc | apply Ext.drew | (refine Ext.updN ?_ ?_; (focus first | omega | (simp only [szR] <;> omega))) | (refine Ext.updI ?_ ?_; (focus (simp; done))))
  have hb0 : ∀ w, (Instr.build 40 #[]).run Try.prog w = .ok (.agg (entC (fun _ => false) 0).toArray) w := fun w => run_build w 40 _ _ (by kernel_rfl)
  apply F17_ok
  unfold F17
  simp (disch := first | assumption | omega | (simp only [szR, tgC_len, tgC_all, entC_len, entC_all, tvC_len, tvC_all, actC_len, actC_all, plC_len, plC_all, tbC_len, tbC_all] <;> omega) | rfl | decide) only [gen0, gen1, gen2, rulesM, rulesT, rulesQ, litR, bolR, Nat.reduceAdd, Nat.reduceLeDiff, numR, memR, valR, heapR, updR, intR, decR, extR, slR, segR, thenR, pnR, Int.reduceToNat, Int.reduceAdd, Int.reduceSub, Int.reduceLT, Int.reduceLE, Nat.reduceSub, Nat.reduceMul, Nat.reduceEqDiff]
  refine tnone_spec (h.step hx0) hfs ?_
  simp (disch := first | assumption | omega | (simp only [szR, tgC_len, tgC_all, entC_len, entC_all, tvC_len, tvC_all, actC_len, actC_all, plC_len, plC_all, tbC_len, tbC_all] <;> omega) | rfl | decide) only [gen0, gen1, gen2, rulesM, rulesT, rulesQ, litR, bolR, Nat.reduceAdd, Nat.reduceLeDiff, numR, memR, valR, heapR, updR, intR, decR, extR, slR, segR, thenR, pnR, Int.reduceToNat, Int.reduceAdd, Int.reduceSub, Int.reduceLT, Int.reduceLE, Nat.reduceSub, Nat.reduceMul, Nat.reduceEqDiff, joinBR]
  refine May_spec ?_
  rw [hmay]
  simp (disch := first | assumption | omega | (simp only [szR, tgC_len, tgC_all, entC_len, entC_all, tvC_len, tvC_all, actC_len, actC_all, plC_len, plC_all, tbC_len, tbC_all] <;> omega) | rfl | decide) only [gen0, gen1, gen2, rulesM, rulesT, rulesQ, litR, bolR, Nat.reduceAdd, Nat.reduceLeDiff, numR, memR, valR, heapR, updR, intR, decR, extR, slR, segR, thenR, pnR, Int.reduceToNat, Int.reduceAdd, Int.reduceSub, Int.reduceLT, Int.reduceLE, Nat.reduceSub, Nat.reduceMul, Nat.reduceEqDiff, joinBR, hb0, Bool.not_false, ent_drop0, entC_sub]
  exact hK _ (by (repeat first | assumption | exact Ext.refl | apply Ext.alloc | apply Ext.drew | (refine Ext.updN ?_ ?_; (focus first | omega | (simp only [szR] <;> omega))) | (refine Ext.updI ?_ ?_; (focus (simp; done)))))
theorem Tab.bx {w0 w w' : World} {tb r q p n b : Nat} {m g : Nat → Int} {t : Nat} {fs : List Nat} (h : Tab w0 w tb r q p n m g t fs) {l : Array Value} (hb : w.heap[b]? = some (.cells l 37 (0, 0))) (hlo : w0.heap.size ≤ b) (hx : Ext [b] w w') : Tab w0 w' tb r q p n m g t fs := by
  obtain ⟨a, c, h1, h2⟩ := h.box
  have hne : ∀ {k : Nat} {l' : Array Value} {E : TypeId}, w.heap[k]? = some (.cells l' E (0, 0)) → E ≠ 37 → k ∉ [b] := fun hk hE hm => at_ne hk hb hE (List.mem_singleton.1 hm)
  exact ⟨h.mem.ext hx (hne h.mem.head (by decide)) (hne h.mem.body.choose_spec.1 (by decide)), h.num, h.bits, hx.at h.pool (hne h.pool (by decide)), ⟨a, c, hx.at h1 (hne h1 (by decide)), h2.ext hx (fun k hk hm => by
    obtain ⟨l', hl⟩ := own_int h2 hk
    exact hne hl (by decide) hm)⟩, h.lo, extUp h.ext hx (fun k hk => by rw [List.mem_singleton.1 hk]; exact hlo)⟩
theorem RefT.outI {w w' : World} {v0 v1 v2 v3 : Value} {R : RT} {S : List Nat} (h : RefT w v0 v1 v2 v3 R) (hx : Ext S w w') (hS : ∀ b, b ∈ S → ∃ l : Array Value, w.heap[b]? = some (.cells l 3 (0, 0))) : RefT w' v0 v1 v2 v3 R := by
  have h0 : ∀ {E : TypeId} {n : Nat} {v : Value} {rows : List (List Value)}, 3 ≠ E → OwnR w 0 E n v rows → OwnR w' 0 E n v rows := fun hE ho => ho.ext hx fun b hb hm => by
    obtain ⟨l, hl⟩ := hS b hm
    exact own_ne' ho hl hE hb
  exact ⟨h0 (by decide) h.ps, h0 (by decide) h.es, h0 (by decide) h.mid, h0 (by decide) h.low⟩
theorem OffT.new {w0 w : World} {tb r q p n b : Nat} {m g : Nat → Int} {t : Nat} {fs : List Nat} (h : Tab w0 w tb r q p n m g t fs) (hb : w.heap.size ≤ b) : OffT w tb b := fun l v h1 h2 h3 => by
  obtain ⟨a, c, h4, h5⟩ := h.box
  rw [h4] at h1
  simp only [Option.some.injEq, Obj.cells.injEq, and_true] at h1
  rw [← h1] at h2
  have h6 : v = .slice a fs.length c := (Option.some.inj h2).symm
  rw [h6] at h3
  obtain ⟨l', hl⟩ := own_int h5 h3
  have := lt_of_at hl
  omega
/-- others' numbers turned. -/
theorem Pl.oths {w0 w w' : World} {tb r q p bx : Nat} {m g : Nat → Int} {t : Nat} {fs : List Nat} {lv : Nat → Nat} {par : Nat → Nat × Nat} {oth oth' : List Nat} {R : RT} {vo vo' u0 u1 u2 u3 : Value} {i : Nat} (h1 : Tab w0 w tb r q p 12 m g t fs) (h2 : Tree m 12 fs lv par) (h3 : OwnT t (fs ++ oth')) (h4 : (fs ++ oth').Nodup) (h5 : ∀ f ∈ oth', f < 12) (h6 : fs.headD 0 = 0) (h7 : w.heap[bx]? = some (.cells (tvC u0 u1 u2 u3).toArray 37 (0, 0))) (h8 : RefT w u0 u1 u2 u3 R) (h9 : Cor m fs R) (hov : OthS w w0.heap.size vo oth) (hoff : ∀ b, blockOf vo = some b → OffT w tb b) (h12 : R.ps.length ≤ i ∧ R.mid.length ≤ i ∧ R.low.length ≤ i)
    (hx : Ext (blockOf vo).toList w w') (h10 : OthS w' w0.heap.size vo' oth') (h11 : ∀ b, blockOf vo' = some b → blockOf vo = some b ∨ w.heap.size ≤ b) : Pl w0 w' tb r q p bx m g t fs lv par oth' R vo' u0 u1 u2 u3 i := by
  have hS : ∀ b, b ∈ (blockOf vo).toList → w0.heap.size ≤ b ∧ (∃ l : Array Value, w.heap[b]? = some (.cells l 3 (0, 0))) ∧ OffT w tb b := fun b hb => by
    have hb' : blockOf vo = some b := by simpa using hb
    exact ⟨(hov.blt b hb').1, (hov.blt b hb').2, hoff b hb'⟩
  obtain ⟨a, c, hb, -⟩ := h1.box
  have hne : ∀ {k : Nat} {l : Array Value} {E : TypeId}, w.heap[k]? = some (.cells l E (0, 0)) → E ≠ 3 → k ∉ (blockOf vo).toList := fun hk hE hm => by
    obtain ⟨-, ⟨l', hl⟩, -⟩ := hS _ hm
    exact at_ne hk hl hE rfl
  refine ⟨h1.outI hx hS, h2, h3, h4, h5, h6, hx.at h7 (hne h7 (by decide)), h8.outI hx fun b hb => (hS b hb).2.1, h9, h10, fun b hb' => ?_, h12⟩
  rcases h11 b hb' with h | h
  · exact (hoff b h).step hb hx (hne hb (by decide))
  · exact (OffT.new h1 h).step hb hx (hne hb (by decide))
/-- the document's tables laid anew. -/
theorem Pl.put {w0 w : World} {tb r q p bx : Nat} {m g : Nat → Int} {t : Nat} {fs : List Nat} {lv : Nat → Nat} {par : Nat → Nat × Nat} {oth : List Nat} {R' : RT} {vo u0 u1 u2 u3 t0 t1 t2 t3 : Value} {i : Nat} (h1 : Tab w0 w tb r q p 12 m g t fs) (h2 : Tree m 12 fs lv par) (h3 : OwnT t (fs ++ oth)) (h4 : (fs ++ oth).Nodup) (h5 : ∀ f ∈ oth, f < 12) (h6 : fs.headD 0 = 0) (h7 : w.heap[bx]? = some (.cells (tvC u0 u1 u2 u3).toArray 37 (0, 0))) (h8 : RefT w t0 t1 t2 t3 R') (h9 : Cor m fs R') (h10 : OthS w w0.heap.size vo oth) (h11 : ∀ b, blockOf vo = some b → OffT w tb b) (h12 : R'.ps.length ≤ i ∧ R'.mid.length ≤ i ∧ R'.low.length ≤ i) (hlo : w0.heap.size ≤ bx) :
    Pl w0 (World.upd w bx (tvC t0 t1 t2 t3)) tb r q p bx m g t fs lv par oth R' vo t0 t1 t2 t3 i := by
  have hxu : Ext [bx] w (World.upd w bx (tvC t0 t1 t2 t3)) := Ext.updI (by simp) Ext.refl
  obtain ⟨a, c, hb, -⟩ := h1.box
  have htb : tb ∉ [bx] := fun hm => at_ne hb h7 (by decide) (List.mem_singleton.1 hm)
  refine ⟨h1.bx h7 hlo hxu, h2, h3, h4, h5, h6, upd_at h7, ⟨own_box h8.ps h7 (by decide) hxu, own_box h8.es h7 (by decide) hxu, own_box h8.mid h7 (by decide) hxu, own_box h8.low h7 (by decide) hxu⟩, h9, h10.ext hxu (fun b hb hm => ?_), fun b hb2 => (h11 b hb2).step hb hxu htb, h12⟩
  obtain ⟨-, l, hl⟩ := h10.blt b hb
  exact at_ne hl h7 (by decide) (List.mem_singleton.1 hm)
/-- what is told of an address. -/
def gotF (R : RT) (va : Nat) : (Nat → Bool) × Nat × Bool := match (if va < 274877906944 then findP R.ps (va / 4096) else none) with
  | some e => (e.f, e.n, true)
  | none => (fun _ => false, 0, false)
def gotV (y : (Nat → Bool) × Nat × Bool) : Value := .tuple #[.agg (entC y.1 y.2.1).toArray, .bool y.2.2]
theorem rgot_spec {w : World} {v0 v1 v2 v3 : Value} {R : RT} (h : RefT w v0 v1 v2 v3 R) (hn : R.ps.length < 1000000) {va : Nat} (hva : va < 18446744073709551616) {K : Value → World → Prop} (hK : ∀ w', Ext [] w w' → K (gotV (gotF R va)) w') :
    callsK Try.prog 16 #[.agg (tvC v0 v1 v2 v3).toArray, .int .u64 (va : Nat)] w K := by
  refine rget_spec h hn hva fun w' hx => ?_
  have := hK w' hx
  unfold gotV gotF at this
  split at this <;> rename_i he <;> rw [he] <;> exact this
theorem tgot_spec {w0 w : World} {tb r q p n : Nat} {m g : Nat → Int} {t : Nat} {fs : List Nat} {lv : Nat → Nat} {par : Nat → Nat × Nat} (h : Tab w0 w tb r q p n m g t fs) (hT : Tree m n fs lv par) (hfs : 0 < fs.length ∧ fs.length ≤ 64) (hr : fs.headD 0 = 0) {R : RT} (hC : Cor m fs R) {va : Nat} {K : Value → World → Prop} (hK : ∀ w', Ext [] w w' → K (gotV (gotF R va)) w') :
    callsK Try.prog 17 #[.pointer (some ⟨tb, 0, none⟩), .int .u64 (va : Nat)] w K := by
  unfold gotV gotF at hK
  by_cases hlt : va < 274877906944
  · rw [if_pos hlt] at hK
    have hs := hC.at hlt
    refine Get_tab h hT hfs hlt fun w' hx => ?_
    have hk := hK w' hx
    rw [hr]
    cases he : findP R.ps (va / 4096) with
    | some e =>
      rw [he] at hs hk
      obtain ⟨h1, h2, h3⟩ := hs
      rw [h1, (ent_back h2 h3).1, if_pos (ent_back h2 h3).2.1]
      exact hk
    | none =>
      rw [he] at hs hk
      have hs : lookW m 0 va = 0 := hs
      rw [hs, if_neg (by unfold leaf; rw [fl_zero]; simp)]
      exact hk
  · rw [if_neg hlt] at hK
    exact Get_no38 h hfs hlt hK
end Go.Proofs.Ytfpcflmgipklcaa
