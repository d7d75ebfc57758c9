/- TableTells; conditions: those of each theorem. -/
import Derived.Test.YtfpcflmgipklcaaTTells5
namespace Go.Proofs.Ytfpcflmgipklcaa
open Go.Fx
set_option maxRecDepth 100000
set_option linter.unusedSimpArgs false
set_option linter.unusedVariables false
theorem lev_le {m : Nat → Int} {n root va : Nat} {fs : List Nat} {lv : Nat → Nat} {par : Nat → Nat × Nat} (hT : Tree m n fs lv par) (hr : fs.headD 0 = root) : lev m root va ≤ 2 := by
  obtain ⟨f0, l0, hfs, hf0⟩ := hT.top
  rw [hfs, List.headD_cons] at hr
  subst hr
  have hat := low_at hT (va := va) (f := f0) (by rw [hfs]; simp) hf0
  obtain ⟨y, hy⟩ : ∃ y, low m va 2 f0 = y := ⟨_, rfl⟩
  obtain ⟨F, l, ok⟩ := y
  rw [hy] at hat
  rw [lev_of hy]
  exact hat.2.2.1
theorem last_none {m : Nat → Int} (h : ∀ va, lookW m 0 va = 0) : lastF m = fun _ => none := by
  funext k
  unfold lastF
  rw [h, if_neg]
  rw [fl_zero]
  simp
/-- where the law stands, in its loop. -/
structure Lay22 (w0 w : World) (tb r q p bl mr : Nat) (m g : Nat → Int) (t : Nat) (fs : List Nat) (lv : Nat → Nat) (par : Nat → Nat × Nat) (i : Nat) : Prop where
  tab : Tab w0 w tb r q p 16 m g t fs
  tree : Tree m 16 fs lv par
  own : OwnT t fs
  hd : fs.headD 0 = 0
  len : fs.length ≤ 1 + 2 * i
  lst : w.heap[bl]? = some (.cells [.map (some mr)].toArray 67 (0, 0))
  map : MapF w mr pgf entf (lastF m)
theorem Lay22.step {w0 w w' : World} {tb r q p bl mr : Nat} {m g : Nat → Int} {t : Nat} {fs : List Nat} {lv : Nat → Nat} {par : Nat → Nat × Nat} {i : Nat} (h : Lay22 w0 w tb r q p bl mr m g t fs lv par i) (hx : Ext [] w w') : Lay22 w0 w' tb r q p bl mr m g t fs lv par i :=
  ⟨h.tab.step hx, h.tree, h.own, h.hd, h.len, hx.at h.lst (by simp), h.map.ext hx (by simp)⟩
theorem MapF.kept {κ ν : Type} [DecidableEq κ] {w w' : World} {r : Nat} {kf : κ → Value} {vf : ν → Value} {f : κ → Option ν} (h : MapF w r kf vf f) (hx : KeptO w w') : MapF w' r kf vf f := by
  obtain ⟨l, ⟨⟨es, c, h1, h2⟩, h3⟩, h4⟩ := h
  exact ⟨l, ⟨⟨es, c, hx.2 _ _ _ h1, h2⟩, h3⟩, h4⟩
theorem act_drop0 (a : ActE) : actC a ++ List.drop (actC a).length [.int .i64 0, .int .i64 0, .int .u64 0, .bool false, .bool false, .bool false, .bool false, .bool false, .bool false, .bool false, .bool false, .bool false, .bool false, .bool false, .bool false, .int .u64 0] = actC a := by simp [actC, entC]
theorem Tab.outM {w0 w w' : World} {tb r q p n : Nat} {m g : Nat → Int} {t : Nat} {fs : List Nat} (h : Tab w0 w tb r q p n m g t fs) {κ ν : Type} [DecidableEq κ] {mr : Nat} {kf : κ → Value} {vf : ν → Value} {f : κ → Option ν} (hm : MapF w mr kf vf f) (hlo : w0.heap.size ≤ mr) (hx : Ext [mr] w w') : Tab w0 w' tb r q p n m g t fs := by
  refine h.out hx fun b hb => ?_
  rw [List.mem_singleton.1 hb]
  obtain ⟨a, c, h1, h2⟩ := h.box
  refine ⟨hlo, map_ne hm h.mem.head, map_ne hm h.mem.body.choose_spec.1, map_ne hm h.pool, map_ne hm h1, fun a' c' h7 h8 => ?_⟩
  rw [h1] at h7
  have h9 : Value.slice a fs.length c = Value.slice a' fs.length c' := by
    simp only [Option.some.injEq, Obj.cells.injEq] at h7
    have h10 := congrArg (fun x : Array Value => x[2]?) h7.1
    simpa [tbC] using h10
  rw [← h9] at h8
  obtain ⟨l, hl⟩ := own_int h2 h8
  exact map_ne hm hl rfl
theorem Lay22.fs0 {w0 w : World} {tb r q p bl mr : Nat} {m g : Nat → Int} {t : Nat} {fs : List Nat} {lv : Nat → Nat} {par : Nat → Nat × Nat} {i : Nat} (h : Lay22 w0 w tb r q p bl mr m g t fs lv par i) : 0 < fs.length ∧ fs.length ≤ 64 := by
  obtain ⟨f0, l0, h1, h2⟩ := h.tree.top
  refine ⟨by rw [h1]; simp, ?_⟩
  have := nodup_le h.tree.one h.tree.lt
  omega
theorem Lay22.mono {w0 w : World} {tb r q p bl mr : Nat} {m g : Nat → Int} {t : Nat} {fs : List Nat} {lv : Nat → Nat} {par : Nat → Nat × Nat} {i : Nat} (h : Lay22 w0 w tb r q p bl mr m g t fs lv par i) : Lay22 w0 w tb r q p bl mr m g t fs lv par (i + 1) :=
  ⟨h.tab, h.tree, h.own, h.hd, by have := h.len; omega, h.lst, h.map⟩
set_option maxHeartbeats 4000000
theorem tells_spec {w : World} {v : Value} {l : List ActE} (hv : RowsAt w v 16 (l.map actC)) (hl : ∀ c ∈ l, c.va < 18446744073709551616 ∧ c.x < 18446744073709551616) (hcap : l.length < 4611686018427387904) {most : Int} {K : Value → World → Prop} (hK : ∀ w', Ext [] w w' → K (.bool true) w') :
    callsK Try.prog 5 #[v, .int .i64 most] w K := by
  have hlv := hv.lenR (ty := 3) Try.underlying22
  rw [List.length_map] at hlv
  apply F5_ok
  unfold F5
  simp (disch := first | assumption | omega | (simp only [szR, tgC_len, tgC_all, entC_len, entC_all, plC_len, plC_all, tbC_len, tbC_all, actC_len, actC_all] <;> omega) | rfl | decide) only [gen0, gen1, gen2, rulesM, rulesT, rulesP, litR, bolR, Nat.reduceAdd, Nat.reduceLeDiff, numR, memR, valR, heapR, updR, intR, decR, extR, slR, segR, thenR, pnR, Int.reduceToNat, Int.reduceAdd, Int.reduceSub, Int.reduceLT, Int.reduceLE, Nat.reduceSub, Nat.reduceMul, Nat.reduceEqDiff]
  obtain ⟨w0, hw0⟩ : ∃ w0, w0 = w.alloc (.cells #[.int .i64 most] 3) := ⟨_, rfl⟩
  have hxw : Ext [] w w0 := by rw [hw0]; (repeat first | assumption | exact Ext.refl | apply Ext.alloc | apply Ext.drew | (refine Ext.updN ?_ ?_; (focus first | omega | (simp only [szR] <;> omega))) | (refine Ext.updI ?_ ?_; (focus (simp; done))))
  have hmst : w0.heap[w.heap.size]? = some (.cells [.int .i64 most].toArray 3 (0, 0)) := by rw [hw0]; exact alloc_at rfl
  rw [← hw0]
  refine New_spec (n := 16) (by omega) fun w1 hM1 hx1 => ?_
  have hs1 := hx1.size
  simp (disch := first | assumption | omega | (simp only [szR, tgC_len, tgC_all, entC_len, entC_all, plC_len, plC_all, tbC_len, tbC_all, actC_len, actC_all] <;> omega) | rfl | decide) only [gen0, gen1, gen2, rulesM, rulesT, rulesP, litR, bolR, Nat.reduceAdd, Nat.reduceLeDiff, numR, memR, valR, heapR, updR, intR, decR, extR, slR, segR, thenR, pnR, Int.reduceToNat, Int.reduceAdd, Int.reduceSub, Int.reduceLT, Int.reduceLE, Nat.reduceSub, Nat.reduceMul, Nat.reduceEqDiff]
  refine pnew_spec (n := 16) (by omega) fun w2 hp2 hx2 => ?_
  simp (disch := first | assumption | omega | (simp only [szR, tgC_len, tgC_all, entC_len, entC_all, plC_len, plC_all, tbC_len, tbC_all, actC_len, actC_all] <;> omega) | rfl | decide) only [gen0, gen1, gen2, rulesM, rulesT, rulesP, litR, bolR, Nat.reduceAdd, Nat.reduceLeDiff, numR, memR, valR, heapR, updR, intR, decR, extR, slR, segR, thenR, pnR, Int.reduceToNat, Int.reduceAdd, Int.reduceSub, Int.reduceLT, Int.reduceLE, Nat.reduceSub, Nat.reduceMul, Nat.reduceEqDiff]
  refine tnew_spec (w0 := w0) (n := 16) (hM1.ext hx2 (by simp) (by simp)) hp2 (by omega) (by omega) (hx1.trans hx2 (by simp)) fun tb g3 t3 w3 h3 hT3 hO3 hL3 hv3 hk3 => ?_
  simp (disch := first | assumption | omega | (simp only [szR, tgC_len, tgC_all, entC_len, entC_all, plC_len, plC_all, tbC_len, tbC_all, actC_len, actC_all] <;> omega) | rfl | decide) only [gen0, gen1, gen2, rulesM, rulesT, rulesP, litR, bolR, Nat.reduceAdd, Nat.reduceLeDiff, numR, memR, valR, heapR, updR, intR, decR, extR, slR, segR, thenR, pnR, Int.reduceToNat, Int.reduceAdd, Int.reduceSub, Int.reduceLT, Int.reduceLE, Nat.reduceSub, Nat.reduceMul, Nat.reduceEqDiff, joinBR, Option.isNone_some, run_mkM]
  obtain ⟨W, hW⟩ : ∃ W, W = (w3.alloc (.map #[] 0)).alloc (.cells #[.map (some w3.heap.size)] 67) := ⟨_, rfl⟩
  rw [← hW]
  have hxm : Ext [] w3 (w3.alloc (.map #[] 0)) := Ext.allocM Ext.refl
  have hxb : Ext [] (w3.alloc (.map #[] 0)) W := by rw [hW]; exact Ext.alloc Ext.refl _ _
  have hxW := hxm.trans hxb (by simp)
  have hmk := (MapF.make (w := w3) (kf := pgf) (vf := entf)).ext hxb (by simp)
  rw [← last_none hL3] at hmk
  have hI0 : Lay22 w0 W tb (w0.heap.size + 1) w0.heap.size w1.heap.size (w3.heap.size + 1) w3.heap.size (wipeM (fun _ => 0) 0) g3 t3 [0] (fun _ => 2) (fun _ => (0, 0)) 0 :=
    ⟨h3.step hxW, hT3, hO3, rfl, by simp, by rw [hW]; exact alloc_at (by simp only [szR]), hmk⟩
  have hmlo : w0.heap.size ≤ w3.heap.size := h3.ext.size
  generalize hmr : w3.heap.size = mr at *
  clear hmk hxW hxb hxm hW
  refine loopT.intro (fun st w' => ∃ (i : Nat) (m g : Nat → Int) (t : Nat) (fs : List Nat) (lv : Nat → Nat) (par : Nat → Nat × Nat), i ≤ l.length ∧ i ≤ 30 ∧ st = [.int .i64 (i : Nat)] ∧ Lay22 w0 w' tb (w0.heap.size + 1) w0.heap.size w1.heap.size (mr + 1) mr m g t fs lv par i)
    (fun st _ => match st with
      | [.int _ z] => 30 - z.toNat
      | _ => 0) ⟨0, _, _, _, _, _, _, by omega, by omega, rfl, hI0⟩ ?_
  clear hI0
  rintro st w5 ⟨i, m, g, t, fs, lv, par, hil, hi30, rfl, hI⟩ _
  have hx5 : Ext [] w w5 := hxw.trans hI.tab.ext (by simp)
  by_cases hc : i < l.length ∧ i < 30
  · obtain ⟨hc1, hc2⟩ := hc
    obtain ⟨a, ha⟩ : ∃ a, l[i]? = some a := ⟨l[i], List.getElem?_eq_getElem hc1⟩
    have ham : a ∈ l := List.mem_of_getElem? ha
    obtain ⟨hva, hax⟩ := hl a ham
    have hv5 := hv.ext hx5 (by simp)
    obtain ⟨b, o, L, E, ff, hix, hb, hfit, hlt, hblk, hsub, hget⟩ := RowsAt.ixR (P := Try.prog) (t := 22) Try.underlying22 Try.sizeOf42 hv5 (k := i) (r := actC a) (by rw [List.getElem?_map, ha]; rfl)
    have hs := hsub o rfl
    have hix' : ∀ w, (Instr.indexAt 22 v (.int .i64 (i : Nat))).run Try.prog w = .ok (.pointer (some ⟨b, o, none⟩)) w := fun w => hix w .i64 i rfl
    have e1 : decide (((i : Nat) : Int) < ((l.length : Nat) : Int)) = true := decide_eq_true (by omega)
    have e2 : decide (((i : Nat) : Int) < 30) = true := decide_eq_true (by omega)
    simp (disch := first | assumption | omega | (simp only [szR, tgC_len, tgC_all, entC_len, entC_all, plC_len, plC_all, tbC_len, tbC_all, actC_len, actC_all] <;> omega) | rfl | decide) only [gen0, gen1, gen2, rulesM, rulesT, rulesP, litR, bolR, Nat.reduceAdd, Nat.reduceLeDiff, numR, memR, valR, heapR, updR, intR, decR, extR, slR, segR, thenR, pnR, Int.reduceToNat, Int.reduceAdd, Int.reduceSub, Int.reduceLT, Int.reduceLE, Nat.reduceSub, Nat.reduceMul, Nat.reduceEqDiff, joinBR, hlv, e1, e2]
    refine joinL.intro fun J4 hJ4 => ?_
    have hnext : ∀ w' m' g' t' fs' lv' par', Lay22 w0 w' tb (w0.heap.size + 1) w0.heap.size w1.heap.size (mr + 1) mr m' g' t' fs' lv' par' (i + 1) → J4 [] w' := by
      intro w' m' g' t' fs' lv' par' h'
      apply hJ4
      intro _
      simp (disch := first | assumption | omega | (simp only [szR, tgC_len, tgC_all, entC_len, entC_all, plC_len, plC_all, tbC_len, tbC_all, actC_len, actC_all] <;> omega) | rfl | decide) only [gen0, gen1, gen2, rulesM, rulesT, rulesP, litR, bolR, Nat.reduceAdd, Nat.reduceLeDiff, numR, memR, valR, heapR, updR, intR, decR, extR, slR, segR, thenR, pnR, Int.reduceToNat, Int.reduceAdd, Int.reduceSub, Int.reduceLT, Int.reduceLE, Nat.reduceSub, Nat.reduceMul, Nat.reduceEqDiff]
      exact ⟨⟨i + 1, m', g', t', fs', lv', par', by omega, by omega, rfl, h'⟩, by omega⟩
    clear hJ4
    simp (disch := first | assumption | omega | (simp only [szR, tgC_len, tgC_all, entC_len, entC_all, plC_len, plC_all, tbC_len, tbC_all, actC_len, actC_all] <;> omega) | rfl | decide) only [gen0, gen1, gen2, rulesM, rulesT, rulesP, litR, bolR, Nat.reduceAdd, Nat.reduceLeDiff, numR, memR, valR, heapR, updR, intR, decR, extR, slR, segR, thenR, pnR, Int.reduceToNat, Int.reduceAdd, Int.reduceSub, Int.reduceLT, Int.reduceLE, Nat.reduceSub, Nat.reduceMul, Nat.reduceEqDiff, hix', hb, hs, act_drop0]
    refine joinL.intro fun J6 hJ6 => ?_
    obtain ⟨w6, hw6⟩ : ∃ w6, w6 = w5.alloc (.cells (actC a).toArray 42) := ⟨_, rfl⟩
    have hx6 : Ext [] w5 w6 := by rw [hw6]; exact Ext.alloc Ext.refl _ _
    have hA6 : w6.heap[w5.heap.size]? = some (.cells (actC a).toArray 42 (0, 0)) := by rw [hw6]; exact alloc_at rfl
    rw [← hw6]
    have hI6 := hI.step hx6
    clear hw6
    have l6 := lt_of_at hA6
    have hdiv : ((a.va : Nat) : Int) / 4096 = ((a.va / 4096 : Nat) : Int) := by omega
    by_cases k2 : a.k = 2
    · have d2 : decide (a.k = 2) = true := decide_eq_true k2
      have d0 : decide (a.k = 0) = false := decide_eq_false (by omega)
      have h62 : ∀ w' m' g' t' fs' lv' par', Lay22 w0 w' tb (w0.heap.size + 1) w0.heap.size w1.heap.size (mr + 1) mr m' g' t' fs' lv' par' (i + 1) → w'.heap[w5.heap.size]? = some (.cells (actC a).toArray 42 (0, 0)) → J6 [] w' := by
        intro w' m' g' t' fs' lv' par' h' hA'
        have l7 := lt_of_at hA'
        apply hJ6
        intro _
        simp (disch := first | assumption | omega | (simp only [szR, tgC_len, tgC_all, entC_len, entC_all, plC_len, plC_all, tbC_len, tbC_all, actC_len, actC_all] <;> omega) | rfl | decide) only [gen0, gen1, gen2, rulesM, rulesT, rulesP, litR, bolR, Nat.reduceAdd, Nat.reduceLeDiff, numR, memR, valR, heapR, updR, intR, decR, extR, slR, segR, thenR, pnR, Int.reduceToNat, Int.reduceAdd, Int.reduceSub, Int.reduceLT, Int.reduceLE, Nat.reduceSub, Nat.reduceMul, Nat.reduceEqDiff, joinBR, hA', actC_0, d0]
        exact hnext _ _ _ _ _ _ _ h'
      clear hJ6 hnext
      simp (disch := first | assumption | omega | (simp only [szR, tgC_len, tgC_all, entC_len, entC_all, plC_len, plC_all, tbC_len, tbC_all, actC_len, actC_all] <;> omega) | rfl | decide) only [gen0, gen1, gen2, rulesM, rulesT, rulesP, litR, bolR, Nat.reduceAdd, Nat.reduceLeDiff, numR, memR, valR, heapR, updR, intR, decR, extR, slR, segR, thenR, pnR, Int.reduceToNat, Int.reduceAdd, Int.reduceSub, Int.reduceLT, Int.reduceLE, Nat.reduceSub, Nat.reduceMul, Nat.reduceEqDiff, joinBR, hA6, actC_0, actC_2, d2]
      by_cases hlt2 : a.va < 274877906944
      · refine Clear_tab hI6.tab hI6.tree hI6.fs0 hlt2 fun m' g' w7 h7 hT7 hlook hlow hk7 => ?_
        rw [hI6.hd] at hlook
        have hA7 := hk7.1 _ _ _ hA6 (by decide) (by decide) (by decide) (by decide)
        have hL7 := hk7.1 _ _ _ hI6.lst (by decide) (by decide) (by decide) (by decide)
        have hM7 := MapF.kept hI6.map hk7
        have l7 := lt_of_at hA7
        have l8 := lt_of_at hL7
        simp (disch := first | assumption | omega | (simp only [szR, tgC_len, tgC_all, entC_len, entC_all, plC_len, plC_all, tbC_len, tbC_all, actC_len, actC_all] <;> omega) | rfl | decide) only [gen0, gen1, gen2, rulesM, rulesT, rulesP, litR, bolR, Nat.reduceAdd, Nat.reduceLeDiff, numR, memR, valR, heapR, updR, intR, decR, extR, slR, segR, thenR, pnR, Int.reduceToNat, Int.reduceAdd, Int.reduceSub, Int.reduceLT, Int.reduceLE, Nat.reduceSub, Nat.reduceMul, Nat.reduceEqDiff, joinBR, hA7, hL7, actC_2]
        rw [hdiv]
        refine run_delM Try.underlying67 pgKey hM7 (a.va / 4096) fun w8 hM8 hx8 => ?_
        have hlf : lastF m' = fun k => if k = a.va / 4096 then none else lastF m k := by
          rw [last_put (x := 0) (by omega) hlook, fl_zero]
          rfl
        rw [← hlf] at hM8
        exact h62 _ _ _ _ _ _ _ ⟨h7.outM hM7 hmlo hx8, hT7, hI6.own, hI6.hd, by have := hI6.len; omega, hx8.at hL7 (by simp), hM8⟩ (hx8.at hA7 (by simp [(map_ne hM7 hA7).symm]))
      · refine Clear_no hI6.tab hI6.fs0 hlt2 ?_
        simp (disch := first | assumption | omega | (simp only [szR, tgC_len, tgC_all, entC_len, entC_all, plC_len, plC_all, tbC_len, tbC_all, actC_len, actC_all] <;> omega) | rfl | decide) only [gen0, gen1, gen2, rulesM, rulesT, rulesP, litR, bolR, Nat.reduceAdd, Nat.reduceLeDiff, numR, memR, valR, heapR, updR, intR, decR, extR, slR, segR, thenR, pnR, Int.reduceToNat, Int.reduceAdd, Int.reduceSub, Int.reduceLT, Int.reduceLE, Nat.reduceSub, Nat.reduceMul, Nat.reduceEqDiff, joinBR]
        exact h62 _ _ _ _ _ _ _ hI6.mono hA6
    · have d2 : decide (a.k = 2) = false := decide_eq_false k2
      by_cases k0 : a.k = 0
      · have d0 : decide (a.k = 0) = true := decide_eq_true k0
        simp (disch := first | assumption | omega | (simp only [szR, tgC_len, tgC_all, entC_len, entC_all, plC_len, plC_all, tbC_len, tbC_all, actC_len, actC_all] <;> omega) | rfl | decide) only [gen0, gen1, gen2, rulesM, rulesT, rulesP, litR, bolR, Nat.reduceAdd, Nat.reduceLeDiff, numR, memR, valR, heapR, updR, intR, decR, extR, slR, segR, thenR, pnR, Int.reduceToNat, Int.reduceAdd, Int.reduceSub, Int.reduceLT, Int.reduceLE, Nat.reduceSub, Nat.reduceMul, Nat.reduceEqDiff, joinBR, hA6, actC_0, d2]
        apply hJ6
        intro _
        clear hJ6
        simp (disch := first | assumption | omega | (simp only [szR, tgC_len, tgC_all, entC_len, entC_all, plC_len, plC_all, tbC_len, tbC_all, actC_len, actC_all] <;> omega) | rfl | decide) only [gen0, gen1, gen2, rulesM, rulesT, rulesP, litR, bolR, Nat.reduceAdd, Nat.reduceLeDiff, numR, memR, valR, heapR, updR, intR, decR, extR, slR, segR, thenR, pnR, Int.reduceToNat, Int.reduceAdd, Int.reduceSub, Int.reduceLT, Int.reduceLE, Nat.reduceSub, Nat.reduceMul, Nat.reduceEqDiff, joinBR, hA6, actC_0, actC_2, actC_sub, d0]
        by_cases hlt2 : a.va < 274877906944
        · refine Set_tab hI6.tab hI6.tree hI6.own hlt2 hax (fun _ w7 hx7 => ?_) (fun _ _ w7 hx7 => ?_) fun hlr _ m' g' t' fs' lv' par' w7 h7 hT7 hO7 hl7 hr7 hlook hk7 => ?_
          · simp (disch := first | assumption | omega | (simp only [szR, tgC_len, tgC_all, entC_len, entC_all, plC_len, plC_all, tbC_len, tbC_all, actC_len, actC_all] <;> omega) | rfl | decide) only [gen0, gen1, gen2, rulesM, rulesT, rulesP, litR, bolR, Nat.reduceAdd, Nat.reduceLeDiff, numR, memR, valR, heapR, updR, intR, decR, extR, slR, segR, thenR, pnR, Int.reduceToNat, Int.reduceAdd, Int.reduceSub, Int.reduceLT, Int.reduceLE, Nat.reduceSub, Nat.reduceMul, Nat.reduceEqDiff, joinBR]
            exact hnext _ _ _ _ _ _ _ (hI6.step hx7).mono
          · simp (disch := first | assumption | omega | (simp only [szR, tgC_len, tgC_all, entC_len, entC_all, plC_len, plC_all, tbC_len, tbC_all, actC_len, actC_all] <;> omega) | rfl | decide) only [gen0, gen1, gen2, rulesM, rulesT, rulesP, litR, bolR, Nat.reduceAdd, Nat.reduceLeDiff, numR, memR, valR, heapR, updR, intR, decR, extR, slR, segR, thenR, pnR, Int.reduceToNat, Int.reduceAdd, Int.reduceSub, Int.reduceLT, Int.reduceLE, Nat.reduceSub, Nat.reduceMul, Nat.reduceEqDiff, joinBR]
            exact hnext _ _ _ _ _ _ _ (hI6.step hx7).mono
          · rw [hI6.hd] at hlook hr7 hl7
            have hlv := lev_le (va := a.va) hI6.tree hI6.hd
            have hA7 := hk7.1 _ _ _ hA6 (by decide) (by decide) (by decide) (by decide)
            have hL7 := hk7.1 _ _ _ hI6.lst (by decide) (by decide) (by decide) (by decide)
            have hM7 := MapF.kept hI6.map hk7
            have l7 := lt_of_at hA7
            simp (disch := first | assumption | omega | (simp only [szR, tgC_len, tgC_all, entC_len, entC_all, plC_len, plC_all, tbC_len, tbC_all, actC_len, actC_all] <;> omega) | rfl | decide) only [gen0, gen1, gen2, rulesM, rulesT, rulesP, litR, bolR, Nat.reduceAdd, Nat.reduceLeDiff, numR, memR, valR, heapR, updR, intR, decR, extR, slR, segR, thenR, pnR, Int.reduceToNat, Int.reduceAdd, Int.reduceSub, Int.reduceLT, Int.reduceLE, Nat.reduceSub, Nat.reduceMul, Nat.reduceEqDiff, joinBR, hA7, actC_sub]
            refine Word_spec hax fun w8 hx8 => ?_
            have hwl := wd_lt a.f a.x
            simp (disch := first | assumption | omega | (simp only [szR, tgC_len, tgC_all, entC_len, entC_all, plC_len, plC_all, tbC_len, tbC_all, actC_len, actC_all] <;> omega) | rfl | decide) only [gen0, gen1, gen2, rulesM, rulesT, rulesP, litR, bolR, Nat.reduceAdd, Nat.reduceLeDiff, numR, memR, valR, heapR, updR, intR, decR, extR, slR, segR, thenR, pnR, Int.reduceToNat, Int.reduceAdd, Int.reduceSub, Int.reduceLT, Int.reduceLE, Nat.reduceSub, Nat.reduceMul, Nat.reduceEqDiff, joinBR]
            refine Of_spec (by omega) fun w9 hx9 => ?_
            have hx79 := hx8.trans hx9 (by simp)
            have hA9 := hx79.at hA7 (by simp)
            have hL9 := hx79.at hL7 (by simp)
            have hM9 := hM7.ext hx79 (by simp)
            have l9 := lt_of_at hA9
            have l10 := lt_of_at hL9
            simp (disch := first | assumption | omega | (simp only [szR, tgC_len, tgC_all, entC_len, entC_all, plC_len, plC_all, tbC_len, tbC_all, actC_len, actC_all] <;> omega) | rfl | decide) only [gen0, gen1, gen2, rulesM, rulesT, rulesP, litR, bolR, Nat.reduceAdd, Nat.reduceLeDiff, numR, memR, valR, heapR, updR, intR, decR, extR, slR, segR, thenR, pnR, Int.reduceToNat, Int.reduceAdd, Int.reduceSub, Int.reduceLT, Int.reduceLE, Nat.reduceSub, Nat.reduceMul, Nat.reduceEqDiff, joinBR, ent_drop0, hA9, hL9, actC_2, entC_sub]
            rw [hdiv]
            obtain ⟨w10, hw10⟩ : ∃ w10, w10 = w9.alloc (.cells (entC (fl (wd a.f a.x)) (fr (wd a.f a.x))).toArray 40) := ⟨_, rfl⟩
            rw [← hw10]
            have hx10 : Ext [] w9 w10 := by rw [hw10]; exact Ext.alloc Ext.refl _ _
            refine run_updM Try.underlying67 pgKey (hM9.ext hx10 (by simp)) (a.va / 4096) (wd a.f a.x) fun w11 hM11 hx11 => ?_
            have hf0 : fl (wd a.f a.x) 0 = true := by
              rw [fl_wd _ _ 0 (by omega)]
              unfold leaf at hlr
              rw [Bool.and_eq_true, Bool.and_eq_true] at hlr
              exact hlr.1.1
            have hlf : lastF m' = fun k => if k = a.va / 4096 then some (wd a.f a.x) else lastF m k := by
              rw [last_put (x := wd a.f a.x) (by omega) hlook, hf0]
              rfl
            rw [← hlf] at hM11
            have hx710 := hx79.trans hx10 (by simp)
            exact hnext _ _ _ _ _ _ _ ⟨(h7.step hx710).outM (hM9.ext hx10 (by simp)) hmlo hx11, hT7, hO7, hr7, by have := hI6.len; omega, hx11.at (hx710.at hL7 (by simp)) (by simp), hM11⟩
        · refine Set_no hI6.tab hI6.fs0 hlt2 fun w7 hx7 => ?_
          simp (disch := first | assumption | omega | (simp only [szR, tgC_len, tgC_all, entC_len, entC_all, plC_len, plC_all, tbC_len, tbC_all, actC_len, actC_all] <;> omega) | rfl | decide) only [gen0, gen1, gen2, rulesM, rulesT, rulesP, litR, bolR, Nat.reduceAdd, Nat.reduceLeDiff, numR, memR, valR, heapR, updR, intR, decR, extR, slR, segR, thenR, pnR, Int.reduceToNat, Int.reduceAdd, Int.reduceSub, Int.reduceLT, Int.reduceLE, Nat.reduceSub, Nat.reduceMul, Nat.reduceEqDiff, joinBR]
          exact hnext _ _ _ _ _ _ _ (hI6.step hx7).mono
      · have d0 : decide (a.k = 0) = false := decide_eq_false k0
        simp (disch := first | assumption | omega | (simp only [szR, tgC_len, tgC_all, entC_len, entC_all, plC_len, plC_all, tbC_len, tbC_all, actC_len, actC_all] <;> omega) | rfl | decide) only [gen0, gen1, gen2, rulesM, rulesT, rulesP, litR, bolR, Nat.reduceAdd, Nat.reduceLeDiff, numR, memR, valR, heapR, updR, intR, decR, extR, slR, segR, thenR, pnR, Int.reduceToNat, Int.reduceAdd, Int.reduceSub, Int.reduceLT, Int.reduceLE, Nat.reduceSub, Nat.reduceMul, Nat.reduceEqDiff, joinBR, hA6, actC_0, d2]
        apply hJ6
        intro _
        simp (disch := first | assumption | omega | (simp only [szR, tgC_len, tgC_all, entC_len, entC_all, plC_len, plC_all, tbC_len, tbC_all, actC_len, actC_all] <;> omega) | rfl | decide) only [gen0, gen1, gen2, rulesM, rulesT, rulesP, litR, bolR, Nat.reduceAdd, Nat.reduceLeDiff, numR, memR, valR, heapR, updR, intR, decR, extR, slR, segR, thenR, pnR, Int.reduceToNat, Int.reduceAdd, Int.reduceSub, Int.reduceLT, Int.reduceLE, Nat.reduceSub, Nat.reduceMul, Nat.reduceEqDiff, joinBR, hA6, actC_0, d0]
        exact hnext _ _ _ _ _ _ _ hI6.mono
  · have hm5 := hI.tab.ext.at hmst (by simp)
    have hfin := tells_end hI.tab hI.tree hI.own hI.hd (N := l.length) (by have := hI.len; omega) hcap hI.lst hm5 hI.map (v3 := .pointer (some ⟨w.heap.size, 0, none⟩)) (v11 := .pointer (some ⟨mr + 1, 0, none⟩)) (v27 := .pointer (some ⟨w1.heap.size, 0, none⟩)) (v33 := .pointer (some ⟨tb, 0, none⟩)) (t0 := v) rfl rfl rfl rfl hlv (K := K) (fun w' hx => hK _ (hxw.trans hx (by simp)))
    by_cases hc1 : i < l.length
    · have e1 : decide (((i : Nat) : Int) < ((l.length : Nat) : Int)) = true := decide_eq_true (by omega)
      have e2 : decide (((i : Nat) : Int) < 30) = false := decide_eq_false (by omega)
      simp (disch := first | assumption | omega | (simp only [szR, tgC_len, tgC_all, entC_len, entC_all, plC_len, plC_all, tbC_len, tbC_all, actC_len, actC_all] <;> omega) | rfl | decide) only [gen0, gen1, gen2, rulesM, rulesT, rulesP, litR, bolR, Nat.reduceAdd, Nat.reduceLeDiff, numR, memR, valR, heapR, updR, intR, decR, extR, slR, segR, thenR, pnR, Int.reduceToNat, Int.reduceAdd, Int.reduceSub, Int.reduceLT, Int.reduceLE, Nat.reduceSub, Nat.reduceMul, Nat.reduceEqDiff, joinBR, hlv, e1, e2]
      exact hfin
    · have e1 : decide (((i : Nat) : Int) < ((l.length : Nat) : Int)) = false := decide_eq_false (by omega)
      simp (disch := first | assumption | omega | (simp only [szR, tgC_len, tgC_all, entC_len, entC_all, plC_len, plC_all, tbC_len, tbC_all, actC_len, actC_all] <;> omega) | rfl | decide) only [gen0, gen1, gen2, rulesM, rulesT, rulesP, litR, bolR, Nat.reduceAdd, Nat.reduceLeDiff, numR, memR, valR, heapR, updR, intR, decR, extR, slR, segR, thenR, pnR, Int.reduceToNat, Int.reduceAdd, Int.reduceSub, Int.reduceLT, Int.reduceLE, Nat.reduceSub, Nat.reduceMul, Nat.reduceEqDiff, joinBR, hlv, e1]
      exact hfin
end Go.Proofs.Ytfpcflmgipklcaa
