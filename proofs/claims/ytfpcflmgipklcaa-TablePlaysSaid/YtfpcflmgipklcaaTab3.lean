/- Tables: entries cleared and laid; conditions: those of each theorem. -/
import Derived.Test.YtfpcflmgipklcaaTab2
namespace Go.Proofs.Ytfpcflmgipklcaa
open Go.Fx
set_option maxRecDepth 100000
set_option linter.unusedSimpArgs false
set_option linter.unusedVariables false
theorem extUp {w0 w w' : World} {S : List Nat} (h : Ext [] w0 w) (hx : Ext S w w') (hS : ∀ b, b ∈ S → w0.heap.size ≤ b) : Ext [] w0 w' :=
  ⟨hx.os.trans h.os, hx.tape.trans h.tape, hx.output.trans h.output, Nat.le_trans h.size hx.size, fun k hk _ => (hx.kept k (Nat.lt_of_lt_of_le hk h.size) (fun hm => by have := hS k hm; omega)).trans (h.kept k hk (by simp))⟩
theorem own_ne {w : World} {base b : Nat} {v : Value} {rows : List (List Value)} (h : OwnR w base 3 1 v rows) {l : Array Value} {E : TypeId} (hb : w.heap[b]? = some (.cells l E (0, 0))) (hE : E ≠ 3) : blockOf v ≠ some b := by
  intro hv
  obtain ⟨-, ⟨rfl, -⟩ | ⟨g, cap, cur, rfl, -, hg, -⟩⟩ := h.own
  · cases hv
  · cases hv
    exact at_ne hg hb (fun e => hE e.symm) rfl
theorem own_int {w : World} {base b : Nat} {v : Value} {rows : List (List Value)} (h : OwnR w base 3 1 v rows) (hv : blockOf v = some b) : ∃ l : Array Value, w.heap[b]? = some (.cells l 3 (0, 0)) := by
  obtain ⟨-, ⟨rfl, -⟩ | ⟨g, cap, cur, rfl, -, hg, -⟩⟩ := h.own
  · cases hv
  · cases hv
    exact ⟨_, hg⟩
theorem Tab.of {w0 w w' : World} {tb r q p n : Nat} {m g m' g' : Nat → Int} {t t' : Nat} {fs S : List Nat} (h : Tab w0 w tb r q p n m g t fs) (hx : Ext S w w') (hS : ∀ b, b ∈ S → b = p ∨ b = q) (hM : Mem w' r q n m' g') (hp : w'.heap[p]? = some (.cells (plC n t').toArray 82 (0, 0))) (ht : t' < 18446744073709551616) :
    Tab w0 w' tb r q p n m' g' t' fs ∧ KeptO w w' := by
  obtain ⟨a, c, h1, h2⟩ := h.box
  obtain ⟨L, hL, -⟩ := h.mem.body
  refine ⟨⟨hM, h.num, ht, hp, ⟨a, c, hx.at h1 (fun hm => ?_), h2.ext hx (fun b hb hm => ?_)⟩, h.lo, extUp h.ext hx (fun b hb => ?_)⟩, KeptO.of hx fun b hb => ?_⟩
  · rcases hS _ hm with e | e
    · exact at_ne h1 h.pool (by decide) e
    · exact at_ne h1 hL (by decide) e
  · rcases hS _ hm with e | e
    · subst e
      exact own_ne h2 h.pool (by decide) hb
    · subst e
      exact own_ne h2 hL (by decide) hb
  · have := h.lo
    rcases hS _ hb with e | e <;> omega
  · rcases hS _ hb with e | e
    · exact ⟨_, _, e ▸ h.pool, .inr (.inr (.inl rfl))⟩
    · exact ⟨_, _, e ▸ hL, .inr (.inr (.inr rfl))⟩
theorem app_tab {w0 w w2 : World} {tb r q p n : Nat} {m g : Nat → Int} {t k : Nat} {fs : List Nat} (h : Tab w0 w tb r q p n m g t fs) {a a2 : Option Addr} {c c2 : Nat} (h1 : w.heap[tb]? = some (.cells (tbC r p (.slice a fs.length c)).toArray 85 (0, 0))) (h2 : OwnR w w0.heap.size 3 1 (.slice a fs.length c) (fs.map kC))
    (hp2 : App w0.heap.size (.slice a fs.length c) (w.alloc (.cells (kC k).toArray 3)) w2) (ho2 : OwnR w2 w0.heap.size 3 1 (.slice a2 (fs ++ [k]).length c2) ((fs ++ [k]).map kC)) :
    Tab w0 (World.upd w2 tb (tbC r p (.slice a2 (fs ++ [k]).length c2))) tb r q p n m g t (fs ++ [k]) ∧ KeptO w (World.upd w2 tb (tbC r p (.slice a2 (fs ++ [k]).length c2))) ∧ w2.heap[tb]? = some (.cells (tbC r p (.slice a fs.length c)).toArray 85 (0, 0)) := by
  obtain ⟨L, hL, hC⟩ := h.mem.body
  have hxa : Ext [] w (w.alloc (.cells (kC k).toArray 3)) := Ext.alloc Ext.refl _ _
  have hx : Ext (blockOf (Value.slice a fs.length c)).toList w w2 := (hxa.mono (by simp)).step hp2.step
  have hnm : ∀ {b : Nat} {l : Array Value} {E : TypeId}, w.heap[b]? = some (.cells l E (0, 0)) → E ≠ 3 → b ∉ (blockOf (Value.slice a fs.length c)).toList := fun hb hE hm => own_ne h2 hb hE (by simpa using hm)
  have hb2 := hx.at h1 (hnm h1 (by decide))
  have hxu : Ext [tb] w2 (World.upd w2 tb (tbC r p (.slice a2 (fs ++ [k]).length c2))) := Ext.updI (by simp) Ext.refl
  have hx3 : Ext (tb :: (blockOf (Value.slice a fs.length c)).toList) w (World.upd w2 tb (tbC r p (.slice a2 (fs ++ [k]).length c2))) := (hx.mono (fun j hj => List.mem_cons_of_mem _ hj)).step (hxu.mono (by simp))
  have hnt : ∀ {b : Nat} {l : Array Value} {E : TypeId}, w.heap[b]? = some (.cells l E (0, 0)) → E ≠ 3 → E ≠ 85 → b ∉ tb :: (blockOf (Value.slice a fs.length c)).toList := fun hb hE hE2 hm => by
    rcases List.mem_cons.1 hm with e | e
    · exact at_ne hb h1 hE2 e
    · exact hnm hb hE e
  refine ⟨⟨⟨hx3.at h.mem.head (hnt h.mem.head (by decide) (by decide)), ⟨L, hx3.at hL (hnt hL (by decide) (by decide)), hC⟩, h.mem.byte, h.mem.word⟩, h.num, h.bits, hx3.at h.pool (hnt h.pool (by decide) (by decide)), ⟨a2, c2, upd_at hb2, ho2.ext hxu (fun b hb hm => ?_)⟩, h.lo, ?_⟩, KeptO.of hx3 fun b hb => ?_, hb2⟩
  · rw [List.mem_singleton.1 hm] at hb
    exact own_ne ho2 hb2 (by decide) hb
  · exact extUp (hp2.ext w0 [] (Nat.le_refl _) (h.ext.trans hxa (by simp))) hxu (fun b hb => by rw [List.mem_singleton.1 hb]; exact h.lo.2.2.2)
  · rcases List.mem_cons.1 hb with e | e
    · exact ⟨_, _, e ▸ h1, .inr (.inl rfl)⟩
    · obtain ⟨l, hl⟩ := own_int h2 (b := b) (by simpa using e)
      exact ⟨_, _, hl, .inl rfl⟩
/-- the tables' own frames don't lie there. -/
def OffT (w : World) (tb k : Nat) : Prop := ∀ (l : Array Value) (v : Value), w.heap[tb]? = some (Obj.cells l 85 (0, 0)) → l[2]? = some v → blockOf v ≠ some k
/-- numbers elsewhere stay. -/
def KeptI (tb : Nat) (w w' : World) : Prop := ∀ (k : Nat) (l : Array Value), w.heap[k]? = some (Obj.cells l 3 (0, 0)) → OffT w tb k → w'.heap[k]? = some (.cells l 3 (0, 0)) ∧ OffT w' tb k
theorem KeptI.refl (tb : Nat) (w : World) : KeptI tb w w := fun _ _ h1 h2 => ⟨h1, h2⟩
theorem KeptI.trans {tb : Nat} {a b c : World} (h : KeptI tb a b) (h' : KeptI tb b c) : KeptI tb a c := fun k l h1 h2 => h' k l (h k l h1 h2).1 (h k l h1 h2).2
theorem KeptI.of {tb : Nat} {w w' : World} {S : List Nat} (hx : Ext S w w') {l0 : Array Value} (h1 : w.heap[tb]? = some (.cells l0 85 (0, 0))) (htb : tb ∉ S) (hS : ∀ b, b ∈ S → ∃ (l : Array Value) (E : TypeId), w.heap[b]? = some (Obj.cells l E (0, 0)) ∧ E ≠ 3) : KeptI tb w w' := fun k l hk ho => by
  refine ⟨hx.at hk fun hm => ?_, fun l' v h2 h3 => ?_⟩
  · obtain ⟨l', E', h6, h7⟩ := hS k hm
    exact at_ne hk h6 (fun e => h7 e.symm) rfl
  · rw [hx.at h1 htb] at h2
    simp only [Option.some.injEq, Obj.cells.injEq, and_true] at h2
    exact ho l0 v h1 (by rw [h2]; exact h3)
theorem Tab.ofI {w0 w w' : World} {tb r q p n : Nat} {m g : Nat → Int} {t : Nat} {fs S : List Nat} (h : Tab w0 w tb r q p n m g t fs) (hx : Ext S w w') (hS : ∀ b, b ∈ S → b = p ∨ b = q) : KeptI tb w w' := by
  obtain ⟨a, c, h1, h2⟩ := h.box
  obtain ⟨L, hL, -⟩ := h.mem.body
  refine KeptI.of hx h1 (fun hm => ?_) fun b hb => ?_
  · rcases hS _ hm with e | e
    · exact at_ne h1 h.pool (by decide) e
    · exact at_ne h1 hL (by decide) e
  · rcases hS _ hb with e | e
    · exact ⟨_, _, e ▸ h.pool, by decide⟩
    · exact ⟨_, _, e ▸ hL, by decide⟩
theorem app_tabI {w0 w w2 : World} {tb r q p n : Nat} {m g : Nat → Int} {t k : Nat} {fs : List Nat} (h : Tab w0 w tb r q p n m g t fs) {a a2 : Option Addr} {c c2 : Nat} (h1 : w.heap[tb]? = some (.cells (tbC r p (.slice a fs.length c)).toArray 85 (0, 0))) (h2 : OwnR w w0.heap.size 3 1 (.slice a fs.length c) (fs.map kC))
    (hp2 : App w0.heap.size (.slice a fs.length c) (w.alloc (.cells (kC k).toArray 3)) w2) (hn2 : ∀ b, blockOf (.slice a2 (fs ++ [k]).length c2) = some b → blockOf (.slice a fs.length c) = some b ∨ w.heap.size ≤ b) :
    KeptI tb w (World.upd w2 tb (tbC r p (.slice a2 (fs ++ [k]).length c2))) := by
  have hxa : Ext [] w (w.alloc (.cells (kC k).toArray 3)) := Ext.alloc Ext.refl _ _
  have hx : Ext (blockOf (Value.slice a fs.length c)).toList w w2 := (hxa.mono (by simp)).step hp2.step
  have hb2 := hx.at h1 (fun hm => own_ne h2 h1 (by decide) (by simpa using hm))
  have hxu : Ext [tb] w2 (World.upd w2 tb (tbC r p (.slice a2 (fs ++ [k]).length c2))) := Ext.updI (by simp) Ext.refl
  have hx3 : Ext (tb :: (blockOf (Value.slice a fs.length c)).toList) w (World.upd w2 tb (tbC r p (.slice a2 (fs ++ [k]).length c2))) := (hx.mono (fun j hj => List.mem_cons_of_mem _ hj)).step (hxu.mono (by simp))
  intro b l hb ho
  have hob := ho _ (.slice a fs.length c) h1 rfl
  refine ⟨hx3.at hb fun hm => ?_, fun l' v h3 h4 h5 => ?_⟩
  · rcases List.mem_cons.1 hm with e | e
    · exact at_ne hb h1 (by decide) e
    · exact hob (by simpa using e)
  · rw [upd_at hb2] at h3
    simp only [Option.some.injEq, Obj.cells.injEq, and_true] at h3
    rw [← h3] at h4
    have h6 : v = .slice a2 (fs ++ [k]).length c2 := (Option.some.inj h4).symm
    rw [h6] at h5
    rcases hn2 b h5 with h7 | h7
    · exact hob h7
    · have := lt_of_at hb
      omega
theorem low_page {m : Nat → Int} {va va' f : Nat} (hva : va < 549755813888) (hva' : va' < 549755813888) (h : va' / 4096 = va / 4096) : low m va' 2 f = low m va 2 f ∧ idx va' 0 = idx va 0 := by
  rw [page_eq hva' hva] at h
  refine ⟨?_, h 0 (by omega)⟩
  rw [low_s m _ 1 f, low_s m _ 1 f, h 2 (by omega)]
  split
  · rw [low_s m _ 0, low_s m _ 0, h 1 (by omega)]
    rfl
  · rfl
theorem Clear_tabO {w0 w : World} {tb r q p n : Nat} {m g : Nat → Int} {t : Nat} {fs : List Nat} {lv : Nat → Nat} {par : Nat → Nat × Nat} (h : Tab w0 w tb r q p n m g t fs) (hT : Tree m n fs lv par) (hfs : 0 < fs.length ∧ fs.length ≤ 64) {va : Nat} (hva : va < 274877906944) {K : Value → World → Prop}
    (hK : ∀ m' g' w', Tab w0 w' tb r q p n m' g' t fs → Tree m' n fs lv par → (∀ va', va' < 549755813888 → lookW m' (fs.headD 0) va' = if va' / 4096 = va / 4096 then 0 else lookW m (fs.headD 0) va') → (∀ va', low m' va' 2 (fs.headD 0) = low m va' 2 (fs.headD 0)) → KeptO w w' → KeptI tb w w' → K (.int .i64 0) w') :
    callsK Try.prog 12 #[.pointer (some ⟨tb, 0, none⟩), .int .u64 (va : Nat)] w K := by
  obtain ⟨f0, l0, hfs0, hf0⟩ := hT.top
  have hF : f0 ∈ fs := by rw [hfs0]; simp
  have hat := low_at hT (va := va) (f := f0) hF hf0
  have hh : fs.headD 0 = f0 := by rw [hfs0]; rfl
  have hmay : decide (va < 274877906944) = true := decide_eq_true hva
  apply F12_ok
  unfold F12
  simp (disch := first | assumption | omega | (simp only [szR, tgC_len, tgC_all, entC_len, entC_all, plC_len, plC_all, tbC_len, tbC_all] <;> omega) | rfl | decide) only [gen0, gen1, gen2, rulesM, rulesT, litR, bolR, Nat.reduceAdd, Nat.reduceLeDiff, numR, memR, valR, heapR, updR, intR, decR, extR, slR, segR, thenR, pnR, Int.reduceToNat, Int.reduceAdd, Int.reduceSub, Int.reduceLT, Int.reduceLE, Nat.reduceSub, Nat.reduceMul, Nat.reduceEqDiff]
  refine tnone_spec h hfs ?_
  simp (disch := first | assumption | omega | (simp only [szR, tgC_len, tgC_all, entC_len, entC_all, plC_len, plC_all, tbC_len, tbC_all] <;> omega) | rfl | decide) only [gen0, gen1, gen2, rulesM, rulesT, litR, bolR, Nat.reduceAdd, Nat.reduceLeDiff, numR, memR, valR, heapR, updR, intR, decR, extR, slR, segR, thenR, pnR, Int.reduceToNat, Int.reduceAdd, Int.reduceSub, Int.reduceLT, Int.reduceLE, Nat.reduceSub, Nat.reduceMul, Nat.reduceEqDiff]
  refine May_spec ?_
  rw [hmay]
  simp (disch := first | assumption | omega | (simp only [szR, tgC_len, tgC_all, entC_len, entC_all, plC_len, plC_all, tbC_len, tbC_all] <;> omega) | rfl | decide) only [gen0, gen1, gen2, rulesM, rulesT, litR, bolR, Nat.reduceAdd, Nat.reduceLeDiff, numR, memR, valR, heapR, updR, intR, decR, extR, slR, segR, thenR, pnR, Int.reduceToNat, Int.reduceAdd, Int.reduceSub, Int.reduceLT, Int.reduceLE, Nat.reduceSub, Nat.reduceMul, Nat.reduceEqDiff]
  refine lowest_spec h hT (by omega) fun w1 hx1 => ?_
  rw [hh] at hK ⊢
  have h1 := h.step hx1
  obtain ⟨a, c, hb, ho⟩ := h1.box
  cases hok : (low m va 2 f0).2.2
  · simp (disch := first | assumption | omega | (simp only [szR, tgC_len, tgC_all, entC_len, entC_all, plC_len, plC_all, tbC_len, tbC_all] <;> omega) | rfl | decide) only [gen0, gen1, gen2, rulesM, rulesT, litR, bolR, Nat.reduceAdd, Nat.reduceLeDiff, numR, memR, valR, heapR, updR, intR, decR, extR, slR, segR, thenR, pnR, Int.reduceToNat, Int.reduceAdd, Int.reduceSub, Int.reduceLT, Int.reduceLE, Nat.reduceSub, Nat.reduceMul, Nat.reduceEqDiff, hok, Bool.not_false]
    refine hK m g w1 h1 hT (fun va' hva' => ?_) (fun _ => rfl) (KeptO.of hx1 (by simp)) (h.ofI hx1 (by simp))
    split
    · rename_i he
      unfold lookW
      rw [(low_page (by omega) hva' he).1, hok]
      rfl
    · rfl
  · have hl0 : (low m va 2 f0).2.1 = 0 := by
      have := hat.2.2.2.1
      rw [hok] at this
      exact of_decide_eq_true this.symm
    have hlow : low m va 2 f0 = ((low m va 2 f0).1, 0, true) := by
      conv => lhs; rw [← Prod.eta (low m va 2 f0), ← Prod.eta (low m va 2 f0).2]
      rw [hok, hl0]
    obtain ⟨f, hf⟩ : ∃ f, f = (low m va 2 f0).1 := ⟨_, rfl⟩
    rw [← hf] at hlow hat
    rw [hlow]
    have hfn := hT.lt f hat.1
    have hn := h.num
    have hi := idx_lt va 0
    simp (disch := first | assumption | omega | (simp only [szR, tgC_len, tgC_all, entC_len, entC_all, plC_len, plC_all, tbC_len, tbC_all] <;> omega) | rfl | decide) only [gen0, gen1, gen2, rulesM, rulesT, litR, bolR, Nat.reduceAdd, Nat.reduceLeDiff, numR, memR, valR, heapR, updR, intR, decR, extR, slR, segR, thenR, pnR, Int.reduceToNat, Int.reduceAdd, Int.reduceSub, Int.reduceLT, Int.reduceLE, Nat.reduceSub, Nat.reduceMul, Nat.reduceEqDiff, hb, tbC_0, Bool.not_true]
    refine Store_spec (a := f * 4096 + idx va 0 * 8) (s := 8) (v := 0) h1.mem (by omega) (by omega) (by unfold Size; omega) (by omega) (by omega) fun g' w2 hM2 hg2 hx2 => ?_
    obtain ⟨h2, hk2⟩ := h1.of hx2 (fun b hb => .inr (List.mem_singleton.1 hb)) hM2 (hx2.at h1.pool (fun hm => at_ne h1.mem.body.choose_spec.1 h1.pool (by decide) (List.mem_singleton.1 hm).symm)) h1.bits
    have hE : ∀ f' i', i' < 512 → ew (stored m (f * 4096 + idx va 0 * 8) 8 ((0 : Nat) : Int)) f' i' = if f' = f ∧ i' = idx va 0 then 0 else ew m f' i' := fun f' i' hi' => ew_store (by omega) hi hi'
    have hE2 : ∀ f' i', i' < 512 → f' ≠ f → ew (stored m (f * 4096 + idx va 0 * 8) 8 ((0 : Nat) : Int)) f' i' = ew m f' i' := fun f' i' hi' hne => by rw [hE _ _ hi', if_neg (fun h => hne h.1)]
    have hlv : lv f = 0 := by rw [hat.2.1, hl0]
    refine hK _ g' w2 h2 (hT.put hlv hE2) (fun va' hva' => ?_) (fun va' => low_put hT hlv hE2 va' hF hf0) ((KeptO.of hx1 (by simp)).trans hk2) ((h.ofI hx1 (by simp)).trans (h1.ofI hx2 (fun b hb => .inr (List.mem_singleton.1 hb))))
    have := look_put hT hva (by rw [hh]; exact hlow) hE hva'
    rw [hh] at this
    exact this
theorem Clear_tab {w0 w : World} {tb r q p n : Nat} {m g : Nat → Int} {t : Nat} {fs : List Nat} {lv : Nat → Nat} {par : Nat → Nat × Nat} (h : Tab w0 w tb r q p n m g t fs) (hT : Tree m n fs lv par) (hfs : 0 < fs.length ∧ fs.length ≤ 64) {va : Nat} (hva : va < 274877906944) {K : Value → World → Prop}
    (hK : ∀ m' g' w', Tab w0 w' tb r q p n m' g' t fs → Tree m' n fs lv par → (∀ va', va' < 549755813888 → lookW m' (fs.headD 0) va' = if va' / 4096 = va / 4096 then 0 else lookW m (fs.headD 0) va') → (∀ va', low m' va' 2 (fs.headD 0) = low m va' 2 (fs.headD 0)) → KeptO w w' → K (.int .i64 0) w') :
    callsK Try.prog 12 #[.pointer (some ⟨tb, 0, none⟩), .int .u64 (va : Nat)] w K :=
  Clear_tabO h hT hfs hva fun m' g' w' h1 h2 h3 h4 h5 _ => hK m' g' w' h1 h2 h3 h4 h5
end Go.Proofs.Ytfpcflmgipklcaa
