/- Tables: where an entry lies, and what is there; conditions: those of each theorem. -/
import Derived.Test.YtfpcflmgipklcaaPPool
import Derived.Test.YtfpcflmgipklcaaSSort
import Derived.Test.YtfpcflmgipklcaaRWipe
import Derived.Test.YtfpcflmgipklcaaPte3
namespace Go.Proofs.Ytfpcflmgipklcaa
open Go.Fx
set_option maxRecDepth 100000
set_option linter.unusedSimpArgs false
set_option linter.unusedVariables false
theorem leN_storedX (m : Nat → Int) (a s : Nat) (v : Int) : ∀ k, k ≤ s → leN (stored m a s v) a k = v.toNat % 2 ^ (8 * k)
  | 0, _ => by simp [leN]; omega
  | k + 1, h => by
    have ih := leN_storedX m a s v k (by omega)
    show leN (stored m a s v) a k + (stored m a s v (a + k)).toNat * 2 ^ (8 * k) = _
    rw [ih]
    have e : stored m a s v (a + k) = ((v.toNat / 2 ^ (8 * k) % 256 : Nat) : Int) := by
      unfold stored
      rw [if_pos (by omega), Nat.add_sub_cancel_left]
    rw [e, Int.toNat_natCast, show 8 * (k + 1) = 8 * k + 8 by omega, Nat.pow_add, Nat.mod_mul, Nat.mul_comm (2 ^ (8 * k))]
theorem leN_congrX {m m' : Nat → Int} {a : Nat} : ∀ {k : Nat}, (∀ j, j < k → m (a + j) = m' (a + j)) → leN m a k = leN m' a k
  | 0, _ => rfl
  | k + 1, h => by
    unfold leN
    rw [leN_congrX fun j hj => h j (by omega), h k (by omega)]
theorem leN_storedO {m : Nat → Int} {a s b k : Nat} {v : Int} (h : b + k ≤ a ∨ a + s ≤ b) : leN (stored m a s v) b k = leN m b k := leN_congrX fun j hj => by
  unfold stored
  rw [if_neg (by omega)]
theorem leN_zero {m : Nat → Int} {a : Nat} : ∀ {k : Nat}, (∀ j, j < k → m (a + j) = 0) → leN m a k = 0
  | 0, _ => rfl
  | k + 1, h => by
    unfold leN
    rw [leN_zero fun j hj => h j (by omega), h k (by omega)]
    simp
/-- the word of a frame's entry. -/
def ew (m : Nat → Int) (f i : Nat) : Nat := leN m (f * 4096 + i * 8) 8
theorem ew_lt {m : Nat → Int} (h : Byte m) (f i : Nat) : ew m f i < 18446744073709551616 := leN_lt h _ 8
theorem ew_wipe {m : Nat → Int} {k f i : Nat} (hi : i < 512) : ew (wipeM m k) f i = if f = k then 0 else ew m f i := by
  unfold ew
  split
  · rename_i h
    subst h
    refine leN_zero fun j hj => ?_
    unfold wipeM
    rw [if_pos (by omega)]
  · refine leN_congrX fun j hj => ?_
    unfold wipeM
    rw [if_neg (by omega)]
theorem ew_store {m : Nat → Int} {x f i f' i' : Nat} (hx : x < 18446744073709551616) (hi : i < 512) (hi' : i' < 512) : ew (stored m (f * 4096 + i * 8) 8 (x : Int)) f' i' = if f' = f ∧ i' = i then x else ew m f' i' := by
  unfold ew
  split
  · rename_i h
    rw [h.1, h.2, leN_storedX _ _ _ _ 8 (Nat.le_refl _), Int.toNat_natCast]
    exact Nat.mod_eq_of_lt hx
  · refine leN_storedO ?_
    omega
theorem ent_drop (f f' : Nat → Bool) (n n' : Nat) : entC f n ++ List.drop (entC f n).length (entC f' n') = entC f n := by simp [entC]
theorem ent_drop0 (f : Nat → Bool) (n : Nat) : entC f n ++ List.drop (entC f n).length [.bool false, .bool false, .bool false, .bool false, .bool false, .bool false, .bool false, .bool false, .bool false, .bool false, .bool false, .bool false, .int .u64 0] = entC f n := ent_drop f (fun _ => false) n 0
/-- the cells of tables: memory, pool, frames. -/
def tbC (r p : Nat) (v : Value) : List Value := [.pointer (some ⟨r, 0, none⟩), .pointer (some ⟨p, 0, none⟩), v]
theorem tbC_len (r p : Nat) (v : Value) : (tbC r p v).length = 3 := by simp [tbC]
theorem tbC_all (r p : Nat) (a : Option Addr) (n c : Nat) : (tbC r p (.slice a n c)).all (fun v => v.oneCell') = true := by simp [tbC]; exact ⟨rfl, rfl, rfl⟩
theorem tbC_0 (r p : Nat) (v : Value) : (tbC r p v)[0]? = some (.pointer (some ⟨r, 0, none⟩)) := rfl
theorem tbC_1 (r p : Nat) (v : Value) : (tbC r p v)[1]? = some (.pointer (some ⟨p, 0, none⟩)) := rfl
theorem tbC_2 (r p : Nat) (v : Value) : (tbC r p v)[2]? = some v := rfl
theorem tbC_set (r p : Nat) (v v' : Value) : (tbC r p v).set 2 v' = tbC r p v' := rfl
/-- tables tb of the memory r (frames' block q), the pool p, and frames fs; all of them newer than w0. -/
structure Tab (w0 w : World) (tb r q p n : Nat) (m g : Nat → Int) (t : Nat) (fs : List Nat) : Prop where
  mem : Mem w r q n m g
  num : 1 ≤ n ∧ n ≤ 62
  bits : t < 18446744073709551616
  pool : w.heap[p]? = some (.cells (plC n t).toArray 82 (0, 0))
  box : ∃ a c, w.heap[tb]? = some (.cells (tbC r p (.slice a fs.length c)).toArray 85 (0, 0)) ∧ OwnR w w0.heap.size 3 1 (.slice a fs.length c) (fs.map kC)
  lo : w0.heap.size ≤ r ∧ w0.heap.size ≤ q ∧ w0.heap.size ≤ p ∧ w0.heap.size ≤ tb
  ext : Ext [] w0 w
/-- cells of other types stay. -/
def KeptO (w w' : World) : Prop := (∀ (k : Nat) (l : Array Value) (E : TypeId), w.heap[k]? = some (Obj.cells l E (0, 0)) → E ≠ 3 → E ≠ 85 → E ≠ 82 → E ≠ 121 → w'.heap[k]? = some (.cells l E (0, 0))) ∧ ∀ (k : Nat) (es : Array MapEntry) (c : Nat), w.heap[k]? = some (.map es c) → w'.heap[k]? = some (.map es c)
theorem KeptO.refl (w : World) : KeptO w w := ⟨fun _ _ _ h _ _ _ _ => h, fun _ _ _ h => h⟩
theorem KeptO.trans {a b c : World} (h : KeptO a b) (h' : KeptO b c) : KeptO a c := ⟨fun k l E h1 h2 h3 h4 h5 => h'.1 k l E (h.1 k l E h1 h2 h3 h4 h5) h2 h3 h4 h5, fun k es c h1 => h'.2 k es c (h.2 k es c h1)⟩
theorem KeptO.of {w w' : World} {S : List Nat} (hx : Ext S w w') (hS : ∀ b, b ∈ S → ∃ (l : Array Value) (E : TypeId), w.heap[b]? = some (Obj.cells l E (0, 0)) ∧ (E = 3 ∨ E = 85 ∨ E = 82 ∨ E = 121)) : KeptO w w' := ⟨fun k l E h1 h2 h3 h4 h5 => hx.at h1 fun hk => by
  obtain ⟨l', E', h6, h7⟩ := hS k hk
  rw [h1] at h6
  simp only [Option.some.injEq, Obj.cells.injEq] at h6
  rw [← h6.2.1] at h7
  rcases h7 with h | h | h | h
  · exact h2 h
  · exact h3 h
  · exact h4 h
  · exact h5 h, fun k es c h1 => hx.at h1 fun hk => by
  obtain ⟨l', E', h6, h7⟩ := hS k hk
  rw [h1] at h6
  cases h6⟩
theorem Tab.step {w0 w w' : World} {tb r q p n : Nat} {m g : Nat → Int} {t : Nat} {fs : List Nat} (h : Tab w0 w tb r q p n m g t fs) (hx : Ext [] w w') : Tab w0 w' tb r q p n m g t fs := by
  obtain ⟨a, c, h1, h2⟩ := h.box
  exact ⟨h.mem.ext hx (by simp) (by simp), h.num, h.bits, hx.at h.pool (by simp), ⟨a, c, hx.at h1 (by simp), h2.ext hx (by simp)⟩, h.lo, h.ext.trans hx (by simp)⟩
theorem tnone_spec {w0 w : World} {tb r q p n : Nat} {m g : Nat → Int} {t : Nat} {fs : List Nat} (h : Tab w0 w tb r q p n m g t fs) (hfs : 0 < fs.length ∧ fs.length ≤ 64) {K : Value → World → Prop} (hK : K (.bool false) w) : callsK Try.prog 33 #[.pointer (some ⟨tb, 0, none⟩)] w K := by
  obtain ⟨a, c, h1, h2⟩ := h.box
  apply F33_ok
  unfold F33
  simp (disch := first | assumption | omega | (simp only [szR, tgC_len, tgC_all, entC_len, entC_all, plC_len, plC_all, tbC_len, tbC_all] <;> omega) | rfl | decide) only [gen0, gen1, gen2, rulesM, rulesT, litR, bolR, Nat.reduceAdd, Nat.reduceLeDiff, numR, memR, valR, heapR, updR, intR, decR, extR, slR, segR, thenR, pnR, Int.reduceToNat, Int.reduceAdd, Int.reduceSub, Int.reduceLT, Int.reduceLE, Nat.reduceSub, Nat.reduceMul, Nat.reduceEqDiff, joinBR, h1, tbC_2, Option.isNone_some]
  exact hK
theorem tplace_spec {w : World} {p i : Nat} (hp : p < 64) (hi : i < 512) {K : Value → World → Prop} (hK : K (.int .u64 (p * 4096 + i * 8 : Nat)) w) : callsK Try.prog 60 #[.int .u64 p, .int .i64 i] w K := by
  have e : (p : Int) * 4096 + i * 8 = ((p * 4096 + i * 8 : Nat) : Int) := by omega
  apply F60_ok
  unfold F60
  simp (disch := first | assumption | omega | (simp only [szR, tgC_len, tgC_all, entC_len, entC_all, plC_len, plC_all, tbC_len, tbC_all] <;> omega) | rfl | decide) only [gen0, gen1, gen2, rulesM, rulesT, litR, bolR, Nat.reduceAdd, Nat.reduceLeDiff, numR, memR, valR, heapR, updR, intR, decR, extR, slR, segR, thenR, pnR, Int.reduceToNat, Int.reduceAdd, Int.reduceSub, Int.reduceLT, Int.reduceLE, Nat.reduceSub, Nat.reduceMul, Nat.reduceEqDiff, e]
  exact hK
theorem at_spec {w0 w : World} {tb r q p n : Nat} {m g : Nat → Int} {t : Nat} {fs : List Nat} (h : Tab w0 w tb r q p n m g t fs) {f i : Nat} (hf : f < n) (hi : i < 512) {K : Value → World → Prop}
    (hK : ∀ w', Ext [] w w' → K (.agg (entC (fl (ew m f i)) (fr (ew m f i))).toArray) w') : callsK Try.prog 44 #[.pointer (some ⟨tb, 0, none⟩), .int .u64 (f * 4096 + i * 8 : Nat)] w K := by
  obtain ⟨a, c, h1, h2⟩ := h.box
  have hn := h.num
  have hlt := lt_of_at h1
  apply F44_ok
  unfold F44
  simp (disch := first | assumption | omega | (simp only [szR, tgC_len, tgC_all, entC_len, entC_all, plC_len, plC_all, tbC_len, tbC_all] <;> omega) | rfl | decide) only [gen0, gen1, gen2, rulesM, rulesT, litR, bolR, Nat.reduceAdd, Nat.reduceLeDiff, numR, memR, valR, heapR, updR, intR, decR, extR, slR, segR, thenR, pnR, Int.reduceToNat, Int.reduceAdd, Int.reduceSub, Int.reduceLT, Int.reduceLE, Nat.reduceSub, Nat.reduceMul, Nat.reduceEqDiff, h1, tbC_0]
  refine Load_spec (a := f * 4096 + i * 8) (s := 8) (h.mem.ext (S := []) (by (repeat first | assumption | exact Ext.refl | apply Ext.alloc | apply Ext.drew | (refine Ext.updN ?_ ?_; (focus first | omega | (simp only [szR] <;> omega))) | (refine Ext.updI ?_ ?_; (focus (simp; done))))) (by simp) (by simp)) (by omega) (by omega) (by unfold Size; omega) (by omega) fun w1 hx1 => ?_
  have hs1 := hx1.size
  simp only [szR] at hs1
  have hk1 := kept0 hx1
  have hw1 : Ext [] w w1 := Ext.trans (S := []) (by (repeat first | assumption | exact Ext.refl | apply Ext.alloc | apply Ext.drew | (refine Ext.updN ?_ ?_; (focus first | omega | (simp only [szR] <;> omega))) | (refine Ext.updI ?_ ?_; (focus (simp; done))))) hx1 (by simp)
  simp (disch := first | assumption | omega | (simp only [szR, tgC_len, tgC_all, entC_len, entC_all, plC_len, plC_all, tbC_len, tbC_all] <;> omega) | rfl | decide) only [gen0, gen1, gen2, rulesM, rulesT, litR, bolR, Nat.reduceAdd, Nat.reduceLeDiff, numR, memR, valR, heapR, updR, intR, decR, extR, slR, segR, thenR, pnR, Int.reduceToNat, Int.reduceAdd, Int.reduceSub, Int.reduceLT, Int.reduceLE, Nat.reduceSub, Nat.reduceMul, Nat.reduceEqDiff]
  refine Of_spec (ew_lt h.mem.byte f i) fun w2 hx2 => ?_
  have hs2 := hx2.size
  have hk2 := kept0 hx2
  have hw2 := hw1.trans hx2 (by simp)
  simp (disch := first | assumption | omega | (simp only [szR, tgC_len, tgC_all, entC_len, entC_all, plC_len, plC_all, tbC_len, tbC_all] <;> omega) | rfl | decide) only [gen0, gen1, gen2, rulesM, rulesT, litR, bolR, Nat.reduceAdd, Nat.reduceLeDiff, numR, memR, valR, heapR, updR, intR, decR, extR, slR, segR, thenR, pnR, Int.reduceToNat, Int.reduceAdd, Int.reduceSub, Int.reduceLT, Int.reduceLE, Nat.reduceSub, Nat.reduceMul, Nat.reduceEqDiff, hk1, hk2]
  exact hK _ (by (repeat first | assumption | exact Ext.refl | apply Ext.alloc | apply Ext.drew | (refine Ext.updN ?_ ?_; (focus first | omega | (simp only [szR] <;> omega))) | (refine Ext.updI ?_ ?_; (focus (simp; done)))))
/-- where the entry of an address lies, from a table of so high a level: the table's frame, the entry's level, whether there is a lowest table. -/
def low (m : Nat → Int) (va : Nat) : Nat → Nat → Nat × Nat × Bool
  | 0, f => (f, 0, true)
  | l + 1, f => if fl (ew m f (idx va (l + 1))) 0 then low m va l (fr (ew m f (idx va (l + 1)))) else (f, l + 1, false)
/-- tables are a tree: each entry that is there leads to a table one level below that no other one leads to. -/
structure Tree (m : Nat → Int) (n : Nat) (fs : List Nat) (lv : Nat → Nat) (par : Nat → Nat × Nat) : Prop where
  top : ∃ f l, fs = f :: l ∧ lv f = 2
  lt : ∀ f ∈ fs, f < n
  one : fs.Nodup
  ent : ∀ f ∈ fs, ∀ i, i < 512 → ∀ l, lv f = l + 1 → fl (ew m f i) 0 = true → fr (ew m f i) ∈ fs ∧ lv (fr (ew m f i)) = l ∧ par (fr (ew m f i)) = (f, i) ∧ ew m f i = wd (bare false) (fr (ew m f i))
theorem low_s (m : Nat → Int) (va l f : Nat) : low m va (l + 1) f = if fl (ew m f (idx va (l + 1))) 0 then low m va l (fr (ew m f (idx va (l + 1)))) else (f, l + 1, false) := rfl
theorem low_at {m : Nat → Int} {n : Nat} {fs : List Nat} {lv : Nat → Nat} {par : Nat → Nat × Nat} (h : Tree m n fs lv par) {va : Nat} : ∀ {l f : Nat}, f ∈ fs → lv f = l → (low m va l f).1 ∈ fs ∧ lv (low m va l f).1 = (low m va l f).2.1 ∧ (low m va l f).2.1 ≤ l ∧ ((low m va l f).2.2 = decide ((low m va l f).2.1 = 0)) ∧ ((low m va l f).2.2 = false → fl (ew m (low m va l f).1 (idx va (low m va l f).2.1)) 0 = false)
  | 0, f, hf, hl => ⟨hf, hl, Nat.le_refl _, rfl, fun h => by cases h⟩
  | l + 1, f, hf, hl => by
    unfold low
    by_cases hv : fl (ew m f (idx va (l + 1))) 0 = true
    · rw [if_pos hv]
      obtain ⟨h1, h2, -⟩ := h.ent f hf _ (idx_lt _ _) l hl hv
      have := low_at h (va := va) h1 h2
      exact ⟨this.1, this.2.1, by omega, this.2.2.2⟩
    · rw [if_neg hv]
      exact ⟨hf, hl, Nat.le_refl _, by simp, fun _ => by simpa using hv⟩
theorem lowest_spec {w0 w : World} {tb r q p n : Nat} {m g : Nat → Int} {t : Nat} {fs : List Nat} {lv : Nat → Nat} {par : Nat → Nat × Nat} (h : Tab w0 w tb r q p n m g t fs) (hT : Tree m n fs lv par) {va : Nat} (hva : va < 18446744073709551616) {K : Value → World → Prop}
    (hK : ∀ w', Ext [] w w' → K (.tuple #[.int .u64 ((low m va 2 (fs.headD 0)).1 * 4096 + idx va (low m va 2 (fs.headD 0)).2.1 * 8 : Nat), .int .i64 ((low m va 2 (fs.headD 0)).2.1 : Nat), .bool (low m va 2 (fs.headD 0)).2.2]) w') :
    callsK Try.prog 35 #[.pointer (some ⟨tb, 0, none⟩), .int .u64 (va : Nat)] w K := by
  obtain ⟨a, c, h1, h2⟩ := h.box
  obtain ⟨f0, l0, rfl, hf0⟩ := hT.top
  have hn := h.num
  obtain ⟨b, o, L, E, ff, hix, hb, hfit, hlt, hblk, hsub, hget⟩ := RowsAt.ixR (P := Try.prog) (t := 38) Try.underlying38 Try.sizeOf3 h2.rows (k := 0) (r := kC f0) (by simp)
  have hg0 := hget o 0 (by omega) (by omega)
  simp only [kC, List.getElem?_cons_zero] at hg0
  have hix' : ∀ w, (Instr.indexAt 38 (.slice a (f0 :: l0).length c) (.int .i64 0)).run Try.prog w = .ok (.pointer (some ⟨b, o, none⟩)) w := fun w => hix w .i64 0 rfl
  have hlf := hT.lt f0 (by simp)
  apply F35_ok
  unfold F35
  simp (disch := first | assumption | omega | (simp only [szR, tgC_len, tgC_all, entC_len, entC_all, plC_len, plC_all, tbC_len, tbC_all] <;> omega) | rfl | decide) only [gen0, gen1, gen2, rulesM, rulesT, litR, bolR, Nat.reduceAdd, Nat.reduceLeDiff, numR, memR, valR, heapR, updR, intR, decR, extR, slR, segR, thenR, pnR, Int.reduceToNat, Int.reduceAdd, Int.reduceSub, Int.reduceLT, Int.reduceLE, Nat.reduceSub, Nat.reduceMul, Nat.reduceEqDiff, h1, tbC_2, hix', hb, hg0]
  simp only [List.headD_cons] at hK
  refine loopT.intro (fun st w' => ∃ l f : Nat, st = [.int .i64 l, .int .u64 f] ∧ l ≤ 2 ∧ f ∈ f0 :: l0 ∧ lv f = l ∧ low m va l f = low m va 2 f0 ∧ Ext [] w w')
    (fun st _ => match st with
      | .int _ z :: _ => z.toNat
      | _ => 0) ⟨2, f0, rfl, by omega, by simp, hf0, rfl, Ext.refl⟩ ?_
  rintro st w' ⟨l, f, rfl, hl2, hf, hlf2, hlow, hx⟩ _
  have hfn := hT.lt f hf
  simp (disch := first | assumption | omega | (simp only [szR, tgC_len, tgC_all, entC_len, entC_all, plC_len, plC_all, tbC_len, tbC_all] <;> omega) | rfl | decide) only [gen0, gen1, gen2, rulesM, rulesT, litR, bolR, Nat.reduceAdd, Nat.reduceLeDiff, numR, memR, valR, heapR, updR, intR, decR, extR, slR, segR, thenR, pnR, Int.reduceToNat, Int.reduceAdd, Int.reduceSub, Int.reduceLT, Int.reduceLE, Nat.reduceSub, Nat.reduceMul, Nat.reduceEqDiff]
  refine Index_spec hva (by omega) fun w1 hx1 => ?_
  simp (disch := first | assumption | omega | (simp only [szR, tgC_len, tgC_all, entC_len, entC_all, plC_len, plC_all, tbC_len, tbC_all] <;> omega) | rfl | decide) only [gen0, gen1, gen2, rulesM, rulesT, litR, bolR, Nat.reduceAdd, Nat.reduceLeDiff, numR, memR, valR, heapR, updR, intR, decR, extR, slR, segR, thenR, pnR, Int.reduceToNat, Int.reduceAdd, Int.reduceSub, Int.reduceLT, Int.reduceLE, Nat.reduceSub, Nat.reduceMul, Nat.reduceEqDiff]
  refine tplace_spec (by omega) (idx_lt _ _) ?_
  rcases l with _ | l
  · rw [← hlow] at hK
    simp (disch := first | assumption | omega | (simp only [szR, tgC_len, tgC_all, entC_len, entC_all, plC_len, plC_all, tbC_len, tbC_all] <;> omega) | rfl | decide) only [gen0, gen1, gen2, rulesM, rulesT, litR, bolR, Nat.reduceAdd, Nat.reduceLeDiff, numR, memR, valR, heapR, updR, intR, decR, extR, slR, segR, thenR, pnR, Int.reduceToNat, Int.reduceAdd, Int.reduceSub, Int.reduceLT, Int.reduceLE, Nat.reduceSub, Nat.reduceMul, Nat.reduceEqDiff]
    exact hK _ (hx.trans hx1 (by simp))
  have hx2 := hx.trans hx1 (by simp)
  simp (disch := first | assumption | omega | (simp only [szR, tgC_len, tgC_all, entC_len, entC_all, plC_len, plC_all, tbC_len, tbC_all] <;> omega) | rfl | decide) only [gen0, gen1, gen2, rulesM, rulesT, litR, bolR, Nat.reduceAdd, Nat.reduceLeDiff, numR, memR, valR, heapR, updR, intR, decR, extR, slR, segR, thenR, pnR, Int.reduceToNat, Int.reduceAdd, Int.reduceSub, Int.reduceLT, Int.reduceLE, Nat.reduceSub, Nat.reduceMul, Nat.reduceEqDiff]
  refine at_spec (h.step hx2) hfn (idx_lt _ _) fun w2 hx3 => ?_
  have hx4 := hx2.trans hx3 (by simp)
  rw [low_s m va l f] at hlow
  by_cases hv : fl (ew m f (idx va (l + 1))) 0 = true
  case neg =>
    rw [if_neg hv] at hlow
    rw [← hlow] at hK
    have hv := Bool.eq_false_iff.2 hv
    simp (disch := first | assumption | omega | (simp only [szR, tgC_len, tgC_all, entC_len, entC_all, plC_len, plC_all, tbC_len, tbC_all] <;> omega) | rfl | decide) only [gen0, gen1, gen2, rulesM, rulesT, litR, bolR, Nat.reduceAdd, Nat.reduceLeDiff, numR, memR, valR, heapR, updR, intR, decR, extR, slR, segR, thenR, pnR, Int.reduceToNat, Int.reduceAdd, Int.reduceSub, Int.reduceLT, Int.reduceLE, Nat.reduceSub, Nat.reduceMul, Nat.reduceEqDiff, ent_drop0, entC_at, hv, Bool.not_false]
    exact hK _ (by (repeat first | assumption | exact Ext.refl | apply Ext.alloc | apply Ext.drew | (refine Ext.updN ?_ ?_; (focus first | omega | (simp only [szR] <;> omega))) | (refine Ext.updI ?_ ?_; (focus (simp; done)))))
  case pos =>
    rw [if_pos hv] at hlow
    obtain ⟨h5, h6, -⟩ := hT.ent f hf _ (idx_lt _ _) l hlf2 hv
    have e1 : ((l + 1 : Nat) : Int) - 1 = (l : Int) := by omega
    simp (disch := first | assumption | omega | (simp only [szR, tgC_len, tgC_all, entC_len, entC_all, plC_len, plC_all, tbC_len, tbC_all] <;> omega) | rfl | decide) only [gen0, gen1, gen2, rulesM, rulesT, litR, bolR, Nat.reduceAdd, Nat.reduceLeDiff, numR, memR, valR, heapR, updR, intR, decR, extR, slR, segR, thenR, pnR, Int.reduceToNat, Int.reduceAdd, Int.reduceSub, Int.reduceLT, Int.reduceLE, Nat.reduceSub, Nat.reduceMul, Nat.reduceEqDiff, ent_drop0, entC_at, hv, Bool.not_true, e1]
    exact ⟨⟨l, _, rfl, by omega, h5, h6, hlow, by (repeat first | assumption | exact Ext.refl | apply Ext.alloc | apply Ext.drew | (refine Ext.updN ?_ ?_; (focus first | omega | (simp only [szR] <;> omega))) | (refine Ext.updI ?_ ?_; (focus (simp; done))))⟩, by omega⟩
end Go.Proofs.Ytfpcflmgipklcaa
