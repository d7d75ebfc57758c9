/- The keys of a bitmap's map in a row; the granules of a set in a row; conditions: those of each theorem. -/
import Derived.Test.YtgnibcaflidjmaaSK2
import Derived.Test.YtgnibcaflidjmaaFV
import Derived.Test.YtgnibcaflidjmaaRV
namespace Go.Proofs.Ytgnibcaflidjmaa
open Go Go.RowKit Go.Shelf Go.Fx
set_option maxRecDepth 100000
set_option linter.unusedSimpArgs false
set_option linter.unusedVariables false
/-- a slice holds these numbers. -/
def UAt (w : World) (v : Value) (ys : List Nat) : Prop := (v = .slice none 0 0 ∧ ys = []) ∨ ∃ g c, v = .slice (some ⟨g, 0, none⟩) ys.length c ∧ SU w g ys.length ys
theorem UAt.ext {w w' : World} {v : Value} {ys : List Nat} {S : List Nat} (h : UAt w v ys) (hx : Ext S w w') (hs : ∀ g, blockOf v = some g → g ∉ S) : UAt w' v ys := by
  rcases h with h | ⟨g, c, rfl, h⟩
  · exact .inl h
  · exact .inr ⟨g, c, rfl, h.ext hx (hs g rfl)⟩
theorem Sorted_spec {w : World} {Bs m N : Nat} {B : Nat → Bool} (hBs : w.heap[Bs]? = some (.cells [Value.map (some m)].toArray 48 (0, 0))) (hB : Bm w (some m) B) (hN : ∀ ys, PagesOf B ys → ys.length ≤ N) (hN2 : N ≤ 1000) (hBd : ∀ k, anyB (pgB B k) = true → k < 67108864) {K : Value → World → Prop}
    (hK : ∀ v ys w', PagesOf B ys → Asc ys 0 ys.length → UAt w' v ys → (∀ g, blockOf v = some g → w.heap.size ≤ g) → Ext [] w w' → K v w') :
    callsK Try.prog 47 #[.func (.func 69) #[] #[.pointer (some ⟨Bs, 0, none⟩)]] w K := by
  apply F47_ok
  unfold F47
  have hcol : ∀ (K : Value → World → Prop), (∀ v ys w', PagesOf B ys → w'.ownsRow w.heap.size 28 1 v ys.length (ys.map uV) → Ext [] w w' → K v w') → callsK Try.prog 67 #[.func (.func 69) #[] #[.pointer (some ⟨Bs, 0, none⟩)]] w K := by
    intro K hK
    apply F67_ok
    unfold F67
    simp (disch := first | assumption | omega | (simp only [szR, tgC_len, tgC_all, tsC_len, tsC_all] <;> omega) | rfl | decide) only [gen0, gen1, gen2, rulesV, rulesM, litR, bolR, Nat.reduceAdd, Nat.reduceLeDiff, numR, memR, valR, heapR, updR, intR, decR, extR, slR, segR, thenR, pnR, Int.reduceToNat, Int.reduceAdd, Int.reduceSub, Int.reduceLT, Int.reduceLE, Nat.reduceSub, Nat.reduceMul, Nat.reduceEqDiff]
    exact appendSeq_spec hBs hB hN hN2 hK
  simp (disch := first | assumption | omega | (simp only [szR, tgC_len, tgC_all, tsC_len, tsC_all] <;> omega) | rfl | decide) only [gen0, gen1, gen2, rulesV, rulesM, litR, bolR, Nat.reduceAdd, Nat.reduceLeDiff, numR, memR, valR, heapR, updR, intR, decR, extR, slR, segR, thenR, pnR, Int.reduceToNat, Int.reduceAdd, Int.reduceSub, Int.reduceLT, Int.reduceLE, Nat.reduceSub, Nat.reduceMul, Nat.reduceEqDiff]
  refine hcol _ fun v ys w1 hys ho hx => ?_
  simp (disch := first | assumption | omega | (simp only [szR, tgC_len, tgC_all, tsC_len, tsC_all] <;> omega) | rfl | decide) only [gen0, gen1, gen2, rulesV, rulesM, litR, bolR, Nat.reduceAdd, Nat.reduceLeDiff, numR, memR, valR, heapR, updR, intR, decR, extR, slR, segR, thenR, pnR, Int.reduceToNat, Int.reduceAdd, Int.reduceSub, Int.reduceLT, Int.reduceLE, Nat.reduceSub, Nat.reduceMul, Nat.reduceEqDiff]
  rcases ho.2 with ⟨rfl, h0⟩ | ⟨g, cap, cur, rfl, hb, hg, hn, hc, hs, ht⟩
  · have e : ys = [] := List.length_eq_zero_iff.1 h0
    subst e
    refine Sort_nil ?_
    exact hK _ [] w1 hys (fun i _ h => by simp at h) (.inl ⟨rfl, rfl⟩) (fun g e => by cases e) hx
  · have hlen := hN ys hys
    have hcl : ys.length ≤ cur.toList.length := by simp; omega
    have hSU : SU w1 g ys.length ys := by
      refine ⟨⟨cur.toList, by simpa using hg, hcl, fun i hi => ?_⟩, rfl, fun x hx => ?_⟩
      · have h1 : (cur.toList.take (ys.length * 1))[i]? = (ys.map uV)[i]? := by rw [ht]
        rw [List.getElem?_take_of_lt (by omega), List.getElem?_map, List.getElem?_eq_getElem hi] at h1
        exact h1
      · have := hBd x ((hys.2 x).1 hx)
        omega
    refine Sort_spec hSU (by omega) fun zs w2 h2 hp hA hx2 => ?_
    have hl2 := hp.length_eq
    have hx3 : Ext [] w w2 := hx.trans hx2 (fun k hk => .inr (by rw [List.mem_singleton.1 hk]; exact hb))
    refine hK _ zs w2 ⟨hp.nodup_iff.2 hys.1, fun k => by rw [hp.mem_iff]; exact hys.2 k⟩ (by rw [hl2]; exact hA) (.inr ⟨g, cap, by rw [hl2], by rw [hl2]; exact h2⟩) (fun g' e => by cases e; exact hb) hx3
theorem Asc.le {ys : List Nat} {n i : Nat} (h : Asc ys 0 n) : ∀ k, i + k < n → V ys i ≤ V ys (i + k)
  | 0, _ => Nat.le_refl _
  | k + 1, hk => Nat.le_trans (Asc.le h k (by omega)) (h (i + k) (Nat.zero_le _) (by omega))
theorem Asc.pairwise {ys : List Nat} (h : Asc ys 0 ys.length) : ys.Pairwise (· ≤ ·) := by
  rw [List.pairwise_iff_getElem]
  intro i j hi hj hij
  rw [V_get hi, V_get hj]
  have := Asc.le h (i := i) (j - i) (by omega)
  rw [show i + (j - i) = j by omega] at this
  exact this
theorem pages_one {B : Nat → Bool} {ys zs : List Nat} (h1 : PagesOf B ys) (h2 : PagesOf B zs) (a1 : Asc ys 0 ys.length) (a2 : Asc zs 0 zs.length) : ys = zs := by
  have hp : ys.Perm zs := (List.perm_ext_iff_of_nodup h1.1 h2.1).2 fun k => (h1.2 k).trans (h2.2 k).symm
  exact List.Perm.eq_of_pairwise (le := fun a b => a ≤ b) (fun a b _ _ h h' => Nat.le_antisymm h h') a1.pairwise a2.pairwise hp
theorem appI {base : Nat} {v x : Value} {rows rows2 : List (List Value)} {w : World} {K : Value → World → Prop} (hown : OwnR w base 3 1 v rows) (hx : RowsAt w x 1 rows2) (h1 : ∀ r ∈ rows2, r.all (fun v => v.oneCell') = true)
    (hl : rows.length + rows2.length ≤ 1000000) (hbase : base ≤ w.heap.size) (hK : ∀ v' w', OwnR w' base 3 1 v' (rows ++ rows2) → App base v w w' → K v' w') : resV K ((Builtin.append_ #[98, 98] 98 #[v, x]).run Try.prog w) :=
  kV_appR Try.underlying98 (by kernel_rfl) (by omega) (bytes := 8) hown hx h1 (by simp only [maxLen]; omega) (by omega) hbase hK
def kC (k : Nat) : List Value := [.int .i64 (k : Nat)]
theorem kC_all (l : List Nat) : ∀ r ∈ l.map kC, r.all (fun v => v.oneCell') = true := by
  intro r hr
  obtain ⟨l, -, rfl⟩ := List.mem_map.1 hr
  rfl
theorem take_spec {w : World} {f : Nat → Bool} {s b base k : Nat} {v : Value} {l : List Nat} (hs : w.heap[s]? = some (.cells (tsC f).toArray 88 (0, 0))) (hk : k < 256) (hb : w.heap[b]? = some (.cells [v].toArray 98 (0, 0))) (ho : OwnR w base 3 1 v (l.map kC)) (hbb : b < base) (hbase : base ≤ w.heap.size) (hl : l.length ≤ 1000) {K : Value → World → Prop}
    (hK : ∀ v' w', w'.heap[b]? = some (.cells [v'].toArray 98 (0, 0)) → OwnR w' base 3 1 v' ((if f k then l ++ [k] else l).map kC) → Ext (b :: (blockOf v).toList) w w' → K (.tuple #[]) w') :
    callsK Try.prog 70 #[.int .i64 (k : Nat), .pointer (some ⟨s, 0, none⟩), .pointer (some ⟨b, 0, none⟩)] w K := by
  apply F70_ok
  unfold F70
  have e4 : sub (tsC f) 0 4 = tsC f := tsC_sub f
  simp (disch := first | assumption | omega | (simp only [szR, tgC_len, tgC_all, tsC_len, tsC_all] <;> omega) | rfl | decide) only [gen0, gen1, gen2, rulesV, rulesM, litR, bolR, Nat.reduceAdd, Nat.reduceLeDiff, numR, memR, valR, heapR, updR, intR, decR, extR, slR, segR, thenR, pnR, Int.reduceToNat, Int.reduceAdd, Int.reduceSub, Int.reduceLT, Int.reduceLE, Nat.reduceSub, Nat.reduceMul, Nat.reduceEqDiff, hs, e4]
  refine Get_spec (ofB_ok f) fun w1 hx1 => ?_
  rw [show ((k : Nat) : Int).toNat = k by omega, bit_ofB, decide_eq_true (show (0 : Int) ≤ (k : Nat) ∧ ((k : Nat) : Int) < 256 by omega), Bool.true_and]
  have hb1 := hx1.at hb (by simp)
  have ho1 := ho.ext hx1 (by simp)
  have hsz := hx1.size
  cases hf : f k with
  | false =>
    simp (disch := first | assumption | omega | (simp only [szR, tgC_len, tgC_all, tsC_len, tsC_all] <;> omega) | rfl | decide) only [gen0, gen1, gen2, rulesV, rulesM, litR, bolR, Nat.reduceAdd, Nat.reduceLeDiff, numR, memR, valR, heapR, updR, intR, decR, extR, slR, segR, thenR, pnR, Int.reduceToNat, Int.reduceAdd, Int.reduceSub, Int.reduceLT, Int.reduceLE, Nat.reduceSub, Nat.reduceMul, Nat.reduceEqDiff, joinBR]
    rw [hf] at hK
    exact hK v w1 hb1 ho1 (hx1.mono (by simp))
  | true =>
    rw [hf] at hK
    obtain ⟨a, c, rfl⟩ := ho1.rows.len
    simp (disch := first | assumption | omega | (simp only [szR, tgC_len, tgC_all, tsC_len, tsC_all] <;> omega) | rfl | decide) only [gen0, gen1, gen2, rulesV, rulesM, litR, bolR, Nat.reduceAdd, Nat.reduceLeDiff, numR, memR, valR, heapR, updR, intR, decR, extR, slR, segR, thenR, pnR, Int.reduceToNat, Int.reduceAdd, Int.reduceSub, Int.reduceLT, Int.reduceLE, Nat.reduceSub, Nat.reduceMul, Nat.reduceEqDiff, hb1]
    have hxa : Ext [] w1 (w1.alloc (.cells (kC k).toArray 3)) := Ext.alloc Ext.refl _ _
    refine appI (rows2 := [kC k]) (base := base) (ho1.ext hxa (by simp)) (RowsAt.one (l := kC k) (by first | with_reducible rfl | assumption | (simp (disch := first | assumption | omega | (simp only [szR, tgC_len, tgC_all, tsC_len, tsC_all] <;> omega) | rfl | decide) only [gen0, gen1, gen2, rulesV, rulesM, litR, bolR, Nat.reduceAdd, Nat.reduceLeDiff, numR, memR, valR, heapR, updR, intR, decR, extR, slR, segR, thenR, pnR, Int.reduceToNat, Int.reduceAdd, Int.reduceSub, Int.reduceLT, Int.reduceLE, Nat.reduceSub, Nat.reduceMul, Nat.reduceEqDiff] <;> rfl)) rfl) (kC_all [k]) (by simp; omega) (by simp only [szR]; omega) fun v2 w2 ho2 hp2 => ?_
    have hne : ∀ j, blockOf (Value.slice a (l.map kC).length c) = some j → base ≤ j := ho1.block
    have hb2 : w2.heap[b]? = some (.cells [Value.slice a (l.map kC).length c].toArray 98 (0, 0)) := hp2.step.at (hxa.at hb1 (by simp)) (fun hm => by have := hne b (by simpa using hm); omega)
    rw [show l.map kC ++ [kC k] = (l ++ [k]).map kC by simp] at ho2
    obtain ⟨a2, c2, rfl⟩ := ho2.rows.len
    have lb := lt_of_at hb2
    simp (disch := first | assumption | omega | (simp only [szR, tgC_len, tgC_all, tsC_len, tsC_all] <;> omega) | rfl | decide) only [gen0, gen1, gen2, rulesV, rulesM, litR, bolR, Nat.reduceAdd, Nat.reduceLeDiff, numR, memR, valR, heapR, updR, intR, decR, extR, slR, segR, thenR, pnR, Int.reduceToNat, Int.reduceAdd, Int.reduceSub, Int.reduceLT, Int.reduceLE, Nat.reduceSub, Nat.reduceMul, Nat.reduceEqDiff, hb2]
    have hxu : Ext [b] w2 (World.upd w2 b [.slice a2 ((l ++ [k]).map kC).length c2]) := by (repeat first | assumption | exact Ext.refl | apply Ext.alloc | apply Ext.drew | (refine Ext.updN ?_ ?_; (focus first | omega | (simp only [szR] <;> omega))) | (refine Ext.updI ?_ ?_; (focus (simp; done))))
    refine hK _ _ (upd_at hb2) (ho2.ext hxu (fun j hj hm => ?_)) ?_
    · have := ho2.block j hj
      simp at hm
      omega
    · have h0 : Ext (b :: (blockOf (Value.slice a (l.map kC).length c)).toList) w w1 := hx1.mono (by simp)
      have h1 : Ext (b :: (blockOf (Value.slice a (l.map kC).length c)).toList) w w2 := (h0.trans hxa (by simp)).step (hp2.step.mono (fun j hj => List.mem_cons_of_mem _ hj))
      exact h1.step (hxu.mono (by simp))
/-- the granules of a set, below k, rising. -/
def grs (f : Nat → Bool) : Nat → List Nat
  | 0 => []
  | k + 1 => if f k then grs f k ++ [k] else grs f k
theorem grs_len (f : Nat → Bool) : ∀ k, (grs f k).length ≤ k
  | 0 => Nat.le_refl _
  | k + 1 => by
    have := grs_len f k
    unfold grs
    split <;> simp <;> omega
theorem grs_mem (f : Nat → Bool) : ∀ k i, i ∈ grs f k ↔ i < k ∧ f i = true
  | 0, i => by simp [grs]
  | k + 1, i => by
    have := grs_mem f k i
    unfold grs
    split
    · rename_i h
      rw [List.mem_append, this, List.mem_singleton]
      constructor
      · rintro (⟨h1, h2⟩ | rfl)
        · exact ⟨by omega, h2⟩
        · exact ⟨by omega, h⟩
      · rintro ⟨h1, h2⟩
        by_cases e : i = k
        · exact .inr e
        · exact .inl ⟨by omega, h2⟩
    · rename_i h
      rw [this]
      constructor
      · rintro ⟨h1, h2⟩
        exact ⟨by omega, h2⟩
      · rintro ⟨h1, h2⟩
        refine ⟨?_, h2⟩
        apply Classical.byContradiction
        intro hc
        have : i = k := by omega
        subst this
        exact h h2
theorem All_spec {w : World} {f : Nat → Bool} {K : Value → World → Prop}
    (hK : ∀ v w', OwnR w' w.heap.size 3 1 v ((grs f 256).map kC) → Ext [] w w' → K v w') :
    callsK Try.prog 49 #[.agg (tsC f).toArray] w K := by
  apply F49_ok
  unfold F49
  have e4 : sub (tsC f) 0 4 = tsC f := tsC_sub f
  simp (disch := first | assumption | omega | (simp only [szR, tgC_len, tgC_all, tsC_len, tsC_all] <;> omega) | rfl | decide) only [gen0, gen1, gen2, rulesV, rulesM, litR, bolR, Nat.reduceAdd, Nat.reduceLeDiff, numR, memR, valR, heapR, updR, intR, decR, extR, slR, segR, thenR, pnR, Int.reduceToNat, Int.reduceAdd, Int.reduceSub, Int.reduceLT, Int.reduceLE, Nat.reduceSub, Nat.reduceMul, Nat.reduceEqDiff, e4, tsC_len]
  obtain ⟨W, hW⟩ : ∃ W, W = (w.alloc (.cells (tsC f).toArray 88)).alloc (.cells #[.slice none 0 0] 98) := ⟨_, rfl⟩
  rw [← hW]
  have hx1 : Ext [] w (w.alloc (.cells (tsC f).toArray 88)) := Ext.alloc Ext.refl _ _
  have hxW : Ext [] w W := by rw [hW]; exact hx1.allocI
  have hs : W.heap[w.heap.size]? = some (.cells (tsC f).toArray 88 (0, 0)) := by rw [hW]; exact (alloc_ne (by simp only [szR]; omega)).trans (alloc_at rfl)
  have hb : W.heap[w.heap.size + 1]? = some (.cells [Value.slice none 0 0].toArray 98 (0, 0)) := by rw [hW]; exact alloc_at (by simp only [szR])
  have hsz : W.heap.size = w.heap.size + 2 := by rw [hW]; simp only [szR]
  clear hW
  refine loopT.intro (fun st w' => ∃ (k : Nat) (v : Value), k ≤ 256 ∧ st = [.int .i64 (k : Nat)] ∧ w'.heap[w.heap.size]? = some (.cells (tsC f).toArray 88 (0, 0)) ∧ w'.heap[w.heap.size + 1]? = some (.cells [v].toArray 98 (0, 0)) ∧ OwnR w' (w.heap.size + 2) 3 1 v ((grs f k).map kC) ∧ Ext [] w w' ∧ w.heap.size + 2 ≤ w'.heap.size)
    (fun st _ => match st with
      | [.int _ y] => 256 - y.toNat
      | _ => 0) ⟨0, .slice none 0 0, by omega, rfl, hs, hb, OwnR.nil, hxW, by omega⟩ ?_
  rintro st w2 ⟨k, v, hk, rfl, hs2, hb2, ho2, hx2, hsz2⟩ _
  by_cases hk2 : k < 256
  · have d : decide (((k : Nat) : Int) < 256) = true := decide_eq_true (by omega)
    have ek : ((k : Nat) : Int) + 1 = ((k + 1 : Nat) : Int) := by omega
    have hlen := grs_len f k
    simp (disch := first | assumption | omega | (simp only [szR, tgC_len, tgC_all, tsC_len, tsC_all] <;> omega) | rfl | decide) only [gen0, gen1, gen2, rulesV, rulesM, litR, bolR, Nat.reduceAdd, Nat.reduceLeDiff, numR, memR, valR, heapR, updR, intR, decR, extR, slR, segR, thenR, pnR, Int.reduceToNat, Int.reduceAdd, Int.reduceSub, Int.reduceLT, Int.reduceLE, Nat.reduceSub, Nat.reduceMul, Nat.reduceEqDiff, joinBR, d]
    refine take_spec hs2 hk2 hb2 ho2 (by omega) hsz2 (by omega) fun v' w3 hb3 ho3 hx3 => ?_
    have hnb : ∀ j, blockOf v = some j → w.heap.size + 2 ≤ j := ho2.block
    have hns : w.heap.size ∉ (w.heap.size + 1) :: (blockOf v).toList := fun hm => by
      rcases List.mem_cons.1 hm with h | h
      · omega
      · have := hnb w.heap.size (by simpa using h)
        omega
    have hs3 := hx3.at hs2 hns
    have hx4 : Ext [] w w3 := hx2.trans hx3 (fun j hj => .inr (by
      rcases List.mem_cons.1 hj with h | h
      · omega
      · have := hnb j (by simpa using h)
        omega))
    simp (disch := first | assumption | omega | (simp only [szR, tgC_len, tgC_all, tsC_len, tsC_all] <;> omega) | rfl | decide) only [gen0, gen1, gen2, rulesV, rulesM, litR, bolR, Nat.reduceAdd, Nat.reduceLeDiff, numR, memR, valR, heapR, updR, intR, decR, extR, slR, segR, thenR, pnR, Int.reduceToNat, Int.reduceAdd, Int.reduceSub, Int.reduceLT, Int.reduceLE, Nat.reduceSub, Nat.reduceMul, Nat.reduceEqDiff, joinBR, ek]
    exact ⟨⟨k + 1, v', by omega, rfl, hs3, hb3, ho3, hx4, Nat.le_trans hsz2 hx3.size⟩, by omega⟩
  · have d : decide (((k : Nat) : Int) < 256) = false := decide_eq_false (by omega)
    have e : k = 256 := by omega
    subst e
    simp (disch := first | assumption | omega | (simp only [szR, tgC_len, tgC_all, tsC_len, tsC_all] <;> omega) | rfl | decide) only [gen0, gen1, gen2, rulesV, rulesM, litR, bolR, Nat.reduceAdd, Nat.reduceLeDiff, numR, memR, valR, heapR, updR, intR, decR, extR, slR, segR, thenR, pnR, Int.reduceToNat, Int.reduceAdd, Int.reduceSub, Int.reduceLT, Int.reduceLE, Nat.reduceSub, Nat.reduceMul, Nat.reduceEqDiff, joinBR, d, hb2]
    exact hK _ w2 (ho2.low (by omega)) hx2
end Go.Proofs.Ytgnibcaflidjmaa
