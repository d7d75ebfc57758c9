/- Bitmaps: pages of spans made others; painting and wiping; conditions: those of each theorem. -/
import Derived.Test.YtgnibcaflidjmaaBm3
import Derived.Test.YtgnibcaflidjmaaRel
namespace Go.Proofs.Ytgnibcaflidjmaa
open Go.Fx
set_option maxRecDepth 100000
set_option linter.unusedSimpArgs false
set_option linter.unusedVariables false
/-- a bitmap with a span's granules made others. -/
def wth (op : Bool → Bool → Bool) (B : Nat → Bool) (s : Nat × Nat) : Nat → Bool := fun g => op (B g) (mayS s && inS s g)
/-- .. up to a page. -/
def wthTo (op : Bool → Bool → Bool) (B : Nat → Bool) (s : Nat × Nat) (n : Nat) : Nat → Bool := fun g => op (B g) (inS s g && decide (g / 256 < n))
theorem wthTo_first {op : Bool → Bool → Bool} (hop : ∀ x, op x false = x) (B : Nat → Bool) (s : Nat × Nat) : wthTo op B s (s.1 / 4096) = B := by
  funext g
  unfold wthTo inS
  rw [← Bool.decide_and, decide_eq_false (by omega), hop]
theorem wthTo_last {op : Bool → Bool → Bool} (B : Nat → Bool) {s : Nat × Nat} (hs : mayS s = true) : wthTo op B s ((s.2 - 1) / 4096 + 1) = wth op B s := by
  funext g
  unfold wthTo wth inS
  rw [hs, Bool.true_and, ← Bool.decide_and]
  congr 2
  apply propext
  omega
theorem wth_not {op : Bool → Bool → Bool} (hop : ∀ x, op x false = x) (B : Nat → Bool) {s : Nat × Nat} (hs : mayS s = false) : wth op B s = B := by
  funext g
  unfold wth
  rw [hs, Bool.false_and, hop]
theorem pgB_step {op : Bool → Bool → Bool} (hop : ∀ x, op x false = x) (B : Nat → Bool) (s : Nat × Nat) (n : Nat) : tsC (fun j => op (pgB (wthTo op B s n) n j) (inS s (256 * n + j))) = tsC (pgB (wthTo op B s (n + 1)) n) := by
  refine tsC_congr fun j hj => ?_
  rw [pgB_at hj, pgB_at hj]
  unfold wthTo
  rw [decide_eq_false (by omega), decide_eq_true (by omega), Bool.and_false, Bool.and_true, hop]
theorem bmF_step {op : Bool → Bool → Bool} (B : Nat → Bool) (s : Nat × Nat) (n : Nat) (k : Nat) : bmF (wthTo op B s (n + 1)) k = if k = n then (if anyB (pgB (wthTo op B s (n + 1)) n) then some (pgB (wthTo op B s (n + 1)) n) else none) else bmF (wthTo op B s n) k := by
  by_cases h : k = n
  · subst h
    rw [if_pos rfl]
    rfl
  · rw [if_neg h]
    have : pgB (wthTo op B s (n + 1)) k = pgB (wthTo op B s n) k := by
      funext j
      unfold pgB
      by_cases hj : j < 256
      · rw [decide_eq_true hj, Bool.true_and, Bool.true_and]
        unfold wthTo
        congr 2
        rw [decide_eq_decide]
        omega
      · rw [decide_eq_false hj, Bool.false_and, Bool.false_and]
    unfold bmF
    rw [this]
/-- what a function makes of two sets. -/
def Makes (t : Value) (op : Bool → Bool → Bool) : Prop := ∀ (f g : Nat → Bool) (w : World) (K : Value → World → Prop), (∀ w', Ext [] w w' → K (.agg (tsC fun j => op (f j) (g j)).toArray) w') → kN Try.prog (callN t #[.agg (tsC f).toArray, .agg (tsC g).toArray]) w K
theorem with_spec {w : World} {o : Option Nat} {B : Nat → Bool} (hB : Bm w o B) {v : Value} {l : List (Nat × Nat)} (hv : RowsAt w v 2 (l.map spC)) (hl : ∀ s ∈ l, spOk s) {t : Value} {op : Bool → Bool → Bool} (hop : ∀ x, op x false = x) (ht : Makes t op)
    {K : Value → World → Prop} (hK : ∀ m w', Bm w' (some m) (l.foldl (wth op) B) → Ext [] w w' → K (.agg [.map (some m)].toArray) w') :
    callsK Try.prog 41 #[.agg [.map o].toArray, v, t] w K := by
  apply F41_ok
  unfold F41
  have hx0 : Ext [] w ((w.alloc (.cells [.map o].toArray 50)).alloc (.cells [.map none].toArray 50)) := by (repeat first | assumption | exact Ext.refl | apply Ext.alloc | apply Ext.drew | (refine Ext.updN ?_ ?_; (focus first | omega | (simp only [szR] <;> omega))) | (refine Ext.updI ?_ ?_; (focus (simp; done))))
  simp (disch := first | assumption | omega | (simp only [szR, tgC_len, tgC_all, tsC_len, tsC_all] <;> omega) | rfl | decide) only [gen0, gen1, gen2, rulesM, litR, bolR, Nat.reduceAdd, Nat.reduceLeDiff, numR, memR, valR, heapR, updR, intR, decR, extR, slR, segR, thenR, pnR, Int.reduceToNat, Int.reduceAdd, Int.reduceSub, Int.reduceLT, Int.reduceLE, Nat.reduceSub, Nat.reduceMul, Nat.reduceEqDiff]
  refine clone_spec (hB.ext0 hx0) fun o' w1 hB1 hm1 hx1 => ?_
  have hxa := hx0.trans hx1 (by simp)
  have hsz : w.heap.size + 2 ≤ w1.heap.size := by
    have := hx1.size
    simpa only [szR] using this
  have e6 := hx1.at (b := w.heap.size + 1) (o := .cells [.map none].toArray 50 (0, 0)) (by first | with_reducible rfl | assumption | (simp (disch := first | assumption | omega | (simp only [szR, tgC_len, tgC_all, tsC_len, tsC_all] <;> omega) | rfl | decide) only [gen0, gen1, gen2, rulesM, litR, bolR, Nat.reduceAdd, Nat.reduceLeDiff, numR, memR, valR, heapR, updR, intR, decR, extR, slR, segR, thenR, pnR, Int.reduceToNat, Int.reduceAdd, Int.reduceSub, Int.reduceLT, Int.reduceLE, Nat.reduceSub, Nat.reduceMul, Nat.reduceEqDiff] <;> rfl)) (by simp)
  simp (disch := first | assumption | omega | (simp only [szR, tgC_len, tgC_all, tsC_len, tsC_all] <;> omega) | rfl | decide) only [gen0, gen1, gen2, rulesM, litR, bolR, Nat.reduceAdd, Nat.reduceLeDiff, numR, memR, valR, heapR, updR, intR, decR, extR, slR, segR, thenR, pnR, Int.reduceToNat, Int.reduceAdd, Int.reduceSub, Int.reduceLT, Int.reduceLE, Nat.reduceSub, Nat.reduceMul, Nat.reduceEqDiff]
  refine joinL.intro fun J hJ => ?_
  have hgo : ∀ m w2, MapF w2 m pgf setf (bmF B) → w.heap.size ≤ m → w2.heap[w1.heap.size]? = some (.cells [.map (some m)].toArray 50 (0, 0)) → w2.heap[w.heap.size + 1]? = some (.cells [.map none].toArray 50 (0, 0)) → Ext [] w w2 → J [] w2 := by
    intro m w2 hM hm h7 h6 hx2
    apply hJ
    intro _
    have hcap : l.length ≤ maxLen := by
      obtain ⟨_, _, _, ⟨hc1, hc2⟩, _⟩ := id hv
      rw [List.length_map] at hc1
      omega
    simp only [maxLen] at hcap
    obtain ⟨a, cap, rfl⟩ := hv.len
    have hm7 : m ≠ w1.heap.size := by
      rintro rfl
      obtain ⟨l0, ⟨⟨es, c, h1, _⟩, _⟩, _⟩ := hM
      rw [h1] at h7
      cases h7
    have hm6 : m ≠ w.heap.size + 1 := by
      rintro rfl
      obtain ⟨l0, ⟨⟨es, c, h1, _⟩, _⟩, _⟩ := hM
      rw [h1] at h6
      cases h6
    simp (disch := first | assumption | omega | (simp only [szR, tgC_len, tgC_all, tsC_len, tsC_all] <;> omega) | rfl | decide) only [gen0, gen1, gen2, rulesM, litR, bolR, Nat.reduceAdd, Nat.reduceLeDiff, numR, memR, valR, heapR, updR, intR, decR, extR, slR, segR, thenR, pnR, Int.reduceToNat, Int.reduceAdd, Int.reduceSub, Int.reduceLT, Int.reduceLE, Nat.reduceSub, Nat.reduceMul, Nat.reduceEqDiff]
    refine loopT.intro (fun st w' => ∃ (k : Nat), k ≤ l.length ∧ st = [.int .i64 (k : Nat)] ∧ MapF w' m pgf setf (bmF ((l.take k).foldl (wth op) B)) ∧ w'.heap[w1.heap.size]? = some (.cells [.map (some m)].toArray 50 (0, 0)) ∧ w'.heap[w.heap.size + 1]? = some (.cells [.map none].toArray 50 (0, 0)) ∧ Ext [] w w')
      (fun st _ => match st with
        | [.int _ z] => l.length - z.toNat
        | _ => 0) ⟨0, Nat.zero_le _, rfl, hM, h7, h6, hx2⟩ ?_
    rintro st w3 ⟨k, hk, rfl, hM3, h73, h63, hx3⟩ _
    have hvl : (l.map spC).length = l.length := by simp
    by_cases h4 : k < l.length
    · obtain ⟨s, hs⟩ : ∃ s, l[k]? = some s := ⟨_, List.getElem?_eq_getElem h4⟩
      have hrow : (l.map spC)[k]? = some (spC s) := by rw [List.getElem?_map, hs]; rfl
      have hsm : s ∈ l := List.mem_of_getElem? hs
      have hso := hl s hsm
      have htk : (l.take (k + 1)).foldl (wth op) B = wth op ((l.take k).foldl (wth op) B) s := by
        rw [List.take_add_one, hs, List.foldl_append]
        rfl
      generalize (l.take k).foldl (wth op) B = C at *
      simp (disch := first | assumption | omega | (simp only [szR, tgC_len, tgC_all, tsC_len, tsC_all] <;> omega) | rfl | decide) only [gen0, gen1, gen2, rulesM, litR, bolR, Nat.reduceAdd, Nat.reduceLeDiff, numR, memR, valR, heapR, updR, intR, decR, extR, slR, segR, thenR, pnR, Int.reduceToNat, Int.reduceAdd, Int.reduceSub, Int.reduceLT, Int.reduceLE, Nat.reduceSub, Nat.reduceMul, Nat.reduceEqDiff, joinBR]
      refine joinL.intro fun J4 hJ4 => ?_
      have hnext : ∀ w5, MapF w5 m pgf setf (bmF (wth op C s)) → w5.heap[w1.heap.size]? = some (.cells [.map (some m)].toArray 50 (0, 0)) → w5.heap[w.heap.size + 1]? = some (.cells [.map none].toArray 50 (0, 0)) → Ext [] w w5 → J4 [] w5 := by
        intro w5 g1 g2 g3 g4
        apply hJ4
        intro _
        simp (disch := first | assumption | omega | (simp only [szR, tgC_len, tgC_all, tsC_len, tsC_all] <;> omega) | rfl | decide) only [gen0, gen1, gen2, rulesM, litR, bolR, Nat.reduceAdd, Nat.reduceLeDiff, numR, memR, valR, heapR, updR, intR, decR, extR, slR, segR, thenR, pnR, Int.reduceToNat, Int.reduceAdd, Int.reduceSub, Int.reduceLT, Int.reduceLE, Nat.reduceSub, Nat.reduceMul, Nat.reduceEqDiff]
        refine ⟨⟨k + 1, by omega, rfl, by rw [htk]; exact g1, g2, g3, g4⟩, by first | omega | (simp <;> omega)⟩
      obtain ⟨b0, o0, lb, E0, f0, hix, hb0, hfit, hblt, hbk, hsub, hget⟩ := RowsAt.ixR Try.underlying55 Try.sizeOf47 hv hrow
      have hb3 := hx3.at hb0 (by simp)
      have hsc : spC s = [.int .u64 (s.1 : Nat), .int .u64 (s.2 : Nat)] := rfl
      have hsub1 : sub lb o0 2 = [.int .u64 (s.1 : Nat), .int .u64 (s.2 : Nat)] := (hsub o0 rfl).trans hsc
      simp (disch := first | assumption | omega | (simp only [szR, tgC_len, tgC_all, tsC_len, tsC_all] <;> omega) | rfl | decide) only [gen0, gen1, gen2, rulesM, litR, bolR, Nat.reduceAdd, Nat.reduceLeDiff, numR, memR, valR, heapR, updR, intR, decR, extR, slR, segR, thenR, pnR, Int.reduceToNat, Int.reduceAdd, Int.reduceSub, Int.reduceLT, Int.reduceLE, Nat.reduceSub, Nat.reduceMul, Nat.reduceEqDiff, hix, hb3, hsub1]
      have hlt7 := lt_of_at h73
      have hlt6 := lt_of_at h63
      have hltm := hM3.lt
      refine may_spec (s := s) hso fun w4 hx4 => ?_
      have hx5 : Ext [] w3 w4 := Ext.trans (by (repeat first | assumption | exact Ext.refl | apply Ext.alloc | apply Ext.drew | (refine Ext.updN ?_ ?_; (focus first | omega | (simp only [szR] <;> omega))) | (refine Ext.updI ?_ ?_; (focus (simp; done))))) hx4 (by simp)
      have h94 := hx4.at (b := w3.heap.size) (o := .cells [.int .u64 (s.1 : Nat), .int .u64 (s.2 : Nat)].toArray 47 (0, 0)) (by first | with_reducible rfl | assumption | (simp (disch := first | assumption | omega | (simp only [szR, tgC_len, tgC_all, tsC_len, tsC_all] <;> omega) | rfl | decide) only [gen0, gen1, gen2, rulesM, litR, bolR, Nat.reduceAdd, Nat.reduceLeDiff, numR, memR, valR, heapR, updR, intR, decR, extR, slR, segR, thenR, pnR, Int.reduceToNat, Int.reduceAdd, Int.reduceSub, Int.reduceLT, Int.reduceLE, Nat.reduceSub, Nat.reduceMul, Nat.reduceEqDiff] <;> rfl)) (by simp)
      have hx6 := hx3.trans hx5 (by simp)
      have h74 := hx5.at h73 (by simp)
      have h64 := hx5.at h63 (by simp)
      have hM4 := hM3.ext hx5 (by simp)
      obtain ⟨v9, hv9⟩ : ∃ v9, v9 = w3.heap.size := ⟨_, rfl⟩
      rw [← hv9] at h94 ⊢
      cases hms : mayS s with
      | false =>
        simp (disch := first | assumption | omega | (simp only [szR, tgC_len, tgC_all, tsC_len, tsC_all] <;> omega) | rfl | decide) only [gen0, gen1, gen2, rulesM, litR, bolR, Nat.reduceAdd, Nat.reduceLeDiff, numR, memR, valR, heapR, updR, intR, decR, extR, slR, segR, thenR, pnR, Int.reduceToNat, Int.reduceAdd, Int.reduceSub, Int.reduceLT, Int.reduceLE, Nat.reduceSub, Nat.reduceMul, Nat.reduceEqDiff, Bool.not_false]
        exact hnext w4 (by rw [wth_not hop _ hms]; exact hM4) h74 h64 hx6
      | true =>
        have hms2 := hms
        simp only [mayS, decide_eq_true_eq] at hms2
        simp (disch := first | assumption | omega | (simp only [szR, tgC_len, tgC_all, tsC_len, tsC_all] <;> omega) | rfl | decide) only [gen0, gen1, gen2, rulesM, litR, bolR, Nat.reduceAdd, Nat.reduceLeDiff, numR, memR, valR, heapR, updR, intR, decR, extR, slR, segR, thenR, pnR, Int.reduceToNat, Int.reduceAdd, Int.reduceSub, Int.reduceLT, Int.reduceLE, Nat.reduceSub, Nat.reduceMul, Nat.reduceEqDiff, Bool.not_true, h94]
        refine number_spec hso.1 ?_
        refine loopT.intro (fun st w' => ∃ (n : Nat), s.1 / 4096 ≤ n ∧ n ≤ (s.2 - 1) / 4096 + 1 ∧ st = [.int .u64 (n : Nat)] ∧ MapF w' m pgf setf (bmF (wthTo op C s n)) ∧ w'.heap[v9]? = some (.cells [.int .u64 (s.1 : Nat), .int .u64 (s.2 : Nat)].toArray 47 (0, 0)) ∧ w'.heap[w1.heap.size]? = some (.cells [.map (some m)].toArray 50 (0, 0)) ∧ w'.heap[w.heap.size + 1]? = some (.cells [.map none].toArray 50 (0, 0)) ∧ Ext [] w w')
          (fun st _ => match st with
            | [.int _ z] => (s.2 - 1) / 4096 + 1 - z.toNat
            | _ => 0) ⟨s.1 / 4096, Nat.le_refl _, by omega, rfl, by rw [wthTo_first hop]; exact hM4, h94, h74, h64, hx6⟩ ?_
        rintro st w5 ⟨n, hn1, hn2, rfl, hM5, h95, h75, h65, hx7⟩ _
        have e1 : ((s.2 : Nat) : Int) - 1 = ((s.2 - 1 : Nat) : Int) := by omega
        simp (disch := first | assumption | omega | (simp only [szR, tgC_len, tgC_all, tsC_len, tsC_all] <;> omega) | rfl | decide) only [gen0, gen1, gen2, rulesM, litR, bolR, Nat.reduceAdd, Nat.reduceLeDiff, numR, memR, valR, heapR, updR, intR, decR, extR, slR, segR, thenR, pnR, Int.reduceToNat, Int.reduceAdd, Int.reduceSub, Int.reduceLT, Int.reduceLE, Nat.reduceSub, Nat.reduceMul, Nat.reduceEqDiff, h95, e1]
        refine number_spec (by omega) ?_
        by_cases h8 : n ≤ (s.2 - 1) / 4096
        · simp (disch := first | assumption | omega | (simp only [szR, tgC_len, tgC_all, tsC_len, tsC_all] <;> omega) | rfl | decide) only [gen0, gen1, gen2, rulesM, litR, bolR, Nat.reduceAdd, Nat.reduceLeDiff, numR, memR, valR, heapR, updR, intR, decR, extR, slR, segR, thenR, pnR, Int.reduceToNat, Int.reduceAdd, Int.reduceSub, Int.reduceLT, Int.reduceLE, Nat.reduceSub, Nat.reduceMul, Nat.reduceEqDiff]
          refine joinL.intro fun J8 hJ8 => ?_
          refine joinL.intro fun J10 hJ10 => ?_
          have hlt9 := lt_of_at h95
          have hlt75 := lt_of_at h75
          have hq : ∀ b w6, w6.heap[b]? = some (.cells (tsC (pgB (wthTo op C s (n + 1)) n)).toArray 88 (0, 0)) → b ≠ m → MapF w6 m pgf setf (bmF (wthTo op C s n)) → w6.heap[v9]? = some (.cells [.int .u64 (s.1 : Nat), .int .u64 (s.2 : Nat)].toArray 47 (0, 0)) → w6.heap[w1.heap.size]? = some (.cells [.map (some m)].toArray 50 (0, 0)) → w6.heap[w.heap.size + 1]? = some (.cells [.map none].toArray 50 (0, 0)) → Ext [] w w6 → J10 [.pointer (some ⟨b, 0, none⟩)] w6 := by
            intro b w6 g1 g2 g3 g4 g5 g6 g7
            apply hJ10
            intro _
            have hsf : ∀ f, setf f = .agg (tsC f).toArray := fun _ => rfl
            simp (disch := first | assumption | omega | (simp only [szR, tgC_len, tgC_all, tsC_len, tsC_all] <;> omega) | rfl | decide) only [gen0, gen1, gen2, rulesM, litR, bolR, Nat.reduceAdd, Nat.reduceLeDiff, numR, memR, valR, heapR, updR, intR, decR, extR, slR, segR, thenR, pnR, Int.reduceToNat, Int.reduceAdd, Int.reduceSub, Int.reduceLT, Int.reduceLE, Nat.reduceSub, Nat.reduceMul, Nat.reduceEqDiff, g1, g5, tsC_sub]
            have hnext8 : ∀ w8, MapF w8 m pgf setf (bmF (wthTo op C s (n + 1))) → w8.heap[v9]? = some (.cells [.int .u64 (s.1 : Nat), .int .u64 (s.2 : Nat)].toArray 47 (0, 0)) → w8.heap[w1.heap.size]? = some (.cells [.map (some m)].toArray 50 (0, 0)) → w8.heap[w.heap.size + 1]? = some (.cells [.map none].toArray 50 (0, 0)) → Ext [] w w8 → J8 [] w8 := by
              intro w8 f1 f2 f3 f4 f5
              apply hJ8
              intro _
              simp (disch := first | assumption | omega | (simp only [szR, tgC_len, tgC_all, tsC_len, tsC_all] <;> omega) | rfl | decide) only [gen0, gen1, gen2, rulesM, litR, bolR, Nat.reduceAdd, Nat.reduceLeDiff, numR, memR, valR, heapR, updR, intR, decR, extR, slR, segR, thenR, pnR, Int.reduceToNat, Int.reduceAdd, Int.reduceSub, Int.reduceLT, Int.reduceLE, Nat.reduceSub, Nat.reduceMul, Nat.reduceEqDiff]
              exact ⟨⟨n + 1, by omega, by omega, rfl, f1, f2, f3, f4, f5⟩, by first | omega | (simp <;> omega)⟩
            refine run_updM Try.underlying48 pgKey g3 n (pgB (wthTo op C s (n + 1)) n) fun w7 hM7 hx8 => ?_
            have hm9 : v9 ≠ m := by
              rintro rfl
              obtain ⟨l0, ⟨⟨es, c, h1, _⟩, _⟩, _⟩ := g3
              rw [h1] at g4
              cases g4
            have k1 := hx8.at g1 (by simpa using g2)
            have k4 := hx8.at g4 (by simpa using hm9)
            have k5 := hx8.at g5 (by simpa using Ne.symm hm7)
            have k6 := hx8.at g6 (by simpa using Ne.symm hm6)
            have hx9 : Ext [] w w7 := g7.trans hx8 (by simpa using hm)
            simp (disch := first | assumption | omega | (simp only [szR, tgC_len, tgC_all, tsC_len, tsC_all] <;> omega) | rfl | decide) only [gen0, gen1, gen2, rulesM, litR, bolR, Nat.reduceAdd, Nat.reduceLeDiff, numR, memR, valR, heapR, updR, intR, decR, extR, slR, segR, thenR, pnR, Int.reduceToNat, Int.reduceAdd, Int.reduceSub, Int.reduceLT, Int.reduceLE, Nat.reduceSub, Nat.reduceMul, Nat.reduceEqDiff, k1, tsC_sub]
            refine Any_spec fun w8 hx10 => ?_
            have hx11 := hx9.trans hx10 (by simp)
            have hM8 := hM7.ext hx10 (by simp)
            have j5 := hx10.at k5 (by simp)
            cases hany : anyB (pgB (wthTo op C s (n + 1)) n) with
            | true =>
              simp (disch := first | assumption | omega | (simp only [szR, tgC_len, tgC_all, tsC_len, tsC_all] <;> omega) | rfl | decide) only [gen0, gen1, gen2, rulesM, litR, bolR, Nat.reduceAdd, Nat.reduceLeDiff, numR, memR, valR, heapR, updR, intR, decR, extR, slR, segR, thenR, pnR, Int.reduceToNat, Int.reduceAdd, Int.reduceSub, Int.reduceLT, Int.reduceLE, Nat.reduceSub, Nat.reduceMul, Nat.reduceEqDiff, Bool.not_true]
              refine hnext8 w8 ?_ (hx10.at k4 (by simp)) j5 (hx10.at k6 (by simp)) hx11
              have he : (fun b => if b = n then some (pgB (wthTo op C s (n + 1)) n) else bmF (wthTo op C s n) b) = bmF (wthTo op C s (n + 1)) := by
                funext k
                rw [bmF_step, hany]
                rfl
              rwa [he] at hM8
            | false =>
              simp (disch := first | assumption | omega | (simp only [szR, tgC_len, tgC_all, tsC_len, tsC_all] <;> omega) | rfl | decide) only [gen0, gen1, gen2, rulesM, litR, bolR, Nat.reduceAdd, Nat.reduceLeDiff, numR, memR, valR, heapR, updR, intR, decR, extR, slR, segR, thenR, pnR, Int.reduceToNat, Int.reduceAdd, Int.reduceSub, Int.reduceLT, Int.reduceLE, Nat.reduceSub, Nat.reduceMul, Nat.reduceEqDiff, Bool.not_false, j5]
              refine run_delM Try.underlying48 pgKey hM8 n fun w9 hM9 hx12 => ?_
              have hx13 : Ext [] w w9 := hx11.trans hx12 (by simpa using hm)
              refine hnext8 w9 ?_ (hx12.at (hx10.at k4 (by simp)) (by simpa using hm9)) (hx12.at j5 (by simpa using Ne.symm hm7)) (hx12.at (hx10.at k6 (by simp)) (by simpa using Ne.symm hm6)) hx13
              have he : (fun b => if b = n then none else if b = n then some (pgB (wthTo op C s (n + 1)) n) else bmF (wthTo op C s n) b) = bmF (wthTo op C s (n + 1)) := by
                funext k
                rw [bmF_step, hany]
                by_cases hk : k = n
                · rw [if_pos hk, if_pos hk]
                  rfl
                · rw [if_neg hk, if_neg hk, if_neg hk]
              rwa [he] at hM9
          rw [drewK_eq]
          refine relX.ext [] ?_
          have hkey : [Value.int IntKind.u64 (n : Int)].getD 0 undef = .int .u64 (n : Int) := rfl
          have hx50 : Ext [] w5 w5.drew := by (repeat first | assumption | exact Ext.refl | apply Ext.alloc | apply Ext.drew | (refine Ext.updN ?_ ?_; (focus first | omega | (simp only [szR] <;> omega))) | (refine Ext.updI ?_ ?_; (focus (simp; done))))
          refine postX.is t (fun v w' hR _ => okX.is) ?_
          refine postX.is (.pointer (some ⟨w1.heap.size, 0, none⟩)) (fun v w' hR _ => by simp (disch := first | assumption | omega | (simp only [szR, tgC_len, tgC_all, tsC_len, tsC_all] <;> omega) | rfl | decide) only [gen0, gen1, gen2, rulesM, litR, bolR, Nat.reduceAdd, Nat.reduceLeDiff, numR, memR, valR, heapR, updR, intR, decR, extR, slR, segR, thenR, pnR, Int.reduceToNat, Int.reduceAdd, Int.reduceSub, Int.reduceLT, Int.reduceLE, Nat.reduceSub, Nat.reduceMul, Nat.reduceEqDiff]; exact okX.is) ?_
          refine postX.is (.map (some m)) (fun v w' hR hd => by
            have e := hR.at (b := w1.heap.size) h75 (by simp)
            obtain ⟨d1, -⟩ := hd
            simp (disch := first | assumption | omega | (simp only [szR, tgC_len, tgC_all, tsC_len, tsC_all] <;> omega) | rfl | decide) only [gen0, gen1, gen2, rulesM, litR, bolR, Nat.reduceAdd, Nat.reduceLeDiff, numR, memR, valR, heapR, updR, intR, decR, extR, slR, segR, thenR, pnR, Int.reduceToNat, Int.reduceAdd, Int.reduceSub, Int.reduceLT, Int.reduceLE, Nat.reduceSub, Nat.reduceMul, Nat.reduceEqDiff, d1, e]
            exact okX.is) ?_
          refine postX.is (.int .u64 (n : Nat)) (fun v w' hR _ => okX.is) ?_
          refine postX.is (.agg (tsC (pgB (wthTo op C s n) n)).toArray) (fun v w' hR hd => by
            obtain ⟨d1, d2, -⟩ := hd
            have e := look_spec (o := some m) (w := w') (B := wthTo op C s n) (hM5.ext (hx50.trans hR (by simp)) (by simp)) n
            rw [d1, d2]
            simp (disch := first | assumption | omega | (simp only [szR, tgC_len, tgC_all, tsC_len, tsC_all] <;> omega) | rfl | decide) only [gen0, gen1, gen2, rulesM, litR, bolR, Nat.reduceAdd, Nat.reduceLeDiff, numR, memR, valR, heapR, updR, intR, decR, extR, slR, segR, thenR, pnR, Int.reduceToNat, Int.reduceAdd, Int.reduceSub, Int.reduceLT, Int.reduceLE, Nat.reduceSub, Nat.reduceMul, Nat.reduceEqDiff, e]
            exact okX.is) ?_
          refine postX.is (.agg (spC s).toArray) (fun v w' hR hd => by
            have e := hR.at (b := v9) h95 (by simp)
            have e2 : ∀ x y : Value, sub [x, y] 0 2 = [x, y] := fun _ _ => rfl
            simp (disch := first | assumption | omega | (simp only [szR, tgC_len, tgC_all, tsC_len, tsC_all] <;> omega) | rfl | decide) only [gen0, gen1, gen2, rulesM, litR, bolR, Nat.reduceAdd, Nat.reduceLeDiff, numR, memR, valR, heapR, updR, intR, decR, extR, slR, segR, thenR, pnR, Int.reduceToNat, Int.reduceAdd, Int.reduceSub, Int.reduceLT, Int.reduceLE, Nat.reduceSub, Nat.reduceMul, Nat.reduceEqDiff, e, e2]
            exact okX.is) ?_
          refine postX.is (.int .u64 (n : Nat)) (fun v w' hR _ => okX.is) ?_
          refine postX.is (.agg (tsC fun j => inS s (256 * n + j)).toArray) (fun v w' hR hd => by
            obtain ⟨d1, d2, -⟩ := hd
            rw [d1, d2]
            simp (disch := first | assumption | omega | (simp only [szR, tgC_len, tgC_all, tsC_len, tsC_all] <;> omega) | rfl | decide) only [gen0, gen1, gen2, rulesM, litR, bolR, Nat.reduceAdd, Nat.reduceLeDiff, numR, memR, valR, heapR, updR, intR, decR, extR, slR, segR, thenR, pnR, Int.reduceToNat, Int.reduceAdd, Int.reduceSub, Int.reduceLT, Int.reduceLE, Nat.reduceSub, Nat.reduceMul, Nat.reduceEqDiff]
            refine cover_spec hms ⟨hn1, h8⟩ fun w'' hx => okX.mk hx rfl) ?_
          refine postX.is (.agg (tsC (pgB (wthTo op C s (n + 1)) n)).toArray) (fun v w' hR hd => by
            obtain ⟨d1, d2, d3, -⟩ := hd
            rw [d1, d2, d3]
            refine ht _ _ _ _ fun w'' hx => ?_
            rw [pgB_step hop]
            exact okX.mk hx rfl) ?_
          refine postX.intro (fun v w' => ∃ b, v = .pointer (some ⟨b, 0, none⟩) ∧ w5.heap.size ≤ b ∧ w'.heap[b]? = some (.cells [.int .u64 0, .int .u64 0, .int .u64 0, .int .u64 0].toArray 88 (0, 0))) (fun v a b hR ⟨x, h1, h2, h3⟩ => ⟨x, h1, h2, hR.at h3 (by simp)⟩) (fun v w' hR hd => by
            have hs5 := hR.size
            simp (disch := first | assumption | omega | (simp only [szR, tgC_len, tgC_all, tsC_len, tsC_all] <;> omega) | rfl | decide) only [gen0, gen1, gen2, rulesM, litR, bolR, Nat.reduceAdd, Nat.reduceLeDiff, numR, memR, valR, heapR, updR, intR, decR, extR, slR, segR, thenR, pnR, Int.reduceToNat, Int.reduceAdd, Int.reduceSub, Int.reduceLT, Int.reduceLE, Nat.reduceSub, Nat.reduceMul, Nat.reduceEqDiff]
            exact okX.mk (by (repeat first | assumption | exact Ext.refl | apply Ext.alloc | apply Ext.drew | (refine Ext.updN ?_ ?_; (focus first | omega | (simp only [szR] <;> omega))) | (refine Ext.updI ?_ ?_; (focus (simp; done))))) ⟨_, rfl, hs5, (by first | with_reducible rfl | assumption | (simp (disch := first | assumption | omega | (simp only [szR, tgC_len, tgC_all, tsC_len, tsC_all] <;> omega) | rfl | decide) only [gen0, gen1, gen2, rulesM, litR, bolR, Nat.reduceAdd, Nat.reduceLeDiff, numR, memR, valR, heapR, updR, intR, decR, extR, slR, segR, thenR, pnR, Int.reduceToNat, Int.reduceAdd, Int.reduceSub, Int.reduceLT, Int.reduceLE, Nat.reduceSub, Nat.reduceMul, Nat.reduceEqDiff] <;> rfl))⟩) ?_
          intro v w6 hR hd _
          obtain ⟨d1, d2, d3, d4, d5, d6, d7, d8, d9, ⟨b, d10, d11, d12⟩, -⟩ := hd
          rw [d9, d10]
          have hbz : ∀ f : Nat → Bool, splice [.int .u64 0, .int .u64 0, .int .u64 0, .int .u64 0] 0 (tsC f) = tsC f := fun f => by rw [← tsC_zero]; exact tsC_over _ _
          have hbz2 : ∀ f : Nat → Bool, tsC f ++ List.drop (tsC f).length [.int .u64 0, .int .u64 0, .int .u64 0, .int .u64 0] = tsC f := fun f => by rw [← tsC_zero]; exact tsC_over2 _ _
          simp (disch := first | assumption | omega | (simp only [szR, tgC_len, tgC_all, tsC_len, tsC_all] <;> omega) | rfl | decide) only [gen0, gen1, gen2, rulesM, litR, bolR, Nat.reduceAdd, Nat.reduceLeDiff, numR, memR, valR, heapR, updR, intR, decR, extR, slR, segR, thenR, pnR, Int.reduceToNat, Int.reduceAdd, Int.reduceSub, Int.reduceLT, Int.reduceLE, Nat.reduceSub, Nat.reduceMul, Nat.reduceEqDiff, d12, hbz, hbz2]
          have hx51 : Ext [] w5 w6 := hx50.trans hR (by simp)
          have hltm5 := hM5.lt
          have hx52 : Ext [] w5 (World.upd w6 b (tsC (pgB (wthTo op C s (n + 1)) n))) := by (repeat first | assumption | exact Ext.refl | apply Ext.alloc | apply Ext.drew | (refine Ext.updN ?_ ?_; (focus first | omega | (simp only [szR] <;> omega))) | (refine Ext.updI ?_ ?_; (focus (simp; done))))
          have hnb : b ≠ m := by omega
          have hnd : b ∉ ([] : List Nat) := by simp
          refine hq b _ (upd_at d12) hnb (hM5.ext hx52 (by simp)) (hx52.at h95 (by simp)) (hx52.at h75 (by simp)) (hx52.at h65 (by simp)) (hx7.trans hx52 (by simp))
        · obtain rfl : n = (s.2 - 1) / 4096 + 1 := by omega
          simp (disch := first | assumption | omega | (simp only [szR, tgC_len, tgC_all, tsC_len, tsC_all] <;> omega) | rfl | decide) only [gen0, gen1, gen2, rulesM, litR, bolR, Nat.reduceAdd, Nat.reduceLeDiff, numR, memR, valR, heapR, updR, intR, decR, extR, slR, segR, thenR, pnR, Int.reduceToNat, Int.reduceAdd, Int.reduceSub, Int.reduceLT, Int.reduceLE, Nat.reduceSub, Nat.reduceMul, Nat.reduceEqDiff]
          rw [wthTo_last _ hms] at hM5
          exact hnext w5 hM5 h75 h65 hx7
    · obtain rfl : k = l.length := by omega
      rw [List.take_length] at hM3
      simp (disch := first | assumption | omega | (simp only [szR, tgC_len, tgC_all, tsC_len, tsC_all] <;> omega) | rfl | decide) only [gen0, gen1, gen2, rulesM, litR, bolR, Nat.reduceAdd, Nat.reduceLeDiff, numR, memR, valR, heapR, updR, intR, decR, extR, slR, segR, thenR, pnR, Int.reduceToNat, Int.reduceAdd, Int.reduceSub, Int.reduceLT, Int.reduceLE, Nat.reduceSub, Nat.reduceMul, Nat.reduceEqDiff, joinBR]
      have e7 := h73
      simp (disch := first | assumption | omega | (simp only [szR, tgC_len, tgC_all, tsC_len, tsC_all] <;> omega) | rfl | decide) only [gen0, gen1, gen2, rulesM, litR, bolR, Nat.reduceAdd, Nat.reduceLeDiff, numR, memR, valR, heapR, updR, intR, decR, extR, slR, segR, thenR, pnR, Int.reduceToNat, Int.reduceAdd, Int.reduceSub, Int.reduceLT, Int.reduceLE, Nat.reduceSub, Nat.reduceMul, Nat.reduceEqDiff, h73, h63]
      have hx4 : Ext [] w (World.upd w3 (w.heap.size + 1) [.map (some m)]) := by (repeat first | assumption | exact Ext.refl | apply Ext.alloc | apply Ext.drew | (refine Ext.updN ?_ ?_; (focus first | omega | (simp only [szR] <;> omega))) | (refine Ext.updI ?_ ?_; (focus (simp; done))))
      have hx5 : Ext [w.heap.size + 1] w3 (World.upd w3 (w.heap.size + 1) [.map (some m)]) := by (repeat first | assumption | exact Ext.refl | apply Ext.alloc | apply Ext.drew | (refine Ext.updN ?_ ?_; (focus first | omega | (simp only [szR] <;> omega))) | (refine Ext.updI ?_ ?_; (focus (simp; done))))
      exact hK m _ (MapF.ext hM3 hx5 (by simp [hm6])) hx4
  cases o' with
  | none =>
    simp (disch := first | assumption | omega | (simp only [szR, tgC_len, tgC_all, tsC_len, tsC_all] <;> omega) | rfl | decide) only [gen0, gen1, gen2, rulesM, litR, bolR, Nat.reduceAdd, Nat.reduceLeDiff, numR, memR, valR, heapR, updR, intR, decR, extR, slR, segR, thenR, pnR, Int.reduceToNat, Int.reduceAdd, Int.reduceSub, Int.reduceLT, Int.reduceLE, Nat.reduceSub, Nat.reduceMul, Nat.reduceEqDiff, joinBR, Option.isNone_none]
    rw [run_mkM]
    simp (disch := first | assumption | omega | (simp only [szR, tgC_len, tgC_all, tsC_len, tsC_all] <;> omega) | rfl | decide) only [gen0, gen1, gen2, rulesM, litR, bolR, Nat.reduceAdd, Nat.reduceLeDiff, numR, memR, valR, heapR, updR, intR, decR, extR, slR, segR, thenR, pnR, Int.reduceToNat, Int.reduceAdd, Int.reduceSub, Int.reduceLT, Int.reduceLE, Nat.reduceSub, Nat.reduceMul, Nat.reduceEqDiff]
    have hsz1 : (w1.alloc (.cells [.map none].toArray 50)).heap.size = w1.heap.size + 1 := by simp only [szR]
    have hmk := MapF.make (w := w1.alloc (.cells [.map none].toArray 50)) (kf := pgf) (vf := setf)
    rw [hsz1] at hmk
    have hBn : bmF B = fun _ => none := by rw [Bm.zero hB1]; exact bmF_zero
    have hx5 : Ext [w1.heap.size] ((w1.alloc (.cells [.map none].toArray 50)).alloc (.map #[] 0)) (World.upd ((w1.alloc (.cells [.map none].toArray 50)).alloc (.map #[] 0)) w1.heap.size [.map (some (w1.heap.size + 1))]) := by (repeat first | assumption | exact Ext.refl | apply Ext.alloc | apply Ext.drew | (refine Ext.updN ?_ ?_; (focus first | omega | (simp only [szR] <;> omega))) | (refine Ext.updI ?_ ?_; (focus (simp; done))))
    have hx6 : Ext [] w1 ((w1.alloc (.cells [.map none].toArray 50)).alloc (.map #[] 0)) := Ext.allocM (by (repeat first | assumption | exact Ext.refl | apply Ext.alloc | apply Ext.drew | (refine Ext.updN ?_ ?_; (focus first | omega | (simp only [szR] <;> omega))) | (refine Ext.updI ?_ ?_; (focus (simp; done)))))
    have hx7 : Ext [] w1 (World.upd ((w1.alloc (.cells [.map none].toArray 50)).alloc (.map #[] 0)) w1.heap.size [.map (some (w1.heap.size + 1))]) := hx6.trans hx5 (by simp)
    refine hgo (w1.heap.size + 1) _ ?_ (by omega) ?_ (hx7.at e6 (by simp)) (hxa.trans hx7 (by simp))
    · rw [hBn]
      exact hmk.ext hx5 (by simp)
    · exact upd_at (l0 := [.map none]) (by first | with_reducible rfl | assumption | (simp (disch := first | assumption | omega | (simp only [szR, tgC_len, tgC_all, tsC_len, tsC_all] <;> omega) | rfl | decide) only [gen0, gen1, gen2, rulesM, litR, bolR, Nat.reduceAdd, Nat.reduceLeDiff, numR, memR, valR, heapR, updR, intR, decR, extR, slR, segR, thenR, pnR, Int.reduceToNat, Int.reduceAdd, Int.reduceSub, Int.reduceLT, Int.reduceLE, Nat.reduceSub, Nat.reduceMul, Nat.reduceEqDiff] <;> rfl))
  | some m =>
    simp (disch := first | assumption | omega | (simp only [szR, tgC_len, tgC_all, tsC_len, tsC_all] <;> omega) | rfl | decide) only [gen0, gen1, gen2, rulesM, litR, bolR, Nat.reduceAdd, Nat.reduceLeDiff, numR, memR, valR, heapR, updR, intR, decR, extR, slR, segR, thenR, pnR, Int.reduceToNat, Int.reduceAdd, Int.reduceSub, Int.reduceLT, Int.reduceLE, Nat.reduceSub, Nat.reduceMul, Nat.reduceEqDiff, joinBR, Option.isNone_some]
    refine hgo m _ ?_ (by have := hm1 m rfl; simp only [szR] at this; omega) (by first | with_reducible rfl | assumption | (simp (disch := first | assumption | omega | (simp only [szR, tgC_len, tgC_all, tsC_len, tsC_all] <;> omega) | rfl | decide) only [gen0, gen1, gen2, rulesM, litR, bolR, Nat.reduceAdd, Nat.reduceLeDiff, numR, memR, valR, heapR, updR, intR, decR, extR, slR, segR, thenR, pnR, Int.reduceToNat, Int.reduceAdd, Int.reduceSub, Int.reduceLT, Int.reduceLE, Nat.reduceSub, Nat.reduceMul, Nat.reduceEqDiff] <;> rfl)) (by first | with_reducible rfl | assumption | (simp (disch := first | assumption | omega | (simp only [szR, tgC_len, tgC_all, tsC_len, tsC_all] <;> omega) | rfl | decide) only [gen0, gen1, gen2, rulesM, litR, bolR, Nat.reduceAdd, Nat.reduceLeDiff, numR, memR, valR, heapR, updR, intR, decR, extR, slR, segR, thenR, pnR, Int.reduceToNat, Int.reduceAdd, Int.reduceSub, Int.reduceLT, Int.reduceLE, Nat.reduceSub, Nat.reduceMul, Nat.reduceEqDiff, e6] <;> rfl)) (by (repeat first | assumption | exact Ext.refl | apply Ext.alloc | apply Ext.drew | (refine Ext.updN ?_ ?_; (focus first | omega | (simp only [szR] <;> omega))) | (refine Ext.updI ?_ ?_; (focus (simp; done)))))
    exact MapF.ext (S := []) hB1 (by (repeat first | assumption | exact Ext.refl | apply Ext.alloc | apply Ext.drew | (refine Ext.updN ?_ ?_; (focus first | omega | (simp only [szR] <;> omega))) | (refine Ext.updI ?_ ?_; (focus (simp; done))))) (by simp)
def orB (a b : Bool) : Bool := a || b
def lessB (a b : Bool) : Bool := a && !b
theorem paint_spec {w : World} {o : Option Nat} {B : Nat → Bool} (hB : Bm w o B) {v : Value} {l : List (Nat × Nat)} (hv : RowsAt w v 2 (l.map spC)) (hl : ∀ s ∈ l, spOk s)
    {K : Value → World → Prop} (hK : ∀ m w', Bm w' (some m) (l.foldl (wth orB) B) → Ext [] w w' → K (.agg [.map (some m)].toArray) w') : callsK Try.prog 18 #[.agg [.map o].toArray, v] w K := by
  apply F18_ok
  unfold F18
  have hx0 : Ext [] w ((w.alloc (.cells [.map o].toArray 50)).alloc (.cells [.map none].toArray 50)) := by (repeat first | assumption | exact Ext.refl | apply Ext.alloc | apply Ext.drew | (refine Ext.updN ?_ ?_; (focus first | omega | (simp only [szR] <;> omega))) | (refine Ext.updI ?_ ?_; (focus (simp; done))))
  have e1 : ∀ x : Value, sub [x] 0 1 = [x] := fun _ => rfl
  simp (disch := first | assumption | omega | (simp only [szR, tgC_len, tgC_all, tsC_len, tsC_all] <;> omega) | rfl | decide) only [gen0, gen1, gen2, rulesM, litR, bolR, Nat.reduceAdd, Nat.reduceLeDiff, numR, memR, valR, heapR, updR, intR, decR, extR, slR, segR, thenR, pnR, Int.reduceToNat, Int.reduceAdd, Int.reduceSub, Int.reduceLT, Int.reduceLE, Nat.reduceSub, Nat.reduceMul, Nat.reduceEqDiff, e1]
  refine with_spec (op := orB) (hB.ext0 hx0) (hv.ext hx0 (by simp)) hl (fun x => Bool.or_false x) (fun f g w K hk => ?_) fun m w' hB' hx => ?_
  · simp (disch := first | assumption | omega | (simp only [szR, tgC_len, tgC_all, tsC_len, tsC_all] <;> omega) | rfl | decide) only [gen0, gen1, gen2, rulesM, litR, bolR, Nat.reduceAdd, Nat.reduceLeDiff, numR, memR, valR, heapR, updR, intR, decR, extR, slR, segR, thenR, pnR, Int.reduceToNat, Int.reduceAdd, Int.reduceSub, Int.reduceLT, Int.reduceLE, Nat.reduceSub, Nat.reduceMul, Nat.reduceEqDiff]
    exact Or_spec hk
  · have hx1 := hx0.trans hx (by simp)
    have h1 := hx.at (b := w.heap.size + 1) (o := .cells [.map none].toArray 50 (0, 0)) (by first | with_reducible rfl | assumption | (simp (disch := first | assumption | omega | (simp only [szR, tgC_len, tgC_all, tsC_len, tsC_all] <;> omega) | rfl | decide) only [gen0, gen1, gen2, rulesM, litR, bolR, Nat.reduceAdd, Nat.reduceLeDiff, numR, memR, valR, heapR, updR, intR, decR, extR, slR, segR, thenR, pnR, Int.reduceToNat, Int.reduceAdd, Int.reduceSub, Int.reduceLT, Int.reduceLE, Nat.reduceSub, Nat.reduceMul, Nat.reduceEqDiff] <;> rfl)) (by simp)
    have e2 : ∀ x y : Value, splice [x] 0 [y] = [y] := fun _ _ => rfl
    have hlt := lt_of_at h1
    have hx2 : Ext [] w (World.upd w' (w.heap.size + 1) [.map (some m)]) := by (repeat first | assumption | exact Ext.refl | apply Ext.alloc | apply Ext.drew | (refine Ext.updN ?_ ?_; (focus first | omega | (simp only [szR] <;> omega))) | (refine Ext.updI ?_ ?_; (focus (simp; done))))
    have hx3 : Ext [w.heap.size + 1] w' (World.upd w' (w.heap.size + 1) [.map (some m)]) := by (repeat first | assumption | exact Ext.refl | apply Ext.alloc | apply Ext.drew | (refine Ext.updN ?_ ?_; (focus first | omega | (simp only [szR] <;> omega))) | (refine Ext.updI ?_ ?_; (focus (simp; done))))
    simp (disch := first | assumption | omega | (simp only [szR, tgC_len, tgC_all, tsC_len, tsC_all] <;> omega) | rfl | decide) only [gen0, gen1, gen2, rulesM, litR, bolR, Nat.reduceAdd, Nat.reduceLeDiff, numR, memR, valR, heapR, updR, intR, decR, extR, slR, segR, thenR, pnR, Int.reduceToNat, Int.reduceAdd, Int.reduceSub, Int.reduceLT, Int.reduceLE, Nat.reduceSub, Nat.reduceMul, Nat.reduceEqDiff, h1, e1, e2]
    refine hK m _ (hB'.ext hx3 fun m' e => ?_) hx2
    cases e
    rintro hc
    simp only [List.mem_singleton] at hc
    subst hc
    obtain ⟨l0, ⟨⟨es, c, h2, _⟩, _⟩, _⟩ := hB'
    rw [h1] at h2
    cases h2
theorem wipe_spec {w : World} {o : Option Nat} {B : Nat → Bool} (hB : Bm w o B) {v : Value} {l : List (Nat × Nat)} (hv : RowsAt w v 2 (l.map spC)) (hl : ∀ s ∈ l, spOk s)
    {K : Value → World → Prop} (hK : ∀ m w', Bm w' (some m) (l.foldl (wth lessB) B) → Ext [] w w' → K (.agg [.map (some m)].toArray) w') : callsK Try.prog 19 #[.agg [.map o].toArray, v] w K := by
  apply F19_ok
  unfold F19
  have hx0 : Ext [] w ((w.alloc (.cells [.map o].toArray 50)).alloc (.cells [.map none].toArray 50)) := by (repeat first | assumption | exact Ext.refl | apply Ext.alloc | apply Ext.drew | (refine Ext.updN ?_ ?_; (focus first | omega | (simp only [szR] <;> omega))) | (refine Ext.updI ?_ ?_; (focus (simp; done))))
  have e1 : ∀ x : Value, sub [x] 0 1 = [x] := fun _ => rfl
  simp (disch := first | assumption | omega | (simp only [szR, tgC_len, tgC_all, tsC_len, tsC_all] <;> omega) | rfl | decide) only [gen0, gen1, gen2, rulesM, litR, bolR, Nat.reduceAdd, Nat.reduceLeDiff, numR, memR, valR, heapR, updR, intR, decR, extR, slR, segR, thenR, pnR, Int.reduceToNat, Int.reduceAdd, Int.reduceSub, Int.reduceLT, Int.reduceLE, Nat.reduceSub, Nat.reduceMul, Nat.reduceEqDiff, e1]
  refine with_spec (op := lessB) (hB.ext0 hx0) (hv.ext hx0 (by simp)) hl (fun x => by cases x <;> rfl) (fun f g w K hk => ?_) fun m w' hB' hx => ?_
  · simp (disch := first | assumption | omega | (simp only [szR, tgC_len, tgC_all, tsC_len, tsC_all] <;> omega) | rfl | decide) only [gen0, gen1, gen2, rulesM, litR, bolR, Nat.reduceAdd, Nat.reduceLeDiff, numR, memR, valR, heapR, updR, intR, decR, extR, slR, segR, thenR, pnR, Int.reduceToNat, Int.reduceAdd, Int.reduceSub, Int.reduceLT, Int.reduceLE, Nat.reduceSub, Nat.reduceMul, Nat.reduceEqDiff]
    exact Less_spec hk
  · have hx1 := hx0.trans hx (by simp)
    have h1 := hx.at (b := w.heap.size + 1) (o := .cells [.map none].toArray 50 (0, 0)) (by first | with_reducible rfl | assumption | (simp (disch := first | assumption | omega | (simp only [szR, tgC_len, tgC_all, tsC_len, tsC_all] <;> omega) | rfl | decide) only [gen0, gen1, gen2, rulesM, litR, bolR, Nat.reduceAdd, Nat.reduceLeDiff, numR, memR, valR, heapR, updR, intR, decR, extR, slR, segR, thenR, pnR, Int.reduceToNat, Int.reduceAdd, Int.reduceSub, Int.reduceLT, Int.reduceLE, Nat.reduceSub, Nat.reduceMul, Nat.reduceEqDiff] <;> rfl)) (by simp)
    have e2 : ∀ x y : Value, splice [x] 0 [y] = [y] := fun _ _ => rfl
    have hlt := lt_of_at h1
    have hx2 : Ext [] w (World.upd w' (w.heap.size + 1) [.map (some m)]) := by (repeat first | assumption | exact Ext.refl | apply Ext.alloc | apply Ext.drew | (refine Ext.updN ?_ ?_; (focus first | omega | (simp only [szR] <;> omega))) | (refine Ext.updI ?_ ?_; (focus (simp; done))))
    have hx3 : Ext [w.heap.size + 1] w' (World.upd w' (w.heap.size + 1) [.map (some m)]) := by (repeat first | assumption | exact Ext.refl | apply Ext.alloc | apply Ext.drew | (refine Ext.updN ?_ ?_; (focus first | omega | (simp only [szR] <;> omega))) | (refine Ext.updI ?_ ?_; (focus (simp; done))))
    simp (disch := first | assumption | omega | (simp only [szR, tgC_len, tgC_all, tsC_len, tsC_all] <;> omega) | rfl | decide) only [gen0, gen1, gen2, rulesM, litR, bolR, Nat.reduceAdd, Nat.reduceLeDiff, numR, memR, valR, heapR, updR, intR, decR, extR, slR, segR, thenR, pnR, Int.reduceToNat, Int.reduceAdd, Int.reduceSub, Int.reduceLT, Int.reduceLE, Nat.reduceSub, Nat.reduceMul, Nat.reduceEqDiff, h1, e1, e2]
    refine hK m _ (hB'.ext hx3 fun m' e => ?_) hx2
    cases e
    rintro hc
    simp only [List.mem_singleton] at hc
    subst hc
    obtain ⟨l0, ⟨⟨es, c, h2, _⟩, _⟩, _⟩ := hB'
    rw [h1] at h2
    cases h2
end Go.Proofs.Ytgnibcaflidjmaa
