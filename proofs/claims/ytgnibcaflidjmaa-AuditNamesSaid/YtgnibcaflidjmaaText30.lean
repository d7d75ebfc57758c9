/- The lines of faults: the walk of both texts; conditions: those of each theorem. -/
import Derived.Test.YtgnibcaflidjmaaBuild
import Derived.Test.YtgnibcaflidjmaaNames
namespace Go.Proofs.Ytgnibcaflidjmaa
open Go.Fx
set_option maxRecDepth 100000
set_option linter.unusedSimpArgs false
set_option linter.unusedVariables false
/-- a fault. -/
structure Flt where
  p : Int
  k : Int
  a : Nat
def flC (c : Flt) : List Value := [.int .i64 c.p, .int .i64 c.k, .int .u64 c.a]
def Flt.Ok (c : Flt) : Prop := (-9223372036854775808 ≤ c.p ∧ c.p < 9223372036854775808) ∧ c.a < 18446744073709551616
theorem flC_all (L : List Flt) : ∀ r ∈ L.map flC, r.all (fun v => v.oneCell') = true := by
  intro r hr
  obtain ⟨d, -, rfl⟩ := List.mem_map.1 hr
  rfl
def lineL (c : Flt) : List Int := joinN [32] [nameL c.k, wholeL c.p, decs c.a] ++ [10]
def textL (l : List Flt) : List Int := l.flatMap lineL
theorem nameL_len (k : Int) : (nameL k).length ≤ 6 := by
  unfold nameL
  repeat' split
  all_goals simp
theorem wholeL_len {k : Int} (h : -9223372036854775808 ≤ k ∧ k < 9223372036854775808) : (wholeL k).length ≤ 21 := by
  unfold wholeL
  split
  · have := decs_le (n := (-k).toNat) (by omega)
    simp
    omega
  · have := decs_le (n := k.toNat) (by omega)
    omega
theorem join_len {c : Flt} (h : c.Ok) : (joinN [32] [nameL c.k, wholeL c.p, decs c.a]).length ≤ 60 := by
  have h1 := nameL_len c.k
  have h2 := wholeL_len h.1
  have h3 := decs_le h.2
  simp [joinN]
  omega
theorem lineL_len {c : Flt} (h : c.Ok) : (lineL c).length ≤ 61 := by
  have := join_len h
  unfold lineL
  simp only [List.length_append, List.length_singleton]
  omega
theorem textL_len : ∀ {l : List Flt}, (∀ c ∈ l, c.Ok) → (textL l).length ≤ l.length * 61
  | [], _ => by simp [textL]
  | c :: l, h => by
    have h1 := lineL_len (h c (List.mem_cons_self ..))
    have h2 := textL_len (l := l) fun d hd => h d (List.mem_cons_of_mem _ hd)
    unfold textL at h2 ⊢
    rw [List.flatMap_cons, List.length_append, List.length_cons]
    omega
theorem textL_take {l : List Flt} {k : Nat} (h : k < l.length) : textL (l.take (k + 1)) = textL (l.take k) ++ lineL l[k] := by
  unfold textL
  rw [List.take_succ_eq_append_getElem h, List.flatMap_append]
  simp
set_option maxHeartbeats 4000000 in
theorem Text_spec {w : World} {v : Value} {l : List Flt} (hv : RowsAt w v 3 (l.map flC)) (hl : ∀ c ∈ l, c.Ok) (h100 : l.length ≤ 100) {K : Value → World → Prop} (hK : ∀ w', Ext [] w w' → K (.string (strOfNums (textL l))) w') :
    callsK Try.prog 8 #[v] w K := by
  have hlen : (l.map flC).length = l.length := List.length_map ..
  have hlv := hv.lenR (ty := 3) Try.underlying22
  rw [hlen] at hlv
  apply F8_ok
  unfold F8
  simp (disch := first | assumption | omega | (simp only [szR] <;> omega) | rfl | decide) only [gen0, gen1, gen2, rulesN, litR, bolR, Nat.reduceAdd, Nat.reduceLeDiff, numR, memR, valR, heapR, updR, intR, decR, extR, slR, segR, thenR, pnR, Int.reduceToNat, Int.reduceAdd, Int.reduceSub, Int.reduceLT, Int.reduceLE, Nat.reduceSub, Nat.reduceMul, Nat.reduceEqDiff, hlv]
  refine loopT.intro (fun st w' => ∃ (k : Nat) (z : Int), k ≤ l.length ∧ st = [.int .i64 z] ∧ z = k ∧ Bld w w' w.heap.size (textL (l.take k)) ∧ Ext [] w w')
    (fun st _ => match st with
      | [.int _ z] => l.length - z.toNat
      | _ => 0) ⟨0, 0, by omega, rfl, rfl, Bld.fresh (Nat.le_refl _), by (repeat first | assumption | exact Ext.refl | apply Ext.alloc | apply Ext.drew | (refine Ext.updN ?_ ?_; (focus first | omega | (simp only [szR] <;> omega))) | (refine Ext.updI ?_ ?_; (focus (simp; done))))⟩ ?_
  rintro st w' ⟨k, z, hk, rfl, rfl, hB, hx⟩ _
  have hv' := hv.ext hx (by simp)
  by_cases hlt : k < l.length
  · obtain ⟨b, o, cap, La, E, f, he, hb, hfit, hsub, -⟩ := hv'.row (k := k) (r := flC l[k]) (by simp [hlt])
    have hok := hl l[k] (List.getElem_mem hlt)
    have hix : ∀ w, (Instr.indexAt 22 v (.int .i64 k)).run Try.prog w = .ok (.pointer (some ⟨b, o + k * 3, none⟩)) w := by
      rw [he]
      intro w
      simp (disch := first | assumption | omega | (simp only [szR] <;> omega) | rfl | decide) only [gen0, gen1, gen2, rulesN, litR, bolR, Nat.reduceAdd, Nat.reduceLeDiff, numR, memR, valR, heapR, updR, intR, decR, extR, slR, segR, thenR, pnR, Int.reduceToNat, Int.reduceAdd, Int.reduceSub, Int.reduceLT, Int.reduceLE, Nat.reduceSub, Nat.reduceMul, Nat.reduceEqDiff, hlen]
    have htl := textL_len (l := l.take k) fun c hc => hl c (List.mem_of_mem_take hc)
    rw [List.length_take, Nat.min_eq_left hk] at htl
    have htk := textL_take hlt
    generalize l[k] = c at hsub hok htk
    have hjl := join_len hok
    simp only [flC] at hsub
    simp (disch := first | assumption | omega | (simp only [szR] <;> omega) | rfl | decide) only [gen0, gen1, gen2, rulesN, litR, bolR, Nat.reduceAdd, Nat.reduceLeDiff, numR, memR, valR, heapR, updR, intR, decR, extR, slR, segR, thenR, pnR, Int.reduceToNat, Int.reduceAdd, Int.reduceSub, Int.reduceLT, Int.reduceLE, Nat.reduceSub, Nat.reduceMul, Nat.reduceEqDiff]
    refine joinL.intro fun J2 hJ2 => ?_
    have hrest : ∀ w2, Bld w w2 w.heap.size (textL (l.take k) ++ (joinN [32] [nameL c.k, wholeL c.p, decs c.a] ++ [10])) → Ext [] w w2 → J2 [] w2 := by
      intro w2 h1 h2
      apply hJ2
      intro _
      simp (disch := first | assumption | omega | (simp only [szR] <;> omega) | rfl | decide) only [gen0, gen1, gen2, rulesN, litR, bolR, Nat.reduceAdd, Nat.reduceLeDiff, numR, memR, valR, heapR, updR, intR, decR, extR, slR, segR, thenR, pnR, Int.reduceToNat, Int.reduceAdd, Int.reduceSub, Int.reduceLT, Int.reduceLE, Nat.reduceSub, Nat.reduceMul, Nat.reduceEqDiff]
      exact ⟨⟨k + 1, (k : Int) + 1, by omega, rfl, by omega, by rw [htk]; exact h1, h2⟩, by simp; omega⟩
    clear hJ2 hK
    have c5 : (w'.alloc (.cells [.int .i64 c.p, .int .i64 c.k, .int .u64 c.a].toArray 30)).heap[w'.heap.size]? = some (.cells [.int .i64 c.p, .int .i64 c.k, .int .u64 c.a].toArray 30 (0, 0)) := alloc_at rfl
    have hx1 : Ext [] w' (w'.alloc (.cells [.int .i64 c.p, .int .i64 c.k, .int .u64 c.a].toArray 30)) := by (repeat first | assumption | exact Ext.refl | apply Ext.alloc | apply Ext.drew | (refine Ext.updN ?_ ?_; (focus first | omega | (simp only [szR] <;> omega))) | (refine Ext.updI ?_ ?_; (focus (simp; done))))
    simp (disch := first | assumption | omega | (simp only [szR] <;> omega) | rfl | decide) only [gen0, gen1, gen2, rulesN, litR, bolR, Nat.reduceAdd, Nat.reduceLeDiff, numR, memR, valR, heapR, updR, intR, decR, extR, slR, segR, thenR, pnR, Int.reduceToNat, Int.reduceAdd, Int.reduceSub, Int.reduceLT, Int.reduceLE, Nat.reduceSub, Nat.reduceMul, Nat.reduceEqDiff, hix, hb, hsub, c5]
    repeat' (with_reducible apply And.intro)
    all_goals
      refine name_spec ?_
      simp (disch := first | assumption | omega | (simp only [szR] <;> omega) | rfl | decide) only [gen0, gen1, gen2, rulesN, litR, bolR, Nat.reduceAdd, Nat.reduceLeDiff, numR, memR, valR, heapR, updR, intR, decR, extR, slR, segR, thenR, pnR, Int.reduceToNat, Int.reduceAdd, Int.reduceSub, Int.reduceLT, Int.reduceLE, Nat.reduceSub, Nat.reduceMul, Nat.reduceEqDiff, c5]
      repeat' (with_reducible apply And.intro)
    all_goals
      refine whole_spec hok.1 fun w2 hx2 => ?_
      have hx12 : Ext [] (w'.alloc (.cells [.int .i64 c.p, .int .i64 c.k, .int .u64 c.a].toArray 30)) w2 := Ext.trans (S := []) (by (repeat first | assumption | exact Ext.refl | apply Ext.alloc | apply Ext.drew | (refine Ext.updN ?_ ?_; (focus first | omega | (simp only [szR] <;> omega))) | (refine Ext.updI ?_ ?_; (focus (simp; done))))) hx2 (by simp)
      have c52 := hx12.at c5 (by simp)
      simp (disch := first | assumption | omega | (simp only [szR] <;> omega) | rfl | decide) only [gen0, gen1, gen2, rulesN, litR, bolR, Nat.reduceAdd, Nat.reduceLeDiff, numR, memR, valR, heapR, updR, intR, decR, extR, slR, segR, thenR, pnR, Int.reduceToNat, Int.reduceAdd, Int.reduceSub, Int.reduceLT, Int.reduceLE, Nat.reduceSub, Nat.reduceMul, Nat.reduceEqDiff, c52]
      repeat' (with_reducible apply And.intro)
    all_goals
      refine digits_spec hok.2 fun w3 hx3 => ?_
      have hxw3 : Ext [] w' w3 := (hx1.trans hx12 (by simp)).trans (Ext.trans (S := []) (by (repeat first | assumption | exact Ext.refl | apply Ext.alloc | apply Ext.drew | (refine Ext.updN ?_ ?_; (focus first | omega | (simp only [szR] <;> omega))) | (refine Ext.updI ?_ ?_; (focus (simp; done))))) hx3 (by simp)) (by simp)
      simp (disch := first | assumption | omega | (simp only [szR] <;> omega) | rfl | decide) only [gen0, gen1, gen2, rulesN, litR, bolR, Nat.reduceAdd, Nat.reduceLeDiff, numR, memR, valR, heapR, updR, intR, decR, extR, slR, segR, thenR, pnR, Int.reduceToNat, Int.reduceAdd, Int.reduceSub, Int.reduceLT, Int.reduceLE, Nat.reduceSub, Nat.reduceMul, Nat.reduceEqDiff]
      refine Join_spec (xs := [nameL c.k, wholeL c.p, decs c.a]) (sep := [32]) (f := (0, 0)) (E := 9) (alloc_at rfl) rfl (by simp) (Nat.le_refl _) (by omega) fun w4 hx4 => ?_
      have hxw4 : Ext [] w' w4 := hxw3.trans (Ext.trans (S := []) (by (repeat first | assumption | exact Ext.refl | apply Ext.alloc | apply Ext.drew | (refine Ext.updN ?_ ?_; (focus first | omega | (simp only [szR] <;> omega))) | (refine Ext.updI ?_ ?_; (focus (simp; done))))) hx4 (by simp)) (by simp)
      have hadd : ∀ x y w, (binV .add 9 x y (.string (strOfNums (joinN [32] [nameL c.k, wholeL c.p, decs c.a]))) (.string ⟨#[10]⟩)).run Try.prog w = .ok (.string (strOfNums (joinN [32] [nameL c.k, wholeL c.p, decs c.a] ++ [10]))) w := by
        intro x y w
        have e : (⟨#[10]⟩ : ByteArray) = strOfNums [10] := rfl
        rw [run_addS (by rw [strOfNums_size]; show _ + 1 ≤ _; omega), e, strApp]
      simp (disch := first | assumption | omega | (simp only [szR] <;> omega) | rfl | decide) only [gen0, gen1, gen2, rulesN, litR, bolR, Nat.reduceAdd, Nat.reduceLeDiff, numR, memR, valR, heapR, updR, intR, decR, extR, slR, segR, thenR, pnR, Int.reduceToNat, Int.reduceAdd, Int.reduceSub, Int.reduceLT, Int.reduceLE, Nat.reduceSub, Nat.reduceMul, Nat.reduceEqDiff, hadd]
      refine WriteString_spec (hB.ext hxw4) (hx.trans hxw4 (by simp)) (by simp only [List.length_append, List.length_singleton]; omega) fun v5 w5 hB5 hx5 => ?_
      exact hrest _ hB5 hx5
  · obtain rfl : k = l.length := by omega
    rw [List.take_length] at hB
    simp (disch := first | assumption | omega | (simp only [szR] <;> omega) | rfl | decide) only [gen0, gen1, gen2, rulesN, litR, bolR, Nat.reduceAdd, Nat.reduceLeDiff, numR, memR, valR, heapR, updR, intR, decR, extR, slR, segR, thenR, pnR, Int.reduceToNat, Int.reduceAdd, Int.reduceSub, Int.reduceLT, Int.reduceLE, Nat.reduceSub, Nat.reduceMul, Nat.reduceEqDiff]
    exact BString_spec hB hx hK
end Go.Proofs.Ytgnibcaflidjmaa
