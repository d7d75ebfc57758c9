/- Any faults have the document's lines: the walk; conditions: those of each theorem. -/
import Derived.Test.YtgnibcaflidjmaaText30
namespace Go.Proofs.Ytgnibcaflidjmaa
open Go.Fx Go.ChangeShapes Go.WideShapes
set_option maxRecDepth 100000
set_option linter.unusedSimpArgs false
set_option linter.unusedVariables false
theorem app25f {base : Nat} {v x : Value} {rows rows2 : List (List Value)} {w : World} {K : Value → World → Prop} (hown : OwnR w base 71 3 v rows) (hx : RowsAt w x 3 rows2) (h1 : ∀ r ∈ rows2, r.all (fun v => v.oneCell') = true)
    (hl : rows.length + rows2.length ≤ 1000000) (hbase : base ≤ w.heap.size) (hK : ∀ v' w', OwnR w' base 71 3 v' (rows ++ rows2) → App base v w w' → K v' w') : resV K ((Builtin.append_ #[25, 25] 25 #[v, x]).run Try.prog w) :=
  kV_appR Try.underlying25 (by kernel_rfl) (by omega) (bytes := 24) hown hx h1 (by simp only [maxLen]; omega) (by omega) hbase hK
theorem own_spec {w : World} {v : Value} {l : List Flt} (hv : RowsAt w v 3 (l.map flC)) (h100 : l.length ≤ 100) {K : Value → World → Prop} (hK : ∀ v' w', RowsAt w' v' 3 (l.map flC) → Ext [] w w' → K v' w') :
    callsK Try.prog 10 #[v] w K := by
  have hlen : (l.map flC).length = l.length := List.length_map ..
  have hlv := hv.lenR (ty := 3) Try.underlying22
  rw [hlen] at hlv
  apply F10_ok
  unfold F10
  refine loopT.intro (fun st w' => ∃ (k : Nat) (z : Int) (r : Value), k ≤ l.length ∧ st = [r, .int .i64 z] ∧ z = k ∧ OwnR w' w.heap.size 71 3 r ((l.take k).map flC) ∧ Ext [] w w')
    (fun st _ => match st with
      | [_, .int _ z] => l.length - z.toNat
      | _ => 0) ⟨0, 0, _, by omega, rfl, rfl, OwnR.nil, Ext.refl⟩ ?_
  rintro st w' ⟨k, z, r, hk, rfl, rfl, ho, hx⟩ _
  have hv' := hv.ext hx (by simp)
  by_cases hlt : k < l.length
  · obtain ⟨b, o, cap, La, E, f, he, hb, hfit, hsub, -⟩ := hv'.row (k := k) (r := flC l[k]) (by simp [hlt])
    have hix : ∀ w, (Instr.indexAt 22 v (.int .i64 k)).run Try.prog w = .ok (.pointer (some ⟨b, o + k * 3, none⟩)) w := by
      rw [he]
      intro w
      simp (disch := first | assumption | omega | (simp only [szR, List.length_append, List.length_cons, List.length_nil] <;> omega) | rfl | decide) only [gen0, gen1, gen2, rulesN, litR, bolR, Nat.reduceAdd, Nat.reduceLeDiff, numR, memR, valR, heapR, updR, intR, decR, extR, slR, segR, thenR, pnR, Int.reduceToNat, Int.reduceAdd, Int.reduceSub, Int.reduceLT, Int.reduceLE, Nat.reduceSub, Nat.reduceMul, Nat.reduceEqDiff, hlen]
    have htk : (l.take (k + 1)).map flC = (l.take k).map flC ++ [flC l[k]] := by rw [List.take_succ_eq_append_getElem hlt, List.map_append]; rfl
    generalize l[k] = c at hsub htk
    simp only [flC] at hsub
    simp (disch := first | assumption | omega | (simp only [szR, List.length_append, List.length_cons, List.length_nil] <;> omega) | rfl | decide) only [gen0, gen1, gen2, rulesN, litR, bolR, Nat.reduceAdd, Nat.reduceLeDiff, numR, memR, valR, heapR, updR, intR, decR, extR, slR, segR, thenR, pnR, Int.reduceToNat, Int.reduceAdd, Int.reduceSub, Int.reduceLT, Int.reduceLE, Nat.reduceSub, Nat.reduceMul, Nat.reduceEqDiff, hlv, hix, hb, hsub]
    have hx1 : Ext [] w' (w'.alloc (.cells [.int .i64 c.p, .int .i64 c.k, .int .u64 c.a].toArray 71)) := by (repeat first | assumption | exact Ext.refl | apply Ext.alloc | apply Ext.drew | (refine Ext.updN ?_ ?_; (focus first | omega | (simp only [szR] <;> omega))) | (refine Ext.updI ?_ ?_; (focus (simp; done))))
    refine app25f (rows2 := [flC c]) (ho.ext hx1 (by simp)) (OwnR.fresh (base := 0) (size := 3) rfl rfl (Nat.zero_le _)).rows (fun r hr => by rw [List.mem_singleton.1 hr]; rfl) (by simp; omega) (by have := hx.size; simp only [szR]; omega) fun v2 w2 ho2 ha2 => ?_
    simp (disch := first | assumption | omega | (simp only [szR, List.length_append, List.length_cons, List.length_nil] <;> omega) | rfl | decide) only [gen0, gen1, gen2, rulesN, litR, bolR, Nat.reduceAdd, Nat.reduceLeDiff, numR, memR, valR, heapR, updR, intR, decR, extR, slR, segR, thenR, pnR, Int.reduceToNat, Int.reduceAdd, Int.reduceSub, Int.reduceLT, Int.reduceLE, Nat.reduceSub, Nat.reduceMul, Nat.reduceEqDiff]
    exact ⟨⟨k + 1, (k : Int) + 1, v2, by omega, rfl, by omega, by rw [htk]; exact ho2, ha2.ext w [] (Nat.le_refl _) (hx.trans hx1 (by simp))⟩, by simp; omega⟩
  · obtain rfl : k = l.length := by omega
    rw [List.take_length] at ho
    simp (disch := first | assumption | omega | (simp only [szR, List.length_append, List.length_cons, List.length_nil] <;> omega) | rfl | decide) only [gen0, gen1, gen2, rulesN, litR, bolR, Nat.reduceAdd, Nat.reduceLeDiff, numR, memR, valR, heapR, updR, intR, decR, extR, slR, segR, thenR, pnR, Int.reduceToNat, Int.reduceAdd, Int.reduceSub, Int.reduceLT, Int.reduceLE, Nat.reduceSub, Nat.reduceMul, Nat.reduceEqDiff, hlv]
    exact hK _ _ ho.rows hx
theorem wrapN (k : Int) (h : -9223372036854775808 ≤ k ∧ k < 9223372036854775808) (hn : k < 0) : IntKind.u64.wrap (IntKind.i64.wrap (0 - k)) = ((-k).toNat : Int) := by
  simp only [IntKind.wrap, IntKind.signed, IntKind.bits]
  simp
  omega
theorem wrapK (k : Int) (h : -9223372036854775808 ≤ k ∧ k < 9223372036854775808) : ∃ n : Nat, IntKind.u64.wrap k = n ∧ n < 18446744073709551616 ∧ (0 ≤ k → n = k.toNat) := by
  refine ⟨(IntKind.u64.wrap k).toNat, ?_, ?_, ?_⟩
  all_goals
    simp only [IntKind.wrap, IntKind.signed, IntKind.bits]
    simp
    omega
theorem lineL_eq (c : Flt) : lineL c = nameL c.k ++ ([32] ++ (wholeL c.p ++ ([32] ++ (decs c.a ++ [10])))) := by simp [lineL, joinN]
set_option maxHeartbeats 4000000 in
theorem RText_spec {w : World} {v : Value} {l : List Flt} (hv : RowsAt w v 3 (l.map flC)) (hl : ∀ c ∈ l, c.Ok) (h100 : l.length ≤ 100) {K : Value → World → Prop} (hK : ∀ w', Ext [] w w' → K (.string (strOfNums (textL l))) w') :
    callsK Try.prog 9 #[v] w K := by
  have hlen : (l.map flC).length = l.length := List.length_map ..
  have hlv := hv.lenR (ty := 3) Try.underlying25
  rw [hlen] at hlv
  apply F9_ok
  unfold F9
  refine loopT.intro (fun st w' => ∃ (k : Nat) (z : Int), k ≤ l.length ∧ st = [.string (strOfNums (textL (l.take k))), .int .i64 z] ∧ z = k ∧ Ext [] w w')
    (fun st _ => match st with
      | [_, .int _ z] => l.length - z.toNat
      | _ => 0) ⟨0, 0, by omega, rfl, rfl, Ext.refl⟩ ?_
  rintro st w' ⟨k, z, hk, rfl, rfl, hx⟩ _
  have hv' := hv.ext hx (by simp)
  by_cases hlt : k < l.length
  · obtain ⟨b, o, cap, La, E, f, he, hb, hfit, -, hget⟩ := hv'.row (k := k) (r := flC l[k]) (by simp [hlt])
    have hok := hl l[k] (List.getElem_mem hlt)
    have hix : ∀ w, (Instr.indexAt 25 v (.int .i64 k)).run Try.prog w = .ok (.pointer (some ⟨b, o + k * 3, none⟩)) w := by
      rw [he]
      intro w
      simp (disch := first | assumption | omega | (simp only [szR, List.length_append, List.length_cons, List.length_nil] <;> omega) | rfl | decide) only [gen0, gen1, gen2, rulesN, litR, bolR, Nat.reduceAdd, Nat.reduceLeDiff, numR, memR, valR, heapR, updR, intR, decR, extR, slR, segR, thenR, pnR, Int.reduceToNat, Int.reduceAdd, Int.reduceSub, Int.reduceLT, Int.reduceLE, Nat.reduceSub, Nat.reduceMul, Nat.reduceEqDiff, hlen]
    have hg0 : ∀ p, p = o + k * 3 → La[p]? = some (.int .i64 l[k].p) := fun p hp => by rw [hget p (by omega) (by omega)]; subst hp; simp [flC]
    have hg1 : ∀ p, p = o + k * 3 + 1 → La[p]? = some (.int .i64 l[k].k) := fun p hp => by rw [hget p (by omega) (by omega)]; subst hp; simp [show o + k * 3 + 1 - (o + k * 3) = 1 by omega, flC]
    have hg2 : ∀ p, p = o + k * 3 + 2 → La[p]? = some (.int .u64 l[k].a) := fun p hp => by rw [hget p (by omega) (by omega)]; subst hp; simp [show o + k * 3 + 2 - (o + k * 3) = 2 by omega, flC]
    have htl := textL_len (l := l.take k) fun c hc => hl c (List.mem_of_mem_take hc)
    rw [List.length_take, Nat.min_eq_left hk] at htl
    have htk := textL_take hlt
    clear hget
    generalize l[k] = c at hg0 hg1 hg2 hok htk
    generalize textL (l.take k) = tx at htl htk
    have n1 := nameL_len c.k
    have n2 := wholeL_len hok.1
    have n3 := decs_le hok.2
    obtain ⟨n, hn, hn64, hnp⟩ := wrapK c.p hok.1
    have e32 : (⟨#[32]⟩ : ByteArray) = strOfNums [32] := rfl
    have e10 : (⟨#[10]⟩ : ByteArray) = strOfNums [10] := rfl
    have e45 : (⟨#[45]⟩ : ByteArray) = strOfNums [45] := rfl
    have hadd : ∀ (a b : List Int) x y w, a.length + b.length ≤ 1000000 → (binV .add 9 x y (.string (strOfNums a)) (.string (strOfNums b))).run Try.prog w = .ok (.string (strOfNums (a ++ b))) w := by
      intro a b x y w h
      rw [run_addS (by rw [strOfNums_size, strOfNums_size]; omega), strApp]
    simp (disch := first | assumption | omega | (simp only [szR, List.length_append, List.length_cons, List.length_nil] <;> omega) | rfl | decide) only [gen0, gen1, gen2, rulesN, litR, bolR, Nat.reduceAdd, Nat.reduceLeDiff, numR, memR, valR, heapR, updR, intR, decR, extR, slR, segR, thenR, pnR, Int.reduceToNat, Int.reduceAdd, Int.reduceSub, Int.reduceLT, Int.reduceLE, Nat.reduceSub, Nat.reduceMul, Nat.reduceEqDiff, hlv]
    refine joinL.intro fun J2 hJ2 => ?_
    have hrest : ∀ w2 t2, t2 = tx ++ lineL c → Ext [] w w2 → J2 [.string (strOfNums t2)] w2 := by
      rintro w2 t2 rfl h2
      apply hJ2
      intro _
      simp (disch := first | assumption | omega | (simp only [szR, List.length_append, List.length_cons, List.length_nil] <;> omega) | rfl | decide) only [gen0, gen1, gen2, rulesN, litR, bolR, Nat.reduceAdd, Nat.reduceLeDiff, numR, memR, valR, heapR, updR, intR, decR, extR, slR, segR, thenR, pnR, Int.reduceToNat, Int.reduceAdd, Int.reduceSub, Int.reduceLT, Int.reduceLE, Nat.reduceSub, Nat.reduceMul, Nat.reduceEqDiff]
      exact ⟨⟨k + 1, (k : Int) + 1, by omega, by rw [htk], by omega, h2⟩, by simp; omega⟩
    clear hJ2 hK
    simp (disch := first | assumption | omega | (simp only [szR, List.length_append, List.length_cons, List.length_nil] <;> omega) | rfl | decide) only [gen0, gen1, gen2, rulesN, litR, bolR, Nat.reduceAdd, Nat.reduceLeDiff, numR, memR, valR, heapR, updR, intR, decR, extR, slR, segR, thenR, pnR, Int.reduceToNat, Int.reduceAdd, Int.reduceSub, Int.reduceLT, Int.reduceLE, Nat.reduceSub, Nat.reduceMul, Nat.reduceEqDiff, hix, hb, hg0, hn]
    refine rdigits_spec n hn64 _ _ ?_
    refine joinL.intro fun J4 hJ4 => ?_
    have hfour : ∀ w2, Ext [] w' w2 → J4 [.string (strOfNums (wholeL c.p))] w2 := by
      intro w2 hx2
      have hb2 := hx2.at hb (by simp)
      apply hJ4
      intro _
      simp (disch := first | assumption | omega | (simp only [szR, List.length_append, List.length_cons, List.length_nil] <;> omega) | rfl | decide) only [gen0, gen1, gen2, rulesN, litR, bolR, Nat.reduceAdd, Nat.reduceLeDiff, numR, memR, valR, heapR, updR, intR, decR, extR, slR, segR, thenR, pnR, Int.reduceToNat, Int.reduceAdd, Int.reduceSub, Int.reduceLT, Int.reduceLE, Nat.reduceSub, Nat.reduceMul, Nat.reduceEqDiff, hix, hb2, hg1, hg2, e32, e10, hadd]
      repeat' (with_reducible apply And.intro)
      all_goals
        refine rname_spec fun w3 hx3 => ?_
        have hb3 := hx3.at (hx2.at hb (by simp)) (by simp)
        simp (disch := first | assumption | omega | (simp only [szR, List.length_append, List.length_cons, List.length_nil] <;> omega) | rfl | decide) only [gen0, gen1, gen2, rulesN, litR, bolR, Nat.reduceAdd, Nat.reduceLeDiff, numR, memR, valR, heapR, updR, intR, decR, extR, slR, segR, thenR, pnR, Int.reduceToNat, Int.reduceAdd, Int.reduceSub, Int.reduceLT, Int.reduceLE, Nat.reduceSub, Nat.reduceMul, Nat.reduceEqDiff, hix, hb3, hg2, e32, e10, hadd]
        refine rdigits_spec c.a hok.2 _ _ ?_
        simp (disch := first | assumption | omega | (simp only [szR, List.length_append, List.length_cons, List.length_nil] <;> omega) | rfl | decide) only [gen0, gen1, gen2, rulesN, litR, bolR, Nat.reduceAdd, Nat.reduceLeDiff, numR, memR, valR, heapR, updR, intR, decR, extR, slR, segR, thenR, pnR, Int.reduceToNat, Int.reduceAdd, Int.reduceSub, Int.reduceLT, Int.reduceLE, Nat.reduceSub, Nat.reduceMul, Nat.reduceEqDiff, e32, e10, hadd]
        refine hrest _ _ (by rw [lineL_eq]; simp) ((hx.trans hx2 (by simp)).trans (Ext.trans (S := []) (by (repeat first | assumption | exact Ext.refl | apply Ext.alloc | apply Ext.drew | (refine Ext.updN ?_ ?_; (focus first | omega | (simp only [szR] <;> omega))) | (refine Ext.updI ?_ ?_; (focus (simp; done))))) hx3 (by simp)) (by simp))
    clear hJ4 hrest
    by_cases hneg : c.p < 0
    · have hw := wrapN c.p hok.1 hneg
      have hp1 := hok.1.1
      have ew : wholeL c.p = 45 :: decs (-c.p).toNat := by simp [wholeL, hneg]
      have hdl := decs_le (n := (-c.p).toNat) (by omega)
      simp (disch := first | assumption | omega | (simp only [szR, List.length_append, List.length_cons, List.length_nil] <;> omega) | rfl | decide) only [gen0, gen1, gen2, rulesN, litR, bolR, Nat.reduceAdd, Nat.reduceLeDiff, numR, memR, valR, heapR, updR, intR, decR, extR, slR, segR, thenR, pnR, Int.reduceToNat, Int.reduceAdd, Int.reduceSub, Int.reduceLT, Int.reduceLE, Nat.reduceSub, Nat.reduceMul, Nat.reduceEqDiff, hix, hb, hg0, hw]
      refine rdigits_spec _ (by omega) _ _ ?_
      simp (disch := first | assumption | omega | (simp only [szR, List.length_append, List.length_cons, List.length_nil] <;> omega) | rfl | decide) only [gen0, gen1, gen2, rulesN, litR, bolR, Nat.reduceAdd, Nat.reduceLeDiff, numR, memR, valR, heapR, updR, intR, decR, extR, slR, segR, thenR, pnR, Int.reduceToNat, Int.reduceAdd, Int.reduceSub, Int.reduceLT, Int.reduceLE, Nat.reduceSub, Nat.reduceMul, Nat.reduceEqDiff, e45, hadd]
      have := hfour w' Ext.refl
      rw [ew] at this
      exact this
    · have ew : wholeL c.p = decs c.p.toNat := by simp [wholeL, hneg]
      simp (disch := first | assumption | omega | (simp only [szR, List.length_append, List.length_cons, List.length_nil] <;> omega) | rfl | decide) only [gen0, gen1, gen2, rulesN, litR, bolR, Nat.reduceAdd, Nat.reduceLeDiff, numR, memR, valR, heapR, updR, intR, decR, extR, slR, segR, thenR, pnR, Int.reduceToNat, Int.reduceAdd, Int.reduceSub, Int.reduceLT, Int.reduceLE, Nat.reduceSub, Nat.reduceMul, Nat.reduceEqDiff, hix, hb, hg0]
      have := hfour w' Ext.refl
      rw [ew, ← hnp (by omega)] at this
      exact this
  · obtain rfl : k = l.length := by omega
    rw [List.take_length]
    simp (disch := first | assumption | omega | (simp only [szR, List.length_append, List.length_cons, List.length_nil] <;> omega) | rfl | decide) only [gen0, gen1, gen2, rulesN, litR, bolR, Nat.reduceAdd, Nat.reduceLeDiff, numR, memR, valR, heapR, updR, intR, decR, extR, slR, segR, thenR, pnR, Int.reduceToNat, Int.reduceAdd, Int.reduceSub, Int.reduceLT, Int.reduceLE, Nat.reduceSub, Nat.reduceMul, Nat.reduceEqDiff, hlv]
    exact hK _ hx
theorem eqlSelf (a : List Int) (x y : Operand) (w : World) : (binV .eql 9 x y (.string (strOfNums a)) (.string (strOfNums a))).run Try.prog w = .ok (.bool true) w := by
  rw [run_eqlS]
  simp
theorem names_spec {w : World} {v : Value} {l : List Flt} {k : Int} (hv : RowsAt w v 3 (l.map flC)) (hl : ∀ c ∈ l, c.Ok) {K : Value → World → Prop} (hK : ∀ w', Ext [] w w' → K (.bool true) w') :
    callsK Try.prog 3 #[v, .int .i64 k] w K := by
  have hlen : (l.map flC).length = l.length := List.length_map ..
  have hlv := hv.lenR (ty := 3) Try.underlying22
  rw [hlen] at hlv
  have e7 : (⟨#[115, 116, 114, 97, 121, 32, 49, 32, 55, 10]⟩ : ByteArray) = strOfNums (textL [⟨1, 5, 7⟩]) := by
    have d1 : decs 1 = [49] := by rw [decs_small (by omega)]; rfl
    have d7 : decs 7 = [55] := by rw [decs_small (by omega)]; rfl
    simp [textL, lineL, joinN, nameL, wholeL, d1, d7]
    rfl
  apply F3_ok
  unfold F3
  refine joinL.intro fun J0 hJ0 => ?_
  have hrest : ∀ (v' : Value) (l' : List Flt), RowsAt w v' 3 (l'.map flC) → (∀ c ∈ l', c.Ok) → l'.length ≤ 100 → J0 [v'] w := by
    intro v' l' hv' hl' h'
    apply hJ0
    intro _
    simp (disch := first | assumption | omega | (simp only [szR, List.length_append, List.length_cons, List.length_nil] <;> omega) | rfl | decide) only [gen0, gen1, gen2, rulesN, litR, bolR, Nat.reduceAdd, Nat.reduceLeDiff, numR, memR, valR, heapR, updR, intR, decR, extR, slR, segR, thenR, pnR, Int.reduceToNat, Int.reduceAdd, Int.reduceSub, Int.reduceLT, Int.reduceLE, Nat.reduceSub, Nat.reduceMul, Nat.reduceEqDiff]
    refine Text_spec hv' hl' h' fun w1 hx1 => ?_
    simp (disch := first | assumption | omega | (simp only [szR, List.length_append, List.length_cons, List.length_nil] <;> omega) | rfl | decide) only [gen0, gen1, gen2, rulesN, litR, bolR, Nat.reduceAdd, Nat.reduceLeDiff, numR, memR, valR, heapR, updR, intR, decR, extR, slR, segR, thenR, pnR, Int.reduceToNat, Int.reduceAdd, Int.reduceSub, Int.reduceLT, Int.reduceLE, Nat.reduceSub, Nat.reduceMul, Nat.reduceEqDiff]
    refine own_spec (hv'.ext hx1 (by simp)) h' fun v2 w2 hv2 hx2 => ?_
    simp (disch := first | assumption | omega | (simp only [szR, List.length_append, List.length_cons, List.length_nil] <;> omega) | rfl | decide) only [gen0, gen1, gen2, rulesN, litR, bolR, Nat.reduceAdd, Nat.reduceLeDiff, numR, memR, valR, heapR, updR, intR, decR, extR, slR, segR, thenR, pnR, Int.reduceToNat, Int.reduceAdd, Int.reduceSub, Int.reduceLT, Int.reduceLE, Nat.reduceSub, Nat.reduceMul, Nat.reduceEqDiff]
    refine RText_spec hv2 hl' h' fun w3 hx3 => ?_
    simp (disch := first | assumption | omega | (simp only [szR, List.length_append, List.length_cons, List.length_nil] <;> omega) | rfl | decide) only [gen0, gen1, gen2, rulesN, litR, bolR, Nat.reduceAdd, Nat.reduceLeDiff, numR, memR, valR, heapR, updR, intR, decR, extR, slR, segR, thenR, pnR, Int.reduceToNat, Int.reduceAdd, Int.reduceSub, Int.reduceLT, Int.reduceLE, Nat.reduceSub, Nat.reduceMul, Nat.reduceEqDiff, joinBR, eqlSelf]
    refine name_spec ?_
    simp (disch := first | assumption | omega | (simp only [szR, List.length_append, List.length_cons, List.length_nil] <;> omega) | rfl | decide) only [gen0, gen1, gen2, rulesN, litR, bolR, Nat.reduceAdd, Nat.reduceLeDiff, numR, memR, valR, heapR, updR, intR, decR, extR, slR, segR, thenR, pnR, Int.reduceToNat, Int.reduceAdd, Int.reduceSub, Int.reduceLT, Int.reduceLE, Nat.reduceSub, Nat.reduceMul, Nat.reduceEqDiff, joinBR]
    refine rname_spec fun w4 hx4 => ?_
    have hx14 := ((hx1.trans hx2 (by simp)).trans hx3 (by simp)).trans hx4 (by simp)
    simp (disch := first | assumption | omega | (simp only [szR, List.length_append, List.length_cons, List.length_nil] <;> omega) | rfl | decide) only [gen0, gen1, gen2, rulesN, litR, bolR, Nat.reduceAdd, Nat.reduceLeDiff, numR, memR, valR, heapR, updR, intR, decR, extR, slR, segR, thenR, pnR, Int.reduceToNat, Int.reduceAdd, Int.reduceSub, Int.reduceLT, Int.reduceLE, Nat.reduceSub, Nat.reduceMul, Nat.reduceEqDiff, joinBR, eqlSelf]
    refine Text_spec (l := [⟨1, 5, 7⟩]) (RowsAt.one (alloc_at rfl) rfl) (fun c hc => by rw [List.mem_singleton.1 hc]; exact ⟨⟨by decide, by decide⟩, by decide⟩) (by simp) fun w5 hx5 => ?_
    simp (disch := first | assumption | omega | (simp only [szR, List.length_append, List.length_cons, List.length_nil] <;> omega) | rfl | decide) only [gen0, gen1, gen2, rulesN, litR, bolR, Nat.reduceAdd, Nat.reduceLeDiff, numR, memR, valR, heapR, updR, intR, decR, extR, slR, segR, thenR, pnR, Int.reduceToNat, Int.reduceAdd, Int.reduceSub, Int.reduceLT, Int.reduceLE, Nat.reduceSub, Nat.reduceMul, Nat.reduceEqDiff, joinBR, e7, eqlSelf]
    exact hK _ (hx14.trans (Ext.trans (S := []) (by (repeat first | assumption | exact Ext.refl | apply Ext.alloc | apply Ext.drew | (refine Ext.updN ?_ ?_; (focus first | omega | (simp only [szR] <;> omega))) | (refine Ext.updI ?_ ?_; (focus (simp; done))))) hx5 (by simp)) (by simp))
  clear hJ0
  by_cases h : 100 < l.length
  · simp (disch := first | assumption | omega | (simp only [szR, List.length_append, List.length_cons, List.length_nil] <;> omega) | rfl | decide) only [gen0, gen1, gen2, rulesN, litR, bolR, Nat.reduceAdd, Nat.reduceLeDiff, numR, memR, valR, heapR, updR, intR, decR, extR, slR, segR, thenR, pnR, Int.reduceToNat, Int.reduceAdd, Int.reduceSub, Int.reduceLT, Int.reduceLE, Nat.reduceSub, Nat.reduceMul, Nat.reduceEqDiff, hlv]
    refine kV_cut Try.underlying22 Try.sizeOf30 hv 0 100 (by omega) (by omega) (.inl ⟨rfl, rfl⟩) (.inr ⟨_, _, rfl, rfl⟩) fun v9 h9 b9 => ?_
    have e : (List.drop 0 ((l.map flC).take 100)) = (l.take 100).map flC := by rw [List.drop_zero, List.map_take]
    refine hrest v9 (l.take 100) ?_ (fun c hc => hl c (List.mem_of_mem_take hc)) (by simp; omega)
    rw [← e]
    exact h9 _ hv
  · simp (disch := first | assumption | omega | (simp only [szR, List.length_append, List.length_cons, List.length_nil] <;> omega) | rfl | decide) only [gen0, gen1, gen2, rulesN, litR, bolR, Nat.reduceAdd, Nat.reduceLeDiff, numR, memR, valR, heapR, updR, intR, decR, extR, slR, segR, thenR, pnR, Int.reduceToNat, Int.reduceAdd, Int.reduceSub, Int.reduceLT, Int.reduceLE, Nat.reduceSub, Nat.reduceMul, Nat.reduceEqDiff, hlv]
    exact hrest v l hv hl (by omega)
theorem cellsF30 : Try.prog.cellsOf 30 = 3 := by kernel_rfl
theorem cellsU30 : Try.prog.cellsOf 28 = 1 := by kernel_rfl
theorem cellsI30 : Try.prog.cellsOf 3 = 1 := by kernel_rfl
theorem i64_of {n : Int} (h : (Lit.int .i64 n).wf = true) : -9223372036854775808 ≤ n ∧ n < 9223372036854775808 := by
  have : -9223372036854775808 ≤ n ∧ n ≤ 9223372036854775807 := by simpa [Lit.wf, IntKind.min, IntKind.max, IntKind.signed, IntKind.bits] using h
  omega
theorem u64_of30 {n : Int} (h : (Lit.int .u64 n).wf = true) : 0 ≤ n ∧ n < 18446744073709551616 := by
  have : 0 ≤ n ∧ n ≤ 18446744073709551615 := by simpa [Lit.wf, IntKind.min, IntKind.max, IntKind.signed, IntKind.bits] using h
  omega
theorem open_flt {H : Type} {enc : TypeId × Value → H} {w : World} {base fuel : Nat} {spare : Nat → Bool} {held : Bool} {cs : List Value} {x : DataW H × List MemPlace} (h : DataW.trod enc Try.prog w base spare held fuel 30 cs = some x) : ∃ c : Flt, cs = flC c ∧ c.Ok := by
  have hl := (fields_of Try.underlying30 h).1
  rw [cellsF30] at hl
  obtain ⟨a, h0, w0⟩ := field_int Try.underlying30 h 0 0 rfl Try.underlying3 cellsI30
  obtain ⟨b, h1, -⟩ := field_int Try.underlying30 h 1 1 rfl Try.underlying3 cellsI30
  obtain ⟨n, h2, w2⟩ := field_int Try.underlying30 h 2 2 rfl Try.underlying28 cellsU30
  have ha := i64_of w0
  have hn := u64_of30 w2
  match cs, hl with
  | [c0, c1, c2], _ =>
    simp at h0 h1 h2
    subst h0 h1 h2
    refine ⟨⟨a, b, n.toNat⟩, ?_, ⟨ha, by show n.toNat < _; omega⟩⟩
    have e : ((n.toNat : Nat) : Int) = n := by omega
    simp only [flC, e]
theorem argFaults {H : Type} {enc : TypeId × Value → H} {w : World} {base b0 : Nat} {spare : Nat → Bool} {held : Bool} {r : Reach} {v : Value} {d : DataW H} {ps : List MemPlace} (hval : Value.okWide Try.prog w r b0 22 v) (h : DataW.Trod enc Try.prog w base spare held 22 v d ps) :
    ∃ l : List Flt, RowsAt w v 3 (l.map flC) ∧ ∀ c ∈ l, c.Ok := by
  obtain ⟨fuel, x, hx⟩ := slice_trod Try.underlying22 hval h
  obtain ⟨v', rows, he, hr, hall⟩ := open_rows Try.underlying22 cellsF30 (by omega) hx
  have : ∃ l : List Flt, rows = l.map flC ∧ ∀ c ∈ l, c.Ok := by
    clear hr
    induction rows with
    | nil => exact ⟨[], rfl, by simp⟩
    | cons r rows ih =>
      obtain ⟨l, rfl, hl⟩ := ih fun r hr => hall r (List.mem_cons_of_mem _ hr)
      obtain ⟨m, y, hy⟩ := hall r (List.mem_cons_self ..)
      obtain ⟨c, rfl, hc⟩ := open_flt hy
      exact ⟨c :: l, rfl, fun d hd => (List.mem_cons.1 hd).elim (fun e => e ▸ hc) (hl d)⟩
  obtain ⟨l, rfl, hl⟩ := this
  cases he
  exact ⟨l, hr, hl⟩
end Go.Proofs.Ytgnibcaflidjmaa
