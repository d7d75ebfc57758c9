/- All frames that are taken, told by going over the bits; conditions: those of each theorem. -/
import Derived.Laws.EntriesVeiled
import Derived.Test.YtfpcflmgipklcaaSOnes
import Derived.Test.YtfpcflmgipklcaaRel
import Derived.Test.YtfpcflmgipklcaaFT
import Derived.Test.YtfpcflmgipklcaaRT
namespace Go.Proofs.Ytfpcflmgipklcaa
open Go Go.Fx Go.RowKit Go.Shelf
attribute [local go_sem] Oper.semAt_some
set_option maxRecDepth 100000
set_option linter.unusedSimpArgs false
set_option linter.unusedVariables false
theorem appI {base : Nat} {v x : Value} {rows rows2 : List (List Value)} {w : World} {K : Value → World → Prop} (hown : OwnR w base 3 1 v rows) (hx : RowsAt w x 1 rows2) (h1 : ∀ r ∈ rows2, r.all (fun v => v.oneCell') = true)
    (hl : rows.length + rows2.length ≤ 1000000) (hbase : base ≤ w.heap.size) (hK : ∀ v' w', OwnR w' base 3 1 v' (rows ++ rows2) → App base v w w' → K v' w') : resV K ((Builtin.append_ #[38, 38] 38 #[v, x]).run Try.prog w) :=
  kV_appR Try.underlying38 (by kernel_rfl) (by omega) (bytes := 8) hown hx h1 (by simp only [maxLen]; omega) (by omega) hbase hK
def kC (k : Nat) : List Value := [.int .i64 (k : Nat)]
theorem kC_all (l : List Nat) : ∀ r ∈ l.map kC, r.all (fun v => v.oneCell') = true := by
  intro r hr
  obtain ⟨l, -, rfl⟩ := List.mem_map.1 hr
  rfl
theorem takeC_spec {w : World} {b base k : Nat} {v : Value} {l : List Nat} (hb : w.heap[b]? = some (.cells [v].toArray 38 (0, 0))) (ho : OwnR w base 3 1 v (l.map kC)) (hbb : b < base) (hbase : base ≤ w.heap.size) (hl : l.length ≤ 1000) {K : Value → World → Prop}
    (hK : ∀ v' w', w'.heap[b]? = some (.cells [v'].toArray 38 (0, 0)) → OwnR w' base 3 1 v' ((l ++ [k]).map kC) → Ext (b :: (blockOf v).toList) w w' → K (.tuple #[]) w') :
    callsK Try.prog 71 #[.int .i64 (k : Nat), .pointer (some ⟨b, 0, none⟩)] w K := by
  apply F71_ok
  unfold F71
  obtain ⟨a, c, rfl⟩ := ho.rows.len
  simp (disch := first | assumption | omega | (simp only [szR] <;> omega) | rfl | decide) only [gen0, gen1, gen2, rulesT, litR, bolR, Nat.reduceAdd, Nat.reduceLeDiff, numR, memR, valR, heapR, updR, intR, decR, extR, slR, segR, thenR, pnR, Int.reduceToNat, Int.reduceAdd, Int.reduceSub, Int.reduceLT, Int.reduceLE, Nat.reduceSub, Nat.reduceMul, Nat.reduceEqDiff, hb]
  have hxa : Ext [] w (w.alloc (.cells (kC k).toArray 3)) := Ext.alloc Ext.refl _ _
  refine appI (rows2 := [kC k]) (base := base) (ho.ext hxa (by simp)) (RowsAt.one (l := kC k) (by first | with_reducible rfl | assumption | (simp (disch := first | assumption | omega | (simp only [szR] <;> omega) | rfl | decide) only [gen0, gen1, gen2, rulesT, litR, bolR, Nat.reduceAdd, Nat.reduceLeDiff, numR, memR, valR, heapR, updR, intR, decR, extR, slR, segR, thenR, pnR, Int.reduceToNat, Int.reduceAdd, Int.reduceSub, Int.reduceLT, Int.reduceLE, Nat.reduceSub, Nat.reduceMul, Nat.reduceEqDiff] <;> rfl)) rfl) (kC_all [k]) (by simp; omega) (by simp only [szR]; omega) fun v2 w2 ho2 hp2 => ?_
  have hne : ∀ j, blockOf (Value.slice a (l.map kC).length c) = some j → base ≤ j := ho.block
  have hb2 : w2.heap[b]? = some (.cells [Value.slice a (l.map kC).length c].toArray 38 (0, 0)) := hp2.step.at (hxa.at hb (by simp)) (fun hm => by have := hne b (by simpa using hm); omega)
  rw [show l.map kC ++ [kC k] = (l ++ [k]).map kC by simp] at ho2
  obtain ⟨a2, c2, rfl⟩ := ho2.rows.len
  have lb := lt_of_at hb2
  simp (disch := first | assumption | omega | (simp only [szR] <;> omega) | rfl | decide) only [gen0, gen1, gen2, rulesT, litR, bolR, Nat.reduceAdd, Nat.reduceLeDiff, numR, memR, valR, heapR, updR, intR, decR, extR, slR, segR, thenR, pnR, Int.reduceToNat, Int.reduceAdd, Int.reduceSub, Int.reduceLT, Int.reduceLE, Nat.reduceSub, Nat.reduceMul, Nat.reduceEqDiff, hb2]
  have hxu : Ext [b] w2 (World.upd w2 b [.slice a2 ((l ++ [k]).map kC).length c2]) := by (repeat first | assumption | exact Ext.refl | apply Ext.alloc | apply Ext.drew | (refine Ext.updN ?_ ?_; (focus first | omega | (simp only [szR] <;> omega))) | (refine Ext.updI ?_ ?_; (focus (simp; done))))
  refine hK _ _ (upd_at hb2) (ho2.ext hxu (fun j hj hm => ?_)) ?_
  · have := ho2.block j hj
    simp at hm
    omega
  · have h1 : Ext (b :: (blockOf (Value.slice a (l.map kC).length c)).toList) w w2 := (hxa.mono (by simp)).step (hp2.step.mono (fun j hj => List.mem_cons_of_mem _ hj))
    exact h1.step (hxu.mono (by simp))
def plC (n t : Nat) : List Value := [.int .i64 (n : Nat), .int .u64 (t : Nat)]
theorem plC_len (n t : Nat) : (plC n t).length = 2 := by simp [plC]
theorem plC_all (n t : Nat) : (plC n t).all (fun v => v.oneCell') = true := by simp [plC]; exact ⟨rfl, rfl⟩
theorem plC_0 (n t : Nat) : (plC n t)[0]? = some (.int .i64 (n : Nat)) := rfl
theorem plC_1 (n t : Nat) : (plC n t)[1]? = some (.int .u64 (t : Nat)) := rfl
theorem plC_sub (n t : Nat) : sub (plC n t) 0 2 = plC n t := rfl
theorem pnone_spec {w : World} {q n t : Nat} (hq : w.heap[q]? = some (.cells (plC n t).toArray 82 (0, 0))) (hn : 1 ≤ n) {K : Value → World → Prop} (hK : K (.bool false) w) : callsK Try.prog 40 #[.pointer (some ⟨q, 0, none⟩)] w K := by
  have hz : (((n : Nat) : Int) == 0) = false := by simp; omega
  apply F40_ok
  unfold F40
  simp only [plC] at hq
  simp (disch := first | assumption | omega | (simp only [szR] <;> omega) | rfl | decide) only [gen0, gen1, gen2, rulesT, litR, bolR, Nat.reduceAdd, Nat.reduceLeDiff, numR, memR, valR, heapR, updR, intR, decR, extR, slR, segR, thenR, pnR, Int.reduceToNat, Int.reduceAdd, Int.reduceSub, Int.reduceLT, Int.reduceLE, Nat.reduceSub, Nat.reduceMul, Nat.reduceEqDiff, joinBR, hq, hz, Bool.false_and, Option.isNone_some]
  exact hK
theorem ownR_grown {W W' : World} {row : Option Nat} {base : Nat} {e : TypeId} {size : Nat} {v : Value} {rows : List (List Value)} (h : OwnR W base e size v rows) (hg : W.grownBy W' row) (hr : ∀ r, row = some r → ∃ o : Obj, W.heap[r]? = some o ∧ o.isCells = false) : OwnR W' base e size v rows := by
  obtain ⟨⟨hl, ho⟩, h2, h3⟩ := h
  refine ⟨⟨hl, ho.imp id ?_⟩, h2, h3⟩
  rintro ⟨g, cap, cur, rfl, hb, hgb, rest⟩
  refine ⟨g, cap, cur, rfl, hb, (hg.block g (lt_of_at hgb) (fun e' => ?_)).trans hgb, rest⟩
  obtain ⟨o, h4, h5⟩ := hr g e'.symm
  rw [hgb] at h4
  cases h4
  cases h5
theorem boxed_grown {W W' : World} {row : Option Nat} {b : Nat} {t : TypeId} {v : Value} (h : Boxed W b t v) (hg : W.grownBy W' row) (hr : ∀ r, row = some r → ∃ o : Obj, W.heap[r]? = some o ∧ o.isCells = false) : Boxed W' b t v :=
  h.kept hg (fun e' => by
    obtain ⟨o, h4, h5⟩ := hr b e'.symm
    rw [show W.heap[b]? = _ from h] at h4
    cases h4
    cases h5)
theorem takeC_calls {W : World} {b base k : Nat} {v : Value} {l : List Nat} (hb : Boxed W b 38 v) (ho : OwnR W base 3 1 v (l.map kC)) (hbb : b < base) (hbase : base ≤ W.heap.size) (hl : l.length ≤ 1000) :
    Calls Try.prog 71 #[.int .i64 (k : Nat), .pointer (some ⟨b, 0, none⟩)] W fun e w' => e = .returned (.tuple #[]) ∧ ∃ v', Boxed w' b 38 v' ∧ OwnR w' base 3 1 v' ((l ++ [k]).map kC) ∧ Ext (b :: (blockOf v).toList) W w' :=
  Calls.mono (takeC_spec (K := fun u w' => u = .tuple #[] ∧ ∃ v', Boxed w' b 38 v' ∧ OwnR w' base 3 1 v' ((l ++ [k]).map kC) ∧ Ext (b :: (blockOf v).toList) W w') hb ho hbb hbase hl fun v' w' h1 h2 h3 => ⟨rfl, v', h1, h2, h3⟩) (fun e w' h => by obtain ⟨u, rfl, rfl, h⟩ := h; exact ⟨rfl, h⟩)
set_option maxHeartbeats 2000000 in
theorem all_in {w : World} {q n t : Nat} (hq : w.heap[q]? = some (.cells (plC n t).toArray 82 (0, 0))) (hn : 1 ≤ n) (ht : t < 18446744073709551616) :
    CallsIn Fence.wide 6 Try.prog 47 #[.pointer (some ⟨q, 0, none⟩)] w fun e W' => ∃ v, e = .returned v ∧ (∃ a c, v = .slice a (onesK t 64).length c) ∧ Below w.heap.size w W' := by
  have hqc : w.cell? ⟨q, 1, none⟩ = some (.int .u64 (t : Nat)) := cell_of_block hq 1
  have hqA : ∀ o1 o2, ((w.alloc o1).alloc o2).cell? ⟨q, 1, none⟩ = some (.int .u64 (t : Nat)) := fun o1 o2 => cell_of_block ((alloc_ne (by have := lt_of_at hq; simp only [szR]; omega)).trans ((alloc_ne (by have := lt_of_at hq; omega)).trans hq)) 1
  have cN : CallsIn Fence.wide 5 Try.prog 40 #[.pointer (some ⟨q, 0, none⟩)] w fun e w' => e = .returned (.bool false) ∧ w' = w :=
    callsIn_wide.2 (Calls.mono (pnone_spec (K := fun v w' => v = .bool false ∧ w' = w) hq hn ⟨rfl, rfl⟩) (fun e w' h => by obtain ⟨v, rfl, rfl, rfl⟩ := h; exact ⟨rfl, rfl⟩))
  have hf40 : Fence.wide.fn 40 := trivial
  have hf67 : Fence.wide.fn 67 := trivial
  refine callsIn_of_wp_marks Try.func47 rfl trivial ?_ rfl
  simp only [Try.ntmps47, List.size_toArray, List.length_cons, List.length_nil, Nat.reduceAdd, Nat.reduceSub, Array.replicate_succ, Array.replicate_zero, List.push_toArray, List.append_toArray, List.nil_append, List.cons_append]
  gi_wp2_with (first
    | (gi_at_call 40; refine cN.mono ?_; rintro e w' ⟨rfl, rfl⟩)
    | (gi_at_call 67; refine (ones_in Fence.wide (6 - 1) trivial rfl t _).mono ?_; rintro e w' ⟨rfl, rfl⟩))
  obtain ⟨fv, hfv⟩ : ∃ fv, fv = Value.func (Fn.func 71) #[] #[Value.pointer (some ⟨w'.heap.size, 0, none⟩)] := ⟨_, rfl⟩
  have bO := Boxed.new w' 38 (.slice none 0 0)
  have bT := Boxed.new (w'.alloc (.cells #[.slice none 0 0] 38)) 122 fv
  have bX := Boxed.new ((w'.alloc (.cells #[.slice none 0 0] 38)).alloc (.cells #[fv] 122)) 23 (.int .u64 (t : Nat))
  rw [World.size_alloc] at bT bX
  rw [World.size_alloc] at bX
  have hB0 : Below w'.heap.size w' (((w'.alloc (.cells #[.slice none 0 0] 38)).alloc (.cells #[fv] 122)).alloc (.cells #[.int .u64 (t : Nat)] 23)) := (((Below.refl _ w').alloc (Nat.le_refl _) _).alloc (by simp) _).alloc (by simp; omega) _
  have hsz : (((w'.alloc (.cells #[.slice none 0 0] 38)).alloc (.cells #[fv] 122)).alloc (.cells #[.int .u64 (t : Nat)] 23)).heap.size = w'.heap.size + 3 := by simp
  rw [hfv] at bT bX hB0 hsz
  refine wpIn_rangeFunc_ownG rfl (by omega) (gf := 78) (lb := #[.pointer (some ⟨w'.heap.size + 1 + 1, 0, none⟩)]) rfl trivial (enters_of Try.func78 (by kernel_rfl) rfl)
    (ones_stops Fence.wide (6 - 1) trivial rfl (by omega) (w'.heap.size + 1 + 1) t ht _ (by simp) bX) KeptAt.t (KeptAt.b (by simp)) (Below.refl _ _) (fun _ => rfl)
    (fun pre W => ((∃ v, Boxed W w'.heap.size 38 v ∧ OwnR W (w'.heap.size + 3) 3 1 v (pre.map kC)) ∧ Boxed W (w'.heap.size + 1) 122 (Value.func (Fn.func 71) #[] #[Value.pointer (some ⟨w'.heap.size, 0, none⟩)]) ∧ w'.heap.size + 3 ≤ W.heap.size) ∧ Below w'.heap.size w' W)
    (fun _ _ _ => False)
    (OwnFrom.and (fun s A B row hs hg hr => ⟨let ⟨v, h1, h2⟩ := hs.1; ⟨v, boxed_grown h1 hg (fun r e => (hr r e).2), ownR_grown h2 hg (fun r e => (hr r e).2)⟩, boxed_grown hs.2.1 hg (fun r e => (hr r e).2), Nat.le_trans hs.2.2 hg.size⟩) (ownFrom_below (Nat.le_refl _) (by simp; omega)))
    (fun _ _ _ _ _ hs _ _ => hs)
    ⟨⟨⟨_, (bO.alloc _).alloc _, OwnR.nil⟩, bT.alloc _, by rw [hsz]; exact Nat.le_refl _⟩, hB0⟩
    (fun k => { tmps := #[.pointer (some ⟨q, 0, none⟩), undef, .slice none 0 0, .pointer (some ⟨w'.heap.size, 0, none⟩), .pointer (some ⟨w'.heap.size + 1, 0, none⟩), .int .i64 (k : Int), .pointer (some ⟨q, 0, none⟩), .bool false, Value.func (Fn.func 71) #[] #[Value.pointer (some ⟨w'.heap.size, 0, none⟩)], .pointer (some ⟨q, 0, none⟩), .pointer (some ⟨q, 0, none⟩), .pointer (some ⟨q, 0, none⟩), .pointer (some ⟨q, 1, none⟩), .int .u64 (t : Nat), Value.func (Fn.func 78) #[] #[Value.pointer (some ⟨w'.heap.size + 1 + 1, 0, none⟩)], .int .i64 (k : Int), undef, undef, undef, undef], defers := [] }) ?assign ?body ?done ?stop
  case assign =>
    intro l k W K hK
    gi_wp2
    exact hK
  case body =>
    rintro l pre k W ⟨⟨⟨v, hv, ho⟩, hT, hsW⟩, hB⟩ hlt
    have hc := hT.cell
    have hf71 : (Fence.wide.inRound l).fn 71 := trivial
    have cT := CallsIn.inRound l ((callsIn_wide (n := 6 - 1 - 1 - 1)).2 (takeC_calls (k := k) hv ho (by omega) hsW (by omega)))
    gi_wp2
    refine ⟨trivial, cT.mono ?_⟩
    rintro e W2 ⟨rfl, v2, hv2, ho2, hx2⟩
    gi_wp2
    have hnb : ∀ j, blockOf v = some j → w'.heap.size + 3 ≤ j := ho.block
    have hmem : ∀ j, j ∈ w'.heap.size :: (blockOf v).toList → j = w'.heap.size ∨ w'.heap.size + 3 ≤ j := fun j hj => by
      rcases List.mem_cons.1 hj with h | h
      · exact .inl h
      · exact .inr (hnb j (by simpa using h))
    refine ⟨⟨hx2.size, fun j o hj ho3 hoc => ?_⟩, ?_, ⟨⟨v2, hv2, ho2⟩, ?_, Nat.le_trans hsW hx2.size⟩, ?_⟩
    · refine (hx2.kept j (lt_of_at ho3) (fun hm => ?_)).trans ho3
      rcases List.mem_cons.1 hm with h | h
      · rw [h, show W.heap[w'.heap.size]? = _ from hv] at ho3
        cases ho3
        cases hoc
      · have hbv : blockOf v = some j := by simpa using h
        obtain ⟨-, ⟨rfl, -⟩ | ⟨g, cap, cur, rfl, -, hg, -⟩⟩ := ho.own
        · cases hbv
        · cases hbv
          rw [hg] at ho3
          cases ho3
          cases hoc
    · exact hx2.kept _ (by omega) (fun hm => by have := hmem _ hm; omega)
    · exact (hx2.kept _ (by omega) (fun hm => by have := hmem _ hm; omega)).trans hT
    · refine hB.trans ⟨hx2.os, hx2.tape, hx2.output, hx2.size, fun j hj => hx2.kept j (by omega) (fun hm => by have := hmem _ hm; omega)⟩
  case done =>
    rintro D ys W hD rfl ⟨⟨⟨v, hv, ho⟩, hT, hsW⟩, hB⟩ hK
    have hc := hv.cell
    obtain ⟨a, c, rfl⟩ := ho.rows.len
    gi_wp2
    refine ⟨by simp, .inl ⟨_, _, rfl, run_takeDeferred hK, ?_⟩⟩
    exact ⟨_, results_tmp rfl _ _ _, _, rfl, ⟨a, c, rfl⟩, hB.trans (belowK_b (w := w') (Nat.le_refl _) W D _ _ (by simp at hD; omega) hK rfl rfl)⟩
  case stop =>
    rintro D c pre W _ _ h _
    exact h.elim
theorem below_ext {w w' : World} (h : Below w.heap.size w w') : Ext [] w w' := ⟨h.os, h.tape, h.output, h.size, fun k hk _ => h.block k hk⟩
theorem all_spec {w : World} {q n t : Nat} (hq : w.heap[q]? = some (.cells (plC n t).toArray 82 (0, 0))) (hn : 1 ≤ n) (ht : t < 18446744073709551616) {K : Value → World → Prop} (hK : ∀ a c w', Ext [] w w' → K (.slice a (onesK t 64).length c) w') : callsK Try.prog 47 #[.pointer (some ⟨q, 0, none⟩)] w K :=
  Calls.mono (callsIn_wide.1 (all_in hq hn ht)) (fun e w' h => by
    obtain ⟨v, he, ⟨a, c, rfl⟩, hb⟩ := h
    exact ⟨_, he, hK a c w' (below_ext hb)⟩)
theorem zeros_spec {w : World} {x : Nat} (hx : x < 18446744073709551616) {K : Value → World → Prop} (hK : ∀ (z : Nat) w', ZerosOf x z → Ext [] w w' → K (.int .i64 (z : Nat)) w') : callsK Try.prog 41 #[.int .u64 (x : Nat)] w K :=
  Calls.mono (callsIn_wide.1 (zeros_in Fence.wide 6 trivial trivial trivial rfl (by omega) x hx w)) (fun e w' h => by
    obtain ⟨z, he, hz, hb⟩ := h
    exact ⟨_, he, hK z w' hz (below_ext hb)⟩)
end Go.Proofs.Ytfpcflmgipklcaa
