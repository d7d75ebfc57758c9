/- The keys of a bitmap's map, gathered; conditions: those of each theorem. -/
import Derived.Test.YtgnibcaflidjmaaSK1
import Derived.Test.YtgnibcaflidjmaaSU7
namespace Go.Proofs.Ytgnibcaflidjmaa
open Go Go.RowKit Go.Shelf Go.Fx
attribute [local go_sem] Oper.semAt_some
set_option maxRecDepth 100000
set_option linter.unusedSimpArgs false
set_option linter.unusedVariables false
theorem below_ext {w w' : World} (h : Below w.heap.size w w') : Ext [] w w' := ⟨h.os, h.tape, h.output, h.size, fun k hk _ => h.block k hk⟩
theorem keys_stops (F : Fence) (n : Nat) (h7 : F.fn 69) (hro : F.round = none) (hn : 1 ≤ n) (Bs m N : Nat) (B : Nat → Bool) (hN : ∀ ys, PagesOf B ys → ys.length ≤ N) (w : World) (hBs : Bs < w.heap.size)
    (hc : w.cell? ⟨Bs, 0, none⟩ = some (.map (some m))) (hB : Bm w (some m) B) :
    SeqStopsK F n Try.prog 69 #[.pointer (some ⟨Bs, 0, none⟩)] (fun x : Nat => #[Value.int .u64 (x : Nat)]) KeepsWalks (PagesOf B) (fun _ => True) N w := fun l J Jx W hW hJ _ hY h0 => by
  have hc' := (hW.cell (p := ⟨Bs, 0, none⟩) hBs).trans hc
  exact keys1_in F n h7 hro hn l Bs m N B hN J Jx hY W hJ hc' (hB.ext0 (below_ext hW)) h0
theorem infoU : (Try.prog.info? 28).map (fun i => (i.zero, i.size, i.bytes)) = some (some (.int .u64 0), 1, 8) := by kernel_rfl
def uV (x : Nat) : Value := .int .u64 (x : Nat)
set_option maxHeartbeats 2000000 in
theorem appendSeq_in {w : World} {Bs m N : Nat} {B : Nat → Bool} (hBs : w.heap[Bs]? = some (.cells [Value.map (some m)].toArray 48 (0, 0))) (hB : Bm w (some m) B) (hN : ∀ ys, PagesOf B ys → ys.length ≤ N) (hN2 : N ≤ 1000) :
    CallsIn Fence.wide 6 Try.prog 84 #[.slice none 0 0, .func (.func 69) #[] #[.pointer (some ⟨Bs, 0, none⟩)]] w fun e W' => ∃ v ys, e = .returned v ∧ PagesOf B ys ∧ W'.ownsRow w.heap.size 28 1 v ys.length (ys.map uV) ∧ Below w.heap.size w W' := by
  obtain ⟨i0, hi, hz0, hz1, hz2⟩ := info_parts infoU
  refine callsIn_of_wp_marks Try.func84 rfl trivial ?_ rfl
  simp only [Try.ntmps84, List.size_toArray, List.length_cons, List.length_nil, Nat.reduceAdd, Nat.reduceSub, Array.replicate_succ, Array.replicate_zero, List.push_toArray, List.append_toArray, List.nil_append, List.cons_append]
  gi_wp2
  have bO := Boxed.new w 93 (.slice none 0 0)
  have hB0 : Below w.heap.size w (w.alloc (.cells #[.slice none 0 0] 93)) := (Below.refl _ w).alloc (Nat.le_refl _) _
  have hBsl := lt_of_at hBs
  have hx0 : Ext [] w (w.alloc (.cells #[.slice none 0 0] 93)) := Ext.alloc Ext.refl _ _
  have hcell : (w.alloc (.cells #[.slice none 0 0] 93)).cell? ⟨Bs, 0, none⟩ = some (.map (some m)) := by
    rw [cell_of_block (l := [Value.map (some m)]) (by simpa using hx0.at hBs (by simp))]
    rfl
  refine wpIn_rangeFunc_ownG rfl (by omega) (gf := 69) (lb := #[.pointer (some ⟨Bs, 0, none⟩)]) rfl trivial (enters_of Try.func69 (by kernel_rfl) rfl)
    (keys_stops Fence.wide (6 - 1) trivial rfl (by omega) Bs m N B hN _ (by simp; omega) hcell (hB.ext0 hx0)) walksK_t walksK_b (Below.refl _ _) (fun _ => rfl)
    (fun pre W => (∃ v, Boxed W w.heap.size 93 v ∧ W.ownsRow w.heap.size 28 1 v pre.length (pre.map uV) ∧ True) ∧ Below w.heap.size w W)
    (fun _ _ _ => False)
    (OwnFrom.and (Own.from (holdsRow_own w.heap.size w.heap.size 93 28 1 (fun pre : List Nat => pre.length) (fun pre => pre.map uV) (fun pre v => True)) _) (ownFrom_below (Nat.le_refl _) (by simp)))
    (fun _ _ _ _ _ hs _ _ => hs)
    ⟨⟨_, bO, World.ownsRow_nil _ _ _ _, trivial⟩, hB0⟩
    (fun x => { tmps := #[.slice none 0 0, .func (.func 69) #[] #[.pointer (some ⟨Bs, 0, none⟩)], .pointer (some ⟨w.heap.size, 0, none⟩), undef, .slice none 0 0, .int .u64 (x : Nat), .func (.func 69) #[] #[.pointer (some ⟨Bs, 0, none⟩)], .int .u64 (x : Nat), undef, undef, undef, undef, undef], defers := [] }) ?assign ?body ?done ?stop
  case assign =>
    intro l x W K hK
    gi_wp2
    exact hK
  case body =>
    rintro l pre x W ⟨⟨v, hv, hrow, -⟩, hB⟩ hlt
    have hc := hv.cell
    gi_wp2_with (gi_at_builtin; refine wpListIn_append_own _ rfl _ _ 93 rfl w.heap.size 28 i0 (.int .u64 0) 1 8 Try.underlying93 hi hz0 hz1 hz2 rfl (by decide) _ _ _ rfl (hrow.alloc _) ⟨W.heap.size, 0, none⟩ 1 1 [.int .u64 (x : Nat)] rfl rfl (cell_one_new _ _ _) (by simp [Value.oneCell']) (by simp [maxLen]; omega) (by omega) (by have := hB.size; simp; omega) ?_; intro v' w1 hown' hgrow _; obtain ⟨g', cap', rfl⟩ := ownsRow_succ hown'; obtain ⟨hv1, hv2, hr2, hk2, hb2⟩ := hv.appended (by decide) hrow hB.size (Nat.le_refl _) hown' hgrow; have hc1 := hv1.cell; have hf1 := hv1.frozen)
    exact ⟨hk2.from _, hk2.walks, ⟨_, hv2, by simpa [uV] using hr2, trivial⟩, hB.trans hb2⟩
  case done =>
    rintro D ys W hD hys ⟨⟨v, hv, hrow, -⟩, hB⟩ hK
    have hc := hv.cell
    gi_wp2
    refine ⟨by simp, .inl ⟨_, _, rfl, run_takeDeferred hK, ?_⟩⟩
    exact ⟨_, results_tmp rfl _ _ _, v, ys, rfl, hys, ownsRow_putObj hrow _ hK rfl, hB.trans (belowK_b (w := w) (Nat.le_refl _) W D _ _ (by simp at hD; omega) hK rfl rfl)⟩
  case stop =>
    rintro D c pre W _ _ h _
    exact h.elim
theorem appendSeq_spec {w : World} {Bs m N : Nat} {B : Nat → Bool} (hBs : w.heap[Bs]? = some (.cells [Value.map (some m)].toArray 48 (0, 0))) (hB : Bm w (some m) B) (hN : ∀ ys, PagesOf B ys → ys.length ≤ N) (hN2 : N ≤ 1000) {K : Value → World → Prop} (hK : ∀ v ys w', PagesOf B ys → w'.ownsRow w.heap.size 28 1 v ys.length (ys.map uV) → Ext [] w w' → K v w') :
    callsK Try.prog 84 #[.slice none 0 0, .func (.func 69) #[] #[.pointer (some ⟨Bs, 0, none⟩)]] w K :=
  Calls.mono (callsIn_wide.1 (appendSeq_in hBs hB hN hN2)) (fun e w' h => by
    obtain ⟨v, ys, he, hys, ho, hb⟩ := h
    exact ⟨_, he, hK v ys w' hys ho (below_ext hb)⟩)
theorem keys_in (F : Fence) (n : Nat) (h5 : F.fn 48) (hro : F.round = none) (o : Option Nat) (w : World) :
    CallsIn F n Try.prog 48 #[.map o] w fun e w' => e = .returned (.func (.func 69) #[] #[.pointer (some ⟨w.heap.size, 0, none⟩)]) ∧ w' = w.alloc (.cells #[.map o] 48) := by
  refine callsIn_of_wp Try.func48 rfl h5 ?_ hro
  simp only [Try.ntmps48, List.size_toArray, List.length_cons, List.length_nil, Nat.reduceAdd, Nat.reduceSub, Array.replicate_succ, Array.replicate_zero, List.push_toArray, List.append_toArray, List.nil_append, List.cons_append]
  gi_wp2
  go_ret
  exact ⟨rfl, rfl⟩
theorem keys_spec {w : World} {o : Option Nat} {K : Value → World → Prop} (hK : K (.func (.func 69) #[] #[.pointer (some ⟨w.heap.size, 0, none⟩)]) (w.alloc (.cells #[.map o] 48))) : callsK Try.prog 48 #[.map o] w K :=
  Calls.mono (callsIn_wide.1 (keys_in Fence.wide 6 trivial rfl o w)) (fun e w' h => by
    obtain ⟨rfl, rfl⟩ := h
    exact ⟨_, rfl, hK⟩)
end Go.Proofs.Ytgnibcaflidjmaa
