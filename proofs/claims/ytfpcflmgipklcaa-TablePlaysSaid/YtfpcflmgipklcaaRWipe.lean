/- A frame's page wiped; conditions: those of each theorem. -/
import Derived.Test.YtfpcflmgipklcaaRam
import Derived.Test.YtfpcflmgipklcaaFT
import Derived.Test.YtfpcflmgipklcaaRT
namespace Go.Proofs.Ytfpcflmgipklcaa
open Go.Fx
set_option maxRecDepth 100000
set_option linter.unusedSimpArgs false
set_option linter.unusedVariables false
theorem zeroB (n : Nat) : (Builtin.zeroCells (Value.int .u8 0).cells n).toList = List.replicate n (.int .u8 0) := by
  apply List.ext_getElem
  · simp [Builtin.zeroCells, Value.cells]
  · intro i h1 h2
    simp [Builtin.zeroCells, Value.cells, Nat.mod_one]
theorem run_clearB {w : World} {b o n c : Nat} {l : List Value} {E ty : TypeId} (h : w.heap[b]? = some (.cells l.toArray E (0, 0))) (hb : o + n ≤ l.length) (h0 : 0 < n) :
    (Builtin.clear_ #[137] ty #[.slice (some ⟨b, o, none⟩) n c]).run Try.prog w = .ok (.tuple #[]) (World.upd w b (splice l o (List.replicate n (.int .u8 0)))) := by
  obtain ⟨n, rfl⟩ : ∃ k, n = k + 1 := ⟨n - 1, by omega⟩
  have hz : ∀ w, (zeroValue 5).run Try.prog w = .ok (.int .u8 0) w := fun w => by kernel_rfl
  have hs := run_storeCells (P := Try.prog) (b := b) (e := E) o (List.replicate (n + 1) (.int .u8 0)) 0 w l h (by simpa using hb) (by intro v hv; rw [List.eq_of_mem_replicate hv]; rfl)
  rw [Nat.add_zero] at hs
  simp only [Builtin.clear_, List.getElem?_toArray, List.getElem?_cons_zero, Sem.run_bind, run_underlying Try.underlying137, Result.andThen_ok, hz, zeroB, hs, Sem.run_pure, Nat.add_zero]
/-- memory, where a frame is zeros. -/
def wipeM (m : Nat → Int) (k : Nat) : Nat → Int := fun a => if a / 4096 = k then 0 else m a
theorem Byte.wipe {m : Nat → Int} (h : Byte m) (k : Nat) : Byte (wipeM m k) := fun a => by
  unfold wipeM
  split
  · omega
  · exact h a
theorem Cells.wipe {L : List Value} {n k : Nat} {m g : Nat → Int} (h : Cells L n m g) (hk : k < n) : Cells (splice L (k * 4100) (List.replicate 4096 (.int .u8 0))) n (wipeM m k) g := by
  have hl := h.len
  have hb : k * 4100 + (List.replicate 4096 (Value.int .u8 0)).length ≤ L.length := by rw [List.length_replicate]; omega
  refine ⟨by rw [splice_length hb, hl], fun p i hp hi => ?_, fun p j hp hj => ?_⟩
  · rw [splice_get hb, List.length_replicate]
    unfold wipeM
    have e : (p * 4096 + i) / 4096 = p := by omega
    rw [e]
    by_cases h1 : p = k
    · subst h1
      rw [if_neg (by omega), if_pos (by omega), if_pos rfl, List.getElem?_replicate, if_pos (by omega)]
    · rw [if_neg h1]
      by_cases h2 : p * 4100 + i < k * 4100
      · rw [if_pos h2]
        exact h.byte p i hp hi
      · rw [if_neg h2, if_neg (by omega)]
        exact h.byte p i hp hi
  · rw [splice_get hb, List.length_replicate, ← h.word p j hp hj]
    by_cases h2 : p * 4100 + 4096 + j < k * 4100
    · rw [if_pos h2]
    · rw [if_neg h2, if_neg (by omega)]
theorem callWipe {first cap args : List Value} {w : World} {K : Value → World → Prop} : kN Try.prog (callN (.func (.func 76) first.toArray cap.toArray) args.toArray) w K = callsK Try.prog 76 (first ++ args ++ cap).toArray w K := Fx.kN_callf Try.call76 _ _ _ _ _
theorem pwipe_spec {w : World} {q k n : Nat} {L : List Value} {m g : Nat → Int} (hq : w.heap[q]? = some (.cells L.toArray 121 (0, 0))) (hL : Cells L n m g) (hk : k < n) {K : Value → World → Prop}
    (hK : ∀ L' w', w'.heap[q]? = some (.cells L'.toArray 121 (0, 0)) → Cells L' n (wipeM m k) (wset4 g k fun _ => 0) → Ext [q] w w' → K (.tuple #[]) w') : callsK Try.prog 76 #[.pointer (some ⟨q, k * 4100, none⟩)] w K := by
  apply F76_ok
  unfold F76
  have hl := hL.len
  have hclr := run_clearB (c := 4096) (ty := 0) hq (o := k * 4100) (n := 4096) (by omega) (by omega)
  have hC := hL.wipe hk
  obtain ⟨L2, hL2⟩ : ∃ L2, L2 = splice L (k * 4100) (List.replicate 4096 (Value.int .u8 0)) := ⟨_, rfl⟩
  rw [← hL2] at hclr hC
  have hC2 := hC.tags (p := k) (t := fun _ => 0) hk
  have l0 := lt_of_at hq
  have h2 := upd_at (l := L2) hq
  have hl2 := hC.len
  have h3 : (World.upd w q (splice L2 (k * 4100 + 4096) (tgC fun _ => 0))).heap[q]? = some (.cells (splice L2 (k * 4100 + 4096) (tgC fun _ => 0)).toArray 121 (0, 0)) := upd_at hq
  have hbd : ∀ w, (Instr.build 119 #[]).run Try.prog w = .ok (.agg (tgC fun _ => 0).toArray) w := fun w => run_build w 119 _ _ (by kernel_rfl)
  simp (disch := first | assumption | omega | (simp only [szR, tgC_len, tgC_all] <;> omega) | rfl | decide) only [gen0, gen1, gen2, rulesM, rulesT, litR, bolR, Nat.reduceAdd, Nat.reduceLeDiff, numR, memR, valR, heapR, updR, intR, decR, extR, slR, segR, thenR, pnR, Int.reduceToNat, Int.reduceAdd, Int.reduceSub, Int.reduceLT, Int.reduceLE, Nat.reduceSub, Nat.reduceMul, Nat.reduceEqDiff, hclr, hbd, h2, hl2]
  exact hK _ _ h3 hC2 (by (repeat first | assumption | exact Ext.refl | apply Ext.alloc | apply Ext.drew | (refine Ext.updN ?_ ?_; (focus first | omega | (simp only [szR] <;> omega))) | (refine Ext.updI ?_ ?_; (focus (simp; done)))))
/-- a frame wiped. -/
theorem Wipe_spec {w : World} {r q n k : Nat} {m g : Nat → Int} (h : Mem w r q n m g) (hn : 0 < n ∧ n ≤ 1000) (hk : k < n) {K : Value → World → Prop} (hK : ∀ w', Mem w' r q n (wipeM m k) (wset4 g k fun _ => 0) → Ext [q] w w' → K (.int .i64 0) w') :
    callsK Try.prog 59 #[.pointer (some ⟨r, 0, none⟩), .int .i64 k] w K := by
  have h1 := h.head
  obtain ⟨L, hL, hC⟩ := h.body
  have hne := h.ne
  apply F59_ok
  unfold F59
  simp (disch := first | assumption | omega | (simp only [szR, tgC_len, tgC_all] <;> omega) | rfl | decide) only [gen0, gen1, gen2, rulesM, rulesT, litR, bolR, Nat.reduceAdd, Nat.reduceLeDiff, numR, memR, valR, heapR, updR, intR, decR, extR, slR, segR, thenR, pnR, Int.reduceToNat, Int.reduceAdd, Int.reduceSub, Int.reduceLT, Int.reduceLE, Nat.reduceSub, Nat.reduceMul, Nat.reduceEqDiff]
  apply F75_ok
  unfold F75
  simp (disch := first | assumption | omega | (simp only [szR, tgC_len, tgC_all] <;> omega) | rfl | decide) only [gen0, gen1, gen2, rulesM, rulesT, litR, bolR, Nat.reduceAdd, Nat.reduceLeDiff, numR, memR, valR, heapR, updR, intR, decR, extR, slR, segR, thenR, pnR, Int.reduceToNat, Int.reduceAdd, Int.reduceSub, Int.reduceLT, Int.reduceLE, Nat.reduceSub, Nat.reduceMul, Nat.reduceEqDiff]
  refine none_spec h hn ?_
  simp (disch := first | assumption | omega | (simp only [szR, tgC_len, tgC_all] <;> omega) | rfl | decide) only [gen0, gen1, gen2, rulesM, rulesT, litR, bolR, Nat.reduceAdd, Nat.reduceLeDiff, numR, memR, valR, heapR, updR, intR, decR, extR, slR, segR, thenR, pnR, Int.reduceToNat, Int.reduceAdd, Int.reduceSub, Int.reduceLT, Int.reduceLE, Nat.reduceSub, Nat.reduceMul, Nat.reduceEqDiff, joinBR, h1]
  refine pwipe_spec hL hC hk fun L' w' h2 hC2 hx => ?_
  exact hK w' ⟨hx.at h1 (by simp only [List.mem_singleton]; exact hne), ⟨L', h2, hC2⟩, h.byte.wipe k, wset4_ok h.word Wok.zero⟩ hx
end Go.Proofs.Ytfpcflmgipklcaa
