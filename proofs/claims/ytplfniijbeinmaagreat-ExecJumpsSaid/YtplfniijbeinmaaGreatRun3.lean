/- A flat memory behind an interface: what is fetched, loaded and stored; conditions: those of each theorem. -/
import Derived.Test.YtplfniijbeinmaaGreatRun2
namespace Go.Proofs.YtplfniijbeinmaaGreat
open Go.Fx
set_option maxRecDepth 100000
set_option linter.unusedSimpArgs false
set_option linter.unusedVariables false
/-- the value of a memory that is at a block. -/
def flV (rb : Nat) : Value := .iface 55 (.agg [.pointer (some ⟨rb, 0, none⟩)].toArray)
theorem flV_one (rb : Nat) : (flV rb).oneCell' = true := rfl
theorem kN_fl {rb : Nat} {w : World} {K : Value → World → Prop} : kN Tryz.prog (nilN (flV rb)) w K = K (flV rb) w := rfl
theorem sN_fl {rb : Nat} {w : World} {K : Value → Prop} : sN Tryz.prog (nilN (flV rb)) w K = K (flV rb) := by
  simp [sN, nilN, execOp, resS, resSF, flV]
theorem callFetch {v va : Value} {w : World} {K : Value → World → Prop} (h : callsK Tryz.prog 158 #[v, va] w K) : kN Tryz.prog (callMethod (.iface 55 v) "Fetch" #[va]) w K := by
  have e : (callMethod (.iface 55 v) "Fetch" #[va]).run Tryz.prog w = .ok (.enter 158 #[v, va]) w := by kernel_rfl
  unfold kN
  rw [e]
  exact h
theorem wrong_spec {w : World} {K : Value → World → Prop} (hK : K (.int .i64 0) w) : callsK Tryz.prog 163 #[.int .i64 0] w K := by
  apply F163_ok
  unfold F163
  simp (disch := first | assumption | omega | (simp only [szR, cq_len, cq_all, cxC_len, cxC_all, inC_len, inC_all, rnC_len, rnC_all, ouC_len, ouC_all] <;> omega) | rfl | decide) only [gen0, gen1, gen2, rulesC, rulesX, rulesM, litR, bolR, Nat.reduceAdd, Nat.reduceLeDiff, numR, memR, valR, heapR, updR, intR, decR, extR, slR, segR, thenR, pnR, Int.reduceToNat, Int.reduceAdd, Int.reduceSub, Int.reduceLT, Int.reduceLE, Nat.reduceSub, Nat.reduceMul, Nat.reduceEqDiff]
  exact hK
theorem wrong_still {w : World} {K : Value → Prop} (hK : K (.int .i64 0)) : callsS Tryz.prog 163 #[.int .i64 0] w K := callsS.of _ (wrong_spec ⟨rfl, rfl⟩) hK
theorem Fetch_spec {w : World} {rb pb n a W : Nat} {m g : Nat → Int} (hM : Mem w rb pb n m g) (hn : 0 < n ∧ n ≤ 1000) (ha : a < n * 4096) (hal : a % 4 = 0) (hW : leN m a 4 = W) {K : Value → World → Prop} (hK : ∀ w', Ext [] w w' → K (.tuple #[.int .u32 (W : Nat), .int .i64 0]) w') :
    callsK Tryz.prog 158 #[.agg [.pointer (some ⟨rb, 0, none⟩)].toArray, .int .u64 (a : Nat)] w K := by
  apply F158_ok
  unfold F158
  simp (disch := first | assumption | omega | (simp only [szR, cq_len, cq_all, cxC_len, cxC_all, inC_len, inC_all, rnC_len, rnC_all, ouC_len, ouC_all] <;> omega) | rfl | decide) only [gen0, gen1, gen2, rulesC, rulesX, rulesM, litR, bolR, Nat.reduceAdd, Nat.reduceLeDiff, numR, memR, valR, heapR, updR, intR, decR, extR, slR, segR, thenR, pnR, Int.reduceToNat, Int.reduceAdd, Int.reduceSub, Int.reduceLT, Int.reduceLE, Nat.reduceSub, Nat.reduceMul, Nat.reduceEqDiff]
  have hx0 : Ext [] w (w.alloc (.cells [.pointer (some ⟨rb, 0, none⟩)].toArray 55)) := by (repeat first | assumption | exact Ext.refl | apply Ext.alloc | apply Ext.drew | (refine Ext.updN ?_ ?_; (focus first | omega | (simp only [szR] <;> omega))) | (refine Ext.updI ?_ ?_; (focus (simp; done))))
  have hM1 := hM.ext hx0 (by simp) (by simp)
  refine Load_spec hM1 hn ha (.inr (.inr (.inl rfl))) hal fun w1 hx1 => ?_
  have hlt : W < 4294967296 := by
    have := leN_lt hM.byte a 4
    rw [hW] at this
    exact this
  have hw : IntKind.u32.wrap ((W : Nat) : Int) = (W : Nat) := wrap_u32 (by omega)
  rw [hW]
  simp (disch := first | assumption | omega | (simp only [szR, cq_len, cq_all, cxC_len, cxC_all, inC_len, inC_all, rnC_len, rnC_all, ouC_len, ouC_all] <;> omega) | rfl | decide) only [gen0, gen1, gen2, rulesC, rulesX, rulesM, litR, bolR, Nat.reduceAdd, Nat.reduceLeDiff, numR, memR, valR, heapR, updR, intR, decR, extR, slR, segR, thenR, pnR, Int.reduceToNat, Int.reduceAdd, Int.reduceSub, Int.reduceLT, Int.reduceLE, Nat.reduceSub, Nat.reduceMul, Nat.reduceEqDiff, hw]
  refine wrong_spec ?_
  exact hK _ (hx0.trans hx1 (by simp))
end Go.Proofs.YtplfniijbeinmaaGreat
