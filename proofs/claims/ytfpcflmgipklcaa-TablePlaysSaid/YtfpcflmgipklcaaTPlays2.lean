/- What a step's answers are held against; conditions: those of each theorem. -/
import Derived.Test.YtfpcflmgipklcaaTPlays1
namespace Go.Proofs.Ytfpcflmgipklcaa
open Go.Fx
set_option maxRecDepth 100000
set_option linter.unusedSimpArgs false
set_option linter.unusedVariables false
set_option maxHeartbeats 2000000
theorem same_region {w0 w : World} {tb r q p bx bg bw : Nat} {m g : Nat → Int} {t : Nat} {fs oth : List Nat} {lv : Nat → Nat} {par : Nat → Nat × Nat} (h : Tab w0 w tb r q p 12 m g t fs) (hT : Tree m 12 fs lv par) (hO : OwnT t (fs ++ oth)) (hD : (fs ++ oth).Nodup) (hoth : ∀ f ∈ oth, f < 12) (hfs : 0 < fs.length ∧ fs.length ≤ 64)
    {u0 u1 u2 u3 vo : Value} {R : RT} (hb : w.heap[bx]? = some (.cells (tvC u0 u1 u2 u3).toArray 37 (0, 0))) (hr : RefT w u0 u1 u2 u3 R) (hn : R.mid.length < 50000 ∧ R.low.length < 50000) (hc : fs.length = 1 + R.mid.length + R.low.length) (ho : OthS w 0 vo oth) (hol : oth.length < 1000)
    {f : Nat → Bool} {x : Nat} (hg : w.heap[bg]? = some (.cells (entC f x).toArray 40 (0, 0))) (hw : w.heap[bw]? = some (.cells (entC f x).toArray 46 (0, 0)))
    {z : Int} {ok : Bool} {v11 v21 v23 v35 v41 v143 v150 : Value} {s6 : List Value} (e11 : v11 = .pointer (some ⟨bx, 0, none⟩)) (e21 : v21 = .pointer (some ⟨bw, 0, none⟩)) (e23 : v23 = .pointer (some ⟨bg, 0, none⟩)) (e35 : v35 = .pointer (some ⟨p, 0, none⟩)) (e41 : v41 = .pointer (some ⟨tb, 0, none⟩)) (e143 : v143 = .bool ok) (e150 : v150 = .bool ok) (es0 : s6.getD 0 undef = .int .i64 z) (es1 : s6.getD 1 undef = .int .i64 z) (es2 : s6.getD 2 undef = vo) {J8 : List Value → World → Prop}
    (hJ : ∀ w', Ext [] w w' → J8 [.bool false] w') : (drewK (fun w =>
  relX fun R10 =>
  postX R10 (fun p10_151 => allX R10 w fun V10 w => True → (okX R10 w p10_151) (s6.getD 0 undef) w) fun p10_151 =>
  postX R10 (fun p10_152 => allX R10 w fun V10 w => True → (okX R10 w p10_152) (s6.getD 1 undef) w) fun p10_152 =>
  postX R10 (fun p10_153 => allX R10 w fun V10 w => p10_151 (V10 151) w ∧ p10_152 (V10 152) w ∧ True → kV Try.prog (binV .neq 3 (.tmp 151) (.tmp 152) (V10 151) (V10 152)) w (okX R10 w p10_153)) fun p10_153 =>
  postX R10 (fun p10_154 => allX R10 w fun V10 w => p10_153 (V10 153) w ∧ True → (okX R10 w p10_154) (V10 153) w) fun p10_154 =>
  postX R10 (fun p10_155 => allX R10 w fun V10 w => p10_154 (V10 154) w ∧ True → gdK (yb (V10 154)) false (fun k => k v150 w) w (okX R10 w p10_155)) fun p10_155 =>
  postX R10 (fun p10_156 => allX R10 w fun V10 w => p10_154 (V10 154) w ∧ True → gdK (yb (V10 154)) false (fun k => k v143 w) w (okX R10 w p10_156)) fun p10_156 =>
  postX R10 (fun p10_157 => allX R10 w fun V10 w => p10_154 (V10 154) w ∧ p10_155 (V10 155) w ∧ p10_156 (V10 156) w ∧ True → gdK (yb (V10 154)) false (fun k => kV Try.prog (binV .neq 4 (.tmp 155) (.tmp 156) (V10 155) (V10 156)) w k) w (okX R10 w p10_157)) fun p10_157 =>
  postX R10 (fun p10_158 => allX R10 w fun V10 w => p10_154 (V10 154) w ∧ p10_157 (V10 157) w ∧ True → kN Try.prog (pickN (V10 154) (.bool true) (V10 157)) w (okX R10 w p10_158)) fun p10_158 =>
  postX R10 (fun p10_159 => allX R10 w fun V10 w => p10_154 (V10 154) w ∧ p10_158 (V10 158) w ∧ True → (okX R10 w p10_159) (V10 158) w) fun p10_159 =>
  postX R10 (fun p10_160 => allX R10 w fun V10 w => p10_159 (V10 159) w ∧ True → gdK (yb (V10 159)) false (fun k => kV Try.prog (Instr.loadAt 40 v23) w k) w (okX R10 w p10_160)) fun p10_160 =>
  postX R10 (fun p10_161 => allX R10 w fun V10 w => p10_159 (V10 159) w ∧ True → gdK (yb (V10 159)) false (fun k => kV Try.prog (Instr.loadAt 46 v21) w k) w (okX R10 w p10_161)) fun p10_161 =>
  postX R10 (fun p10_162 => allX R10 w fun V10 w => p10_159 (V10 159) w ∧ p10_160 (V10 160) w ∧ p10_161 (V10 161) w ∧ True → gdK (yb (V10 159)) false (fun k => kV Try.prog (binV .neq 46 (.tmp 160) (.tmp 161) (V10 160) (V10 161)) w k) w (okX R10 w p10_162)) fun p10_162 =>
  postX R10 (fun p10_163 => allX R10 w fun V10 w => p10_159 (V10 159) w ∧ p10_162 (V10 162) w ∧ True → kN Try.prog (pickN (V10 159) (.bool true) (V10 162)) w (okX R10 w p10_163)) fun p10_163 =>
  postX R10 (fun p10_164 => allX R10 w fun V10 w => p10_159 (V10 159) w ∧ p10_163 (V10 163) w ∧ True → (okX R10 w p10_164) (V10 163) w) fun p10_164 =>
  postX R10 (fun p10_165 => allX R10 w fun V10 w => p10_164 (V10 164) w ∧ True → gdK (yb (V10 164)) false (fun k => k v41 w) w (okX R10 w p10_165)) fun p10_165 =>
  postX R10 (fun p10_166 => allX R10 w fun V10 w => p10_164 (V10 164) w ∧ p10_165 (V10 165) w ∧ True → gdK (yb (V10 164)) false (fun k => kN Try.prog (callN (.func (.func 18) #[] #[]) #[(V10 165)]) w k) w (okX R10 w p10_166)) fun p10_166 =>
  postX R10 (fun p10_167 => allX R10 w fun V10 w => p10_164 (V10 164) w ∧ p10_166 (V10 166) w ∧ True → gdK (yb (V10 164)) false (fun k => kV Try.prog (Builtin.len_ #[38] 3 #[(V10 166)]) w k) w (okX R10 w p10_167)) fun p10_167 =>
  postX R10 (fun p10_168 => allX R10 w fun V10 w => p10_164 (V10 164) w ∧ True → gdK (yb (V10 164)) false (fun k => kV Try.prog (Instr.loadAt 37 v11) w k) w (okX R10 w p10_168)) fun p10_168 =>
  postX R10 (fun p10_169 => allX R10 w fun V10 w => p10_164 (V10 164) w ∧ p10_166 (V10 166) w ∧ p10_168 (V10 168) w ∧ True → gdK (yb (V10 164)) false (fun k => kN Try.prog (callN (.func (.func 11) #[] #[]) #[(V10 168)]) w k) w (okX R10 w p10_169)) fun p10_169 =>
  postX R10 (fun p10_170 => allX R10 w fun V10 w => p10_164 (V10 164) w ∧ p10_167 (V10 167) w ∧ p10_169 (V10 169) w ∧ True → gdK (yb (V10 164)) false (fun k => kV Try.prog (binV .neq 3 (.tmp 167) (.tmp 169) (V10 167) (V10 169)) w k) w (okX R10 w p10_170)) fun p10_170 =>
  postX R10 (fun p10_171 => allX R10 w fun V10 w => p10_164 (V10 164) w ∧ p10_170 (V10 170) w ∧ True → kN Try.prog (pickN (V10 164) (.bool true) (V10 170)) w (okX R10 w p10_171)) fun p10_171 =>
  postX R10 (fun p10_172 => allX R10 w fun V10 w => p10_169 (V10 169) w ∧ p10_171 (V10 171) w ∧ True → (okX R10 w p10_172) (V10 171) w) fun p10_172 =>
  postX R10 (fun p10_173 => allX R10 w fun V10 w => p10_172 (V10 172) w ∧ True → gdK (yb (V10 172)) false (fun k => k v35 w) w (okX R10 w p10_173)) fun p10_173 =>
  postX R10 (fun p10_174 => allX R10 w fun V10 w => p10_172 (V10 172) w ∧ p10_173 (V10 173) w ∧ True → gdK (yb (V10 172)) false (fun k => kN Try.prog (callN (.func (.func 19) #[] #[]) #[(V10 173)]) w k) w (okX R10 w p10_174)) fun p10_174 =>
  postX R10 (fun p10_175 => allX R10 w fun V10 w => p10_172 (V10 172) w ∧ True → gdK (yb (V10 172)) false (fun k => k (s6.getD 2 undef) w) w (okX R10 w p10_175)) fun p10_175 =>
  postX R10 (fun p10_176 => allX R10 w fun V10 w => p10_172 (V10 172) w ∧ p10_175 (V10 175) w ∧ True → gdK (yb (V10 172)) false (fun k => kV Try.prog (Builtin.len_ #[38] 3 #[(V10 175)]) w k) w (okX R10 w p10_176)) fun p10_176 =>
  postX R10 (fun p10_177 => allX R10 w fun V10 w => p10_172 (V10 172) w ∧ p10_176 (V10 176) w ∧ True → gdK (yb (V10 172)) false (fun k => kV Try.prog (binV .sub 3 (.const (.int .i64 12)) (.tmp 176) (.int .i64 12) (V10 176)) w k) w (okX R10 w p10_177)) fun p10_177 =>
  postX R10 (fun p10_178 => allX R10 w fun V10 w => p10_172 (V10 172) w ∧ True → gdK (yb (V10 172)) false (fun k => kV Try.prog (Instr.loadAt 37 v11) w k) w (okX R10 w p10_178)) fun p10_178 =>
  postX R10 (fun p10_179 => allX R10 w fun V10 w => p10_172 (V10 172) w ∧ p10_174 (V10 174) w ∧ p10_178 (V10 178) w ∧ True → gdK (yb (V10 172)) false (fun k => kN Try.prog (callN (.func (.func 11) #[] #[]) #[(V10 178)]) w k) w (okX R10 w p10_179)) fun p10_179 =>
  postX R10 (fun p10_180 => allX R10 w fun V10 w => p10_172 (V10 172) w ∧ p10_177 (V10 177) w ∧ p10_179 (V10 179) w ∧ True → gdK (yb (V10 172)) false (fun k => kV Try.prog (binV .sub 3 (.tmp 177) (.tmp 179) (V10 177) (V10 179)) w k) w (okX R10 w p10_180)) fun p10_180 =>
  postX R10 (fun p10_181 => allX R10 w fun V10 w => p10_172 (V10 172) w ∧ p10_174 (V10 174) w ∧ p10_180 (V10 180) w ∧ True → gdK (yb (V10 172)) false (fun k => kV Try.prog (binV .neq 3 (.tmp 174) (.tmp 180) (V10 174) (V10 180)) w k) w (okX R10 w p10_181)) fun p10_181 =>
  postX R10 (fun p10_182 => allX R10 w fun V10 w => p10_172 (V10 172) w ∧ p10_181 (V10 181) w ∧ True → kN Try.prog (pickN (V10 172) (.bool true) (V10 181)) w (okX R10 w p10_182)) fun p10_182 =>
  allX R10 w fun V10 w => p10_151 (V10 151) w ∧ p10_152 (V10 152) w ∧ p10_153 (V10 153) w ∧ p10_154 (V10 154) w ∧ p10_155 (V10 155) w ∧ p10_156 (V10 156) w ∧ p10_157 (V10 157) w ∧ p10_158 (V10 158) w ∧ p10_159 (V10 159) w ∧ p10_160 (V10 160) w ∧ p10_161 (V10 161) w ∧ p10_162 (V10 162) w ∧ p10_163 (V10 163) w ∧ p10_164 (V10 164) w ∧ p10_165 (V10 165) w ∧ p10_166 (V10 166) w ∧ p10_167 (V10 167) w ∧ p10_168 (V10 168) w ∧ p10_169 (V10 169) w ∧ p10_170 (V10 170) w ∧ p10_171 (V10 171) w ∧ p10_172 (V10 172) w ∧ p10_173 (V10 173) w ∧ p10_174 (V10 174) w ∧ p10_175 (V10 175) w ∧ p10_176 (V10 176) w ∧ p10_177 (V10 177) w ∧ p10_178 (V10 178) w ∧ p10_179 (V10 179) w ∧ p10_180 (V10 180) w ∧ p10_181 (V10 181) w ∧ p10_182 (V10 182) w ∧ True → xDist V10 [] →
  J8 [(V10 182)] w) w) := by
  subst e11 e21 e23 e35 e41 e143 e150
  rw [drewK_eq, es0, es1, es2]
  have hxd : Ext [] w w.drew := by (repeat first | assumption | exact Ext.refl | apply Ext.alloc | apply Ext.drew | (refine Ext.updN ?_ ?_; (focus first | omega | (simp only [szR] <;> omega))) | (refine Ext.updI ?_ ?_; (focus (simp; done))))
  obtain ⟨W, hW⟩ : ∃ W, W = w.drew := ⟨_, rfl⟩
  rw [← hW] at hxd ⊢
  have h := h.step hxd
  have hb := hxd.at hb (by simp)
  have hg := hxd.at hg (by simp)
  have hw := hxd.at hw (by simp)
  have hr := hr.ext hxd (by simp)
  have hol2 := ho.len
  have hlf : ∀ (a : Option Addr) (c : Nat) (w : World), (Builtin.len_ #[38] 3 #[.slice a fs.length c]).run Try.prog w = .ok (.int .i64 (fs.length : Nat)) w := fun a c w => by
    simp [Builtin.len_, Sem.run_bind, run_underlying Try.underlying38, goInt]
  have hf62 := nodup_le hT.one hT.lt
  refine relX.ext [] ?_
  refine postX.is (.int .i64 z) (fun V w2 hR _ => okX.is) ?_
  refine postX.is (.int .i64 z) (fun V w2 hR _ => okX.is) ?_
  refine postX.is (.bool false) (fun V w2 hR hd => by
    have e : (!(decide (z = z))) = false := by simp
    simp (disch := first | assumption | omega | (simp only [szR, tgC_len, tgC_all, entC_len, entC_all, tvC_len, tvC_all, actC_len, actC_all] <;> omega) | rfl | decide) only [gen0, gen1, gen2, rulesM, rulesT, rulesQ, litR, bolR, Nat.reduceAdd, Nat.reduceLeDiff, numR, memR, valR, heapR, updR, intR, decR, extR, slR, segR, thenR, pnR, Int.reduceToNat, Int.reduceAdd, Int.reduceSub, Int.reduceLT, Int.reduceLE, Nat.reduceSub, Nat.reduceMul, Nat.reduceEqDiff, hd, e]
    exact okX.is) ?_
  refine postX.is (.bool false) (fun V w2 hR hd => by rw [hd.1]; exact okX.is) ?_
  refine postX.is (.bool ok) (fun V w2 hR hd => by simp (disch := first | assumption | omega | (simp only [szR, tgC_len, tgC_all, entC_len, entC_all, tvC_len, tvC_all, actC_len, actC_all] <;> omega) | rfl | decide) only [gen0, gen1, gen2, rulesM, rulesT, rulesQ, litR, bolR, Nat.reduceAdd, Nat.reduceLeDiff, numR, memR, valR, heapR, updR, intR, decR, extR, slR, segR, thenR, pnR, Int.reduceToNat, Int.reduceAdd, Int.reduceSub, Int.reduceLT, Int.reduceLE, Nat.reduceSub, Nat.reduceMul, Nat.reduceEqDiff, hd]; exact okX.is) ?_
  refine postX.is (.bool ok) (fun V w2 hR hd => by simp (disch := first | assumption | omega | (simp only [szR, tgC_len, tgC_all, entC_len, entC_all, tvC_len, tvC_all, actC_len, actC_all] <;> omega) | rfl | decide) only [gen0, gen1, gen2, rulesM, rulesT, rulesQ, litR, bolR, Nat.reduceAdd, Nat.reduceLeDiff, numR, memR, valR, heapR, updR, intR, decR, extR, slR, segR, thenR, pnR, Int.reduceToNat, Int.reduceAdd, Int.reduceSub, Int.reduceLT, Int.reduceLE, Nat.reduceSub, Nat.reduceMul, Nat.reduceEqDiff, hd]; exact okX.is) ?_
  refine postX.is (.bool false) (fun V w2 hR hd => by
    have e : (!(ok == ok)) = false := by simp
    simp (disch := first | assumption | omega | (simp only [szR, tgC_len, tgC_all, entC_len, entC_all, tvC_len, tvC_all, actC_len, actC_all] <;> omega) | rfl | decide) only [gen0, gen1, gen2, rulesM, rulesT, rulesQ, litR, bolR, Nat.reduceAdd, Nat.reduceLeDiff, numR, memR, valR, heapR, updR, intR, decR, extR, slR, segR, thenR, pnR, Int.reduceToNat, Int.reduceAdd, Int.reduceSub, Int.reduceLT, Int.reduceLE, Nat.reduceSub, Nat.reduceMul, Nat.reduceEqDiff, hd, e]
    exact okX.is) ?_
  refine postX.is (.bool false) (fun V w2 hR hd => by simp (disch := first | assumption | omega | (simp only [szR, tgC_len, tgC_all, entC_len, entC_all, tvC_len, tvC_all, actC_len, actC_all] <;> omega) | rfl | decide) only [gen0, gen1, gen2, rulesM, rulesT, rulesQ, litR, bolR, Nat.reduceAdd, Nat.reduceLeDiff, numR, memR, valR, heapR, updR, intR, decR, extR, slR, segR, thenR, pnR, Int.reduceToNat, Int.reduceAdd, Int.reduceSub, Int.reduceLT, Int.reduceLE, Nat.reduceSub, Nat.reduceMul, Nat.reduceEqDiff, hd]; exact okX.is) ?_
  refine postX.is (.bool false) (fun V w2 hR hd => by rw [hd.2.1]; exact okX.is) ?_
  refine postX.is (.agg (entC f x).toArray) (fun V w2 hR hd => by have e := hR.at hg (by simp); simp (disch := first | assumption | omega | (simp only [szR, tgC_len, tgC_all, entC_len, entC_all, tvC_len, tvC_all, actC_len, actC_all] <;> omega) | rfl | decide) only [gen0, gen1, gen2, rulesM, rulesT, rulesQ, litR, bolR, Nat.reduceAdd, Nat.reduceLeDiff, numR, memR, valR, heapR, updR, intR, decR, extR, slR, segR, thenR, pnR, Int.reduceToNat, Int.reduceAdd, Int.reduceSub, Int.reduceLT, Int.reduceLE, Nat.reduceSub, Nat.reduceMul, Nat.reduceEqDiff, hd, e, entC_sub]; exact okX.is) ?_
  refine postX.is (.agg (entC f x).toArray) (fun V w2 hR hd => by have e := hR.at hw (by simp); simp (disch := first | assumption | omega | (simp only [szR, tgC_len, tgC_all, entC_len, entC_all, tvC_len, tvC_all, actC_len, actC_all] <;> omega) | rfl | decide) only [gen0, gen1, gen2, rulesM, rulesT, rulesQ, litR, bolR, Nat.reduceAdd, Nat.reduceLeDiff, numR, memR, valR, heapR, updR, intR, decR, extR, slR, segR, thenR, pnR, Int.reduceToNat, Int.reduceAdd, Int.reduceSub, Int.reduceLT, Int.reduceLE, Nat.reduceSub, Nat.reduceMul, Nat.reduceEqDiff, hd, e, entC_sub]; exact okX.is) ?_
  refine postX.is (.bool false) (fun V w2 hR hd => by
    obtain ⟨d1, d2, d3, -⟩ := hd
    simp (disch := first | assumption | omega | (simp only [szR, tgC_len, tgC_all, entC_len, entC_all, tvC_len, tvC_all, actC_len, actC_all] <;> omega) | rfl | decide) only [gen0, gen1, gen2, rulesM, rulesT, rulesQ, litR, bolR, Nat.reduceAdd, Nat.reduceLeDiff, numR, memR, valR, heapR, updR, intR, decR, extR, slR, segR, thenR, pnR, Int.reduceToNat, Int.reduceAdd, Int.reduceSub, Int.reduceLT, Int.reduceLE, Nat.reduceSub, Nat.reduceMul, Nat.reduceEqDiff, d1, d2, d3, neqE9, eqE_me, Bool.not_true]
    exact okX.is) ?_
  refine postX.is (.bool false) (fun V w2 hR hd => by simp (disch := first | assumption | omega | (simp only [szR, tgC_len, tgC_all, entC_len, entC_all, tvC_len, tvC_all, actC_len, actC_all] <;> omega) | rfl | decide) only [gen0, gen1, gen2, rulesM, rulesT, rulesQ, litR, bolR, Nat.reduceAdd, Nat.reduceLeDiff, numR, memR, valR, heapR, updR, intR, decR, extR, slR, segR, thenR, pnR, Int.reduceToNat, Int.reduceAdd, Int.reduceSub, Int.reduceLT, Int.reduceLE, Nat.reduceSub, Nat.reduceMul, Nat.reduceEqDiff, hd]; exact okX.is) ?_
  refine postX.is (.bool false) (fun V w2 hR hd => by rw [hd.2.1]; exact okX.is) ?_
  refine postX.is (.pointer (some ⟨tb, 0, none⟩)) (fun V w2 hR hd => by simp (disch := first | assumption | omega | (simp only [szR, tgC_len, tgC_all, entC_len, entC_all, tvC_len, tvC_all, actC_len, actC_all] <;> omega) | rfl | decide) only [gen0, gen1, gen2, rulesM, rulesT, rulesQ, litR, bolR, Nat.reduceAdd, Nat.reduceLeDiff, numR, memR, valR, heapR, updR, intR, decR, extR, slR, segR, thenR, pnR, Int.reduceToNat, Int.reduceAdd, Int.reduceSub, Int.reduceLT, Int.reduceLE, Nat.reduceSub, Nat.reduceMul, Nat.reduceEqDiff, hd]; exact okX.is) ?_
  refine postX.intro (fun v _ => ∃ a c, v = .slice a fs.length c) (fun _ _ _ _ h => h) (fun V w2 hR hd => ?_) ?_
  · obtain ⟨d1, d2, -⟩ := hd
    simp (disch := first | assumption | omega | (simp only [szR, tgC_len, tgC_all, entC_len, entC_all, tvC_len, tvC_all, actC_len, actC_all] <;> omega) | rfl | decide) only [gen0, gen1, gen2, rulesM, rulesT, rulesQ, litR, bolR, Nat.reduceAdd, Nat.reduceLeDiff, numR, memR, valR, heapR, updR, intR, decR, extR, slR, segR, thenR, pnR, Int.reduceToNat, Int.reduceAdd, Int.reduceSub, Int.reduceLT, Int.reduceLE, Nat.reduceSub, Nat.reduceMul, Nat.reduceEqDiff, d1, d2]
    exact frames_tab (h.step hR) hfs fun a c w3 hx => okX.mk hx ⟨a, c, rfl⟩
  refine postX.is (.int .i64 (fs.length : Nat)) (fun V w2 hR hd => by
    obtain ⟨d1, ⟨a, c, d2⟩, -⟩ := hd
    simp (disch := first | assumption | omega | (simp only [szR, tgC_len, tgC_all, entC_len, entC_all, tvC_len, tvC_all, actC_len, actC_all] <;> omega) | rfl | decide) only [gen0, gen1, gen2, rulesM, rulesT, rulesQ, litR, bolR, Nat.reduceAdd, Nat.reduceLeDiff, numR, memR, valR, heapR, updR, intR, decR, extR, slR, segR, thenR, pnR, Int.reduceToNat, Int.reduceAdd, Int.reduceSub, Int.reduceLT, Int.reduceLE, Nat.reduceSub, Nat.reduceMul, Nat.reduceEqDiff, d1, d2, hlf]
    exact okX.is) ?_
  refine postX.is (.agg (tvC u0 u1 u2 u3).toArray) (fun V w2 hR hd => by have e := hR.at hb (by simp); simp (disch := first | assumption | omega | (simp only [szR, tgC_len, tgC_all, entC_len, entC_all, tvC_len, tvC_all, actC_len, actC_all] <;> omega) | rfl | decide) only [gen0, gen1, gen2, rulesM, rulesT, rulesQ, litR, bolR, Nat.reduceAdd, Nat.reduceLeDiff, numR, memR, valR, heapR, updR, intR, decR, extR, slR, segR, thenR, pnR, Int.reduceToNat, Int.reduceAdd, Int.reduceSub, Int.reduceLT, Int.reduceLE, Nat.reduceSub, Nat.reduceMul, Nat.reduceEqDiff, hd, e, tvC_sub]; exact okX.is) ?_
  refine postX.is (.int .i64 (fs.length : Nat)) (fun V w2 hR hd => by
    obtain ⟨d1, -, d2, -⟩ := hd
    simp (disch := first | assumption | omega | (simp only [szR, tgC_len, tgC_all, entC_len, entC_all, tvC_len, tvC_all, actC_len, actC_all] <;> omega) | rfl | decide) only [gen0, gen1, gen2, rulesM, rulesT, rulesQ, litR, bolR, Nat.reduceAdd, Nat.reduceLeDiff, numR, memR, valR, heapR, updR, intR, decR, extR, slR, segR, thenR, pnR, Int.reduceToNat, Int.reduceAdd, Int.reduceSub, Int.reduceLT, Int.reduceLE, Nat.reduceSub, Nat.reduceMul, Nat.reduceEqDiff, d1, d2]
    exact rframes_spec (hr.ext hR (by simp)) (by omega) fun w3 hx => okX.mk hx (by rw [hc])) ?_
  refine postX.is (.bool false) (fun V w2 hR hd => by
    have e : (!(decide (((fs.length : Nat) : Int) = ((fs.length : Nat) : Int)))) = false := by simp
    simp (disch := first | assumption | omega | (simp only [szR, tgC_len, tgC_all, entC_len, entC_all, tvC_len, tvC_all, actC_len, actC_all] <;> omega) | rfl | decide) only [gen0, gen1, gen2, rulesM, rulesT, rulesQ, litR, bolR, Nat.reduceAdd, Nat.reduceLeDiff, numR, memR, valR, heapR, updR, intR, decR, extR, slR, segR, thenR, pnR, Int.reduceToNat, Int.reduceAdd, Int.reduceSub, Int.reduceLT, Int.reduceLE, Nat.reduceSub, Nat.reduceMul, Nat.reduceEqDiff, hd, e]
    exact okX.is) ?_
  refine postX.is (.bool false) (fun V w2 hR hd => by simp (disch := first | assumption | omega | (simp only [szR, tgC_len, tgC_all, entC_len, entC_all, tvC_len, tvC_all, actC_len, actC_all] <;> omega) | rfl | decide) only [gen0, gen1, gen2, rulesM, rulesT, rulesQ, litR, bolR, Nat.reduceAdd, Nat.reduceLeDiff, numR, memR, valR, heapR, updR, intR, decR, extR, slR, segR, thenR, pnR, Int.reduceToNat, Int.reduceAdd, Int.reduceSub, Int.reduceLT, Int.reduceLE, Nat.reduceSub, Nat.reduceMul, Nat.reduceEqDiff, hd]; exact okX.is) ?_
  refine postX.is (.bool false) (fun V w2 hR hd => by rw [hd.2.1]; exact okX.is) ?_
  refine postX.is (.pointer (some ⟨p, 0, none⟩)) (fun V w2 hR hd => by simp (disch := first | assumption | omega | (simp only [szR, tgC_len, tgC_all, entC_len, entC_all, tvC_len, tvC_all, actC_len, actC_all] <;> omega) | rfl | decide) only [gen0, gen1, gen2, rulesM, rulesT, rulesQ, litR, bolR, Nat.reduceAdd, Nat.reduceLeDiff, numR, memR, valR, heapR, updR, intR, decR, extR, slR, segR, thenR, pnR, Int.reduceToNat, Int.reduceAdd, Int.reduceSub, Int.reduceLT, Int.reduceLE, Nat.reduceSub, Nat.reduceMul, Nat.reduceEqDiff, hd]; exact okX.is) ?_
  refine postX.is (.int .i64 (12 - (fs.length + oth.length : Nat) : Int)) (fun V w2 hR hd => by
    obtain ⟨d1, d2, -⟩ := hd
    simp (disch := first | assumption | omega | (simp only [szR, tgC_len, tgC_all, entC_len, entC_all, tvC_len, tvC_all, actC_len, actC_all] <;> omega) | rfl | decide) only [gen0, gen1, gen2, rulesM, rulesT, rulesQ, litR, bolR, Nat.reduceAdd, Nat.reduceLeDiff, numR, memR, valR, heapR, updR, intR, decR, extR, slR, segR, thenR, pnR, Int.reduceToNat, Int.reduceAdd, Int.reduceSub, Int.reduceLT, Int.reduceLE, Nat.reduceSub, Nat.reduceMul, Nat.reduceEqDiff, d1, d2]
    exact pfreeO (h.step hR) hT hO hD hoth fun w3 hx => okX.mk hx rfl) ?_
  refine postX.is vo (fun V w2 hR hd => by simp (disch := first | assumption | omega | (simp only [szR, tgC_len, tgC_all, entC_len, entC_all, tvC_len, tvC_all, actC_len, actC_all] <;> omega) | rfl | decide) only [gen0, gen1, gen2, rulesM, rulesT, rulesQ, litR, bolR, Nat.reduceAdd, Nat.reduceLeDiff, numR, memR, valR, heapR, updR, intR, decR, extR, slR, segR, thenR, pnR, Int.reduceToNat, Int.reduceAdd, Int.reduceSub, Int.reduceLT, Int.reduceLE, Nat.reduceSub, Nat.reduceMul, Nat.reduceEqDiff, hd]; exact okX.is) ?_
  refine postX.is (.int .i64 (oth.length : Nat)) (fun V w2 hR hd => by
    obtain ⟨d1, d2, -⟩ := hd
    simp (disch := first | assumption | omega | (simp only [szR, tgC_len, tgC_all, entC_len, entC_all, tvC_len, tvC_all, actC_len, actC_all] <;> omega) | rfl | decide) only [gen0, gen1, gen2, rulesM, rulesT, rulesQ, litR, bolR, Nat.reduceAdd, Nat.reduceLeDiff, numR, memR, valR, heapR, updR, intR, decR, extR, slR, segR, thenR, pnR, Int.reduceToNat, Int.reduceAdd, Int.reduceSub, Int.reduceLT, Int.reduceLE, Nat.reduceSub, Nat.reduceMul, Nat.reduceEqDiff, d1, d2, hol2]
    exact okX.is) ?_
  refine postX.is (.int .i64 (12 - (oth.length : Nat) : Int)) (fun V w2 hR hd => by simp (disch := first | assumption | omega | (simp only [szR, tgC_len, tgC_all, entC_len, entC_all, tvC_len, tvC_all, actC_len, actC_all] <;> omega) | rfl | decide) only [gen0, gen1, gen2, rulesM, rulesT, rulesQ, litR, bolR, Nat.reduceAdd, Nat.reduceLeDiff, numR, memR, valR, heapR, updR, intR, decR, extR, slR, segR, thenR, pnR, Int.reduceToNat, Int.reduceAdd, Int.reduceSub, Int.reduceLT, Int.reduceLE, Nat.reduceSub, Nat.reduceMul, Nat.reduceEqDiff, hd]; exact okX.is) ?_
  refine postX.is (.agg (tvC u0 u1 u2 u3).toArray) (fun V w2 hR hd => by have e := hR.at hb (by simp); simp (disch := first | assumption | omega | (simp only [szR, tgC_len, tgC_all, entC_len, entC_all, tvC_len, tvC_all, actC_len, actC_all] <;> omega) | rfl | decide) only [gen0, gen1, gen2, rulesM, rulesT, rulesQ, litR, bolR, Nat.reduceAdd, Nat.reduceLeDiff, numR, memR, valR, heapR, updR, intR, decR, extR, slR, segR, thenR, pnR, Int.reduceToNat, Int.reduceAdd, Int.reduceSub, Int.reduceLT, Int.reduceLE, Nat.reduceSub, Nat.reduceMul, Nat.reduceEqDiff, hd, e, tvC_sub]; exact okX.is) ?_
  refine postX.is (.int .i64 (fs.length : Nat)) (fun V w2 hR hd => by
    obtain ⟨d1, -, d2, -⟩ := hd
    simp (disch := first | assumption | omega | (simp only [szR, tgC_len, tgC_all, entC_len, entC_all, tvC_len, tvC_all, actC_len, actC_all] <;> omega) | rfl | decide) only [gen0, gen1, gen2, rulesM, rulesT, rulesQ, litR, bolR, Nat.reduceAdd, Nat.reduceLeDiff, numR, memR, valR, heapR, updR, intR, decR, extR, slR, segR, thenR, pnR, Int.reduceToNat, Int.reduceAdd, Int.reduceSub, Int.reduceLT, Int.reduceLE, Nat.reduceSub, Nat.reduceMul, Nat.reduceEqDiff, d1, d2]
    exact rframes_spec (hr.ext hR (by simp)) (by omega) fun w3 hx => okX.mk hx (by rw [hc])) ?_
  refine postX.is (.int .i64 (12 - (fs.length + oth.length : Nat) : Int)) (fun V w2 hR hd => by
    have e : (12 : Int) - (oth.length : Int) - (fs.length : Int) = 12 - (fs.length + oth.length : Nat) := by omega
    simp (disch := first | assumption | omega | (simp only [szR, tgC_len, tgC_all, entC_len, entC_all, tvC_len, tvC_all, actC_len, actC_all] <;> omega) | rfl | decide) only [gen0, gen1, gen2, rulesM, rulesT, rulesQ, litR, bolR, Nat.reduceAdd, Nat.reduceLeDiff, numR, memR, valR, heapR, updR, intR, decR, extR, slR, segR, thenR, pnR, Int.reduceToNat, Int.reduceAdd, Int.reduceSub, Int.reduceLT, Int.reduceLE, Nat.reduceSub, Nat.reduceMul, Nat.reduceEqDiff, hd, e]
    exact okX.is) ?_
  refine postX.is (.bool false) (fun V w2 hR hd => by
    have e : (!(decide ((12 : Int) - ((fs.length + oth.length : Nat) : Int) = 12 - ((fs.length + oth.length : Nat) : Int)))) = false := by simp
    simp (disch := first | assumption | omega | (simp only [szR, tgC_len, tgC_all, entC_len, entC_all, tvC_len, tvC_all, actC_len, actC_all] <;> omega) | rfl | decide) only [gen0, gen1, gen2, rulesM, rulesT, rulesQ, litR, bolR, Nat.reduceAdd, Nat.reduceLeDiff, numR, memR, valR, heapR, updR, intR, decR, extR, slR, segR, thenR, pnR, Int.reduceToNat, Int.reduceAdd, Int.reduceSub, Int.reduceLT, Int.reduceLE, Nat.reduceSub, Nat.reduceMul, Nat.reduceEqDiff, hd, e]
    exact okX.is) ?_
  refine postX.is (.bool false) (fun V w2 hR hd => by simp (disch := first | assumption | omega | (simp only [szR, tgC_len, tgC_all, entC_len, entC_all, tvC_len, tvC_all, actC_len, actC_all] <;> omega) | rfl | decide) only [gen0, gen1, gen2, rulesM, rulesT, rulesQ, litR, bolR, Nat.reduceAdd, Nat.reduceLeDiff, numR, memR, valR, heapR, updR, intR, decR, extR, slR, segR, thenR, pnR, Int.reduceToNat, Int.reduceAdd, Int.reduceSub, Int.reduceLT, Int.reduceLE, Nat.reduceSub, Nat.reduceMul, Nat.reduceEqDiff, hd]; exact okX.is) ?_
  intro V w2 hR hd _
  obtain ⟨-, -, -, -, -, -, -, -, -, -, -, -, -, -, -, -, -, -, -, -, -, -, -, -, -, -, -, -, -, -, -, d, -⟩ := hd
  rw [d]
  exact hJ w2 (hxd.trans hR (by simp))
end Go.Proofs.Ytfpcflmgipklcaa
