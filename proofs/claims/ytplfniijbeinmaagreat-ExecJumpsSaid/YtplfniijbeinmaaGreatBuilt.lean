/- A play of words: the memories that are built of it; conditions: those of each theorem. -/
import Derived.Test.YtplfniijbeinmaaGreatDoc
import Derived.Test.YtplfniijbeinmaaGreatGP
namespace Go.Proofs.YtplfniijbeinmaaGreat
open Go.Fx
set_option maxRecDepth 100000
set_option linter.unusedSimpArgs false
set_option linter.unusedVariables false
theorem leN_storedX (m : Nat → Int) (a s : Nat) (v : Int) : ∀ k, k ≤ s → leN (stored m a s v) a k = v.toNat % 2 ^ (8 * k)
  | 0, _ => by simp [leN]; omega
  | k + 1, h => by
    have ih := leN_storedX m a s v k (by omega)
    show leN (stored m a s v) a k + (stored m a s v (a + k)).toNat * 2 ^ (8 * k) = _
    rw [ih]
    have e : stored m a s v (a + k) = ((v.toNat / 2 ^ (8 * k) % 256 : Nat) : Int) := by
      unfold stored
      rw [if_pos (by omega), Nat.add_sub_cancel_left]
    rw [e, Int.toNat_natCast, show 8 * (k + 1) = 8 * k + 8 by omega, Nat.pow_add, Nat.mod_mul, Nat.mul_comm (2 ^ (8 * k))]
theorem leN_congrX {m m' : Nat → Int} {a : Nat} : ∀ {k : Nat}, (∀ j, j < k → m (a + j) = m' (a + j)) → leN m a k = leN m' a k
  | 0, _ => rfl
  | k + 1, h => by
    unfold leN
    rw [leN_congrX fun j hj => h j (by omega), h k (by omega)]
theorem leN_storedO {m : Nat → Int} {a s b k : Nat} {v : Int} (h : b + k ≤ a ∨ a + s ≤ b) : leN (stored m a s v) b k = leN m b k := leN_congrX fun j hj => by
  unfold stored
  rw [if_neg (by omega)]
def u4C (x : Nat) : List Value := [.int .u32 (x : Nat)]
def plC (v : Value) (c : Nat → Cq) (k : Value) : List Value := v :: (cxC c ++ [k])
theorem plC_len (v : Value) (c : Nat → Cq) (k : Value) : (plC v c k).length = 101 := by simp [plC, cxC_len]
theorem plC_all {a a2 : Option Addr} {n n2 l l2 : Nat} (c : Nat → Cq) : (plC (.slice a n l) c (.slice a2 n2 l2)).all (fun v => v.oneCell') = true := by
  unfold plC
  rw [List.all_cons, List.all_append, cxC_all]
  rfl
theorem plC_sub (v : Value) (c : Nat → Cq) (k : Value) : sub (plC v c k) 0 101 = plC v c k := sub_whole (by rw [plC_len])
theorem plC_0 (v : Value) (c : Nat → Cq) (k : Value) : (plC v c k)[0]? = some v := rfl
theorem plC_k (v : Value) (c : Nat → Cq) (k : Value) : (plC v c k)[100]? = some k := by
  unfold plC
  rw [List.getElem?_cons_succ, List.getElem?_append_right (by rw [cxC_len]; omega), cxC_len]
  rfl
/-- what a memory tells of words. -/
def Wds (m : Nat → Int) (ws : List Nat) (k : Nat) : Prop := ∀ i x, i < k → ws[i]? = some x → leN m (4 * i) 4 = x
theorem Wds.step {m : Nat → Int} {ws : List Nat} {k x : Nat} (h : Wds m ws k) (hx : ws[k]? = some x) (h32 : x < 4294967296) : Wds (stored m (4 * k) 4 x) ws (k + 1) := by
  intro i y hi hy
  by_cases h1 : i = k
  · subst h1
    rw [hx] at hy
    obtain rfl := Option.some.inj hy
    rw [leN_storedX _ _ _ _ 4 (Nat.le_refl _)]
    show x % 4294967296 = x
    omega
  · rw [leN_storedO (by omega)]
    exact h i y (by omega) hy
set_option maxHeartbeats 2000000 in
theorem built_spec {w : World} {ws : List Nat} {v : Value} {c : Nat → Cq} (hv : RowsAt w v 1 (ws.map u4C)) (hl : ws.length ≤ 40) (h32 : ∀ x ∈ ws, x < 4294967296) {K : Value → World → Prop}
    (hK : ∀ (rb pb : Nat) (L : List Value) (m g : Nat → Int) (w' : World), Mem w' rb pb 3 m g → Wds m ws ws.length → L.length = 4 → L.all (fun v => v.oneCell') = true → sub L 0 4 = L → Ext [] w w' → w.heap.size ≤ rb → w.heap.size ≤ pb → K (.tuple #[.pointer (some ⟨rb, 0, none⟩), .agg L.toArray, .int .i64 1]) w') :
    callsK Tryz.prog 7 #[.agg (plC v c (.slice none 0 0)).toArray] w K := by
  obtain ⟨a0, c0, rfl⟩ := hv.len
  apply G7_ok
  unfold G7
  simp (disch := first | assumption | omega | (simp only [szR, cq_len, cq_all, cxC_len, cxC_all, plC_len, plC_all] <;> omega) | rfl | decide) only [gen0, gen1, gen2, rulesC, rulesX, rulesM, litR, bolR, Nat.reduceAdd, Nat.reduceLeDiff, numR, memR, valR, heapR, updR, intR, decR, extR, slR, segR, thenR, pnR, Int.reduceToNat, Int.reduceAdd, Int.reduceSub, Int.reduceLT, Int.reduceLE, Nat.reduceSub, Nat.reduceMul, Nat.reduceEqDiff, plC_sub]
  refine New_spec (n := 3) (by omega) fun w1 hM1 hx1 => ?_
  have e0 : ((w.alloc (.cells (plC (.slice a0 (List.map u4C ws).length c0) c (.slice none 0 0)).toArray 45)).alloc (.cells [.int .i64 0, .slice none 0 0, .slice none 0 0, .slice none 0 0].toArray 35)).heap.size = w.heap.size + 2 := by simp only [szR]
  rw [e0] at hM1 ⊢
  have hx0 : Ext [] w w1 := Ext.trans (S := []) (by (repeat first | assumption | exact Ext.refl | apply Ext.alloc | apply Ext.drew | (refine Ext.updN ?_ ?_; (focus first | omega | (simp only [szR] <;> omega))) | (refine Ext.updI ?_ ?_; (focus (simp; done))))) hx1 (by simp)
  have g0 : w1.heap[w.heap.size]? = some (.cells (plC (.slice a0 (List.map u4C ws).length c0) c (.slice none 0 0)).toArray 45 (0, 0)) := hx1.at ((alloc_ne (by simp only [szR]; omega)).trans (alloc_at rfl)) (by simp)
  have g1 : w1.heap[w.heap.size + 1]? = some (.cells [.int .i64 0, .slice none 0 0, .slice none 0 0, .slice none 0 0].toArray 35 (0, 0)) := hx1.at (alloc_at (by simp only [szR])) (by simp)
  have hs1 := hM1.lt
  obtain ⟨rb, hrb⟩ : ∃ rb, rb = w.heap.size + 2 + 1 := ⟨_, rfl⟩
  obtain ⟨pb, hpb⟩ : ∃ pb, pb = w.heap.size + 2 := ⟨_, rfl⟩
  rw [← hrb, ← hpb] at hM1 hs1
  rw [← hrb]
  clear hx1 e0
  simp (disch := first | assumption | omega | (simp only [szR, cq_len, cq_all, cxC_len, cxC_all, plC_len, plC_all] <;> omega) | rfl | decide) only [gen0, gen1, gen2, rulesC, rulesX, rulesM, litR, bolR, Nat.reduceAdd, Nat.reduceLeDiff, numR, memR, valR, heapR, updR, intR, decR, extR, slR, segR, thenR, pnR, Int.reduceToNat, Int.reduceAdd, Int.reduceSub, Int.reduceLT, Int.reduceLE, Nat.reduceSub, Nat.reduceMul, Nat.reduceEqDiff]
  refine rNew_spec (n := 3) (by omega) fun w2 hD2 hx2 => ?_
  have hM2 := hM1.ext hx2 (by simp) (by simp)
  replace g0 := hx2.at g0 (by simp)
  replace g1 := hx2.at g1 (by simp)
  replace hx0 := hx0.trans hx2 (by simp)
  have lg0 := lt_of_at g0
  have lg1 := lt_of_at g1
  have lM2 := hM2.lt
  have hv2 := hv.ext hx0 (by simp)
  have e1 := hv2.lenR (P := Tryz.prog) (t := 39) (ty := 3) Tryz.underlying39
  rw [List.length_map] at e1 g0 hv2
  have hl2 : ¬ ((ws.length : Nat) : Int) > 40 := by omega
  have hnil : ∀ (x y : Operand) w, (binV .eql 31 x y (.pointer (some ⟨rb, 0, none⟩)) (.pointer none)).run Tryz.prog w = .ok (.bool false) w := fun x y w => by kernel_rfl
  have hner : ∀ (x y : Operand) w, (binV .neq 75 x y (.int .i64 0) (.int .i64 0)).run Tryz.prog w = .ok (.bool false) w := fun x y w => by kernel_rfl
  have hrs : ∀ a b, sub (rmC 3 a b) 0 4 = rmC 3 a b := fun a b => by simp [rmC, sub]
  have hrl : ∀ a b, (rmC 3 a b).length = 4 := fun a b => by simp [rmC]
  obtain ⟨b7, hb7⟩ : ∃ b7, b7 = w2.heap.size := ⟨_, rfl⟩
  obtain ⟨L0, hL0⟩ : ∃ L0, L0 = rmC 3 (.slice none 0 0) (.slice none 0 0) := ⟨_, rfl⟩
  have hL0l : L0.length = 4 := by rw [hL0]; rfl
  have hL0a : L0.all (fun v => v.oneCell') = true := by rw [hL0]; rfl
  rw [← hL0] at hD2 ⊢
  have hsp := splice_all (l := [.int .i64 0, .slice none 0 0, .slice none 0 0, .slice none 0 0]) (vs := L0) (by rw [hL0l]; rfl)
  have hdr := drop_all (l := [.int .i64 0, .slice none 0 0, .slice none 0 0, .slice none 0 0]) (vs := L0) (by rw [hL0l]; rfl)
  simp (disch := first | assumption | omega | (simp only [szR, cq_len, cq_all, cxC_len, cxC_all, plC_len, plC_all] <;> omega) | rfl | decide) only [gen0, gen1, gen2, rulesC, rulesX, rulesM, litR, bolR, Nat.reduceAdd, Nat.reduceLeDiff, numR, memR, valR, heapR, updR, intR, decR, extR, slR, segR, thenR, pnR, Int.reduceToNat, Int.reduceAdd, Int.reduceSub, Int.reduceLT, Int.reduceLE, Nat.reduceSub, Nat.reduceMul, Nat.reduceEqDiff, joinBR, hL0l, hL0a, hsp, hdr, g0, plC_0, plC_k, hnil, hner]
  have hx3 : Ext [] w2 (w2.alloc (.cells L0.toArray 35)) := Ext.alloc Ext.refl _ _
  have m7 : (w2.alloc (.cells L0.toArray 35)).heap[b7]? = some (.cells L0.toArray 35 (0, 0)) := alloc_at hb7
  rw [← hb7]
  have n0 := hx3.at g0 (by simp)
  have n1 := hx3.at g1 (by simp)
  have nM := hM2.ext hx3 (by simp) (by simp)
  have nD := (hD2 (b7 + 1)).ext hx3 (by simp)
  have hx4 := hx0.trans hx3 (by simp)
  have hs3 : b7 + 1 ≤ (w2.alloc (.cells L0.toArray 35)).heap.size := by rw [hb7]; simp only [szR]; omega
  have hpw : w.heap.size ≤ pb ∧ w.heap.size ≤ rb ∧ w.heap.size ≤ b7 ∧ w.heap.size ≠ b7 ∧ w.heap.size + 1 ≠ b7 ∧ w.heap.size ≠ pb ∧ w.heap.size + 1 ≠ pb ∧ rb ≠ b7 ∧ pb ≠ b7 := by omega
  obtain ⟨hw1, hw2, hw3, hw4, hw5, hw6, hw7, hw8, hw9⟩ := hpw
  clear hx3 hb7 hD2 hL0a hsp hdr hL0l g0 g1 hM2 hx0
  generalize w2.alloc (.cells L0.toArray 35) = w3 at *
  refine loopT.intro (fun st w' => ∃ (k : Nat) (z : Int) (L : List Value) (P : List (Nat × Int)) (va vb : Value) (m g md : Nat → Int), k ≤ ws.length ∧ st = [.int .i64 z] ∧ z = k ∧ Mem w' rb pb 3 m g ∧ Wds m ws k ∧ w'.heap[b7]? = some (.cells L.toArray 35 (0, 0)) ∧ RMem w' (b7 + 1) L 3 md (4 * k) P va vb ∧ Ext [pb, b7] w3 w')
    (fun st _ => match st with
      | [.int _ z] => ws.length - z.toNat
      | _ => 0) ⟨0, 0, L0, [], _, _, _, _, _, by omega, rfl, rfl, nM, fun i x hi => absurd hi (Nat.not_lt_zero _), m7, nD, Ext.refl⟩ ?_
  rintro st w4 ⟨k, z, L, P, va, vb, m, g, md, hk, rfl, rfl, hM, hW, h7, hD, hx⟩ _
  have hxw : Ext [] w w4 := hx4.trans hx (by simp; omega)
  have k0 := hx.at n0 (by simp; omega)
  have k1 := hx.at n1 (by simp; omega)
  have hsz := hx.size
  obtain ⟨hLl, hLa, hLs⟩ := hD.cells
  simp (disch := first | assumption | omega | (simp only [szR, cq_len, cq_all, cxC_len, cxC_all, plC_len, plC_all] <;> omega) | rfl | decide) only [gen0, gen1, gen2, rulesC, rulesX, rulesM, litR, bolR, Nat.reduceAdd, Nat.reduceLeDiff, numR, memR, valR, heapR, updR, intR, decR, extR, slR, segR, thenR, pnR, Int.reduceToNat, Int.reduceAdd, Int.reduceSub, Int.reduceLT, Int.reduceLE, Nat.reduceSub, Nat.reduceMul, Nat.reduceEqDiff, k0, plC_0]
  by_cases hkl : k < ws.length
  · obtain ⟨x, hxk⟩ : ∃ x, ws[k]? = some x := ⟨ws[k], List.getElem?_eq_getElem hkl⟩
    have hx32 := h32 x (List.mem_of_getElem? hxk)
    have hr : (ws.map u4C)[k]? = some (u4C x) := by rw [List.getElem?_map, hxk]; rfl
    rw [List.length_map] at hv
    obtain ⟨b, o, l, E, f, hix, hb, hfit, hlt, hblk, hsub, hget⟩ := RowsAt.ixR (P := Tryz.prog) (t := 39) Tryz.underlying39 Tryz.sizeOf38 hv hr
    have gx := hget o 0 rfl (by omega)
    have ex : (u4C x)[0]? = some (.int .u32 (x : Nat)) := rfl
    rw [ex] at gx
    have hb4 := hxw.at hb (by simp)
    have e4 : (4 : Int) * k = ((4 * k : Nat) : Int) := by omega
    refine condK_bool (fun _ => ?_) (fun h => absurd h (by simp; omega))
    refine joinL.intro fun J6 hJ6 => ?_
    simp (disch := first | assumption | omega | (simp only [szR, cq_len, cq_all, cxC_len, cxC_all, plC_len, plC_all] <;> omega) | rfl | decide) only [gen0, gen1, gen2, rulesC, rulesX, rulesM, litR, bolR, Nat.reduceAdd, Nat.reduceLeDiff, numR, memR, valR, heapR, updR, intR, decR, extR, slR, segR, thenR, pnR, Int.reduceToNat, Int.reduceAdd, Int.reduceSub, Int.reduceLT, Int.reduceLE, Nat.reduceSub, Nat.reduceMul, Nat.reduceEqDiff, k0, plC_0, hix, hb4, gx, e4]
    refine Store_spec (n := 3) (a := 4 * k) (s := 4) (v := (x : Int)) hM (by omega) (by omega) (.inr (.inr (.inl rfl))) (by omega) (by omega) fun g' w5 hM5 hg hx5 => ?_
    have q0 := hx5.at k0 (by simp; omega)
    have q7 := hx5.at h7 (by simp; omega)
    have qb := hx5.at hb4 (by simp; omega)
    have hD5 := hD.ext hx5 (by simp; omega)
    simp (disch := first | assumption | omega | (simp only [szR, cq_len, cq_all, cxC_len, cxC_all, plC_len, plC_all] <;> omega) | rfl | decide) only [gen0, gen1, gen2, rulesC, rulesX, rulesM, litR, bolR, Nat.reduceAdd, Nat.reduceLeDiff, numR, memR, valR, heapR, updR, intR, decR, extR, slR, segR, thenR, pnR, Int.reduceToNat, Int.reduceAdd, Int.reduceSub, Int.reduceLT, Int.reduceLE, Nat.reduceSub, Nat.reduceMul, Nat.reduceEqDiff, hLl, hLs, q7, q0, plC_0, hix, qb, gx, e4, and_self]
    have hxdr : Ext [] w5 w5.drew := by (repeat first | assumption | exact Ext.refl | apply Ext.alloc | apply Ext.drew | (refine Ext.updN ?_ ?_; (focus first | omega | (simp only [szR] <;> omega))) | (refine Ext.updI ?_ ?_; (focus (simp; done))))
    refine rStore_spec (n := 3) (hD5.ext hxdr (by simp)) (by have := hx5.size; have := hxdr.size; omega) (by omega) (by omega) (by omega) (by omega) (by omega) fun L' P' va' vb' w7 hD7 hx7 => ?_
    have hx57 := hxdr.trans hx7 (by simp)
    replace q0 := hx57.at q0 (by simp)
    replace q7 := hx57.at q7 (by simp)
    have l7 := lt_of_at q7
    obtain ⟨hLl', hLa', hLs'⟩ := hD7.cells
    have hsp := splice_all (l := L) (vs := L') (by omega)
    have hdr := drop_all (l := L) (vs := L') (by omega)
    simp (disch := first | assumption | omega | (simp only [szR, cq_len, cq_all, cxC_len, cxC_all, plC_len, plC_all] <;> omega) | rfl | decide) only [gen0, gen1, gen2, rulesC, rulesX, rulesM, litR, bolR, Nat.reduceAdd, Nat.reduceLeDiff, numR, memR, valR, heapR, updR, intR, decR, extR, slR, segR, thenR, pnR, Int.reduceToNat, Int.reduceAdd, Int.reduceSub, Int.reduceLT, Int.reduceLE, Nat.reduceSub, Nat.reduceMul, Nat.reduceEqDiff, q7, hLl', hLa', hsp]
    apply hJ6
    intro _
    simp (disch := first | assumption | omega | (simp only [szR, cq_len, cq_all, cxC_len, cxC_all, plC_len, plC_all] <;> omega) | rfl | decide) only [gen0, gen1, gen2, rulesC, rulesX, rulesM, litR, bolR, Nat.reduceAdd, Nat.reduceLeDiff, numR, memR, valR, heapR, updR, intR, decR, extR, slR, segR, thenR, pnR, Int.reduceToNat, Int.reduceAdd, Int.reduceSub, Int.reduceLT, Int.reduceLE, Nat.reduceSub, Nat.reduceMul, Nat.reduceEqDiff]
    have hxu : Ext [b7] w7 (World.upd w7 b7 L') := by (repeat first | assumption | exact Ext.refl | apply Ext.alloc | apply Ext.drew | (refine Ext.updN ?_ ?_; (focus first | omega | (simp only [szR] <;> omega))) | (refine Ext.updI ?_ ?_; (focus (simp; done))))
    have hxv : Ext [pb, b7] w4 (World.upd w7 b7 L') := ((hx5.mono (by simp)).step (hx57.mono (by simp))).step (hxu.mono (by simp))
    refine ⟨⟨k + 1, (k : Int) + 1, L', P', va', vb', _, g', _, by omega, rfl, by omega, (hM5.ext hx57 (by simp) (by simp)).ext hxu (by simp; omega) (by simp; omega), hW.step hxk hx32, by first | exact upd_at q7 | (rw [q7]; rfl), hD7.ext hxu (by simp), hx.step hxv⟩, by omega⟩
  · obtain rfl : k = ws.length := by omega
    refine condK_bool (fun h => absurd h (by simp)) (fun _ => ?_)
    refine loopT.intro (fun st w' => st = [.int .i64 0] ∧ w' = w4) (fun _ _ => 0) ⟨rfl, rfl⟩ ?_
    rintro st w5 ⟨rfl, rfl⟩ _
    have l0 := lt_of_at k0
    have l1 := lt_of_at k1
    have hsp := splice_all (l := [.int .i64 0, .slice none 0 0, .slice none 0 0, .slice none 0 0]) (vs := L) (by rw [hLl]; rfl)
    have hdr := drop_all (l := [.int .i64 0, .slice none 0 0, .slice none 0 0, .slice none 0 0]) (vs := L) (by rw [hLl]; rfl)
    simp (disch := first | assumption | omega | (simp only [szR, cq_len, cq_all, cxC_len, cxC_all, plC_len, plC_all] <;> omega) | rfl | decide) only [gen0, gen1, gen2, rulesC, rulesX, rulesM, litR, bolR, Nat.reduceAdd, Nat.reduceLeDiff, numR, memR, valR, heapR, updR, intR, decR, extR, slR, segR, thenR, pnR, Int.reduceToNat, Int.reduceAdd, Int.reduceSub, Int.reduceLT, Int.reduceLE, Nat.reduceSub, Nat.reduceMul, Nat.reduceEqDiff, k0, plC_k, h7, hLl, hLs, hLa, k1, hsp, hdr]
    have hxz : Ext [w.heap.size + 1] w5 (World.upd w5.drew (w.heap.size + 1) L) := by (repeat first | assumption | exact Ext.refl | apply Ext.alloc | apply Ext.drew | (refine Ext.updN ?_ ?_; (focus first | omega | (simp only [szR] <;> omega))) | (refine Ext.updI ?_ ?_; (focus (simp; done))))
    exact hK rb pb L m g _ (hM.ext hxz (by simp; omega) (by simp; omega)) hW hLl hLa hLs (hxw.trans hxz (by simp)) hw2 hw1
end Go.Proofs.YtplfniijbeinmaaGreat
