/- Who jumps, and comes back: the law; conditions: those of each theorem. -/
import Derived.Test.YtplfniijbeinmaaGreatEnc4
namespace Go.Proofs.YtplfniijbeinmaaGreat
open Go.Fx
set_option maxRecDepth 100000
set_option linter.unusedSimpArgs false
set_option linter.unusedVariables false
def wC (ws : List Nat) : List Value := ws.map fun x => .int .u32 (x : Nat)
theorem wC_len (ws : List Nat) : (wC ws).length = ws.length := by simp [wC]
theorem wC_lr (n : Nat) : (wC (List.replicate n 0)).length = n := by simp [wC]
theorem wC_ls (ws : List Nat) (k v : Nat) : (wC (ws.set k v)).length = (wC ws).length := by simp [wC]
theorem wC_all (ws : List Nat) : (wC ws).all (fun v => v.oneCell') = true := by
  rw [List.all_eq_true]
  intro v hv
  obtain ⟨x, -, rfl⟩ := List.mem_map.1 hv
  rfl
theorem wC_set (ws : List Nat) (k v : Nat) : (wC ws).set k (.int .u32 (v : Nat)) = wC (ws.set k v) := by
  unfold wC
  rw [List.map_set]
theorem rowsW {w : World} {E : TypeId} {f : Nat × Nat} {g n : Nat} {ws : List Nat} (h : w.heap[g]? = some (.cells (wC ws).toArray E f)) (hn : n = ws.length) (hl : ws.length ≤ 1000) : RowsAt w (.slice (some ⟨g, 0, none⟩) n n) 1 (ws.map u4C) := by
  subst hn
  refine ⟨some ⟨g, 0, none⟩, ws.length, by rw [List.length_map], ⟨by rw [List.length_map]; exact Nat.le_refl _, by simp [maxLen]; omega⟩, .inr ⟨g, 0, _, E, f, rfl, h, by rw [List.length_map, wC_len]; omega, fun i r hi => ?_⟩⟩
  rw [List.getElem?_map] at hi
  obtain ⟨x, hx, rfl⟩ := Option.map_eq_some_iff.1 hi
  have hil := (List.getElem?_eq_some_iff.1 hx).1
  apply List.ext_getElem?
  intro j
  rw [Nat.zero_add, Nat.mul_one]
  unfold sub
  match j with
  | 0 =>
    rw [List.getElem?_take_of_lt (by omega), List.getElem?_drop, Nat.add_zero]
    unfold wC
    rw [List.getElem?_map, hx]
    rfl
  | j + 1 =>
    rw [List.getElem?_take, if_neg (by omega)]
    rfl
theorem wC_mk (n : Nat) : madeL [.int .u32 0] (n * 1) = wC (List.replicate n 0) := by
  unfold wC
  rw [List.map_replicate, Nat.mul_one]
  refine List.eq_replicate_iff.2 ⟨madeL_length _ _, fun b hb => ?_⟩
  obtain ⟨i, -, rfl⟩ := List.mem_map.1 hb
  show ([Value.int .u32 0].getD (i % 1) undef) = _
  rw [Nat.mod_one]
  rfl
theorem cq_neql (x y : Cq) (p q : Operand) (w : World) : (binV .neq 24 p q (.agg (cq x).toArray) (.agg (cq y).toArray)).run Tryz.prog w = .ok (.bool (!(decide (x = y)))) w := by
  have h := RJ_neq_24 x.t y.t x.m y.m x.a y.a p q w
  have e : decide (x = y) = ((x.t == y.t) && (((x.m : Int) == y.m) && (((x.a : Int) == y.a) && true))) := by
    obtain ⟨t, m, a⟩ := x
    obtain ⟨t2, m2, a2⟩ := y
    rw [Bool.eq_iff_iff]
    simp
    omega
  rw [e]
  exact h
theorem pj_build (w : World) : (Instr.build 24 #[(0, .bool true), (1, .int .u64 21477457920)]).run Tryz.prog w = .ok (.agg (cq ⟨true, pjM, 0⟩).toArray) w := run_build w 24 _ _ (by kernel_rfl)
theorem ws_lt {n k u v N : Nat} (h0 : 0 < N) (hu : u < N) (hv : v < N) : ∀ x ∈ ((List.replicate n 0).set 0 u).set k v, x < N := by
  intro x hx
  rcases List.mem_or_eq_of_mem_set hx with h | h
  · rcases List.mem_or_eq_of_mem_set h with h | h
    · rw [List.eq_of_mem_replicate h]
      exact h0
    · rw [h]
      exact hu
  · rw [h]
    exact hv
theorem jal_lt {l a : Nat} (hl : l ≤ 16) (ha : a ≤ 9) : jalW l a < 4294967296 := by unfold jalW; omega
theorem ret_lt {l x : Nat} (hl : l ≤ 16) (hx : x ≤ 256) : retW l x < 4294967296 := by unfold retW; omega
/-- the words of a play of jumps, as its memory tells them. -/
theorem play_spec {w : World} {g A u v : Nat} (hA : 2 ≤ A ∧ A ≤ 9) (hu : u < 4294967296) (hv : v < 4294967296) {f : Nat × Nat} {E : TypeId} (hg : w.heap[g]? = some (.cells (wC (((List.replicate (A + 1) 0).set 0 u).set A v)).toArray E f)) {K : Value → World → Prop}
    (hK : ∀ (rb pb : Nat) (L : List Value) (m g : Nat → Int) (w' : World), Mem w' rb pb 3 m g → leN m 0 4 = u → leN m (4 * A) 4 = v → L.length = 4 → L.all (fun v => v.oneCell') = true → sub L 0 4 = L → Ext [] w w' → w.heap.size ≤ rb → w.heap.size ≤ pb → K (.tuple #[.pointer (some ⟨rb, 0, none⟩), .agg L.toArray, .int .i64 1]) w') :
    callsK Tryz.prog 7 #[.agg (plC (.slice (some ⟨g, 0, none⟩) (A + 1) (A + 1)) zeroX (.slice none 0 0)).toArray] w K := by
  have hl : (((List.replicate (A + 1) 0).set 0 u).set A v).length = A + 1 := by simp
  refine built_spec (rowsW hg hl.symm (by omega)) (by omega) (ws_lt (by decide) hu hv) fun rb pb L m g w' hM hW => ?_
  have h0 : (((List.replicate (A + 1) 0).set 0 u).set A v)[0]? = some u := by
    rw [List.getElem?_set_ne (by omega), List.getElem?_set_self (by simp)]
  have hA2 : (((List.replicate (A + 1) 0).set 0 u).set A v)[A]? = some v := by
    rw [List.getElem?_set_self (by simp)]
  exact hK rb pb L m g w' hM (hW 0 u (by omega) h0) (hW A v (by omega) hA2)
set_option maxHeartbeats 8000000 in
theorem ejumps_spec {w : World} {a0 a1 a2 : Int} {K : Value → World → Prop} (hK : ∀ w', Ext [] w w' → K (.bool true) w') : callsK Tryz.prog 5 #[.int .i64 a0, .int .i64 a1, .int .i64 a2] w K := by
  apply F5_ok
  unfold F5
  obtain ⟨A, hA⟩ : ∃ A : Nat, A = 2 + (a0 % 8).toNat := ⟨_, rfl⟩
  obtain ⟨l, hl⟩ : ∃ l : Nat, l = 1 + (a2 % 16).toNat := ⟨_, rfl⟩
  obtain ⟨x, hx⟩ : ∃ x : Nat, x = 1 + (a1 % 256).toNat := ⟨_, rfl⟩
  have hAb : 2 ≤ A ∧ A ≤ 9 := by omega
  have hlb : 1 ≤ l ∧ l ≤ 16 := by omega
  have hxb : 1 ≤ x ∧ x ≤ 256 := by omega
  have ea : bitI .and .i64 a0 7 = a0 % 8 := by rw [show (7 : Int) = ((2 ^ 3 - 1 : Nat) : Int) by decide, and_mask (by decide)]; rfl
  have el : bitI .and .i64 a2 15 = a2 % 16 := by rw [show (15 : Int) = ((2 ^ 4 - 1 : Nat) : Int) by decide, and_mask (by decide)]; rfl
  have ex : bitI .and .i64 a1 255 = a1 % 256 := by rw [show (255 : Int) = ((2 ^ 8 - 1 : Nat) : Int) by decide, and_mask (by decide)]; rfl
  have ea2 : 2 + a0 % 8 = ((A : Nat) : Int) := by omega
  have el2 : 1 + a2 % 16 = ((l : Nat) : Int) := by omega
  have ex2 : 1 + a1 % 256 = ((x : Nat) : Int) := by omega
  have e4 : (4 : Int) * (A : Nat) = ((4 * A : Nat) : Int) := by omega
  have eA1 : ((A : Nat) : Int) + 1 = ((A + 1 : Nat) : Int) := by omega
  have hb1 : ∀ (r m : Nat) w, (Instr.build 49 #[(0, .int .i64 3), (1, .int .i64 (r : Nat)), (4, .int .i64 (m : Nat))]).run Tryz.prog w = .ok (.agg (inC ⟨3, r, 0, 0, m⟩).toArray) w := fun r m w => run_build w 49 _ _ (by kernel_rfl)
  have hb2 : ∀ (r : Nat) w, (Instr.build 49 #[(0, .int .i64 4), (1, .int .i64 20), (2, .int .i64 (r : Nat))]).run Tryz.prog w = .ok (.agg (inC ⟨4, 20, r, 0, 0⟩).toArray) w := fun r w => run_build w 49 _ _ (by kernel_rfl)
  have hb3 : ∀ (r m : Nat) w, (Instr.build 49 #[(0, .int .i64 4), (1, .int .i64 20), (2, .int .i64 (r : Nat)), (4, .int .i64 (m : Nat))]).run Tryz.prog w = .ok (.agg (inC ⟨4, 20, r, 0, m⟩).toArray) w := fun r m w => run_build w 49 _ _ (by kernel_rfl)
  simp (disch := first | assumption | omega | (simp only [szR, cq_len, cq_all, cxC_len, cxC_all, inC_len, inC_all, rnC_len, rnC_all, ouC_len, ouC_all, vwC_len, vwC_all, plC_len, plC_all, wC_lr, wC_ls, wC_all] <;> omega) | rfl | decide) only [gen0, gen1, gen2, rulesC, rulesX, rulesM, rulesJ, litR, bolR, Nat.reduceAdd, Nat.reduceLeDiff, numR, memR, valR, heapR, updR, intR, decR, extR, slR, segR, thenR, pnR, Int.reduceToNat, Int.reduceAdd, Int.reduceSub, Int.reduceLT, Int.reduceLE, Nat.reduceSub, Nat.reduceMul, Nat.reduceEqDiff, ea, el, ex, ea2, el2, ex2, e4, hb1]
  refine enc_jal hlb hAb fun w1 hx1 => ?_
  simp (disch := first | assumption | omega | (simp only [szR, cq_len, cq_all, cxC_len, cxC_all, inC_len, inC_all, rnC_len, rnC_all, ouC_len, ouC_all, vwC_len, vwC_all, plC_len, plC_all, wC_lr, wC_ls, wC_all] <;> omega) | rfl | decide) only [gen0, gen1, gen2, rulesC, rulesX, rulesM, rulesJ, litR, bolR, Nat.reduceAdd, Nat.reduceLeDiff, numR, memR, valR, heapR, updR, intR, decR, extR, slR, segR, thenR, pnR, Int.reduceToNat, Int.reduceAdd, Int.reduceSub, Int.reduceLT, Int.reduceLE, Nat.reduceSub, Nat.reduceMul, Nat.reduceEqDiff, ea2, el2, ex2, hb2]
  refine enc_ret hlb (by omega) fun w2 hx2 => ?_
  simp (disch := first | assumption | omega | (simp only [szR, cq_len, cq_all, cxC_len, cxC_all, inC_len, inC_all, rnC_len, rnC_all, ouC_len, ouC_all, vwC_len, vwC_all, plC_len, plC_all, wC_lr, wC_ls, wC_all] <;> omega) | rfl | decide) only [gen0, gen1, gen2, rulesC, rulesX, rulesM, rulesJ, litR, bolR, Nat.reduceAdd, Nat.reduceLeDiff, numR, memR, valR, heapR, updR, intR, decR, extR, slR, segR, thenR, pnR, Int.reduceToNat, Int.reduceAdd, Int.reduceSub, Int.reduceLT, Int.reduceLE, Nat.reduceSub, Nat.reduceMul, Nat.reduceEqDiff, ex, ea2, el2, ex2, hb3]
  refine enc_ret hlb hxb.2 fun w3 hx3 => ?_
  have hxa := (hx1.trans hx2 (by simp)).trans hx3 (by simp)
  have hmk := fun w => run_mk (P := Tryz.prog) (t := 39) Tryz.underlying39 (e := 38) (size := 1) (bytes := 4) (zs := [.int .u32 0]) (by kernel_rfl) .i64 .i64 (A + 1) (by simp) (by omega) (by omega) (by omega) w
  rw [wC_mk] at hmk
  simp (disch := first | assumption | omega | (simp only [szR, cq_len, cq_all, cxC_len, cxC_all, inC_len, inC_all, rnC_len, rnC_all, ouC_len, ouC_all, vwC_len, vwC_all, plC_len, plC_all, wC_lr, wC_ls, wC_all] <;> omega) | rfl | decide) only [gen0, gen1, gen2, rulesC, rulesX, rulesM, rulesJ, litR, bolR, Nat.reduceAdd, Nat.reduceLeDiff, numR, memR, valR, heapR, updR, intR, decR, extR, slR, segR, thenR, pnR, Int.reduceToNat, Int.reduceAdd, Int.reduceSub, Int.reduceLT, Int.reduceLE, Nat.reduceSub, Nat.reduceMul, Nat.reduceEqDiff, joinBR, Bool.not_true, eA1, hmk, wC_set, Int.toNat_natCast, Int.toNat_zero, Nat.mul_one, Nat.zero_add, plC_build]
  have hx4 : Ext [] w3 (w3.alloc (.cells (wC (((List.replicate (A + 1) 0).set 0 (jalW l A)).set A (retW l 0))).toArray 38)) := Ext.alloc Ext.refl _ _
  have g72 : (w3.alloc (.cells (wC (((List.replicate (A + 1) 0).set 0 (jalW l A)).set A (retW l 0))).toArray 38)).heap[w3.heap.size]? = some (.cells (wC (((List.replicate (A + 1) 0).set 0 (jalW l A)).set A (retW l 0))).toArray 38 (0, 0)) := alloc_at rfl
  have hxw := hxa.trans hx4 (by simp)
  have hs72 := hxa.size
  generalize w3.heap.size = b72 at *
  refine play_spec hAb (jal_lt hlb.2 hAb.2) (ret_lt hlb.2 (by omega)) g72 fun rb pb L m g w4 hM hm0 hmA hLl hLa hLs hx5 hrb hpb => ?_
  have hs5 := hxw.size
  have hrp : w.heap.size ≤ pb ∧ w.heap.size ≤ rb ∧ b72 ≠ pb := by
    have := lt_of_at g72
    omega
  replace g72 := hx5.at g72 (by simp)
  have h72 := lt_of_at g72
  replace hxw := hxw.trans hx5 (by simp)
  clear hx4 hx5 hxa hrb hpb hs5
  have hsp := splice_all (l := [.int .i64 0, .slice none 0 0, .slice none 0 0, .slice none 0 0]) (vs := L) (by rw [hLl]; rfl)
  have hdr := drop_all (l := [.int .i64 0, .slice none 0 0, .slice none 0 0, .slice none 0 0]) (vs := L) (by rw [hLl]; rfl)
  simp (disch := first | assumption | omega | (simp only [szR, cq_len, cq_all, cxC_len, cxC_all, inC_len, inC_all, rnC_len, rnC_all, ouC_len, ouC_all, vwC_len, vwC_all, plC_len, plC_all, wC_lr, wC_ls, wC_all] <;> omega) | rfl | decide) only [gen0, gen1, gen2, rulesC, rulesX, rulesM, rulesJ, litR, bolR, Nat.reduceAdd, Nat.reduceLeDiff, numR, memR, valR, heapR, updR, intR, decR, extR, slR, segR, thenR, pnR, Int.reduceToNat, Int.reduceAdd, Int.reduceSub, Int.reduceLT, Int.reduceLE, Nat.reduceSub, Nat.reduceMul, Nat.reduceEqDiff, hLl, hLa, hsp, hdr, pj_build, cq_over0, cq_put, cq_sub]
  have hx6 : Ext [] w4 ((w4.alloc (.cells L.toArray 35)).alloc (.cells (cq ⟨true, pjM, 0⟩).toArray 24)) := by (repeat first | assumption | exact Ext.refl | apply Ext.alloc | apply Ext.drew | (refine Ext.updN ?_ ?_; (focus first | omega | (simp only [szR] <;> omega))) | (refine Ext.updI ?_ ?_; (focus (simp; done))))
  have g17 : ((w4.alloc (.cells L.toArray 35)).alloc (.cells (cq ⟨true, pjM, 0⟩).toArray 24)).heap[w4.heap.size + 1]? = some (.cells (cq ⟨true, pjM, 0⟩).toArray 24 (0, 0)) := alloc_at (by simp only [szR])
  have h17 : w4.heap.size + 1 ≠ pb := by have := hM.lt; omega
  have hs17 := hxw.size
  refine Zero_reg (x := ⟨true, pjM, 0⟩) fun w5 hx7 => ?_
  have hxc := hx6.trans hx7 (by simp)
  replace g17 := hx7.at g17 (by simp)
  replace g72 := hxc.at g72 (by simp)
  replace hM := hM.ext hxc (by simp) (by simp)
  replace hxw := hxw.trans hxc (by simp)
  clear hx6 hx7 hxc
  obtain ⟨c0, hc0⟩ : ∃ c0, c0 = setX zeroX 32 (⟨true, pjM, 0⟩ : Cq) := ⟨_, rfl⟩
  have c0p : c0 32 = ⟨true, pjM, 0⟩ := by rw [hc0]; rfl
  obtain ⟨c1, hc1⟩ : ∃ c1, c1 = withX (setX c0 32 ⟨true, pjM, 4 * A⟩) l ⟨true, seM, 4⟩ := ⟨_, rfl⟩
  have c1p : c1 32 = ⟨true, pjM, 4 * A⟩ := by
    rw [hc1]
    unfold withX
    rw [if_pos (by omega)]
    unfold setX
    rw [if_neg (by omega), if_pos rfl]
  have c1l : regX c1 l = ⟨true, seM, 4⟩ := by
    unfold regX
    rw [if_pos (by omega), hc1]
    unfold withX
    rw [if_pos (by omega)]
    unfold setX
    rw [if_pos rfl]
  obtain ⟨c2, hc2⟩ : ∃ c2, c2 = withX (setX c1 32 ⟨true, pjM, 4⟩) 20 ⟨true, seM, 4 * A + 4⟩ := ⟨_, rfl⟩
  have c2p : c2 32 = ⟨true, pjM, 4⟩ := by rw [hc2]; rfl
  have c2r : regX c2 20 = ⟨true, seM, 4 * A + 4⟩ := by rw [hc2]; rfl
  generalize w4.heap.size = b4 at *
  rw [← hc0]
  simp (disch := first | assumption | omega | (simp only [szR, cq_len, cq_all, cxC_len, cxC_all, inC_len, inC_all, rnC_len, rnC_all, ouC_len, ouC_all, vwC_len, vwC_all, plC_len, plC_all, wC_lr, wC_ls, wC_all] <;> omega) | rfl | decide) only [gen0, gen1, gen2, rulesC, rulesX, rulesM, rulesJ, litR, bolR, Nat.reduceAdd, Nat.reduceLeDiff, numR, memR, valR, heapR, updR, intR, decR, extR, slR, segR, thenR, pnR, Int.reduceToNat, Int.reduceAdd, Int.reduceSub, Int.reduceLT, Int.reduceLE, Nat.reduceSub, Nat.reduceMul, Nat.reduceEqDiff, fl_build, fl_iface]
  refine jal_step hM c0p hlb hAb hm0 fun w6 hM6 hx8 => ?_
  replace g17 := hx8.at g17 (by simp; omega)
  replace g72 := hx8.at g72 (by simp; omega)
  replace hxw := hxw.trans hx8 (by simp; omega)
  have lg17 := lt_of_at g17
  have lg72 := lt_of_at g72
  have lM6 := hM6.lt
  have hs6 := hxw.size
  clear hM
  simp (disch := first | assumption | omega | (simp only [szR, cq_len, cq_all, cxC_len, cxC_all, inC_len, inC_all, rnC_len, rnC_all, ouC_len, ouC_all, vwC_len, vwC_all, plC_len, plC_all, wC_lr, wC_ls, wC_all] <;> omega) | rfl | decide) only [gen0, gen1, gen2, rulesC, rulesX, rulesM, rulesJ, litR, bolR, Nat.reduceAdd, Nat.reduceLeDiff, numR, memR, valR, heapR, updR, intR, decR, extR, slR, segR, thenR, pnR, Int.reduceToNat, Int.reduceAdd, Int.reduceSub, Int.reduceLT, Int.reduceLE, Nat.reduceSub, Nat.reduceMul, Nat.reduceEqDiff, zeroX_cells, cx_over, cx_put, ou_over, ou_put, cx_sub]
  rw [← hc1]
  obtain ⟨hxo, g18, g19⟩ := two_put w6 c1 (ouC 0 0 0 ⟨3, l, 0, 0, 4 * A⟩)
  generalize World.upd (World.upd ((w6.alloc (.cells (cxC zeroX).toArray 42)).alloc (.cells [.int .i64 0, .int .i64 0, .int .u64 0, .int .i64 0, .int .i64 0, .int .i64 0, .int .i64 0, .int .i64 0].toArray 51)) w6.heap.size (cxC c1)) (w6.heap.size + 1) (ouC 0 0 0 ⟨3, l, 0, 0, 4 * A⟩) = w7 at *
  have hn18 : w6.heap.size ≠ pb ∧ w6.heap.size + 1 ≠ pb := by omega
  refine Get_reg (n := l) (by omega) fun w8 hx9 => ?_
  rw [c1l]
  have hxd := hxo.trans hx9 (by simp)
  replace g17 := hxd.at g17 (by simp)
  replace g72 := hxd.at g72 (by simp)
  replace g18 := hx9.at g18 (by simp)
  replace g19 := hx9.at g19 (by simp)
  replace hM6 := hM6.ext hxd (by simp) (by simp)
  replace hxw := hxw.trans hxd (by simp)
  clear hxo hx9 hxd
  generalize w6.heap.size = b18 at *
  simp (disch := first | assumption | omega | (simp only [szR, cq_len, cq_all, cxC_len, cxC_all, inC_len, inC_all, rnC_len, rnC_all, ouC_len, ouC_all, vwC_len, vwC_all, plC_len, plC_all, wC_lr, wC_ls, wC_all] <;> omega) | rfl | decide) only [gen0, gen1, gen2, rulesC, rulesX, rulesM, rulesJ, litR, bolR, Nat.reduceAdd, Nat.reduceLeDiff, numR, memR, valR, heapR, updR, intR, decR, extR, slR, segR, thenR, pnR, Int.reduceToNat, Int.reduceAdd, Int.reduceSub, Int.reduceLT, Int.reduceLE, Nat.reduceSub, Nat.reduceMul, Nat.reduceEqDiff, cq_over0, cq_put, cq_sub]
  have hxe : Ext [] w8 (w8.alloc (.cells (cq ⟨true, seM, 4⟩).toArray 24)) := Ext.alloc Ext.refl _ _
  refine pjLook_spec (a := 4) (by omega) fun w9 hx10 => ?_
  have hxf := hxe.trans hx10 (by simp)
  replace g17 := hxf.at g17 (by simp)
  replace g72 := hxf.at g72 (by simp)
  replace g18 := hxf.at g18 (by simp)
  replace g19 := hxf.at g19 (by simp)
  replace hM6 := hM6.ext hxf (by simp) (by simp)
  replace hxw := hxw.trans hxf (by simp)
  clear hxe hx10 hxf
  have l18a := lt_of_at g18
  simp (disch := first | assumption | omega | (simp only [szR, cq_len, cq_all, cxC_len, cxC_all, inC_len, inC_all, rnC_len, rnC_all, ouC_len, ouC_all, vwC_len, vwC_all, plC_len, plC_all, wC_lr, wC_ls, wC_all] <;> omega) | rfl | decide) only [gen0, gen1, gen2, rulesC, rulesX, rulesM, rulesJ, litR, bolR, Nat.reduceAdd, Nat.reduceLeDiff, numR, memR, valR, heapR, updR, intR, decR, extR, slR, segR, thenR, pnR, Int.reduceToNat, Int.reduceAdd, Int.reduceSub, Int.reduceLT, Int.reduceLE, Nat.reduceSub, Nat.reduceMul, Nat.reduceEqDiff, vw_over, vw_over2, g18, cx_sub, fl_build, fl_iface]
  have hxe : Ext [] w9 (w9.alloc (.cells (vwC seM 4).toArray 28)) := Ext.alloc Ext.refl _ _
  have g21 : (w9.alloc (.cells (vwC seM 4).toArray 28)).heap[w9.heap.size]? = some (.cells (vwC seM 4).toArray 28 (0, 0)) := alloc_at rfl
  replace g17 := hxe.at g17 (by simp)
  replace g72 := hxe.at g72 (by simp)
  replace g18 := hxe.at g18 (by simp)
  replace g19 := hxe.at g19 (by simp)
  have hn21 : w9.heap.size ≠ pb := by have := hM6.lt; omega
  replace hM6 := hM6.ext hxe (by simp) (by simp)
  replace hxw := hxw.trans hxe (by simp)
  clear hxe
  refine ret_step (a := 4) (b := 4 * A) hM6 c1p (by omega) (by omega) hlb c1l (by omega) (by omega) hmA fun w10 hM10 hx11 => ?_
  generalize w9.heap.size = b21 at *
  replace g17 := hx11.at g17 (by simp; omega)
  replace g72 := hx11.at g72 (by simp; omega)
  replace g18 := hx11.at g18 (by simp; omega)
  replace g19 := hx11.at g19 (by simp; omega)
  replace g21 := hx11.at g21 (by simp; omega)
  replace hxw := hxw.trans hx11 (by simp; omega)
  have l17 := lt_of_at g17
  have l72 := lt_of_at g72
  have l18 := lt_of_at g18
  have l19 := lt_of_at g19
  have l21 := lt_of_at g21
  simp (disch := first | assumption | omega | (simp only [szR, cq_len, cq_all, cxC_len, cxC_all, inC_len, inC_all, rnC_len, rnC_all, ouC_len, ouC_all, vwC_len, vwC_all, plC_len, plC_all, wC_lr, wC_ls, wC_all] <;> omega) | rfl | decide) only [gen0, gen1, gen2, rulesC, rulesX, rulesM, rulesJ, litR, bolR, Nat.reduceAdd, Nat.reduceLeDiff, numR, memR, valR, heapR, updR, intR, decR, extR, slR, segR, thenR, pnR, Int.reduceToNat, Int.reduceAdd, Int.reduceSub, Int.reduceLT, Int.reduceLE, Nat.reduceSub, Nat.reduceMul, Nat.reduceEqDiff, zeroX_cells, cx_over, cx_put, ou_over, ou_put, cx_sub]
  refine joinL.intro fun J2 hJ2 => ?_
  obtain ⟨hxo, g23, g24⟩ := two_put w10 (withX (setX c1 32 ⟨true, pjM, 4⟩) 20 ⟨true, seM, 4 * A + 4⟩) (ouC 0 0 0 ⟨4, 20, l, 0, 0⟩)
  rw [← hc2] at g23 g24 hxo
  simp (disch := first | assumption | omega | (simp only [szR, cq_len, cq_all, cxC_len, cxC_all, inC_len, inC_all, rnC_len, rnC_all, ouC_len, ouC_all, vwC_len, vwC_all, plC_len, plC_all, wC_lr, wC_ls, wC_all] <;> omega) | rfl | decide) only [gen0, gen1, gen2, rulesC, rulesX, rulesM, rulesJ, litR, bolR, Nat.reduceAdd, Nat.reduceLeDiff, numR, memR, valR, heapR, updR, intR, decR, extR, slR, segR, thenR, pnR, Int.reduceToNat, Int.reduceAdd, Int.reduceSub, Int.reduceLT, Int.reduceLE, Nat.reduceSub, Nat.reduceMul, Nat.reduceEqDiff]
  rw [← hc2]
  have hn23 : w10.heap.size ≠ pb ∧ w10.heap.size + 1 ≠ pb ∧ b72 ≠ w10.heap.size ∧ b72 ≠ w10.heap.size + 1 := by have := hM10.lt; omega
  have hxp : Ext [] (World.upd (World.upd ((w10.alloc (.cells (cxC zeroX).toArray 42)).alloc (.cells [.int .i64 0, .int .i64 0, .int .u64 0, .int .i64 0, .int .i64 0, .int .i64 0, .int .i64 0, .int .i64 0].toArray 51)) w10.heap.size (cxC (c2))) (w10.heap.size + 1) (ouC 0 0 0 ⟨4, 20, l, 0, 0⟩)) (World.upd (World.upd ((w10.alloc (.cells (cxC zeroX).toArray 42)).alloc (.cells [.int .i64 0, .int .i64 0, .int .u64 0, .int .i64 0, .int .i64 0, .int .i64 0, .int .i64 0, .int .i64 0].toArray 51)) w10.heap.size (cxC (c2))) (w10.heap.size + 1) (ouC 0 0 0 ⟨4, 20, l, 0, 0⟩)).drew := by (repeat first | assumption | exact Ext.refl | apply Ext.alloc | apply Ext.drew | (refine Ext.updN ?_ ?_; (focus first | omega | (simp only [szR] <;> omega))) | (refine Ext.updI ?_ ?_; (focus (simp; done))))
  replace g23 := hxp.at g23 (by simp)
  replace g24 := hxp.at g24 (by simp)
  have hxo2 := hxo.trans hxp (by simp)
  replace g17 := hxo2.at g17 (by simp)
  replace g72 := hxo2.at g72 (by simp)
  replace g18 := hxo2.at g18 (by simp)
  replace g19 := hxo2.at g19 (by simp)
  replace g21 := hxo2.at g21 (by simp)
  replace hxw := hxw.trans hxo2 (by simp)
  generalize (World.upd (World.upd ((w10.alloc (.cells (cxC zeroX).toArray 42)).alloc (.cells [.int .i64 0, .int .i64 0, .int .u64 0, .int .i64 0, .int .i64 0, .int .i64 0, .int .i64 0, .int .i64 0].toArray 51)) w10.heap.size (cxC (c2))) (w10.heap.size + 1) (ouC 0 0 0 ⟨4, 20, l, 0, 0⟩)).drew = w11 at *
  generalize w10.heap.size = b23 at *
  have o0 : ∀ k e v i, (ouC k e v i)[0]? = some (.int .i64 (k : Nat)) := fun _ _ _ _ => rfl
  have o1 : ∀ k e v i, (ouC k e v i)[1]? = some (.int .i64 (e : Nat)) := fun _ _ _ _ => rfl
  have x98 := cx_pca c1
  rw [c1p] at x98
  have x96 := cx_pcc c2
  rw [c2p] at x96
  have e3 := vw_3 seM 4
  rw [show ((seM / 281474976710656 % 4096 : Nat) : Int) = 1 from by kernel_rfl] at e3
  have hnq := cq_neql ⟨true, pjM, 4⟩ ⟨true, pjM, 4⟩
  rw [decide_eq_true rfl] at hnq
  refine relX.ext [] ?_
  (repeat (apply postX.is; (focus (intro v w2 hR hd; have e0 := hR.at g17 (by simp); have e1 := hR.at g18 (by simp); have e2 := hR.at g19 (by simp); have e3 := hR.at g21 (by simp); have e4 := hR.at g23 (by simp); have e5 := hR.at g24 (by simp); (try simp (disch := first | assumption | omega | (simp only [szR, cq_len, cq_all, cxC_len, cxC_all, inC_len, inC_all, rnC_len, rnC_all, ouC_len, ouC_all, vwC_len, vwC_all, plC_len, plC_all, wC_lr, wC_ls, wC_all] <;> omega) | rfl | decide) only [gen0, gen1, gen2, rulesC, rulesX, rulesM, rulesJ, litR, bolR, Nat.reduceAdd, Nat.reduceLeDiff, numR, memR, valR, heapR, updR, intR, decR, extR, slR, segR, thenR, pnR, Int.reduceToNat, Int.reduceAdd, Int.reduceSub, Int.reduceLT, Int.reduceLE, Nat.reduceSub, Nat.reduceMul, Nat.reduceEqDiff, hd, e0, e1, e2, e3, e4, e5, o0, x98, x96, e3, e4, hnq, cq_sub, Bool.not_true, if_true, if_false]); exact okX.is))))
  apply postX.is
  · intro v w5 hR hd
    simp (disch := first | assumption | omega | (simp only [szR, cq_len, cq_all, cxC_len, cxC_all, inC_len, inC_all, rnC_len, rnC_all, ouC_len, ouC_all, vwC_len, vwC_all, plC_len, plC_all, wC_lr, wC_ls, wC_all] <;> omega) | rfl | decide) only [gen0, gen1, gen2, rulesC, rulesX, rulesM, rulesJ, litR, bolR, Nat.reduceAdd, Nat.reduceLeDiff, numR, memR, valR, heapR, updR, intR, decR, extR, slR, segR, thenR, pnR, Int.reduceToNat, Int.reduceAdd, Int.reduceSub, Int.reduceLT, Int.reduceLE, Nat.reduceSub, Nat.reduceMul, Nat.reduceEqDiff, hd]
    exact pjMove_spec (a := 0) (b := 4) (by omega) (by omega) (by decide) fun w6 hx6 => okX.mk hx6 rfl
  (repeat (apply postX.is; (focus (intro v w2 hR hd; have e0 := hR.at g17 (by simp); have e1 := hR.at g18 (by simp); have e2 := hR.at g19 (by simp); have e3 := hR.at g21 (by simp); have e4 := hR.at g23 (by simp); have e5 := hR.at g24 (by simp); (try simp (disch := first | assumption | omega | (simp only [szR, cq_len, cq_all, cxC_len, cxC_all, inC_len, inC_all, rnC_len, rnC_all, ouC_len, ouC_all, vwC_len, vwC_all, plC_len, plC_all, wC_lr, wC_ls, wC_all] <;> omega) | rfl | decide) only [gen0, gen1, gen2, rulesC, rulesX, rulesM, rulesJ, litR, bolR, Nat.reduceAdd, Nat.reduceLeDiff, numR, memR, valR, heapR, updR, intR, decR, extR, slR, segR, thenR, pnR, Int.reduceToNat, Int.reduceAdd, Int.reduceSub, Int.reduceLT, Int.reduceLE, Nat.reduceSub, Nat.reduceMul, Nat.reduceEqDiff, hd, e0, e1, e2, e3, e4, e5, o0, x98, x96, e3, e4, hnq, cq_sub, Bool.not_true, if_true, if_false]); exact okX.is))))
  intro v w12 hR hd _
  simp (disch := first | assumption | omega | (simp only [szR, cq_len, cq_all, cxC_len, cxC_all, inC_len, inC_all, rnC_len, rnC_all, ouC_len, ouC_all, vwC_len, vwC_all, plC_len, plC_all, wC_lr, wC_ls, wC_all] <;> omega) | rfl | decide) only [gen0, gen1, gen2, rulesC, rulesX, rulesM, rulesJ, litR, bolR, Nat.reduceAdd, Nat.reduceLeDiff, numR, memR, valR, heapR, updR, intR, decR, extR, slR, segR, thenR, pnR, Int.reduceToNat, Int.reduceAdd, Int.reduceSub, Int.reduceLT, Int.reduceLE, Nat.reduceSub, Nat.reduceMul, Nat.reduceEqDiff, hd]
  replace g17 := hR.at g17 (by simp)
  replace g72 := hR.at g72 (by simp)
  replace g18 := hR.at g18 (by simp)
  replace g23 := hR.at g23 (by simp)
  replace hxw := hxw.trans hR (by simp)
  clear hR hd g19 g21 g24 hxo hxp hxo2
  apply hJ2
  intro _
  simp (disch := first | assumption | omega | (simp only [szR, cq_len, cq_all, cxC_len, cxC_all, inC_len, inC_all, rnC_len, rnC_all, ouC_len, ouC_all, vwC_len, vwC_all, plC_len, plC_all, wC_lr, wC_ls, wC_all] <;> omega) | rfl | decide) only [gen0, gen1, gen2, rulesC, rulesX, rulesM, rulesJ, litR, bolR, Nat.reduceAdd, Nat.reduceLeDiff, numR, memR, valR, heapR, updR, intR, decR, extR, slR, segR, thenR, pnR, Int.reduceToNat, Int.reduceAdd, Int.reduceSub, Int.reduceLT, Int.reduceLE, Nat.reduceSub, Nat.reduceMul, Nat.reduceEqDiff, List.getD_cons_zero, g23, cx_sub]
  refine Get_reg (c := c2) (n := 20) (by omega) fun w13 hx12 => ?_
  rw [c2r]
  replace g17 := hx12.at g17 (by simp)
  replace g72 := hx12.at g72 (by simp)
  replace g18 := hx12.at g18 (by simp)
  replace hxw := hxw.trans hx12 (by simp)
  have l72 := lt_of_at g72
  have l18 := lt_of_at g18
  have l17 := lt_of_at g17
  have hset : ∀ u v v' : Nat, (((List.replicate (A + 1) 0).set 0 u).set A v).set A v' = ((List.replicate (A + 1) 0).set 0 u).set A v' := fun u v v' => List.set_set ..
  simp (disch := first | assumption | omega | (simp only [szR, cq_len, cq_all, cxC_len, cxC_all, inC_len, inC_all, rnC_len, rnC_all, ouC_len, ouC_all, vwC_len, vwC_all, plC_len, plC_all, wC_lr, wC_ls, wC_all] <;> omega) | rfl | decide) only [gen0, gen1, gen2, rulesC, rulesX, rulesM, rulesJ, litR, bolR, Nat.reduceAdd, Nat.reduceLeDiff, numR, memR, valR, heapR, updR, intR, decR, extR, slR, segR, thenR, pnR, Int.reduceToNat, Int.reduceAdd, Int.reduceSub, Int.reduceLT, Int.reduceLE, Nat.reduceSub, Nat.reduceMul, Nat.reduceEqDiff, cq_over0, cq_put, g72, wC_set, hset, Int.toNat_natCast, Nat.mul_one, Nat.zero_add, plC_build]
  have hs13 := hxw.size
  have hx14 : Ext [] w13 (w13.alloc (.cells (cq ⟨true, seM, 4 * A + 4⟩).toArray 24)) := Ext.alloc Ext.refl _ _
  have g25 : (w13.alloc (.cells (cq ⟨true, seM, 4 * A + 4⟩).toArray 24)).heap[w13.heap.size]? = some (.cells (cq ⟨true, seM, 4 * A + 4⟩).toArray 24 (0, 0)) := alloc_at rfl
  have hx15 : Ext [b72] (w13.alloc (.cells (cq ⟨true, seM, 4 * A + 4⟩).toArray 24)) (World.upd (w13.alloc (.cells (cq ⟨true, seM, 4 * A + 4⟩).toArray 24)) b72 (wC (((List.replicate (A + 1) 0).set 0 (jalW l A)).set A (retW l x)))) := by (repeat first | assumption | exact Ext.refl | apply Ext.alloc | apply Ext.drew | (refine Ext.updN ?_ ?_; (focus first | omega | (simp only [szR] <;> omega))) | (refine Ext.updI ?_ ?_; (focus (simp; done))))
  have m72 : (World.upd (w13.alloc (.cells (cq ⟨true, seM, 4 * A + 4⟩).toArray 24)) b72 (wC (((List.replicate (A + 1) 0).set 0 (jalW l A)).set A (retW l x)))).heap[b72]? = some (.cells (wC (((List.replicate (A + 1) 0).set 0 (jalW l A)).set A (retW l x))).toArray 38 (0, 0)) := upd_at (hx14.at g72 (by simp))
  have hx16 : Ext [b72] w13 (World.upd (w13.alloc (.cells (cq ⟨true, seM, 4 * A + 4⟩).toArray 24)) b72 (wC (((List.replicate (A + 1) 0).set 0 (jalW l A)).set A (retW l x)))) := (hx14.mono (by simp)).step hx15
  replace g17 := hx16.at g17 (by simp; omega)
  replace g18 := hx16.at g18 (by simp; omega)
  replace g25 := hx15.at g25 (by simp; omega)
  replace hxw := hxw.trans hx16 (by simp; omega)
  generalize w13.heap.size = b25 at *
  generalize World.upd (w13.alloc (.cells (cq ⟨true, seM, 4 * A + 4⟩).toArray 24)) b72 (wC (((List.replicate (A + 1) 0).set 0 (jalW l A)).set A (retW l x))) = w14 at *
  refine play_spec hAb (jal_lt hlb.2 hAb.2) (ret_lt hlb.2 hxb.2) m72 fun sb qb L2 m2 gt2 w15 hN hn0 hnA hLl2 hLa2 hLs2 hx17 hsb hqb => ?_
  have l14 := lt_of_at g17
  have l18 := lt_of_at g18
  have l25 := lt_of_at g25
  have hq : qb ≠ b4 + 1 ∧ qb ≠ b18 ∧ qb ≠ b25 := by omega
  have hqw : w.heap.size ≤ qb := by have := hxw.size; omega
  replace g17 := hx17.at g17 (by simp)
  replace g18 := hx17.at g18 (by simp)
  replace g25 := hx17.at g25 (by simp)
  replace hxw := hxw.trans hx17 (by simp)
  have hsp2 := splice_all (l := [.int .i64 0, .slice none 0 0, .slice none 0 0, .slice none 0 0]) (vs := L2) (by rw [hLl2]; rfl)
  have hdr2 := drop_all (l := [.int .i64 0, .slice none 0 0, .slice none 0 0, .slice none 0 0]) (vs := L2) (by rw [hLl2]; rfl)
  have k18 := lt_of_at g18
  simp (disch := first | assumption | omega | (simp only [szR, cq_len, cq_all, cxC_len, cxC_all, inC_len, inC_all, rnC_len, rnC_all, ouC_len, ouC_all, vwC_len, vwC_all, plC_len, plC_all, wC_lr, wC_ls, wC_all] <;> omega) | rfl | decide) only [gen0, gen1, gen2, rulesC, rulesX, rulesM, rulesJ, litR, bolR, Nat.reduceAdd, Nat.reduceLeDiff, numR, memR, valR, heapR, updR, intR, decR, extR, slR, segR, thenR, pnR, Int.reduceToNat, Int.reduceAdd, Int.reduceSub, Int.reduceLT, Int.reduceLE, Nat.reduceSub, Nat.reduceMul, Nat.reduceEqDiff, hLl2, hLa2, hsp2, hdr2, g18, cx_sub, fl_build, fl_iface]
  have hx18 : Ext [] w15 (w15.alloc (.cells L2.toArray 35)) := Ext.alloc Ext.refl _ _
  replace g17 := hx18.at g17 (by simp)
  replace g25 := hx18.at g25 (by simp)
  replace hN := hN.ext hx18 (by simp) (by simp)
  replace hxw := hxw.trans hx18 (by simp)
  refine far_step (a := 4) (b := 4 * A) (x := x) hN c1p (by omega) (by omega) hlb c1l (by omega) hxb.2 (by omega) hnA fun w16 hN16 hx19 => ?_
  replace g17 := hx19.at g17 (by simp; omega)
  replace g25 := hx19.at g25 (by simp; omega)
  replace hxw := hxw.trans hx19 (by simp; omega)
  have k17 := lt_of_at g17
  have k25 := lt_of_at g25
  simp (disch := first | assumption | omega | (simp only [szR, cq_len, cq_all, cxC_len, cxC_all, inC_len, inC_all, rnC_len, rnC_all, ouC_len, ouC_all, vwC_len, vwC_all, plC_len, plC_all, wC_lr, wC_ls, wC_all] <;> omega) | rfl | decide) only [gen0, gen1, gen2, rulesC, rulesX, rulesM, rulesJ, litR, bolR, Nat.reduceAdd, Nat.reduceLeDiff, numR, memR, valR, heapR, updR, intR, decR, extR, slR, segR, thenR, pnR, Int.reduceToNat, Int.reduceAdd, Int.reduceSub, Int.reduceLT, Int.reduceLE, Nat.reduceSub, Nat.reduceMul, Nat.reduceEqDiff, zeroX_cells, cx_over, cx_put, ou_over, ou_put, cx_sub]
  obtain ⟨hxo, g29, g30⟩ := two_put w16 c1 (ouC 5 2 4 ⟨4, 20, l, 0, x⟩)
  have hxp : Ext [] (World.upd (World.upd ((w16.alloc (.cells (cxC zeroX).toArray 42)).alloc (.cells [.int .i64 0, .int .i64 0, .int .u64 0, .int .i64 0, .int .i64 0, .int .i64 0, .int .i64 0, .int .i64 0].toArray 51)) w16.heap.size (cxC (c1))) (w16.heap.size + 1) (ouC 5 2 4 ⟨4, 20, l, 0, x⟩)) (World.upd (World.upd ((w16.alloc (.cells (cxC zeroX).toArray 42)).alloc (.cells [.int .i64 0, .int .i64 0, .int .u64 0, .int .i64 0, .int .i64 0, .int .i64 0, .int .i64 0, .int .i64 0].toArray 51)) w16.heap.size (cxC (c1))) (w16.heap.size + 1) (ouC 5 2 4 ⟨4, 20, l, 0, x⟩)).drew := by (repeat first | assumption | exact Ext.refl | apply Ext.alloc | apply Ext.drew | (refine Ext.updN ?_ ?_; (focus first | omega | (simp only [szR] <;> omega))) | (refine Ext.updI ?_ ?_; (focus (simp; done))))
  replace g30 := hxp.at g30 (by simp)
  have hxo2 := hxo.trans hxp (by simp)
  replace g17 := hxo2.at g17 (by simp)
  replace g25 := hxo2.at g25 (by simp)
  replace hxw := hxw.trans hxo2 (by simp)
  generalize (World.upd (World.upd ((w16.alloc (.cells (cxC zeroX).toArray 42)).alloc (.cells [.int .i64 0, .int .i64 0, .int .u64 0, .int .i64 0, .int .i64 0, .int .i64 0, .int .i64 0, .int .i64 0].toArray 51)) w16.heap.size (cxC (c1))) (w16.heap.size + 1) (ouC 5 2 4 ⟨4, 20, l, 0, x⟩)).drew = w17 at *
  generalize w16.heap.size = b29 at *
  have e44 : ((4 * A : Nat) : Int) + 4 = ((4 * A + 4 : Nat) : Int) := by omega
  have heq := cq_eql ⟨true, pjM, 4 * A + 4⟩ ⟨true, pjM, 4 * A + 4⟩
  rw [decide_eq_true rfl] at heq
  have hw4 : IntKind.u64.wrap (((0 : Nat) : Int) + ((4 * A + 4 : Nat) : Int)) = ((4 * A + 4 : Nat) : Int) := by
    rw [wrapMod]
    omega
  refine relX.ext [] ?_
  (repeat (apply postX.is; (focus (intro v w2 hR hd; have e0 := hR.at g17 (by simp); have e1 := hR.at g25 (by simp); have e2 := hR.at g30 (by simp); (try simp (disch := first | assumption | omega | (simp only [szR, cq_len, cq_all, cxC_len, cxC_all, inC_len, inC_all, rnC_len, rnC_all, ouC_len, ouC_all, vwC_len, vwC_all, plC_len, plC_all, wC_lr, wC_ls, wC_all] <;> omega) | rfl | decide) only [gen0, gen1, gen2, rulesC, rulesX, rulesM, rulesJ, litR, bolR, Nat.reduceAdd, Nat.reduceLeDiff, numR, memR, valR, heapR, updR, intR, decR, extR, slR, segR, thenR, pnR, Int.reduceToNat, Int.reduceAdd, Int.reduceSub, Int.reduceLT, Int.reduceLE, Nat.reduceSub, Nat.reduceMul, Nat.reduceEqDiff, hd, e0, e1, e2, o0, o1, e4, e44, heq, cq_sub, Bool.not_true, if_true, if_false]); exact okX.is))))
  apply postX.is
  · intro v w5 hR hd
    simp (disch := first | assumption | omega | (simp only [szR, cq_len, cq_all, cxC_len, cxC_all, inC_len, inC_all, rnC_len, rnC_all, ouC_len, ouC_all, vwC_len, vwC_all, plC_len, plC_all, wC_lr, wC_ls, wC_all] <;> omega) | rfl | decide) only [gen0, gen1, gen2, rulesC, rulesX, rulesM, rulesJ, litR, bolR, Nat.reduceAdd, Nat.reduceLeDiff, numR, memR, valR, heapR, updR, intR, decR, extR, slR, segR, thenR, pnR, Int.reduceToNat, Int.reduceAdd, Int.reduceSub, Int.reduceLT, Int.reduceLE, Nat.reduceSub, Nat.reduceMul, Nat.reduceEqDiff, hd]
    exact Open_spec (a := 4 * A + 4) (by omega) fun w6 hx6 => okX.mk hx6 rfl
  (repeat (apply postX.is; (focus (intro v w2 hR hd; have e0 := hR.at g17 (by simp); have e1 := hR.at g25 (by simp); have e2 := hR.at g30 (by simp); (try simp (disch := first | assumption | omega | (simp only [szR, cq_len, cq_all, cxC_len, cxC_all, inC_len, inC_all, rnC_len, rnC_all, ouC_len, ouC_all, vwC_len, vwC_all, plC_len, plC_all, wC_lr, wC_ls, wC_all] <;> omega) | rfl | decide) only [gen0, gen1, gen2, rulesC, rulesX, rulesM, rulesJ, litR, bolR, Nat.reduceAdd, Nat.reduceLeDiff, numR, memR, valR, heapR, updR, intR, decR, extR, slR, segR, thenR, pnR, Int.reduceToNat, Int.reduceAdd, Int.reduceSub, Int.reduceLT, Int.reduceLE, Nat.reduceSub, Nat.reduceMul, Nat.reduceEqDiff, hd, e0, e1, e2, o0, o1, e4, e44, heq, cq_sub, Bool.not_true, if_true, if_false]); exact okX.is))))
  apply postX.is
  · intro v w5 hR hd
    simp (disch := first | assumption | omega | (simp only [szR, cq_len, cq_all, cxC_len, cxC_all, inC_len, inC_all, rnC_len, rnC_all, ouC_len, ouC_all, vwC_len, vwC_all, plC_len, plC_all, wC_lr, wC_ls, wC_all] <;> omega) | rfl | decide) only [gen0, gen1, gen2, rulesC, rulesX, rulesM, rulesJ, litR, bolR, Nat.reduceAdd, Nat.reduceLeDiff, numR, memR, valR, heapR, updR, intR, decR, extR, slR, segR, thenR, pnR, Int.reduceToNat, Int.reduceAdd, Int.reduceSub, Int.reduceLT, Int.reduceLE, Nat.reduceSub, Nat.reduceMul, Nat.reduceEqDiff, hd]
    exact pjMove_spec (a := 0) (b := 4 * A + 4) (by omega) (by omega) hw4 fun w6 hx6 => okX.mk hx6 rfl
  (repeat (apply postX.is; (focus (intro v w2 hR hd; have e0 := hR.at g17 (by simp); have e1 := hR.at g25 (by simp); have e2 := hR.at g30 (by simp); (try simp (disch := first | assumption | omega | (simp only [szR, cq_len, cq_all, cxC_len, cxC_all, inC_len, inC_all, rnC_len, rnC_all, ouC_len, ouC_all, vwC_len, vwC_all, plC_len, plC_all, wC_lr, wC_ls, wC_all] <;> omega) | rfl | decide) only [gen0, gen1, gen2, rulesC, rulesX, rulesM, rulesJ, litR, bolR, Nat.reduceAdd, Nat.reduceLeDiff, numR, memR, valR, heapR, updR, intR, decR, extR, slR, segR, thenR, pnR, Int.reduceToNat, Int.reduceAdd, Int.reduceSub, Int.reduceLT, Int.reduceLE, Nat.reduceSub, Nat.reduceMul, Nat.reduceEqDiff, hd, e0, e1, e2, o0, o1, e4, e44, heq, cq_sub, Bool.not_true, if_true, if_false]); exact okX.is))))
  apply postX.is
  · intro v w5 hR hd
    simp (disch := first | assumption | omega | (simp only [szR, cq_len, cq_all, cxC_len, cxC_all, inC_len, inC_all, rnC_len, rnC_all, ouC_len, ouC_all, vwC_len, vwC_all, plC_len, plC_all, wC_lr, wC_ls, wC_all] <;> omega) | rfl | decide) only [gen0, gen1, gen2, rulesC, rulesX, rulesM, rulesJ, litR, bolR, Nat.reduceAdd, Nat.reduceLeDiff, numR, memR, valR, heapR, updR, intR, decR, extR, slR, segR, thenR, pnR, Int.reduceToNat, Int.reduceAdd, Int.reduceSub, Int.reduceLT, Int.reduceLE, Nat.reduceSub, Nat.reduceMul, Nat.reduceEqDiff, hd]
    exact one_spec fun w6 hx6 => okX.mk hx6 rfl
  (repeat (apply postX.is; (focus (intro v w2 hR hd; (try simp (disch := first | assumption | omega | (simp only [szR, cq_len, cq_all, cxC_len, cxC_all, inC_len, inC_all, rnC_len, rnC_all, ouC_len, ouC_all, vwC_len, vwC_all, plC_len, plC_all, wC_lr, wC_ls, wC_all] <;> omega) | rfl | decide) only [gen0, gen1, gen2, rulesC, rulesX, rulesM, rulesJ, litR, bolR, Nat.reduceAdd, Nat.reduceLeDiff, numR, memR, valR, heapR, updR, intR, decR, extR, slR, segR, thenR, pnR, Int.reduceToNat, Int.reduceAdd, Int.reduceSub, Int.reduceLT, Int.reduceLE, Nat.reduceSub, Nat.reduceMul, Nat.reduceEqDiff, hd, if_true]); exact okX.is))))
  intro v w18 hR hd _
  simp (disch := first | assumption | omega | (simp only [szR, cq_len, cq_all, cxC_len, cxC_all, inC_len, inC_all, rnC_len, rnC_all, ouC_len, ouC_all, vwC_len, vwC_all, plC_len, plC_all, wC_lr, wC_ls, wC_all] <;> omega) | rfl | decide) only [gen0, gen1, gen2, rulesC, rulesX, rulesM, rulesJ, litR, bolR, Nat.reduceAdd, Nat.reduceLeDiff, numR, memR, valR, heapR, updR, intR, decR, extR, slR, segR, thenR, pnR, Int.reduceToNat, Int.reduceAdd, Int.reduceSub, Int.reduceLT, Int.reduceLE, Nat.reduceSub, Nat.reduceMul, Nat.reduceEqDiff, hd]
  exact hK _ (hxw.trans hR (by simp))
end Go.Proofs.YtplfniijbeinmaaGreat
