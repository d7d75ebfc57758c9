/- An instruction that is run, by itself; conditions: those of each theorem. -/
import Derived.Test.YtplfniijbeinmaaGreatBuilt
namespace Go.Proofs.YtplfniijbeinmaaGreat
open Go.Fx
set_option maxRecDepth 100000
set_option linter.unusedSimpArgs false
set_option linter.unusedVariables false
/-- the capability of a program's words, where it is. -/
def pcM : Nat := 17180917760
def pcQ (a : Nat) : Cq := ⟨true, pcM, a⟩
def begX : Nat → Cq := setX zeroX 32 (pcQ 0)
theorem dec_of {W k : Nat} (i : In) (hW : W < 4294967296) (hk : k < 69) (hne : (List.range k).all (fun j => decide (W &&& fixM (row j) ≠ fixW (row j))) = true) (heq : decide (W &&& fixM (row k) = fixW (row k)) = true) (hs : (row k).s = 73 ∨ (row k).s = 83) (hlt : decide ((pcsOf (row k).s).foldl (pcN W) 0 < 2 ^ 11) = true) (hi : ofW W k (row k).s = i) :
    ∀ (w : World) (K : Value → World → Prop), (∀ w', Ext [] w w' → K (.tuple #[.agg (inC i).toArray, .bool true]) w') → callsK Tryz.prog 31 #[.int .u32 (W : Nat)] w K := fun w K hK => by
  refine iDecode_spec hW hk (fun j hj => ?_) (of_decide_eq_true heq) hs (of_decide_eq_true hlt) (by rw [hi]; exact hK)
  exact of_decide_eq_true (List.all_eq_true.1 hne j (List.mem_range.2 hj))
def iAddi : In := ⟨22, 1, 0, 0, 5⟩
def iCsc : In := ⟨44, 0, 2, 4, 0⟩
def iClc : In := ⟨43, 3, 2, 0, 0⟩
theorem dec_addi : ∀ (w : World) (K : Value → World → Prop), (∀ w', Ext [] w w' → K (.tuple #[.agg (inC iAddi).toArray, .bool true]) w') → callsK Tryz.prog 31 #[.int .u32 (5243027 : Nat)] w K := dec_of (W := 5243027) (k := 21) iAddi (by omega) (by omega) (by kernel_rfl) (by kernel_rfl) (.inl (by kernel_rfl)) (by kernel_rfl) (by kernel_rfl)
theorem dec_csc : ∀ (w : World) (K : Value → World → Prop), (∀ w', Ext [] w w' → K (.tuple #[.agg (inC iCsc).toArray, .bool true]) w') → callsK Tryz.prog 31 #[.int .u32 (4276259 : Nat)] w K := dec_of (W := 4276259) (k := 43) iCsc (by omega) (by omega) (by kernel_rfl) (by kernel_rfl) (.inr (by kernel_rfl)) (by kernel_rfl) (by kernel_rfl)
theorem dec_clc : ∀ (w : World) (K : Value → World → Prop), (∀ w', Ext [] w w' → K (.tuple #[.agg (inC iClc).toArray, .bool true]) w') → callsK Tryz.prog 31 #[.int .u32 (74127 : Nat)] w K := dec_of (W := 74127) (k := 42) iClc (by omega) (by omega) (by kernel_rfl) (by kernel_rfl) (.inl (by kernel_rfl)) (by kernel_rfl) (by kernel_rfl)
theorem pc_sp {a : Nat} (h : a ≤ 64) : spM pcM a = some (0, 64) := by
  unfold spM spn
  rw [show pcM % 16384 = 0 from by kernel_rfl, show pcM / 16384 % 4096 = 64 from by kernel_rfl, show pcM / 67108864 % 64 = 0 from by kernel_rfl]
  rw [show (0 : Nat) - 1 = 0 by omega, Nat.pow_zero, Nat.div_one, Nat.div_one]
  rw [if_neg (by omega), if_neg (by omega), if_neg (by simp <;> omega), Nat.mul_one, Nat.mul_one]
  congr 2 <;> first | omega | (simp <;> omega)
theorem pc_right {a : Nat} (h : a ≤ 64) : rightM pcM a = true := by
  unfold rightM
  rw [pc_sp h]
  kernel_rfl
theorem pc_open {a : Nat} (h : a ≤ 64) : openM true pcM a = true := by
  unfold openM
  rw [pc_right h]
  kernel_rfl
theorem pc_move {a b : Nat} (h : a ≤ 64) (hb : b ≤ 64) : moveT true pcM a b = true := by
  unfold moveT
  rw [pc_open h, pc_sp h, pc_sp hb]
  kernel_rfl
theorem pc_chk {a : Nat} (h : a ≤ 60) : chkN true pcM a 0 4 = 0 := by
  unfold chkN
  rw [pc_open (by omega), pc_right (by omega), pc_sp (by omega)]
  rw [if_neg (by simp), if_neg (by simp), if_neg (by rw [show pwN (needN 0) (pcM / 4294967296 % 512) = true from by kernel_rfl]; simp), if_pos ⟨Nat.zero_le _, by show a + 4 ≤ 64; omega⟩]
theorem pc_lim {a : Nat} (h : a ≤ 64) : spB (spM pcM a) < 18446744073709551616 ∧ spT (spM pcM a) < 18446744073709551616 := by
  rw [pc_sp h]
  decide
theorem pc_next {c : Nat → Cq} {a : Nat} (hc : c 32 = pcQ a) (h : a ≤ 60) : nextX c = setX c 32 (pcQ (a + 4)) := by
  unfold nextX
  rw [hc]
  have e : (a + 4) % 18446744073709551616 = a + 4 := Nat.mod_eq_of_lt (by omega)
  show setX c 32 ⟨moveT true pcM a ((a + 4) % 18446744073709551616), pcM, (a + 4) % 18446744073709551616⟩ = _
  rw [e, pc_move (by omega) (by omega)]
  rfl
/-- a step where the program's words are. -/
theorem Step_at {w : World} {rb pb a W k e va : Nat} {c d : Nat → Cq} {i : In} {m g m' : Nat → Int} {Q : (Nat → Int) → Prop} (hM : Mem w rb pb 3 m g) (hc : c 32 = pcQ a) (ha : a ≤ 60) (hal : a % 4 = 0) (hW : leN m a 4 = W)
    (h1 : i.r1 < 9223372036854775808) (h2 : i.r2 < 9223372036854775808)
    (hD : ∀ (w : World) (K : Value → World → Prop), (∀ w', Ext [] w w' → K (.tuple #[.agg (inC i).toArray, .bool true]) w') → callsK Tryz.prog 31 #[.int .u32 (W : Nat)] w K)
    (hrun : ∀ (q : Nat) (w1 : World) (K : Value → World → Prop), w1.heap[q]? = some (.cells (rnC ⟨setX c 32 (pcQ (a + 4)), c, flV rb, flV_one rb, i, regX c i.r1, regX c i.r2⟩).toArray 91 (0, 0)) → Mem w1 rb pb 3 m g → (∀ g' w2, Q g' → Mem w2 rb pb 3 m' g' → Ext [q, pb] w1 w2 → K (.tuple #[.agg (cxC d).toArray, .agg (ouC k e va i).toArray]) w2) → callsK Tryz.prog 32 #[.pointer (some ⟨q, 0, none⟩)] w1 K)
    {K : Value → World → Prop} (hK : ∀ g' w', Q g' → Mem w' rb pb 3 m' g' → Ext [pb] w w' → K (.tuple #[.agg (cxC d).toArray, .agg (ouC k e va i).toArray]) w') :
    callsK Tryz.prog 10 #[.agg (cxC c).toArray, flV rb] w K := by
  have hm : (c 32).m = pcM := by rw [hc]; rfl
  have haa : (c 32).a = a := by rw [hc]; rfl
  have ht : (c 32).t = true := by rw [hc]; rfl
  have hl := pc_lim (a := a) (by omega)
  refine Step_spec (n := 3) hM (by omega) (by rw [hm]; decide) (by rw [haa]; omega) (by rw [hm, haa]; exact hl.1) (by rw [hm, haa]; exact hl.2) (by rw [ht, hm, haa]; exact pc_chk ha) (by rw [haa]; exact hal) (by rw [haa]; exact hW) h1 h2 hD ?_ hK
  rw [pc_next hc ha]
  exact hrun
instance : DecidableEq Cq := fun a b => by
  cases a; cases b
  rw [Cq.mk.injEq]
  exact inferInstance
theorem cq_eql (x y : Cq) (p q : Operand) (w : World) : (binV .eql 24 p q (.agg (cq x).toArray) (.agg (cq y).toArray)).run Tryz.prog w = .ok (.bool (decide (x = y))) w := by
  have h := RX_eql_24 x.t y.t x.m y.m x.a y.a p q w
  have e : decide (x = y) = ((x.t == y.t) && (((x.m : Int) == y.m) && (((x.a : Int) == y.a) && true))) := by
    obtain ⟨t, m, a⟩ := x
    obtain ⟨t2, m2, a2⟩ := y
    rw [Bool.eq_iff_iff]
    simp
    omega
  rw [e]
  exact h
theorem plC_build (b : Nat) (n : Nat) (w : World) : (Instr.build 45 #[(0, .slice (some ⟨b, 0, none⟩) n n)]).run Tryz.prog w = .ok (.agg (plC (.slice (some ⟨b, 0, none⟩) n n) zeroX (.slice none 0 0)).toArray) w := run_build w 45 _ _ (by kernel_rfl)
theorem pc_build (w : World) : (Instr.build 24 #[(0, .bool true), (1, .int .u64 17180917760)]).run Tryz.prog w = .ok (.agg (cq (pcQ 0)).toArray) w := run_build w 24 _ _ (by kernel_rfl)
theorem fl_build (rb : Nat) (w : World) : (Instr.build 55 #[(0, .pointer (some ⟨rb, 0, none⟩))]).run Tryz.prog w = .ok (.agg [.pointer (some ⟨rb, 0, none⟩)].toArray) w := run_build w 55 _ _ (by kernel_rfl)
theorem fl_iface (rb : Nat) (w : World) : (Instr.makeInterface 55 (.agg [.pointer (some ⟨rb, 0, none⟩)].toArray)).run Tryz.prog w = .ok (flV rb) w := by kernel_rfl
theorem Mem.neH {w : World} {q rb pb n : Nat} {r : Rn} {m g : Nat → Int} (h : Mem w rb pb n m g) (hr : w.heap[q]? = some (.cells (rnC r).toArray 91 (0, 0))) : q ≠ rb := by
  rintro rfl
  have h1 := h.head
  rw [hr] at h1
  simp only [Option.some.injEq, Obj.cells.injEq] at h1
  exact absurd h1.2.1 (by decide)
theorem Mem.run {w w' : World} {q rb pb n : Nat} {r : Rn} {m g : Nat → Int} (h : Mem w rb pb n m g) (hr : w.heap[q]? = some (.cells (rnC r).toArray 91 (0, 0))) (hx : Ext [q] w w') : Mem w' rb pb n m g :=
  h.ext hx (by have := h.neH hr; simp; exact fun e => this e.symm) (by have := h.neR hr; simp; exact fun e => this e.symm)
theorem two_put (w : World) (d : Nat → Cq) (o : List Value) : Ext [] w (World.upd (World.upd ((w.alloc (.cells (cxC zeroX).toArray 42)).alloc (.cells [.int .i64 0, .int .i64 0, .int .u64 0, .int .i64 0, .int .i64 0, .int .i64 0, .int .i64 0, .int .i64 0].toArray 51)) w.heap.size (cxC d)) (w.heap.size + 1) o) ∧ (World.upd (World.upd ((w.alloc (.cells (cxC zeroX).toArray 42)).alloc (.cells [.int .i64 0, .int .i64 0, .int .u64 0, .int .i64 0, .int .i64 0, .int .i64 0, .int .i64 0, .int .i64 0].toArray 51)) w.heap.size (cxC d)) (w.heap.size + 1) o).heap[w.heap.size]? = some (.cells (cxC d).toArray 42 (0, 0)) ∧ (World.upd (World.upd ((w.alloc (.cells (cxC zeroX).toArray 42)).alloc (.cells [.int .i64 0, .int .i64 0, .int .u64 0, .int .i64 0, .int .i64 0, .int .i64 0, .int .i64 0, .int .i64 0].toArray 51)) w.heap.size (cxC d)) (w.heap.size + 1) o).heap[w.heap.size + 1]? = some (.cells o.toArray 51 (0, 0)) := by
  have h1 := two_1 w
  have h2 := two_2 w
  have hx := two_x w
  refine ⟨?_, (upd_ne (by omega)).trans (upd_at h1), upd_at ((upd_ne (by omega)).trans h2)⟩
  have hs : ((w.alloc (.cells (cxC zeroX).toArray 42)).alloc (.cells [.int .i64 0, .int .i64 0, .int .u64 0, .int .i64 0, .int .i64 0, .int .i64 0, .int .i64 0, .int .i64 0].toArray 51)).heap.size = w.heap.size + 2 := by simp only [szR]
  generalize ((w.alloc (.cells (cxC zeroX).toArray 42)).alloc (.cells [.int .i64 0, .int .i64 0, .int .u64 0, .int .i64 0, .int .i64 0, .int .i64 0, .int .i64 0, .int .i64 0].toArray 51)) = w1 at *
  have hxo : Ext [w.heap.size, w.heap.size + 1] w1 (World.upd (World.upd w1 w.heap.size (cxC d)) (w.heap.size + 1) o) := by (repeat first | assumption | exact Ext.refl | apply Ext.alloc | apply Ext.drew | (refine Ext.updN ?_ ?_; (focus first | omega | (simp only [szR] <;> omega))) | (refine Ext.updI ?_ ?_; (focus (simp; done))))
  exact hx.trans hxo (by simp)
theorem one_spec {w : World} {K : Value → World → Prop} (hK : ∀ w', Ext [] w w' → K (.bool true) w') : callsK Tryz.prog 12 #[] w K := by
  apply F12_ok
  unfold F12
  have hx0 : Ext [] w (w.alloc (.cells [.int .u32 5243027].toArray 38)) := by (repeat first | assumption | exact Ext.refl | apply Ext.alloc | apply Ext.drew | (refine Ext.updN ?_ ?_; (focus first | omega | (simp only [szR] <;> omega))) | (refine Ext.updI ?_ ?_; (focus (simp; done))))
  have hv : RowsAt (w.alloc (.cells [.int .u32 5243027].toArray 38)) (.slice (some ⟨w.heap.size, 0, none⟩) 1 1) 1 ([5243027].map u4C) := RowsAt.one (l := u4C 5243027) (alloc_at rfl) rfl
  simp (disch := first | assumption | omega | (simp only [szR, cq_len, cq_all, cxC_len, cxC_all, inC_len, inC_all, rnC_len, rnC_all, ouC_len, ouC_all, vwC_len, vwC_all, plC_len, plC_all] <;> omega) | rfl | decide) only [gen0, gen1, gen2, rulesC, rulesX, rulesM, litR, bolR, Nat.reduceAdd, Nat.reduceLeDiff, numR, memR, valR, heapR, updR, intR, decR, extR, slR, segR, thenR, pnR, Int.reduceToNat, Int.reduceAdd, Int.reduceSub, Int.reduceLT, Int.reduceLE, Nat.reduceSub, Nat.reduceMul, Nat.reduceEqDiff, plC_build]
  refine built_spec (ws := [5243027]) hv (by simp) (by simp) fun rb pb L m g w1 hM1 hW hLl hLa hLs hx1 hrb hpb => ?_
  have hW0 : leN m 0 4 = 5243027 := hW 0 5243027 (by simp) rfl
  have hsp := splice_all (l := [.int .i64 0, .slice none 0 0, .slice none 0 0, .slice none 0 0]) (vs := L) (by rw [hLl]; rfl)
  have hdr := drop_all (l := [.int .i64 0, .slice none 0 0, .slice none 0 0, .slice none 0 0]) (vs := L) (by rw [hLl]; rfl)
  have hx2 := hx0.trans hx1 (by simp)
  simp (disch := first | assumption | omega | (simp only [szR, cq_len, cq_all, cxC_len, cxC_all, inC_len, inC_all, rnC_len, rnC_all, ouC_len, ouC_all, vwC_len, vwC_all, plC_len, plC_all] <;> omega) | rfl | decide) only [gen0, gen1, gen2, rulesC, rulesX, rulesM, litR, bolR, Nat.reduceAdd, Nat.reduceLeDiff, numR, memR, valR, heapR, updR, intR, decR, extR, slR, segR, thenR, pnR, Int.reduceToNat, Int.reduceAdd, Int.reduceSub, Int.reduceLT, Int.reduceLE, Nat.reduceSub, Nat.reduceMul, Nat.reduceEqDiff, hLl, hLa, hLs, hsp, hdr, pc_build, cq_over0, cq_put, cq_sub]
  have hx3 : Ext [] w1 ((w1.alloc (.cells L.toArray 35)).alloc (.cells (cq (pcQ 0)).toArray 24)) := by (repeat first | assumption | exact Ext.refl | apply Ext.alloc | apply Ext.drew | (refine Ext.updN ?_ ?_; (focus first | omega | (simp only [szR] <;> omega))) | (refine Ext.updI ?_ ?_; (focus (simp; done))))
  refine Zero_reg (x := pcQ 0) fun w2 hx4 => ?_
  have hxa := hx3.trans hx4 (by simp)
  have hM2 := hM1.ext hxa (by simp) (by simp)
  have hx5 := hx2.trans hxa (by simp)
  simp (disch := first | assumption | omega | (simp only [szR, cq_len, cq_all, cxC_len, cxC_all, inC_len, inC_all, rnC_len, rnC_all, ouC_len, ouC_all, vwC_len, vwC_all, plC_len, plC_all] <;> omega) | rfl | decide) only [gen0, gen1, gen2, rulesC, rulesX, rulesM, litR, bolR, Nat.reduceAdd, Nat.reduceLeDiff, numR, memR, valR, heapR, updR, intR, decR, extR, slR, segR, thenR, pnR, Int.reduceToNat, Int.reduceAdd, Int.reduceSub, Int.reduceLT, Int.reduceLE, Nat.reduceSub, Nat.reduceMul, Nat.reduceEqDiff, fl_build, fl_iface]
  refine Step_at (a := 0) (W := 5243027) (i := iAddi) (d := setX (setX begX 32 (pcQ 4)) 1 ⟨false, 0, 5⟩) (k := 0) (e := 0) (va := 0) (m' := m) (Q := fun _ => True) hM2 rfl (by omega) (by omega) hW0 (by decide) (by decide) dec_addi (fun q w3 K hq hM3 hK3 => ?_) fun g' w3 hQ hM3 hx6 => ?_
  · refine runAddi_spec hq rfl (by show 1 < 9223372036854775808; decide) (by show 5 < 9223372036854775808; decide) (by show 0 + 5 < 18446744073709551616; decide) fun w4 hx7 => ?_
    exact hK3 g w4 trivial (hM3.run hq hx7) (hx7.mono (by simp))
  simp only [szR] at hpb
  have hx8 : Ext [] w w3 := hx5.trans hx6 (by simp; omega)
  obtain ⟨d, hd⟩ : ∃ d, d = setX (setX begX 32 (pcQ 4)) 1 ⟨false, 0, 5⟩ := ⟨_, rfl⟩
  have hd1 : regX d 1 = ⟨false, 0, 5⟩ := by rw [hd]; rfl
  have hd2 : d 32 = pcQ 4 := by rw [hd]; rfl
  rw [← hd]
  simp (disch := first | assumption | omega | (simp only [szR, cq_len, cq_all, cxC_len, cxC_all, inC_len, inC_all, rnC_len, rnC_all, ouC_len, ouC_all, vwC_len, vwC_all, plC_len, plC_all] <;> omega) | rfl | decide) only [gen0, gen1, gen2, rulesC, rulesX, rulesM, litR, bolR, Nat.reduceAdd, Nat.reduceLeDiff, numR, memR, valR, heapR, updR, intR, decR, extR, slR, segR, thenR, pnR, Int.reduceToNat, Int.reduceAdd, Int.reduceSub, Int.reduceLT, Int.reduceLE, Nat.reduceSub, Nat.reduceMul, Nat.reduceEqDiff, zeroX_cells, cx_over, cx_put, ou_over, ou_put, cx_sub, ou_sub]
  obtain ⟨hxo, g5, g6⟩ := two_put w3 d (ouC 0 0 0 iAddi)
  generalize World.upd (World.upd ((w3.alloc (.cells (cxC zeroX).toArray 42)).alloc (.cells [.int .i64 0, .int .i64 0, .int .u64 0, .int .i64 0, .int .i64 0, .int .i64 0, .int .i64 0, .int .i64 0].toArray 51)) w3.heap.size (cxC d)) (w3.heap.size + 1) (ouC 0 0 0 iAddi) = w4 at *
  refine Next_spec (c := d) (by rw [hd2]; decide) (by rw [hd2]; decide) fun w5 hx9 => ?_
  replace g5 := hx9.at g5 (by simp)
  replace g6 := hx9.at g6 (by simp)
  have hxc := (hx8.trans hxo (by simp)).trans hx9 (by simp)
  have l5 := lt_of_at g5
  have l6 := lt_of_at g6
  rw [pc_next hd2 (by omega)]
  have o0 : (ouC 0 0 0 iAddi)[0]? = some (.int .i64 0) := rfl
  have o3 : (ouC 0 0 0 iAddi)[3]? = some (.int .i64 22) := rfl
  have x98 := cx_pca d
  rw [hd2] at x98
  have y98 := cx_pca (setX d 32 (pcQ 8))
  have ea : (setX d 32 (pcQ 8) 32).a = 8 := rfl
  have eb : (pcQ 4).a = 4 := rfl
  rw [ea] at y98
  rw [eb] at x98
  simp (disch := first | assumption | omega | (simp only [szR, cq_len, cq_all, cxC_len, cxC_all, inC_len, inC_all, rnC_len, rnC_all, ouC_len, ouC_all, vwC_len, vwC_all, plC_len, plC_all] <;> omega) | rfl | decide) only [gen0, gen1, gen2, rulesC, rulesX, rulesM, litR, bolR, Nat.reduceAdd, Nat.reduceLeDiff, numR, memR, valR, heapR, updR, intR, decR, extR, slR, segR, thenR, pnR, Int.reduceToNat, Int.reduceAdd, Int.reduceSub, Int.reduceLT, Int.reduceLE, Nat.reduceSub, Nat.reduceMul, Nat.reduceEqDiff, joinBR, g5, g6, o0, o3, cx_sub, zeroX_cells, cx_over, cx_put]
  have hxe : Ext [] w5 (w5.alloc (.cells (cxC (setX d 32 (pcQ 8))).toArray 42)) := by (repeat first | assumption | exact Ext.refl | apply Ext.alloc | apply Ext.drew | (refine Ext.updN ?_ ?_; (focus first | omega | (simp only [szR] <;> omega))) | (refine Ext.updI ?_ ?_; (focus (simp; done))))
  have g7 : (w5.alloc (.cells (cxC (setX d 32 (pcQ 8))).toArray 42)).heap[w5.heap.size]? = some (.cells (cxC (setX d 32 (pcQ 8))).toArray 42 (0, 0)) := alloc_at rfl
  refine Get_reg (c := d) (n := 1) (by omega) fun w6 hx10 => ?_
  rw [hd1]
  simp (disch := first | assumption | omega | (simp only [szR, cq_len, cq_all, cxC_len, cxC_all, inC_len, inC_all, rnC_len, rnC_all, ouC_len, ouC_all, vwC_len, vwC_all, plC_len, plC_all] <;> omega) | rfl | decide) only [gen0, gen1, gen2, rulesC, rulesX, rulesM, litR, bolR, Nat.reduceAdd, Nat.reduceLeDiff, numR, memR, valR, heapR, updR, intR, decR, extR, slR, segR, thenR, pnR, Int.reduceToNat, Int.reduceAdd, Int.reduceSub, Int.reduceLT, Int.reduceLE, Nat.reduceSub, Nat.reduceMul, Nat.reduceEqDiff, joinBR, if_true]
  refine Null_spec (n := 5) fun w7 hx11 => ?_
  have hxf := (hxe.trans hx10 (by simp)).trans hx11 (by simp)
  have k5 := hxf.at g5 (by simp)
  have k7 := (hx10.trans hx11 (by simp)).at g7 (by simp)
  have e5 : cpC false 0 5 = cq ⟨false, 0, 5⟩ := rfl
  have hq := cq_eql ⟨false, 0, 5⟩ ⟨false, 0, 5⟩
  rw [decide_eq_true rfl] at hq
  rw [e5]
  simp (disch := first | assumption | omega | (simp only [szR, cq_len, cq_all, cxC_len, cxC_all, inC_len, inC_all, rnC_len, rnC_all, ouC_len, ouC_all, vwC_len, vwC_all, plC_len, plC_all] <;> omega) | rfl | decide) only [gen0, gen1, gen2, rulesC, rulesX, rulesM, litR, bolR, Nat.reduceAdd, Nat.reduceLeDiff, numR, memR, valR, heapR, updR, intR, decR, extR, slR, segR, thenR, pnR, Int.reduceToNat, Int.reduceAdd, Int.reduceSub, Int.reduceLT, Int.reduceLE, Nat.reduceSub, Nat.reduceMul, Nat.reduceEqDiff, joinBR, hq, k5, k7, x98, y98, if_true]
  exact hK _ (hxc.trans hxf (by simp))
end Go.Proofs.YtplfniijbeinmaaGreat
