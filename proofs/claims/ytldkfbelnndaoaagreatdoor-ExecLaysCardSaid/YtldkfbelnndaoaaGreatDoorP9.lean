/- Part 9 of what the law ExecLays stands on: formulas of the functions that it reaches, and what each of them does; conditions: those of each theorem. -/
import Derived.Test.YtldkfbelnndaoaaGreatDoorP8
set_option linter.unusedVariables false
set_option linter.unusedSimpArgs false
namespace Go.Proofs.YtldkfbelnndaoaaGreatDoor
open Go.Fx
set_option maxRecDepth 100000
/-- the capability of a program's words, where it is. -/
def pcM : Nat := 17180917760
def pcQ (a : Nat) : Cq := ⟨true, pcM, a⟩
def begX : Nat -> Cq := setX zeroX 32 (pcQ 0)
theorem dec_of {W : Nat} (i : In) (hW : W < 4294967296) (h : dcdF W = (⟨i.op, i.rd, i.r1, i.r2, i.im⟩, true)) : ∀ (w : World) (K : Value -> World -> Prop), (∀ w', Ext [] w w' -> K (.tuple #[.agg (inC i).toArray, .bool true]) w') -> callsK Tryz.prog 27 #[.int .u32 (W : Nat)] w K := fun w K hK => Decode_specA hW fun w' hx => by
 rw [h]
 exact hK w' hx
def iAddi : In := ⟨22, 1, 0, 0, 5⟩
theorem dec_addi : ∀ (w : World) (K : Value -> World -> Prop), (∀ w', Ext [] w w' -> K (.tuple #[.agg (inC iAddi).toArray, .bool true]) w') -> callsK Tryz.prog 27 #[.int .u32 (5243027 : Nat)] w K := dec_of (W := 5243027) iAddi (by omega) (by kernel_rfl)
theorem pc_sp {a : Nat} (h : a <= 64) : spM pcM a = some (0, 64) := by
 unfold spM spn
 rw [show pcM % 16384 = 0 from by kernel_rfl, show pcM / 16384 % 4096 = 64 from by kernel_rfl, show pcM / 67108864 % 64 = 0 from by kernel_rfl]
 rw [show (0 : Nat) - 1 = 0 by omega, Nat.pow_zero, Nat.div_one, Nat.div_one]
 rw [if_neg (by omega), if_neg (by omega), if_neg (by simp <;> omega), Nat.mul_one, Nat.mul_one]
 congr 2 <;> first | omega | (simp <;> omega)
theorem pc_right {a : Nat} (h : a <= 64) : rightM pcM a = true := by
 unfold rightM
 rw [pc_sp h]
 kernel_rfl
theorem pc_open {a : Nat} (h : a <= 64) : openM true pcM a = true := by
 unfold openM
 rw [pc_right h]
 kernel_rfl
theorem pc_move {a b : Nat} (h : a <= 64) (hb : b <= 64) : moveT true pcM a b = true := by
 unfold moveT
 rw [pc_open h, pc_sp h, pc_sp hb]
 kernel_rfl
theorem pc_chk {a : Nat} (h : a <= 60) : chkN true pcM a 0 4 = 0 := by
 unfold chkN
 rw [pc_open (by omega), pc_right (by omega), pc_sp (by omega)]
 rw [if_neg (by simp), if_neg (by simp), if_neg (by rw [show pwN (needN 0) (pcM / 4294967296 % 512) = true from by kernel_rfl]; simp), if_pos ⟨Nat.zero_le _, by show a + 4 <= 64; omega⟩]
theorem pc_lim {a : Nat} (h : a <= 64) : spB (spM pcM a) < 18446744073709551616 /\ spT (spM pcM a) < 18446744073709551616 := by
 rw [pc_sp h]
 decide
theorem pc_next {c : Nat -> Cq} {a : Nat} (hc : c 32 = pcQ a) (h : a <= 60) : nextX c = setX c 32 (pcQ (a + 4)) := by
 unfold nextX
 rw [hc]
 have e : (a + 4) % 18446744073709551616 = a + 4 := Nat.mod_eq_of_lt (by omega)
 show setX c 32 ⟨moveT true pcM a ((a + 4) % 18446744073709551616), pcM, (a + 4) % 18446744073709551616⟩ = _
 rw [e, pc_move (by omega) (by omega)]
 rfl
/-- a step where the program's words are. -/
theorem Step_at {w : World} {rb pb a W k e va : Nat} {c d : Nat -> Cq} {i : In} {m g m' : Nat -> Int} {Q : (Nat -> Int) -> Prop} (hM : Mem w rb pb 3 m g) (hc : c 32 = pcQ a) (ha : a <= 60) (hal : a % 4 = 0) (hW : leN m a 4 = W)
  (h1 : i.r1 < 9223372036854775808) (h2 : i.r2 < 9223372036854775808)
  (hD : ∀ (w : World) (K : Value -> World -> Prop), (∀ w', Ext [] w w' -> K (.tuple #[.agg (inC i).toArray, .bool true]) w') -> callsK Tryz.prog 27 #[.int .u32 (W : Nat)] w K)
  (hrun : ∀ (q : Nat) (w1 : World) (K : Value -> World -> Prop), w1.heap[q]? = some (.cells (rnC ⟨setX c 32 (pcQ (a + 4)), c, flV rb, flV_one rb, i, regX c i.r1, regX c i.r2⟩).toArray 88 (0, 0)) -> Mem w1 rb pb 3 m g -> (∀ g' w2, Q g' -> Mem w2 rb pb 3 m' g' -> Ext [q, pb] w1 w2 -> K (.tuple #[.agg (cxC d).toArray, .agg (ouC k e va i).toArray]) w2) -> callsK Tryz.prog 28 #[.pointer (some ⟨q, 0, none⟩)] w1 K)
  {K : Value -> World -> Prop} (hK : ∀ g' w', Q g' -> Mem w' rb pb 3 m' g' -> Ext [pb] w w' -> K (.tuple #[.agg (cxC d).toArray, .agg (ouC k e va i).toArray]) w') :
  callsK Tryz.prog 9 #[.agg (cxC c).toArray, flV rb] w K := by
 have hm : (c 32).m = pcM := by rw [hc]; rfl
 have haa : (c 32).a = a := by rw [hc]; rfl
 have ht : (c 32).t = true := by rw [hc]; rfl
 have hl := pc_lim (a := a) (by omega)
 refine Step_spec (n := 3) hM (by omega) (by rw [hm]; decide) (by rw [haa]; omega) (by rw [hm, haa]; exact hl.1) (by rw [hm, haa]; exact hl.2) (by rw [ht, hm, haa]; exact pc_chk ha) (by rw [haa]; exact hal) (by rw [haa]; exact hW) h1 h2 hD ?_ hK
 rw [pc_next hc ha]
 exact hrun
instance : DecidableEq Cq := fun a b => by
 cases a; cases b
 rw [Cq.mk.injEq]
 exact inferInstance
theorem cq_eql (x y : Cq) (p q : Operand) (w : World) : (binV .eql 37 p q (.agg (cq x).toArray) (.agg (cq y).toArray)).run Tryz.prog w = .ok (.bool (decide (x = y))) w := by
 have h := RX_eql_37 x.t y.t x.m y.m x.a y.a p q w
 have e : decide (x = y) = ((x.t == y.t) && (((x.m : Int) == y.m) && (((x.a : Int) == y.a) && true))) := by
  obtain ⟨t, m, a⟩ := x
  obtain ⟨t2, m2, a2⟩ := y
  rw [Bool.eq_iff_iff]
  simp
  omega
 rw [e]
 exact h
theorem plC_build (b : Nat) (n : Nat) (w : World) : (Instr.build 43 #[(0, .slice (some ⟨b, 0, none⟩) n n)]).run Tryz.prog w = .ok (.agg (plC (.slice (some ⟨b, 0, none⟩) n n) zeroX (.slice none 0 0)).toArray) w := run_build w 43 _ _ (by kernel_rfl)
theorem pc_build (w : World) : (Instr.build 37 #[(0, .bool true), (1, .int .u64 17180917760)]).run Tryz.prog w = .ok (.agg (cq (pcQ 0)).toArray) w := run_build w 37 _ _ (by kernel_rfl)
theorem fl_build (rb : Nat) (w : World) : (Instr.build 52 #[(0, .pointer (some ⟨rb, 0, none⟩))]).run Tryz.prog w = .ok (.agg [.pointer (some ⟨rb, 0, none⟩)].toArray) w := run_build w 52 _ _ (by kernel_rfl)
theorem fl_iface (rb : Nat) (w : World) : (Instr.makeInterface 52 (.agg [.pointer (some ⟨rb, 0, none⟩)].toArray)).run Tryz.prog w = .ok (flV rb) w := by kernel_rfl
theorem Mem.neH {w : World} {q rb pb n : Nat} {r : Rn} {m g : Nat -> Int} (h : Mem w rb pb n m g) (hr : w.heap[q]? = some (.cells (rnC r).toArray 88 (0, 0))) : q ≠ rb := by
 rintro rfl
 have h1 := h.head
 rw [hr] at h1
 simp only [Option.some.injEq, Obj.cells.injEq] at h1
 exact absurd h1.2.1 (by decide)
theorem Mem.run {w w' : World} {q rb pb n : Nat} {r : Rn} {m g : Nat -> Int} (h : Mem w rb pb n m g) (hr : w.heap[q]? = some (.cells (rnC r).toArray 88 (0, 0))) (hx : Ext [q] w w') : Mem w' rb pb n m g :=
 h.ext hx (by have := h.neH hr; simp; exact fun e => this e.symm) (by have := h.neR hr; simp; exact fun e => this e.symm)
theorem two_put (w : World) (d : Nat -> Cq) (o : List Value) : Ext [] w (World.upd (World.upd ((w.alloc (.cells (cxC zeroX).toArray 40)).alloc (.cells [.int .i64 0, .int .i64 0, .int .u64 0, .int .i64 0, .int .i64 0, .int .i64 0, .int .i64 0, .int .i64 0].toArray 48)) w.heap.size (cxC d)) (w.heap.size + 1) o) /\ (World.upd (World.upd ((w.alloc (.cells (cxC zeroX).toArray 40)).alloc (.cells [.int .i64 0, .int .i64 0, .int .u64 0, .int .i64 0, .int .i64 0, .int .i64 0, .int .i64 0, .int .i64 0].toArray 48)) w.heap.size (cxC d)) (w.heap.size + 1) o).heap[w.heap.size]? = some (.cells (cxC d).toArray 40 (0, 0)) /\ (World.upd (World.upd ((w.alloc (.cells (cxC zeroX).toArray 40)).alloc (.cells [.int .i64 0, .int .i64 0, .int .u64 0, .int .i64 0, .int .i64 0, .int .i64 0, .int .i64 0, .int .i64 0].toArray 48)) w.heap.size (cxC d)) (w.heap.size + 1) o).heap[w.heap.size + 1]? = some (.cells o.toArray 48 (0, 0)) := by
 have h1 := two_1 w
 have h2 := two_2 w
 have hx := two_x w
 refine ⟨?_, (upd_ne (by omega)).trans (upd_at h1), upd_at ((upd_ne (by omega)).trans h2)⟩
 have hs : ((w.alloc (.cells (cxC zeroX).toArray 40)).alloc (.cells [.int .i64 0, .int .i64 0, .int .u64 0, .int .i64 0, .int .i64 0, .int .i64 0, .int .i64 0, .int .i64 0].toArray 48)).heap.size = w.heap.size + 2 := by simp only [szR]
 generalize ((w.alloc (.cells (cxC zeroX).toArray 40)).alloc (.cells [.int .i64 0, .int .i64 0, .int .u64 0, .int .i64 0, .int .i64 0, .int .i64 0, .int .i64 0, .int .i64 0].toArray 48)) = w1 at *
 have hxo : Ext [w.heap.size, w.heap.size + 1] w1 (World.upd (World.upd w1 w.heap.size (cxC d)) (w.heap.size + 1) o) := qX
 exact hx.trans hxo (by simp)
theorem qZ20 : type_of% (And.intro @szR (And.intro @cq_len (And.intro @cq_all (And.intro @cxC_len (And.intro @cxC_all (And.intro @inC_len (And.intro @inC_all (And.intro @rnC_len (And.intro @rnC_all (And.intro @ouC_len (And.intro @ouC_all (And.intro @vwC_len (And.intro @vwC_all (And.intro @plC_len (@plC_all))))))))))))))) := ⟨@szR, @cq_len, @cq_all, @cxC_len, @cxC_all, @inC_len, @inC_all, @rnC_len, @rnC_all, @ouC_len, @ouC_all, @vwC_len, @vwC_all, @plC_len, @plC_all⟩
theorem qD20 {p : Prop} (h : p := by first | assumption | omega | (simp only [qZ20] <;> omega) | rfl | decide) : p := h
theorem one_spec {w : World} {K : Value -> World -> Prop} (hK : ∀ w', Ext [] w w' -> K (.bool true) w') : callsK Tryz.prog 6 #[] w K := by
 apply F6_ok
 unfold F6
 have hx0 : Ext [] w (w.alloc (.cells [.int .u32 5243027].toArray 71)) := qX
 have hv : RowsAt (w.alloc (.cells [.int .u32 5243027].toArray 71)) (.slice (some ⟨w.heap.size, 0, none⟩) 1 1) 1 ([5243027].map u4C) := RowsAt.one (l := u4C 5243027) (alloc_at rfl) rfl
 simp (disch := first | exact qD20 | fail) only [qG4, Nat.reduceAdd, Nat.reduceLeDiff, Int.reduceToNat, Int.reduceAdd, Int.reduceSub, Int.reduceLT, Int.reduceLE, Nat.reduceSub, Nat.reduceMul, Nat.reduceEqDiff, plC_build]
 refine built_spec (ws := [5243027]) hv (by simp) (by simp) fun rb pb L m g w1 hM1 hW hLl hLa hLs hx1 hrb hpb => ?_
 have hW0 : leN m 0 4 = 5243027 := hW 0 5243027 (by simp) rfl
 have hsp := splice_all (l := [.int .i64 0, .slice none 0 0, .slice none 0 0, .slice none 0 0]) (vs := L) (by rw [hLl]; rfl)
 have hdr := drop_all (l := [.int .i64 0, .slice none 0 0, .slice none 0 0, .slice none 0 0]) (vs := L) (by rw [hLl]; rfl)
 have hx2 := hx0.trans hx1 (by simp)
 simp (disch := first | exact qD20 | fail) only [qG4, Nat.reduceAdd, Nat.reduceLeDiff, Int.reduceToNat, Int.reduceAdd, Int.reduceSub, Int.reduceLT, Int.reduceLE, Nat.reduceSub, Nat.reduceMul, Nat.reduceEqDiff, hLl, hLa, hLs, hsp, hdr, pc_build, cq_over0, cq_put, cq_sub]
 have hx3 : Ext [] w1 ((w1.alloc (.cells L.toArray 32)).alloc (.cells (cq (pcQ 0)).toArray 37)) := qX
 refine Zero_reg (x := pcQ 0) fun w2 hx4 => ?_
 have hxa := hx3.trans hx4 (by simp)
 have hM2 := hM1.ext hxa (by simp) (by simp)
 have hx5 := hx2.trans hxa (by simp)
 simp (disch := first | exact qD20 | fail) only [qG4, Nat.reduceAdd, Nat.reduceLeDiff, Int.reduceToNat, Int.reduceAdd, Int.reduceSub, Int.reduceLT, Int.reduceLE, Nat.reduceSub, Nat.reduceMul, Nat.reduceEqDiff, fl_build, fl_iface]
 refine Step_at (a := 0) (W := 5243027) (i := iAddi) (d := setX (setX begX 32 (pcQ 4)) 1 ⟨false, 0, 5⟩) (k := 0) (e := 0) (va := 0) (m' := m) (Q := fun _ => True) hM2 rfl (by omega) (by omega) hW0 (by decide) (by decide) dec_addi (fun q w3 K hq hM3 hK3 => ?_) fun g' w3 hQ hM3 hx6 => ?_
 ·refine runAddi_spec hq rfl (by show 1 < 9223372036854775808; decide) fun w4 hx7 => ?_
  have e5 : ((regX begX 0).a + un (5 : Int)) % 18446744073709551616 = 5 := by decide
  show K (.tuple #[.agg (cxC (withX (setX begX 32 (pcQ 4)) 1 ⟨false, 0, ((regX begX 0).a + un (5 : Int)) % 18446744073709551616⟩)).toArray, .agg (ouC 0 0 0 iAddi).toArray]) w4
  rw [e5]
  exact hK3 g w4 trivial (hM3.run hq hx7) (hx7.mono (by simp))
 simp only [szR] at hpb
 have hx8 : Ext [] w w3 := hx5.trans hx6 (by simp; omega)
 obtain ⟨d, hd⟩ : ∃ d, d = setX (setX begX 32 (pcQ 4)) 1 ⟨false, 0, 5⟩ := ⟨_, rfl⟩
 have hd1 : regX d 1 = ⟨false, 0, 5⟩ := by rw [hd]; rfl
 have hd2 : d 32 = pcQ 4 := by rw [hd]; rfl
 rw [<- hd]
 simp (disch := first | exact qD20 | fail) only [qG4, Nat.reduceAdd, Nat.reduceLeDiff, Int.reduceToNat, Int.reduceAdd, Int.reduceSub, Int.reduceLT, Int.reduceLE, Nat.reduceSub, Nat.reduceMul, Nat.reduceEqDiff, zeroX_cells, cx_over, cx_put, ou_over, ou_put, cx_sub, ou_sub]
 obtain ⟨hxo, g5, g6⟩ := two_put w3 d (ouC 0 0 0 iAddi)
 generalize World.upd (World.upd ((w3.alloc (.cells (cxC zeroX).toArray 40)).alloc (.cells [.int .i64 0, .int .i64 0, .int .u64 0, .int .i64 0, .int .i64 0, .int .i64 0, .int .i64 0, .int .i64 0].toArray 48)) w3.heap.size (cxC d)) (w3.heap.size + 1) (ouC 0 0 0 iAddi) = w4 at *
 refine Next_spec (c := d) (by rw [hd2]; decide) (by rw [hd2]; decide) fun w5 hx9 => ?_
 replace g5 := hx9.at g5 (by simp)
 replace g6 := hx9.at g6 (by simp)
 have hxc := (hx8.trans hxo (by simp)).trans hx9 (by simp)
 have l5 := lt_of_at g5
 have l6 := lt_of_at g6
 rw [pc_next hd2 (by omega)]
 have o0 : (ouC 0 0 0 iAddi)[0]? = some (.int .i64 0) := rfl
 have o3 : (ouC 0 0 0 iAddi)[3]? = some (.int .i64 22) := rfl
 have x98 := cx_pca d
 rw [hd2] at x98
 have y98 := cx_pca (setX d 32 (pcQ 8))
 have ea : (setX d 32 (pcQ 8) 32).a = 8 := rfl
 have eb : (pcQ 4).a = 4 := rfl
 rw [ea] at y98
 rw [eb] at x98
 simp (disch := first | exact qD20 | fail) only [qG4, Nat.reduceAdd, Nat.reduceLeDiff, Int.reduceToNat, Int.reduceAdd, Int.reduceSub, Int.reduceLT, Int.reduceLE, Nat.reduceSub, Nat.reduceMul, Nat.reduceEqDiff, joinBR, g5, g6, o0, o3, cx_sub, zeroX_cells, cx_over, cx_put]
 have hxe : Ext [] w5 (w5.alloc (.cells (cxC (setX d 32 (pcQ 8))).toArray 40)) := qX
 have g7 : (w5.alloc (.cells (cxC (setX d 32 (pcQ 8))).toArray 40)).heap[w5.heap.size]? = some (.cells (cxC (setX d 32 (pcQ 8))).toArray 40 (0, 0)) := alloc_at rfl
 refine Get_reg (c := d) (n := 1) (by omega) fun w6 hx10 => ?_
 rw [hd1]
 simp (disch := first | exact qD20 | fail) only [qG4, Nat.reduceAdd, Nat.reduceLeDiff, Int.reduceToNat, Int.reduceAdd, Int.reduceSub, Int.reduceLT, Int.reduceLE, Nat.reduceSub, Nat.reduceMul, Nat.reduceEqDiff, joinBR, if_true]
 refine Null_spec (n := 5) fun w7 hx11 => ?_
 have hxf := (hxe.trans hx10 (by simp)).trans hx11 (by simp)
 have k5 := hxf.at g5 (by simp)
 have k7 := (hx10.trans hx11 (by simp)).at g7 (by simp)
 have e5 : cpC false 0 5 = cq ⟨false, 0, 5⟩ := rfl
 have hq := cq_eql ⟨false, 0, 5⟩ ⟨false, 0, 5⟩
 rw [decide_eq_true rfl] at hq
 rw [e5]
 simp (disch := first | exact qD20 | fail) only [qG4, Nat.reduceAdd, Nat.reduceLeDiff, Int.reduceToNat, Int.reduceAdd, Int.reduceSub, Int.reduceLT, Int.reduceLE, Nat.reduceSub, Nat.reduceMul, Nat.reduceEqDiff, joinBR, hq, k5, k7, x98, y98, if_true]
 exact hK _ (hxc.trans hxf (by simp))
open Go.Fx
theorem qG5 : type_of% (And.intro @gen0 (And.intro (@gen1 Tryz.prog) (And.intro @gen2 (And.intro @rulesC (And.intro @rulesX (And.intro @rulesM (And.intro @rulesA (And.intro @rulesL (And.intro @litR (And.intro @bolR (And.intro (@numR Tryz.prog) (And.intro (@memR Tryz.prog) (And.intro @valR (And.intro @heapR (And.intro @updR (And.intro @intR (And.intro @decR (And.intro (@extR Tryz.prog) (And.intro (@slR Tryz.prog) (And.intro @segR (And.intro @thenR ((@pnR Tryz.prog))))))))))))))))))))))) := ⟨@gen0, (@gen1 Tryz.prog), @gen2, @rulesC, @rulesX, @rulesM, @rulesA, @rulesL, @litR, @bolR, (@numR Tryz.prog), (@memR Tryz.prog), @valR, @heapR, @updR, @intR, @decR, (@extR Tryz.prog), (@slR Tryz.prog), @segR, @thenR, (@pnR Tryz.prog)⟩
set_option maxRecDepth 100000
def tenZ : ByteArray := ⟨#[48, 49, 50, 51, 52, 53, 54, 55, 56, 57]⟩
theorem ten_cut {d : Nat} (h : d < 10) : tenZ.extract d (d + 1) = ⟨#[UInt8.ofNat (48 + d)]⟩ := by
 match d, h with
 | 0, _ => rfl
 | 1, _ => rfl
 | 2, _ => rfl
 | 3, _ => rfl
 | 4, _ => rfl
 | 5, _ => rfl
 | 6, _ => rfl
 | 7, _ => rfl
 | 8, _ => rfl
 | 9, _ => rfl
theorem lnum_spec : ∀ (f n : Nat), n < 10 ^ f -> 0 < f -> f <= 20 -> n < 1000000000000000000 -> ∀ (w : World) (K : Value -> World -> Prop), K (.string ⟨(decF f n).toArray⟩) w -> callsK Tryz.prog 5 #[.int .i64 (n : Nat)] w K
 | 0, _, _, h, _, _, _, _, _ => absurd h (by omega)
 | f + 1, n, hn, _, hf, h18, w, K, hK => by
  apply F5_ok
  unfold F5
  have hd : ((n : Nat) : Int) % 10 = ((n % 10 : Nat) : Int) := by omega
  have hq : ((n : Nat) : Int) / 10 = ((n / 10 : Nat) : Int) := by omega
  have hs : (⟨#[48, 49, 50, 51, 52, 53, 54, 55, 56, 57]⟩ : ByteArray) = tenZ := rfl
  have hcut : ∀ w, (Instr.sliceAt 9 (.string tenZ) (some (.int .i64 ((n % 10 : Nat) : Int))) (some (.int .i64 (((n % 10 : Nat) : Int) + 1))) none).run Tryz.prog w = .ok (.string ⟨#[UInt8.ofNat (48 + n % 10)]⟩) w := by
   intro w
   rw [run_cutS Tryz.underlying9 _ _ _ (l := n % 10) (h := n % 10 + 1) (fun w => (slR.2.2.2.1 _ _ _ _ _ _ _ _ ⟨by omega, by omega, by show ((n % 10 : Nat) : Int) + 1 <= ((10 : Nat) : Int); omega⟩).trans (by rw [show (((n % 10 : Nat) : Int) + 1).toNat = n % 10 + 1 by omega, Int.toNat_natCast])), ten_cut (by omega)]
  by_cases h10 : n < 10
  ·rw [decF_small h10] at hK
   simp (disch := first | exact qD20 | fail) only [qG5, Nat.reduceAdd, Nat.reduceLeDiff, Int.reduceToNat, Int.reduceAdd, Int.reduceSub, Int.reduceLT, Int.reduceLE, Nat.reduceSub, Nat.reduceMul, Nat.reduceEqDiff, joinBR, hd, hs, hcut]
   rw [show n % 10 = n by omega]
   exact hK
  ·rw [decF_big h10] at hK
   have hf0 : 0 < f := by
    rcases Nat.eq_zero_or_pos f with rfl | h1
    ·simp at hn; omega
    ·exact h1
   simp (disch := first | exact qD20 | fail) only [qG5, Nat.reduceAdd, Nat.reduceLeDiff, Int.reduceToNat, Int.reduceAdd, Int.reduceSub, Int.reduceLT, Int.reduceLE, Nat.reduceSub, Nat.reduceMul, Nat.reduceEqDiff, joinBR, hd, hq, hs, hcut]
   refine lnum_spec f (n / 10) (by rw [Nat.div_lt_iff_lt_mul (by omega), <- Nat.pow_succ]; exact hn) hf0 (by omega) (by omega) _ _ ?_
   have hl := decF_len f (n / 10)
   have hadd := addS (a := decF f (n / 10)) (b := [UInt8.ofNat (48 + n % 10)]) (by simp; omega)
   simp (disch := first | exact qD20 | fail) only [qG5, Nat.reduceAdd, Nat.reduceLeDiff, Int.reduceToNat, Int.reduceAdd, Int.reduceSub, Int.reduceLT, Int.reduceLE, Nat.reduceSub, Nat.reduceMul, Nat.reduceEqDiff, hadd]
   exact hK
theorem ldigits_spec {w : World} {n : Int} (h : -10000000000 < n /\ n < 10000000000) {K : Value -> World -> Prop} (hK : K (.string ⟨(dec n).toArray⟩) w) : callsK Tryz.prog 5 #[.int .i64 n] w K := by
 have p20 : n.natAbs < 10 ^ 20 := by
  have : (10 : Nat) ^ 20 = 100000000000000000000 := by decide
  omega
 by_cases h0 : n < 0
 ·apply F5_ok
  unfold F5
  have hd : dec n = 45 :: decF 20 n.natAbs := by unfold dec; rw [if_pos h0]; rfl
  rw [hd] at hK
  have hneg : 0 - n = ((n.natAbs : Nat) : Int) := by omega
  simp (disch := first | exact qD20 | fail) only [qG5, Nat.reduceAdd, Nat.reduceLeDiff, Int.reduceToNat, Int.reduceAdd, Int.reduceSub, Int.reduceLT, Int.reduceLE, Nat.reduceSub, Nat.reduceMul, Nat.reduceEqDiff, joinBR, hneg]
  refine lnum_spec 20 n.natAbs p20 (by omega) (by omega) (by omega) _ _ ?_
  have hl := decF_len 20 n.natAbs
  have hadd := addS (a := [45]) (b := decF 20 n.natAbs) (by simp; omega)
  simp (disch := first | exact qD20 | fail) only [qG5, Nat.reduceAdd, Nat.reduceLeDiff, Int.reduceToNat, Int.reduceAdd, Int.reduceSub, Int.reduceLT, Int.reduceLE, Nat.reduceSub, Nat.reduceMul, Nat.reduceEqDiff, hadd]
  exact hK
 ·obtain ⟨m, rfl⟩ : ∃ m : Nat, n = m := ⟨n.toNat, by omega⟩
  have hd : dec (m : Int) = decF 20 m := by unfold dec; rw [if_neg h0]; rfl
  rw [hd] at hK
  exact lnum_spec 20 m (by omega) (by omega) (by omega) (by omega) _ _ hK
def stL (r : Nat) (n : Int) (t : List UInt8) : List (List UInt8) := if t = liT r n then wideF r n else [t]
theorem wideF_len (r : Nat) (n : Int) : (wideF r n).length <= 2 := by
 unfold wideF
 split <;> simp
theorem wideF_ys (r : Nat) (n : Int) : ∀ y ∈ wideF r n, y.length <= 200 := by
 have h1 := dec_len (n := (r : Int))
 have h2 := dec_len (n := n)
 have h3 := dec_len (n := n - lowZ n)
 have h4 := dec_len (n := lowZ n)
 have h0 := dec_len (n := ((0 : Nat) : Int))
 have k1 : ∀ s m, (addT' r s m).length <= 100 := by
  intro s m
  have q1 := dec_len (n := (s : Int))
  have q2 := dec_len (n := m)
  simp [addT', Lib.join_cons, Lib.joinTail]
  omega
 have k2 : ∀ m, (luiT r m).length <= 100 := by
  intro m
  have q2 := dec_len (n := m)
  simp [luiT]
  omega
 intro y hy
 unfold wideF at hy
 split at hy
 ·rw [List.mem_singleton] at hy
  rw [hy]
  exact Nat.le_trans (k1 _ _) (by omega)
 ·rw [List.mem_cons, List.mem_singleton] at hy
  rcases hy with rfl | rfl
  ·exact Nat.le_trans (k2 _) (by omega)
  ·exact Nat.le_trans (k1 _ _) (by omega)
theorem li_no {r : Nat} {n : Int} {c : UInt8} (h : c ≠ 45 /\ ¬ (48 <= c.toNat /\ c.toNat <= 57)) (h2 : c ∉ ([108, 105, 32, 99, 44] : List UInt8)) : c ∉ liT r n := by
 have hd : ∀ m : Int, c ∉ dec m := fun m hm => by
  rcases dec_sign _ hm with e | e
  ·exact h.1 e
  ·exact h.2 e
 unfold liT
 simp only [List.mem_append, not_or, List.mem_cons, List.mem_nil_iff, or_false] at h2 ⊢
 exact ⟨⟨⟨⟨h2.1, h2.2.1, h2.2.2.1, h2.2.2.2.1⟩, hd _⟩, h2.2.2.2.2, h2.2.2.1⟩, hd _⟩
theorem li_lines (r : Nat) (n : Int) : linesFrom 0 (Lib.split (liT r n ++ [10]) [10]) = [⟨1, liT r n, false⟩] := by
 have e : liT r n ++ [10] = liT r n ++ (10 :: [] ++ []) := by simp
 rw [e, split_at (li_no (by decide) (by decide)), split_none (by simp)]
 have h1 : lineF 1 (liT r n) = some ⟨1, liT r n, false⟩ := line_plain (u := liT r n) (by
  show Lib.trimLeftB (108 :: ([105, 32, 99] ++ dec (r : Nat) ++ [44, 32] ++ dec n)) 32 = _
  exact trim_text (by decide)) (by simp [liT]) (by
  show some (108 : UInt8) ≠ some 35
  decide) (li_no (by decide) (by decide))
 rw [linesFrom, h1]
 rfl
theorem li_asm {w : World} {r : Nat} {n : Int} (hg : Gm w) (hr : r < 32) (hn : -2147483648 <= n /\ n <= 2147483647) {K : Value -> World -> Prop}
  (h1 : n <= 2147481599 -> ∀ v w', RowsAt w' v 1 ((wordsF r n).map wC) -> Ext [] w w' -> K (.tuple #[v, .int .i64 0, .int .i64 0]) w') (h2 : 2147481599 < n -> ∀ w', Ext [] w w' -> K (.tuple #[.slice none 0 0, .int .i64 1, .int .i64 11]) w') : callsK Tryz.prog 4 #[.string ⟨(liT r n ++ [10]).toArray⟩] w K := by
 have hls := li_lines r n
 have hlr := dec_len (n := (r : Int))
 have hln := dec_len (n := n)
 have hst : stL r n (liT r n) = wideF r n := by unfold stL; rw [if_pos rfl]
 have hs2 : ∀ t, (stL r n t).length <= 2 := by
  intro t
  unfold stL
  split
  ·exact wideF_len r n
  ·simp
 have hcn := countF_n hs2 [⟨1, liT r n, false⟩]
 refine Assemble_spec (st := stL r n) hs2 hg (by simp [liT]; omega) ?_ ?_ ?_ ?_ ?_
 ·rw [hls]
  intro x hx _
  rw [List.mem_singleton] at hx
  subst hx
  rw [hst]
  exact ⟨stands_li hr hn, fun y hy => Nat.le_trans (wideF_ys r n y hy) (by omega)⟩
 ·rw [hls]
  simp at hcn ⊢
  omega
 ·rw [hls]; simp
 ·rw [hls]
  intro x hx
  rw [List.mem_singleton] at hx
  subst hx
  dsimp only
  omega
 ·rw [hls]
  have hc : countF (stL r n) [⟨1, liT r n, false⟩] = ⟨fun _ => none, fun _ => none, (countF (stL r n) [⟨1, liT r n, false⟩]).n⟩ := rfl
  rw [hc]
  dsimp only
  rw [asmGo, if_neg (by simp)]
  dsimp only
  rw [hst]
  by_cases h : n <= 2147481599
  ·rw [wide_words (fun _ => rfl) hr ⟨hn.1, h⟩]
   dsimp only
   rw [asmGo]
   exact fun v w' hv hx _ => h1 h v w' hv hx
  ·rw [wide_wrong (fun _ => rfl) hr ⟨by omega, hn.2⟩]
   exact fun w' hx => h2 (by omega) w' hx
def dCq (a : Nat) : Cq := ⟨false, 0, a⟩
def cAt (r : Nat) (n : Int) : Nat -> Nat -> Cq
 | 0 => begX
 | 1 => if fitsS n 12 = true then withX (setX begX 32 (pcQ 4)) r (dCq (un n)) else withX (setX begX 32 (pcQ 4)) r (dCq (un (n - lowZ n)))
 | _ => withX (setX (withX (setX begX 32 (pcQ 4)) r (dCq (un (n - lowZ n)))) 32 (pcQ 8)) r (dCq (un n))
theorem withX_32 {c : Nat -> Cq} {r : Nat} {x : Cq} (h : r < 32) : withX c r x 32 = c 32 := by
 unfold withX setX
 split
 ·exact if_neg (by omega)
 ·rfl
theorem withX_at {c : Nat -> Cq} {r : Nat} {x : Cq} (h : 1 <= r /\ r < 32) : regX (withX c r x) r = x := by
 unfold regX withX setX
 rw [if_pos h, if_pos h, if_pos rfl]
theorem un_add (n : Int) : (un (n - lowZ n) + un (lowZ n)) % 18446744073709551616 = un n := by
 unfold un
 omega
open Go.Fx
set_option maxRecDepth 100000
theorem cAt_one {r : Nat} {n : Int} : cAt r n 1 = if fitsS n 12 = true then withX (setX begX 32 (pcQ 4)) r (dCq (un n)) else withX (setX begX 32 (pcQ 4)) r (dCq (un (n - lowZ n))) := rfl
theorem cAt_two {r : Nat} {n : Int} : cAt r n 2 = withX (setX (withX (setX begX 32 (pcQ 4)) r (dCq (un (n - lowZ n)))) 32 (pcQ 8)) r (dCq (un n)) := rfl
theorem words_lt {r : Nat} {n : Int} (hr : r < 32) : ∀ x ∈ wordsF r n, x < 4294967296 := by
 intro x hx
 unfold wordsF at hx
 split at hx
 ·rw [List.mem_singleton] at hx
  subst hx
  unfold addW
  omega
 ·rw [List.mem_cons, List.mem_singleton] at hx
  rcases hx with rfl | rfl
  ·unfold luiW
   omega
  ·unfold addW
   omega
theorem step_lays {w : World} {rb pb r k : Nat} {n : Int} {m g : Nat -> Int} (hM : Mem w rb pb 3 m g) (hr : 1 <= r /\ r < 32) (hn : -2147483648 <= n /\ n <= 2147481599) (hW : Wds m (wordsF r n) (wordsF r n).length) (hk : k < (wordsF r n).length) {K : Value -> World -> Prop}
  (hK : ∀ i g' w', Mem w' rb pb 3 m g' -> Ext [pb] w w' -> K (.tuple #[.agg (cxC (cAt r n (k + 1))).toArray, .agg (ouC 0 0 0 i).toArray]) w') : callsK Tryz.prog 9 #[.agg (cxC (cAt r n k)).toArray, flV rb] w K := by
 by_cases hf : fitsS n 12 = true
 ·have hw : wordsF r n = [addW r 0 (n % 4096).toNat] := by unfold wordsF; rw [if_pos hf]
  rw [hw] at hW hk
  obtain rfl : k = 0 := by simp at hk; omega
  obtain ⟨-, -, hd⟩ := add_at hr.2 (by omega : 0 < 32) ((fits12 n).1 hf)
  have hlt : addW r 0 (n % 4096).toNat < 4294967296 := by unfold addW; omega
  have hW0 : leN m 0 4 = addW r 0 (n % 4096).toNat := hW 0 _ (by simp) rfl
  have hc1 : cAt r n 1 = withX (setX begX 32 (pcQ 4)) r (dCq (un n)) := by rw [cAt_one, if_pos hf]
  refine Step_at (a := 0) (W := addW r 0 (n % 4096).toNat) (c := begX) (i := ⟨22, r, 0, 0, n⟩) (d := cAt r n 1) (k := 0) (e := 0) (va := 0) (m' := m) (Q := fun _ => True) hM rfl (by omega) (by omega) hW0 (by show 0 < 9223372036854775808; decide) (by show 0 < 9223372036854775808; decide) (dec_of ⟨22, r, 0, 0, n⟩ hlt hd) (fun q w1 K1 hq hM1 hK1 => ?_) fun g' w' _ hM' hx => hK _ g' w' hM' hx
  refine runAddi_spec hq rfl (by show r < 9223372036854775808; omega) fun w2 hx => ?_
  have e : ((regX begX 0).a + un n) % 18446744073709551616 = un n := by
   have h0 : (regX begX 0).a = 0 := rfl
   have := un_lt n
   rw [h0, Nat.zero_add, Nat.mod_eq_of_lt this]
  show K1 (.tuple #[.agg (cxC (withX (setX begX 32 (pcQ 4)) r ⟨false, 0, ((regX begX 0).a + un n) % 18446744073709551616⟩)).toArray, _]) w2
  rw [e]
  have := hK1 g w2 trivial (hM1.run hq hx) (hx.mono (by simp))
  rw [hc1] at this
  exact this
 ·have hw : wordsF r n = [luiW r ((n - lowZ n) / 4096 % 1048576).toNat, addW r r (n % 4096).toNat] := by unfold wordsF; rw [if_neg hf]
  rw [hw] at hW hk
  obtain ⟨l1, l2, l3, l4⟩ := low_range n
  obtain ⟨g1, g2, g3⟩ := high_range (n := n) (by omega)
  have hc1 : cAt r n 1 = withX (setX begX 32 (pcQ 4)) r (dCq (un (n - lowZ n))) := by rw [cAt_one, if_neg hf]
  rcases (by simp at hk; omega : k = 0 ∨ k = 1) with rfl | rfl
  ·obtain ⟨-, -, hd⟩ := lui_at hr.2 (m := n - lowZ n) (by omega) l3
   have hlt : luiW r ((n - lowZ n) / 4096 % 1048576).toNat < 4294967296 := by unfold luiW; omega
   have hW0 : leN m 0 4 = luiW r ((n - lowZ n) / 4096 % 1048576).toNat := hW 0 _ (by simp) rfl
   refine Step_at (a := 0) (W := luiW r ((n - lowZ n) / 4096 % 1048576).toNat) (c := begX) (i := ⟨1, r, 0, 0, n - lowZ n⟩) (d := cAt r n 1) (k := 0) (e := 0) (va := 0) (m' := m) (Q := fun _ => True) hM rfl (by omega) (by omega) hW0 (by show 0 < 9223372036854775808; decide) (by show 0 < 9223372036854775808; decide) (dec_of ⟨1, r, 0, 0, n - lowZ n⟩ hlt hd) (fun q w1 K1 hq hM1 hK1 => ?_) fun g' w' _ hM' hx => hK _ g' w' hM' hx
   refine runLui_spec hq rfl (by show r < 9223372036854775808; omega) fun w2 hx => ?_
   have := hK1 g w2 trivial (hM1.run hq hx) (hx.mono (by simp))
   rw [hc1] at this
   exact this
  ·obtain ⟨-, -, hd⟩ := add_at hr.2 hr.2 (n := lowZ n) ⟨l1, l2⟩
   rw [l4] at hd
   have hlt : addW r r (n % 4096).toNat < 4294967296 := by unfold addW; omega
   have hW1 : leN m 4 4 = addW r r (n % 4096).toNat := hW 1 _ (by simp) rfl
   have hc32 : cAt r n 1 32 = pcQ 4 := by
    rw [hc1, withX_32 hr.2]
    rfl
   have hra : (regX (cAt r n 1) r).a = un (n - lowZ n) := by
    rw [hc1, withX_at hr]
    rfl
   refine Step_at (a := 4) (W := addW r r (n % 4096).toNat) (c := cAt r n 1) (i := ⟨22, r, r, 0, lowZ n⟩) (d := cAt r n 2) (k := 0) (e := 0) (va := 0) (m' := m) (Q := fun _ => True) hM hc32 (by omega) (by omega) hW1 (by show r < 9223372036854775808; omega) (by show 0 < 9223372036854775808; decide) (dec_of ⟨22, r, r, 0, lowZ n⟩ hlt hd) (fun q w1 K1 hq hM1 hK1 => ?_) fun g' w' _ hM' hx => hK _ g' w' hM' hx
   refine runAddi_spec hq rfl (by show r < 9223372036854775808; omega) fun w2 hx => ?_
   have := hK1 g w2 trivial (hM1.run hq hx) (hx.mono (by simp))
   rw [cAt_two, <- hc1] at this
   show K1 (.tuple #[.agg (cxC (withX (setX (cAt r n 1) 32 (pcQ 8)) r ⟨false, 0, ((regX (cAt r n 1) r).a + un (lowZ n)) % 18446744073709551616⟩)).toArray, _]) w2
   rw [hra, un_add]
   exact this
/-- what is there behind all words. -/
theorem cAt_end {r : Nat} {n : Int} (hr : 1 <= r /\ r < 32) : regX (cAt r n (wordsF r n).length) r = dCq (un n) := by
 by_cases hf : fitsS n 12 = true
 ·have hw : (wordsF r n).length = 1 := by unfold wordsF; rw [if_pos hf]; rfl
  rw [hw, cAt_one, if_pos hf, withX_at hr]
 ·have hw : (wordsF r n).length = 2 := by unfold wordsF; rw [if_neg hf]; rfl
  rw [hw, cAt_two, withX_at hr]
theorem words_len (r : Nat) (n : Int) : 1 <= (wordsF r n).length /\ (wordsF r n).length <= 2 := by
 unfold wordsF
 split <;> simp
theorem plC_buildG (a : Option Addr) (n c : Nat) (w : World) : (Instr.build 43 #[(0, .slice a n c)]).run Tryz.prog w = .ok (.agg (plC (.slice a n c) zeroX (.slice none 0 0)).toArray) w := run_build w 43 _ _ (by kernel_rfl)
theorem res_eql (a : Nat) (p q : Operand) (w : World) : (binV .eql 37 p q (.agg (cq (dCq a)).toArray) (.agg (cpC false 0 a).toArray)).run Tryz.prog w = .ok (.bool true) w := by
 have h := cq_eql (dCq a) (dCq a) p q w
 rw [decide_eq_true rfl] at h
 exact h
set_option maxHeartbeats 2000000 in
theorem lays_spec {w : World} {n x : Int} (hg : Gm w) (hn : -2147483648 <= n /\ n <= 2147483647) {K : Value -> World -> Prop} (hK : ∀ w', Ext [] w w' -> K (.bool true) w') : callsK Tryz.prog 3 #[.int .i32 n, .int .i64 x] w K := by
 apply F3_ok
 unfold F3
 have hax : bitI .and .i64 x 31 = x % 32 := by
  have := and_mask (k := .i64) (a := x) (n := 5) (by decide)
  simpa using this
 obtain ⟨r, hrN⟩ : ∃ r : Nat, 1 + x % 32 % 31 = (r : Int) := ⟨(1 + x % 32 % 31).toNat, by omega⟩
 have hr : 1 <= r /\ r < 32 := by omega
 have hlr := dec_len (n := (r : Int))
 have hln := dec_len (n := n)
 simp (disch := first | exact qD20 | fail) only [qG5, Nat.reduceAdd, Nat.reduceLeDiff, Int.reduceToNat, Int.reduceAdd, Int.reduceSub, Int.reduceLT, Int.reduceLE, Nat.reduceSub, Nat.reduceMul, Nat.reduceEqDiff, hax, hrN]
 refine ldigits_spec (n := (r : Int)) (by omega) ?_
 have hA1 := addS (a := [108, 105, 32, 99]) (b := dec (r : Nat)) (by simp; omega)
 have hA2 := addS (a := [108, 105, 32, 99] ++ dec (r : Nat)) (b := [44, 32]) (by simp; omega)
 simp (disch := first | exact qD20 | fail) only [qG5, Nat.reduceAdd, Nat.reduceLeDiff, Int.reduceToNat, Int.reduceAdd, Int.reduceSub, Int.reduceLT, Int.reduceLE, Nat.reduceSub, Nat.reduceMul, Nat.reduceEqDiff, hA1, hA2]
 refine ldigits_spec (n := n) (by omega) ?_
 have hA3 : ∀ (x y : Operand) (w : World), (binV .add 9 x y (.string ⟨([108, 105, 32, 99] ++ dec (r : Nat) ++ [44, 32]).toArray⟩) (.string ⟨(dec n).toArray⟩)).run Tryz.prog w = .ok (.string ⟨(liT r n).toArray⟩) w := addS (a := [108, 105, 32, 99] ++ dec (r : Nat) ++ [44, 32]) (b := dec n) (by simp; omega)
 have hA4 := addS (a := liT r n) (b := [10]) (by simp [liT]; omega)
 simp (disch := first | exact qD20 | fail) only [qG5, Nat.reduceAdd, Nat.reduceLeDiff, Int.reduceToNat, Int.reduceAdd, Int.reduceSub, Int.reduceLT, Int.reduceLE, Nat.reduceSub, Nat.reduceMul, Nat.reduceEqDiff, hA3, hA4]
 refine li_asm hg hr.2 hn (fun hle v w1 hv hx1 => ?_) fun hgt w1 hx1 => ?_
 ·obtain ⟨va, vc, rfl⟩ := hv.len
  have hlv := hv.lenR (ty := 3) Tryz.underlying22
  rw [List.length_map] at hlv hv
  rw [List.length_map]
  obtain ⟨q1, q2⟩ := words_len r n
  have hpl := plC_buildG va (wordsF r n).length vc
  simp (disch := first | exact qD20 | fail) only [qG5, Nat.reduceAdd, Nat.reduceLeDiff, Int.reduceToNat, Int.reduceAdd, Int.reduceSub, Int.reduceLT, Int.reduceLE, Nat.reduceSub, Nat.reduceMul, Nat.reduceEqDiff, hpl]
  refine built_spec (ws := wordsF r n) (v := .slice va (wordsF r n).length vc) (by show RowsAt w1 (.slice va (wordsF r n).length vc) 1 (List.map wC (wordsF r n)); exact hv) (by omega) (words_lt hr.2) fun rb pb L m g w2 hM2 hW2 hLl hLa hLs hx2 hrb hpb => ?_
  have hsp := splice_all (l := [.int .i64 0, .slice none 0 0, .slice none 0 0, .slice none 0 0]) (vs := L) (by rw [hLl]; rfl)
  have hdr := drop_all (l := [.int .i64 0, .slice none 0 0, .slice none 0 0, .slice none 0 0]) (vs := L) (by rw [hLl]; rfl)
  have hx02 := hx1.trans hx2 (by simp)
  simp (disch := first | exact qD20 | fail) only [qG5, Nat.reduceAdd, Nat.reduceLeDiff, Int.reduceToNat, Int.reduceAdd, Int.reduceSub, Int.reduceLT, Int.reduceLE, Nat.reduceSub, Nat.reduceMul, Nat.reduceEqDiff, joinBR, hLl, hLa, hLs, hsp, hdr, hlv, pc_build, cq_sub]
  have hx3 : Ext [] w2 (w2.alloc (.cells L.toArray 32)) := Ext.alloc Ext.refl _ _
  refine Zero_reg (x := pcQ 0) fun w3 hx4 => ?_
  have hx23 := hx3.trans hx4 (by simp)
  have hM3 := hM2.ext hx23 (by simp) (by simp)
  have hl3 := hM3.lt
  simp (disch := first | exact qD20 | fail) only [qG5, Nat.reduceAdd, Nat.reduceLeDiff, Int.reduceToNat, Int.reduceAdd, Int.reduceSub, Int.reduceLT, Int.reduceLE, Nat.reduceSub, Nat.reduceMul, Nat.reduceEqDiff, zeroX_cells, cx_over, cx_put]
  have hx34 : Ext [] w3 (w3.alloc (.cells (cxC (setX zeroX 32 (pcQ 0))).toArray 40)) := Ext.alloc Ext.refl _ _
  have g4 : (w3.alloc (.cells (cxC (setX zeroX 32 (pcQ 0))).toArray 40)).heap[w3.heap.size]? = some (.cells (cxC (cAt r n 0)).toArray 40 (0, 0)) := alloc_at rfl
  have hM4 := hM3.ext hx34 (by simp) (by simp)
  have hx04 := (hx02.trans hx23 (by simp)).trans hx34 (by simp)
  obtain ⟨b, hb⟩ : ∃ b, b = w3.heap.size := ⟨_, rfl⟩
  have hbn : rb ≠ b /\ pb ≠ b /\ w.heap.size <= b /\ w.heap.size <= pb := by
   have := hx02.size
   have := hx23.size
   have := hx1.size
   omega
  obtain ⟨hb1, hb2, hb3, hb4⟩ := hbn
  rw [<- hb] at g4 ⊢
  clear hx34 hb
  generalize w3.alloc (.cells (cxC (setX zeroX 32 (pcQ 0))).toArray 40) = w4 at *
  refine loopT.intro (fun st w' => ∃ (k : Nat) (g' : Nat -> Int), k <= (wordsF r n).length /\ st = [.int .i64 (k : Nat)] /\ w'.heap[b]? = some (.cells (cxC (cAt r n k)).toArray 40 (0, 0)) /\ Mem w' rb pb 3 m g' /\ Ext [pb, b] w4 w')
   (fun st _ => match st with
    | [.int _ z] => (wordsF r n).length - z.toNat
    | _ => 0) ⟨0, g, Nat.zero_le _, rfl, g4, hM4, Ext.refl⟩ ?_
  rintro st w5 ⟨k, g', hk, rfl, g5, hM5, hx5⟩ _
  have hxw5 : Ext [] w w5 := hx04.trans hx5 (by
   intro q hq
   simp at hq
   rcases hq with rfl | rfl
   ·exact .inr hb4
   ·exact .inr hb3)
  have l5 := lt_of_at g5
  by_cases hkl : k < (wordsF r n).length
  ·simp (disch := first | exact qD20 | fail) only [qG5, Nat.reduceAdd, Nat.reduceLeDiff, Int.reduceToNat, Int.reduceAdd, Int.reduceSub, Int.reduceLT, Int.reduceLE, Nat.reduceSub, Nat.reduceMul, Nat.reduceEqDiff, hlv, g5, cx_sub, fl_build, fl_iface, List.getD_cons_zero]
   refine step_lays hM5 hr ⟨hn.1, hle⟩ hW2 hkl fun i g6 w6 hM6 hx6 => ?_
   have g6b := hx6.at g5 (by simp; omega)
   have l6 := lt_of_at g6b
   generalize hcn : cAt r n (k + 1) = c' at *
   simp (disch := first | exact qD20 | fail) only [qG5, Nat.reduceAdd, Nat.reduceLeDiff, Int.reduceToNat, Int.reduceAdd, Int.reduceSub, Int.reduceLT, Int.reduceLE, Nat.reduceSub, Nat.reduceMul, Nat.reduceEqDiff, zeroX_cells, cx_over, cx_put, ou_over, ou_put, cx_sub, ou_sub]
   obtain ⟨hxo, y5, y6⟩ := two_put w6 c' (ouC 0 0 0 i)
   have o0 : (ouC 0 0 0 i)[0]? = some (.int .i64 0) := rfl
   generalize World.upd (World.upd ((w6.alloc (.cells (cxC zeroX).toArray 40)).alloc (.cells [.int .i64 0, .int .i64 0, .int .u64 0, .int .i64 0, .int .i64 0, .int .i64 0, .int .i64 0, .int .i64 0].toArray 48)) w6.heap.size (cxC c')) (w6.heap.size + 1) (ouC 0 0 0 i) = w7 at *
   have g7 := hxo.at g6b (by simp)
   have l7 := lt_of_at g7
   have hM7 := hM6.ext hxo (by simp) (by simp)
   simp (disch := first | exact qD20 | fail) only [qG5, Nat.reduceAdd, Nat.reduceLeDiff, Int.reduceToNat, Int.reduceAdd, Int.reduceSub, Int.reduceLT, Int.reduceLE, Nat.reduceSub, Nat.reduceMul, Nat.reduceEqDiff, joinBR, y6, o0, y5, g7, cx_sub, cx_over, cx_put, List.getD_cons_zero]
   have hxu : Ext [b] w7 (World.upd w7 b (cxC c')) := qX
   refine ⟨⟨k + 1, g6, hkl, by congr 3, ?_, hM7.ext hxu (by simp; omega) (by simp; omega), ?_⟩, by omega⟩
   ·rw [hcn]
   ·exact ((hx5.step (hx6.mono (by simp))).step (hxo.mono (by simp))).step (hxu.mono (by simp))
  ·obtain rfl : k = (wordsF r n).length := by omega
   have hun := wrap_un n
   simp (disch := first | exact qD20 | fail) only [qG5, Nat.reduceAdd, Nat.reduceLeDiff, Int.reduceToNat, Int.reduceAdd, Int.reduceSub, Int.reduceLT, Int.reduceLE, Nat.reduceSub, Nat.reduceMul, Nat.reduceEqDiff, hlv, g5, cx_sub, List.getD_cons_zero]
   refine Get_reg (c := cAt r n (wordsF r n).length) (n := r) (by omega) fun w6 hx6 => ?_
   rw [cAt_end hr]
   simp (disch := first | exact qD20 | fail) only [qG5, Nat.reduceAdd, Nat.reduceLeDiff, Int.reduceToNat, Int.reduceAdd, Int.reduceSub, Int.reduceLT, Int.reduceLE, Nat.reduceSub, Nat.reduceMul, Nat.reduceEqDiff, hun]
   refine Null_spec (n := un n) fun w7 hx7 => ?_
   have hq := res_eql (un n)
   simp (disch := first | exact qD20 | fail) only [qG5, Nat.reduceAdd, Nat.reduceLeDiff, Int.reduceToNat, Int.reduceAdd, Int.reduceSub, Int.reduceLT, Int.reduceLE, Nat.reduceSub, Nat.reduceMul, Nat.reduceEqDiff, joinBR, hq]
   refine one_spec fun w8 hx8 => ?_
   simp (disch := first | exact qD20 | fail) only [qG5, Nat.reduceAdd, Nat.reduceLeDiff, Int.reduceToNat, Int.reduceAdd, Int.reduceSub, Int.reduceLT, Int.reduceLE, Nat.reduceSub, Nat.reduceMul, Nat.reduceEqDiff, joinBR]
   exact hK _ (((hxw5.trans hx6 (by simp)).trans hx7 (by simp)).trans hx8 (by simp))
 ·simp (disch := first | exact qD20 | fail) only [qG5, Nat.reduceAdd, Nat.reduceLeDiff, Int.reduceToNat, Int.reduceAdd, Int.reduceSub, Int.reduceLT, Int.reduceLE, Nat.reduceSub, Nat.reduceMul, Nat.reduceEqDiff, joinBR]
  refine one_spec fun w2 hx2 => ?_
  simp (disch := first | exact qD20 | fail) only [qG5, Nat.reduceAdd, Nat.reduceLeDiff, Int.reduceToNat, Int.reduceAdd, Int.reduceSub, Int.reduceLT, Int.reduceLE, Nat.reduceSub, Nat.reduceMul, Nat.reduceEqDiff, joinBR]
  exact hK _ (hx1.trans hx2 (by simp))
end Go.Proofs.YtldkfbelnndaoaaGreatDoor
namespace Go.Proofs.YtldkfbelnndaoaaGreatDoor
open Go.Fx Go.ChangeShapes Go.WideShapes
set_option maxRecDepth 100000
/-- a call's contract, at the world's shape, where variables are listed. -/
theorem handed_shaped {H : Type} {enc : TypeId × Value -> H} {a : Assume} {C : Checked} {os : Os} {f : FuncId} {fn : Func} {s : ChangeSpec} {conds : List PathCond} {apart fresh handsOn again : Bool} {X : World -> Array Value -> Prop}
  (own : ownKnob C.prog.godebug = none) (started : os.Started) (noInit : C.prog.inits.idxOf? f = none) (hfn : C.prog.funcs[f]? = some fn)
  (witness : ∃ (w : World) (tape : Tape) (i : Input), w.os = os /\ (w.forCall tape i).Shaped C.prog /\ i.vars = [] /\ Input.okWide C.prog (w.forCall tape i) .any w.heap.size f i /\
   ((s.pre enc C.prog fn conds apart (w.forCall tape i).memory i.args /\ X (w.forCall tape i).memory i.args) /\ sizedMet enc C.prog fn (OpenSpec.ofChange s) apart (w.forCall tape i).memory i.args) /\ a.holds C.prog (lone (Frame.enter C.prog f i.args .normal) [] (w.forCall tape i)))
  (go : ∀ (W : World) (base : Nat) (args : Array Value) (ds gs : List (DataW H)) (before : List MemPlace),
   (∀ (j : Nat) t v, fn.params[j]? = some t -> args[j]? = some v -> Value.okWide C.prog W .any base t v) ->
   DataW.Whole enc C.prog fn.params.toList s.vars apart W args.toList ds gs before -> W.ShapedOpen C.prog ->
   Calls C.prog f args W fun e W' => ∃ v, e = .returned v /\ s.post enc C.prog fn apart fresh handsOn again W args v W') :
  ReturnsInHanded a C os f .any (fun w args => (s.pre enc C.prog fn conds apart w args /\ X w args) /\ sizedMet enc C.prog fn (OpenSpec.ofChange s) apart w args) (s.post enc C.prog fn apart fresh handsOn again) := by
 refine returnsInHanded_of_calls own started noInit witness ?_
 intro w tape i _ hsh _ hok hpre _
 obtain ⟨_, _, _, fn', hfn', _, _, _, _, hval⟩ := hok
 have e : fn' = fn := Option.some.inj (hfn'.symm.trans hfn)
 subst e
 obtain ⟨⟨⟨ds, gs, before, hw, -⟩, -⟩, -⟩ := hpre
 refine (go _ _ i.args ds gs before hval (DataW.Whole.of_heap (w' := w.forCall tape i) (by rfl) hw) hsh).mono fun e W' ⟨v, he, hp⟩ => ?_
 subst he
 exact ChangeSpec.post_blind hp
theorem gm_of {w : World} (h : w.ShapedOpen Tryz.prog) : Gm w := by
 obtain ⟨m, hm⟩ := cell_of_shapedOpen_int (g := 0) (t := 3) (zero := #[.int .i64 0]) (k := .i64) h (of_decide_eq_true (by kernel_rfl)) (by kernel_rfl) (by kernel_rfl) (by kernel_rfl) (by kernel_rfl) Tryz.underlying3
 refine ⟨?_, m, hm⟩
 rcases Nat.eq_zero_or_pos w.heap.size with h0 | h0
 ·rw [World.cell?, Array.getElem?_eq_none (by omega)] at hm
  cases hm
 ·exact h0
open Go.Fx
set_option maxRecDepth 100000
theorem wf_i32 {n : Int} (h : (Lit.int .i32 n).wf = true) : -2147483648 <= n /\ n <= 2147483647 := by
 have : -2147483648 <= n /\ n <= 2147483647 := by simpa [Lit.wf, IntKind.min, IntKind.max, IntKind.signed, IntKind.bits] using h
 omega
end Go.Proofs.YtldkfbelnndaoaaGreatDoor
