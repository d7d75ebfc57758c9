/- Part 7 of what the law ExecNumbers stands on: formulas of the functions that it reaches, and what each of them does; conditions: those of each theorem. -/
import Derived.Test.YtplfniijbeinmaaGreatP6
set_option linter.unusedVariables false
set_option linter.unusedSimpArgs false
namespace Go.Proofs.YtplfniijbeinmaaGreat
open Go.Fx
set_option maxRecDepth 100000
/-- an instruction: what it does, its registers, its number. -/
structure Iz where
 op : Nat
 rd : Nat
 r1 : Nat
 r2 : Nat
 im : Int
def izC (i : Iz) : List Value := [.int .i64 i.op, .int .i64 i.rd, .int .i64 i.r1, .int .i64 i.r2, .int .i64 i.im]
theorem izC_len (i : Iz) : (izC i).length = 5 := rfl
theorem izC_all (i : Iz) : (izC i).all (fun v => v.oneCell') = true := by simp [izC]; exact ⟨rfl, rfl, rfl, rfl, rfl⟩
/-- what came of an instruction. -/
def ozC (k c v : Nat) (i : Iz) : List Value := [.int .i64 k, .int .i64 c, .int .u64 v] ++ izC i
theorem ozC_len (k c v : Nat) (i : Iz) : (ozC k c v i).length = 8 := by simp [ozC, izC]
theorem ozC_all (k c v : Nat) (i : Iz) : (ozC k c v i).all (fun v => v.oneCell') = true := by simp [ozC, izC]; exact ⟨rfl, rfl, rfl, rfl, rfl, rfl, rfl, rfl⟩
theorem oz_sub (k c v : Nat) (i : Iz) : sub (ozC k c v i) 0 8 = ozC k c v i := rfl
def Iz.zero : Iz := ⟨0, 0, 0, 0, 0⟩
theorem oz_over (k c v : Nat) (i : Iz) : splice [.int .i64 0, .int .i64 0, .int .u64 0, .int .i64 0, .int .i64 0, .int .i64 0, .int .i64 0, .int .i64 0] 0 (ozC k c v i) = ozC k c v i := rfl
theorem oz_put (k c v : Nat) (i : Iz) : ozC k c v i ++ List.drop (ozC k c v i).length [.int .i64 0, .int .i64 0, .int .u64 0, .int .i64 0, .int .i64 0, .int .i64 0, .int .i64 0, .int .i64 0] = ozC k c v i := by simp [ozC, izC]
/-- an instruction that is run. -/
structure Rz where
 c : Nat -> Cq
 d : Nat -> Cq
 m : Value
 hm : m.oneCell' = true
 i : Iz
 a : Cq
 b : Cq
def rzC (r : Rz) : List Value := cxC r.c ++ (cxC r.d ++ (r.m :: (izC r.i ++ (cq r.a ++ cq r.b))))
theorem rzC_len (r : Rz) : (rzC r).length = 210 := by
 unfold rzC
 simp only [List.length_append, List.length_cons, cxC_len, izC_len, cq_len]
theorem rzC_all (r : Rz) : (rzC r).all (fun v => v.oneCell') = true := by
 unfold rzC
 rw [List.all_append, List.all_append, List.all_cons, List.all_append, List.all_append, cxC_all, cxC_all, izC_all, cq_all, cq_all, r.hm]
 rfl
theorem rz_c (r : Rz) : sub (rzC r) 0 99 = cxC r.c := by
 unfold rzC
 rw [sub_left (by rw [cxC_len]; omega), sub_whole (by rw [cxC_len])]
theorem rz_d (r : Rz) : sub (rzC r) 99 99 = cxC r.d := by
 unfold rzC
 rw [sub_right (k := 0) (by rw [cxC_len]), sub_left (by rw [cxC_len]; omega), sub_whole (by rw [cxC_len])]
theorem rzC_cons (r : Rz) : rzC r = (cxC r.c ++ (cxC r.d ++ [r.m])) ++ (izC r.i ++ (cq r.a ++ cq r.b)) := by
 unfold rzC
 simp
theorem rz_i (r : Rz) : sub (rzC r) 199 5 = izC r.i := by
 rw [rzC_cons, sub_right (k := 0) (by simp [cxC_len]), sub_left (by rw [izC_len]; omega), sub_whole (by rw [izC_len])]
theorem rz_a (r : Rz) : sub (rzC r) 204 3 = cq r.a := by
 rw [rzC_cons, sub_right (k := 5) (by simp [cxC_len]), sub_right (k := 0) (by rw [izC_len]), sub_left (by rw [cq_len]; omega), sub_whole (by rw [cq_len])]
theorem rz_b (r : Rz) : sub (rzC r) 207 3 = cq r.b := by
 rw [rzC_cons, sub_right (k := 8) (by simp [cxC_len]), sub_right (k := 3) (by rw [izC_len]), sub_right (k := 0) (by rw [cq_len]), sub_whole (by rw [cq_len])]
theorem rz_m (r : Rz) : (rzC r)[198]? = some r.m := by
 unfold rzC
 rw [List.getElem?_append_right (by rw [cxC_len]; omega), List.getElem?_append_right (by rw [cxC_len, cxC_len]; omega), cxC_len, cxC_len]
 rfl
theorem rz_op (r : Rz) : (rzC r)[199]? = some (.int .i64 r.i.op) := by
 rw [get_sub (o := 199) (n := 5) (j := 0) (by omega), rz_i]
 rfl
theorem rz_rd (r : Rz) : (rzC r)[200]? = some (.int .i64 r.i.rd) := by
 rw [get_sub (o := 199) (n := 5) (j := 1) (by omega), rz_i]
 rfl
theorem rz_im (r : Rz) : (rzC r)[203]? = some (.int .i64 r.i.im) := by
 rw [get_sub (o := 199) (n := 5) (j := 4) (by omega), rz_i]
 rfl
theorem rz_aa (r : Rz) : (rzC r)[206]? = some (.int .u64 r.a.a) := by
 rw [get_sub (o := 204) (n := 3) (j := 2) (by omega), rz_a]
 rfl
theorem rz_bt (r : Rz) : (rzC r)[207]? = some (.bool r.b.t) := by
 rw [get_sub (o := 207) (n := 3) (j := 0) (by omega), rz_b]
 rfl
theorem rz_ba (r : Rz) : (rzC r)[209]? = some (.int .u64 r.b.a) := by
 rw [get_sub (o := 207) (n := 3) (j := 2) (by omega), rz_b]
 rfl
theorem rz_setc (r : Rz) (c : Nat -> Cq) : splice (rzC r) 0 (cxC c) = rzC { r with c := c } := by
 unfold rzC
 rw [splice_left (by rw [cxC_len, cxC_len]; omega), splice_whole (by rw [cxC_len, cxC_len])]
theorem rz_seti (r : Rz) (i : Iz) : splice (rzC r) 199 (izC i) = rzC { r with i := i } := by
 rw [rzC_cons, rzC_cons, splice_right (k := 0) (by simp [cxC_len]), splice_left (by rw [izC_len, izC_len]; omega), splice_whole (by rw [izC_len, izC_len])]
theorem rz_seta (r : Rz) (a : Cq) : splice (rzC r) 204 (cq a) = rzC { r with a := a } := by
 rw [rzC_cons, rzC_cons, splice_right (k := 5) (by simp [cxC_len]), splice_right (k := 0) (by rw [izC_len]), splice_left (by rw [cq_len, cq_len]; omega), splice_whole (by rw [cq_len, cq_len])]
theorem rz_setb (r : Rz) (b : Cq) : splice (rzC r) 207 (cq b) = rzC { r with b := b } := by
 rw [rzC_cons, rzC_cons, splice_right (k := 8) (by simp [cxC_len]), splice_right (k := 3) (by rw [izC_len]), splice_right (k := 0) (by rw [cq_len]), splice_whole (by rw [cq_len, cq_len])]
theorem qZ19 : type_of% (And.intro @szR (And.intro @cq_len (And.intro @cq_all (And.intro @cxC_len (And.intro @cxC_all (And.intro @izC_len (And.intro @izC_all (And.intro @rzC_len (And.intro @rzC_all (And.intro @ozC_len (@ozC_all))))))))))) := ⟨@szR, @cq_len, @cq_all, @cxC_len, @cxC_all, @izC_len, @izC_all, @rzC_len, @rzC_all, @ozC_len, @ozC_all⟩
theorem qD19 {p : Prop} (h : p := by first | assumption | omega | (simp only [qZ19] <;> omega) | rfl | decide) : p := h
theorem retireZ_spec {w : World} {q : Nat} {r : Rz} (hr : w.heap[q]? = some (.cells (rzC r).toArray 91 (0, 0))) {K : Value -> World -> Prop} (hK : ∀ w', Ext [] w w' -> K (.tuple #[.agg (cxC r.c).toArray, .agg (ozC 0 0 0 r.i).toArray]) w') : callsK Tryz.prog 96 #[.pointer (some ⟨q, 0, none⟩)] w K := by
 apply F96_ok
 unfold F96
 have l0 := lt_of_at hr
 simp (disch := first | exact qD19 | fail) only [qG4, zeroX_cells]
 have hx0 : Ext [] w ((w.alloc (.cells (cxC zeroX).toArray 42)).alloc (.cells [.int .i64 0, .int .i64 0, .int .u64 0, .int .i64 0, .int .i64 0, .int .i64 0, .int .i64 0, .int .i64 0].toArray 51)).drew := qX
 have g1 : ((w.alloc (.cells (cxC zeroX).toArray 42)).alloc (.cells [.int .i64 0, .int .i64 0, .int .u64 0, .int .i64 0, .int .i64 0, .int .i64 0, .int .i64 0, .int .i64 0].toArray 51)).drew.heap[w.heap.size]? = some (.cells (cxC zeroX).toArray 42 (0, 0)) := (by first | with_reducible rfl | assumption | (simp (disch := first | exact qD19 | fail) only [qG4] <;> rfl))
 have g2 : ((w.alloc (.cells (cxC zeroX).toArray 42)).alloc (.cells [.int .i64 0, .int .i64 0, .int .u64 0, .int .i64 0, .int .i64 0, .int .i64 0, .int .i64 0, .int .i64 0].toArray 51)).drew.heap[w.heap.size + 1]? = some (.cells [.int .i64 0, .int .i64 0, .int .u64 0, .int .i64 0, .int .i64 0, .int .i64 0, .int .i64 0, .int .i64 0].toArray 51 (0, 0)) := (by first | with_reducible rfl | assumption | (simp (disch := first | exact qD19 | fail) only [qG4] <;> rfl))
 have g0 := hx0.at hr (by simp)
 obtain ⟨b1, hb1⟩ : ∃ b1, b1 = w.heap.size := ⟨_, rfl⟩
 have hq : q ≠ b1 := by omega
 rw [<- hb1] at g1 g2 ⊢
 generalize ((w.alloc (.cells (cxC zeroX).toArray 42)).alloc (.cells [.int .i64 0, .int .i64 0, .int .u64 0, .int .i64 0, .int .i64 0, .int .i64 0, .int .i64 0, .int .i64 0].toArray 51)).drew = w1 at *
 refine relX.one b1 (.cells (cxC r.c).toArray 42 (0, 0)) ?_
 refine postX.is (.pointer (some ⟨q, 0, none⟩)) (fun v w2 hR _ => okX.one) ?_
 refine postX.is (.pointer (some ⟨q, 0, none⟩)) (fun v w2 hR hd => by obtain ⟨d1, -⟩ := hd; simp (disch := first | exact qD19 | fail) only [qG4, d1]; exact okX.one) ?_
 refine postX.is (.pointer (some ⟨q, 0, none⟩)) (fun v w2 hR hd => by obtain ⟨d1, -⟩ := hd; simp (disch := first | exact qD19 | fail) only [qG4, d1]; exact okX.one) ?_
 refine postX.is (.agg (cxC r.c).toArray) (fun v w2 hR hd => by
  obtain ⟨d1, -⟩ := hd
  have e := hR.1.at g0 (by simpa using hq)
  simp (disch := first | exact qD19 | fail) only [qG4, d1, e, rz_c]
  exact okX.one) ?_
 refine postX.is (.pointer (some ⟨q, 0, none⟩)) (fun v w2 hR _ => okX.one) ?_
 refine postX.is (.pointer (some ⟨q, 0, none⟩)) (fun v w2 hR hd => by obtain ⟨d1, -⟩ := hd; simp (disch := first | exact qD19 | fail) only [qG4, d1]; exact okX.one) ?_
 refine postX.is (.pointer (some ⟨q, 199, none⟩)) (fun v w2 hR hd => by obtain ⟨d1, -⟩ := hd; simp (disch := first | exact qD19 | fail) only [qG4, d1]; exact okX.one) ?_
 refine postX.is (.agg (izC r.i).toArray) (fun v w2 hR hd => by
  obtain ⟨d1, -⟩ := hd
  have e := hR.1.at g0 (by simpa using hq)
  simp (disch := first | exact qD19 | fail) only [qG4, d1, e, rz_i]
  exact okX.one) ?_
 have hb : ∀ (a0 a1 a2 a3 a4 : Int) (w : World), (Instr.build 51 #[(3, .agg [.int .i64 a0, .int .i64 a1, .int .i64 a2, .int .i64 a3, .int .i64 a4].toArray)]).run Tryz.prog w = .ok (.agg [.int .i64 0, .int .i64 0, .int .u64 0, .int .i64 a0, .int .i64 a1, .int .i64 a2, .int .i64 a3, .int .i64 a4].toArray) w := fun a0 a1 a2 a3 a4 w => run_build w 51 _ _ (by kernel_rfl)
 have hb2 : ∀ (w : World), (Instr.build 51 #[(3, .agg (izC r.i).toArray)]).run Tryz.prog w = .ok (.agg (ozC 0 0 0 r.i).toArray) w := fun w => hb _ _ _ _ _ w
 refine postX.is (.agg (ozC 0 0 0 r.i).toArray) (fun v w2 hR hd => by
  obtain ⟨d1, -⟩ := hd
  simp (disch := first | exact qD19 | fail) only [qG4, d1, hb2]
  exact okX.one) ?_
 have hat : ∀ w2, (Ext [b1] w1 w2 /\ ∀ x, w1.heap[b1]? = some x -> w2.heap[b1]? = some x ∨ w2.heap[b1]? = some (.cells (cxC r.c).toArray 42 (0, 0))) -> ∃ d, w2.heap[b1]? = some (.cells (cxC d).toArray 42 (0, 0)) := by
  intro w2 h
  rcases h.2 _ g1 with h | h
  ·exact ⟨_, h⟩
  ·exact ⟨_, h⟩
 refine postX.intro (fun _ w => w.heap[b1]? = some (.cells (cxC r.c).toArray 42 (0, 0))) (fun _ w w' hR h => by rcases hR.2 _ h with h | h <;> exact h) (fun v w2 hR hd => by
  obtain ⟨-, -, -, d4, -⟩ := hd
  obtain ⟨d, e⟩ := hat w2 hR
  simp (disch := first | exact qD19 | fail) only [qG4, d4, e, cx_over, cx_put]
  have l := lt_of_at e
  have hxe : Ext [b1] w2 (World.upd w2 b1 (cxC r.c)) := qX
  have hue : (World.upd w2 b1 (cxC r.c)).heap[b1]? = some (.cells (cxC r.c).toArray 42 (0, 0)) := upd_at e
  exact okX.mk ⟨hxe, fun x _ => .inr hue⟩ hue) ?_
 intro v w2 hR hd _
 obtain ⟨-, -, -, -, -, -, -, -, d9, ⟨u, h1⟩, -⟩ := hd
 have h2 := hR.1.at g2 (by simp)
 have l1 := lt_of_at h1
 have l2 := lt_of_at h2
 have hx : Ext [] w w2 := hx0.trans hR.1 (by simp [hb1])
 simp (disch := first | exact qD19 | fail) only [qG4, d9, h1, h2, oz_over, oz_put, cx_sub, oz_sub]
 exact hK _ qX
theorem rz_putc (r : Rz) (c : Nat -> Cq) : cxC c ++ List.drop (cxC c).length (rzC r) = rzC { r with c := c } := by
 rw [<- rz_setc r c]
 unfold splice
 rw [List.take_zero, List.nil_append, Nat.zero_add]
set_option maxHeartbeats 1000000 in
theorem trapZ_spec {w : World} {q k e va : Nat} {r : Rz} (hr : w.heap[q]? = some (.cells (rzC r).toArray 91 (0, 0))) {K : Value -> World -> Prop} (hK : ∀ w', Ext [] w w' -> K (.tuple #[.agg (cxC r.d).toArray, .agg (ozC k e va r.i).toArray]) w') : callsK Tryz.prog 30 #[.pointer (some ⟨q, 0, none⟩), .int .i64 (k : Nat), .int .i64 (e : Nat), .int .u64 (va : Nat)] w K := by
 apply F30_ok
 unfold F30
 have l0 := lt_of_at hr
 simp (disch := first | exact qD19 | fail) only [qG4, zeroX_cells]
 have hx0 : Ext [] w ((w.alloc (.cells (cxC zeroX).toArray 42)).alloc (.cells [.int .i64 0, .int .i64 0, .int .u64 0, .int .i64 0, .int .i64 0, .int .i64 0, .int .i64 0, .int .i64 0].toArray 51)).drew := qX
 have g1 : ((w.alloc (.cells (cxC zeroX).toArray 42)).alloc (.cells [.int .i64 0, .int .i64 0, .int .u64 0, .int .i64 0, .int .i64 0, .int .i64 0, .int .i64 0, .int .i64 0].toArray 51)).drew.heap[w.heap.size]? = some (.cells (cxC zeroX).toArray 42 (0, 0)) := (by first | with_reducible rfl | assumption | (simp (disch := first | exact qD19 | fail) only [qG4] <;> rfl))
 have g2 : ((w.alloc (.cells (cxC zeroX).toArray 42)).alloc (.cells [.int .i64 0, .int .i64 0, .int .u64 0, .int .i64 0, .int .i64 0, .int .i64 0, .int .i64 0, .int .i64 0].toArray 51)).drew.heap[w.heap.size + 1]? = some (.cells [.int .i64 0, .int .i64 0, .int .u64 0, .int .i64 0, .int .i64 0, .int .i64 0, .int .i64 0, .int .i64 0].toArray 51 (0, 0)) := (by first | with_reducible rfl | assumption | (simp (disch := first | exact qD19 | fail) only [qG4] <;> rfl))
 have g0 := hx0.at hr (by simp)
 obtain ⟨b1, hb1⟩ : ∃ b1, b1 = w.heap.size := ⟨_, rfl⟩
 have hq : q ≠ b1 := by omega
 rw [<- hb1] at g1 g2 ⊢
 generalize ((w.alloc (.cells (cxC zeroX).toArray 42)).alloc (.cells [.int .i64 0, .int .i64 0, .int .u64 0, .int .i64 0, .int .i64 0, .int .i64 0, .int .i64 0, .int .i64 0].toArray 51)).drew = w1 at *
 refine relX.one b1 (.cells (cxC r.d).toArray 42 (0, 0)) ?_
 refine postX.is (.pointer (some ⟨q, 0, none⟩)) (fun v w2 hR _ => okX.one) ?_
 refine postX.is (.pointer (some ⟨q, 0, none⟩)) (fun v w2 hR hd => by
  obtain ⟨d1, -⟩ := hd
  simp (disch := first | exact qD19 | fail) only [qG4, d1]
  exact okX.one) ?_
 refine postX.is (.pointer (some ⟨q, 99, none⟩)) (fun v w2 hR hd => by
  obtain ⟨d1, -⟩ := hd
  simp (disch := first | exact qD19 | fail) only [qG4, d1]
  exact okX.one) ?_
 refine postX.is (.agg (cxC r.d).toArray) (fun v w2 hR hd => by
  obtain ⟨d1, -⟩ := hd
  have e := hR.1.at g0 (by simpa using hq)
  simp (disch := first | exact qD19 | fail) only [qG4, d1, e, rz_d]
  exact okX.one) ?_
 refine postX.is (.int .i64 (k : Nat)) (fun v w2 hR _ => okX.one) ?_
 refine postX.is (.int .i64 (e : Nat)) (fun v w2 hR _ => okX.one) ?_
 refine postX.is (.int .u64 (va : Nat)) (fun v w2 hR _ => okX.one) ?_
 refine postX.is (.pointer (some ⟨q, 0, none⟩)) (fun v w2 hR _ => okX.one) ?_
 refine postX.is (.pointer (some ⟨q, 0, none⟩)) (fun v w2 hR hd => by
  obtain ⟨d1, -⟩ := hd
  simp (disch := first | exact qD19 | fail) only [qG4, d1]
  exact okX.one) ?_
 refine postX.is (.pointer (some ⟨q, 199, none⟩)) (fun v w2 hR hd => by
  obtain ⟨d1, -⟩ := hd
  simp (disch := first | exact qD19 | fail) only [qG4, d1]
  exact okX.one) ?_
 refine postX.is (.agg (izC r.i).toArray) (fun v w2 hR hd => by
  obtain ⟨d1, -⟩ := hd
  have e := hR.1.at g0 (by simpa using hq)
  simp (disch := first | exact qD19 | fail) only [qG4, d1, e, rz_i]
  exact okX.one) ?_
 have hb : ∀ (x y z a0 a1 a2 a3 a4 : Int) (w : World), (Instr.build 51 #[(0, .int .i64 x), (1, .int .i64 y), (2, .int .u64 z), (3, .agg [.int .i64 a0, .int .i64 a1, .int .i64 a2, .int .i64 a3, .int .i64 a4].toArray)]).run Tryz.prog w = .ok (.agg [.int .i64 x, .int .i64 y, .int .u64 z, .int .i64 a0, .int .i64 a1, .int .i64 a2, .int .i64 a3, .int .i64 a4].toArray) w := fun x y z a0 a1 a2 a3 a4 w => run_build w 51 _ _ (by kernel_rfl)
 have hb2 : ∀ (w : World), (Instr.build 51 #[(0, .int .i64 (k : Nat)), (1, .int .i64 (e : Nat)), (2, .int .u64 (va : Nat)), (3, .agg (izC r.i).toArray)]).run Tryz.prog w = .ok (.agg (ozC k e va r.i).toArray) w := fun w => hb _ _ _ _ _ _ _ _ w
 refine postX.is (.agg (ozC k e va r.i).toArray) (fun v w2 hR hd => by
  obtain ⟨d1, d2, d3, d4, -⟩ := hd
  simp (disch := first | exact qD19 | fail) only [qG4, d1, d2, d3, d4, hb2]
  exact okX.one) ?_
 refine postX.intro (fun _ w => w.heap[b1]? = some (.cells (cxC r.d).toArray 42 (0, 0))) (fun _ w w' hR h => by rcases hR.2 _ h with h | h <;> exact h) (fun v w2 hR hd => by
  obtain ⟨-, -, -, d4, -⟩ := hd
  obtain ⟨d, e⟩ : ∃ d, w2.heap[b1]? = some (.cells (cxC d).toArray 42 (0, 0)) := by
   rcases hR.2 _ g1 with h | h
   ·exact ⟨_, h⟩
   ·exact ⟨_, h⟩
  simp (disch := first | exact qD19 | fail) only [qG4, d4, e, cx_over, cx_put]
  have l := lt_of_at e
  have hxe : Ext [b1] w2 (World.upd w2 b1 (cxC r.d)) := qX
  have hue : (World.upd w2 b1 (cxC r.d)).heap[b1]? = some (.cells (cxC r.d).toArray 42 (0, 0)) := upd_at e
  exact okX.mk ⟨hxe, fun x _ => .inr hue⟩ hue) ?_
 intro v w2 hR hd _
 obtain ⟨-, -, -, -, -, -, -, -, -, -, -, d9, ⟨u, h1⟩, -⟩ := hd
 have h2 := hR.1.at g2 (by simp)
 have l1 := lt_of_at h1
 have l2 := lt_of_at h2
 have hx : Ext [] w w2 := hx0.trans hR.1 (by simp [hb1])
 simp (disch := first | exact qD19 | fail) only [qG4, d9, h1, h2, oz_over, oz_put, cx_sub, oz_sub]
 exact hK _ qX
theorem tellZ_spec {w : World} {q : Nat} {r : Rz} {x : Cq} (hr : w.heap[q]? = some (.cells (rzC r).toArray 91 (0, 0))) (hrd : r.i.rd < 9223372036854775808) {K : Value -> World -> Prop} (hK : ∀ w', Ext [q] w w' -> K (.tuple #[.agg (cxC (withX r.c r.i.rd x)).toArray, .agg (ozC 0 0 0 r.i).toArray]) w') : callsK Tryz.prog 74 #[.pointer (some ⟨q, 0, none⟩), .agg (cq x).toArray] w K := by
 apply F74_ok
 unfold F74
 have l0 := lt_of_at hr
 simp (disch := first | exact qD19 | fail) only [qG4, zeroX_cells]
 refine joinL.intro fun J hJ => ?_
 simp (disch := first | exact qD19 | fail) only [qG4]
 have hx0 : Ext [] w (((w.alloc (.cells (cq x).toArray 24)).alloc (.cells (cxC zeroX).toArray 42)).alloc (.cells [.int .i64 0, .int .i64 0, .int .u64 0, .int .i64 0, .int .i64 0, .int .i64 0, .int .i64 0, .int .i64 0].toArray 51)).drew := qX
 have g3 : (((w.alloc (.cells (cq x).toArray 24)).alloc (.cells (cxC zeroX).toArray 42)).alloc (.cells [.int .i64 0, .int .i64 0, .int .u64 0, .int .i64 0, .int .i64 0, .int .i64 0, .int .i64 0, .int .i64 0].toArray 51)).drew.heap[w.heap.size]? = some (.cells (cq x).toArray 24 (0, 0)) := (by first | with_reducible rfl | assumption | (simp (disch := first | exact qD19 | fail) only [qG4] <;> rfl))
 have g1 : (((w.alloc (.cells (cq x).toArray 24)).alloc (.cells (cxC zeroX).toArray 42)).alloc (.cells [.int .i64 0, .int .i64 0, .int .u64 0, .int .i64 0, .int .i64 0, .int .i64 0, .int .i64 0, .int .i64 0].toArray 51)).drew.heap[w.heap.size + 1]? = some (.cells (cxC zeroX).toArray 42 (0, 0)) := (by first | with_reducible rfl | assumption | (simp (disch := first | exact qD19 | fail) only [qG4] <;> rfl))
 have g2 : (((w.alloc (.cells (cq x).toArray 24)).alloc (.cells (cxC zeroX).toArray 42)).alloc (.cells [.int .i64 0, .int .i64 0, .int .u64 0, .int .i64 0, .int .i64 0, .int .i64 0, .int .i64 0, .int .i64 0].toArray 51)).drew.heap[w.heap.size + 2]? = some (.cells [.int .i64 0, .int .i64 0, .int .u64 0, .int .i64 0, .int .i64 0, .int .i64 0, .int .i64 0, .int .i64 0].toArray 51 (0, 0)) := (by first | with_reducible rfl | assumption | (simp (disch := first | exact qD19 | fail) only [qG4] <;> rfl))
 have g0 := hx0.at hr (by simp)
 obtain ⟨b1, hb1⟩ : ∃ b1, b1 = w.heap.size := ⟨_, rfl⟩
 rw [<- hb1] at g1 g2 g3 hJ ⊢
 generalize (((w.alloc (.cells (cq x).toArray 24)).alloc (.cells (cxC zeroX).toArray 42)).alloc (.cells [.int .i64 0, .int .i64 0, .int .u64 0, .int .i64 0, .int .i64 0, .int .i64 0, .int .i64 0, .int .i64 0].toArray 51)).drew = w1 at *
 refine relX.ext [] ?_
 refine postX.is (.pointer (some ⟨q, 0, none⟩)) (fun v w2 hR _ => okX.is) ?_
 refine postX.is (.pointer (some ⟨q, 0, none⟩)) (fun v w2 hR _ => okX.is) ?_
 refine postX.is (.pointer (some ⟨q, 0, none⟩)) (fun v w2 hR hd => by
  obtain ⟨d1, -⟩ := hd
  simp (disch := first | exact qD19 | fail) only [qG4, d1]
  exact okX.is) ?_
 refine postX.is (.pointer (some ⟨q, 0, none⟩)) (fun v w2 hR hd => by
  obtain ⟨d1, -⟩ := hd
  simp (disch := first | exact qD19 | fail) only [qG4, d1]
  exact okX.is) ?_
 refine postX.is (.agg (cxC r.c).toArray) (fun v w2 hR hd => by
  obtain ⟨d1, -⟩ := hd
  have e := hR.at g0 (by simp)
  simp (disch := first | exact qD19 | fail) only [qG4, d1, e, rz_c]
  exact okX.is) ?_
 refine postX.is (.pointer (some ⟨q, 0, none⟩)) (fun v w2 hR _ => okX.is) ?_
 refine postX.is (.pointer (some ⟨q, 0, none⟩)) (fun v w2 hR hd => by
  obtain ⟨d1, -⟩ := hd
  simp (disch := first | exact qD19 | fail) only [qG4, d1]
  exact okX.is) ?_
 refine postX.is (.pointer (some ⟨q, 199, none⟩)) (fun v w2 hR hd => by
  obtain ⟨d1, -⟩ := hd
  simp (disch := first | exact qD19 | fail) only [qG4, d1]
  exact okX.is) ?_
 refine postX.is (.pointer (some ⟨q, 200, none⟩)) (fun v w2 hR hd => by
  obtain ⟨d1, -⟩ := hd
  simp (disch := first | exact qD19 | fail) only [qG4, Nat.reduceAdd, d1]
  exact okX.is) ?_
 refine postX.is (.int .i64 (r.i.rd : Nat)) (fun v w2 hR hd => by
  obtain ⟨d1, -⟩ := hd
  have e := hR.at g0 (by simp)
  simp (disch := first | exact qD19 | fail) only [qG4, d1, e, rz_rd]
  exact okX.is) ?_
 refine postX.is (.agg (cq x).toArray) (fun v w2 hR hd => by
  have e := hR.at g3 (by simp)
  simp (disch := first | exact qD19 | fail) only [qG4, e, cq_sub]
  exact okX.is) ?_
 refine postX.is (.agg (cxC (withX r.c r.i.rd x)).toArray) (fun v w2 hR hd => by
  obtain ⟨d1, d2, d3, -⟩ := hd
  simp (disch := first | exact qD19 | fail) only [qG4, d1, d2, d3]
  refine With_reg hrd fun w3 hx3 => okX.mk hx3 rfl) ?_
 intro v w2 hR hd _
 obtain ⟨d1, -, -, -, -, -, -, -, -, -, -, d12, -⟩ := hd
 have h0 := hR.at g0 (by simp)
 have h1 := hR.at g1 (by simp)
 have h2 := hR.at g2 (by simp)
 have hxa : Ext [] w w2 := hx0.trans hR (by simp)
 have k0 := lt_of_at h0
 simp (disch := first | exact qD19 | fail) only [qG4, d1, d12, h0, rz_setc, rz_putc]
 apply hJ
 intro _
 have m0 : (World.upd w2 q (rzC { r with c := withX r.c r.i.rd x })).heap[q]? = some (.cells (rzC { r with c := withX r.c r.i.rd x }).toArray 91 (0, 0)) := upd_at h0
 have m1 : (World.upd w2 q (rzC { r with c := withX r.c r.i.rd x })).heap[b1 + 1]? = some (.cells (cxC zeroX).toArray 42 (0, 0)) := (upd_ne (by omega)).trans h1
 have m2 : (World.upd w2 q (rzC { r with c := withX r.c r.i.rd x })).heap[b1 + 2]? = some (.cells [.int .i64 0, .int .i64 0, .int .u64 0, .int .i64 0, .int .i64 0, .int .i64 0, .int .i64 0, .int .i64 0].toArray 51 (0, 0)) := (upd_ne (by omega)).trans h2
 have hxb : Ext [q] w (World.upd w2 q (rzC { r with c := withX r.c r.i.rd x })) := by
  have := hxa.mono (T := [q]) (by simp)
  exact qX
 refine retireZ_spec m0 fun w3 hx3 => ?_
 have n1 := hx3.at m1 (by simp)
 have n2 := hx3.at m2 (by simp)
 have ln1 := lt_of_at n1
 have ln2 := lt_of_at n2
 have hxc := hxb.trans hx3 (by simp)
 have hb1w : w.heap.size <= b1 := by omega
 simp (disch := first | exact qD19 | fail) only [qG4, n1, n2, cx_over, cx_put, oz_over, oz_put, cx_sub, oz_sub]
 exact hK _ qX
theorem numZ_spec {w : World} {q n : Nat} {r : Rz} (hr : w.heap[q]? = some (.cells (rzC r).toArray 91 (0, 0))) (hrd : r.i.rd < 9223372036854775808) {K : Value -> World -> Prop} (hK : ∀ w', Ext [q] w w' -> K (.tuple #[.agg (cxC (withX r.c r.i.rd ⟨false, 0, n⟩)).toArray, .agg (ozC 0 0 0 r.i).toArray]) w') : callsK Tryz.prog 77 #[.pointer (some ⟨q, 0, none⟩), .int .u64 (n : Nat)] w K := by
 apply F77_ok
 unfold F77
 have l0 := lt_of_at hr
 simp (disch := first | exact qD19 | fail) only [qG4, zeroX_cells]
 have hx0 : Ext [] w ((w.alloc (.cells (cxC zeroX).toArray 42)).alloc (.cells [.int .i64 0, .int .i64 0, .int .u64 0, .int .i64 0, .int .i64 0, .int .i64 0, .int .i64 0, .int .i64 0].toArray 51)) := qX
 have g1 : ((w.alloc (.cells (cxC zeroX).toArray 42)).alloc (.cells [.int .i64 0, .int .i64 0, .int .u64 0, .int .i64 0, .int .i64 0, .int .i64 0, .int .i64 0, .int .i64 0].toArray 51)).heap[w.heap.size]? = some (.cells (cxC zeroX).toArray 42 (0, 0)) := (by first | with_reducible rfl | assumption | (simp (disch := first | exact qD19 | fail) only [qG4] <;> rfl))
 have g2 : ((w.alloc (.cells (cxC zeroX).toArray 42)).alloc (.cells [.int .i64 0, .int .i64 0, .int .u64 0, .int .i64 0, .int .i64 0, .int .i64 0, .int .i64 0, .int .i64 0].toArray 51)).heap[w.heap.size + 1]? = some (.cells [.int .i64 0, .int .i64 0, .int .u64 0, .int .i64 0, .int .i64 0, .int .i64 0, .int .i64 0, .int .i64 0].toArray 51 (0, 0)) := (by first | with_reducible rfl | assumption | (simp (disch := first | exact qD19 | fail) only [qG4] <;> rfl))
 have g0 := hx0.at hr (by simp)
 refine Null_spec fun w1 hx1 => ?_
 have hxa := hx0.trans hx1 (by simp)
 have k0 := hx1.at g0 (by simp)
 have k1 := hx1.at g1 (by simp)
 have k2 := hx1.at g2 (by simp)
 simp (disch := first | exact qD19 | fail) only [qG4]
 refine tellZ_spec (x := ⟨false, 0, n⟩) k0 hrd fun w2 hx2 => ?_
 have n1 := hx2.at k1 (by simp; omega)
 have n2 := hx2.at k2 (by simp; omega)
 have ln1 := lt_of_at n1
 have ln2 := lt_of_at n2
 have hxc : Ext [q] w w2 := (hxa.mono (by simp)).step hx2
 simp (disch := first | exact qD19 | fail) only [qG4, n1, n2, cx_over, cx_put, oz_over, oz_put, cx_sub, oz_sub]
 exact hK _ qX
open Go.Fx
set_option maxRecDepth 100000
theorem rz_dp (r : Rz) : sub (rzC r) 195 3 = cq (r.d 32) := by
 unfold rzC
 rw [sub_right (k := 96) (by rw [cxC_len]), sub_left (by rw [cxC_len]; omega), cx_at (k := 32) (by omega)]
theorem rz_setp (r : Rz) (x : Cq) : splice (rzC r) 96 (cq x) = rzC { r with c := setX r.c 32 x } := by
 unfold rzC
 rw [splice_left (by rw [cxC_len, cq_len]; omega), cx_with (k := 32) (by omega)]
theorem field_pccZ (c : Nat -> Cq) (w : World) : (Instr.field 42 (.agg (cxC c).toArray) 1).run Tryz.prog w = .ok (.agg (cq (c 32)).toArray) w := by kernel_rfl
theorem MoveG_spec {w : World} {c : Cq} {d : Int} (hc : Okq c) {K : Value -> World -> Prop} (hK : ∀ (x : Cq) w', Okq x -> Ext [] w w' -> K (.agg (cq x).toArray) w') : callsK Tryz.prog 16 #[.agg (cq c).toArray, .int .u64 d] w K := by
 obtain ⟨b, hb, hbl⟩ := natOf (wrapU ((c.a : Int) + d))
 exact Move_spec hc.1 hc.2 hbl hb fun w' hx => hK ⟨moveT c.t c.m c.a b, c.m, b⟩ w' ⟨hc.1, hbl⟩ hx
theorem AddressG_spec {w : World} {c : Cq} {b : Nat} (hc : Okq c) (hb : b < 18446744073709551616) {K : Value -> World -> Prop} (hK : ∀ (x : Cq) w', Okq x -> Ext [] w w' -> K (.agg (cq x).toArray) w') : callsK Tryz.prog 44 #[.agg (cq c).toArray, .int .u64 (b : Nat)] w K :=
 Address_spec hc.1 hc.2 hb fun w' hx => hK ⟨moveT c.t c.m c.a b, c.m, b⟩ w' ⟨hc.1, hb⟩ hx
/-- no register is changed. -/
def Same (c d : Nat -> Cq) : Prop := ∀ k, k < 32 -> d k = c k
theorem qZ20 : type_of% (And.intro @szR (And.intro @cq_len (And.intro @cq_all (And.intro @cxC_len (And.intro @cxC_all (And.intro @izC_len (And.intro @izC_all (And.intro @rzC_len (And.intro @rzC_all (And.intro @ozC_len (And.intro @ozC_all (And.intro @lvC_len (And.intro @lvC_all (And.intro @vwC_len (@vwC_all))))))))))))))) := ⟨@szR, @cq_len, @cq_all, @cxC_len, @cxC_all, @izC_len, @izC_all, @rzC_len, @rzC_all, @ozC_len, @ozC_all, @lvC_len, @lvC_all, @vwC_len, @vwC_all⟩
theorem qD20 {p : Prop} (h : p := by first | assumption | omega | (simp only [qZ20] <;> omega) | rfl | decide) : p := h
set_option maxHeartbeats 1000000 in
theorem branchG_spec {w : World} {q : Nat} {r : Rz} (hr : w.heap[q]? = some (.cells (rzC r).toArray 91 (0, 0))) (hd : Okq (r.d 32)) {K : Value -> World -> Prop} (hK : ∀ d w', Same r.c d -> Ext [q] w w' -> K (.tuple #[.agg (cxC d).toArray, .agg (ozC 0 0 0 r.i).toArray]) w') : callsK Tryz.prog 71 #[.pointer (some ⟨q, 0, none⟩)] w K := by
 apply F71_ok
 unfold F71
 have l0 := lt_of_at hr
 have hx0 := two_x w
 have g1 := two_1 w
 have g2 := two_2 w
 have g0 := hx0.at hr (by simp)
 simp (disch := first | exact qD20 | fail) only [qG4, zeroX_cells]
 refine joinL.intro fun J0 hJ0 => ?_
 have hend : ∀ c w2, Same r.c c -> w2.heap[q]? = some (.cells (rzC { r with c := c }).toArray 91 (0, 0)) -> w2.heap[w.heap.size]? = some (.cells (cxC zeroX).toArray 42 (0, 0)) -> w2.heap[w.heap.size + 1]? = some (.cells [.int .i64 0, .int .i64 0, .int .u64 0, .int .i64 0, .int .i64 0, .int .i64 0, .int .i64 0, .int .i64 0].toArray 51 (0, 0)) -> Ext [q] w w2 -> J0 [] w2 := by
  intro c w2 hs h0 h1 h2 hx
  apply hJ0
  intro _
  refine retireZ_spec h0 fun w3 hx3 => ?_
  replace h1 := hx3.at h1 (by simp)
  replace h2 := hx3.at h2 (by simp)
  have lh1 := lt_of_at h1
  have lh2 := lt_of_at h2
  have hxc := hx.trans hx3 (by simp)
  simp (disch := first | exact qD20 | fail) only [qG4, h1, h2, cx_over, cx_put, oz_over, oz_put, cx_sub, oz_sub]
  exact hK c _ hs qX
 clear hJ0 hK
 refine joinL.intro fun J4 hJ4 => ?_
 have eop := rz_op r
 have eaa := rz_aa r
 have eba := rz_ba r
 simp (disch := first | exact qD20 | fail) only [qG4, Nat.reduceAdd, hr, eop, eaa, eba, and_self]
 have hxd : Ext [] ((w.alloc (.cells (cxC zeroX).toArray 42)).alloc (.cells [.int .i64 0, .int .i64 0, .int .u64 0, .int .i64 0, .int .i64 0, .int .i64 0, .int .i64 0, .int .i64 0].toArray 51)) ((w.alloc (.cells (cxC zeroX).toArray 42)).alloc (.cells [.int .i64 0, .int .i64 0, .int .u64 0, .int .i64 0, .int .i64 0, .int .i64 0, .int .i64 0, .int .i64 0].toArray 51)).drew := qX
 replace g0 := hxd.at g0 (by simp)
 replace g1 := hxd.at g1 (by simp)
 replace g2 := hxd.at g2 (by simp)
 replace hx0 := hx0.trans hxd (by simp)
 clear hxd
 generalize ((w.alloc (.cells (cxC zeroX).toArray 42)).alloc (.cells [.int .i64 0, .int .i64 0, .int .u64 0, .int .i64 0, .int .i64 0, .int .i64 0, .int .i64 0, .int .i64 0].toArray 51)).drew = w1 at *
 refine TakesG_spec fun s o w2 hx1 => ?_
 replace g0 := hx1.at g0 (by simp)
 replace g1 := hx1.at g1 (by simp)
 replace g2 := hx1.at g2 (by simp)
 replace hx0 := hx0.trans hx1 (by simp)
 clear hx1
 simp (disch := first | exact qD20 | fail) only [qG4]
 apply hJ4
 intro _
 cases s with
 | false =>
  simp (disch := first | exact qD20 | fail) only [qG4]
  exact hend r.c w2 (fun _ _ => rfl) g0 g1 g2 (hx0.mono (by simp))
 | true =>
 have lg0 := lt_of_at g0
 have eim := rz_im r
 have edp := rz_dp r
 simp (disch := first | exact qD20 | fail) only [qG4, Nat.reduceAdd, g0, eim, edp, and_self]
 have hxd : Ext [] w2 w2.drew := qX
 replace g0 := hxd.at g0 (by simp)
 replace g1 := hxd.at g1 (by simp)
 replace g2 := hxd.at g2 (by simp)
 replace hx0 := hx0.trans hxd (by simp)
 clear hxd
 refine MoveG_spec hd fun x w3 hx hx1 => ?_
 replace g0 := hx1.at g0 (by simp)
 replace g1 := hx1.at g1 (by simp)
 replace g2 := hx1.at g2 (by simp)
 replace hx0 := hx0.trans hx1 (by simp)
 have lg9 := lt_of_at g0
 simp (disch := first | exact qD20 | fail) only [qG4, g0, rz_setp]
 have m0 : (World.upd w3 q (rzC { r with c := setX r.c 32 x })).heap[q]? = some (.cells (rzC { r with c := setX r.c 32 x }).toArray 91 (0, 0)) := upd_at g0
 have hxu : Ext [q] w3 (World.upd w3 q (rzC { r with c := setX r.c 32 x })) := qX
 have m1 := hxu.at g1 (by simp; omega)
 have m2 := hxu.at g2 (by simp; omega)
 refine hend (setX r.c 32 x) _ (fun k hk => ?_) m0 m1 m2 ((hx0.mono (by simp)).step hxu)
 unfold setX
 rw [if_neg (by omega)]
open Go.Fx
set_option maxRecDepth 100000
section
variable (P : Program) (w : World) (K : Value -> World -> Prop)
def G80 (t0 : Value) : Prop :=
 kV P (Instr.alloc 42 true (.tuple #[])) w fun v2 w =>
 kV P (Instr.alloc 51 true (.tuple #[])) w fun v3 w =>
 joinL (fun J0 =>
 drewK (fun w =>
 relX fun R54 =>
 postX R54 (fun p54_7 => allX R54 w fun V54 w => True -> (okX R54 w p54_7) t0 w) fun p54_7 =>
 postX R54 (fun p54_8 => allX R54 w fun V54 w => p54_7 (V54 7) w /\ True -> kN P (nilN (V54 7)) w (okX R54 w p54_8)) fun p54_8 =>
 postX R54 (fun p54_9 => allX R54 w fun V54 w => p54_8 (V54 8) w /\ True -> kV P (Instr.fieldAt 91 (V54 8) 4) w (okX R54 w p54_9)) fun p54_9 =>
 postX R54 (fun p54_10 => allX R54 w fun V54 w => p54_9 (V54 9) w /\ True -> kV P (Instr.loadAt 24 (V54 9)) w (okX R54 w p54_10)) fun p54_10 =>
 postX R54 (fun p54_11 => allX R54 w fun V54 w => True -> (okX R54 w p54_11) t0 w) fun p54_11 =>
 postX R54 (fun p54_12 => allX R54 w fun V54 w => p54_11 (V54 11) w /\ True -> kN P (nilN (V54 11)) w (okX R54 w p54_12)) fun p54_12 =>
 postX R54 (fun p54_13 => allX R54 w fun V54 w => p54_12 (V54 12) w /\ True -> kV P (Instr.fieldAt 91 (V54 12) 5) w (okX R54 w p54_13)) fun p54_13 =>
 postX R54 (fun p54_14 => allX R54 w fun V54 w => p54_13 (V54 13) w /\ True -> kV P (Instr.loadAt 24 (V54 13)) w (okX R54 w p54_14)) fun p54_14 =>
 postX R54 (fun p54_15 => allX R54 w fun V54 w => True -> (okX R54 w p54_15) t0 w) fun p54_15 =>
 postX R54 (fun p54_16 => allX R54 w fun V54 w => p54_15 (V54 15) w /\ True -> kN P (nilN (V54 15)) w (okX R54 w p54_16)) fun p54_16 =>
 postX R54 (fun p54_17 => allX R54 w fun V54 w => p54_16 (V54 16) w /\ True -> kV P (Instr.fieldAt 91 (V54 16) 3) w (okX R54 w p54_17)) fun p54_17 =>
 postX R54 (fun p54_18 => allX R54 w fun V54 w => p54_17 (V54 17) w /\ True -> kV P (Instr.fieldAt 49 (V54 17) 4) w (okX R54 w p54_18)) fun p54_18 =>
 postX R54 (fun p54_19 => allX R54 w fun V54 w => p54_18 (V54 18) w /\ True -> kV P (Instr.loadAt 2 (V54 18)) w (okX R54 w p54_19)) fun p54_19 =>
 postX R54 (fun p54_20 => allX R54 w fun V54 w => p54_19 (V54 19) w /\ True -> kV P (convert 2 22 (V54 19)) w (okX R54 w p54_20)) fun p54_20 =>
 postX R54 (fun p54_4 => allX R54 w fun V54 w => True -> kV P (Instr.alloc 24 true (.tuple #[])) w (okX R54 w p54_4)) fun p54_4 =>
 postX R54 (fun p54_5 => allX R54 w fun V54 w => True -> kV P (Instr.alloc 24 true (.tuple #[])) w (okX R54 w p54_5)) fun p54_5 =>
 postX R54 (fun p54_n16 => allX R54 w fun V54 w => p54_7 (V54 7) w /\ p54_8 (V54 8) w /\ p54_9 (V54 9) w /\ p54_10 (V54 10) w /\ p54_4 (V54 4) w /\ p54_5 (V54 5) w /\ True -> kU P (Instr.storeAt 24 (V54 4) (V54 10)) w (okX R54 w (fun _ => p54_n16 (V54 4)))) fun p54_n16 =>
 postX R54 (fun p54_n17 => allX R54 w fun V54 w => p54_7 (V54 7) w /\ p54_8 (V54 8) w /\ p54_9 (V54 9) w /\ p54_10 (V54 10) w /\ p54_11 (V54 11) w /\ p54_12 (V54 12) w /\ p54_13 (V54 13) w /\ p54_14 (V54 14) w /\ p54_4 (V54 4) w /\ p54_5 (V54 5) w /\ p54_n16 (V54 4) w /\ True -> kU P (Instr.storeAt 24 (V54 5) (V54 14)) w (okX R54 w (fun _ => p54_n17 (V54 5)))) fun p54_n17 =>
 allX R54 w fun V54 w => p54_7 (V54 7) w /\ p54_8 (V54 8) w /\ p54_9 (V54 9) w /\ p54_10 (V54 10) w /\ p54_11 (V54 11) w /\ p54_12 (V54 12) w /\ p54_13 (V54 13) w /\ p54_14 (V54 14) w /\ p54_15 (V54 15) w /\ p54_16 (V54 16) w /\ p54_17 (V54 17) w /\ p54_18 (V54 18) w /\ p54_19 (V54 19) w /\ p54_20 (V54 20) w /\ p54_4 (V54 4) w /\ p54_5 (V54 5) w /\ p54_n16 (V54 4) w /\ p54_n17 (V54 5) w /\ True -> xDist V54 [4, 5] ->
 J0 [(V54 4), (V54 5), (V54 20)] w) w) fun s0 w => ∀ _ : Nat -> Value,
 joinL (fun J2 =>
 kN P (nilN t0) w fun v22 w =>
 kV P (Instr.fieldAt 91 v22 3) w fun v23 w =>
 kV P (Instr.fieldAt 49 v23 0) w fun v24 w =>
 kV P (Instr.loadAt 3 v24) w fun v25 w =>
 joinL (fun J6 =>
 joinL (fun J10 =>
 kV P (binV .eql 3 (.tmp 25) (.const (.int .i64 45)) v25 (.int .i64 45)) w fun v27 w =>
 condK v27
 (condK v27
 (drewK (fun w =>
 pV P (Instr.fieldAt 24 (s0.getD 1 undef) 2) fun v53 =>
 pN P (nilN t0) fun v56 =>
 pV P (Instr.fieldAt 91 v56 3) fun v57 =>
 pV P (Instr.fieldAt 49 v57 0) fun v58 =>
 (kV P (Instr.loadAt 24 (s0.getD 0 undef)) w fun v52 w =>
 (kV P (Instr.loadAt 22 v53) w fun v54 w =>
 kV P (Instr.loadAt 3 v58) w fun v59 w =>
 pV P (binV .eql 3 (.tmp 59) (.const (.int .i64 46)) v59 (.int .i64 46)) fun v60 =>
 kN P (callN (.func (.func 103) #[] #[]) #[v52, v54, v60]) w fun v61 w =>
 kN P (callN (.func (.func 74) #[] #[]) #[t0, v61]) w fun v62 w =>
 pV P (Instr.extract v62 0) fun v63 =>
 pV P (Instr.extract v62 1) fun v64 =>
 kU P (Instr.storeAt 42 v2 v63) w fun _ w =>
 kU P (Instr.storeAt 51 v3 v64) w fun _ w =>
 retV P 42 v2 w fun r30 =>
 retV P 51 v3 w fun r31 =>
 K (.tuple #[r30, r31]) w) /\
 (kV P (Instr.loadAt 3 v58) w fun v59_1 w =>
 pV P (binV .eql 3 (.tmp 59) (.const (.int .i64 46)) v59_1 (.int .i64 46)) fun v60_1 =>
 kV P (Instr.loadAt 22 v53) w fun v54_1 w =>
 kN P (callN (.func (.func 103) #[] #[]) #[v52, v54_1, v60_1]) w fun v61_1 w =>
 kN P (callN (.func (.func 74) #[] #[]) #[t0, v61_1]) w fun v62_1 w =>
 pV P (Instr.extract v62_1 0) fun v63_1 =>
 pV P (Instr.extract v62_1 1) fun v64_1 =>
 kU P (Instr.storeAt 42 v2 v63_1) w fun _ w =>
 kU P (Instr.storeAt 51 v3 v64_1) w fun _ w =>
 retV P 42 v2 w fun r32 =>
 retV P 51 v3 w fun r33 =>
 K (.tuple #[r32, r33]) w)) /\
 (kV P (Instr.loadAt 22 v53) w fun v54_2 w =>
 (kV P (Instr.loadAt 24 (s0.getD 0 undef)) w fun v52_1 w =>
 kV P (Instr.loadAt 3 v58) w fun v59_2 w =>
 pV P (binV .eql 3 (.tmp 59) (.const (.int .i64 46)) v59_2 (.int .i64 46)) fun v60_2 =>
 kN P (callN (.func (.func 103) #[] #[]) #[v52_1, v54_2, v60_2]) w fun v61_2 w =>
 kN P (callN (.func (.func 74) #[] #[]) #[t0, v61_2]) w fun v62_2 w =>
 pV P (Instr.extract v62_2 0) fun v63_2 =>
 pV P (Instr.extract v62_2 1) fun v64_2 =>
 kU P (Instr.storeAt 42 v2 v63_2) w fun _ w =>
 kU P (Instr.storeAt 51 v3 v64_2) w fun _ w =>
 retV P 42 v2 w fun r34 =>
 retV P 51 v3 w fun r35 =>
 K (.tuple #[r34, r35]) w) /\
 (kV P (Instr.loadAt 3 v58) w fun v59_3 w =>
 pV P (binV .eql 3 (.tmp 59) (.const (.int .i64 46)) v59_3 (.int .i64 46)) fun v60_3 =>
 kV P (Instr.loadAt 24 (s0.getD 0 undef)) w fun v52_2 w =>
 kN P (callN (.func (.func 103) #[] #[]) #[v52_2, v54_2, v60_3]) w fun v61_3 w =>
 kN P (callN (.func (.func 74) #[] #[]) #[t0, v61_3]) w fun v62_3 w =>
 pV P (Instr.extract v62_3 0) fun v63_3 =>
 pV P (Instr.extract v62_3 1) fun v64_3 =>
 kU P (Instr.storeAt 42 v2 v63_3) w fun _ w =>
 kU P (Instr.storeAt 51 v3 v64_3) w fun _ w =>
 retV P 42 v2 w fun r36 =>
 retV P 51 v3 w fun r37 =>
 K (.tuple #[r36, r37]) w)) /\
 (kV P (Instr.loadAt 3 v58) w fun v59_4 w =>
 pV P (binV .eql 3 (.tmp 59) (.const (.int .i64 46)) v59_4 (.int .i64 46)) fun v60_4 =>
 (kV P (Instr.loadAt 24 (s0.getD 0 undef)) w fun v52_3 w =>
 kV P (Instr.loadAt 22 v53) w fun v54_3 w =>
 kN P (callN (.func (.func 103) #[] #[]) #[v52_3, v54_3, v60_4]) w fun v61_4 w =>
 kN P (callN (.func (.func 74) #[] #[]) #[t0, v61_4]) w fun v62_4 w =>
 pV P (Instr.extract v62_4 0) fun v63_4 =>
 pV P (Instr.extract v62_4 1) fun v64_4 =>
 kU P (Instr.storeAt 42 v2 v63_4) w fun _ w =>
 kU P (Instr.storeAt 51 v3 v64_4) w fun _ w =>
 retV P 42 v2 w fun r38 =>
 retV P 51 v3 w fun r39 =>
 K (.tuple #[r38, r39]) w) /\
 (kV P (Instr.loadAt 22 v53) w fun v54_4 w =>
 kV P (Instr.loadAt 24 (s0.getD 0 undef)) w fun v52_4 w =>
 kN P (callN (.func (.func 103) #[] #[]) #[v52_4, v54_4, v60_4]) w fun v61_5 w =>
 kN P (callN (.func (.func 74) #[] #[]) #[t0, v61_5]) w fun v62_5 w =>
 pV P (Instr.extract v62_5 0) fun v63_5 =>
 pV P (Instr.extract v62_5 1) fun v64_5 =>
 kU P (Instr.storeAt 42 v2 v63_5) w fun _ w =>
 kU P (Instr.storeAt 51 v3 v64_5) w fun _ w =>
 retV P 42 v2 w fun r40 =>
 retV P 51 v3 w fun r41 =>
 K (.tuple #[r40, r41]) w))) w)
 (J10 [] w))
 (kV P (binV .eql 3 (.tmp 25) (.const (.int .i64 46)) v25 (.int .i64 46)) w fun v28 w =>
 condK v28
 (drewK (fun w =>
 pV P (Instr.fieldAt 24 (s0.getD 1 undef) 2) fun v53_1 =>
 pN P (nilN t0) fun v56_1 =>
 pV P (Instr.fieldAt 91 v56_1 3) fun v57_1 =>
 pV P (Instr.fieldAt 49 v57_1 0) fun v58_1 =>
 (kV P (Instr.loadAt 24 (s0.getD 0 undef)) w fun v52_5 w =>
 (kV P (Instr.loadAt 22 v53_1) w fun v54_5 w =>
 kV P (Instr.loadAt 3 v58_1) w fun v59_5 w =>
 pV P (binV .eql 3 (.tmp 59) (.const (.int .i64 46)) v59_5 (.int .i64 46)) fun v60_5 =>
 kN P (callN (.func (.func 103) #[] #[]) #[v52_5, v54_5, v60_5]) w fun v61_6 w =>
 kN P (callN (.func (.func 74) #[] #[]) #[t0, v61_6]) w fun v62_6 w =>
 pV P (Instr.extract v62_6 0) fun v63_6 =>
 pV P (Instr.extract v62_6 1) fun v64_6 =>
 kU P (Instr.storeAt 42 v2 v63_6) w fun _ w =>
 kU P (Instr.storeAt 51 v3 v64_6) w fun _ w =>
 retV P 42 v2 w fun r42 =>
 retV P 51 v3 w fun r43 =>
 K (.tuple #[r42, r43]) w) /\
 (kV P (Instr.loadAt 3 v58_1) w fun v59_6 w =>
 pV P (binV .eql 3 (.tmp 59) (.const (.int .i64 46)) v59_6 (.int .i64 46)) fun v60_6 =>
 kV P (Instr.loadAt 22 v53_1) w fun v54_6 w =>
 kN P (callN (.func (.func 103) #[] #[]) #[v52_5, v54_6, v60_6]) w fun v61_7 w =>
 kN P (callN (.func (.func 74) #[] #[]) #[t0, v61_7]) w fun v62_7 w =>
 pV P (Instr.extract v62_7 0) fun v63_7 =>
 pV P (Instr.extract v62_7 1) fun v64_7 =>
 kU P (Instr.storeAt 42 v2 v63_7) w fun _ w =>
 kU P (Instr.storeAt 51 v3 v64_7) w fun _ w =>
 retV P 42 v2 w fun r44 =>
 retV P 51 v3 w fun r45 =>
 K (.tuple #[r44, r45]) w)) /\
 (kV P (Instr.loadAt 22 v53_1) w fun v54_7 w =>
 (kV P (Instr.loadAt 24 (s0.getD 0 undef)) w fun v52_6 w =>
 kV P (Instr.loadAt 3 v58_1) w fun v59_7 w =>
 pV P (binV .eql 3 (.tmp 59) (.const (.int .i64 46)) v59_7 (.int .i64 46)) fun v60_7 =>
 kN P (callN (.func (.func 103) #[] #[]) #[v52_6, v54_7, v60_7]) w fun v61_8 w =>
 kN P (callN (.func (.func 74) #[] #[]) #[t0, v61_8]) w fun v62_8 w =>
 pV P (Instr.extract v62_8 0) fun v63_8 =>
 pV P (Instr.extract v62_8 1) fun v64_8 =>
 kU P (Instr.storeAt 42 v2 v63_8) w fun _ w =>
 kU P (Instr.storeAt 51 v3 v64_8) w fun _ w =>
 retV P 42 v2 w fun r46 =>
 retV P 51 v3 w fun r47 =>
 K (.tuple #[r46, r47]) w) /\
 (kV P (Instr.loadAt 3 v58_1) w fun v59_8 w =>
 pV P (binV .eql 3 (.tmp 59) (.const (.int .i64 46)) v59_8 (.int .i64 46)) fun v60_8 =>
 kV P (Instr.loadAt 24 (s0.getD 0 undef)) w fun v52_7 w =>
 kN P (callN (.func (.func 103) #[] #[]) #[v52_7, v54_7, v60_8]) w fun v61_9 w =>
 kN P (callN (.func (.func 74) #[] #[]) #[t0, v61_9]) w fun v62_9 w =>
 pV P (Instr.extract v62_9 0) fun v63_9 =>
 pV P (Instr.extract v62_9 1) fun v64_9 =>
 kU P (Instr.storeAt 42 v2 v63_9) w fun _ w =>
 kU P (Instr.storeAt 51 v3 v64_9) w fun _ w =>
 retV P 42 v2 w fun r48 =>
 retV P 51 v3 w fun r49 =>
 K (.tuple #[r48, r49]) w)) /\
 (kV P (Instr.loadAt 3 v58_1) w fun v59_9 w =>
 pV P (binV .eql 3 (.tmp 59) (.const (.int .i64 46)) v59_9 (.int .i64 46)) fun v60_9 =>
 (kV P (Instr.loadAt 24 (s0.getD 0 undef)) w fun v52_8 w =>
 kV P (Instr.loadAt 22 v53_1) w fun v54_8 w =>
 kN P (callN (.func (.func 103) #[] #[]) #[v52_8, v54_8, v60_9]) w fun v61_10 w =>
 kN P (callN (.func (.func 74) #[] #[]) #[t0, v61_10]) w fun v62_10 w =>
 pV P (Instr.extract v62_10 0) fun v63_10 =>
 pV P (Instr.extract v62_10 1) fun v64_10 =>
 kU P (Instr.storeAt 42 v2 v63_10) w fun _ w =>
 kU P (Instr.storeAt 51 v3 v64_10) w fun _ w =>
 retV P 42 v2 w fun r50 =>
 retV P 51 v3 w fun r51 =>
 K (.tuple #[r50, r51]) w) /\
 (kV P (Instr.loadAt 22 v53_1) w fun v54_9 w =>
 kV P (Instr.loadAt 24 (s0.getD 0 undef)) w fun v52_9 w =>
 kN P (callN (.func (.func 103) #[] #[]) #[v52_9, v54_9, v60_9]) w fun v61_11 w =>
 kN P (callN (.func (.func 74) #[] #[]) #[t0, v61_11]) w fun v62_11 w =>
 pV P (Instr.extract v62_11 0) fun v63_11 =>
 pV P (Instr.extract v62_11 1) fun v64_11 =>
 kU P (Instr.storeAt 42 v2 v63_11) w fun _ w =>
 kU P (Instr.storeAt 51 v3 v64_11) w fun _ w =>
 retV P 42 v2 w fun r52 =>
 retV P 51 v3 w fun r53 =>
 K (.tuple #[r52, r53]) w))) w)
 (J10 [] w))) fun s10 w => ∀ _ : Nat -> Value,
 kV P (binV .eql 3 (.tmp 25) (.const (.int .i64 69)) v25 (.int .i64 69)) w fun v30 w =>
 condK v30
 (kV P (Instr.loadAt 24 (s0.getD 0 undef)) w fun v66 w =>
 kN P (callN (.func (.func 103) #[] #[]) #[v66, (s0.getD 2 undef), (.bool false)]) w fun v68 w =>
 kN P (callN (.func (.func 74) #[] #[]) #[t0, v68]) w fun v69 w =>
 kV P (Instr.extract v69 0) w fun v70 w =>
 kV P (Instr.extract v69 1) w fun v71 w =>
 kU P (Instr.storeAt 42 v2 v70) w fun _ w =>
 kU P (Instr.storeAt 51 v3 v71) w fun _ w =>
 retV P 42 v2 w fun r12 =>
 retV P 51 v3 w fun r13 =>
 K (.tuple #[r12, r13]) w)
 (kV P (binV .eql 3 (.tmp 25) (.const (.int .i64 47)) v25 (.int .i64 47)) w fun v32 w =>
 condK v32
 (kV P (Instr.loadAt 24 (s0.getD 0 undef)) w fun v73 w =>
 kV P (Instr.loadAt 24 (s0.getD 1 undef)) w fun v74 w =>
 kN P (callN (.func (.func 104) #[] #[]) #[v73, v74]) w fun v75 w =>
 kN P (callN (.func (.func 74) #[] #[]) #[t0, v75]) w fun v76 w =>
 kV P (Instr.extract v76 0) w fun v77 w =>
 kV P (Instr.extract v76 1) w fun v78 w =>
 kU P (Instr.storeAt 42 v2 v77) w fun _ w =>
 kU P (Instr.storeAt 51 v3 v78) w fun _ w =>
 retV P 42 v2 w fun r14 =>
 retV P 51 v3 w fun r15 =>
 K (.tuple #[r14, r15]) w)
 (kV P (binV .eql 3 (.tmp 25) (.const (.int .i64 48)) v25 (.int .i64 48)) w fun v34 w =>
 condK v34
 (kV P (Instr.loadAt 24 (s0.getD 0 undef)) w fun v80 w =>
 kV P (Instr.loadAt 24 (s0.getD 1 undef)) w fun v81 w =>
 kN P (callN (.func (.func 105) #[] #[]) #[v80, v81]) w fun v82 w =>
 kN P (callN (.func (.func 74) #[] #[]) #[t0, v82]) w fun v83 w =>
 kV P (Instr.extract v83 0) w fun v84 w =>
 kV P (Instr.extract v83 1) w fun v85 w =>
 kU P (Instr.storeAt 42 v2 v84) w fun _ w =>
 kU P (Instr.storeAt 51 v3 v85) w fun _ w =>
 retV P 42 v2 w fun r16 =>
 retV P 51 v3 w fun r17 =>
 K (.tuple #[r16, r17]) w)
 (kV P (binV .eql 3 (.tmp 25) (.const (.int .i64 49)) v25 (.int .i64 49)) w fun v36 w =>
 condK v36
 (kV P (Instr.loadAt 24 (s0.getD 0 undef)) w fun v87 w =>
 kV P (Instr.fieldAt 24 (s0.getD 1 undef) 2) w fun v88 w =>
 kV P (Instr.loadAt 22 v88) w fun v89 w =>
 kN P (callN (.func (.func 106) #[] #[]) #[v87, v89]) w fun v90 w =>
 kN P (callN (.func (.func 74) #[] #[]) #[t0, v90]) w fun v91 w =>
 kV P (Instr.extract v91 0) w fun v92 w =>
 kV P (Instr.extract v91 1) w fun v93 w =>
 kU P (Instr.storeAt 42 v2 v92) w fun _ w =>
 kU P (Instr.storeAt 51 v3 v93) w fun _ w =>
 retV P 42 v2 w fun r18 =>
 retV P 51 v3 w fun r19 =>
 K (.tuple #[r18, r19]) w)
 (kV P (binV .eql 3 (.tmp 25) (.const (.int .i64 50)) v25 (.int .i64 50)) w fun v38 w =>
 condK v38
 (kV P (Instr.loadAt 24 (s0.getD 0 undef)) w fun v95 w =>
 kV P (Instr.fieldAt 24 (s0.getD 1 undef) 2) w fun v96 w =>
 kV P (Instr.loadAt 22 v96) w fun v97 w =>
 kN P (callN (.func (.func 44) #[] #[]) #[v95, v97]) w fun v98 w =>
 kN P (callN (.func (.func 74) #[] #[]) #[t0, v98]) w fun v99 w =>
 kV P (Instr.extract v99 0) w fun v100 w =>
 kV P (Instr.extract v99 1) w fun v101 w =>
 kU P (Instr.storeAt 42 v2 v100) w fun _ w =>
 kU P (Instr.storeAt 51 v3 v101) w fun _ w =>
 retV P 42 v2 w fun r20 =>
 retV P 51 v3 w fun r21 =>
 K (.tuple #[r20, r21]) w)
 (kV P (binV .eql 3 (.tmp 25) (.const (.int .i64 51)) v25 (.int .i64 51)) w fun v40 w =>
 condK v40
 (kV P (Instr.fieldAt 24 (s0.getD 1 undef) 2) w fun v102 w =>
 kV P (Instr.loadAt 22 v102) w fun v103 w =>
 J6 [v103] w)
 (kV P (binV .eql 3 (.tmp 25) (.const (.int .i64 68)) v25 (.int .i64 68)) w fun v42 w =>
 condK v42
 (J6 [(s0.getD 2 undef)] w)
 (kV P (binV .eql 3 (.tmp 25) (.const (.int .i64 53)) v25 (.int .i64 53)) w fun v44 w =>
 condK v44
 (kV P (Instr.loadAt 24 (s0.getD 1 undef)) w fun v112 w =>
 kV P (Instr.loadAt 24 (s0.getD 0 undef)) w fun v113 w =>
 kN P (callN (.func (.func 107) #[] #[]) #[v112, v113]) w fun v114 w =>
 kN P (callN (.func (.func 74) #[] #[]) #[t0, v114]) w fun v115 w =>
 kV P (Instr.extract v115 0) w fun v116 w =>
 kV P (Instr.extract v115 1) w fun v117 w =>
 kU P (Instr.storeAt 42 v2 v116) w fun _ w =>
 kU P (Instr.storeAt 51 v3 v117) w fun _ w =>
 retV P 42 v2 w fun r22 =>
 retV P 51 v3 w fun r23 =>
 K (.tuple #[r22, r23]) w)
 (kV P (binV .eql 3 (.tmp 25) (.const (.int .i64 64)) v25 (.int .i64 64)) w fun v46 w =>
 condK v46
 (kV P (Instr.loadAt 24 (s0.getD 0 undef)) w fun v119 w =>
 kN P (callN (.func (.func 74) #[] #[]) #[t0, v119]) w fun v120 w =>
 kV P (Instr.extract v120 0) w fun v121 w =>
 kV P (Instr.extract v120 1) w fun v122 w =>
 kU P (Instr.storeAt 42 v2 v121) w fun _ w =>
 kU P (Instr.storeAt 51 v3 v122) w fun _ w =>
 retV P 42 v2 w fun r24 =>
 retV P 51 v3 w fun r25 =>
 K (.tuple #[r24, r25]) w)
 (kV P (binV .eql 3 (.tmp 25) (.const (.int .i64 65)) v25 (.int .i64 65)) w fun v48 w =>
 condK v48
 (kV P (Instr.loadAt 24 (s0.getD 0 undef)) w fun v124 w =>
 kN P (callN (.func (.func 87) #[] #[]) #[v124]) w fun v125 w =>
 kN P (callN (.func (.func 74) #[] #[]) #[t0, v125]) w fun v126 w =>
 kV P (Instr.extract v126 0) w fun v127 w =>
 kV P (Instr.extract v126 1) w fun v128 w =>
 kU P (Instr.storeAt 42 v2 v127) w fun _ w =>
 kU P (Instr.storeAt 51 v3 v128) w fun _ w =>
 retV P 42 v2 w fun r26 =>
 retV P 51 v3 w fun r27 =>
 K (.tuple #[r26, r27]) w)
 (kV P (binV .eql 3 (.tmp 25) (.const (.int .i64 67)) v25 (.int .i64 67)) w fun v50 w =>
 condK v50
 (kV P (Instr.loadAt 24 (s0.getD 0 undef)) w fun v130 w =>
 kN P (callN (.func (.func 75) #[] #[]) #[v130]) w fun v131 w =>
 kN P (callN (.func (.func 74) #[] #[]) #[t0, v131]) w fun v132 w =>
 kV P (Instr.extract v132 0) w fun v133 w =>
 kV P (Instr.extract v132 1) w fun v134 w =>
 kU P (Instr.storeAt 42 v2 v133) w fun _ w =>
 kU P (Instr.storeAt 51 v3 v134) w fun _ w =>
 retV P 42 v2 w fun r28 =>
 retV P 51 v3 w fun r29 =>
 K (.tuple #[r28, r29]) w)
 (J2 [] w)))))))))))) fun s6 w => ∀ _ : Nat -> Value,
 kV P (Instr.loadAt 24 (s0.getD 0 undef)) w fun v105 w =>
 kN P (callN (.func (.func 16) #[] #[]) #[v105, (s6.getD 0 undef)]) w fun v107 w =>
 kN P (callN (.func (.func 74) #[] #[]) #[t0, v107]) w fun v108 w =>
 kV P (Instr.extract v108 0) w fun v109 w =>
 kV P (Instr.extract v108 1) w fun v110 w =>
 kU P (Instr.storeAt 42 v2 v109) w fun _ w =>
 kU P (Instr.storeAt 51 v3 v110) w fun _ w =>
 retV P 42 v2 w fun r8 =>
 retV P 51 v3 w fun r9 =>
 K (.tuple #[r8, r9]) w) fun s2 w => ∀ _ : Nat -> Value,
 kN P (callN (.func (.func 108) #[] #[]) #[t0]) w fun v136 w =>
 kV P (Instr.extract v136 0) w fun v137 w =>
 kV P (Instr.extract v136 1) w fun v138 w =>
 kU P (Instr.storeAt 42 v2 v137) w fun _ w =>
 kU P (Instr.storeAt 51 v3 v138) w fun _ w =>
 retV P 42 v2 w fun r4 =>
 retV P 51 v3 w fun r5 =>
 K (.tuple #[r4, r5]) w
theorem G80_eq (t0 : Value) : funE P ⟨[(1, 1018), (16, 999)], [], [(2, [4, 5, 6]), (28, []), (23, [6]), (5, [])]⟩ Tryz.f80 [t0] w K = G80 P w K t0 := by kernel_rfl
theorem G80_ok (t0 : Value) (h : G80 Tryz.prog w K t0) : callsK Tryz.prog 80 #[t0] w K := calls_of_eq mixedN Tryz.func80 (G80_eq _ w K t0) h
def G108 (t0 : Value) : Prop :=
 kV P (Instr.alloc 42 true (.tuple #[])) w fun v2 w =>
 kV P (Instr.alloc 51 true (.tuple #[])) w fun v3 w =>
 kN P (nilN t0) w fun v10 w =>
 kV P (Instr.fieldAt 91 v10 4) w fun v11 w =>
 kV P (Instr.loadAt 24 v11) w fun v12 w =>
 kV P (Instr.alloc 24 true (.tuple #[])) w fun v4 w =>
 kU P (Instr.storeAt 24 v4 v12) w fun _ w =>
 kV P (Instr.loadAt 24 v4) w fun v14 w =>
 kN P (callN (.func (.func 15) #[] #[]) #[v14]) w fun v15 w =>
 kV P (Instr.extract v15 0) w fun v16 w =>
 kV P (Instr.extract v15 1) w fun v17 w =>
 kV P (Instr.alloc 28 true (.tuple #[])) w fun v5 w =>
 kU P (Instr.storeAt 28 v5 v16) w fun _ w =>
 kN P (nilN t0) w fun v19 w =>
 kV P (Instr.fieldAt 91 v19 3) w fun v20 w =>
 kV P (Instr.fieldAt 49 v20 0) w fun v21 w =>
 kV P (Instr.loadAt 3 v21) w fun v22 w =>
 kV P (binV .eql 3 (.tmp 22) (.const (.int .i64 52)) v22 (.int .i64 52)) w fun v24 w =>
 condK v24
 (drewK (fun w =>
 pV P (Instr.fieldAt 24 v4 2) fun v26 =>
 pN P (nilN t0) fun v29 =>
 pV P (Instr.fieldAt 91 v29 5) fun v30 =>
 pV P (Instr.fieldAt 24 v30 2) fun v31 =>
 (kV P (Instr.loadAt 22 v26) w fun v27 w =>
 kV P (Instr.loadAt 22 v31) w fun v32 w =>
 pV P (binV .sub 22 (.tmp 27) (.tmp 32) v27 v32) fun v33 =>
 kN P (callN (.func (.func 77) #[] #[]) #[t0, v33]) w fun v34 w =>
 pV P (Instr.extract v34 0) fun v35 =>
 pV P (Instr.extract v34 1) fun v36 =>
 kU P (Instr.storeAt 42 v2 v35) w fun _ w =>
 kU P (Instr.storeAt 51 v3 v36) w fun _ w =>
 retV P 42 v2 w fun r0 =>
 retV P 51 v3 w fun r1 =>
 K (.tuple #[r0, r1]) w) /\
 (kV P (Instr.loadAt 22 v31) w fun v32_1 w =>
 kV P (Instr.loadAt 22 v26) w fun v27_1 w =>
 pV P (binV .sub 22 (.tmp 27) (.tmp 32) v27_1 v32_1) fun v33_1 =>
 kN P (callN (.func (.func 77) #[] #[]) #[t0, v33_1]) w fun v34_1 w =>
 pV P (Instr.extract v34_1 0) fun v35_1 =>
 pV P (Instr.extract v34_1 1) fun v36_1 =>
 kU P (Instr.storeAt 42 v2 v35_1) w fun _ w =>
 kU P (Instr.storeAt 51 v3 v36_1) w fun _ w =>
 retV P 42 v2 w fun r2 =>
 retV P 51 v3 w fun r3 =>
 K (.tuple #[r2, r3]) w)) w)
 (kV P (binV .eql 3 (.tmp 22) (.const (.int .i64 54)) v22 (.int .i64 54)) w fun v38 w =>
 condK v38
 (drewK (fun w =>
 pN P (nilN t0) fun v41 =>
 pV P (Instr.fieldAt 91 v41 5) fun v42 =>
 (kV P (Instr.loadAt 24 v42) w fun v43 w =>
 kV P (Instr.loadAt 24 v4) w fun v44 w =>
 kN P (callN (.func (.func 118) #[] #[]) #[v43, v44]) w fun v45 w =>
 kN P (callN (.func (.func 117) #[] #[]) #[t0, v45]) w fun v46 w =>
 pV P (Instr.extract v46 0) fun v47 =>
 pV P (Instr.extract v46 1) fun v48 =>
 kU P (Instr.storeAt 42 v2 v47) w fun _ w =>
 kU P (Instr.storeAt 51 v3 v48) w fun _ w =>
 retV P 42 v2 w fun r4 =>
 retV P 51 v3 w fun r5 =>
 K (.tuple #[r4, r5]) w) /\
 (kV P (Instr.loadAt 24 v4) w fun v44_1 w =>
 kV P (Instr.loadAt 24 v42) w fun v43_1 w =>
 kN P (callN (.func (.func 118) #[] #[]) #[v43_1, v44_1]) w fun v45_1 w =>
 kN P (callN (.func (.func 117) #[] #[]) #[t0, v45_1]) w fun v46_1 w =>
 pV P (Instr.extract v46_1 0) fun v47_1 =>
 pV P (Instr.extract v46_1 1) fun v48_1 =>
 kU P (Instr.storeAt 42 v2 v47_1) w fun _ w =>
 kU P (Instr.storeAt 51 v3 v48_1) w fun _ w =>
 retV P 42 v2 w fun r6 =>
 retV P 51 v3 w fun r7 =>
 K (.tuple #[r6, r7]) w)) w)
 (kV P (binV .eql 3 (.tmp 22) (.const (.int .i64 55)) v22 (.int .i64 55)) w fun v50 w =>
 condK v50
 (drewK (fun w =>
 pN P (nilN t0) fun v54 =>
 pV P (Instr.fieldAt 91 v54 5) fun v55 =>
 (kV P (Instr.loadAt 24 v4) w fun v52 w =>
 kV P (Instr.loadAt 24 v55) w fun v56 w =>
 pV P (binV .eql 24 (.tmp 52) (.tmp 56) v52 v56) fun v57 =>
 kN P (callN (.func (.func 117) #[] #[]) #[t0, v57]) w fun v58 w =>
 pV P (Instr.extract v58 0) fun v59 =>
 pV P (Instr.extract v58 1) fun v60 =>
 kU P (Instr.storeAt 42 v2 v59) w fun _ w =>
 kU P (Instr.storeAt 51 v3 v60) w fun _ w =>
 retV P 42 v2 w fun r8 =>
 retV P 51 v3 w fun r9 =>
 K (.tuple #[r8, r9]) w) /\
 (kV P (Instr.loadAt 24 v55) w fun v56_1 w =>
 kV P (Instr.loadAt 24 v4) w fun v52_1 w =>
 pV P (binV .eql 24 (.tmp 52) (.tmp 56) v52_1 v56_1) fun v57_1 =>
 kN P (callN (.func (.func 117) #[] #[]) #[t0, v57_1]) w fun v58_1 w =>
 pV P (Instr.extract v58_1 0) fun v59_1 =>
 pV P (Instr.extract v58_1 1) fun v60_1 =>
 kU P (Instr.storeAt 42 v2 v59_1) w fun _ w =>
 kU P (Instr.storeAt 51 v3 v60_1) w fun _ w =>
 retV P 42 v2 w fun r10 =>
 retV P 51 v3 w fun r11 =>
 K (.tuple #[r10, r11]) w)) w)
 (kV P (binV .eql 3 (.tmp 22) (.const (.int .i64 56)) v22 (.int .i64 56)) w fun v62 w =>
 condK v62
 (kV P (Instr.fieldAt 28 v5 1) w fun v64 w =>
 kV P (Instr.loadAt 22 v64) w fun v65 w =>
 kN P (callN (.func (.func 77) #[] #[]) #[t0, v65]) w fun v66 w =>
 kV P (Instr.extract v66 0) w fun v67 w =>
 kV P (Instr.extract v66 1) w fun v68 w =>
 kU P (Instr.storeAt 42 v2 v67) w fun _ w =>
 kU P (Instr.storeAt 51 v3 v68) w fun _ w =>
 retV P 42 v2 w fun r12 =>
 retV P 51 v3 w fun r13 =>
 K (.tuple #[r12, r13]) w)
 (kV P (binV .eql 3 (.tmp 22) (.const (.int .i64 57)) v22 (.int .i64 57)) w fun v70 w =>
 condK v70
 (kV P (Instr.fieldAt 28 v5 2) w fun v72 w =>
 kV P (Instr.loadAt 22 v72) w fun v73 w =>
 kN P (callN (.func (.func 77) #[] #[]) #[t0, v73]) w fun v74 w =>
 kV P (Instr.extract v74 0) w fun v75 w =>
 kV P (Instr.extract v74 1) w fun v76 w =>
 kU P (Instr.storeAt 42 v2 v75) w fun _ w =>
 kU P (Instr.storeAt 51 v3 v76) w fun _ w =>
 retV P 42 v2 w fun r14 =>
 retV P 51 v3 w fun r15 =>
 K (.tuple #[r14, r15]) w)
 (kV P (binV .eql 3 (.tmp 22) (.const (.int .i64 58)) v22 (.int .i64 58)) w fun v78 w =>
 condK v78
 (kV P (Instr.loadAt 24 v4) w fun v80 w =>
 kN P (callN (.func (.func 119) #[] #[]) #[v80]) w fun v81 w =>
 kN P (callN (.func (.func 77) #[] #[]) #[t0, v81]) w fun v82 w =>
 kV P (Instr.extract v82 0) w fun v83 w =>
 kV P (Instr.extract v82 1) w fun v84 w =>
 kU P (Instr.storeAt 42 v2 v83) w fun _ w =>
 kU P (Instr.storeAt 51 v3 v84) w fun _ w =>
 retV P 42 v2 w fun r16 =>
 retV P 51 v3 w fun r17 =>
 K (.tuple #[r16, r17]) w)
 (kV P (binV .eql 3 (.tmp 22) (.const (.int .i64 59)) v22 (.int .i64 59)) w fun v86 w =>
 condK v86
 (kV P (Instr.loadAt 24 v4) w fun v88 w =>
 kN P (callN (.func (.func 120) #[] #[]) #[v88]) w fun v89 w =>
 kN P (callN (.func (.func 77) #[] #[]) #[t0, v89]) w fun v90 w =>
 kV P (Instr.extract v90 0) w fun v91 w =>
 kV P (Instr.extract v90 1) w fun v92 w =>
 kU P (Instr.storeAt 42 v2 v91) w fun _ w =>
 kU P (Instr.storeAt 51 v3 v92) w fun _ w =>
 retV P 42 v2 w fun r18 =>
 retV P 51 v3 w fun r19 =>
 K (.tuple #[r18, r19]) w)
 (kV P (binV .eql 3 (.tmp 22) (.const (.int .i64 60)) v22 (.int .i64 60)) w fun v94 w =>
 condK v94
 (kV P (Instr.fieldAt 24 v4 0) w fun v96 w =>
 kV P (Instr.loadAt 4 v96) w fun v97 w =>
 kN P (callN (.func (.func 117) #[] #[]) #[t0, v97]) w fun v98 w =>
 kV P (Instr.extract v98 0) w fun v99 w =>
 kV P (Instr.extract v98 1) w fun v100 w =>
 kU P (Instr.storeAt 42 v2 v99) w fun _ w =>
 kU P (Instr.storeAt 51 v3 v100) w fun _ w =>
 retV P 42 v2 w fun r20 =>
 retV P 51 v3 w fun r21 =>
 K (.tuple #[r20, r21]) w)
 (kV P (binV .eql 3 (.tmp 22) (.const (.int .i64 61)) v22 (.int .i64 61)) w fun v102 w =>
 condK v102
 (kV P (Instr.loadAt 24 v4) w fun v104 w =>
 kN P (callN (.func (.func 121) #[] #[]) #[v104]) w fun v105 w =>
 kN P (callN (.func (.func 77) #[] #[]) #[t0, v105]) w fun v106 w =>
 kV P (Instr.extract v106 0) w fun v107 w =>
 kV P (Instr.extract v106 1) w fun v108 w =>
 kU P (Instr.storeAt 42 v2 v107) w fun _ w =>
 kU P (Instr.storeAt 51 v3 v108) w fun _ w =>
 retV P 42 v2 w fun r22 =>
 retV P 51 v3 w fun r23 =>
 K (.tuple #[r22, r23]) w)
 (kV P (binV .eql 3 (.tmp 22) (.const (.int .i64 62)) v22 (.int .i64 62)) w fun v110 w =>
 condK v110
 (kV P (Instr.fieldAt 24 v4 2) w fun v112 w =>
 kV P (Instr.loadAt 22 v112) w fun v113 w =>
 kN P (callN (.func (.func 122) #[] #[]) #[v113]) w fun v114 w =>
 kV P (Instr.extract v114 0) w fun v115 w =>
 kV P (Instr.extract v114 1) w fun v116 w =>
 kN P (callN (.func (.func 77) #[] #[]) #[t0, v115]) w fun v119 w =>
 kV P (Instr.extract v119 0) w fun v120 w =>
 kV P (Instr.extract v119 1) w fun v121 w =>
 kU P (Instr.storeAt 42 v2 v120) w fun _ w =>
 kU P (Instr.storeAt 51 v3 v121) w fun _ w =>
 retV P 42 v2 w fun r24 =>
 retV P 51 v3 w fun r25 =>
 K (.tuple #[r24, r25]) w)
 (kV P (binV .eql 3 (.tmp 22) (.const (.int .i64 63)) v22 (.int .i64 63)) w fun v123 w =>
 condK v123
 (kV P (Instr.fieldAt 24 v4 2) w fun v125 w =>
 kV P (Instr.loadAt 22 v125) w fun v126 w =>
 kN P (callN (.func (.func 123) #[] #[]) #[v126]) w fun v127 w =>
 kN P (callN (.func (.func 77) #[] #[]) #[t0, v127]) w fun v128 w =>
 kV P (Instr.extract v128 0) w fun v129 w =>
 kV P (Instr.extract v128 1) w fun v130 w =>
 kU P (Instr.storeAt 42 v2 v129) w fun _ w =>
 kU P (Instr.storeAt 51 v3 v130) w fun _ w =>
 retV P 42 v2 w fun r26 =>
 retV P 51 v3 w fun r27 =>
 K (.tuple #[r26, r27]) w)
 (kV P (Instr.fieldAt 24 v4 2) w fun v132 w =>
 kV P (Instr.loadAt 22 v132) w fun v133 w =>
 kN P (callN (.func (.func 77) #[] #[]) #[t0, v133]) w fun v134 w =>
 kV P (Instr.extract v134 0) w fun v135 w =>
 kV P (Instr.extract v134 1) w fun v136 w =>
 kU P (Instr.storeAt 42 v2 v135) w fun _ w =>
 kU P (Instr.storeAt 51 v3 v136) w fun _ w =>
 retV P 42 v2 w fun r28 =>
 retV P 51 v3 w fun r29 =>
 K (.tuple #[r28, r29]) w)))))))))))
theorem G108_eq (t0 : Value) : funE P ⟨[(9, 999), (7, 999), (5, 999)], [], []⟩ Tryz.f108 [t0] w K = G108 P w K t0 := by kernel_rfl
theorem G108_ok (t0 : Value) (h : G108 Tryz.prog w K t0) : callsK Tryz.prog 108 #[t0] w K := calls_of_eq mixedN Tryz.func108 (G108_eq _ w K t0) h
end
open Go.Fx
set_option maxRecDepth 100000
theorem cq_0 (c : Cq) : (cq c)[0]? = some (.bool c.t) := rfl
theorem cq_eqlZ (x y : Cq) (p q : Operand) (w : World) : (binV .eql 24 p q (.agg (cq x).toArray) (.agg (cq y).toArray)).run Tryz.prog w = .ok (.bool ((x.t == y.t) && (((x.m : Int) == y.m) && (((x.a : Int) == y.a) && true)))) w := RX_eql_24 x.t y.t x.m y.m x.a y.a p q w
theorem truthZ_spec {w : World} {q : Nat} {b : Bool} {r : Rz} (hr : w.heap[q]? = some (.cells (rzC r).toArray 91 (0, 0))) (hrd : r.i.rd < 9223372036854775808) {K : Value -> World -> Prop} (hK : ∀ (n : Nat) w', Ext [q] w w' -> K (.tuple #[.agg (cxC (withX r.c r.i.rd ⟨false, 0, n⟩)).toArray, .agg (ozC 0 0 0 r.i).toArray]) w') : callsK Tryz.prog 117 #[.pointer (some ⟨q, 0, none⟩), .bool b] w K := by
 apply F117_ok
 unfold F117
 have l0 := lt_of_at hr
 have hx0 := two_x w
 have g1 := two_1 w
 have g2 := two_2 w
 have g0 := hx0.at hr (by simp)
 cases b with
 | true =>
  simp (disch := first | exact qD20 | fail) only [qG4, zeroX_cells]
  refine numZ_spec (n := 1) g0 hrd fun w2 hx2 => ?_
  have n1 := hx2.at g1 (by simp; omega)
  have n2 := hx2.at g2 (by simp; omega)
  have ln1 := lt_of_at n1
  have ln2 := lt_of_at n2
  have hxc : Ext [q] w w2 := (hx0.mono (by simp)).step hx2
  simp (disch := first | exact qD20 | fail) only [qG4, n1, n2, cx_over, cx_put, oz_over, oz_put, cx_sub, oz_sub]
  exact hK 1 _ qX
 | false =>
  simp (disch := first | exact qD20 | fail) only [qG4, zeroX_cells]
  refine numZ_spec (n := 0) g0 hrd fun w2 hx2 => ?_
  have n1 := hx2.at g1 (by simp; omega)
  have n2 := hx2.at g2 (by simp; omega)
  have ln1 := lt_of_at n1
  have ln2 := lt_of_at n2
  have hxc : Ext [q] w w2 := (hx0.mono (by simp)).step hx2
  simp (disch := first | exact qD20 | fail) only [qG4, n1, n2, cx_over, cx_put, oz_over, oz_put, cx_sub, oz_sub]
  exact hK 0 _ qX
set_option maxHeartbeats 1000000 in
theorem askedZ_spec {w : World} {q : Nat} {r : Rz} (hr : w.heap[q]? = some (.cells (rzC r).toArray 91 (0, 0))) (hrd : r.i.rd < 9223372036854775808) (ha : Okq r.a) (hb : Okq r.b) {K : Value -> World -> Prop} (hK : ∀ (n : Nat) w', Ext [q] w w' -> K (.tuple #[.agg (cxC (withX r.c r.i.rd ⟨false, 0, n⟩)).toArray, .agg (ozC 0 0 0 r.i).toArray]) w') : callsK Tryz.prog 108 #[.pointer (some ⟨q, 0, none⟩)] w K := by
 apply G108_ok
 unfold G108
 have l0 := lt_of_at hr
 have hx0 := two_x w
 have g1 := two_1 w
 have g2 := two_2 w
 have g0 := hx0.at hr (by simp)
 have era := rz_a r
 simp (disch := first | exact qD20 | fail) only [qG4, zeroX_cells, hr, era, cq_over0, cq_put, cq_sub]
 have hx1 : Ext [] ((w.alloc (.cells (cxC zeroX).toArray 42)).alloc (.cells [.int .i64 0, .int .i64 0, .int .u64 0, .int .i64 0, .int .i64 0, .int .i64 0, .int .i64 0, .int .i64 0].toArray 51)) (((w.alloc (.cells (cxC zeroX).toArray 42)).alloc (.cells [.int .i64 0, .int .i64 0, .int .u64 0, .int .i64 0, .int .i64 0, .int .i64 0, .int .i64 0, .int .i64 0].toArray 51)).alloc (.cells (cq r.a).toArray 24)) := qX
 have g3 : (((w.alloc (.cells (cxC zeroX).toArray 42)).alloc (.cells [.int .i64 0, .int .i64 0, .int .u64 0, .int .i64 0, .int .i64 0, .int .i64 0, .int .i64 0, .int .i64 0].toArray 51)).alloc (.cells (cq r.a).toArray 24)).heap[w.heap.size + 2]? = some (.cells (cq r.a).toArray 24 (0, 0)) := alloc_at (by simp only [szR])
 replace g0 := hx1.at g0 (by simp)
 replace g1 := hx1.at g1 (by simp)
 replace g2 := hx1.at g2 (by simp)
 replace hx0 := hx0.trans hx1 (by simp)
 clear hx1
 generalize (((w.alloc (.cells (cxC zeroX).toArray 42)).alloc (.cells [.int .i64 0, .int .i64 0, .int .u64 0, .int .i64 0, .int .i64 0, .int .i64 0, .int .i64 0, .int .i64 0].toArray 51)).alloc (.cells (cq r.a).toArray 24)) = w1 at *
 refine lookq_spec ha fun w2 hx1 => ?_
 replace g0 := hx1.at g0 (by simp)
 replace g1 := hx1.at g1 (by simp)
 replace g2 := hx1.at g2 (by simp)
 replace g3 := hx1.at g3 (by simp)
 replace hx0 := hx0.trans hx1 (by simp)
 clear hx1
 have eop := rz_op r
 have lg0 := lt_of_at g0
 have lg2 := lt_of_at g2
 have lg3 := lt_of_at g3
 simp (disch := first | exact qD20 | fail) only [qG4, vw_over, vw_over2, g0, eop]
 have hx1 : Ext [] w2 (w2.alloc (.cells (vwC r.a.m r.a.a).toArray 28)) := qX
 have g4 : (w2.alloc (.cells (vwC r.a.m r.a.a).toArray 28)).heap[w2.heap.size]? = some (.cells (vwC r.a.m r.a.a).toArray 28 (0, 0)) := alloc_at rfl
 replace g0 := hx1.at g0 (by simp)
 replace g1 := hx1.at g1 (by simp)
 replace g2 := hx1.at g2 (by simp)
 replace g3 := hx1.at g3 (by simp)
 replace hx0 := hx0.trans hx1 (by simp)
 have hfin : ∀ w9, Ext [q] (w2.alloc (.cells (vwC r.a.m r.a.a).toArray 28)) w9 -> w9.heap[w.heap.size]? = some (.cells (cxC zeroX).toArray 42 (0, 0)) /\ w9.heap[w.heap.size + 1]? = some (.cells [.int .i64 0, .int .i64 0, .int .u64 0, .int .i64 0, .int .i64 0, .int .i64 0, .int .i64 0, .int .i64 0].toArray 51 (0, 0)) /\ Ext [q] w w9 := fun w9 hx => ⟨hx.at g1 (by simp; omega), hx.at g2 (by simp; omega), (hx0.mono (by simp)).step hx⟩
 have eba := rz_ba r
 have ebb := rz_b r
 have hfd : Ext [] (w2.alloc (.cells (vwC r.a.m r.a.a).toArray 28)) (w2.alloc (.cells (vwC r.a.m r.a.a).toArray 28)).drew := qX
 obtain ⟨sb, hsb, hsl⟩ := natOf (wrapU ((r.a.a : Int) - r.b.a))
 by_cases h52 : ((r.i.op : Nat) : Int) = 52
 ·simp (disch := first | exact qD20 | fail) only [qG4, Nat.reduceAdd, h52, g0, g3, g4, lg3, cq_2, cq_sub, eba, ebb, hsb, and_self, vq_2, vq_3, cq_0, cq_eqlZ]
  refine numZ_spec (n := sb) (hfd.at g0 (by simp)) hrd fun w9 hx9 => ?_
  have n1 := (hfin w9 ((hfd.mono (by simp)).step hx9)).1
  have n2 := (hfin w9 ((hfd.mono (by simp)).step hx9)).2.1
  have hxc := (hfin w9 ((hfd.mono (by simp)).step hx9)).2.2
  have ln1 := lt_of_at n1
  have ln2 := lt_of_at n2
  simp (disch := first | exact qD20 | fail) only [qG4, n1, n2, cx_over, cx_put, oz_over, oz_put, cx_sub, oz_sub]
  exact hK _ _ qX
 by_cases h54 : ((r.i.op : Nat) : Int) = 54
 ·simp (disch := first | exact qD20 | fail) only [qG4, h52, h54, g0, g3, g4, lg3, cq_2, cq_sub, eba, ebb, hsb, and_self, vq_2, vq_3, cq_0, cq_eqlZ]
  refine UnderG_spec hb ha fun o w8 hx8 => ?_
  have hx7 := hfd.trans hx8 (by simp)
  simp (disch := first | exact qD20 | fail) only [qG4]
  refine truthZ_spec (hx7.at g0 (by simp)) hrd fun n w9 hx9 => ?_
  have n1 := (hfin w9 ((hx7.mono (by simp)).step hx9)).1
  have n2 := (hfin w9 ((hx7.mono (by simp)).step hx9)).2.1
  have hxc := (hfin w9 ((hx7.mono (by simp)).step hx9)).2.2
  have ln1 := lt_of_at n1
  have ln2 := lt_of_at n2
  simp (disch := first | exact qD20 | fail) only [qG4, n1, n2, cx_over, cx_put, oz_over, oz_put, cx_sub, oz_sub]
  exact hK _ _ qX
 by_cases h55 : ((r.i.op : Nat) : Int) = 55
 ·simp (disch := first | exact qD20 | fail) only [qG4, h52, h54, h55, g0, g3, g4, lg3, cq_2, cq_sub, eba, ebb, hsb, and_self, vq_2, vq_3, cq_0, cq_eqlZ]
  refine truthZ_spec (hfd.at g0 (by simp)) hrd fun n w9 hx9 => ?_
  have n1 := (hfin w9 ((hfd.mono (by simp)).step hx9)).1
  have n2 := (hfin w9 ((hfd.mono (by simp)).step hx9)).2.1
  have hxc := (hfin w9 ((hfd.mono (by simp)).step hx9)).2.2
  have ln1 := lt_of_at n1
  have ln2 := lt_of_at n2
  simp (disch := first | exact qD20 | fail) only [qG4, n1, n2, cx_over, cx_put, oz_over, oz_put, cx_sub, oz_sub]
  exact hK _ _ qX
 by_cases h56 : ((r.i.op : Nat) : Int) = 56
 ·simp (disch := first | exact qD20 | fail) only [qG4, h52, h54, h55, h56, g0, g3, g4, lg3, cq_2, cq_sub, eba, ebb, hsb, and_self, vq_2, vq_3, cq_0, cq_eqlZ]
  obtain ⟨nz, hnz⟩ : ∃ nz, r.a.m / 4294967296 % 512 = nz := ⟨_, rfl⟩
  rw [hnz]
  refine numZ_spec (n := nz) g0 hrd fun w9 hx9 => ?_
  have n1 := (hfin w9 hx9).1
  have n2 := (hfin w9 hx9).2.1
  have hxc := (hfin w9 hx9).2.2
  have ln1 := lt_of_at n1
  have ln2 := lt_of_at n2
  simp (disch := first | exact qD20 | fail) only [qG4, n1, n2, cx_over, cx_put, oz_over, oz_put, cx_sub, oz_sub]
  exact hK _ _ qX
 by_cases h57 : ((r.i.op : Nat) : Int) = 57
 ·simp (disch := first | exact qD20 | fail) only [qG4, h52, h54, h55, h56, h57, g0, g3, g4, lg3, cq_2, cq_sub, eba, ebb, hsb, and_self, vq_2, vq_3, cq_0, cq_eqlZ]
  obtain ⟨nz, hnz⟩ : ∃ nz, r.a.m / 281474976710656 % 4096 = nz := ⟨_, rfl⟩
  rw [hnz]
  refine numZ_spec (n := nz) g0 hrd fun w9 hx9 => ?_
  have n1 := (hfin w9 hx9).1
  have n2 := (hfin w9 hx9).2.1
  have hxc := (hfin w9 hx9).2.2
  have ln1 := lt_of_at n1
  have ln2 := lt_of_at n2
  simp (disch := first | exact qD20 | fail) only [qG4, n1, n2, cx_over, cx_put, oz_over, oz_put, cx_sub, oz_sub]
  exact hK _ _ qX
 by_cases h58 : ((r.i.op : Nat) : Int) = 58
 ·simp (disch := first | exact qD20 | fail) only [qG4, h52, h54, h55, h56, h57, h58, g0, g3, g4, lg3, cq_2, cq_sub, eba, ebb, hsb, and_self, vq_2, vq_3, cq_0, cq_eqlZ]
  refine BaseG_spec ha fun n w8 hx8 => ?_
  simp (disch := first | exact qD20 | fail) only [qG4]
  refine numZ_spec (n := n) (hx8.at g0 (by simp)) hrd fun w9 hx9 => ?_
  have n1 := (hfin w9 ((hx8.mono (by simp)).step hx9)).1
  have n2 := (hfin w9 ((hx8.mono (by simp)).step hx9)).2.1
  have hxc := (hfin w9 ((hx8.mono (by simp)).step hx9)).2.2
  have ln1 := lt_of_at n1
  have ln2 := lt_of_at n2
  simp (disch := first | exact qD20 | fail) only [qG4, n1, n2, cx_over, cx_put, oz_over, oz_put, cx_sub, oz_sub]
  exact hK _ _ qX
 by_cases h59 : ((r.i.op : Nat) : Int) = 59
 ·simp (disch := first | exact qD20 | fail) only [qG4, h52, h54, h55, h56, h57, h58, h59, g0, g3, g4, lg3, cq_2, cq_sub, eba, ebb, hsb, and_self, vq_2, vq_3, cq_0, cq_eqlZ]
  refine LengthG_spec ha fun n w8 hx8 => ?_
  simp (disch := first | exact qD20 | fail) only [qG4]
  refine numZ_spec (n := n) (hx8.at g0 (by simp)) hrd fun w9 hx9 => ?_
  have n1 := (hfin w9 ((hx8.mono (by simp)).step hx9)).1
  have n2 := (hfin w9 ((hx8.mono (by simp)).step hx9)).2.1
  have hxc := (hfin w9 ((hx8.mono (by simp)).step hx9)).2.2
  have ln1 := lt_of_at n1
  have ln2 := lt_of_at n2
  simp (disch := first | exact qD20 | fail) only [qG4, n1, n2, cx_over, cx_put, oz_over, oz_put, cx_sub, oz_sub]
  exact hK _ _ qX
 by_cases h60 : ((r.i.op : Nat) : Int) = 60
 ·simp (disch := first | exact qD20 | fail) only [qG4, h52, h54, h55, h56, h57, h58, h59, h60, g0, g3, g4, lg3, cq_2, cq_sub, eba, ebb, hsb, and_self, vq_2, vq_3, cq_0, cq_eqlZ]
  refine truthZ_spec g0 hrd fun n w9 hx9 => ?_
  have n1 := (hfin w9 hx9).1
  have n2 := (hfin w9 hx9).2.1
  have hxc := (hfin w9 hx9).2.2
  have ln1 := lt_of_at n1
  have ln2 := lt_of_at n2
  simp (disch := first | exact qD20 | fail) only [qG4, n1, n2, cx_over, cx_put, oz_over, oz_put, cx_sub, oz_sub]
  exact hK _ _ qX
 by_cases h61 : ((r.i.op : Nat) : Int) = 61
 ·simp (disch := first | exact qD20 | fail) only [qG4, h52, h54, h55, h56, h57, h58, h59, h60, h61, g0, g3, g4, lg3, cq_2, cq_sub, eba, ebb, hsb, and_self, vq_2, vq_3, cq_0, cq_eqlZ]
  refine OffsetG_spec ha fun n w8 hx8 => ?_
  simp (disch := first | exact qD20 | fail) only [qG4]
  refine numZ_spec (n := n) (hx8.at g0 (by simp)) hrd fun w9 hx9 => ?_
  have n1 := (hfin w9 ((hx8.mono (by simp)).step hx9)).1
  have n2 := (hfin w9 ((hx8.mono (by simp)).step hx9)).2.1
  have hxc := (hfin w9 ((hx8.mono (by simp)).step hx9)).2.2
  have ln1 := lt_of_at n1
  have ln2 := lt_of_at n2
  simp (disch := first | exact qD20 | fail) only [qG4, n1, n2, cx_over, cx_put, oz_over, oz_put, cx_sub, oz_sub]
  exact hK _ _ qX
 by_cases h62 : ((r.i.op : Nat) : Int) = 62
 ·simp (disch := first | exact qD20 | fail) only [qG4, h52, h54, h55, h56, h57, h58, h59, h60, h61, h62, g0, g3, g4, lg3, cq_2, cq_sub, eba, ebb, hsb, and_self, vq_2, vq_3, cq_0, cq_eqlZ]
  refine lengthG_spec ha.2 fun n o w8 hn hx8 => ?_
  simp (disch := first | exact qD20 | fail) only [qG4]
  refine numZ_spec (n := n) (hx8.at g0 (by simp)) hrd fun w9 hx9 => ?_
  have n1 := (hfin w9 ((hx8.mono (by simp)).step hx9)).1
  have n2 := (hfin w9 ((hx8.mono (by simp)).step hx9)).2.1
  have hxc := (hfin w9 ((hx8.mono (by simp)).step hx9)).2.2
  have ln1 := lt_of_at n1
  have ln2 := lt_of_at n2
  simp (disch := first | exact qD20 | fail) only [qG4, n1, n2, cx_over, cx_put, oz_over, oz_put, cx_sub, oz_sub]
  exact hK _ _ qX
 by_cases h63 : ((r.i.op : Nat) : Int) = 63
 ·simp (disch := first | exact qD20 | fail) only [qG4, h52, h54, h55, h56, h57, h58, h59, h60, h61, h62, h63, g0, g3, g4, lg3, cq_2, cq_sub, eba, ebb, hsb, and_self, vq_2, vq_3, cq_0, cq_eqlZ]
  refine alignedG_spec ha.2 fun n w8 hn hx8 => ?_
  simp (disch := first | exact qD20 | fail) only [qG4]
  refine numZ_spec (n := n) (hx8.at g0 (by simp)) hrd fun w9 hx9 => ?_
  have n1 := (hfin w9 ((hx8.mono (by simp)).step hx9)).1
  have n2 := (hfin w9 ((hx8.mono (by simp)).step hx9)).2.1
  have hxc := (hfin w9 ((hx8.mono (by simp)).step hx9)).2.2
  have ln1 := lt_of_at n1
  have ln2 := lt_of_at n2
  simp (disch := first | exact qD20 | fail) only [qG4, n1, n2, cx_over, cx_put, oz_over, oz_put, cx_sub, oz_sub]
  exact hK _ _ qX
 simp (disch := first | exact qD20 | fail) only [qG4, h52, h54, h55, h56, h57, h58, h59, h60, h61, h62, h63, g0, g3, g4, lg3, cq_2, cq_sub, eba, ebb, hsb, and_self, vq_2, vq_3, cq_0, cq_eqlZ]
 refine numZ_spec (n := r.a.a) g0 hrd fun w9 hx9 => ?_
 have n1 := (hfin w9 hx9).1
 have n2 := (hfin w9 hx9).2.1
 have hxc := (hfin w9 hx9).2.2
 have ln1 := lt_of_at n1
 have ln2 := lt_of_at n2
 simp (disch := first | exact qD20 | fail) only [qG4, n1, n2, cx_over, cx_put, oz_over, oz_put, cx_sub, oz_sub]
 exact hK _ _ qX
open Go.Fx
set_option maxRecDepth 100000
/-- what tells a number. -/
def numOp (k : Nat) : Prop := k = 1 ∨ (22 <= k /\ k <= 40) ∨ (11 <= k /\ k <= 17) ∨ k = 52 ∨ (54 <= k /\ k <= 63) ∨ k = 66
/-- .. where new blocks of capabilities stay such. -/
structure ExtC (n : Nat) (w w' : World) : Prop where
 os : w'.os = w.os
 tape : w'.tape = w.tape
 output : w'.output = w.output
 size : w.heap.size <= w'.heap.size
 kept : ∀ k, k < n -> k < w.heap.size -> w'.heap[k]? = w.heap[k]?
 caps : ∀ k x, n <= k -> Okq x -> w.heap[k]? = some (.cells (cq x).toArray 24 (0, 0)) -> ∃ y, Okq y /\ w'.heap[k]? = some (.cells (cq y).toArray 24 (0, 0))
theorem ExtC.refl {n : Nat} {w : World} : ExtC n w w := ⟨rfl, rfl, rfl, Nat.le_refl _, fun _ _ _ => rfl, fun k x _ hx h => ⟨x, hx, h⟩⟩
theorem ExtC.step {n : Nat} {a b c : World} (h1 : ExtC n a b) (h2 : ExtC n b c) : ExtC n a c :=
 ⟨h2.os.trans h1.os, h2.tape.trans h1.tape, h2.output.trans h1.output, Nat.le_trans h1.size h2.size, fun k hn hk => (h2.kept k hn (Nat.lt_of_lt_of_le hk h1.size)).trans (h1.kept k hn hk), fun k x hn hx h => by
  obtain ⟨y, hy, e⟩ := h1.caps k x hn hx h
  exact h2.caps k y hn hy e⟩
theorem ExtC.ext {w w' : World} (h : ExtC w.heap.size w w') : Ext [] w w' := ⟨h.os, h.tape, h.output, h.size, fun k hk _ => h.kept k hk hk⟩
theorem ExtC.of {n : Nat} {w w' : World} (h : Ext [] w w') : ExtC n w w' := ⟨h.os, h.tape, h.output, h.size, fun k _ hk => h.kept k hk (by simp), fun k x _ hx e => ⟨x, hx, h.at e (by simp)⟩⟩
theorem ExtC.at {w w' : World} {k : Nat} {o : Obj} (h : ExtC w.heap.size w w') (e : w.heap[k]? = some o) (_ : True) : w'.heap[k]? = some o := h.ext.at e (by simp)
theorem ExtC.put {n b : Nat} {w : World} {x y : Cq} (hn : n <= b) (hy : Okq y) (e : w.heap[b]? = some (.cells (cq x).toArray 24 (0, 0))) : ExtC n w (World.upd w b (cq y)) := by
 have hx : Ext [b] w (World.upd w b (cq y)) := Ext.updI (by simp) Ext.refl
 refine ⟨hx.os, hx.tape, hx.output, hx.size, fun k hk hl => hx.kept k hl (by simp; omega), fun k z hk hz h => ?_⟩
 by_cases he : k = b
 ·subst he
  exact ⟨y, hy, upd_at e⟩
 ·exact ⟨z, hz, (upd_ne he).trans h⟩
theorem relX.extC (n : Nat) {G : (World -> World -> Prop) -> Prop} (h : G (ExtC n)) : relX G := ⟨ExtC n, fun _ => ExtC.refl, fun _ _ _ h1 h2 => h1.step h2, fun _ _ h => h.size, h⟩
theorem okC.is {n : Nat} {w : World} {v : Value} : okX (ExtC n) w (fun u _ => u = v) v w := ⟨ExtC.refl, rfl⟩
/-- a variable that holds a capability, made since. -/
def capAt (n : Nat) (v : Value) (w : World) : Prop := ∃ b x, n <= b /\ Okq x /\ v = .pointer (some ⟨b, 0, none⟩) /\ w.heap[b]? = some (.cells (cq x).toArray 24 (0, 0))
theorem capAt.step {n : Nat} {v : Value} {w w' : World} (hR : ExtC n w w') (h : capAt n v w) : capAt n v w' := by
 obtain ⟨b, x, hb, hx, hv, e⟩ := h
 obtain ⟨y, hy, e2⟩ := hR.caps b x hb hx e
 exact ⟨b, y, hb, hy, hv, e2⟩
theorem cq_put3 (d u : Cq) : cq d ++ List.drop (cq d).length (cq u) = cq d := by simp [cq, cpC]
theorem capAt.put {n : Nat} {v : Value} {w : World} {y : Cq} (h : capAt n v w) (hy : Okq y) : kU Tryz.prog (Instr.storeAt 24 v (.agg (cq y).toArray)) w (okX (ExtC n) w fun _ => capAt n v) := by
 obtain ⟨b, x, hb, hx, rfl, e⟩ := h
 have l := lt_of_at e
 simp (disch := first | exact qD20 | fail) only [qG4, e, cq_over, cq_put3]
 exact okX.mk (ExtC.put hb hy e) ⟨b, y, hb, hy, rfl, upd_at e⟩
set_option maxHeartbeats 1000000 in
theorem capZ_spec {w : World} {q : Nat} {r : Rz} (hr : w.heap[q]? = some (.cells (rzC r).toArray 91 (0, 0))) (hrd : r.i.rd < 9223372036854775808) (ha : Okq r.a) (hb : Okq r.b) {K : Value -> World -> Prop} (hK : ∀ (x : Cq) w', (numOp r.i.op -> x.t = false /\ x.m = 0) -> Ext [q] w w' -> K (.tuple #[.agg (cxC (withX r.c r.i.rd x)).toArray, .agg (ozC 0 0 0 r.i).toArray]) w') : callsK Tryz.prog 80 #[.pointer (some ⟨q, 0, none⟩)] w K := by
 apply G80_ok
 unfold G80
 have l0 := lt_of_at hr
 have hx0 := two_x w
 have g1 := two_1 w
 have g2 := two_2 w
 have g0 := hx0.at hr (by simp)
 have era := rz_a r
 have erb := rz_b r
 have eop := rz_op r
 have eim := rz_im r
 simp (disch := first | exact qD20 | fail) only [qG4, zeroX_cells]
 refine joinL.intro fun J0 hJ0 => ?_
 have hxd : Ext [] ((w.alloc (.cells (cxC zeroX).toArray 42)).alloc (.cells [.int .i64 0, .int .i64 0, .int .u64 0, .int .i64 0, .int .i64 0, .int .i64 0, .int .i64 0, .int .i64 0].toArray 51)) ((w.alloc (.cells (cxC zeroX).toArray 42)).alloc (.cells [.int .i64 0, .int .i64 0, .int .u64 0, .int .i64 0, .int .i64 0, .int .i64 0, .int .i64 0, .int .i64 0].toArray 51)).drew := qX
 replace g0 := hxd.at g0 (by simp)
 replace g1 := hxd.at g1 (by simp)
 replace g2 := hxd.at g2 (by simp)
 replace hx0 := hx0.trans hxd (by simp)
 clear hxd
 simp (disch := first | exact qD20 | fail) only [qG4]
 generalize ((w.alloc (.cells (cxC zeroX).toArray 42)).alloc (.cells [.int .i64 0, .int .i64 0, .int .u64 0, .int .i64 0, .int .i64 0, .int .i64 0, .int .i64 0, .int .i64 0].toArray 51)).drew = w1 at *
 refine relX.extC w1.heap.size ?_
 (repeat (apply postX.is; (focus (intro v w2 hR hd; have e0 := hR.at g0 (by simp); (try simp (disch := first | exact qD20 | fail) only [qG4, Nat.reduceAdd, hd, e0, era, erb, eim]); exact okC.is))))
 have hz : Okq ⟨false, 0, 0⟩ := ⟨by decide, by decide⟩
 have hal : ∀ w2, ExtC w1.heap.size w1 w2 -> okX (ExtC w1.heap.size) w2 (capAt w1.heap.size) (.pointer (some ⟨w2.heap.size, 0, none⟩)) (w2.alloc (.cells (cq ⟨false, 0, 0⟩).toArray 24)) := fun w2 hR => okX.mk (ExtC.of qX) ⟨_, _, hR.size, hz, rfl, alloc_at rfl⟩
 refine postX.intro (capAt w1.heap.size) (fun v a b hR h => h.step hR) (fun v w2 hR hd => by
  have h := hal w2 hR
  simp (disch := first | exact qD20 | fail) only [qG4]
  exact h) ?_
 refine postX.intro (capAt w1.heap.size) (fun v a b hR h => h.step hR) (fun v w2 hR hd => by
  have h := hal w2 hR
  simp (disch := first | exact qD20 | fail) only [qG4]
  exact h) ?_
 refine postX.intro (capAt w1.heap.size) (fun v a b hR h => h.step hR) (fun v w2 hR hd => by
  have h4 := hd.2.2.2.2.1
  have h10 : v 10 = _ := hd.2.2.2.1
  rw [h10]
  exact h4.put ha) ?_
 refine postX.intro (capAt w1.heap.size) (fun v a b hR h => h.step hR) (fun v w2 hR hd => by
  have h5 := hd.2.2.2.2.2.2.2.2.2.1
  have h14 : v 14 = _ := hd.2.2.2.2.2.2.2.1
  rw [h14]
  exact h5.put hb) ?_
 intro v w2 hR hd _
 have hv20 : v 20 = _ := hd.2.2.2.2.2.2.2.2.2.2.2.2.2.1
 have hc4 := hd.2.2.2.2.2.2.2.2.2.2.2.2.2.2.1
 have hc5 := hd.2.2.2.2.2.2.2.2.2.2.2.2.2.2.2.1
 clear hd
 rw [hv20]
 have hxe := hR.ext
 replace g0 := hxe.at g0 (by simp)
 replace g1 := hxe.at g1 (by simp)
 replace g2 := hxe.at g2 (by simp)
 replace hx0 := hx0.trans hxe (by simp)
 obtain ⟨b4, x4, -, o4, f4, g4⟩ := hc4
 obtain ⟨b5, x5, -, o5, f5, g5⟩ := hc5
 rw [f4, f5]
 apply hJ0
 intro _
 clear hJ0 hxe hR f4 f5 hv20 hal
 have lg0 := lt_of_at g0
 have lg4 := lt_of_at g4
 have lg5 := lt_of_at g5
 have hfin : ∀ w9, Ext [q] w2 w9 -> w9.heap[w.heap.size]? = some (.cells (cxC zeroX).toArray 42 (0, 0)) /\ w9.heap[w.heap.size + 1]? = some (.cells [.int .i64 0, .int .i64 0, .int .u64 0, .int .i64 0, .int .i64 0, .int .i64 0, .int .i64 0, .int .i64 0].toArray 51 (0, 0)) /\ Ext [q] w w9 := fun w9 hx => ⟨hx.at g1 (by simp; omega), hx.at g2 (by simp; omega), (hx0.mono (by simp)).step hx⟩
 have hfd : Ext [] w2 w2.drew := qX
 obtain ⟨im, him, hil⟩ := natOf (wrapU r.i.im)
 rw [him]
 by_cases h45 : ((r.i.op : Nat) : Int) = 45
 ·simp (disch := first | exact qD20 | fail) only [qG4, joinR, h45, g0, eop, g4, g5, cq_2, cq_sub, and_self]
  intros
  refine BoundG_spec o4 fun x w8 hx8 => ?_
  have hx7 := hfd.trans hx8 (by simp)
  simp (disch := first | exact qD20 | fail) only [qG4]
  refine tellZ_spec (x := x) (hx7.at g0 (by simp)) hrd fun w9 hx9 => ?_
  have n1 := (hfin w9 ((hx7.mono (by simp)).step hx9)).1
  have n2 := (hfin w9 ((hx7.mono (by simp)).step hx9)).2.1
  have hxc := (hfin w9 ((hx7.mono (by simp)).step hx9)).2.2
  have ln1 := lt_of_at n1
  have ln2 := lt_of_at n2
  simp (disch := first | exact qD20 | fail) only [qG4, n1, n2, cx_over, cx_put, oz_over, oz_put, cx_sub, oz_sub]
  exact hK _ _ (fun hn => by unfold numOp at hn; omega) qX
 by_cases h46 : ((r.i.op : Nat) : Int) = 46
 ·simp (disch := first | exact qD20 | fail) only [qG4, joinR, h45, h46, g0, eop, g4, g5, cq_2, cq_sub, and_self]
  intros
  refine BoundG_spec o4 fun x w8 hx8 => ?_
  have hx7 := hfd.trans hx8 (by simp)
  simp (disch := first | exact qD20 | fail) only [qG4]
  refine tellZ_spec (x := x) (hx7.at g0 (by simp)) hrd fun w9 hx9 => ?_
  have n1 := (hfin w9 ((hx7.mono (by simp)).step hx9)).1
  have n2 := (hfin w9 ((hx7.mono (by simp)).step hx9)).2.1
  have hxc := (hfin w9 ((hx7.mono (by simp)).step hx9)).2.2
  have ln1 := lt_of_at n1
  have ln2 := lt_of_at n2
  simp (disch := first | exact qD20 | fail) only [qG4, n1, n2, cx_over, cx_put, oz_over, oz_put, cx_sub, oz_sub]
  exact hK _ _ (fun hn => by unfold numOp at hn; omega) qX
 by_cases h69 : ((r.i.op : Nat) : Int) = 69
 ·simp (disch := first | exact qD20 | fail) only [qG4, joinR, h45, h46, h69, g0, eop, g4, g5, cq_2, cq_sub, and_self]
  intros
  refine BoundG_spec o4 fun x w8 hx8 => ?_
  simp (disch := first | exact qD20 | fail) only [qG4]
  refine tellZ_spec (x := x) (hx8.at g0 (by simp)) hrd fun w9 hx9 => ?_
  have n1 := (hfin w9 ((hx8.mono (by simp)).step hx9)).1
  have n2 := (hfin w9 ((hx8.mono (by simp)).step hx9)).2.1
  have hxc := (hfin w9 ((hx8.mono (by simp)).step hx9)).2.2
  have ln1 := lt_of_at n1
  have ln2 := lt_of_at n2
  simp (disch := first | exact qD20 | fail) only [qG4, n1, n2, cx_over, cx_put, oz_over, oz_put, cx_sub, oz_sub]
  exact hK _ _ (fun hn => by unfold numOp at hn; omega) qX
 by_cases h47 : ((r.i.op : Nat) : Int) = 47
 ·simp (disch := first | exact qD20 | fail) only [qG4, joinR, h45, h46, h69, h47, g0, eop, g4, g5, cq_2, cq_sub, and_self]
  intros
  refine SealG_spec o4 o5 fun x w8 hx8 => ?_
  simp (disch := first | exact qD20 | fail) only [qG4]
  refine tellZ_spec (x := x) (hx8.at g0 (by simp)) hrd fun w9 hx9 => ?_
  have n1 := (hfin w9 ((hx8.mono (by simp)).step hx9)).1
  have n2 := (hfin w9 ((hx8.mono (by simp)).step hx9)).2.1
  have hxc := (hfin w9 ((hx8.mono (by simp)).step hx9)).2.2
  have ln1 := lt_of_at n1
  have ln2 := lt_of_at n2
  simp (disch := first | exact qD20 | fail) only [qG4, n1, n2, cx_over, cx_put, oz_over, oz_put, cx_sub, oz_sub]
  exact hK _ _ (fun hn => by unfold numOp at hn; omega) qX
 by_cases h48 : ((r.i.op : Nat) : Int) = 48
 ·simp (disch := first | exact qD20 | fail) only [qG4, joinR, h45, h46, h69, h47, h48, g0, eop, g4, g5, cq_2, cq_sub, and_self]
  intros
  refine UnsealG_spec o4 o5 fun x w8 hx8 => ?_
  simp (disch := first | exact qD20 | fail) only [qG4]
  refine tellZ_spec (x := x) (hx8.at g0 (by simp)) hrd fun w9 hx9 => ?_
  have n1 := (hfin w9 ((hx8.mono (by simp)).step hx9)).1
  have n2 := (hfin w9 ((hx8.mono (by simp)).step hx9)).2.1
  have hxc := (hfin w9 ((hx8.mono (by simp)).step hx9)).2.2
  have ln1 := lt_of_at n1
  have ln2 := lt_of_at n2
  simp (disch := first | exact qD20 | fail) only [qG4, n1, n2, cx_over, cx_put, oz_over, oz_put, cx_sub, oz_sub]
  exact hK _ _ (fun hn => by unfold numOp at hn; omega) qX
 by_cases h49 : ((r.i.op : Nat) : Int) = 49
 ·simp (disch := first | exact qD20 | fail) only [qG4, joinR, h45, h46, h69, h47, h48, h49, g0, eop, g4, g5, cq_2, cq_sub, and_self]
  intros
  refine AndG_spec o4 fun x w8 hx8 => ?_
  simp (disch := first | exact qD20 | fail) only [qG4]
  refine tellZ_spec (x := x) (hx8.at g0 (by simp)) hrd fun w9 hx9 => ?_
  have n1 := (hfin w9 ((hx8.mono (by simp)).step hx9)).1
  have n2 := (hfin w9 ((hx8.mono (by simp)).step hx9)).2.1
  have hxc := (hfin w9 ((hx8.mono (by simp)).step hx9)).2.2
  have ln1 := lt_of_at n1
  have ln2 := lt_of_at n2
  simp (disch := first | exact qD20 | fail) only [qG4, n1, n2, cx_over, cx_put, oz_over, oz_put, cx_sub, oz_sub]
  exact hK _ _ (fun hn => by unfold numOp at hn; omega) qX
 by_cases h50 : ((r.i.op : Nat) : Int) = 50
 ·simp (disch := first | exact qD20 | fail) only [qG4, joinR, h45, h46, h69, h47, h48, h49, h50, g0, eop, g4, g5, cq_2, cq_sub, and_self]
  intros
  refine AddressG_spec o4 o5.2 fun x w8 hx hx8 => ?_
  simp (disch := first | exact qD20 | fail) only [qG4]
  refine tellZ_spec (x := x) (hx8.at g0 (by simp)) hrd fun w9 hx9 => ?_
  have n1 := (hfin w9 ((hx8.mono (by simp)).step hx9)).1
  have n2 := (hfin w9 ((hx8.mono (by simp)).step hx9)).2.1
  have hxc := (hfin w9 ((hx8.mono (by simp)).step hx9)).2.2
  have ln1 := lt_of_at n1
  have ln2 := lt_of_at n2
  simp (disch := first | exact qD20 | fail) only [qG4, n1, n2, cx_over, cx_put, oz_over, oz_put, cx_sub, oz_sub]
  exact hK _ _ (fun hn => by unfold numOp at hn; omega) qX
 by_cases h51 : ((r.i.op : Nat) : Int) = 51
 ·simp (disch := first | exact qD20 | fail) only [qG4, joinR, h45, h46, h69, h47, h48, h49, h50, h51, g0, eop, g4, g5, cq_2, cq_sub, and_self]
  intros
  refine MoveG_spec o4 fun x w8 hx hx8 => ?_
  simp (disch := first | exact qD20 | fail) only [qG4]
  refine tellZ_spec (x := x) (hx8.at g0 (by simp)) hrd fun w9 hx9 => ?_
  have n1 := (hfin w9 ((hx8.mono (by simp)).step hx9)).1
  have n2 := (hfin w9 ((hx8.mono (by simp)).step hx9)).2.1
  have hxc := (hfin w9 ((hx8.mono (by simp)).step hx9)).2.2
  have ln1 := lt_of_at n1
  have ln2 := lt_of_at n2
  simp (disch := first | exact qD20 | fail) only [qG4, n1, n2, cx_over, cx_put, oz_over, oz_put, cx_sub, oz_sub]
  exact hK _ _ (fun hn => by unfold numOp at hn; omega) qX
 by_cases h68 : ((r.i.op : Nat) : Int) = 68
 ·simp (disch := first | exact qD20 | fail) only [qG4, joinR, h45, h46, h69, h47, h48, h49, h50, h51, h68, g0, eop, g4, g5, cq_2, cq_sub, and_self]
  intros
  refine MoveG_spec o4 fun x w8 hx hx8 => ?_
  simp (disch := first | exact qD20 | fail) only [qG4]
  refine tellZ_spec (x := x) (hx8.at g0 (by simp)) hrd fun w9 hx9 => ?_
  have n1 := (hfin w9 ((hx8.mono (by simp)).step hx9)).1
  have n2 := (hfin w9 ((hx8.mono (by simp)).step hx9)).2.1
  have hxc := (hfin w9 ((hx8.mono (by simp)).step hx9)).2.2
  have ln1 := lt_of_at n1
  have ln2 := lt_of_at n2
  simp (disch := first | exact qD20 | fail) only [qG4, n1, n2, cx_over, cx_put, oz_over, oz_put, cx_sub, oz_sub]
  exact hK _ _ (fun hn => by unfold numOp at hn; omega) qX
 by_cases h53 : ((r.i.op : Nat) : Int) = 53
 ·simp (disch := first | exact qD20 | fail) only [qG4, joinR, h45, h46, h69, h47, h48, h49, h50, h51, h68, h53, g0, eop, g4, g5, cq_2, cq_sub, and_self]
  intros
  refine BuildG_spec o5 o4 fun x w8 hx8 => ?_
  simp (disch := first | exact qD20 | fail) only [qG4]
  refine tellZ_spec (x := x) (hx8.at g0 (by simp)) hrd fun w9 hx9 => ?_
  have n1 := (hfin w9 ((hx8.mono (by simp)).step hx9)).1
  have n2 := (hfin w9 ((hx8.mono (by simp)).step hx9)).2.1
  have hxc := (hfin w9 ((hx8.mono (by simp)).step hx9)).2.2
  have ln1 := lt_of_at n1
  have ln2 := lt_of_at n2
  simp (disch := first | exact qD20 | fail) only [qG4, n1, n2, cx_over, cx_put, oz_over, oz_put, cx_sub, oz_sub]
  exact hK _ _ (fun hn => by unfold numOp at hn; omega) qX
 by_cases h64 : ((r.i.op : Nat) : Int) = 64
 ·simp (disch := first | exact qD20 | fail) only [qG4, joinR, h45, h46, h69, h47, h48, h49, h50, h51, h68, h53, h64, g0, eop, g4, g5, cq_2, cq_sub, and_self]
  intros
  refine tellZ_spec (x := x4) g0 hrd fun w9 hx9 => ?_
  have n1 := (hfin w9 hx9).1
  have n2 := (hfin w9 hx9).2.1
  have hxc := (hfin w9 hx9).2.2
  have ln1 := lt_of_at n1
  have ln2 := lt_of_at n2
  simp (disch := first | exact qD20 | fail) only [qG4, n1, n2, cx_over, cx_put, oz_over, oz_put, cx_sub, oz_sub]
  exact hK _ _ (fun hn => by unfold numOp at hn; omega) qX
 by_cases h65 : ((r.i.op : Nat) : Int) = 65
 ·simp (disch := first | exact qD20 | fail) only [qG4, joinR, h45, h46, h69, h47, h48, h49, h50, h51, h68, h53, h64, h65, g0, eop, g4, g5, cq_2, cq_sub, and_self]
  intros
  refine clearq_spec (c := x4) fun w8 hx8 => ?_
  simp (disch := first | exact qD20 | fail) only [qG4]
  refine tellZ_spec (x := ⟨false, x4.m, x4.a⟩) (hx8.at g0 (by simp)) hrd fun w9 hx9 => ?_
  have n1 := (hfin w9 ((hx8.mono (by simp)).step hx9)).1
  have n2 := (hfin w9 ((hx8.mono (by simp)).step hx9)).2.1
  have hxc := (hfin w9 ((hx8.mono (by simp)).step hx9)).2.2
  have ln1 := lt_of_at n1
  have ln2 := lt_of_at n2
  simp (disch := first | exact qD20 | fail) only [qG4, n1, n2, cx_over, cx_put, oz_over, oz_put, cx_sub, oz_sub]
  exact hK _ _ (fun hn => by unfold numOp at hn; omega) qX
 by_cases h67 : ((r.i.op : Nat) : Int) = 67
 ·simp (disch := first | exact qD20 | fail) only [qG4, joinR, h45, h46, h69, h47, h48, h49, h50, h51, h68, h53, h64, h65, h67, g0, eop, g4, g5, cq_2, cq_sub, and_self]
  intros
  refine EnterG_spec o4 fun x w8 hx hx8 => ?_
  simp (disch := first | exact qD20 | fail) only [qG4]
  refine tellZ_spec (x := x) (hx8.at g0 (by simp)) hrd fun w9 hx9 => ?_
  have n1 := (hfin w9 ((hx8.mono (by simp)).step hx9)).1
  have n2 := (hfin w9 ((hx8.mono (by simp)).step hx9)).2.1
  have hxc := (hfin w9 ((hx8.mono (by simp)).step hx9)).2.2
  have ln1 := lt_of_at n1
  have ln2 := lt_of_at n2
  simp (disch := first | exact qD20 | fail) only [qG4, n1, n2, cx_over, cx_put, oz_over, oz_put, cx_sub, oz_sub]
  exact hK _ _ (fun hn => by unfold numOp at hn; omega) qX
 simp (disch := first | exact qD20 | fail) only [qG4, joinR, h45, h46, h69, h47, h48, h49, h50, h51, h68, h53, h64, h65, h67, g0, eop, g4, g5, cq_2, cq_sub, and_self]
 intros
 refine askedZ_spec g0 hrd ha hb fun n w9 hx9 => ?_
 have n1 := (hfin w9 hx9).1
 have n2 := (hfin w9 hx9).2.1
 have hxc := (hfin w9 hx9).2.2
 have ln1 := lt_of_at n1
 have ln2 := lt_of_at n2
 simp (disch := first | exact qD20 | fail) only [qG4, n1, n2, cx_over, cx_put, oz_over, oz_put, cx_sub, oz_sub]
 exact hK _ _ (fun hn => ⟨rfl, rfl⟩) qX
open Go.Fx
set_option maxRecDepth 100000
theorem kindG_spec {w : World} {q : Nat} {r : Rz} (hr : w.heap[q]? = some (.cells (rzC r).toArray 91 (0, 0))) (ho : r.i.op < 1000) {K : Value -> World -> Prop} (hK : ∀ k : Nat, k < 5 -> K (.int .i64 (k : Nat)) w) : callsK Tryz.prog 99 #[.pointer (some ⟨q, 0, none⟩)] w K := by
 apply F99_ok
 unfold F99
 have e := rz_op r
 have e2 := rz_bt r
 by_cases h : ((r.i.op : Nat) : Int) = 44
 ·cases hb : r.b.t with
  | true =>
   rw [hb] at e2
   simp (disch := first | exact qD20 | fail) only [qG4, joinBR, hr, e, e2, h]
   exact hK 4 (by decide)
  | false =>
   rw [hb] at e2
   simp (disch := first | exact qD20 | fail) only [qG4, joinBR, hr, e, e2, h]
   exact hK 2 (by decide)
 ·simp (disch := first | exact qD20 | fail) only [qG4, joinBR, hr, e, e2, h]
  refine stores_spec ho ?_
  generalize decide (18 <= r.i.op /\ r.i.op <= 21) = b
  cases b with
  | true =>
   simp (disch := first | exact qD20 | fail) only [qG4, joinBR]
   exact hK 2 (by decide)
  | false =>
   simp (disch := first | exact qD20 | fail) only [qG4, joinBR]
   exact hK 1 (by decide)
theorem kindG_still {w : World} {q : Nat} {r : Rz} (hr : w.heap[q]? = some (.cells (rzC r).toArray 91 (0, 0))) (ho : r.i.op < 1000) : ∃ k : Nat, k < 5 /\ ∀ (K : Value -> Prop), K (.int .i64 (k : Nat)) -> callsS Tryz.prog 99 #[.pointer (some ⟨q, 0, none⟩)] w K := by
 by_cases h : r.i.op = 44
 ·refine ⟨if r.b.t then 4 else 2, by split <;> decide, fun K hK => callsS.of _ ?_ hK⟩
  apply F99_ok
  unfold F99
  have e := rz_op r
  have e2 := rz_bt r
  rw [h] at e
  cases hb : r.b.t with
  | true =>
   rw [hb] at e2
   simp (disch := first | exact qD20 | fail) only [qG4, joinBR, hr, e, e2]
   exact ⟨by simp, trivial⟩
  | false =>
   rw [hb] at e2
   simp (disch := first | exact qD20 | fail) only [qG4, joinBR, hr, e, e2]
   exact ⟨by simp, trivial⟩
 ·refine ⟨if 18 <= r.i.op /\ r.i.op <= 21 then 2 else 1, by split <;> decide, fun K hK => callsS.of _ ?_ hK⟩
  apply F99_ok
  unfold F99
  have e := rz_op r
  have h' : ¬ ((r.i.op : Nat) : Int) = 44 := by omega
  simp (disch := first | exact qD20 | fail) only [qG4, joinBR, hr, e, h']
  refine stores_spec ho ?_
  by_cases hs : 18 <= r.i.op /\ r.i.op <= 21
  ·rw [decide_eq_true hs]
   simp (disch := first | exact qD20 | fail) only [qG4, joinBR, hs]
   exact ⟨by simp [hs], trivial⟩
  ·rw [decide_eq_false hs]
   simp (disch := first | exact qD20 | fail) only [qG4, joinBR, hs]
   exact ⟨by simp [hs], trivial⟩
theorem rz_at (r : Rz) : (rzC r)[204]? = some (.bool r.a.t) := by
 rw [get_sub (o := 204) (n := 3) (j := 0) (by omega), rz_a]
 rfl
set_option maxHeartbeats 1000000 in
theorem jumpG_spec {w : World} {q : Nat} {r : Rz} (hr : w.heap[q]? = some (.cells (rzC r).toArray 91 (0, 0))) (hrd : r.i.rd < 9223372036854775808) (ha : Okq r.a) (hd : Okq (r.d 32)) {K : Value -> World -> Prop} (hT : ∀ (e va : Nat) w', Ext [q] w w' -> K (.tuple #[.agg (cxC r.d).toArray, .agg (ozC 5 e va r.i).toArray]) w') (hK : ∀ (x : Cq) c w', Same r.c c -> Ext [q] w w' -> K (.tuple #[.agg (cxC (withX c r.i.rd x)).toArray, .agg (ozC 0 0 0 r.i).toArray]) w') : callsK Tryz.prog 76 #[.pointer (some ⟨q, 0, none⟩)] w K := by
 apply F76_ok
 unfold F76
 have l0 := lt_of_at hr
 have hx0 := two_x w
 have g1 := two_1 w
 have g2 := two_2 w
 have g0 := hx0.at hr (by simp)
 have era := rz_a r
 have eat := rz_at r
 have eaa := rz_aa r
 have eim := rz_im r
 have edp := rz_dp r
 have erd := rz_d r
 simp (disch := first | exact qD20 | fail) only [qG4, zeroX_cells, hr, era, cq_sub]
 refine lookq_spec ha fun w2 hx1 => ?_
 replace g0 := hx1.at g0 (by simp)
 replace g1 := hx1.at g1 (by simp)
 replace g2 := hx1.at g2 (by simp)
 replace hx0 := hx0.trans hx1 (by simp)
 clear hx1
 have hx1 : Ext [] w2 (w2.alloc (.cells (vwC r.a.m r.a.a).toArray 28)) := qX
 have lg0 := lt_of_at g0
 have k0 := hx1.at g0 (by simp)
 have k1 := hx1.at g1 (by simp)
 have k2 := hx1.at g2 (by simp)
 have hxk := hx0.trans hx1 (by simp)
 have l3 := vq_3 r.a.m r.a.a
 have hfin : ∀ w9, Ext [q] (w2.alloc (.cells (vwC r.a.m r.a.a).toArray 28)) w9 -> w9.heap[w.heap.size]? = some (.cells (cxC zeroX).toArray 42 (0, 0)) /\ w9.heap[w.heap.size + 1]? = some (.cells [.int .i64 0, .int .i64 0, .int .u64 0, .int .i64 0, .int .i64 0, .int .i64 0, .int .i64 0, .int .i64 0].toArray 51 (0, 0)) /\ Ext [q] w w9 := fun w9 hx => ⟨hx.at k1 (by simp; omega), hx.at k2 (by simp; omega), (hxk.mono (by simp)).step hx⟩
 have hgo : True := trivial
 by_cases hs : r.a.t = true /\ ((r.a.m / 281474976710656 % 4096 : Nat) : Int) = 1 /\ ¬ r.i.im = 0
 ·rw [hs.1] at eat
  have hs2 := hs.2.1
  have hs3 := hs.2.2
  simp (disch := first | exact qD20 | fail) only [qG4, Nat.reduceAdd, joinBR, vw_over, vw_over2, g0, eat, l3, hs2, hs3, eim, eaa, if_true]
  refine trapZ_spec (k := 5) (e := 2) (va := r.a.a) k0 fun w9 hx8 => ?_
  have hx9 : Ext [q] (w2.alloc (.cells (vwC r.a.m r.a.a).toArray 28)) w9 := hx8.mono (by simp)
  have n1 := (hfin w9 hx9).1
  have n2 := (hfin w9 hx9).2.1
  have hxc := (hfin w9 hx9).2.2
  have ln1 := lt_of_at n1
  have ln2 := lt_of_at n2
  simp (disch := first | exact qD20 | fail) only [qG4, n1, n2, cx_over, cx_put, oz_over, oz_put, cx_sub, oz_sub]
  exact hT _ _ _ qX
 ·by_cases ht : r.a.t = true
  ·rw [ht] at eat
   by_cases h1 : ((r.a.m / 281474976710656 % 4096 : Nat) : Int) = 1
   ·have h3 : r.i.im = 0 := Decidable.byContradiction fun h => hs ⟨ht, h1, h⟩
    simp (disch := first | exact qD20 | fail) only [qG4, Nat.reduceAdd, joinBR, vw_over, vw_over2, g0, lg0, eat, era, l3, eim, eaa, if_true, if_false, cq_sub, h1, h3]
    clear h3
    refine OpenG_spec ha fun x w3 hx hx3 => ?_
    have m0 := hx3.at k0 (by simp)
    have m1 := hx3.at k1 (by simp)
    have m2 := hx3.at k2 (by simp)
    have hxm := hxk.trans hx3 (by simp)
    have lm0 := lt_of_at m0
    simp (disch := first | exact qD20 | fail) only [qG4, cq_over0, cq_put, cq_sub]
    refine CheckG_spec (k := 0) (n := 0) hx.1 hx.2 (by decide) (by decide) fun e w4 hx4 => ?_
    have hy : Ext [] w3 w4 := Ext.trans (S := []) qX hx4 (by simp)
    have g6 : w4.heap[w3.heap.size]? = some (.cells (cq x).toArray 24 (0, 0)) := hx4.at (alloc_at rfl) (by simp)
    replace m0 := hy.at m0 (by simp)
    replace m1 := hy.at m1 (by simp)
    replace m2 := hy.at m2 (by simp)
    replace hxm := hxm.trans hy (by simp)
    replace lm0 := lt_of_at m0
    have lg6 := lt_of_at g6
    by_cases he : ((e : Nat) : Int) = 0
    ·simp (disch := first | exact qD20 | fail) only [qG4, he]
     refine joinL.intro fun J6 hJ6 => ?_
     refine Exists.elim (natOf (bitU .andNot (IntKind.u64.wrap ((x.a : Int) + IntKind.u64.wrap r.i.im)) 1 (.inr (.inr (.inr rfl))))) fun b hbb => ?_
     have hb := hbb.1
     have hbl := hbb.2
     have hxd : Ext [] w4 w4.drew := qX
     simp (disch := first | exact qD20 | fail) only [qG4, Nat.reduceAdd, m0, g6, cq_2, cq_sub, eim, hb, and_self]
     refine AddressG_spec hx hbl fun y w5 hy2 hx5 => ?_
     have hx6 := hxd.trans hx5 (by simp)
     replace m0 := hx6.at m0 (by simp)
     replace m1 := hx6.at m1 (by simp)
     replace m2 := hx6.at m2 (by simp)
     replace hxm := hxm.trans hx6 (by simp)
     replace lm0 := lt_of_at m0
     simp (disch := first | exact qD20 | fail) only [qG4, m0, rz_setp]
     have u0 : (World.upd w5 q (rzC { r with c := setX r.c 32 y })).heap[q]? = some (.cells (rzC { r with c := setX r.c 32 y }).toArray 91 (0, 0)) := upd_at m0
     have hxu : Ext [q] w5 (World.upd w5 q (rzC { r with c := setX r.c 32 y })) := qX
     replace m1 := hxu.at m1 (by simp; omega)
     replace m2 := hxu.at m2 (by simp; omega)
     have hxv := (hxm.mono (T := [q]) (by simp)).step hxu
     have er2 := rz_d { r with c := setX r.c 32 y }
     generalize World.upd w5 q (rzC { r with c := setX r.c 32 y }) = w6 at *
     apply hJ6
     intro _
     clear hJ6
     simp (disch := first | exact qD20 | fail) only [qG4, u0, er2]
     refine Next_spec (c := r.d) hd.1 hd.2 fun w7 hx7 => ?_
     have hfl := field_pccZ (nextX r.d)
     have hok : Okq (nextX r.d 32) := ⟨hd.1, Nat.mod_lt _ (by decide)⟩
     simp (disch := first | exact qD20 | fail) only [qG4, hfl]
     refine EnterG_spec hok fun z w8 hz hx8 => ?_
     have hx9 := hx7.trans hx8 (by simp)
     replace u0 := hx9.at u0 (by simp)
     replace m1 := hx9.at m1 (by simp)
     replace m2 := hx9.at m2 (by simp)
     simp (disch := first | exact qD20 | fail) only [qG4]
     refine tellZ_spec (x := z) u0 hrd fun w9 hxt => ?_
     replace m1 := hxt.at m1 (by simp; omega)
     replace m2 := hxt.at m2 (by simp; omega)
     have hxc : Ext [q] w w9 := (hxv.step (hx9.mono (by simp))).step hxt
     have n1 := m1
     have n2 := m2
     have ln1 := lt_of_at n1
     have ln2 := lt_of_at n2
     simp (disch := first | exact qD20 | fail) only [qG4, n1, n2, cx_over, cx_put, oz_over, oz_put, cx_sub, oz_sub]
     exact hK z (setX r.c 32 y) _ (fun k hk => by unfold setX; rw [if_neg (by omega)]) qX
    ·simp (disch := first | exact qD20 | fail) only [qG4, Nat.reduceAdd, he, m0, eaa]
     refine trapZ_spec (k := 5) (e := e) (va := r.a.a) m0 fun w9 hxt => ?_
     replace m1 := hxt.at m1 (by simp)
     replace m2 := hxt.at m2 (by simp)
     have hxc : Ext [q] w w9 := (hxm.trans hxt (by simp)).mono (by simp)
     have n1 := m1
     have n2 := m2
     have ln1 := lt_of_at n1
     have ln2 := lt_of_at n2
     simp (disch := first | exact qD20 | fail) only [qG4, n1, n2, cx_over, cx_put, oz_over, oz_put, cx_sub, oz_sub]
     exact hT _ _ _ qX
   ·simp (disch := first | exact qD20 | fail) only [qG4, joinBR, vw_over, vw_over2, g0, lg0, eat, era, l3, eim, eaa, if_true, if_false, cq_sub, h1]
    refine OpenG_spec ha fun x w3 hx hx3 => ?_
    have m0 := hx3.at k0 (by simp)
    have m1 := hx3.at k1 (by simp)
    have m2 := hx3.at k2 (by simp)
    have hxm := hxk.trans hx3 (by simp)
    have lm0 := lt_of_at m0
    simp (disch := first | exact qD20 | fail) only [qG4, cq_over0, cq_put, cq_sub]
    refine CheckG_spec (k := 0) (n := 0) hx.1 hx.2 (by decide) (by decide) fun e w4 hx4 => ?_
    have hy : Ext [] w3 w4 := Ext.trans (S := []) qX hx4 (by simp)
    have g6 : w4.heap[w3.heap.size]? = some (.cells (cq x).toArray 24 (0, 0)) := hx4.at (alloc_at rfl) (by simp)
    replace m0 := hy.at m0 (by simp)
    replace m1 := hy.at m1 (by simp)
    replace m2 := hy.at m2 (by simp)
    replace hxm := hxm.trans hy (by simp)
    replace lm0 := lt_of_at m0
    have lg6 := lt_of_at g6
    by_cases he : ((e : Nat) : Int) = 0
    ·simp (disch := first | exact qD20 | fail) only [qG4, he]
     refine joinL.intro fun J6 hJ6 => ?_
     refine Exists.elim (natOf (bitU .andNot (IntKind.u64.wrap ((x.a : Int) + IntKind.u64.wrap r.i.im)) 1 (.inr (.inr (.inr rfl))))) fun b hbb => ?_
     have hb := hbb.1
     have hbl := hbb.2
     have hxd : Ext [] w4 w4.drew := qX
     simp (disch := first | exact qD20 | fail) only [qG4, Nat.reduceAdd, m0, g6, cq_2, cq_sub, eim, hb, and_self]
     refine AddressG_spec hx hbl fun y w5 hy2 hx5 => ?_
     have hx6 := hxd.trans hx5 (by simp)
     replace m0 := hx6.at m0 (by simp)
     replace m1 := hx6.at m1 (by simp)
     replace m2 := hx6.at m2 (by simp)
     replace hxm := hxm.trans hx6 (by simp)
     replace lm0 := lt_of_at m0
     simp (disch := first | exact qD20 | fail) only [qG4, m0, rz_setp]
     have u0 : (World.upd w5 q (rzC { r with c := setX r.c 32 y })).heap[q]? = some (.cells (rzC { r with c := setX r.c 32 y }).toArray 91 (0, 0)) := upd_at m0
     have hxu : Ext [q] w5 (World.upd w5 q (rzC { r with c := setX r.c 32 y })) := qX
     replace m1 := hxu.at m1 (by simp; omega)
     replace m2 := hxu.at m2 (by simp; omega)
     have hxv := (hxm.mono (T := [q]) (by simp)).step hxu
     have er2 := rz_d { r with c := setX r.c 32 y }
     generalize World.upd w5 q (rzC { r with c := setX r.c 32 y }) = w6 at *
     apply hJ6
     intro _
     clear hJ6
     simp (disch := first | exact qD20 | fail) only [qG4, u0, er2]
     refine Next_spec (c := r.d) hd.1 hd.2 fun w7 hx7 => ?_
     have hfl := field_pccZ (nextX r.d)
     have hok : Okq (nextX r.d 32) := ⟨hd.1, Nat.mod_lt _ (by decide)⟩
     simp (disch := first | exact qD20 | fail) only [qG4, hfl]
     refine EnterG_spec hok fun z w8 hz hx8 => ?_
     have hx9 := hx7.trans hx8 (by simp)
     replace u0 := hx9.at u0 (by simp)
     replace m1 := hx9.at m1 (by simp)
     replace m2 := hx9.at m2 (by simp)
     simp (disch := first | exact qD20 | fail) only [qG4]
     refine tellZ_spec (x := z) u0 hrd fun w9 hxt => ?_
     replace m1 := hxt.at m1 (by simp; omega)
     replace m2 := hxt.at m2 (by simp; omega)
     have hxc : Ext [q] w w9 := (hxv.step (hx9.mono (by simp))).step hxt
     have n1 := m1
     have n2 := m2
     have ln1 := lt_of_at n1
     have ln2 := lt_of_at n2
     simp (disch := first | exact qD20 | fail) only [qG4, n1, n2, cx_over, cx_put, oz_over, oz_put, cx_sub, oz_sub]
     exact hK z (setX r.c 32 y) _ (fun k hk => by unfold setX; rw [if_neg (by omega)]) qX
    ·simp (disch := first | exact qD20 | fail) only [qG4, Nat.reduceAdd, he, m0, eaa]
     refine trapZ_spec (k := 5) (e := e) (va := r.a.a) m0 fun w9 hxt => ?_
     replace m1 := hxt.at m1 (by simp)
     replace m2 := hxt.at m2 (by simp)
     have hxc : Ext [q] w w9 := (hxm.trans hxt (by simp)).mono (by simp)
     have n1 := m1
     have n2 := m2
     have ln1 := lt_of_at n1
     have ln2 := lt_of_at n2
     simp (disch := first | exact qD20 | fail) only [qG4, n1, n2, cx_over, cx_put, oz_over, oz_put, cx_sub, oz_sub]
     exact hT _ _ _ qX
  ·rw [Bool.eq_false_iff.2 ht] at eat
   simp (disch := first | exact qD20 | fail) only [qG4, joinBR, vw_over, vw_over2, g0, lg0, eat, era, l3, eim, eaa, if_true, if_false, cq_sub]
   refine OpenG_spec ha fun x w3 hx hx3 => ?_
   have m0 := hx3.at k0 (by simp)
   have m1 := hx3.at k1 (by simp)
   have m2 := hx3.at k2 (by simp)
   have hxm := hxk.trans hx3 (by simp)
   have lm0 := lt_of_at m0
   simp (disch := first | exact qD20 | fail) only [qG4, cq_over0, cq_put, cq_sub]
   refine CheckG_spec (k := 0) (n := 0) hx.1 hx.2 (by decide) (by decide) fun e w4 hx4 => ?_
   have hy : Ext [] w3 w4 := Ext.trans (S := []) qX hx4 (by simp)
   have g6 : w4.heap[w3.heap.size]? = some (.cells (cq x).toArray 24 (0, 0)) := hx4.at (alloc_at rfl) (by simp)
   replace m0 := hy.at m0 (by simp)
   replace m1 := hy.at m1 (by simp)
   replace m2 := hy.at m2 (by simp)
   replace hxm := hxm.trans hy (by simp)
   replace lm0 := lt_of_at m0
   have lg6 := lt_of_at g6
   by_cases he : ((e : Nat) : Int) = 0
   ·simp (disch := first | exact qD20 | fail) only [qG4, he]
    refine joinL.intro fun J6 hJ6 => ?_
    refine Exists.elim (natOf (bitU .andNot (IntKind.u64.wrap ((x.a : Int) + IntKind.u64.wrap r.i.im)) 1 (.inr (.inr (.inr rfl))))) fun b hbb => ?_
    have hb := hbb.1
    have hbl := hbb.2
    have hxd : Ext [] w4 w4.drew := qX
    simp (disch := first | exact qD20 | fail) only [qG4, Nat.reduceAdd, m0, g6, cq_2, cq_sub, eim, hb, and_self]
    refine AddressG_spec hx hbl fun y w5 hy2 hx5 => ?_
    have hx6 := hxd.trans hx5 (by simp)
    replace m0 := hx6.at m0 (by simp)
    replace m1 := hx6.at m1 (by simp)
    replace m2 := hx6.at m2 (by simp)
    replace hxm := hxm.trans hx6 (by simp)
    replace lm0 := lt_of_at m0
    simp (disch := first | exact qD20 | fail) only [qG4, m0, rz_setp]
    have u0 : (World.upd w5 q (rzC { r with c := setX r.c 32 y })).heap[q]? = some (.cells (rzC { r with c := setX r.c 32 y }).toArray 91 (0, 0)) := upd_at m0
    have hxu : Ext [q] w5 (World.upd w5 q (rzC { r with c := setX r.c 32 y })) := qX
    replace m1 := hxu.at m1 (by simp; omega)
    replace m2 := hxu.at m2 (by simp; omega)
    have hxv := (hxm.mono (T := [q]) (by simp)).step hxu
    have er2 := rz_d { r with c := setX r.c 32 y }
    generalize World.upd w5 q (rzC { r with c := setX r.c 32 y }) = w6 at *
    apply hJ6
    intro _
    clear hJ6
    simp (disch := first | exact qD20 | fail) only [qG4, u0, er2]
    refine Next_spec (c := r.d) hd.1 hd.2 fun w7 hx7 => ?_
    have hfl := field_pccZ (nextX r.d)
    have hok : Okq (nextX r.d 32) := ⟨hd.1, Nat.mod_lt _ (by decide)⟩
    simp (disch := first | exact qD20 | fail) only [qG4, hfl]
    refine EnterG_spec hok fun z w8 hz hx8 => ?_
    have hx9 := hx7.trans hx8 (by simp)
    replace u0 := hx9.at u0 (by simp)
    replace m1 := hx9.at m1 (by simp)
    replace m2 := hx9.at m2 (by simp)
    simp (disch := first | exact qD20 | fail) only [qG4]
    refine tellZ_spec (x := z) u0 hrd fun w9 hxt => ?_
    replace m1 := hxt.at m1 (by simp; omega)
    replace m2 := hxt.at m2 (by simp; omega)
    have hxc : Ext [q] w w9 := (hxv.step (hx9.mono (by simp))).step hxt
    have n1 := m1
    have n2 := m2
    have ln1 := lt_of_at n1
    have ln2 := lt_of_at n2
    simp (disch := first | exact qD20 | fail) only [qG4, n1, n2, cx_over, cx_put, oz_over, oz_put, cx_sub, oz_sub]
    exact hK z (setX r.c 32 y) _ (fun k hk => by unfold setX; rw [if_neg (by omega)]) qX
   ·simp (disch := first | exact qD20 | fail) only [qG4, Nat.reduceAdd, he, m0, eaa]
    refine trapZ_spec (k := 5) (e := e) (va := r.a.a) m0 fun w9 hxt => ?_
    replace m1 := hxt.at m1 (by simp)
    replace m2 := hxt.at m2 (by simp)
    have hxc : Ext [q] w w9 := (hxm.trans hxt (by simp)).mono (by simp)
    have n1 := m1
    have n2 := m2
    have ln1 := lt_of_at n1
    have ln2 := lt_of_at n2
    simp (disch := first | exact qD20 | fail) only [qG4, n1, n2, cx_over, cx_put, oz_over, oz_put, cx_sub, oz_sub]
    exact hT _ _ _ qX
open Go.Fx
set_option maxRecDepth 100000
theorem rz_dpa (r : Rz) : (rzC r)[197]? = some (.int .u64 ((r.d 32).a : Nat)) := by
 rw [get_sub (o := 195) (n := 3) (j := 2) (by omega), rz_dp]
 rfl
set_option maxHeartbeats 1000000 in
theorem runG_spec {w : World} {q : Nat} {r : Rz} (hr : w.heap[q]? = some (.cells (rzC r).toArray 91 (0, 0))) (ho : r.i.op < 1000) (hwd : widthN r.i.op = 0) (hrd : r.i.rd < 9223372036854775808) (ha : Okq r.a) (hb : Okq r.b) (hd : Okq (r.d 32)) {K : Value -> World -> Prop}
  (hT : ∀ (k e va : Nat) w', k ≠ 0 -> Ext [q] w w' -> K (.tuple #[.agg (cxC r.d).toArray, .agg (ozC k e va r.i).toArray]) w')
  (hS : ∀ d w', 5 <= r.i.op /\ r.i.op <= 10 -> Same r.c d -> Ext [q] w w' -> K (.tuple #[.agg (cxC d).toArray, .agg (ozC 0 0 0 r.i).toArray]) w')
  (hK : ∀ (x : Cq) c w', ¬ (5 <= r.i.op /\ r.i.op <= 10) -> (numOp r.i.op -> x.t = false /\ x.m = 0) -> Same r.c c -> Ext [q] w w' -> K (.tuple #[.agg (cxC (withX c r.i.rd x)).toArray, .agg (ozC 0 0 0 r.i).toArray]) w') : callsK Tryz.prog 32 #[.pointer (some ⟨q, 0, none⟩)] w K := by
 apply G32_ok
 unfold G32
 have l0 := lt_of_at hr
 have hx0 := two_x w
 have g1 := two_1 w
 have g2 := two_2 w
 have g0 := hx0.at hr (by simp)
 have eop := rz_op r
 have eim := rz_im r
 have eaa := rz_aa r
 have eba := rz_ba r
 have edp := rz_dp r
 have erd := rz_d r
 have ep := rz_dpa r
 obtain ⟨im, him, hil⟩ := natOf (wrapU r.i.im)
 simp (disch := first | exact qD20 | fail) only [qG4, zeroX_cells]
 simp (disch := first | exact qD20 | fail) only [qG4, hr, eop]
 refine branches_spec ho ?_
 by_cases hbr : 5 <= r.i.op /\ r.i.op <= 10
 ·rw [decide_eq_true hbr]
  simp (disch := first | exact qD20 | fail) only [qG4]
  refine branchG_spec g0 hd fun d w9 hs hx9 => ?_
  have n1 := hx9.at g1 (by simp; omega)
  have n2 := hx9.at g2 (by simp; omega)
  have hxc : Ext [q] w w9 := (hx0.mono (by simp)).step hx9
  have ln1 := lt_of_at n1
  have ln2 := lt_of_at n2
  simp (disch := first | exact qD20 | fail) only [qG4, n1, n2, cx_over, cx_put, oz_over, oz_put, cx_sub, oz_sub]
  exact hS d _ hbr hs qX
 rw [decide_eq_false hbr]
 simp (disch := first | exact qD20 | fail) only [qG4]
 refine widthG_spec ho fun w2 hx1 => ?_
 rw [hwd]
 replace g0 := hx1.at g0 (by simp)
 replace g1 := hx1.at g1 (by simp)
 replace g2 := hx1.at g2 (by simp)
 replace hx0 := hx0.trans hx1 (by simp)
 clear hx1
 have lg0 := lt_of_at g0
 have hfin : ∀ w9, Ext [q] w2 w9 -> w9.heap[w.heap.size]? = some (.cells (cxC zeroX).toArray 42 (0, 0)) /\ w9.heap[w.heap.size + 1]? = some (.cells [.int .i64 0, .int .i64 0, .int .u64 0, .int .i64 0, .int .i64 0, .int .i64 0, .int .i64 0, .int .i64 0].toArray 51 (0, 0)) /\ Ext [q] w w9 := fun w9 hx => ⟨hx.at g1 (by simp; omega), hx.at g2 (by simp; omega), (hx0.mono (by simp)).step hx⟩
 have hfd : Ext [] w2 w2.drew := qX
 by_cases h3 : ((r.i.op : Nat) : Int) = 3
 ·simp (disch := first | exact qD20 | fail) only [qG4, Nat.reduceAdd, Int.reduceLT, joinR, h3, g0, eim, him, eaa, eba, edp, ep, and_self]
  intros
  refine MoveG_spec hd fun y w5 hy2 hx5 => ?_
  have hx6 := hfd.trans hx5 (by simp)
  have m0 := hx6.at g0 (by simp)
  have m1 := hx6.at g1 (by simp)
  have m2 := hx6.at g2 (by simp)
  have hxm := hx0.trans hx6 (by simp)
  have lm0 := lt_of_at m0
  simp (disch := first | exact qD20 | fail) only [qG4, m0, rz_setp]
  have u0 : (World.upd w5 q (rzC { r with c := setX r.c 32 y })).heap[q]? = some (.cells (rzC { r with c := setX r.c 32 y }).toArray 91 (0, 0)) := upd_at m0
  have hxu : Ext [q] w5 (World.upd w5 q (rzC { r with c := setX r.c 32 y })) := qX
  replace m1 := hxu.at m1 (by simp; omega)
  replace m2 := hxu.at m2 (by simp; omega)
  have hxv := (hxm.mono (T := [q]) (by simp)).step hxu
  have er2 := rz_d { r with c := setX r.c 32 y }
  intros
  simp (disch := first | exact qD20 | fail) only [qG4, u0, er2]
  refine Next_spec (c := r.d) hd.1 hd.2 fun w7 hx7 => ?_
  have hfl := field_pccZ (nextX r.d)
  have hok : Okq (nextX r.d 32) := ⟨hd.1, Nat.mod_lt _ (by decide)⟩
  simp (disch := first | exact qD20 | fail) only [qG4, hfl]
  refine EnterG_spec hok fun z w8 hz hx8 => ?_
  have hx9 := hx7.trans hx8 (by simp)
  replace u0 := hx9.at u0 (by simp)
  replace m1 := hx9.at m1 (by simp)
  replace m2 := hx9.at m2 (by simp)
  simp (disch := first | exact qD20 | fail) only [qG4]
  refine tellZ_spec (x := z) u0 hrd fun w9 hxt => ?_
  have n1 := hxt.at m1 (by simp; omega)
  have n2 := hxt.at m2 (by simp; omega)
  have hxc : Ext [q] w w9 := (hxv.step (hx9.mono (by simp))).step hxt
  have ln1 := lt_of_at n1
  have ln2 := lt_of_at n2
  simp (disch := first | exact qD20 | fail) only [qG4, n1, n2, cx_over, cx_put, oz_over, oz_put, cx_sub, oz_sub]
  exact hK z (setX r.c 32 y) _ hbr (fun hn => by unfold numOp at hn; omega) (fun k hk => by unfold setX; rw [if_neg (by omega)]) qX
 by_cases h4 : ((r.i.op : Nat) : Int) = 4
 ·simp (disch := first | exact qD20 | fail) only [qG4, Int.reduceLT, joinR, h3, h4, g0, eim, him, eaa, eba, edp, ep, and_self]
  refine jumpG_spec g0 hrd ha hd (fun e va w9 hx9 => ?_) (fun x c w9 hs hx9 => ?_)
  ·have n1 := (hfin w9 hx9).1
   have n2 := (hfin w9 hx9).2.1
   have hxc := (hfin w9 hx9).2.2
   have ln1 := lt_of_at n1
   have ln2 := lt_of_at n2
   simp (disch := first | exact qD20 | fail) only [qG4, n1, n2, cx_over, cx_put, oz_over, oz_put, cx_sub, oz_sub]
   exact hT _ _ _ _ (by decide) qX
  ·have n1 := (hfin w9 hx9).1
   have n2 := (hfin w9 hx9).2.1
   have hxc := (hfin w9 hx9).2.2
   have ln1 := lt_of_at n1
   have ln2 := lt_of_at n2
   simp (disch := first | exact qD20 | fail) only [qG4, n1, n2, cx_over, cx_put, oz_over, oz_put, cx_sub, oz_sub]
   exact hK x c _ hbr (fun hn => by unfold numOp at hn; omega) hs qX
 by_cases h1 : ((r.i.op : Nat) : Int) = 1
 ·simp (disch := first | exact qD20 | fail) only [qG4, Nat.reduceAdd, Int.reduceLT, joinR, h3, h4, h1, g0, eim, him, eaa, eba, edp, ep, and_self]
  refine numZ_spec (n := im) g0 hrd fun w9 hx9 => ?_
  have n1 := (hfin w9 hx9).1
  have n2 := (hfin w9 hx9).2.1
  have hxc := (hfin w9 hx9).2.2
  have ln1 := lt_of_at n1
  have ln2 := lt_of_at n2
  simp (disch := first | exact qD20 | fail) only [qG4, n1, n2, cx_over, cx_put, oz_over, oz_put, cx_sub, oz_sub]
  exact hK _ _ _ hbr (fun _ => ⟨rfl, rfl⟩) (fun _ _ => rfl) qX
 by_cases h2 : ((r.i.op : Nat) : Int) = 2
 ·simp (disch := first | exact qD20 | fail) only [qG4, Nat.reduceAdd, Int.reduceLT, joinR, h3, h4, h1, h2, g0, eim, him, eaa, eba, edp, ep, and_self]
  intros
  refine MoveG_spec hd fun x w8 hx hx8 => ?_
  have hx7 := hfd.trans hx8 (by simp)
  simp (disch := first | exact qD20 | fail) only [qG4]
  refine tellZ_spec (x := x) (hx7.at g0 (by simp)) hrd fun w9 hx9 => ?_
  have n1 := (hfin w9 ((hx7.mono (by simp)).step hx9)).1
  have n2 := (hfin w9 ((hx7.mono (by simp)).step hx9)).2.1
  have hxc := (hfin w9 ((hx7.mono (by simp)).step hx9)).2.2
  have ln1 := lt_of_at n1
  have ln2 := lt_of_at n2
  simp (disch := first | exact qD20 | fail) only [qG4, n1, n2, cx_over, cx_put, oz_over, oz_put, cx_sub, oz_sub]
  exact hK x _ _ hbr (fun hn => by unfold numOp at hn; omega) (fun _ _ => rfl) qX
 by_cases h41 : ((r.i.op : Nat) : Int) = 41
 ·simp (disch := first | exact qD20 | fail) only [qG4, Nat.reduceAdd, Int.reduceLT, joinR, h3, h4, h1, h2, h41, g0, eim, him, eaa, eba, edp, ep, and_self]
  refine trapZ_spec (k := 2) (e := 0) (va := (r.d 32).a) g0 fun w9 hx8 => ?_
  have hx9 : Ext [q] w2 w9 := hx8.mono (by simp)
  have n1 := (hfin w9 hx9).1
  have n2 := (hfin w9 hx9).2.1
  have hxc := (hfin w9 hx9).2.2
  have ln1 := lt_of_at n1
  have ln2 := lt_of_at n2
  simp (disch := first | exact qD20 | fail) only [qG4, n1, n2, cx_over, cx_put, oz_over, oz_put, cx_sub, oz_sub]
  exact hT _ _ _ _ (by decide) qX
 by_cases h42 : ((r.i.op : Nat) : Int) = 42
 ·simp (disch := first | exact qD20 | fail) only [qG4, Nat.reduceAdd, Int.reduceLT, joinR, h3, h4, h1, h2, h41, h42, g0, eim, him, eaa, eba, edp, ep, and_self]
  refine trapZ_spec (k := 3) (e := 0) (va := (r.d 32).a) g0 fun w9 hx8 => ?_
  have hx9 : Ext [q] w2 w9 := hx8.mono (by simp)
  have n1 := (hfin w9 hx9).1
  have n2 := (hfin w9 hx9).2.1
  have hxc := (hfin w9 hx9).2.2
  have ln1 := lt_of_at n1
  have ln2 := lt_of_at n2
  simp (disch := first | exact qD20 | fail) only [qG4, n1, n2, cx_over, cx_put, oz_over, oz_put, cx_sub, oz_sub]
  exact hT _ _ _ _ (by decide) qX
 simp (disch := first | exact qD20 | fail) only [qG4, Nat.reduceAdd, Int.reduceLT, h3, h4, h1, h2, h41, h42, g0, eim, him, eaa, eba, edp, ep, and_self]
 refine joinL.intro fun J20 hJ20 => ?_
 have hend : ∀ b : Nat, b < 18446744073709551616 -> J20 [.int .u64 (b : Nat)] w2 := by
  intro b hbl
  apply hJ20
  intro _
  simp (disch := first | exact qD20 | fail) only [qG4, Nat.reduceAdd, g0, eaa]
  refine DoG_spec ha.2 hbl fun n o hn => ?_
  cases o with
  | true =>
   simp (disch := first | exact qD20 | fail) only [qG4]
   refine numZ_spec (n := n) g0 hrd fun w9 hx9 => ?_
   have n1 := (hfin w9 hx9).1
   have n2 := (hfin w9 hx9).2.1
   have hxc := (hfin w9 hx9).2.2
   have ln1 := lt_of_at n1
   have ln2 := lt_of_at n2
   simp (disch := first | exact qD20 | fail) only [qG4, n1, n2, cx_over, cx_put, oz_over, oz_put, cx_sub, oz_sub]
   exact hK _ _ _ hbr (fun _ => ⟨rfl, rfl⟩) (fun _ _ => rfl) qX
  | false =>
   simp (disch := first | exact qD20 | fail) only [qG4]
   refine capZ_spec g0 hrd ha hb fun x w9 hnm hx9 => ?_
   have n1 := (hfin w9 hx9).1
   have n2 := (hfin w9 hx9).2.1
   have hxc := (hfin w9 hx9).2.2
   have ln1 := lt_of_at n1
   have ln2 := lt_of_at n2
   simp (disch := first | exact qD20 | fail) only [qG4, n1, n2, cx_over, cx_put, oz_over, oz_put, cx_sub, oz_sub]
   exact hK x _ _ hbr hnm (fun _ _ => rfl) qX
 refine immediate_spec ho ?_
 generalize decide (22 <= r.i.op /\ r.i.op <= 30) = bi
 cases bi with
 | true =>
  simp (disch := first | exact qD20 | fail) only [qG4, Nat.reduceAdd, g0, eim, him]
  exact hend im hil
 | false =>
  simp (disch := first | exact qD20 | fail) only [qG4]
  exact hend r.b.a hb.2
open Go.Fx
set_option maxRecDepth 100000
theorem qZ21 : type_of% (And.intro @szR (And.intro @cq_len (@cq_all))) := ⟨@szR, @cq_len, @cq_all⟩
theorem qD21 {p : Prop} (h : p := by first | assumption | omega | (simp only [qZ21] <;> omega) | rfl | decide) : p := h
theorem LoadN_spec {w : World} {r q n a s : Nat} {m g : Nat -> Int} (h : Mem w r q n m g) (hn : 0 < n /\ n <= 1000) (ha : ¬ a < n * 4096) (ha64 : a < 18446744073709551616) (hs : Size s) {K : Value -> World -> Prop} (hK : ∀ w', Ext [] w w' -> K (.tuple #[.int .u64 0, .int .i64 2]) w') :
  callsK Tryz.prog 147 #[.pointer (some ⟨r, 0, none⟩), .int .u64 a, .int .i64 s] w K := by
 have hs8 : s <= 8 /\ 1 <= s := by rcases hs with h | h | h | h <;> omega
 apply F147_ok
 unfold F147
 simp (disch := first | exact qD21 | fail) only [qG5]
 refine number_spec ?_
 rw [if_pos (by rcases hs with h | h | h | h <;> omega)]
 simp (disch := first | exact qD21 | fail) only [qG5]
 refine place_spec h hn (by omega) (by omega) (fun c1 c2 => absurd c2 (by omega)) (fun c => ?_)
 simp (disch := first | exact qD21 | fail) only [qG5, joinR]
 intros
 exact hK _ qX
theorem StoreN_spec {w : World} {r q n a s : Nat} {v : Int} {m g : Nat -> Int} (h : Mem w r q n m g) (hn : 0 < n /\ n <= 1000) (ha : ¬ a < n * 4096) (ha64 : a < 18446744073709551616) (hs : Size s) {K : Value -> World -> Prop} (hK : ∀ w', Ext [] w w' -> K (.int .i64 2) w') :
  callsK Tryz.prog 23 #[.pointer (some ⟨r, 0, none⟩), .int .u64 a, .int .i64 s, .int .u64 v] w K := by
 have hs8 : s <= 8 /\ 1 <= s := by rcases hs with h | h | h | h <;> omega
 apply F23_ok
 unfold F23
 simp (disch := first | exact qD21 | fail) only [qG5]
 refine number_spec ?_
 rw [if_pos (by rcases hs with h | h | h | h <;> omega)]
 simp (disch := first | exact qD21 | fail) only [qG5]
 have hx1 : Ext [] w (w.alloc (.cells [.int .u64 v].toArray 22)) := qX
 refine place_spec (h.ext hx1 (by simp) (by simp)) hn (by omega) (by omega) (fun c1 c2 => absurd c2 (by omega)) (fun c => ?_)
 simp (disch := first | exact qD21 | fail) only [qG5, joinR]
 intros
 exact hK _ qX
theorem StoreCapN_spec {w : World} {r q n a : Nat} {t : Bool} {mt ad : Int} {m g : Nat -> Int} (h : Mem w r q n m g) (hn : 0 < n /\ n <= 1000) (ha : ¬ a < n * 4096) (ha64 : a < 18446744073709551616) {K : Value -> World -> Prop} (hK : ∀ w', Ext [] w w' -> K (.int .i64 2) w') :
  callsK Tryz.prog 25 #[.pointer (some ⟨r, 0, none⟩), .int .u64 a, .agg (capC t mt ad).toArray] w K := by
 apply F25_ok
 unfold F25
 simp (disch := first | exact qD21 | fail) only [qG5]
 have hx1 : Ext [] w (w.alloc (.cells (capC t mt ad).toArray 24)) := qX
 refine place_spec (h.ext hx1 (by simp) (by simp)) hn (by omega) (by omega) (fun c1 c2 => absurd c2 (by omega)) (fun c => ?_)
 simp (disch := first | exact qD21 | fail) only [qG5, joinR]
 exact hK _ hx1
theorem LoadCapN_spec {w : World} {r q n a : Nat} {m g : Nat -> Int} (h : Mem w r q n m g) (hn : 0 < n /\ n <= 1000) (ha : ¬ a < n * 4096) (ha64 : a < 18446744073709551616) {K : Value -> World -> Prop}
  (hK : ∀ w', Ext [] w w' -> K (.tuple #[.agg (cq Cq.zero).toArray, .int .i64 2]) w') :
  callsK Tryz.prog 148 #[.pointer (some ⟨r, 0, none⟩), .int .u64 a] w K := by
 apply F148_ok
 unfold F148
 simp (disch := first | exact qD21 | fail) only [qG5]
 have hx1 : Ext [] w (w.alloc (.cells [.bool false, .int .u64 0, .int .u64 0].toArray 24)) := qX
 have hc4 : (w.alloc (.cells [.bool false, .int .u64 0, .int .u64 0].toArray 24)).heap[w.heap.size]? = some (.cells [.bool false, .int .u64 0, .int .u64 0].toArray 24 (0, 0)) := by simp (disch := first | exact qD21 | fail) only [qG5]
 refine place_spec (h.ext hx1 (by simp) (by simp)) hn (by omega) (by omega) (fun c1 c2 => absurd c2 (by omega)) (fun c => ?_)
 simp (disch := first | exact qD21 | fail) only [qG5, Nat.reduceAdd, joinR, capZ, cq_over0, cq_put, cq_sub]
 exact hK _ hx1
theorem wrongN_spec {w : World} {K : Value -> World -> Prop} (hK : ∀ n : Nat, K (.int .i64 (n : Nat)) w) : callsK Tryz.prog 163 #[.int .i64 2] w K := by
 apply F163_ok
 unfold F163
 simp (disch := first | exact qD21 | fail) only [qG5]
 exact hK 1
theorem wrongN_still {w : World} {K : Value -> Prop} (hK : K (.int .i64 1)) : callsS Tryz.prog 163 #[.int .i64 2] w K := callsS.of _ (by
 apply F163_ok
 unfold F163
 simp (disch := first | exact qD21 | fail) only [qG5]
 exact ⟨by simp, trivial⟩) hK
theorem FLoad_spec {w : World} {rb pb n a s : Nat} {m g : Nat -> Int} (hM : Mem w rb pb n m g) (hn : 0 < n /\ n <= 1000) (ha64 : a < 18446744073709551616) (hs : Size s) (hal : a % s = 0) {K : Value -> World -> Prop} (hK : ∀ (v e : Nat) w', v < 18446744073709551616 -> Ext [] w w' -> K (.tuple #[.int .u64 (v : Nat), .int .i64 (e : Nat)]) w') :
  callsK Tryz.prog 159 #[.agg [.pointer (some ⟨rb, 0, none⟩)].toArray, .int .u64 (a : Nat), .int .i64 (s : Nat)] w K := by
 apply F159_ok
 unfold F159
 simp (disch := first | exact qD21 | fail) only [qG5]
 have hx0 : Ext [] w (w.alloc (.cells [.pointer (some ⟨rb, 0, none⟩)].toArray 55)) := qX
 have hM1 := hM.ext hx0 (by simp) (by simp)
 by_cases ha : a < n * 4096
 ·refine Load_spec hM1 hn ha hs hal fun w1 hx1 => ?_
  simp (disch := first | exact qD21 | fail) only [qG5]
  refine wrong_spec ?_
  refine hK (leN m a s) 0 _ ?_ (hx0.trans hx1 (by simp))
  have := leN_lt hM.byte a s
  rcases hs with h | h | h | h <;> subst h <;> exact Nat.lt_of_lt_of_le this (by decide)
 ·refine LoadN_spec hM1 hn ha ha64 hs fun w1 hx1 => ?_
  simp (disch := first | exact qD21 | fail) only [qG5]
  refine wrongN_spec fun e => ?_
  exact hK 0 e _ (by decide) (hx0.trans hx1 (by simp))
theorem FStore_spec {w : World} {rb pb n a s : Nat} {v : Nat} {m g : Nat -> Int} (hM : Mem w rb pb n m g) (hn : 0 < n /\ n <= 1000) (ha64 : a < 18446744073709551616) (hs : Size s) (hal : a % s = 0) (hv : v < 18446744073709551616) {K : Value -> World -> Prop} (hK : ∀ (e : Nat) w', Ext [pb] w w' -> K (.int .i64 (e : Nat)) w') :
  callsK Tryz.prog 161 #[.agg [.pointer (some ⟨rb, 0, none⟩)].toArray, .int .u64 (a : Nat), .int .i64 (s : Nat), .int .u64 (v : Nat)] w K := by
 apply F161_ok
 unfold F161
 simp (disch := first | exact qD21 | fail) only [qG5]
 have hx0 : Ext [] w (w.alloc (.cells [.pointer (some ⟨rb, 0, none⟩)].toArray 55)) := qX
 have hM1 := hM.ext hx0 (by simp) (by simp)
 by_cases ha : a < n * 4096
 ·refine Store_spec hM1 hn ha hs hal (by omega) fun g' w1 _ _ hx1 => ?_
  simp (disch := first | exact qD21 | fail) only [qG5]
  refine wrong_spec ?_
  exact hK 0 _ ((hx0.mono (by simp)).step hx1)
 ·refine StoreN_spec hM1 hn ha ha64 hs fun w1 hx1 => ?_
  simp (disch := first | exact qD21 | fail) only [qG5]
  refine wrongN_spec fun e => ?_
  exact hK e _ ((hx0.trans hx1 (by simp)).mono (by simp))
theorem FStoreCapN_spec {w : World} {rb pb n a : Nat} {y : Cq} {m g : Nat -> Int} (hM : Mem w rb pb n m g) (hn : 0 < n /\ n <= 1000) (ha : ¬ a < n * 4096) (ha64 : a < 18446744073709551616) {K : Value -> World -> Prop} (hK : ∀ (e : Nat) w', Ext [] w w' -> K (.int .i64 (e : Nat)) w') :
  callsK Tryz.prog 162 #[.agg [.pointer (some ⟨rb, 0, none⟩)].toArray, .int .u64 (a : Nat), .agg (cq y).toArray] w K := by
 apply F162_ok
 unfold F162
 simp (disch := first | exact qD21 | fail) only [qG5, cq_sub]
 have hx0 : Ext [] w ((w.alloc (.cells [.pointer (some ⟨rb, 0, none⟩)].toArray 55)).alloc (.cells (cq y).toArray 24)) := qX
 have hM1 := hM.ext hx0 (by simp) (by simp)
 refine StoreCapN_spec (t := y.t) (mt := y.m) (ad := y.a) hM1 hn ha ha64 fun w1 hx1 => ?_
 simp (disch := first | exact qD21 | fail) only [qG5]
 refine wrongN_spec fun e => ?_
 exact hK e _ (hx0.trans hx1 (by simp))
theorem FLoadCapN_spec {w : World} {rb pb n a : Nat} {m g : Nat -> Int} (hM : Mem w rb pb n m g) (hn : 0 < n /\ n <= 1000) (ha : ¬ a < n * 4096) (ha64 : a < 18446744073709551616) {K : Value -> World -> Prop} (hK : ∀ (e : Nat) w', Ext [] w w' -> K (.tuple #[.agg (cq Cq.zero).toArray, .int .i64 (e : Nat)]) w') :
  callsK Tryz.prog 160 #[.agg [.pointer (some ⟨rb, 0, none⟩)].toArray, .int .u64 (a : Nat)] w K := by
 apply F160_ok
 unfold F160
 simp (disch := first | exact qD21 | fail) only [qG5]
 have hx0 : Ext [] w ((w.alloc (.cells [.pointer (some ⟨rb, 0, none⟩)].toArray 55)).alloc (.cells [.bool false, .int .u64 0, .int .u64 0].toArray 24)) := qX
 have g1 : ((w.alloc (.cells [.pointer (some ⟨rb, 0, none⟩)].toArray 55)).alloc (.cells [.bool false, .int .u64 0, .int .u64 0].toArray 24)).heap[w.heap.size + 1]? = some (.cells [.bool false, .int .u64 0, .int .u64 0].toArray 24 (0, 0)) := alloc_at (by simp only [szR])
 have hM1 := hM.ext hx0 (by simp) (by simp)
 refine LoadCapN_spec hM1 hn ha ha64 fun w1 hx1 => ?_
 have h1 := hx1.at g1 (by simp)
 have l1 := lt_of_at h1
 have hxa := hx0.trans hx1 (by simp)
 simp (disch := first | exact qD21 | fail) only [qG5, cq_over0, cq_put, cq_sub]
 refine wrongN_still ?_
 simp (disch := first | exact qD21 | fail) only [qG5, h1, cq_over0, cq_put, cq_sub]
 exact hK 1 _ qX
end Go.Proofs.YtplfniijbeinmaaGreat
