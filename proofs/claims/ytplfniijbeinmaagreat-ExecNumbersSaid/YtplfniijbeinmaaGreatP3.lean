/- Part 3 of what the law ExecNumbers stands on: formulas of the functions that it reaches, and what each of them does; conditions: those of each theorem. -/
import Derived.Test.YtplfniijbeinmaaGreatP2
set_option linter.unusedVariables false
set_option linter.unusedSimpArgs false
namespace Go.Proofs.YtplfniijbeinmaaGreat
open Go.Fx
set_option maxRecDepth 100000
def ones : Nat := 18446744073709551615
/-- a part's mask. -/
def msk (p : Nat × Nat × Nat) : Nat × Nat × Nat := (p.1, p.2.1, ones)
theorem qZ7 : type_of% (And.intro @szR (And.intro @rwC_len (And.intro @rwC_all (And.intro @rwsC_len (And.intro @rwsC_all (And.intro @ptC_len (@ptC_all))))))) := ⟨@szR, @rwC_len, @rwC_all, @rwsC_len, @rwsC_all, @ptC_len, @ptC_all⟩
theorem qD7 {p : Prop} (h : p := by first | assumption | omega | (simp only [qZ7] <;> omega) | rfl | decide) : p := h
theorem putF_spec {w : World} {x y b1 b2 : Nat} {p : Nat × Nat × Nat} (hp : ptOk p) (hx : x < 2 ^ p.1) (hy : y < 2 ^ p.1) (hne : b1 ≠ b2) (h1 : w.heap[b1]? = some (.cells [.int .u64 (x : Nat)].toArray 22 (0, 0))) (h2 : w.heap[b2]? = some (.cells [.int .u64 (y : Nat)].toArray 22 (0, 0))) {K : Value -> World -> Prop}
  (hK : ∀ w', w'.heap[b1]? = some (.cells [.int .u64 (putN x p : Nat)].toArray 22 (0, 0)) -> w'.heap[b2]? = some (.cells [.int .u64 (putN y (msk p) : Nat)].toArray 22 (0, 0)) -> Ext [b1, b2] w w' -> K (.tuple #[]) w') :
  callsK Tryz.prog 82 #[.int .i64 (p.1 : Nat), .int .i64 (p.2.1 : Nat), .int .u64 (p.2.2 : Nat), .pointer (some ⟨b1, 0, none⟩), .pointer (some ⟨b2, 0, none⟩)] w K := by
 obtain ⟨q1, q2, q3, q4⟩ := hp
 apply F82_ok
 unfold F82
 rw [drewK_eq]
 have hd0 : Ext [] w w.drew := qX
 replace hK : ∀ w', w'.heap[b1]? = some (.cells [.int .u64 (putN x p : Nat)].toArray 22 (0, 0)) -> w'.heap[b2]? = some (.cells [.int .u64 (putN y (msk p) : Nat)].toArray 22 (0, 0)) -> Ext [b1, b2] w.drew w' -> K (.tuple #[]) w' := fun w' a b h => hK w' a b (Ext.step (hd0.mono nofun) h)
 replace h1 := hd0.at h1 (by simp)
 replace h2 := hd0.at h2 (by simp)
 clear hd0
 generalize w.drew = w at *
 refine relX.ext [] ?_
 refine postX.is (.int .u64 (x : Nat)) (fun v w' hR _ => by
  have e := hR.at h1 (by simp)
  simp (disch := first | exact qD7 | fail) only [qG1, e]
  exact okX.is) ?_
 refine postX.is (.int .i64 (p.1 : Nat)) (fun v w' hR _ => okX.is) ?_
 refine postX.is (.int .i64 (p.2.1 : Nat)) (fun v w' hR _ => okX.is) ?_
 refine postX.is (.int .u64 (p.2.2 : Nat)) (fun v w' hR _ => okX.is) ?_
 refine postX.is (.int .u64 (putN x p : Nat)) (fun v w' hR hd => by
  obtain ⟨d1, d2, d3, d4, -⟩ := hd
  simp (disch := first | exact qD7 | fail) only [qG1, d1, d2, d3, d4]
  exact fPut_spec (by omega) (by omega) (by omega) (by simpa using hx) q4 fun w'' hx => okX.mk hx rfl) ?_
 refine postX.is (.int .u64 (y : Nat)) (fun v w' hR _ => by
  have e := hR.at h2 (by simp)
  simp (disch := first | exact qD7 | fail) only [qG1, e]
  exact okX.is) ?_
 refine postX.is (.int .i64 (p.1 : Nat)) (fun v w' hR _ => okX.is) ?_
 refine postX.is (.int .i64 (p.2.1 : Nat)) (fun v w' hR _ => okX.is) ?_
 intro v w1 hR hd _
 obtain ⟨-, -, -, -, d12, d13, d14, d15, -⟩ := hd
 rw [d12, d13, d14, d15]
 simp (disch := first | exact qD7 | fail) only [qG1]
 refine fPut_spec (v := ones) (by omega) (by omega) (by omega) (by simpa using hy) (by decide) fun w2 hx2 => ?_
 have hx3 := hR.trans hx2 (by simp)
 have k1 := hx3.at h1 (by simp)
 have k2 := hx3.at h2 (by simp)
 have l1 := lt_of_at k1
 have l2 := lt_of_at k2
 have m2 : (World.upd w2 b1 [.int .u64 (putN x p : Nat)]).heap[b2]? = some (.cells [.int .u64 (y : Nat)].toArray 22 (0, 0)) := (upd_ne (Ne.symm hne)).trans k2
 simp (disch := first | exact qD7 | fail) only [qG1, k1, m2, List.set_cons_zero]
 have hx4 : Ext [b1, b2] w (World.upd (World.upd w2 b1 [.int .u64 (putN x p : Nat)]) b2 [.int .u64 (putN y (msk p) : Nat)]) := by
  have hx5 : Ext [b1, b2] w w2 := hx3.mono nofun
  exact qX
 exact hK _ ((upd_ne hne).trans (upd_at k1)) (upd_at m2) hx4
/-- what lays a row's fixed parts. -/
def fxP (r : Rw) : List (Nat × Nat × Nat) := (0, 7, r.c) :: if r.s = 85 ∨ r.s = 74 then [] else if r.s = 78 then [(7, 13, 0), (20, 12, r.o)] else (12, 3, r.f) :: if r.s = 82 then [(25, 7, r.o)] else if r.s = 71 then [(20, 5, r.o), (25, 7, 127)] else if r.s = 72 then [(26, 6, r.o)] else []
def fixW (r : Rw) : Nat := (fxP r).foldl putN 0
def fixM (r : Rw) : Nat := ((fxP r).map msk).foldl putN 0
theorem fixEnd {w : World} {b2 b3 x y i j : Nat} (hne : b2 ≠ b3) (hij : i ≠ j) (h2 : w.heap[b2]? = some (.cells [.int .u64 (x : Nat)].toArray 22 (0, 0))) (h3 : w.heap[b3]? = some (.cells [.int .u64 (y : Nat)].toArray 22 (0, 0))) {K : Value -> World -> Prop} (hK : ∀ w', Ext [b2, b3] w w' -> K (.tuple #[.int .u64 (x : Nat), .int .u64 (y : Nat)]) w') :
  drewK (fun w =>
 relX fun R2 =>
 postX R2 (fun p2_15 => allX R2 w fun V2 w => True -> kV Tryz.prog (Instr.loadAt 22 (.pointer (some ⟨b2, 0, none⟩))) w (okX R2 w p2_15)) fun p2_15 =>
 postX R2 (fun p2_16 => allX R2 w fun V2 w => True -> kV Tryz.prog (Instr.loadAt 22 (.pointer (some ⟨b3, 0, none⟩))) w (okX R2 w p2_16)) fun p2_16 =>
 postX R2 (fun p2_n2 => allX R2 w fun V2 w => p2_15 (V2 i) w /\ True -> kU Tryz.prog (Instr.storeAt 22 (.pointer (some ⟨b2, 0, none⟩)) (V2 i)) w (okX R2 w p2_n2)) fun p2_n2 =>
 allX R2 w fun V2 w => p2_15 (V2 i) w /\ p2_16 (V2 j) w /\ (∃ u, p2_n2 u w) /\ True -> xDist V2 [] ->
 kU Tryz.prog (Instr.storeAt 22 (.pointer (some ⟨b3, 0, none⟩)) (V2 j)) w fun _ w =>
 retV Tryz.prog 22 (.pointer (some ⟨b2, 0, none⟩)) w fun r3 =>
 retV Tryz.prog 22 (.pointer (some ⟨b3, 0, none⟩)) w fun r4 =>
 K (.tuple #[r3, r4]) w) w := by
 rw [drewK_eq]
 have hd0 : Ext [b2, b3] w w.drew := qX
 have hd1 : Ext [] w w.drew := qX
 replace hK : ∀ w', Ext [b2, b3] w.drew w' -> K (.tuple #[.int .u64 (x : Nat), .int .u64 (y : Nat)]) w' := fun w' h => hK w' (hd0.step h)
 replace h2 := hd1.at h2 (by simp)
 replace h3 := hd1.at h3 (by simp)
 clear hd0 hd1
 generalize w.drew = w at *
 refine relX.keep [b2] b2 (.cells [.int .u64 (x : Nat)].toArray 22 (0, 0)) ?_
 refine postX.is (.int .u64 (x : Nat)) (fun v w' hR _ => by
  have e := hR.2 h2
  simp (disch := first | exact qD7 | fail) only [qG1, e]
  exact okX.mk ⟨Ext.refl, id⟩ rfl) ?_
 refine postX.is (.int .u64 (y : Nat)) (fun v w' hR _ => by
  have e := hR.1.at h3 (by simpa using Ne.symm hne)
  simp (disch := first | exact qD7 | fail) only [qG1, e]
  exact okX.mk ⟨Ext.refl, id⟩ rfl) ?_
 refine postX.intro (fun _ _ => True) (fun _ _ _ _ _ => trivial) (fun v w' hR hd => by
  obtain ⟨d1, -⟩ := hd
  have e := hR.2 h2
  have l := lt_of_at e
  simp (disch := first | exact qD7 | fail) only [qG1, d1, e, List.set_cons_zero]
  have hx : Ext [b2] w' (World.upd w' b2 [.int .u64 (x : Nat)]) := qX
  exact okX.mk ⟨hx, fun _ => upd_at e⟩ trivial) ?_
 intro v w1 hR hd _
 obtain ⟨d1, d2, -⟩ := hd
 rw [d2]
 have k2 := hR.2 h2
 have k3 := hR.1.at h3 (by simpa using Ne.symm hne)
 have l2 := lt_of_at k2
 have l3 := lt_of_at k3
 have hx1 : Ext [b2, b3] w (World.upd w1 b3 [.int .u64 (y : Nat)]) := by
  have := hR.1.mono (T := [b2, b3]) (by simp)
  exact qX
 have m2 : (World.upd w1 b3 [.int .u64 (y : Nat)]).heap[b2]? = some (.cells [.int .u64 (x : Nat)].toArray 22 (0, 0)) := (upd_ne hne).trans k2
 have m3 : (World.upd w1 b3 [.int .u64 (y : Nat)]).heap[b3]? = some (.cells [.int .u64 (y : Nat)].toArray 22 (0, 0)) := upd_at k3
 simp (disch := first | exact qD7 | fail) only [qG1, k3, List.set_cons_zero, m2, m3]
 exact hK _ hx1
open Go.Fx
set_option maxRecDepth 100000
theorem put_lt {x a k v b : Nat} (h : x < 2 ^ a) (h2 : a + k <= b) : putN x (a, k, v) < 2 ^ b := by
 rw [putN_eq]
 have h3 : v % 2 ^ k < 2 ^ k := Nat.mod_lt _ (Nat.two_pow_pos k)
 have h4 : v % 2 ^ k * 2 ^ a + 2 ^ a <= 2 ^ k * 2 ^ a := by
  have := Nat.mul_le_mul_right (2 ^ a) h3
  rwa [Nat.succ_mul] at this
 have h5 : 2 ^ k * 2 ^ a <= 2 ^ b := by
  rw [<- Nat.pow_add]
  exact Nat.pow_le_pow_right (by omega) (by omega)
 omega
theorem ptk {a k v : Nat} (h : 0 < k /\ k < 64 /\ a + k <= 64) (hv : v < 18446744073709551616) : ptOk (a, k, v) := ⟨h.1, h.2.1, h.2.2, hv⟩
def rwOk (r : Rw) : Prop := r.s < 256 /\ r.c < 18446744073709551616 /\ r.f < 18446744073709551616 /\ r.o < 18446744073709551616
theorem put_ltm {x a k v b : Nat} (h : x < 2 ^ a) (h2 : a + k <= b) : putN x (msk (a, k, v)) < 2 ^ b := put_lt (v := ones) h h2
theorem put7m (v : Nat) : putN 0 (msk (0, 7, v)) < 2 ^ 7 := put_ltm (b := 7) (Nat.two_pow_pos _) (by decide)
theorem put7 (v : Nat) : putN 0 (0, 7, v) < 2 ^ 7 := put_lt (b := 7) (Nat.two_pow_pos _) (by decide)
theorem up7 {x : Nat} (h : x < 2 ^ 7) : x < 2 ^ 12 := Nat.lt_of_lt_of_le h (Nat.pow_le_pow_right (by decide) (by decide))
set_option maxHeartbeats 1000000 in
theorem fixed_spec {w : World} {r : Rw} (hr : rwOk r) {K : Value -> World -> Prop} (hK : ∀ w', Ext [] w w' -> K (.tuple #[.int .u64 (fixW r : Nat), .int .u64 (fixM r : Nat)]) w') : callsK Tryz.prog 37 #[.agg (rwC r).toArray] w K := by
 obtain ⟨hs, hc, hf, ho⟩ := hr
 apply F37_ok
 unfold F37
 have r1 : (rwC r)[1]? = some (.int .u8 (r.s : Nat)) := rfl
 have r2 : (rwC r)[2]? = some (.int .u64 (r.c : Nat)) := rfl
 have r3 : (rwC r)[3]? = some (.int .u64 (r.f : Nat)) := rfl
 have r4 : (rwC r)[4]? = some (.int .u64 (r.o : Nat)) := rfl
 have hx0 : Ext [] w (((w.alloc (.cells (rwC r).toArray 101)).alloc (.cells [.int .u64 0].toArray 22)).alloc (.cells [.int .u64 0].toArray 22)) := qX
 have g0 : (((w.alloc (.cells (rwC r).toArray 101)).alloc (.cells [.int .u64 0].toArray 22)).alloc (.cells [.int .u64 0].toArray 22)).heap[w.heap.size]? = some (.cells (rwC r).toArray 101 (0, 0)) := by simp (disch := first | exact qD7 | fail) only [qG1]
 have g1 : (((w.alloc (.cells (rwC r).toArray 101)).alloc (.cells [.int .u64 0].toArray 22)).alloc (.cells [.int .u64 0].toArray 22)).heap[w.heap.size + 1]? = some (.cells [.int .u64 ((0 : Nat) : Int)].toArray 22 (0, 0)) := by simp (disch := first | exact qD7 | fail) only [qG1]
 have g2 : (((w.alloc (.cells (rwC r).toArray 101)).alloc (.cells [.int .u64 0].toArray 22)).alloc (.cells [.int .u64 0].toArray 22)).heap[w.heap.size + 2]? = some (.cells [.int .u64 ((0 : Nat) : Int)].toArray 22 (0, 0)) := by simp (disch := first | exact qD7 | fail) only [qG1]
 simp (disch := first | exact qD7 | fail) only [qG1, r2]
 have hne : w.heap.size + 1 ≠ w.heap.size + 2 := by omega
 refine putF_spec (p := (0, 7, r.c)) (ptk (by decide) hc) (Nat.two_pow_pos _) (Nat.two_pow_pos _) hne g1 g2 fun w1 h1 h2 hx1 => ?_
 have h0 := hx1.at g0 (by simp)
 have l0 := lt_of_at h0
 have l1 := lt_of_at h1
 have l2 := lt_of_at h2
 have hxa : Ext [] w w1 := hx0.trans hx1 (by intro k hk; simp at hk; omega)
 clear g0 g1 g2 hx0 hx1
 have p1 := put7 r.c
 have p2 := put7m r.c
 have back : ∀ (w2 w3 : World), Ext [w.heap.size + 1, w.heap.size + 2] w2 w3 -> Ext [] w w2 -> Ext [] w w3 := fun w2 w3 h h' => h'.trans h (by intro k hk; simp at hk; omega)
 simp (disch := first | exact qD7 | fail) only [qG1, h0, r1]
 refine joinL.intro fun J0 hJ0 => ?_
 have hW : fixW r = (fxP r).foldl putN 0 := rfl
 have hM : fixM r = ((fxP r).map msk).foldl putN 0 := rfl
 by_cases s1 : r.s = 85 ∨ r.s = 74
 ·have hP : fxP r = [(0, 7, r.c)] := by unfold fxP; rw [if_pos s1]
  rw [hP] at hW hM
  rw [List.foldl_cons, List.foldl_nil] at hW
  rw [List.map_cons, List.map_nil, List.foldl_cons, List.foldl_nil] at hM
  have hfin : J0 [.bool true] w1 := by
   apply hJ0
   intro _
   refine .inl ⟨rfl, ?_⟩
   refine fixEnd hne (by omega) h1 h2 fun w2 hx2 => ?_
   rw [<- hW, <- hM]
   exact hK w2 (back _ _ hx2 hxa)
  by_cases s2 : r.s = 85
  ·simp (disch := first | exact qD7 | fail) only [qG1, s2]
   exact hfin
  ·have s3 : r.s = 74 := by omega
   simp (disch := first | exact qD7 | fail) only [qG1, s3]
   exact hfin
 ·have s2 : r.s ≠ 85 := fun h => s1 (.inl h)
  have s3 : r.s ≠ 74 := fun h => s1 (.inr h)
  simp (disch := first | exact qD7 | fail) only [qG1]
  apply hJ0
  intro _
  refine .inr ⟨rfl, ?_⟩
  have step : ∀ (w2 : World) (x y a k v : Nat) (K' : Value -> World -> Prop), w2.heap[w.heap.size]? = some (.cells (rwC r).toArray 101 (0, 0)) -> w2.heap[w.heap.size + 1]? = some (.cells [.int .u64 (x : Nat)].toArray 22 (0, 0)) -> w2.heap[w.heap.size + 2]? = some (.cells [.int .u64 (y : Nat)].toArray 22 (0, 0)) -> Ext [] w w2 -> ptOk (a, k, v) -> x < 2 ^ a -> y < 2 ^ a ->
    (∀ w3, w3.heap[w.heap.size]? = some (.cells (rwC r).toArray 101 (0, 0)) -> w3.heap[w.heap.size + 1]? = some (.cells [.int .u64 (putN x (a, k, v) : Nat)].toArray 22 (0, 0)) -> w3.heap[w.heap.size + 2]? = some (.cells [.int .u64 (putN y (msk (a, k, v)) : Nat)].toArray 22 (0, 0)) -> Ext [] w w3 -> K' (.tuple #[]) w3) ->
    callsK Tryz.prog 82 #[.int .i64 (a : Nat), .int .i64 (k : Nat), .int .u64 (v : Nat), .pointer (some ⟨w.heap.size + 1, 0, none⟩), .pointer (some ⟨w.heap.size + 2, 0, none⟩)] w2 K' :=
   fun w2 x y a k v K' a0 a1 a2 ax ap bx by' hk => putF_spec (p := (a, k, v)) ap bx by' hne a1 a2 fun w3 c1 c2 cx => hk w3 (cx.at a0 (by simp)) c1 c2 (back _ _ cx ax)
  by_cases s4 : r.s = 78
  ·have hP : fxP r = [(0, 7, r.c), (7, 13, 0), (20, 12, r.o)] := by unfold fxP; rw [if_neg s1, if_pos s4]
   rw [hP] at hW hM
   rw [List.foldl_cons, List.foldl_cons, List.foldl_cons, List.foldl_nil] at hW
   rw [List.map_cons, List.map_cons, List.map_cons, List.map_nil, List.foldl_cons, List.foldl_cons, List.foldl_cons, List.foldl_nil] at hM
   simp (disch := first | exact qD7 | fail) only [qG1, s4]
   refine step w1 _ _ 7 13 0 _ h0 h1 h2 hxa (ptk (by decide) (by decide)) p1 p2 fun w2 a0 a1 a2 ax => ?_
   have m0 := lt_of_at a0
   simp (disch := first | exact qD7 | fail) only [qG1, a0, r4]
   refine step w2 _ _ 20 12 r.o _ a0 a1 a2 ax (ptk (by decide) ho) (put_lt (b := 20) p1 (by decide)) (put_ltm (b := 20) p2 (by decide)) fun w3 b0 b1 b2 bx => ?_
   rw [<- hW] at b1
   rw [<- hM] at b2
   exact fixEnd hne (by omega) b1 b2 fun w4 hx4 => hK w4 (back _ _ hx4 bx)
  ·simp (disch := first | exact qD7 | fail) only [qG1, h0, r3]
   have q1 := up7 p1
   have q2 := up7 p2
   refine step w1 _ _ 12 3 r.f _ h0 h1 h2 hxa (ptk (by decide) hf) q1 q2 fun w2 a0 a1 a2 ax => ?_
   have m0 := lt_of_at a0
   refine joinL.intro fun J8 hJ8 => ?_
   have fin8 : ∀ (x y : Nat), fixW r = x -> fixM r = y -> ∀ (w3 : World), w3.heap[w.heap.size + 1]? = some (.cells [.int .u64 (x : Nat)].toArray 22 (0, 0)) -> w3.heap[w.heap.size + 2]? = some (.cells [.int .u64 (y : Nat)].toArray 22 (0, 0)) -> Ext [] w w3 -> J8 [] w3 := by
    intro x y hx hy w3 c1 c2 cx
    apply hJ8
    intro _
    rw [<- hx] at c1
    rw [<- hy] at c2
    exact fixEnd hne (by omega) c1 c2 fun w4 hx4 => hK w4 (back _ _ hx4 cx)
   by_cases s5 : r.s = 82
   ·have hP : fxP r = [(0, 7, r.c), (12, 3, r.f), (25, 7, r.o)] := by unfold fxP; rw [if_neg s1, if_neg s4, if_pos s5]
    rw [hP] at hW hM
    rw [List.foldl_cons, List.foldl_cons, List.foldl_cons, List.foldl_nil] at hW
    rw [List.map_cons, List.map_cons, List.map_cons, List.map_nil, List.foldl_cons, List.foldl_cons, List.foldl_cons, List.foldl_nil] at hM
    simp (disch := first | exact qD7 | fail) only [qG1, a0, r1, r4, s5]
    refine step w2 _ _ 25 7 r.o _ a0 a1 a2 ax (ptk (by decide) ho) (put_lt (b := 25) q1 (by decide)) (put_ltm (b := 25) q2 (by decide)) fun w3 b0 b1 b2 bx => ?_
    exact fin8 _ _ hW hM w3 b1 b2 bx
   ·by_cases s6 : r.s = 71
    ·have hP : fxP r = [(0, 7, r.c), (12, 3, r.f), (20, 5, r.o), (25, 7, 127)] := by unfold fxP; rw [if_neg s1, if_neg s4, if_neg s5, if_pos s6]
     rw [hP] at hW hM
     rw [List.foldl_cons, List.foldl_cons, List.foldl_cons, List.foldl_cons, List.foldl_nil] at hW
     rw [List.map_cons, List.map_cons, List.map_cons, List.map_cons, List.map_nil, List.foldl_cons, List.foldl_cons, List.foldl_cons, List.foldl_cons, List.foldl_nil] at hM
     simp (disch := first | exact qD7 | fail) only [qG1, a0, r1, r4, s6]
     refine step w2 _ _ 20 5 r.o _ a0 a1 a2 ax (ptk (by decide) ho) (put_lt (b := 20) q1 (by decide)) (put_ltm (b := 20) q2 (by decide)) fun w3 b0 b1 b2 bx => ?_
     refine step w3 _ _ 25 7 127 _ b0 b1 b2 bx (ptk (by decide) (by decide)) (put_lt (b := 25) (put_lt (b := 20) q1 (by decide)) (by decide)) (put_ltm (b := 25) (put_ltm (b := 20) q2 (by decide)) (by decide)) fun w4 c0 c1 c2 cx => ?_
     exact fin8 _ _ hW hM w4 c1 c2 cx
    ·by_cases s7 : r.s = 72
     ·have hP : fxP r = [(0, 7, r.c), (12, 3, r.f), (26, 6, r.o)] := by unfold fxP; rw [if_neg s1, if_neg s4, if_neg s5, if_neg s6, if_pos s7]
      rw [hP] at hW hM
      rw [List.foldl_cons, List.foldl_cons, List.foldl_cons, List.foldl_nil] at hW
      rw [List.map_cons, List.map_cons, List.map_cons, List.map_nil, List.foldl_cons, List.foldl_cons, List.foldl_cons, List.foldl_nil] at hM
      simp (disch := first | exact qD7 | fail) only [qG1, a0, r1, r4, s7]
      refine step w2 _ _ 26 6 r.o _ a0 a1 a2 ax (ptk (by decide) ho) (put_lt (b := 26) q1 (by decide)) (put_ltm (b := 26) q2 (by decide)) fun w3 b0 b1 b2 bx => ?_
      exact fin8 _ _ hW hM w3 b1 b2 bx
     ·have hP : fxP r = [(0, 7, r.c), (12, 3, r.f)] := by unfold fxP; rw [if_neg s1, if_neg s4, if_neg s5, if_neg s6, if_neg s7]
      rw [hP] at hW hM
      rw [List.foldl_cons, List.foldl_cons, List.foldl_nil] at hW
      rw [List.map_cons, List.map_cons, List.map_nil, List.foldl_cons, List.foldl_cons, List.foldl_nil] at hM
      simp (disch := first | exact qD7 | fail) only [qG1, a0, r1]
      exact fin8 _ _ hW hM w2 a1 a2 ax
open Go.Fx
set_option maxRecDepth 100000
/-- a piece: where it goes, how long, where it is. -/
def pcC (p : Nat × Nat × Nat) : List Value := [.int .i64 (p.1 : Nat), .int .i64 (p.2.1 : Nat), .int .i64 (p.2.2 : Nat)]
theorem pcC_len (p : Nat × Nat × Nat) : (pcC p).length = 3 := by simp [pcC]
theorem pcC_all (p : Nat × Nat × Nat) : (pcC p).all (fun v => v.oneCell') = true := by simp [pcC]; exact ⟨rfl, rfl, rfl⟩
theorem pcC_over (p : Nat × Nat × Nat) : splice [.int .i64 0, .int .i64 0, .int .i64 0] 0 (pcC p) = pcC p := rfl
theorem pcC_over2 (p : Nat × Nat × Nat) : pcC p ++ List.drop (pcC p).length [.int .i64 0, .int .i64 0, .int .i64 0] = pcC p := by simp [pcC]
def pcOk (p : Nat × Nat × Nat) : Prop := 0 < p.2.1 /\ p.2.1 < 64 /\ p.1 + p.2.1 <= 64 /\ p.2.2 + p.2.1 <= 64
/-- a piece of a word, laid. -/
def pcN (W x : Nat) (p : Nat × Nat × Nat) : Nat := putN x (p.1, p.2.1, W / 2 ^ p.2.2 % 2 ^ p.2.1)
theorem shr_natX (a n : Nat) : ((a : Nat) : Int).fdiv (2 ^ n) = ((a / 2 ^ n : Nat) : Int) := by
 rw [Int.fdiv_eq_ediv_of_nonneg _ (Int.le_of_lt (Int.pow_pos (by omega)))]
 simp
theorem qZ8 : type_of% (And.intro @szR (And.intro @rwC_len (And.intro @rwC_all (And.intro @rwsC_len (And.intro @rwsC_all (And.intro @ptC_len (And.intro @ptC_all (And.intro @pcC_len (@pcC_all))))))))) := ⟨@szR, @rwC_len, @rwC_all, @rwsC_len, @rwsC_all, @ptC_len, @ptC_all, @pcC_len, @pcC_all⟩
theorem qD8 {p : Prop} (h : p := by first | assumption | omega | (simp only [qZ8] <;> omega) | rfl | decide) : p := h
theorem Sign_spec {w : World} {x b : Nat} (hb : 1 <= b /\ b <= 64) (hx : x < 2 ^ (b - 1)) {K : Value -> World -> Prop} (hK : K (.int .u64 (x : Nat)) w) : callsK Tryz.prog 83 #[.int .u64 (x : Nat), .int .i64 (b : Nat)] w K := by
 apply F83_ok
 unfold F83
 have e1 : (64 : Int) - (b : Nat) = ((64 - b : Nat) : Int) := by omega
 have hlt : x * 2 ^ (64 - b) < 2 ^ 63 := by
  have h1 : x * 2 ^ (64 - b) < 2 ^ (b - 1) * 2 ^ (64 - b) := Nat.mul_lt_mul_of_pos_right hx (Nat.two_pow_pos _)
  rwa [<- Nat.pow_add, show b - 1 + (64 - b) = 63 by omega] at h1
 have p63 : (2 : Nat) ^ 63 = 9223372036854775808 := by decide
 rw [p63] at hlt
 simp (disch := first | exact qD8 | fail) only [qG1, joinBR, e1]
 have e2 : (x : Int) * 2 ^ (64 - b) = ((x * 2 ^ (64 - b) : Nat) : Int) := by simp
 have e3 : x * 2 ^ (64 - b) / 2 ^ (64 - b) = x := Nat.mul_div_cancel _ (Nat.two_pow_pos _)
 have hx2 : x <= x * 2 ^ (64 - b) := Nat.le_mul_of_pos_right _ (Nat.two_pow_pos _)
 rw [e2]
 clear e2
 have e4 : ((x * 2 ^ (64 - b) : Nat) : Int).fdiv (2 ^ (64 - b)) = (x : Int) := by rw [shr_natX, e3]
 generalize x * 2 ^ (64 - b) = y at *
 have w1 : IntKind.u64.wrap (y : Int) = y := wrap_u64 ⟨by omega, by omega⟩
 have w2 : IntKind.i64.wrap (y : Int) = y := wrap_i64 ⟨by omega, by omega⟩
 have w3 : IntKind.u64.wrap (x : Int) = x := wrap_u64 ⟨by omega, by omega⟩
 rw [w1, w2, e4, w3]
 exact hK
/-- a layout's cells. -/
def loC (v : Value) (bits : Nat) (sg : Bool) (z : Nat) : List Value := [v, .int .i64 (bits : Nat), .bool sg, .int .i64 (z : Nat)]
theorem read_spec {w : World} {v : Value} {ps : List (Nat × Nat × Nat)} {bits z W : Nat} {sg : Bool} (hv : RowsAt w v 3 (ps.map pcC)) (hp : ∀ p ∈ ps, pcOk p) (hW : W < 18446744073709551616) (hx : ∀ k p, ps[k]? = some p -> (ps.take k).foldl (pcN W) 0 < 2 ^ p.1)
  (hb : 1 <= bits /\ bits <= 64) (hlt : ps.foldl (pcN W) 0 < 2 ^ (bits - 1)) {K : Value -> World -> Prop} (hK : ∀ w', Ext [] w w' -> K (.int .i64 (ps.foldl (pcN W) 0 : Nat)) w') :
  callsK Tryz.prog 69 #[.agg (loC v bits sg z).toArray, .int .u64 (W : Nat)] w K := by
 apply F69_ok
 unfold F69
 have hcap : ps.length <= maxLen := by
  obtain ⟨_, _, _, ⟨hc1, hc2⟩, _⟩ := id hv
  rw [List.length_map] at hc1
  omega
 simp only [maxLen] at hcap
 have hlen : (ps.map pcC).length = ps.length := by simp
 obtain ⟨a, cap, rfl⟩ := hv.len
 have hx0 : Ext [] w (w.alloc (.cells (loC (.slice a (ps.map pcC).length cap) bits sg z).toArray 106)) := qX
 have c0 : (loC (.slice a (ps.map pcC).length cap) bits sg z)[0]? = some (.slice a (ps.map pcC).length cap) := rfl
 have c1 : (loC (.slice a (ps.map pcC).length cap) bits sg z)[1]? = some (.int .i64 (bits : Nat)) := rfl
 have c2 : (loC (.slice a (ps.map pcC).length cap) bits sg z)[2]? = some (.bool sg) := rfl
 have g0 : (w.alloc (.cells (loC (.slice a (ps.map pcC).length cap) bits sg z).toArray 106)).heap[w.heap.size]? = some (.cells (loC (.slice a (ps.map pcC).length cap) bits sg z).toArray 106 (0, 0)) := by simp (disch := first | exact qD8 | fail) only [qG1]
 simp (disch := first | exact qD8 | fail) only [qG1, c0]
 refine loopT.intro (fun st w' => ∃ (k : Nat), k <= ps.length /\ st = [.int .u64 ((ps.take k).foldl (pcN W) 0 : Nat), .int .i64 (k : Nat)] /\ w'.heap[w.heap.size]? = some (.cells (loC (.slice a (ps.map pcC).length cap) bits sg z).toArray 106 (0, 0)) /\ Ext [] w w')
  (fun st _ => match st with
   | [_, .int _ z] => ps.length - z.toNat
   | _ => 0) ⟨0, Nat.zero_le _, rfl, g0, hx0⟩ ?_
 rintro st w' ⟨k, hk, rfl, h1, hx'⟩ _
 have l1 := lt_of_at h1
 by_cases h4 : k < ps.length
 ·obtain ⟨p, hpk⟩ : ∃ p, ps[k]? = some p := ⟨_, List.getElem?_eq_getElem h4⟩
  have hrow : (ps.map pcC)[k]? = some (pcC p) := by rw [List.getElem?_map, hpk]; rfl
  obtain ⟨b0, o0, lb, E0, f0, hix, hb0, hfit, hblt, hbk, hsub, hget⟩ := RowsAt.ixR Tryz.underlying104 Tryz.sizeOf169 hv hrow
  have hb3 := hx'.at hb0 (by simp)
  have hs := hsub o0 rfl
  obtain ⟨q1, q2, q3, q4⟩ := hp p (List.mem_of_getElem? hpk)
  have hxk := hx k p hpk
  have htk : (ps.take (k + 1)).foldl (pcN W) 0 = pcN W ((ps.take k).foldl (pcN W) 0) p := by
   rw [List.take_add_one, hpk, List.foldl_append]
   rfl
  generalize (ps.take k).foldl (pcN W) 0 = x at *
  simp (disch := first | exact qD8 | fail) only [qG1, hlen]
  refine joinL.intro fun J2 hJ2 => ?_
  simp (disch := first | exact qD8 | fail) only [qG1, hix, hb3, hs, pcC_over, pcC_over2]
  have hx2 : Ext [] w' (w'.alloc (.cells (pcC p).toArray 169)).drew := qX
  have g7 : (w'.alloc (.cells (pcC p).toArray 169)).drew.heap[w'.heap.size]? = some (.cells (pcC p).toArray 169 (0, 0)) := (by first | with_reducible rfl | assumption | (simp (disch := first | exact qD8 | fail) only [qG1] <;> rfl))
  obtain ⟨b7, hb7⟩ : ∃ b7, b7 = w'.heap.size := ⟨_, rfl⟩
  rw [<- hb7] at g7 ⊢
  generalize (w'.alloc (.cells (pcC p).toArray 169)).drew = w2 at *
  have r0 : (pcC p)[0]? = some (.int .i64 (p.1 : Nat)) := rfl
  have r1 : (pcC p)[1]? = some (.int .i64 (p.2.1 : Nat)) := rfl
  have r2 : (pcC p)[2]? = some (.int .i64 (p.2.2 : Nat)) := rfl
  refine relX.ext [] ?_
  refine postX.is (.int .u64 (x : Nat)) (fun v w3 hR _ => okX.is) ?_
  refine postX.is (.pointer (some ⟨b7, 0, none⟩)) (fun v w3 hR _ => by simp (disch := first | exact qD8 | fail) only [qG1]; exact okX.is) ?_
  refine postX.is (.int .i64 (p.1 : Nat)) (fun v w3 hR hd => by
   obtain ⟨d1, -⟩ := hd
   have e := hR.at g7 (by simp)
   simp (disch := first | exact qD8 | fail) only [qG1, d1, e, r0]
   exact okX.is) ?_
  refine postX.is (.pointer (some ⟨b7, 1, none⟩)) (fun v w3 hR _ => by simp (disch := first | exact qD8 | fail) only [qG1]; exact okX.is) ?_
  refine postX.is (.int .i64 (p.2.1 : Nat)) (fun v w3 hR hd => by
   obtain ⟨d1, -⟩ := hd
   have e := hR.at g7 (by simp)
   simp (disch := first | exact qD8 | fail) only [qG1, d1, e, r1]
   exact okX.is) ?_
  refine postX.is (.int .u64 (W : Nat)) (fun v w3 hR _ => okX.is) ?_
  refine postX.is (.pointer (some ⟨b7, 2, none⟩)) (fun v w3 hR _ => by simp (disch := first | exact qD8 | fail) only [qG1]; exact okX.is) ?_
  refine postX.is (.int .i64 (p.2.2 : Nat)) (fun v w3 hR hd => by
   obtain ⟨d1, -⟩ := hd
   have e := hR.at g7 (by simp)
   simp (disch := first | exact qD8 | fail) only [qG1, d1, e, r2]
   exact okX.is) ?_
  refine postX.is (.pointer (some ⟨b7, 1, none⟩)) (fun v w3 hR _ => by simp (disch := first | exact qD8 | fail) only [qG1]; exact okX.is) ?_
  refine postX.is (.int .i64 (p.2.1 : Nat)) (fun v w3 hR hd => by
   obtain ⟨d1, -⟩ := hd
   have e := hR.at g7 (by simp)
   simp (disch := first | exact qD8 | fail) only [qG1, d1, e, r1]
   exact okX.is) ?_
  obtain ⟨y, hy⟩ : ∃ y, y = W / 2 ^ p.2.2 % 2 ^ p.2.1 := ⟨_, rfl⟩
  have hyl : y < 18446744073709551616 := by
   have h5 : W / 2 ^ p.2.2 <= W := Nat.div_le_self _ _
   have h6 : W / 2 ^ p.2.2 % 2 ^ p.2.1 <= W / 2 ^ p.2.2 := Nat.mod_le _ _
   omega
  refine postX.is (.int .u64 (y : Nat)) (fun v w3 hR hd => by
   obtain ⟨d1, d2, d3, -⟩ := hd
   simp (disch := first | exact qD8 | fail) only [qG1, d1, d2, d3]
   refine fGet_spec (by omega) (by omega) (by omega) hW fun w4 hx => okX.mk hx ?_
   rw [Int.toNat_natCast, Int.toNat_natCast, <- hy]) ?_
  intro v w3 hR hd _
  obtain ⟨d15, -, d17, -, d19, -, -, -, -, -, d25, -⟩ := hd
  rw [d15, d17, d19, d25]
  simp (disch := first | exact qD8 | fail) only [qG1]
  refine fPut_spec (by omega) (by omega) (by omega) (by rw [Int.toNat_natCast]; exact hxk) hyl fun w4 hx4 => ?_
  have hN : x + y % 2 ^ ((p.2.1 : Nat) : Int).toNat * 2 ^ ((p.1 : Nat) : Int).toNat = pcN W x p := by
   rw [Int.toNat_natCast, Int.toNat_natCast, hy]
   rfl
  rw [hN]
  have hx5 := (hx2.trans hR (by simp)).trans hx4 (by simp)
  apply hJ2
  intro _
  simp (disch := first | exact qD8 | fail) only [qG1]
  exact ⟨⟨k + 1, by omega, by rw [htk]; rfl, hx5.at h1 (by simp), hx'.trans hx5 (by simp)⟩, by first | omega | (simp <;> omega)⟩
 ·obtain rfl : k = ps.length := by omega
  rw [List.take_length]
  generalize ps.foldl (pcN W) 0 = x at *
  have hx64 : x < 9223372036854775808 := by
   have p63 : (2 : Nat) ^ 63 = 9223372036854775808 := by decide
   have : (2 : Nat) ^ (bits - 1) <= 2 ^ 63 := Nat.pow_le_pow_right (by omega) (by omega)
   omega
  simp (disch := first | exact qD8 | fail) only [qG1, hlen]
  refine joinL.intro fun J5 hJ5 => ?_
  cases sg with
  | false =>
   simp (disch := first | exact qD8 | fail) only [qG1, h1, c2]
   apply hJ5
   intro _
   simp (disch := first | exact qD8 | fail) only [qG1]
   exact hK _ hx'
  | true =>
   simp (disch := first | exact qD8 | fail) only [qG1, h1, c1, c2]
   refine Sign_spec hb hlt ?_
   apply hJ5
   intro _
   simp (disch := first | exact qD8 | fail) only [qG1]
   exact hK _ hx'
open Go.Fx
set_option maxRecDepth 100000
theorem loC_len (v : Value) (b : Nat) (s : Bool) (z : Nat) : (loC v b s z).length = 4 := by simp [loC]
theorem loC_all (a : Option Addr) (n c : Nat) (b : Nat) (s : Bool) (z : Nat) : (loC (.slice a n c) b s z).all (fun v => v.oneCell') = true := by simp [loC]; exact ⟨rfl, rfl, rfl, rfl⟩
/-- the pieces of a shape's number. -/
def pcsOf (s : Nat) : List (Nat × Nat × Nat) := if s = 73 then [(0, 12, 20)] else [(0, 5, 7), (5, 7, 25)]
theorem rowsP1 {w : World} {E : TypeId} {f : Nat × Nat} {g : Nat} {p : Nat × Nat × Nat} (h : w.heap[g]? = some (.cells (pcC p).toArray E f)) : RowsAt w (.slice (some ⟨g, 0, none⟩) 1 1) 3 ([p].map pcC) := RowsAt.one h rfl
theorem rowsP2 {w : World} {E : TypeId} {f : Nat × Nat} {g : Nat} {p q : Nat × Nat × Nat} (h : w.heap[g]? = some (.cells (pcC p ++ pcC q).toArray E f)) : RowsAt w (.slice (some ⟨g, 0, none⟩) 2 2) 3 ([p, q].map pcC) :=
 ⟨_, 2, rfl, ⟨Nat.le_refl _, by simp [maxLen]⟩, .inr ⟨g, 0, _, E, f, rfl, h, by simp [pcC_len], fun i r hi => by
  match i, hi with
  | 0, hi => simp at hi; subst hi; simp [sub, pcC]
  | 1, hi => simp at hi; subst hi; simp [sub, pcC]⟩⟩
theorem bsP2 (a b : List Value) (h1 : a.length = 3) (h2 : b.length = 3) (w : World) : (Instr.buildSlice 104 2 #[(0, .agg a.toArray), (1, .agg b.toArray)]).run Tryz.prog w = .ok (.slice (some ⟨w.heap.size, 0, none⟩) 2 2) (w.alloc (.cells (a ++ b).toArray 169)) := by
 have := run_bs Tryz.underlying104 (e := 169) (size := 3) (by kernel_rfl) [.agg a.toArray, .agg b.toArray] (by simp [Value.cells, h1, h2]) (by simp) w
 simpa [Value.cells, partsFrom] using this
theorem qZ9 : type_of% (And.intro @szR (And.intro @rwC_len (And.intro @rwC_all (And.intro @rwsC_len (And.intro @rwsC_all (And.intro @ptC_len (And.intro @ptC_all (And.intro @pcC_len (And.intro @pcC_all (And.intro @loC_len (@loC_all))))))))))) := ⟨@szR, @rwC_len, @rwC_all, @rwsC_len, @rwsC_all, @ptC_len, @ptC_all, @pcC_len, @pcC_all, @loC_len, @loC_all⟩
theorem qD9 {p : Prop} (h : p := by first | assumption | omega | (simp only [qZ9] <;> omega) | rfl | decide) : p := h
theorem laid_spec {w : World} {s : Nat} (hs : s = 73 ∨ s = 83) {K : Value -> World -> Prop} (hK : ∀ v w', RowsAt w' v 3 ((pcsOf s).map pcC) -> (∃ a n c, v = .slice a n c) -> Ext [] w w' -> K (.agg (loC v 12 true 0).toArray) w') : callsK Tryz.prog 35 #[.int .u8 (s : Nat)] w K := by
 apply F35_ok
 unfold F35
 rcases hs with rfl | rfl
 ·simp (disch := first | exact qD9 | fail) only [qG1]
  refine joinL.intro fun J0 hJ0 => ?_
  simp (disch := first | exact qD9 | fail) only [qG1]
  apply hJ0
  intro _
  refine .inl ⟨rfl, ?_⟩
  simp (disch := first | exact qD9 | fail) only [qG1, Nat.reduceAdd]
  refine hK (.slice (some ⟨w.heap.size + 1, 0, none⟩) 1 1) _ (rowsP1 (p := (0, 12, 20)) (E := 169) (f := (0, 0)) ?_) ⟨_, _, _, rfl⟩ qX
  rw [upd_ne (by omega)]
  simp (disch := first | exact qD9 | fail) only [qG1]
  rfl
 ·simp (disch := first | exact qD9 | fail) only [qG1]
  refine joinL.intro fun J0 hJ0 => ?_
  simp (disch := first | exact qD9 | fail) only [qG1]
  apply hJ0
  intro _
  refine .inr ⟨rfl, ?_⟩
  have hbs : ∀ w : World, (Instr.buildSlice 104 2 #[(0, .agg [.int .i64 0, .int .i64 5, .int .i64 7].toArray), (1, .agg [.int .i64 5, .int .i64 7, .int .i64 25].toArray)]).run Tryz.prog w = .ok (.slice (some ⟨w.heap.size, 0, none⟩) 2 2) (w.alloc (.cells [.int .i64 0, .int .i64 5, .int .i64 7, .int .i64 5, .int .i64 7, .int .i64 25].toArray 169)) := fun w => bsP2 (pcC (0, 5, 7)) (pcC (5, 7, 25)) rfl rfl w
  simp (disch := first | exact qD9 | fail) only [qG1, Nat.reduceAdd, hbs]
  refine hK (.slice (some ⟨w.heap.size + 1, 0, none⟩) 2 2) _ (rowsP2 (p := (0, 5, 7)) (q := (5, 7, 25)) (E := 169) (f := (0, 0)) ?_) ⟨_, _, _, rfl⟩ qX
  rw [upd_ne (by omega)]
  simp (disch := first | exact qD9 | fail) only [qG1]
  rfl
theorem has_spec {w : World} {s : Nat} (hs : s = 73 ∨ s = 83) {K : Value -> World -> Prop} (hK : K (.tuple #[.bool (decide (s = 73)), .bool true, .bool (decide (s = 83))]) w) : callsK Tryz.prog 38 #[.int .u8 (s : Nat)] w K := by
 apply F38_ok
 unfold F38
 rcases hs with rfl | rfl
 ·simp (disch := first | exact qD9 | fail) only [qG1]
  refine joinL.intro fun J0 hJ0 => ?_
  simp (disch := first | exact qD9 | fail) only [qG1]
  apply hJ0
  intro _
  exact .inl ⟨rfl, hK⟩
 ·simp (disch := first | exact qD9 | fail) only [qG1]
  refine joinL.intro fun J0 hJ0 => ?_
  simp (disch := first | exact qD9 | fail) only [qG1]
  apply hJ0
  intro _
  refine .inr ⟨rfl, ?_⟩
  refine joinL.intro fun J2 hJ2 => ?_
  simp (disch := first | exact qD9 | fail) only [qG1]
  apply hJ2
  intro _
  exact .inl ⟨rfl, hK⟩
/-- an instruction. -/
structure In where
 op : Nat
 rd : Nat
 r1 : Nat
 r2 : Nat
 im : Nat
def inC (i : In) : List Value := [.int .i64 (i.op : Nat), .int .i64 (i.rd : Nat), .int .i64 (i.r1 : Nat), .int .i64 (i.r2 : Nat), .int .i64 (i.im : Nat)]
theorem inC_len (i : In) : (inC i).length = 5 := by simp [inC]
theorem inC_all (i : In) : (inC i).all (fun v => v.oneCell') = true := by simp [inC]; exact ⟨rfl, rfl, rfl, rfl, rfl⟩
theorem inC_sub (i : In) : sub (inC i) 0 5 = inC i := rfl
/-- the instruction of a word whose row is k (its number laid, no sign). -/
def ofW (W k : Nat) (s : Nat) : In := ⟨k + 1, if s = 73 then W / 2 ^ 7 % 2 ^ 5 else 0, W / 2 ^ 15 % 2 ^ 5, if s = 83 then W / 2 ^ 20 % 2 ^ 5 else 0, (pcsOf s).foldl (pcN W) 0⟩
open Go.Fx
set_option maxRecDepth 100000
theorem run_indexN {P : Program} {t e : TypeId} {n m : Nat} (h : P.underlying t = some (.array n e)) (ha : ∀ w, (isAgg e).run P w = .ok true w) (hs : ∀ w, (sizeOf e).run P w = .ok m w) (vs : List Value) (k : IntKind) (i : Int) (w : World) (hi : 0 <= i /\ i < n) :
  (Instr.index t (.agg vs.toArray) (.int k i)).run P w = .ok (.agg (sub vs (i.toNat * m) m).toArray) w := by
 have hp := partN (P := P) (t := e) (xs := vs.toArray) (o := i.toNat * m) (n := m) (w := w) ha hs
 have hx : vs.toArray.extract (i.toNat * m) (i.toNat * m + m) = (sub vs (i.toNat * m) m).toArray := by
  rw [List.extract_toArray, List.extract_eq_take_drop, sub, Nat.add_sub_cancel_left]
 simp only [Instr.index, asIntOf, Sem.run_bind, Sem.run_pure, Result.andThen_ok, run_underlying h, hi, and_self, if_true, hs, hp, hx]
def row (k : Nat) : Rw := rowI.getD k Rw.zero
def rowGood (r : Rw) : Bool := decide (r.s < 256 /\ r.c < 18446744073709551616 /\ r.f < 18446744073709551616 /\ r.o < 18446744073709551616 /\ fixW r < 4294967296 /\ fixM r < 4294967296)
theorem rows_good : rowI.all rowGood = true := by kernel_rfl
theorem row_good {k : Nat} (h : k < 69) : rwOk (row k) /\ fixW (row k) < 4294967296 /\ fixM (row k) < 4294967296 := by
 have hm : row k ∈ rowI := by
  unfold row
  rw [List.getD_eq_getElem?_getD, List.getElem?_eq_getElem (by rw [rowI_len]; exact h)]
  exact List.getElem_mem _
 have := List.all_eq_true.1 rows_good _ hm
 unfold rowGood at this
 rw [decide_eq_true_eq] at this
 obtain ⟨a, b, c, d, e, f⟩ := this
 exact ⟨⟨a, b, c, d⟩, e, f⟩
theorem row_ix (i : Nat) (h : i < 69) (w : World) : (Instr.index 160 (.agg (rwsC rowI).toArray) (.int .i64 (i : Nat))).run Tryz.prog w = .ok (.agg (rwC (row i)).toArray) w := by
 have := run_indexN (P := Tryz.prog) (t := 160) (n := 69) (m := 5) Tryz.underlying160 Tryz.isAgg101 Tryz.sizeOf101 (rwsC rowI) .i64 (i : Nat) w (by omega)
 rw [this, Int.toNat_natCast, rws_at rowI i (by rw [rowI_len]; exact h)]
 rfl
theorem pcs_ok {s : Nat} (hs : s = 73 ∨ s = 83) : ∀ p ∈ pcsOf s, pcOk p := by
 rcases hs with rfl | rfl
 ·intro p hp
  simp [pcsOf] at hp
  subst hp
  exact ⟨by decide, by decide, by decide, by decide⟩
 ·intro p hp
  simp [pcsOf] at hp
  rcases hp with rfl | rfl
  ·exact ⟨by decide, by decide, by decide, by decide⟩
  ·exact ⟨by decide, by decide, by decide, by decide⟩
theorem pcs_lt {s W : Nat} (hs : s = 73 ∨ s = 83) : ∀ k p, (pcsOf s)[k]? = some p -> ((pcsOf s).take k).foldl (pcN W) 0 < 2 ^ p.1 := by
 rcases hs with rfl | rfl
 ·intro k p hp
  have e : pcsOf 73 = [(0, 12, 20)] := rfl
  rw [e] at hp ⊢
  match k, hp with
  | 0, hp => exact Nat.two_pow_pos _
  | k + 1, hp => simp at hp
 ·intro k p hp
  have e : pcsOf 83 = [(0, 5, 7), (5, 7, 25)] := rfl
  rw [e] at hp ⊢
  match k, hp with
  | 0, hp => exact Nat.two_pow_pos _
  | 1, hp =>
   rw [List.getElem?_cons_succ, List.getElem?_cons_zero, Option.some.injEq] at hp
   rw [<- hp, List.take_succ_cons, List.take_zero, List.foldl_cons, List.foldl_nil]
   exact put_lt (b := 5) (Nat.two_pow_pos _) (by decide)
  | k + 2, hp => simp at hp
theorem qZ10 : type_of% (And.intro @szR (And.intro @rwC_len (And.intro @rwC_all (And.intro @rwsC_len (And.intro @rwsC_all (And.intro @ptC_len (And.intro @ptC_all (And.intro @pcC_len (And.intro @pcC_all (And.intro @loC_len (And.intro @loC_all (And.intro @inC_len (@inC_all))))))))))))) := ⟨@szR, @rwC_len, @rwC_all, @rwsC_len, @rwsC_all, @ptC_len, @ptC_all, @pcC_len, @pcC_all, @loC_len, @loC_all, @inC_len, @inC_all⟩
theorem qD10 {p : Prop} (h : p := by first | assumption | omega | (simp only [qZ10] <;> omega) | rfl | decide) : p := h
set_option maxHeartbeats 1000000 in
theorem iDecode_spec {w : World} {W k : Nat} (hW : W < 4294967296) (hk : k < 69) (hne : ∀ j, j < k -> W &&& fixM (row j) ≠ fixW (row j)) (heq : W &&& fixM (row k) = fixW (row k)) (hs : (row k).s = 73 ∨ (row k).s = 83) (hlt : (pcsOf (row k).s).foldl (pcN W) 0 < 2 ^ 11) {K : Value -> World -> Prop}
  (hK : ∀ w', Ext [] w w' -> K (.tuple #[.agg (inC (ofW W k (row k).s)).toArray, .bool true]) w') : callsK Tryz.prog 31 #[.int .u32 (W : Nat)] w K := by
 apply F31_ok
 unfold F31
 simp (disch := first | exact qD10 | fail) only [qG1]
 have hx0 : Ext [] w (w.alloc (.cells [.int .i64 0, .int .i64 0, .int .i64 0, .int .i64 0, .int .i64 0].toArray 49)) := qX
 refine rows_spec fun w1 hx1 => ?_
 have hxa := hx0.trans hx1 (by simp)
 have h2 := hx1.at (b := w.heap.size) (o := .cells [.int .i64 0, .int .i64 0, .int .i64 0, .int .i64 0, .int .i64 0].toArray 49 (0, 0)) (by first | with_reducible rfl | assumption | (simp (disch := first | exact qD10 | fail) only [qG1] <;> rfl)) (by simp)
 refine loopT.intro (fun st w' => ∃ (j : Nat), j <= k /\ st = [.int .i64 (j : Nat)] /\ w'.heap[w.heap.size]? = some (.cells [.int .i64 0, .int .i64 0, .int .i64 0, .int .i64 0, .int .i64 0].toArray 49 (0, 0)) /\ Ext [] w w')
  (fun st _ => match st with
   | [.int _ z] => k - z.toNat
   | _ => 0) ⟨0, Nat.zero_le _, rfl, h2, hxa⟩ ?_
 rintro st w' ⟨j, hj, rfl, h3, hx'⟩ _
 have l3 := lt_of_at h3
 obtain ⟨ok, gW, gM⟩ := row_good (k := j) (by omega)
 have hix := row_ix j (by omega)
 have hj69 : j < 69 := by omega
 simp (disch := first | exact qD10 | fail) only [qG1, hix, rw_over, rw_put]
 have hx4 : Ext [] w' (w'.alloc (.cells (rwC (row j)).toArray 101)) := qX
 refine fixed_spec ok fun w2 hx5 => ?_
 have hx6 := hx4.trans hx5 (by simp)
 have hx7 := hx'.trans hx6 (by simp)
 have k3 := hx6.at h3 (by simp)
 have kr := hx5.at (b := w'.heap.size) (o := .cells (rwC (row j)).toArray 101 (0, 0)) (by first | with_reducible rfl | assumption | (simp (disch := first | exact qD10 | fail) only [qG1] <;> rfl)) (by simp)
 have hand : bitI .and .u64 (W : Int) (fixM (row j) : Nat) = ((W &&& fixM (row j) : Nat) : Int) := by
  rw [and_u64 (by omega) (by omega)]
  simp
 have hal : W &&& fixM (row j) <= W := Nat.and_le_left
 by_cases hjk : j < k
 ·have hn := hne j hjk
  have hn2 : ((W &&& fixM (row j) : Nat) : Int) ≠ ((fixW (row j) : Nat) : Int) := by omega
  simp (disch := first | exact qD10 | fail) only [qG1, hand]
  exact ⟨⟨j + 1, by omega, rfl, k3, hx7⟩, by first | omega | (simp <;> omega)⟩
 ·obtain rfl : j = k := by omega
  have hn2 : ((W &&& fixM (row j) : Nat) : Int) = ((fixW (row j) : Nat) : Int) := by rw [heq]
  simp (disch := first | exact qD10 | fail) only [qG1, hand, hn2]
  have r1 : (rwC (row j))[1]? = some (.int .u8 ((row j).s : Nat)) := rfl
  simp (disch := first | exact qD10 | fail) only [qG1, kr, r1]
  have lr := lt_of_at kr
  have l3' := lt_of_at k3
  have hofW : ofW W j (row j).s = ⟨j + 1, if (row j).s = 73 then W / 2 ^ 7 % 2 ^ 5 else 0, W / 2 ^ 15 % 2 ^ 5, if (row j).s = 83 then W / 2 ^ 20 % 2 ^ 5 else 0, (pcsOf (row j).s).foldl (pcN W) 0⟩ := rfl
  rw [hofW] at hK
  refine laid_spec hs fun v w3 hv hsl hx8 => ?_
  obtain ⟨a, n, c, rfl⟩ := hsl
  simp (disch := first | exact qD10 | fail) only [qG1]
  refine read_spec hv (pcs_ok hs) (by omega) (pcs_lt hs) (by decide) (by simpa using hlt) fun w4 hx9 => ?_
  have p11 : (2 : Nat) ^ 11 = 2048 := by decide
  rw [p11] at hlt
  generalize (pcsOf (row j).s).foldl (pcN W) 0 = im at *
  have hb : ∀ (x y : Int) (w : World), (Instr.build 49 #[(0, .int .i64 x), (4, .int .i64 y)]).run Tryz.prog w = .ok (.agg [.int .i64 x, .int .i64 0, .int .i64 0, .int .i64 0, .int .i64 y].toArray) w := fun x y w => run_build w 49 _ _ (by kernel_rfl)
  have hb2 : ∀ (w : World), (Instr.build 49 #[(0, .int .i64 ((j : Nat) + 1 : Int)), (4, .int .i64 (im : Nat))]).run Tryz.prog w = .ok (.agg (inC ⟨j + 1, 0, 0, 0, im⟩).toArray) w := fun w => hb _ _ w
  have hxb := hx8.trans hx9 (by simp)
  have m3 := hxb.at k3 (by simp)
  have mr := hxb.at kr (by simp)
  have lm3 := lt_of_at m3
  have lmr := lt_of_at mr
  have z1 : ∀ i : In, splice [.int .i64 0, .int .i64 0, .int .i64 0, .int .i64 0, .int .i64 0] 0 (inC i) = inC i := fun _ => rfl
  have z2 : ∀ i : In, inC i ++ List.drop (inC i).length [.int .i64 0, .int .i64 0, .int .i64 0, .int .i64 0, .int .i64 0] = inC i := fun _ => by simp [inC]
  simp (disch := first | exact qD10 | fail) only [qG1, hb2, z1, z2, mr, r1]
  refine has_spec hs ?_
  have hxc : Ext [] w (w4.alloc (.cells (inC ⟨j + 1, 0, 0, 0, im⟩).toArray 49)) := by
   have := hx7.trans hxb (by simp)
   exact qX
  have q3 : (w4.alloc (.cells (inC ⟨j + 1, 0, 0, 0, im⟩).toArray 49)).heap[w.heap.size]? = some (.cells [.int .i64 0, .int .i64 0, .int .i64 0, .int .i64 0, .int .i64 0].toArray 49 (0, 0)) := (by first | with_reducible rfl | assumption | (simp (disch := first | exact qD10 | fail) only [qG1, m3] <;> rfl))
  have q9 : (w4.alloc (.cells (inC ⟨j + 1, 0, 0, 0, im⟩).toArray 49)).heap[w4.heap.size]? = some (.cells (inC ⟨j + 1, 0, 0, 0, im⟩).toArray 49 (0, 0)) := (by first | with_reducible rfl | assumption | (simp (disch := first | exact qD10 | fail) only [qG1] <;> rfl))
  have hw4 : w.heap.size < w4.heap.size := by omega
  obtain ⟨b9, hb9⟩ : ∃ b9, b9 = w4.heap.size := ⟨_, rfl⟩
  rw [<- hb9] at q9 hw4 ⊢
  simp (disch := first | exact qD10 | fail) only [qG1]
  generalize (w4.alloc (.cells (inC ⟨j + 1, 0, 0, 0, im⟩).toArray 49)) = w5 at *
  refine joinL.intro fun J2 hJ2 => ?_
  have s1 : ∀ (o r1 r2 x : Nat) (v : Nat), (inC ⟨o, 0, r1, r2, x⟩).set 1 (.int .i64 (v : Nat)) = inC ⟨o, v, r1, r2, x⟩ := fun _ _ _ _ _ => rfl
  have s2 : ∀ (o rd r2 x : Nat) (v : Nat), (inC ⟨o, rd, 0, r2, x⟩).set 2 (.int .i64 (v : Nat)) = inC ⟨o, rd, v, r2, x⟩ := fun _ _ _ _ _ => rfl
  have s3 : ∀ (o rd r1 x : Nat) (v : Nat), (inC ⟨o, rd, r1, 0, x⟩).set 3 (.int .i64 (v : Nat)) = inC ⟨o, rd, r1, v, x⟩ := fun _ _ _ _ _ => rfl
  have g2 : ∀ (w6 : World) (rd : Nat), rd = (if (row j).s = 73 then W / 2 ^ 7 % 2 ^ 5 else 0) -> w6.heap[b9]? = some (.cells (inC ⟨j + 1, rd, 0, 0, im⟩).toArray 49 (0, 0)) -> w6.heap[w.heap.size]? = some (.cells [.int .i64 0, .int .i64 0, .int .i64 0, .int .i64 0, .int .i64 0].toArray 49 (0, 0)) -> Ext [] w w6 -> J2 [] w6 := by
   intro w6 rd hrd a1 a2 a3
   rw [<- hrd] at hK
   apply hJ2
   intro _
   refine joinL.intro fun J4 hJ4 => ?_
   have g4 : ∀ (w7 : World), w7.heap[b9]? = some (.cells (inC ⟨j + 1, rd, W / 2 ^ 15 % 2 ^ 5, 0, im⟩).toArray 49 (0, 0)) -> w7.heap[w.heap.size]? = some (.cells [.int .i64 0, .int .i64 0, .int .i64 0, .int .i64 0, .int .i64 0].toArray 49 (0, 0)) -> Ext [] w w7 -> J4 [] w7 := by
    intro w7 c1 c2 c3
    apply hJ4
    intro _
    refine joinL.intro fun J6 hJ6 => ?_
    have g6 : ∀ (w8 : World) (r2 : Nat), r2 = (if (row j).s = 83 then W / 2 ^ 20 % 2 ^ 5 else 0) -> w8.heap[b9]? = some (.cells (inC ⟨j + 1, rd, W / 2 ^ 15 % 2 ^ 5, r2, im⟩).toArray 49 (0, 0)) -> w8.heap[w.heap.size]? = some (.cells [.int .i64 0, .int .i64 0, .int .i64 0, .int .i64 0, .int .i64 0].toArray 49 (0, 0)) -> Ext [] w w8 -> J6 [] w8 := by
     intro w8 r2 hr2 d1 d2 d3
     rw [<- hr2] at hK
     apply hJ6
     intro _
     have ld1 := lt_of_at d1
     have ld2 := lt_of_at d2
     simp (disch := first | exact qD10 | fail) only [qG1, d1, d2, inC_sub, z1, z2]
     exact hK _ qX
    by_cases h83 : (row j).s = 83
    ·have : W / 2 ^ 20 % 2 ^ 5 < 2 ^ 5 := Nat.mod_lt _ (Nat.two_pow_pos _)
     have p5 : (2 : Nat) ^ 5 = 32 := by decide
     refine .inl ⟨by rw [decide_eq_true h83], ?_⟩
     simp (disch := first | exact qD10 | fail) only [qG1]
     refine fGet_spec (by decide) (by decide) (by decide) (by omega) fun w8 hx10 => ?_
     have e20 : ((20 : Int).toNat) = 20 := rfl
     have e5 : ((5 : Int).toNat) = 5 := rfl
     rw [e20, e5]
     have d1 := hx10.at c1 (by simp)
     have d2 := hx10.at c2 (by simp)
     have ld1 := lt_of_at d1
     have hr : W / 2 ^ 20 % 2 ^ 5 = (if (row j).s = 83 then W / 2 ^ 20 % 2 ^ 5 else 0) := (if_pos h83).symm
     generalize W / 2 ^ 20 % 2 ^ 5 = y at *
     have hne9 : w.heap.size ≠ b9 := by omega
     simp (disch := first | exact qD10 | fail) only [qG1, d1, s3]
     have hx11 : Ext [] w (World.upd w8 b9 (inC ⟨j + 1, rd, W / 2 ^ 15 % 2 ^ 5, y, im⟩)) := by
      have := c3.trans hx10 (by simp)
      have hbw : w.heap.size <= b9 := by omega
      exact this.upd _ (.inr hbw)
     exact g6 _ y hr (upd_at d1) ((upd_ne hne9).trans d2) hx11
    ·refine .inr ⟨by rw [decide_eq_false h83], ?_⟩
     exact g6 w7 0 (if_neg h83).symm c1 c2 c3
   have : W / 2 ^ 15 % 2 ^ 5 < 2 ^ 5 := Nat.mod_lt _ (Nat.two_pow_pos _)
   have p5 : (2 : Nat) ^ 5 = 32 := by decide
   refine .inl ⟨rfl, ?_⟩
   simp (disch := first | exact qD10 | fail) only [qG1]
   refine fGet_spec (by decide) (by decide) (by decide) (by omega) fun w8 hx10 => ?_
   have e15 : ((15 : Int).toNat) = 15 := rfl
   have e5 : ((5 : Int).toNat) = 5 := rfl
   rw [e15, e5]
   have d1 := hx10.at a1 (by simp)
   have d2 := hx10.at a2 (by simp)
   have ld1 := lt_of_at d1
   generalize W / 2 ^ 15 % 2 ^ 5 = y at *
   have hne9 : w.heap.size ≠ b9 := by omega
   simp (disch := first | exact qD10 | fail) only [qG1, d1, s2]
   have hx11 : Ext [] w (World.upd w8 b9 (inC ⟨j + 1, rd, y, 0, im⟩)) := by
    have := a3.trans hx10 (by simp)
    have hbw : w.heap.size <= b9 := by omega
    exact this.upd _ (.inr hbw)
   exact g4 _ (upd_at d1) ((upd_ne hne9).trans d2) hx11
  by_cases h73 : (row j).s = 73
  ·have : W / 2 ^ 7 % 2 ^ 5 < 2 ^ 5 := Nat.mod_lt _ (Nat.two_pow_pos _)
   have p5 : (2 : Nat) ^ 5 = 32 := by decide
   refine .inl ⟨by rw [decide_eq_true h73], ?_⟩
   simp (disch := first | exact qD10 | fail) only [qG1]
   refine fGet_spec (by decide) (by decide) (by decide) (by omega) fun w8 hx10 => ?_
   have e7 : ((7 : Int).toNat) = 7 := rfl
   have e5 : ((5 : Int).toNat) = 5 := rfl
   rw [e7, e5]
   have d1 := hx10.at q9 (by simp)
   have d2 := hx10.at q3 (by simp)
   have ld1 := lt_of_at d1
   have hr : W / 2 ^ 7 % 2 ^ 5 = (if (row j).s = 73 then W / 2 ^ 7 % 2 ^ 5 else 0) := (if_pos h73).symm
   generalize W / 2 ^ 7 % 2 ^ 5 = y at *
   have hne9 : w.heap.size ≠ b9 := by omega
   simp (disch := first | exact qD10 | fail) only [qG1, d1, s1]
   have hx11 : Ext [] w (World.upd w8 b9 (inC ⟨j + 1, y, 0, 0, im⟩)) := by
    have := hxc.trans hx10 (by simp)
    have hbw : w.heap.size <= b9 := by omega
    exact this.upd _ (.inr hbw)
   exact g2 _ y hr (upd_at d1) ((upd_ne hne9).trans d2) hx11
  ·refine .inr ⟨by rw [decide_eq_false h73], ?_⟩
   exact g2 w5 0 (if_neg h73).symm q9 q3 hxc
open Go.Fx
set_option maxRecDepth 100000
theorem qZ11 : type_of% (And.intro @szR (And.intro @rwC_len (And.intro @rwC_all (And.intro @inC_len (@inC_all))))) := ⟨@szR, @rwC_len, @rwC_all, @inC_len, @inC_all⟩
theorem qD11 {p : Prop} (h : p := by first | assumption | omega | (simp only [qZ11] <;> omega) | rfl | decide) : p := h
theorem branches_spec {w : World} {n : Nat} (hn : n < 1000) {K : Value -> World -> Prop} (hK : K (.bool (decide (5 <= n /\ n <= 10))) w) : callsK Tryz.prog 70 #[.int .i64 (n : Nat)] w K := by
 apply F70_ok
 unfold F70
 by_cases h1 : 5 <= n
 ·by_cases h2 : n <= 10
  ·rw [decide_eq_true (And.intro h1 h2)] at hK
   simp (disch := first | exact qD11 | fail) only [qG1, joinBR]
   exact hK
  ·rw [decide_eq_false (fun h : 5 <= n /\ n <= 10 => h2 h.2)] at hK
   simp (disch := first | exact qD11 | fail) only [qG1, joinBR]
   exact hK
 ·rw [decide_eq_false (fun h : 5 <= n /\ n <= 10 => h1 h.1)] at hK
  simp (disch := first | exact qD11 | fail) only [qG1, joinBR]
  exact hK
theorem loads_spec {w : World} {n : Nat} (hn : n < 1000) {K : Value -> World -> Prop} (hK : K (.bool (decide (11 <= n /\ n <= 17))) w) : callsK Tryz.prog 97 #[.int .i64 (n : Nat)] w K := by
 apply F97_ok
 unfold F97
 by_cases h1 : 11 <= n
 ·by_cases h2 : n <= 17
  ·rw [decide_eq_true (And.intro h1 h2)] at hK
   simp (disch := first | exact qD11 | fail) only [qG1, joinBR]
   exact hK
  ·rw [decide_eq_false (fun h : 11 <= n /\ n <= 17 => h2 h.2)] at hK
   simp (disch := first | exact qD11 | fail) only [qG1, joinBR]
   exact hK
 ·rw [decide_eq_false (fun h : 11 <= n /\ n <= 17 => h1 h.1)] at hK
  simp (disch := first | exact qD11 | fail) only [qG1, joinBR]
  exact hK
theorem stores_spec {w : World} {n : Nat} (hn : n < 1000) {K : Value -> World -> Prop} (hK : K (.bool (decide (18 <= n /\ n <= 21))) w) : callsK Tryz.prog 98 #[.int .i64 (n : Nat)] w K := by
 apply F98_ok
 unfold F98
 by_cases h1 : 18 <= n
 ·by_cases h2 : n <= 21
  ·rw [decide_eq_true (And.intro h1 h2)] at hK
   simp (disch := first | exact qD11 | fail) only [qG1, joinBR]
   exact hK
  ·rw [decide_eq_false (fun h : 18 <= n /\ n <= 21 => h2 h.2)] at hK
   simp (disch := first | exact qD11 | fail) only [qG1, joinBR]
   exact hK
 ·rw [decide_eq_false (fun h : 18 <= n /\ n <= 21 => h1 h.1)] at hK
  simp (disch := first | exact qD11 | fail) only [qG1, joinBR]
  exact hK
theorem immediate_spec {w : World} {n : Nat} (hn : n < 1000) {K : Value -> World -> Prop} (hK : K (.bool (decide (22 <= n /\ n <= 30))) w) : callsK Tryz.prog 78 #[.int .i64 (n : Nat)] w K := by
 apply F78_ok
 unfold F78
 by_cases h1 : 22 <= n
 ·by_cases h2 : n <= 30
  ·rw [decide_eq_true (And.intro h1 h2)] at hK
   simp (disch := first | exact qD11 | fail) only [qG1, joinBR]
   exact hK
  ·rw [decide_eq_false (fun h : 22 <= n /\ n <= 30 => h2 h.2)] at hK
   simp (disch := first | exact qD11 | fail) only [qG1, joinBR]
   exact hK
 ·rw [decide_eq_false (fun h : 22 <= n /\ n <= 30 => h1 h.1)] at hK
  simp (disch := first | exact qD11 | fail) only [qG1, joinBR]
  exact hK
theorem width16_spec {w : World} {n : Nat} (hn : n = 43 ∨ n = 44) {K : Value -> World -> Prop} (hK : ∀ w', Ext [] w w' -> K (.int .i64 16) w') : callsK Tryz.prog 72 #[.int .i64 (n : Nat)] w K := by
 apply F72_ok
 unfold F72
 have hx0 : Ext [] w ((w.alloc (.cells [.int .i64 1, .int .i64 2, .int .i64 4, .int .i64 8].toArray 185)).alloc (.cells [.int .i64 1, .int .i64 2, .int .i64 4, .int .i64 8, .int .i64 1, .int .i64 2, .int .i64 4].toArray 186)) := qX
 simp (disch := first | exact qD11 | fail) only [qG1, Nat.reduceAdd]
 refine loads_spec (by omega) ?_
 rw [decide_eq_false (by omega)]
 simp (disch := first | exact qD11 | fail) only [qG1]
 refine stores_spec (by omega) ?_
 rw [decide_eq_false (by omega)]
 rcases hn with rfl | rfl
 ·simp (disch := first | exact qD11 | fail) only [qG1, joinBR]
  exact hK _ qX
 ·simp (disch := first | exact qD11 | fail) only [qG1, joinBR]
  exact hK _ qX
theorem width0_spec {w : World} {n : Nat} (hn : 22 <= n /\ n < 43) {K : Value -> World -> Prop} (hK : ∀ w', Ext [] w w' -> K (.int .i64 0) w') : callsK Tryz.prog 72 #[.int .i64 (n : Nat)] w K := by
 apply F72_ok
 unfold F72
 simp (disch := first | exact qD11 | fail) only [qG1, Nat.reduceAdd]
 refine loads_spec (by omega) ?_
 rw [decide_eq_false (by omega)]
 simp (disch := first | exact qD11 | fail) only [qG1]
 refine stores_spec (by omega) ?_
 rw [decide_eq_false (by omega)]
 simp (disch := first | exact qD11 | fail) only [qG1, joinBR]
 exact hK _ qX
theorem addi_spec {w : World} {x y : Nat} (h : x + y < 18446744073709551616) {K : Value -> World -> Prop} (hK : K (.tuple #[.int .u64 ((x + y : Nat) : Int), .bool true]) w) : callsK Tryz.prog 79 #[.int .i64 22, .int .u64 (x : Nat), .int .u64 (y : Nat)] w K := by
 apply F79_ok
 unfold F79
 simp (disch := first | exact qD11 | fail) only [qG1]
 refine joinL.intro fun J0 hJ0 => ?_
 simp (disch := first | exact qD11 | fail) only [qG1]
 apply hJ0
 intro _
 refine .inl ⟨rfl, ?_⟩
 simp (disch := first | exact qD11 | fail) only [qG1]
 exact hK
open Go.Fx
set_option maxRecDepth 100000
theorem mixedM : Tryz.prog.follows .mixedOrders = true := by kernel_rfl
section
variable (P : Program) (w : World) (K : Value -> World -> Prop)
def F21 (t0 : Value) : Prop :=
 kV P (binV .lss 3 (.tmp 4) (.const (.int .i64 1)) t0 (.int .i64 1)) w fun v5 w =>
 joinK (fun J0 : Value -> World -> Prop => gdK (yb v5) false (fun k => k t0 w) w fun v7 w =>
 gdK (yb v5) false (fun k => kV P (binV .gtr 3 (.tmp 7) (.const (.int .i64 64)) v7 (.int .i64 64)) w k) w fun v8 w =>
 kN P (pickN v5 (.bool true) v8) w fun v9_1 w =>
 J0 v9_1 w) fun v9 w =>
 condK v9
 (K (.tuple #[(.pointer none), (.int .i64 2)]) w)
 (kV P (Instr.makeSlice 132 t0 t0) w fun v11 w =>
 kV P (Instr.build 134 #[(0, v11)]) w fun v12 w =>
 kV P (Instr.box 134 v12) w fun v13 w =>
 K (.tuple #[v13, (.int .i64 0)]) w)
theorem F21_eq (t0 : Value) : funE P ⟨[], [], []⟩ Tryz.f21 [t0] w K = F21 P w K t0 := by kernel_rfl
theorem F21_ok (t0 : Value) (h : F21 Tryz.prog w K t0) : callsK Tryz.prog 21 #[t0] w K := calls_of_eq mixedM Tryz.func21 (F21_eq _ w K t0) h
def F23 (t0 t1 t2 t3 : Value) : Prop :=
 kV P (Instr.box 22 t3) w fun v7 w =>
 kN P (callN (.func (.func 52) #[] #[]) #[t2]) w fun v16 w =>
 kV P (Instr.extract v16 0) w fun v17 w =>
 kV P (Instr.extract v16 1) w fun v18 w =>
 kN P (callN (.func (.func 53) #[] #[]) #[t0, t1, v17]) w fun v23 w =>
 kV P (Instr.extract v23 0) w fun v24 w =>
 kV P (Instr.extract v23 1) w fun v25 w =>
 kV P (Instr.extract v23 2) w fun v26 w =>
 kV P (Instr.alloc 137 true (.tuple #[])) w fun v11 w =>
 kV P (Instr.alloc 3 true (.tuple #[])) w fun v12 w =>
 kU P (Instr.storeAt 137 v11 v24) w fun _ w =>
 kU P (Instr.storeAt 3 v12 v25) w fun _ w =>
 joinL (fun J0 =>
 kV P (binV .eql 75 (.tmp 27) (.const (.int .i64 0)) v26 (.int .i64 0)) w fun v28 w =>
 joinK (fun J4 : Value -> World -> Prop => gdK (yb v28) true (fun k => k v18 w) w fun v30 w =>
 gdK (yb v28) true (fun k => kV P (Op.unary .not v30) w k) w fun v31 w =>
 kN P (pickN v28 v31 (.bool false)) w fun v32_1 w =>
 J4 v32_1 w) fun v32 w =>
 condK v32
 (J0 [(.int .i64 2)] w)
 (J0 [v26] w)) fun s0 w => ∀ _ : Nat -> Value,
 kV P (binV .neq 75 (.tmp 33) (.const (.int .i64 0)) (s0.getD 0 undef) (.int .i64 0)) w fun v34 w =>
 condK v34
 (K (s0.getD 0 undef) w)
 (kN P (callN (.func (.func 54) #[] #[]) #[t2, (.func (.func 55) #[] #[v7, v11, v12])]) w fun v38 w =>
 joinL (fun J2 =>
 drewK (fun w =>
 (kV P (Instr.loadAt 137 v11) w fun v39 w =>
 (kV P (Instr.loadAt 137 v11) w fun v40 w =>
 pN P (nilN v40) fun v41 =>
 pV P (Instr.fieldAt 145 v41 1) fun v42 =>
 (kV P (Instr.loadAt 143 v42) w fun v43 w =>
 kV P (Instr.loadAt 3 v12) w fun v44 w =>
 kN P (callN (.func (.func 57) #[] #[]) #[v44, t2]) w fun v46 w =>
 kN P (callN (.func (.func 56) #[] #[]) #[v43, v46]) w fun v47 w =>
 pN P (nilN v39) fun v48 =>
 pV P (Instr.fieldAt 145 v48 1) fun v49 =>
 kU P (Instr.storeAt 143 v49 v47) w fun _ w =>
 J2 [] w) /\
 (kV P (Instr.loadAt 3 v12) w fun v44_1 w =>
 (kV P (Instr.loadAt 143 v42) w fun v43_1 w =>
 kN P (callN (.func (.func 57) #[] #[]) #[v44_1, t2]) w fun v46_1 w =>
 kN P (callN (.func (.func 56) #[] #[]) #[v43_1, v46_1]) w fun v47_1 w =>
 pN P (nilN v39) fun v48_1 =>
 pV P (Instr.fieldAt 145 v48_1 1) fun v49_1 =>
 kU P (Instr.storeAt 143 v49_1 v47_1) w fun _ w =>
 J2 [] w) /\
 (kN P (callN (.func (.func 57) #[] #[]) #[v44_1, t2]) w fun v46_2 w =>
 kV P (Instr.loadAt 143 v42) w fun v43_2 w =>
 kN P (callN (.func (.func 56) #[] #[]) #[v43_2, v46_2]) w fun v47_2 w =>
 pN P (nilN v39) fun v48_2 =>
 pV P (Instr.fieldAt 145 v48_2 1) fun v49_2 =>
 kU P (Instr.storeAt 143 v49_2 v47_2) w fun _ w =>
 J2 [] w))) /\
 (kV P (Instr.loadAt 3 v12) w fun v44_2 w =>
 (kV P (Instr.loadAt 137 v11) w fun v40_1 w =>
 pN P (nilN v40_1) fun v41_1 =>
 pV P (Instr.fieldAt 145 v41_1 1) fun v42_1 =>
 (kV P (Instr.loadAt 143 v42_1) w fun v43_3 w =>
 kN P (callN (.func (.func 57) #[] #[]) #[v44_2, t2]) w fun v46_3 w =>
 kN P (callN (.func (.func 56) #[] #[]) #[v43_3, v46_3]) w fun v47_3 w =>
 pN P (nilN v39) fun v48_3 =>
 pV P (Instr.fieldAt 145 v48_3 1) fun v49_3 =>
 kU P (Instr.storeAt 143 v49_3 v47_3) w fun _ w =>
 J2 [] w) /\
 (kN P (callN (.func (.func 57) #[] #[]) #[v44_2, t2]) w fun v46_4 w =>
 kV P (Instr.loadAt 143 v42_1) w fun v43_4 w =>
 kN P (callN (.func (.func 56) #[] #[]) #[v43_4, v46_4]) w fun v47_4 w =>
 pN P (nilN v39) fun v48_4 =>
 pV P (Instr.fieldAt 145 v48_4 1) fun v49_4 =>
 kU P (Instr.storeAt 143 v49_4 v47_4) w fun _ w =>
 J2 [] w)) /\
 (kN P (callN (.func (.func 57) #[] #[]) #[v44_2, t2]) w fun v46_5 w =>
 kV P (Instr.loadAt 137 v11) w fun v40_2 w =>
 pN P (nilN v40_2) fun v41_2 =>
 pV P (Instr.fieldAt 145 v41_2 1) fun v42_2 =>
 kV P (Instr.loadAt 143 v42_2) w fun v43_5 w =>
 kN P (callN (.func (.func 56) #[] #[]) #[v43_5, v46_5]) w fun v47_5 w =>
 pN P (nilN v39) fun v48_5 =>
 pV P (Instr.fieldAt 145 v48_5 1) fun v49_5 =>
 kU P (Instr.storeAt 143 v49_5 v47_5) w fun _ w =>
 J2 [] w))) /\
 (kV P (Instr.loadAt 137 v11) w fun v40_3 w =>
 pN P (nilN v40_3) fun v41_3 =>
 pV P (Instr.fieldAt 145 v41_3 1) fun v42_3 =>
 (kV P (Instr.loadAt 137 v11) w fun v39_1 w =>
 (kV P (Instr.loadAt 143 v42_3) w fun v43_6 w =>
 kV P (Instr.loadAt 3 v12) w fun v44_3 w =>
 kN P (callN (.func (.func 57) #[] #[]) #[v44_3, t2]) w fun v46_6 w =>
 kN P (callN (.func (.func 56) #[] #[]) #[v43_6, v46_6]) w fun v47_6 w =>
 pN P (nilN v39_1) fun v48_6 =>
 pV P (Instr.fieldAt 145 v48_6 1) fun v49_6 =>
 kU P (Instr.storeAt 143 v49_6 v47_6) w fun _ w =>
 J2 [] w) /\
 (kV P (Instr.loadAt 3 v12) w fun v44_4 w =>
 (kV P (Instr.loadAt 143 v42_3) w fun v43_7 w =>
 kN P (callN (.func (.func 57) #[] #[]) #[v44_4, t2]) w fun v46_7 w =>
 kN P (callN (.func (.func 56) #[] #[]) #[v43_7, v46_7]) w fun v47_7 w =>
 pN P (nilN v39_1) fun v48_7 =>
 pV P (Instr.fieldAt 145 v48_7 1) fun v49_7 =>
 kU P (Instr.storeAt 143 v49_7 v47_7) w fun _ w =>
 J2 [] w) /\
 (kN P (callN (.func (.func 57) #[] #[]) #[v44_4, t2]) w fun v46_8 w =>
 kV P (Instr.loadAt 143 v42_3) w fun v43_8 w =>
 kN P (callN (.func (.func 56) #[] #[]) #[v43_8, v46_8]) w fun v47_8 w =>
 pN P (nilN v39_1) fun v48_8 =>
 pV P (Instr.fieldAt 145 v48_8 1) fun v49_8 =>
 kU P (Instr.storeAt 143 v49_8 v47_8) w fun _ w =>
 J2 [] w))) /\
 (kV P (Instr.loadAt 143 v42_3) w fun v43_9 w =>
 (kV P (Instr.loadAt 137 v11) w fun v39_2 w =>
 kV P (Instr.loadAt 3 v12) w fun v44_5 w =>
 kN P (callN (.func (.func 57) #[] #[]) #[v44_5, t2]) w fun v46_9 w =>
 kN P (callN (.func (.func 56) #[] #[]) #[v43_9, v46_9]) w fun v47_9 w =>
 pN P (nilN v39_2) fun v48_9 =>
 pV P (Instr.fieldAt 145 v48_9 1) fun v49_9 =>
 kU P (Instr.storeAt 143 v49_9 v47_9) w fun _ w =>
 J2 [] w) /\
 (kV P (Instr.loadAt 3 v12) w fun v44_6 w =>
 (kV P (Instr.loadAt 137 v11) w fun v39_3 w =>
 kN P (callN (.func (.func 57) #[] #[]) #[v44_6, t2]) w fun v46_10 w =>
 kN P (callN (.func (.func 56) #[] #[]) #[v43_9, v46_10]) w fun v47_10 w =>
 pN P (nilN v39_3) fun v48_10 =>
 pV P (Instr.fieldAt 145 v48_10 1) fun v49_10 =>
 kU P (Instr.storeAt 143 v49_10 v47_10) w fun _ w =>
 J2 [] w) /\
 (kN P (callN (.func (.func 57) #[] #[]) #[v44_6, t2]) w fun v46_11 w =>
 (kV P (Instr.loadAt 137 v11) w fun v39_4 w =>
 kN P (callN (.func (.func 56) #[] #[]) #[v43_9, v46_11]) w fun v47_11 w =>
 pN P (nilN v39_4) fun v48_11 =>
 pV P (Instr.fieldAt 145 v48_11 1) fun v49_11 =>
 kU P (Instr.storeAt 143 v49_11 v47_11) w fun _ w =>
 J2 [] w) /\
 (kN P (callN (.func (.func 56) #[] #[]) #[v43_9, v46_11]) w fun v47_12 w =>
 kV P (Instr.loadAt 137 v11) w fun v39_5 w =>
 pN P (nilN v39_5) fun v48_12 =>
 pV P (Instr.fieldAt 145 v48_12 1) fun v49_12 =>
 kU P (Instr.storeAt 143 v49_12 v47_12) w fun _ w =>
 J2 [] w)))) /\
 (kV P (Instr.loadAt 3 v12) w fun v44_7 w =>
 (kV P (Instr.loadAt 137 v11) w fun v39_6 w =>
 (kV P (Instr.loadAt 143 v42_3) w fun v43_10 w =>
 kN P (callN (.func (.func 57) #[] #[]) #[v44_7, t2]) w fun v46_12 w =>
 kN P (callN (.func (.func 56) #[] #[]) #[v43_10, v46_12]) w fun v47_13 w =>
 pN P (nilN v39_6) fun v48_13 =>
 pV P (Instr.fieldAt 145 v48_13 1) fun v49_13 =>
 kU P (Instr.storeAt 143 v49_13 v47_13) w fun _ w =>
 J2 [] w) /\
 (kN P (callN (.func (.func 57) #[] #[]) #[v44_7, t2]) w fun v46_13 w =>
 kV P (Instr.loadAt 143 v42_3) w fun v43_11 w =>
 kN P (callN (.func (.func 56) #[] #[]) #[v43_11, v46_13]) w fun v47_14 w =>
 pN P (nilN v39_6) fun v48_14 =>
 pV P (Instr.fieldAt 145 v48_14 1) fun v49_14 =>
 kU P (Instr.storeAt 143 v49_14 v47_14) w fun _ w =>
 J2 [] w)) /\
 (kV P (Instr.loadAt 143 v42_3) w fun v43_12 w =>
 (kV P (Instr.loadAt 137 v11) w fun v39_7 w =>
 kN P (callN (.func (.func 57) #[] #[]) #[v44_7, t2]) w fun v46_14 w =>
 kN P (callN (.func (.func 56) #[] #[]) #[v43_12, v46_14]) w fun v47_15 w =>
 pN P (nilN v39_7) fun v48_15 =>
 pV P (Instr.fieldAt 145 v48_15 1) fun v49_15 =>
 kU P (Instr.storeAt 143 v49_15 v47_15) w fun _ w =>
 J2 [] w) /\
 (kN P (callN (.func (.func 57) #[] #[]) #[v44_7, t2]) w fun v46_15 w =>
 (kV P (Instr.loadAt 137 v11) w fun v39_8 w =>
 kN P (callN (.func (.func 56) #[] #[]) #[v43_12, v46_15]) w fun v47_16 w =>
 pN P (nilN v39_8) fun v48_16 =>
 pV P (Instr.fieldAt 145 v48_16 1) fun v49_16 =>
 kU P (Instr.storeAt 143 v49_16 v47_16) w fun _ w =>
 J2 [] w) /\
 (kN P (callN (.func (.func 56) #[] #[]) #[v43_12, v46_15]) w fun v47_17 w =>
 kV P (Instr.loadAt 137 v11) w fun v39_9 w =>
 pN P (nilN v39_9) fun v48_17 =>
 pV P (Instr.fieldAt 145 v48_17 1) fun v49_17 =>
 kU P (Instr.storeAt 143 v49_17 v47_17) w fun _ w =>
 J2 [] w))) /\
 (kN P (callN (.func (.func 57) #[] #[]) #[v44_7, t2]) w fun v46_16 w =>
 (kV P (Instr.loadAt 137 v11) w fun v39_10 w =>
 kV P (Instr.loadAt 143 v42_3) w fun v43_13 w =>
 kN P (callN (.func (.func 56) #[] #[]) #[v43_13, v46_16]) w fun v47_18 w =>
 pN P (nilN v39_10) fun v48_18 =>
 pV P (Instr.fieldAt 145 v48_18 1) fun v49_18 =>
 kU P (Instr.storeAt 143 v49_18 v47_18) w fun _ w =>
 J2 [] w) /\
 (kV P (Instr.loadAt 143 v42_3) w fun v43_14 w =>
 (kV P (Instr.loadAt 137 v11) w fun v39_11 w =>
 kN P (callN (.func (.func 56) #[] #[]) #[v43_14, v46_16]) w fun v47_19 w =>
 pN P (nilN v39_11) fun v48_19 =>
 pV P (Instr.fieldAt 145 v48_19 1) fun v49_19 =>
 kU P (Instr.storeAt 143 v49_19 v47_19) w fun _ w =>
 J2 [] w) /\
 (kN P (callN (.func (.func 56) #[] #[]) #[v43_14, v46_16]) w fun v47_20 w =>
 kV P (Instr.loadAt 137 v11) w fun v39_12 w =>
 pN P (nilN v39_12) fun v48_20 =>
 pV P (Instr.fieldAt 145 v48_20 1) fun v49_20 =>
 kU P (Instr.storeAt 143 v49_20 v47_20) w fun _ w =>
 J2 [] w))))) /\
 (kV P (Instr.loadAt 3 v12) w fun v44_8 w =>
 (kV P (Instr.loadAt 137 v11) w fun v39_13 w =>
 (kV P (Instr.loadAt 137 v11) w fun v40_4 w =>
 pN P (nilN v40_4) fun v41_4 =>
 pV P (Instr.fieldAt 145 v41_4 1) fun v42_4 =>
 (kV P (Instr.loadAt 143 v42_4) w fun v43_15 w =>
 kN P (callN (.func (.func 57) #[] #[]) #[v44_8, t2]) w fun v46_17 w =>
 kN P (callN (.func (.func 56) #[] #[]) #[v43_15, v46_17]) w fun v47_21 w =>
 pN P (nilN v39_13) fun v48_21 =>
 pV P (Instr.fieldAt 145 v48_21 1) fun v49_21 =>
 kU P (Instr.storeAt 143 v49_21 v47_21) w fun _ w =>
 J2 [] w) /\
 (kN P (callN (.func (.func 57) #[] #[]) #[v44_8, t2]) w fun v46_18 w =>
 kV P (Instr.loadAt 143 v42_4) w fun v43_16 w =>
 kN P (callN (.func (.func 56) #[] #[]) #[v43_16, v46_18]) w fun v47_22 w =>
 pN P (nilN v39_13) fun v48_22 =>
 pV P (Instr.fieldAt 145 v48_22 1) fun v49_22 =>
 kU P (Instr.storeAt 143 v49_22 v47_22) w fun _ w =>
 J2 [] w)) /\
 (kN P (callN (.func (.func 57) #[] #[]) #[v44_8, t2]) w fun v46_19 w =>
 kV P (Instr.loadAt 137 v11) w fun v40_5 w =>
 pN P (nilN v40_5) fun v41_5 =>
 pV P (Instr.fieldAt 145 v41_5 1) fun v42_5 =>
 kV P (Instr.loadAt 143 v42_5) w fun v43_17 w =>
 kN P (callN (.func (.func 56) #[] #[]) #[v43_17, v46_19]) w fun v47_23 w =>
 pN P (nilN v39_13) fun v48_23 =>
 pV P (Instr.fieldAt 145 v48_23 1) fun v49_23 =>
 kU P (Instr.storeAt 143 v49_23 v47_23) w fun _ w =>
 J2 [] w)) /\
 (kV P (Instr.loadAt 137 v11) w fun v40_6 w =>
 pN P (nilN v40_6) fun v41_6 =>
 pV P (Instr.fieldAt 145 v41_6 1) fun v42_6 =>
 (kV P (Instr.loadAt 137 v11) w fun v39_14 w =>
 (kV P (Instr.loadAt 143 v42_6) w fun v43_18 w =>
 kN P (callN (.func (.func 57) #[] #[]) #[v44_8, t2]) w fun v46_20 w =>
 kN P (callN (.func (.func 56) #[] #[]) #[v43_18, v46_20]) w fun v47_24 w =>
 pN P (nilN v39_14) fun v48_24 =>
 pV P (Instr.fieldAt 145 v48_24 1) fun v49_24 =>
 kU P (Instr.storeAt 143 v49_24 v47_24) w fun _ w =>
 J2 [] w) /\
 (kN P (callN (.func (.func 57) #[] #[]) #[v44_8, t2]) w fun v46_21 w =>
 kV P (Instr.loadAt 143 v42_6) w fun v43_19 w =>
 kN P (callN (.func (.func 56) #[] #[]) #[v43_19, v46_21]) w fun v47_25 w =>
 pN P (nilN v39_14) fun v48_25 =>
 pV P (Instr.fieldAt 145 v48_25 1) fun v49_25 =>
 kU P (Instr.storeAt 143 v49_25 v47_25) w fun _ w =>
 J2 [] w)) /\
 (kV P (Instr.loadAt 143 v42_6) w fun v43_20 w =>
 (kV P (Instr.loadAt 137 v11) w fun v39_15 w =>
 kN P (callN (.func (.func 57) #[] #[]) #[v44_8, t2]) w fun v46_22 w =>
 kN P (callN (.func (.func 56) #[] #[]) #[v43_20, v46_22]) w fun v47_26 w =>
 pN P (nilN v39_15) fun v48_26 =>
 pV P (Instr.fieldAt 145 v48_26 1) fun v49_26 =>
 kU P (Instr.storeAt 143 v49_26 v47_26) w fun _ w =>
 J2 [] w) /\
 (kN P (callN (.func (.func 57) #[] #[]) #[v44_8, t2]) w fun v46_23 w =>
 (kV P (Instr.loadAt 137 v11) w fun v39_16 w =>
 kN P (callN (.func (.func 56) #[] #[]) #[v43_20, v46_23]) w fun v47_27 w =>
 pN P (nilN v39_16) fun v48_27 =>
 pV P (Instr.fieldAt 145 v48_27 1) fun v49_27 =>
 kU P (Instr.storeAt 143 v49_27 v47_27) w fun _ w =>
 J2 [] w) /\
 (kN P (callN (.func (.func 56) #[] #[]) #[v43_20, v46_23]) w fun v47_28 w =>
 kV P (Instr.loadAt 137 v11) w fun v39_17 w =>
 pN P (nilN v39_17) fun v48_28 =>
 pV P (Instr.fieldAt 145 v48_28 1) fun v49_28 =>
 kU P (Instr.storeAt 143 v49_28 v47_28) w fun _ w =>
 J2 [] w))) /\
 (kN P (callN (.func (.func 57) #[] #[]) #[v44_8, t2]) w fun v46_24 w =>
 (kV P (Instr.loadAt 137 v11) w fun v39_18 w =>
 kV P (Instr.loadAt 143 v42_6) w fun v43_21 w =>
 kN P (callN (.func (.func 56) #[] #[]) #[v43_21, v46_24]) w fun v47_29 w =>
 pN P (nilN v39_18) fun v48_29 =>
 pV P (Instr.fieldAt 145 v48_29 1) fun v49_29 =>
 kU P (Instr.storeAt 143 v49_29 v47_29) w fun _ w =>
 J2 [] w) /\
 (kV P (Instr.loadAt 143 v42_6) w fun v43_22 w =>
 (kV P (Instr.loadAt 137 v11) w fun v39_19 w =>
 kN P (callN (.func (.func 56) #[] #[]) #[v43_22, v46_24]) w fun v47_30 w =>
 pN P (nilN v39_19) fun v48_30 =>
 pV P (Instr.fieldAt 145 v48_30 1) fun v49_30 =>
 kU P (Instr.storeAt 143 v49_30 v47_30) w fun _ w =>
 J2 [] w) /\
 (kN P (callN (.func (.func 56) #[] #[]) #[v43_22, v46_24]) w fun v47_31 w =>
 kV P (Instr.loadAt 137 v11) w fun v39_20 w =>
 pN P (nilN v39_20) fun v48_31 =>
 pV P (Instr.fieldAt 145 v48_31 1) fun v49_31 =>
 kU P (Instr.storeAt 143 v49_31 v47_31) w fun _ w =>
 J2 [] w)))) /\
 (kN P (callN (.func (.func 57) #[] #[]) #[v44_8, t2]) w fun v46_25 w =>
 (kV P (Instr.loadAt 137 v11) w fun v39_21 w =>
 kV P (Instr.loadAt 137 v11) w fun v40_7 w =>
 pN P (nilN v40_7) fun v41_7 =>
 pV P (Instr.fieldAt 145 v41_7 1) fun v42_7 =>
 kV P (Instr.loadAt 143 v42_7) w fun v43_23 w =>
 kN P (callN (.func (.func 56) #[] #[]) #[v43_23, v46_25]) w fun v47_32 w =>
 pN P (nilN v39_21) fun v48_32 =>
 pV P (Instr.fieldAt 145 v48_32 1) fun v49_32 =>
 kU P (Instr.storeAt 143 v49_32 v47_32) w fun _ w =>
 J2 [] w) /\
 (kV P (Instr.loadAt 137 v11) w fun v40_8 w =>
 pN P (nilN v40_8) fun v41_8 =>
 pV P (Instr.fieldAt 145 v41_8 1) fun v42_8 =>
 (kV P (Instr.loadAt 137 v11) w fun v39_22 w =>
 kV P (Instr.loadAt 143 v42_8) w fun v43_24 w =>
 kN P (callN (.func (.func 56) #[] #[]) #[v43_24, v46_25]) w fun v47_33 w =>
 pN P (nilN v39_22) fun v48_33 =>
 pV P (Instr.fieldAt 145 v48_33 1) fun v49_33 =>
 kU P (Instr.storeAt 143 v49_33 v47_33) w fun _ w =>
 J2 [] w) /\
 (kV P (Instr.loadAt 143 v42_8) w fun v43_25 w =>
 (kV P (Instr.loadAt 137 v11) w fun v39_23 w =>
 kN P (callN (.func (.func 56) #[] #[]) #[v43_25, v46_25]) w fun v47_34 w =>
 pN P (nilN v39_23) fun v48_34 =>
 pV P (Instr.fieldAt 145 v48_34 1) fun v49_34 =>
 kU P (Instr.storeAt 143 v49_34 v47_34) w fun _ w =>
 J2 [] w) /\
 (kN P (callN (.func (.func 56) #[] #[]) #[v43_25, v46_25]) w fun v47_35 w =>
 kV P (Instr.loadAt 137 v11) w fun v39_24 w =>
 pN P (nilN v39_24) fun v48_35 =>
 pV P (Instr.fieldAt 145 v48_35 1) fun v49_35 =>
 kU P (Instr.storeAt 143 v49_35 v47_35) w fun _ w =>
 J2 [] w)))))) w) fun s2 w => ∀ _ : Nat -> Value,
 K (.int .i64 0) w)
theorem F23_eq (t0 t1 t2 t3 : Value) : funE P ⟨[(8, 999)], [], [(5, [13]), (9, [])]⟩ Tryz.f23 [t0, t1, t2, t3] w K = F23 P w K t0 t1 t2 t3 := by kernel_rfl
theorem F23_ok (t0 t1 t2 t3 : Value) (h : F23 Tryz.prog w K t0 t1 t2 t3) : callsK Tryz.prog 23 #[t0, t1, t2, t3] w K := calls_of_eq mixedM Tryz.func23 (F23_eq _ w K t0 t1 t2 t3) h
def F25 (t0 t1 t2 : Value) : Prop :=
 kV P (Instr.box 24 t2) w fun v5 w =>
 kN P (callN (.func (.func 53) #[] #[]) #[t0, t1, (.int .u64 16)]) w fun v14 w =>
 kV P (Instr.extract v14 0) w fun v15 w =>
 kV P (Instr.extract v14 1) w fun v16 w =>
 kV P (Instr.extract v14 2) w fun v17 w =>
 kV P (binV .neq 75 (.tmp 18) (.const (.int .i64 0)) v17 (.int .i64 0)) w fun v19 w =>
 condK v19
 (K v17 w)
 (kV P (Instr.loadAt 24 v5) w fun v21 w =>
 kN P (callN (.func (.func 60) #[] #[]) #[v21]) w fun v22 w =>
 kV P (Instr.alloc 152 true (.tuple #[])) w fun v10 w =>
 kU P (Instr.storeAt 152 v10 v22) w fun _ w =>
 drewK (fun w =>
 sN P (nilN v15) w fun v24 =>
 sV P (Instr.fieldAt 145 v24 0) w fun v25 =>
 sV P (Instr.sliceAt 141 v25 (some v16) none none) w fun v27 =>
 sV P (Instr.sliceAt 152 v10 none none none) w fun v28 =>
 kV P (Builtin.copy_ #[33, 33] 3 #[v27, v28]) w fun v29 w =>
 joinL (fun J0 =>
 drewK (fun w =>
 pN P (nilN v15) fun v32 =>
 pV P (Instr.fieldAt 145 v32 1) fun v33 =>
 pV P (binV .quo 3 (.tmp 35) (.const (.int .i64 16)) v16 (.int .i64 16)) fun v36 =>
 pV P (Instr.fieldAt 24 v5 0) fun v37 =>
 (kV P (Instr.loadAt 143 v33) w fun v34 w =>
 kV P (Instr.loadAt 4 v37) w fun v38 w =>
 kN P (callN (.func (.func 61) #[] #[]) #[v34, v36, v38]) w fun v39 w =>
 pN P (nilN v15) fun v40 =>
 pV P (Instr.fieldAt 145 v40 1) fun v41 =>
 kU P (Instr.storeAt 143 v41 v39) w fun _ w =>
 J0 [] w) /\
 (kV P (Instr.loadAt 4 v37) w fun v38_1 w =>
 kV P (Instr.loadAt 143 v33) w fun v34_1 w =>
 kN P (callN (.func (.func 61) #[] #[]) #[v34_1, v36, v38_1]) w fun v39_1 w =>
 pN P (nilN v15) fun v40_1 =>
 pV P (Instr.fieldAt 145 v40_1 1) fun v41_1 =>
 kU P (Instr.storeAt 143 v41_1 v39_1) w fun _ w =>
 J0 [] w)) w) fun s0 w => ∀ _ : Nat -> Value,
 K (.int .i64 0) w) w)
theorem F25_eq (t0 t1 t2 : Value) : funE P ⟨[(6, 999), (5, 6)], [], [(7, [])]⟩ Tryz.f25 [t0, t1, t2] w K = F25 P w K t0 t1 t2 := by kernel_rfl
theorem F25_ok (t0 t1 t2 : Value) (h : F25 Tryz.prog w K t0 t1 t2) : callsK Tryz.prog 25 #[t0, t1, t2] w K := calls_of_eq mixedM Tryz.func25 (F25_eq _ w K t0 t1 t2) h
def F52 (t0 : Value) : Prop :=
 joinL (fun J0 =>
 kV P (binV .eql 3 (.tmp 4) (.const (.int .i64 1)) t0 (.int .i64 1)) w fun v6 w =>
 condK v6
 (J0 [v6] w)
 (kV P (binV .eql 3 (.tmp 4) (.const (.int .i64 2)) t0 (.int .i64 2)) w fun v7 w =>
 condK v7
 (J0 [v7] w)
 (kV P (binV .eql 3 (.tmp 4) (.const (.int .i64 4)) t0 (.int .i64 4)) w fun v8 w =>
 condK v8
 (J0 [v8] w)
 (kV P (binV .eql 3 (.tmp 4) (.const (.int .i64 8)) t0 (.int .i64 8)) w fun v9 w =>
 J0 [v9] w)))) fun s0 w => ∀ _ : Nat -> Value,
 condK (s0.getD 0 undef)
 (kV P (convert 3 22 t0) w fun v11 w =>
 K (.tuple #[v11, (.bool true)]) w)
 (K (.tuple #[(.int .u64 1), (.bool false)]) w)
theorem F52_eq (t0 : Value) : funE P ⟨[], [], [(6, [5])]⟩ Tryz.f52 [t0] w K = F52 P w K t0 := by kernel_rfl
theorem F52_ok (t0 : Value) (h : F52 Tryz.prog w K t0) : callsK Tryz.prog 52 #[t0] w K := calls_of_eq mixedM Tryz.func52 (F52_eq _ w K t0) h
def F53 (t0 t1 t2 : Value) : Prop :=
 kN P (callN (.func (.func 91) #[] #[]) #[t0]) w fun v11 w =>
 condK v11
 (K (.tuple #[(.pointer none), (.int .i64 0), (.int .i64 1)]) w)
 (kV P (binV .rem 22 (.tmp 13) (.tmp 14) t1 t2) w fun v15 w =>
 kV P (binV .neq 22 (.tmp 15) (.const (.int .u64 0)) v15 (.int .u64 0)) w fun v16 w =>
 joinK (fun J0 : Value -> World -> Prop => gdK (yb v16) false (fun k => k t1 w) w fun v18 w =>
 gdK (yb v16) false (fun k => kV P (binV .quo 22 (.tmp 18) (.const (.int .u64 4096)) v18 (.int .u64 4096)) w k) w fun v19 w =>
 gdK (yb v16) false (fun k => k t0 w) w fun v20 w =>
 gdK (yb v16) false (fun k => kN P (nilN v20) w k) w fun v21 w =>
 gdK (yb v16) false (fun k => kV P (Instr.fieldAt 134 v21 0) w k) w fun v22 w =>
 gdK (yb v16) false (fun k => kV P (Instr.loadAt 132 v22) w k) w fun v23 w =>
 gdK (yb v16) false (fun k => kV P (Builtin.len_ #[132] 3 #[v23]) w k) w fun v24 w =>
 gdK (yb v16) false (fun k => kV P (convert 3 22 v24) w k) w fun v25 w =>
 gdK (yb v16) false (fun k => kV P (binV .geq 22 (.tmp 19) (.tmp 25) v19 v25) w k) w fun v26 w =>
 kN P (pickN v16 (.bool true) v26) w fun v27_1 w =>
 J0 v27_1 w) fun v27 w =>
 condK v27
 (K (.tuple #[(.pointer none), (.int .i64 0), (.int .i64 2)]) w)
 (kN P (nilN t0) w fun v29 w =>
 kV P (Instr.fieldAt 134 v29 0) w fun v30 w =>
 kV P (Instr.loadAt 132 v30) w fun v31 w =>
 kV P (binV .quo 22 (.tmp 32) (.const (.int .u64 4096)) t1 (.int .u64 4096)) w fun v33 w =>
 kV P (Instr.indexAt 132 v31 v33) w fun v34 w =>
 kV P (binV .rem 22 (.tmp 35) (.const (.int .u64 4096)) t1 (.int .u64 4096)) w fun v36 w =>
 kV P (convert 22 3 v36) w fun v37 w =>
 K (.tuple #[v34, v37, (.int .i64 0)]) w))
theorem F53_eq (t0 t1 t2 : Value) : funE P ⟨[], [], []⟩ Tryz.f53 [t0, t1, t2] w K = F53 P w K t0 t1 t2 := by kernel_rfl
theorem F53_ok (t0 t1 t2 : Value) (h : F53 Tryz.prog w K t0 t1 t2) : callsK Tryz.prog 53 #[t0, t1, t2] w K := calls_of_eq mixedM Tryz.func53 (F53_eq _ w K t0 t1 t2) h
def F54 (t0 t1 : Value) : Prop :=
 loopT (fun R0 s0 w => ∀ _ : Nat -> Value,
 kV P (binV .lss 3 (.tmp 6) (.tmp 5) (s0.getD 0 undef) t0) w fun v7 w =>
 condK v7
 (kN P (callN t1 #[(s0.getD 0 undef)]) w fun v11 w =>
 kV P (binV .add 3 (.tmp 6) (.const (.int .i64 1)) (s0.getD 0 undef) (.int .i64 1)) w fun v12 w =>
 R0 [v12] w)
 (K (.tuple #[]) w)) [(.int .i64 0)] w
theorem F54_eq (t0 t1 : Value) : funE P ⟨[], [(1, [6])], []⟩ Tryz.f54 [t0, t1] w K = F54 P w K t0 t1 := by kernel_rfl
theorem F54_ok (t0 t1 : Value) (h : F54 Tryz.prog w K t0 t1) : callsK Tryz.prog 54 #[t0, t1] w K := calls_of_eq mixedM Tryz.func54 (F54_eq _ w K t0 t1) h
def F55 (t0 t1 t2 t3 : Value) : Prop :=
 drewK (fun w =>
 sV P (Instr.loadAt 137 t2) w fun v5 =>
 sV P (Instr.loadAt 3 t3) w fun v6 =>
 sV P (binV .add 3 (.tmp 6) (.tmp 7) v6 t0) w fun v8 =>
 sV P (Instr.loadAt 22 t1) w fun v9 =>
 sV P (binV .mul 3 (.const (.int .i64 8)) (.tmp 10) (.int .i64 8) t0) w fun v11 =>
 sV P (binV .shr 22 (.tmp 9) (.tmp 11) v9 v11) w fun v12 =>
 sV P (convert 22 5 v12) w fun v13 =>
 sN P (nilN v5) w fun v14 =>
 sV P (Instr.fieldAt 145 v14 0) w fun v15 =>
 kV P (Instr.indexAt 141 v15 v8) w fun v16 w =>
 kU P (Instr.storeAt 5 v16 v13) w fun _ w =>
 K (.tuple #[]) w) w
theorem F55_eq (t0 t1 t2 t3 : Value) : funE P ⟨[(0, 11)], [], []⟩ Tryz.f55 [t0, t1, t2, t3] w K = F55 P w K t0 t1 t2 t3 := by kernel_rfl
theorem F55_ok (t0 t1 t2 t3 : Value) (h : F55 Tryz.prog w K t0 t1 t2 t3) : callsK Tryz.prog 55 #[t0, t1, t2, t3] w K := calls_of_eq mixedM Tryz.func55 (F55_eq _ w K t0 t1 t2 t3) h
def F56 (t0 t1 : Value) : Prop :=
 kV P (Instr.box 143 t0) w fun v2 w =>
 kV P (Instr.box 143 t1) w fun v3 w =>
 kV P (Instr.alloc 143 true (.tuple #[])) w fun v4 w =>
 loopT (fun R0 s0 w => ∀ _ : Nat -> Value,
 kV P (binV .lss 3 (.tmp 6) (.const (.int .i64 4)) (s0.getD 0 undef) (.int .i64 4)) w fun v7 w =>
 condK v7
 (drewK (fun w =>
 sV P (Instr.indexAt 143 v2 (s0.getD 0 undef)) w fun v10 =>
 sV P (Instr.loadAt 22 v10) w fun v11 =>
 sV P (Instr.indexAt 143 v3 (s0.getD 0 undef)) w fun v13 =>
 sV P (Instr.loadAt 22 v13) w fun v14 =>
 kV P (binV .andNot 22 (.tmp 11) (.tmp 14) v11 v14) w fun v15 w =>
 kV P (Instr.indexAt 143 v2 (s0.getD 0 undef)) w fun v16 w =>
 kU P (Instr.storeAt 22 v16 v15) w fun _ w =>
 kV P (binV .add 3 (.tmp 6) (.const (.int .i64 1)) (s0.getD 0 undef) (.int .i64 1)) w fun v17 w =>
 R0 [v17] w) w)
 (kV P (Instr.loadAt 143 v2) w fun v18 w =>
 kU P (Instr.storeAt 143 v4 v18) w fun _ w =>
 retV P 143 v4 w fun r2 =>
 K r2 w)) [(.int .i64 0)] w
theorem F56_eq (t0 t1 : Value) : funE P ⟨[(4, 6)], [(2, [6])], []⟩ Tryz.f56 [t0, t1] w K = F56 P w K t0 t1 := by kernel_rfl
theorem F56_ok (t0 t1 : Value) (h : F56 Tryz.prog w K t0 t1) : callsK Tryz.prog 56 #[t0, t1] w K := calls_of_eq mixedM Tryz.func56 (F56_eq _ w K t0 t1) h
def F57 (t0 t1 : Value) : Prop :=
 kV P (Instr.alloc 143 true (.tuple #[])) w fun v4 w =>
 kV P (Instr.alloc 143 true (.tuple #[])) w fun v5 w =>
 kV P (binV .lss 3 (.tmp 8) (.const (.int .i64 1)) t1 (.int .i64 1)) w fun v9 w =>
 joinK (fun J0 : Value -> World -> Prop => gdK (yb v9) false (fun k => k t0 w) w fun v11 w =>
 gdK (yb v9) false (fun k => kV P (binV .geq 3 (.tmp 11) (.const (.int .i64 4096)) v11 (.int .i64 4096)) w k) w fun v12 w =>
 kN P (pickN v9 (.bool true) v12) w fun v13_1 w =>
 J0 v13_1 w) fun v13 w =>
 condK v13
 (kV P (Instr.loadAt 143 v5) w fun v14 w =>
 kU P (Instr.storeAt 143 v4 v14) w fun _ w =>
 retV P 143 v4 w fun r1 =>
 K r1 w)
 (joinL (fun J2 =>
 kV P (binV .lss 3 (.tmp 15) (.const (.int .i64 0)) t0 (.int .i64 0)) w fun v16 w =>
 condK v16
 (kV P (binV .lss 3 (.tmp 17) (.const (.int .i64 (-4096))) t0 (.int .i64 (-4096))) w fun v18 w =>
 joinK (fun J8 : Value -> World -> Prop => gdK (yb v18) true (fun k => k t0 w) w fun v20 w =>
 gdK (yb v18) true (fun k => k t1 w) w fun v21 w =>
 gdK (yb v18) true (fun k => kV P (binV .add 3 (.tmp 20) (.tmp 21) v20 v21) w k) w fun v22 w =>
 gdK (yb v18) true (fun k => kV P (binV .leq 3 (.tmp 22) (.const (.int .i64 0)) v22 (.int .i64 0)) w k) w fun v23 w =>
 kN P (pickN v18 v23 (.bool false)) w fun v24_1 w =>
 J8 v24_1 w) fun v24 w =>
 joinK (fun J9 : Value -> World -> Prop => gdK (yb v24) false (fun k => k t1 w) w fun v26 w =>
 gdK (yb v24) false (fun k => k t0 w) w fun v27 w =>
 gdK (yb v24) false (fun k => kV P (Op.unary .neg v27) w k) w fun v28 w =>
 gdK (yb v24) false (fun k => kV P (binV .leq 3 (.tmp 26) (.tmp 28) v26 v28) w k) w fun v29 w =>
 kN P (pickN v24 (.bool true) v29) w fun v30_1 w =>
 J9 v30_1 w) fun v30 w =>
 condK v30
 (kV P (Instr.loadAt 143 v5) w fun v31 w =>
 kU P (Instr.storeAt 143 v4 v31) w fun _ w =>
 retV P 143 v4 w fun r10 =>
 K r10 w)
 (kV P (binV .add 3 (.tmp 32) (.tmp 33) t1 t0) w fun v34 w =>
 J2 [(.int .i64 0), v34] w))
 (J2 [t0, t1] w)) fun s2 w => ∀ _ : Nat -> Value,
 kV P (binV .sub 3 (.const (.int .i64 4096)) (.tmp 37) (.int .i64 4096) (s2.getD 0 undef)) w fun v38 w =>
 kV P (Builtin.min_ #[3, 3] 3 #[(s2.getD 1 undef), v38]) w fun v39 w =>
 kV P (binV .add 3 (.tmp 35) (.tmp 39) (s2.getD 0 undef) v39) w fun v40 w =>
 kV P (binV .sub 3 (.tmp 40) (.const (.int .i64 1)) v40 (.int .i64 1)) w fun v41 w =>
 loopT (fun R4 s4 w => ∀ _ : Nat -> Value,
 kV P (binV .lss 3 (.tmp 42) (.const (.int .i64 256)) (s4.getD 0 undef) (.int .i64 256)) w fun v43 w =>
 condK v43
 (kV P (Instr.loadAt 143 v5) w fun v45 w =>
 kV P (binV .quo 3 (.tmp 48) (.const (.int .i64 16)) (s2.getD 0 undef) (.int .i64 16)) w fun v49 w =>
 kV P (binV .geq 3 (.tmp 47) (.tmp 49) (s4.getD 0 undef) v49) w fun v50 w =>
 joinK (fun J6 : Value -> World -> Prop => gdK (yb v50) true (fun k => k (s4.getD 0 undef) w) w fun v52 w =>
 gdK (yb v50) true (fun k => k v41 w) w fun v53 w =>
 gdK (yb v50) true (fun k => kV P (binV .quo 3 (.tmp 53) (.const (.int .i64 16)) v53 (.int .i64 16)) w k) w fun v54 w =>
 gdK (yb v50) true (fun k => kV P (binV .leq 3 (.tmp 52) (.tmp 54) v52 v54) w k) w fun v55 w =>
 kN P (pickN v50 v55 (.bool false)) w fun v56_1 w =>
 J6 v56_1 w) fun v56 w =>
 kN P (callN (.func (.func 61) #[] #[]) #[v45, (s4.getD 0 undef), v56]) w fun v57 w =>
 kU P (Instr.storeAt 143 v5 v57) w fun _ w =>
 kV P (binV .add 3 (.tmp 42) (.const (.int .i64 1)) (s4.getD 0 undef) (.int .i64 1)) w fun v58 w =>
 R4 [v58] w)
 (kV P (Instr.loadAt 143 v5) w fun v59 w =>
 kU P (Instr.storeAt 143 v4 v59) w fun _ w =>
 retV P 143 v4 w fun r7 =>
 K r7 w)) [(.int .i64 0)] w)
theorem F57_eq (t0 t1 : Value) : funE P ⟨[], [(10, [42])], [(8, [0, 1])]⟩ Tryz.f57 [t0, t1] w K = F57 P w K t0 t1 := by kernel_rfl
theorem F57_ok (t0 t1 : Value) (h : F57 Tryz.prog w K t0 t1) : callsK Tryz.prog 57 #[t0, t1] w K := calls_of_eq mixedM Tryz.func57 (F57_eq _ w K t0 t1) h
def F60 (t0 : Value) : Prop :=
 kV P (Instr.box 24 t0) w fun v1 w =>
 kV P (Instr.alloc 152 true (.tuple #[])) w fun v2 w =>
 kV P (Instr.alloc 152 true (.tuple #[])) w fun v3 w =>
 loopT (fun R0 s0 w => ∀ _ : Nat -> Value,
 kV P (binV .lss 3 (.tmp 5) (.const (.int .i64 8)) (s0.getD 0 undef) (.int .i64 8)) w fun v6 w =>
 condK v6
 (joinL (fun J2 =>
 drewK (fun w =>
 pV P (binV .add 3 (.const (.int .i64 8)) (.tmp 9) (.int .i64 8) (s0.getD 0 undef)) fun v10 =>
 pV P (Instr.fieldAt 24 v1 2) fun v11 =>
 pV P (binV .mul 3 (.const (.int .i64 8)) (.tmp 13) (.int .i64 8) (s0.getD 0 undef)) fun v14 =>
 pV P (Instr.fieldAt 24 v1 1) fun v17 =>
 pV P (binV .mul 3 (.const (.int .i64 8)) (.tmp 19) (.int .i64 8) (s0.getD 0 undef)) fun v20 =>
 (kV P (Instr.loadAt 22 v11) w fun v12 w =>
 pV P (binV .shr 22 (.tmp 12) (.tmp 14) v12 v14) fun v15 =>
 pV P (convert 22 5 v15) fun v16 =>
 pV P (Instr.indexAt 152 v3 (s0.getD 0 undef)) fun v23 =>
 (kV P (Instr.loadAt 22 v17) w fun v18 w =>
 pV P (binV .shr 22 (.tmp 18) (.tmp 20) v18 v20) fun v21 =>
 pV P (convert 22 5 v21) fun v22 =>
 kU P (Instr.storeAt 5 v23 v16) w fun _ w =>
 pV P (Instr.indexAt 152 v3 v10) fun v24 =>
 kU P (Instr.storeAt 5 v24 v22) w fun _ w =>
 J2 [] w) /\
 (kU P (Instr.storeAt 5 v23 v16) w fun _ w =>
 kV P (Instr.loadAt 22 v17) w fun v18_1 w =>
 pV P (binV .shr 22 (.tmp 18) (.tmp 20) v18_1 v20) fun v21_1 =>
 pV P (convert 22 5 v21_1) fun v22_1 =>
 pV P (Instr.indexAt 152 v3 v10) fun v24_1 =>
 kU P (Instr.storeAt 5 v24_1 v22_1) w fun _ w =>
 J2 [] w)) /\
 (kV P (Instr.loadAt 22 v17) w fun v18_2 w =>
 pV P (binV .shr 22 (.tmp 18) (.tmp 20) v18_2 v20) fun v21_2 =>
 pV P (convert 22 5 v21_2) fun v22_2 =>
 kV P (Instr.loadAt 22 v11) w fun v12_1 w =>
 pV P (binV .shr 22 (.tmp 12) (.tmp 14) v12_1 v14) fun v15_1 =>
 pV P (convert 22 5 v15_1) fun v16_1 =>
 pV P (Instr.indexAt 152 v3 (s0.getD 0 undef)) fun v23_1 =>
 kU P (Instr.storeAt 5 v23_1 v16_1) w fun _ w =>
 pV P (Instr.indexAt 152 v3 v10) fun v24_2 =>
 kU P (Instr.storeAt 5 v24_2 v22_2) w fun _ w =>
 J2 [] w)) w) fun s2 w => ∀ _ : Nat -> Value,
 kV P (binV .add 3 (.tmp 5) (.const (.int .i64 1)) (s0.getD 0 undef) (.int .i64 1)) w fun v25 w =>
 R0 [v25] w)
 (kV P (Instr.loadAt 152 v3) w fun v26 w =>
 kU P (Instr.storeAt 152 v2 v26) w fun _ w =>
 retV P 152 v2 w fun r4 =>
 K r4 w)) [(.int .i64 0)] w
theorem F60_eq (t0 : Value) : funE P ⟨[(5, 999)], [(3, [5])], [(6, [])]⟩ Tryz.f60 [t0] w K = F60 P w K t0 := by kernel_rfl
theorem F60_ok (t0 : Value) (h : F60 Tryz.prog w K t0) : callsK Tryz.prog 60 #[t0] w K := calls_of_eq mixedM Tryz.func60 (F60_eq _ w K t0) h
def F61 (t0 t1 t2 : Value) : Prop :=
 kV P (Instr.box 143 t0) w fun v3 w =>
 kV P (Instr.alloc 143 true (.tuple #[])) w fun v6 w =>
 kN P (callN (.func (.func 93) #[] #[]) #[t1]) w fun v9 w =>
 kV P (Op.unary .not v9) w fun v10 w =>
 condK v10
 (kV P (Instr.loadAt 143 v3) w fun v11 w =>
 kU P (Instr.storeAt 143 v6 v11) w fun _ w =>
 retV P 143 v6 w fun r0 =>
 K r0 w)
 (kV P (binV .rem 3 (.tmp 12) (.const (.int .i64 64)) t1 (.int .i64 64)) w fun v13 w =>
 kV P (binV .shl 22 (.const (.int .u64 1)) (.tmp 13) (.int .u64 1) v13) w fun v14 w =>
 joinL (fun J1 =>
 condK t2
 (kV P (binV .quo 3 (.tmp 16) (.const (.int .i64 64)) t1 (.int .i64 64)) w fun v17 w =>
 kV P (Instr.indexAt 143 v3 v17) w fun v18 w =>
 kV P (Instr.loadAt 22 v18) w fun v19 w =>
 kV P (binV .or 22 (.tmp 19) (.tmp 20) v19 v14) w fun v21 w =>
 kV P (Instr.indexAt 143 v3 v17) w fun v22 w =>
 kU P (Instr.storeAt 22 v22 v21) w fun _ w =>
 J1 [] w)
 (kV P (binV .quo 3 (.tmp 23) (.const (.int .i64 64)) t1 (.int .i64 64)) w fun v24 w =>
 kV P (Instr.indexAt 143 v3 v24) w fun v25 w =>
 kV P (Instr.loadAt 22 v25) w fun v26 w =>
 kV P (binV .andNot 22 (.tmp 26) (.tmp 27) v26 v14) w fun v28 w =>
 kV P (Instr.indexAt 143 v3 v24) w fun v29 w =>
 kU P (Instr.storeAt 22 v29 v28) w fun _ w =>
 J1 [] w)) fun s1 w => ∀ _ : Nat -> Value,
 kV P (Instr.loadAt 143 v3) w fun v30 w =>
 kU P (Instr.storeAt 143 v6 v30) w fun _ w =>
 retV P 143 v6 w fun r3 =>
 K r3 w)
theorem F61_eq (t0 t1 t2 : Value) : funE P ⟨[], [], [(7, [])]⟩ Tryz.f61 [t0, t1, t2] w K = F61 P w K t0 t1 t2 := by kernel_rfl
theorem F61_ok (t0 t1 t2 : Value) (h : F61 Tryz.prog w K t0 t1 t2) : callsK Tryz.prog 61 #[t0, t1, t2] w K := calls_of_eq mixedM Tryz.func61 (F61_eq _ w K t0 t1 t2) h
def F91 (t0 : Value) : Prop :=
 kV P (binV .eql 31 (.tmp 3) (.const (.pointer none)) t0 (.pointer none)) w fun v4 w =>
 joinK (fun J0 : Value -> World -> Prop => gdK (yb v4) false (fun k => k t0 w) w fun v6 w =>
 gdK (yb v4) false (fun k => kN P (nilN v6) w k) w fun v7 w =>
 gdK (yb v4) false (fun k => kV P (Instr.fieldAt 134 v7 0) w k) w fun v8 w =>
 gdK (yb v4) false (fun k => kV P (Instr.loadAt 132 v8) w k) w fun v9 w =>
 gdK (yb v4) false (fun k => kV P (Builtin.len_ #[132] 3 #[v9]) w k) w fun v10 w =>
 gdK (yb v4) false (fun k => kV P (binV .eql 3 (.tmp 10) (.const (.int .i64 0)) v10 (.int .i64 0)) w k) w fun v11 w =>
 kN P (pickN v4 (.bool true) v11) w fun v12_1 w =>
 J0 v12_1 w) fun v12 w =>
 K v12 w
theorem F91_eq (t0 : Value) : funE P ⟨[], [], []⟩ Tryz.f91 [t0] w K = F91 P w K t0 := by kernel_rfl
theorem F91_ok (t0 : Value) (h : F91 Tryz.prog w K t0) : callsK Tryz.prog 91 #[t0] w K := calls_of_eq mixedM Tryz.func91 (F91_eq _ w K t0) h
def F93 (t0 : Value) : Prop :=
 kV P (binV .geq 3 (.tmp 3) (.const (.int .i64 0)) t0 (.int .i64 0)) w fun v4 w =>
 joinK (fun J0 : Value -> World -> Prop => gdK (yb v4) true (fun k => k t0 w) w fun v6 w =>
 gdK (yb v4) true (fun k => kV P (binV .lss 3 (.tmp 6) (.const (.int .i64 256)) v6 (.int .i64 256)) w k) w fun v7 w =>
 kN P (pickN v4 v7 (.bool false)) w fun v8_1 w =>
 J0 v8_1 w) fun v8 w =>
 K v8 w
theorem F93_eq (t0 : Value) : funE P ⟨[], [], []⟩ Tryz.f93 [t0] w K = F93 P w K t0 := by kernel_rfl
theorem F93_ok (t0 : Value) (h : F93 Tryz.prog w K t0) : callsK Tryz.prog 93 #[t0] w K := calls_of_eq mixedM Tryz.func93 (F93_eq _ w K t0) h
def F147 (t0 t1 t2 : Value) : Prop :=
 kN P (callN (.func (.func 52) #[] #[]) #[t2]) w fun v16 w =>
 kV P (Instr.extract v16 0) w fun v17 w =>
 kV P (Instr.extract v16 1) w fun v18 w =>
 kN P (callN (.func (.func 53) #[] #[]) #[t0, t1, v17]) w fun v23 w =>
 kV P (Instr.extract v23 0) w fun v24 w =>
 kV P (Instr.extract v23 1) w fun v25 w =>
 kV P (Instr.extract v23 2) w fun v26 w =>
 kV P (Instr.alloc 137 true (.tuple #[])) w fun v10 w =>
 kV P (Instr.alloc 3 true (.tuple #[])) w fun v11 w =>
 kU P (Instr.storeAt 137 v10 v24) w fun _ w =>
 kU P (Instr.storeAt 3 v11 v25) w fun _ w =>
 joinL (fun J0 =>
 kV P (binV .eql 75 (.tmp 27) (.const (.int .i64 0)) v26 (.int .i64 0)) w fun v28 w =>
 joinK (fun J2 : Value -> World -> Prop => gdK (yb v28) true (fun k => k v18 w) w fun v30 w =>
 gdK (yb v28) true (fun k => kV P (Op.unary .not v30) w k) w fun v31 w =>
 kN P (pickN v28 v31 (.bool false)) w fun v32_1 w =>
 J2 v32_1 w) fun v32 w =>
 condK v32
 (J0 [(.int .i64 2)] w)
 (J0 [v26] w)) fun s0 w => ∀ _ : Nat -> Value,
 kV P (binV .neq 75 (.tmp 33) (.const (.int .i64 0)) (s0.getD 0 undef) (.int .i64 0)) w fun v34 w =>
 condK v34
 (K (.tuple #[(.int .u64 0), (s0.getD 0 undef)]) w)
 (kV P (Instr.alloc 22 true (.tuple #[])) w fun v13 w =>
 kU P (Instr.storeAt 22 v13 (.int .u64 0)) w fun _ w =>
 kN P (callN (.func (.func 54) #[] #[]) #[t2, (.func (.func 149) #[] #[v13, v10, v11])]) w fun v38 w =>
 kV P (Instr.loadAt 22 v13) w fun v39 w =>
 K (.tuple #[v39, (.int .i64 0)]) w)
theorem F147_eq (t0 t1 t2 : Value) : funE P ⟨[], [], [(5, [12])]⟩ Tryz.f147 [t0, t1, t2] w K = F147 P w K t0 t1 t2 := by kernel_rfl
theorem F147_ok (t0 t1 t2 : Value) (h : F147 Tryz.prog w K t0 t1 t2) : callsK Tryz.prog 147 #[t0, t1, t2] w K := calls_of_eq mixedM Tryz.func147 (F147_eq _ w K t0 t1 t2) h
def F148 (t0 t1 : Value) : Prop :=
 kV P (Instr.alloc 24 true (.tuple #[])) w fun v4 w =>
 kN P (callN (.func (.func 53) #[] #[]) #[t0, t1, (.int .u64 16)]) w fun v12 w =>
 kV P (Instr.extract v12 0) w fun v13 w =>
 kV P (Instr.extract v12 1) w fun v14 w =>
 kV P (Instr.extract v12 2) w fun v15 w =>
 kV P (binV .neq 75 (.tmp 16) (.const (.int .i64 0)) v15 (.int .i64 0)) w fun v17 w =>
 condK v17
 (kV P (Instr.build 24 #[]) w fun v18 w =>
 kU P (Instr.storeAt 24 v4 v18) w fun _ w =>
 retV P 24 v4 w fun r0 =>
 K (.tuple #[r0, v15]) w)
 (drewK (fun w =>
 pN P (nilN v13) fun v21 =>
 pV P (Instr.fieldAt 145 v21 0) fun v22 =>
 pV P (binV .add 3 (.tmp 24) (.const (.int .i64 16)) v14 (.int .i64 16)) fun v25 =>
 pV P (Instr.sliceAt 141 v22 (some v14) (some v25) none) fun v26 =>
 pV P (Instr.arrayAt 152 v26) fun v27 =>
 pN P (nilN v13) fun v30 =>
 pV P (Instr.fieldAt 145 v30 1) fun v31 =>
 pV P (binV .quo 3 (.tmp 33) (.const (.int .i64 16)) v14 (.int .i64 16)) fun v34 =>
 (kV P (Instr.loadAt 152 v27) w fun v28 w =>
 kV P (Instr.loadAt 143 v31) w fun v32 w =>
 kN P (callN (.func (.func 151) #[] #[]) #[v32, v34]) w fun v35 w =>
 kN P (callN (.func (.func 150) #[] #[]) #[v28, v35]) w fun v36 w =>
 kU P (Instr.storeAt 24 v4 v36) w fun _ w =>
 retV P 24 v4 w fun r1 =>
 K (.tuple #[r1, (.int .i64 0)]) w) /\
 (kV P (Instr.loadAt 143 v31) w fun v32_1 w =>
 (kV P (Instr.loadAt 152 v27) w fun v28_1 w =>
 kN P (callN (.func (.func 151) #[] #[]) #[v32_1, v34]) w fun v35_1 w =>
 kN P (callN (.func (.func 150) #[] #[]) #[v28_1, v35_1]) w fun v36_1 w =>
 kU P (Instr.storeAt 24 v4 v36_1) w fun _ w =>
 retV P 24 v4 w fun r2 =>
 K (.tuple #[r2, (.int .i64 0)]) w) /\
 (kN P (callN (.func (.func 151) #[] #[]) #[v32_1, v34]) w fun v35_2 w =>
 kV P (Instr.loadAt 152 v27) w fun v28_2 w =>
 kN P (callN (.func (.func 150) #[] #[]) #[v28_2, v35_2]) w fun v36_2 w =>
 kU P (Instr.storeAt 24 v4 v36_2) w fun _ w =>
 retV P 24 v4 w fun r3 =>
 K (.tuple #[r3, (.int .i64 0)]) w))) w)
theorem F148_eq (t0 t1 : Value) : funE P ⟨[(4, 999)], [], []⟩ Tryz.f148 [t0, t1] w K = F148 P w K t0 t1 := by kernel_rfl
theorem F148_ok (t0 t1 : Value) (h : F148 Tryz.prog w K t0 t1) : callsK Tryz.prog 148 #[t0, t1] w K := calls_of_eq mixedM Tryz.func148 (F148_eq _ w K t0 t1) h
def F149 (t0 t1 t2 t3 : Value) : Prop :=
 drewK (fun w =>
 sV P (Instr.loadAt 22 t1) w fun v5 =>
 sV P (Instr.loadAt 137 t2) w fun v6 =>
 sV P (Instr.loadAt 3 t3) w fun v7 =>
 sV P (binV .add 3 (.tmp 7) (.tmp 8) v7 t0) w fun v9 =>
 sN P (nilN v6) w fun v10 =>
 sV P (Instr.fieldAt 145 v10 0) w fun v11 =>
 sV P (Instr.indexAt 141 v11 v9) w fun v12 =>
 sV P (Instr.loadAt 5 v12) w fun v13 =>
 sV P (convert 5 22 v13) w fun v14 =>
 sV P (binV .mul 3 (.const (.int .i64 8)) (.tmp 15) (.int .i64 8) t0) w fun v16 =>
 sV P (binV .shl 22 (.tmp 14) (.tmp 16) v14 v16) w fun v17 =>
 kV P (binV .or 22 (.tmp 5) (.tmp 17) v5 v17) w fun v18 w =>
 kU P (Instr.storeAt 22 t1 v18) w fun _ w =>
 K (.tuple #[]) w) w
theorem F149_eq (t0 t1 t2 t3 : Value) : funE P ⟨[(0, 13)], [], []⟩ Tryz.f149 [t0, t1, t2, t3] w K = F149 P w K t0 t1 t2 t3 := by kernel_rfl
theorem F149_ok (t0 t1 t2 t3 : Value) (h : F149 Tryz.prog w K t0 t1 t2 t3) : callsK Tryz.prog 149 #[t0, t1, t2, t3] w K := calls_of_eq mixedM Tryz.func149 (F149_eq _ w K t0 t1 t2 t3) h
def F150 (t0 t1 : Value) : Prop :=
 kV P (Instr.box 152 t0) w fun v2 w =>
 kV P (Instr.alloc 24 true (.tuple #[])) w fun v4 w =>
 drewK (fun w =>
 pV P (Instr.sliceAt 152 v2 (some (.int .i64 8)) none none) fun v6 =>
 pV P (Instr.sliceAt 152 v2 none (some (.int .i64 8)) none) fun v8 =>
 kN P (callN (.func (.func 152) #[] #[]) #[v6]) w fun v7 w =>
 kN P (callN (.func (.func 152) #[] #[]) #[v8]) w fun v9 w =>
 pV P (Instr.build 24 #[(0, t1), (1, v7), (2, v9)]) fun v10 =>
 kU P (Instr.storeAt 24 v4 v10) w fun _ w =>
 retV P 24 v4 w fun r0 =>
 K r0 w) w
theorem F150_eq (t0 t1 : Value) : funE P ⟨[(1, 999)], [], []⟩ Tryz.f150 [t0, t1] w K = F150 P w K t0 t1 := by kernel_rfl
theorem F150_ok (t0 t1 : Value) (h : F150 Tryz.prog w K t0 t1) : callsK Tryz.prog 150 #[t0, t1] w K := calls_of_eq mixedM Tryz.func150 (F150_eq _ w K t0 t1) h
def F151 (t0 t1 : Value) : Prop :=
 kV P (Instr.box 143 t0) w fun v2 w =>
 kN P (callN (.func (.func 93) #[] #[]) #[t1]) w fun v6 w =>
 joinK (fun J0 : Value -> World -> Prop => gdK (yb v6) true (fun k => k t1 w) w fun v8 w =>
 gdK (yb v6) true (fun k => kV P (binV .quo 3 (.tmp 8) (.const (.int .i64 64)) v8 (.int .i64 64)) w k) w fun v9 w =>
 gdK (yb v6) true (fun k => kV P (Instr.indexAt 143 v2 v9) w k) w fun v10 w =>
 gdK (yb v6) true (fun k => kV P (Instr.loadAt 22 v10) w k) w fun v11 w =>
 gdK (yb v6) true (fun k => k t1 w) w fun v12 w =>
 gdK (yb v6) true (fun k => kV P (binV .rem 3 (.tmp 12) (.const (.int .i64 64)) v12 (.int .i64 64)) w k) w fun v13 w =>
 gdK (yb v6) true (fun k => kV P (binV .shr 22 (.tmp 11) (.tmp 13) v11 v13) w k) w fun v14 w =>
 gdK (yb v6) true (fun k => kV P (binV .and 22 (.tmp 14) (.const (.int .u64 1)) v14 (.int .u64 1)) w k) w fun v15 w =>
 gdK (yb v6) true (fun k => kV P (binV .neq 22 (.tmp 15) (.const (.int .u64 0)) v15 (.int .u64 0)) w k) w fun v16 w =>
 kN P (pickN v6 v16 (.bool false)) w fun v17_1 w =>
 J0 v17_1 w) fun v17 w =>
 K v17 w
theorem F151_eq (t0 t1 : Value) : funE P ⟨[], [], []⟩ Tryz.f151 [t0, t1] w K = F151 P w K t0 t1 := by kernel_rfl
theorem F151_ok (t0 t1 : Value) (h : F151 Tryz.prog w K t0 t1) : callsK Tryz.prog 151 #[t0, t1] w K := calls_of_eq mixedM Tryz.func151 (F151_eq _ w K t0 t1) h
def F152 (t0 : Value) : Prop :=
 kV P (Builtin.len_ #[33] 3 #[t0]) w fun v7 w =>
 loopT (fun R0 s0 w => ∀ _ : Nat -> Value,
 kV P (binV .lss 3 (.tmp 8) (.tmp 7) (s0.getD 1 undef) v7) w fun v9 w =>
 condK v9
 (kV P (Instr.indexAt 33 t0 (s0.getD 1 undef)) w fun v11 w =>
 kV P (Instr.loadAt 5 v11) w fun v12 w =>
 kV P (convert 5 22 v12) w fun v15 w =>
 kV P (binV .mul 3 (.const (.int .i64 8)) (.tmp 16) (.int .i64 8) (s0.getD 1 undef)) w fun v17 w =>
 kV P (binV .shl 22 (.tmp 15) (.tmp 17) v15 v17) w fun v18 w =>
 kV P (binV .or 22 (.tmp 13) (.tmp 18) (s0.getD 0 undef) v18) w fun v19 w =>
 kV P (binV .add 3 (.tmp 8) (.const (.int .i64 1)) (s0.getD 1 undef) (.int .i64 1)) w fun v20 w =>
 R0 [v19, v20] w)
 (K (s0.getD 0 undef) w)) [(.int .u64 0), (.int .i64 0)] w
theorem F152_eq (t0 : Value) : funE P ⟨[], [(3, [3, 8])], []⟩ Tryz.f152 [t0] w K = F152 P w K t0 := by kernel_rfl
theorem F152_ok (t0 : Value) (h : F152 Tryz.prog w K t0) : callsK Tryz.prog 152 #[t0] w K := calls_of_eq mixedM Tryz.func152 (F152_eq _ w K t0) h
end
open Go.Fx
set_option maxRecDepth 100000
set_option maxHeartbeats 4000000
theorem RM_bl_134_0 : ∀ (a0x0 : Option Addr) (a0x0n a0x0c : Nat) (w : World), (Instr.build 134 [(0, .slice a0x0 a0x0n a0x0c)].toArray).run Tryz.prog w = .ok (.agg [.slice a0x0 a0x0n a0x0c].toArray) w := fun a0x0 a0x0n a0x0c w => run_build w 134 _ _ (by kernel_rfl)
theorem RM_call_52 : type_of% (Fx.kN_callf Tryz.call52) := Fx.kN_callf Tryz.call52
theorem RM_call_53 : type_of% (Fx.kN_callf Tryz.call53) := Fx.kN_callf Tryz.call53
theorem RM_al_137 : type_of% (Fx.run_alloc Tryz.zeroValue137) := Fx.run_alloc Tryz.zeroValue137
theorem RM_al_3 : type_of% (Fx.run_alloc Tryz.zeroValue3) := Fx.run_alloc Tryz.zeroValue3
theorem RM_st_137 : type_of% (Fx.run_store1' Tryz.sizeOf137) := Fx.run_store1' Tryz.sizeOf137
theorem RM_call_55 : type_of% (Fx.kN_callf Tryz.call55) := Fx.kN_callf Tryz.call55
theorem RM_call_54 : type_of% (Fx.kN_callf Tryz.call54) := Fx.kN_callf Tryz.call54
theorem RM_ld_137 : type_of% (Fx.run_load1' Tryz.isAgg137) := Fx.run_load1' Tryz.isAgg137
theorem RM_fld_145_1 : ∀ (b o : Nat) (w : World), (Instr.fieldAt 145 (.pointer (some ⟨b, o, none⟩)) 1).run Tryz.prog w = .ok (.pointer (some ⟨b, o + 4096, none⟩)) w := Fx.run_fieldO 1 4096 4 Tryz.underlying145 rfl Tryz.sizeOf143 (by decide)
theorem RM_ld_143 : type_of% (Fx.run_loadN' Tryz.isAgg143 Tryz.sizeOf143) := Fx.run_loadN' Tryz.isAgg143 Tryz.sizeOf143
theorem RM_call_57 : type_of% (Fx.kN_callf Tryz.call57) := Fx.kN_callf Tryz.call57
theorem RM_call_56 : type_of% (Fx.kN_callf Tryz.call56) := Fx.kN_callf Tryz.call56
theorem RM_st_143 : type_of% (Fx.run_storeN' Tryz.sizeOf143) := Fx.run_storeN' Tryz.sizeOf143
theorem RM_call_60 : type_of% (Fx.kN_callf Tryz.call60) := Fx.kN_callf Tryz.call60
theorem RM_al_152 : type_of% (Fx.run_alloc Tryz.zeroValue152) := Fx.run_alloc Tryz.zeroValue152
theorem RM_st_152 : type_of% (Fx.run_storeN' Tryz.sizeOf152) := Fx.run_storeN' Tryz.sizeOf152
theorem RM_fld_145_0 : ∀ (b o : Nat) (w : World), (Instr.fieldAt 145 (.pointer (some ⟨b, o, none⟩)) 0).run Tryz.prog w = .ok (.pointer (some ⟨b, o, none⟩)) w := Fx.run_fieldO 0 0 4096 Tryz.underlying145 rfl Tryz.sizeOf141 (by decide)
theorem RM_sl_141 : type_of% (Fx.sl_arr Tryz.underlying141 Tryz.sizeOf5) := Fx.sl_arr Tryz.underlying141 Tryz.sizeOf5
theorem RM_sl_152 : type_of% (Fx.sl_arr Tryz.underlying152 Tryz.sizeOf5) := Fx.sl_arr Tryz.underlying152 Tryz.sizeOf5
theorem RM_cp_33_33 : ∀ (b o b' o' dl dc sl sc : Nat) (w : World), (Builtin.copy_ #[33, 33] 3 #[.slice (some ⟨b, o, none⟩) dl dc, .slice (some ⟨b', o', none⟩) sl sc]).run Tryz.prog w = (lnX Tryz.prog w b' o' (min sl dl * 1) w.heap[b']?).andThen fun c w1 => (snX Tryz.prog w1 b o c.toList w1.heap[b]?).andThen fun _ w2 => .ok (.int .i64 (min sl dl : Nat)) w2 := Fx.run_copyS Tryz.underlying33 Tryz.sizeOf5
theorem RM_call_61 : type_of% (Fx.kN_callf Tryz.call61) := Fx.kN_callf Tryz.call61
theorem RM_call_91 : type_of% (Fx.kN_callf Tryz.call91) := Fx.kN_callf Tryz.call91
theorem RM_fld_134_0 : ∀ (b o : Nat) (w : World), (Instr.fieldAt 134 (.pointer (some ⟨b, o, none⟩)) 0).run Tryz.prog w = .ok (.pointer (some ⟨b, o, none⟩)) w := Fx.run_fieldO 0 0 1 Tryz.underlying134 rfl Tryz.sizeOf132 (by decide)
theorem RM_ld_132 : type_of% (Fx.run_load1' Tryz.isAgg132) := Fx.run_load1' Tryz.isAgg132
theorem RM_len_132 : ∀ (a : Option Addr) (len cap : Nat) (w : World), (Builtin.len_ #[132] 3 #[.slice a len cap]).run Tryz.prog w = .ok (.int .i64 len) w := Fx.run_len_slice Tryz.underlying132
theorem RM_ix_132 : type_of% (Fx.run_index_slice Tryz.underlying132 Tryz.sizeOf145) := Fx.run_index_slice Tryz.underlying132 Tryz.sizeOf145
theorem RM_ix_141 : type_of% (Fx.run_index_array Tryz.underlying141 Tryz.sizeOf5) := Fx.run_index_array Tryz.underlying141 Tryz.sizeOf5
theorem RM_st_5 : type_of% (Fx.run_store1' Tryz.sizeOf5) := Fx.run_store1' Tryz.sizeOf5
theorem RM_al_143 : type_of% (Fx.run_alloc Tryz.zeroValue143) := Fx.run_alloc Tryz.zeroValue143
theorem RM_ix_143 : type_of% (Fx.run_index_array Tryz.underlying143 Tryz.sizeOf22) := Fx.run_index_array Tryz.underlying143 Tryz.sizeOf22
theorem RM_ix_152 : type_of% (Fx.run_index_array Tryz.underlying152 Tryz.sizeOf5) := Fx.run_index_array Tryz.underlying152 Tryz.sizeOf5
theorem RM_ld_152 : type_of% (Fx.run_loadN' Tryz.isAgg152 Tryz.sizeOf152) := Fx.run_loadN' Tryz.isAgg152 Tryz.sizeOf152
theorem RM_call_93 : type_of% (Fx.kN_callf Tryz.call93) := Fx.kN_callf Tryz.call93
theorem RM_call_149 : type_of% (Fx.kN_callf Tryz.call149) := Fx.kN_callf Tryz.call149
theorem RM_aa_152 : ∀ (a : Option Addr) (len cap : Nat) (w : World), 16 <= len -> (Instr.arrayAt 152 (.slice a len cap)).run Tryz.prog w = .ok (.pointer a) w := fun a len cap w h => Fx.run_arrayAt Tryz.underlying152 a len cap h w
theorem RM_call_151 : type_of% (Fx.kN_callf Tryz.call151) := Fx.kN_callf Tryz.call151
theorem RM_call_150 : type_of% (Fx.kN_callf Tryz.call150) := Fx.kN_callf Tryz.call150
theorem RM_cv_5_22 : type_of% (Fx.run_convert_int Tryz.underlying5 Tryz.underlying22) := Fx.run_convert_int Tryz.underlying5 Tryz.underlying22
theorem RM_call_152 : type_of% (Fx.kN_callf Tryz.call152) := Fx.kN_callf Tryz.call152
theorem RM_bl_24_0_1_2 : ∀ (a0x0 : Bool) (a1x0 : Int) (a2x0 : Int) (w : World), (Instr.build 24 [(0, .bool a0x0), (1, .int .u64 a1x0), (2, .int .u64 a2x0)].toArray).run Tryz.prog w = .ok (.agg [.bool a0x0, .int .u64 a1x0, .int .u64 a2x0].toArray) w := fun a0x0 a1x0 a2x0 w => run_build w 24 _ _ (by kernel_rfl)
theorem RM_len_33 : ∀ (a : Option Addr) (len cap : Nat) (w : World), (Builtin.len_ #[33] 3 #[.slice a len cap]).run Tryz.prog w = .ok (.int .i64 len) w := Fx.run_len_slice Tryz.underlying33
theorem RM_ix_33 : type_of% (Fx.run_index_slice Tryz.underlying33 Tryz.sizeOf5) := Fx.run_index_slice Tryz.underlying33 Tryz.sizeOf5
theorem rulesM : type_of% (And.intro @RX_call_21 (And.intro @RM_bl_134_0 (And.intro @RX_call_23 (And.intro @RM_call_52 (And.intro @RM_call_53 (And.intro @RM_al_137 (And.intro @RM_al_3 (And.intro @RM_st_137 (And.intro @RX_st_3 (And.intro @RM_call_55 (And.intro @RM_call_54 (And.intro @RM_ld_137 (And.intro @RM_fld_145_1 (And.intro @RM_ld_143 (And.intro @RX_ld_3 (And.intro @RM_call_57 (And.intro @RM_call_56 (And.intro @RM_st_143 (And.intro @RX_call_25 (And.intro @RX_ld_24 (And.intro @RM_call_60 (And.intro @RM_al_152 (And.intro @RM_st_152 (And.intro @RM_fld_145_0 (And.intro @RM_sl_141 (And.intro @RM_sl_152 (And.intro @RM_cp_33_33 (And.intro @RX_fld_24_0 (And.intro @RX_ld_4 (And.intro @RM_call_61 (And.intro @RX_cv_3_22 (And.intro @RM_call_91 (And.intro @RM_fld_134_0 (And.intro @RM_ld_132 (And.intro @RM_len_132 (And.intro @RM_ix_132 (And.intro @RC_cv_22_3 (And.intro @RC_ld_22 (And.intro @RX_cv_22_5 (And.intro @RM_ix_141 (And.intro @RM_st_5 (And.intro @RM_al_143 (And.intro @RM_ix_143 (And.intro @RC_st_22 (And.intro @RC_fld_24_2 (And.intro @RC_fld_24_1 (And.intro @RM_ix_152 (And.intro @RM_ld_152 (And.intro @RM_call_93 (And.intro @RX_eql_31 (And.intro @RX_call_147 (And.intro @RX_al_22 (And.intro @RM_call_149 (And.intro @RX_call_148 (And.intro @RX_al_24 (And.intro @RX_bl_24_ (And.intro @RX_st_24 (And.intro @RM_aa_152 (And.intro @RM_call_151 (And.intro @RM_call_150 (And.intro @RX_ld_5 (And.intro @RM_cv_5_22 (And.intro @RM_call_152 (And.intro @RM_bl_24_0_1_2 (And.intro @RM_len_33 (@RM_ix_33)))))))))))))))))))))))))))))))))))))))))))))))))))))))))))))))))) := ⟨@RX_call_21, @RM_bl_134_0, @RX_call_23, @RM_call_52, @RM_call_53, @RM_al_137, @RM_al_3, @RM_st_137, @RX_st_3, @RM_call_55, @RM_call_54, @RM_ld_137, @RM_fld_145_1, @RM_ld_143, @RX_ld_3, @RM_call_57, @RM_call_56, @RM_st_143, @RX_call_25, @RX_ld_24, @RM_call_60, @RM_al_152, @RM_st_152, @RM_fld_145_0, @RM_sl_141, @RM_sl_152, @RM_cp_33_33, @RX_fld_24_0, @RX_ld_4, @RM_call_61, @RX_cv_3_22, @RM_call_91, @RM_fld_134_0, @RM_ld_132, @RM_len_132, @RM_ix_132, @RC_cv_22_3, @RC_ld_22, @RX_cv_22_5, @RM_ix_141, @RM_st_5, @RM_al_143, @RM_ix_143, @RC_st_22, @RC_fld_24_2, @RC_fld_24_1, @RM_ix_152, @RM_ld_152, @RM_call_93, @RX_eql_31, @RX_call_147, @RX_al_22, @RM_call_149, @RX_call_148, @RX_al_24, @RX_bl_24_, @RX_st_24, @RM_aa_152, @RM_call_151, @RM_call_150, @RX_ld_5, @RM_cv_5_22, @RM_call_152, @RM_bl_24_0_1_2, @RM_len_33, @RM_ix_33⟩
open Go.Fx
theorem qG2 : type_of% (And.intro @gen0 (And.intro (@gen1 Tryz.prog) (And.intro @gen2 (And.intro @rulesM (And.intro @litR (And.intro @bolR (And.intro (@numR Tryz.prog) (And.intro (@memR Tryz.prog) (And.intro @valR (And.intro @heapR (And.intro @updR (And.intro @intR (And.intro @decR (And.intro (@extR Tryz.prog) (And.intro (@slR Tryz.prog) (And.intro @segR (And.intro @thenR ((@pnR Tryz.prog))))))))))))))))))) := ⟨@gen0, (@gen1 Tryz.prog), @gen2, @rulesM, @litR, @bolR, (@numR Tryz.prog), (@memR Tryz.prog), @valR, @heapR, @updR, @intR, @decR, (@extR Tryz.prog), (@slR Tryz.prog), @segR, @thenR, (@pnR Tryz.prog)⟩
set_option maxRecDepth 100000
def tgC (g : Nat -> Int) : List Value := [.int .u64 (g 0), .int .u64 (g 1), .int .u64 (g 2), .int .u64 (g 3)]
def Wok (g : Nat -> Int) : Prop := ∀ k, 0 <= g k /\ g k < 18446744073709551616
def bit (g : Nat -> Int) (i : Nat) : Bool := (g (i / 64)).toNat.testBit (i % 64)
def wset (g : Nat -> Int) (k : Nat) (v : Int) : Nat -> Int := fun j => if j = k then v else g j
theorem Wok.wset {g : Nat -> Int} (h : Wok g) {k : Nat} {v : Int} (hv : 0 <= v /\ v < 18446744073709551616) : Wok (wset g k v) := by
 intro j
 unfold YtplfniijbeinmaaGreat.wset
 split
 ·exact hv
 ·exact h j
theorem Wok.zero : Wok (fun _ => 0) := fun _ => ⟨Int.le_refl 0, (by decide : (0 : Int) < 18446744073709551616)⟩
theorem bit_zero (i : Nat) : bit (fun _ => 0) i = false := by simp [bit]
theorem tgC_len (g : Nat -> Int) : (tgC g).length = 4 := by simp [tgC]
theorem tgC_sub (g : Nat -> Int) : sub (tgC g) 0 4 = tgC g := by simp [tgC, sub]
theorem tgC_all (g : Nat -> Int) : (tgC g).all (fun v => v.oneCell') = true := by simp [tgC]; exact ⟨rfl, rfl, rfl, rfl⟩
theorem tgC_get {g : Nat -> Int} {k : Nat} (h : k < 4) : (tgC g)[k]? = some (.int .u64 (g k)) := by
 match k, h with
 | 0, _ => rfl
 | 1, _ => rfl
 | 2, _ => rfl
 | 3, _ => rfl
theorem tgC_set {g : Nat -> Int} {k : Nat} {v : Int} (h : k < 4) : (tgC g).set k (.int .u64 v) = tgC (wset g k v) := by
 match k, h with
 | 0, _ => rfl
 | 1, _ => rfl
 | 2, _ => rfl
 | 3, _ => rfl
theorem tgC_over (g h : Nat -> Int) : splice (tgC g) 0 (tgC h) = tgC h := by simp [tgC, splice]
theorem tgC_over2 (g h : Nat -> Int) : tgC h ++ List.drop (tgC h).length (tgC g) = tgC h := by simp [tgC]
theorem qZ12 : type_of% (And.intro @szR (And.intro @tgC_len (@tgC_all))) := ⟨@szR, @tgC_len, @tgC_all⟩
theorem qD12 {p : Prop} (h : p := by first | assumption | omega | (simp only [qZ12] <;> omega) | rfl | decide) : p := h
theorem tis_spec {w : World} {i : Int} {K : Value -> World -> Prop} (hK : K (.bool (decide (0 <= i /\ i < 256))) w) : callsK Tryz.prog 93 #[.int .i64 i] w K := by
 apply F93_ok
 unfold F93
 by_cases h0 : 0 <= i
 ·by_cases h1 : i < 256
  ·simp (disch := first | exact qD12 | fail) only [qG2, joinBR]
   rwa [decide_eq_true ⟨h0, h1⟩] at hK
  ·simp (disch := first | exact qD12 | fail) only [qG2, joinBR]
   rwa [decide_eq_false fun h => h1 h.2] at hK
 ·simp (disch := first | exact qD12 | fail) only [qG2, joinBR]
  rwa [decide_eq_false fun h => h0 h.1] at hK
theorem pow_lt64 {i : Nat} (h : i < 64) : (2 : Nat) ^ i < 18446744073709551616 := Nat.pow_lt_pow_right (a := 2) (by omega) h
theorem shl_bit {i : Int} (h : 0 <= i /\ i < 64) : IntKind.u64.wrap (1 * 2 ^ i.toNat) = ((2 ^ i.toNat : Nat) : Int) := by
 have := pow_lt64 (i := i.toNat) (by omega)
 have e2 : (1 : Int) * 2 ^ i.toNat = ((2 ^ i.toNat : Nat) : Int) := by simp
 rw [e2]
 generalize 2 ^ i.toNat = p at this
 exact wrap_u64 ⟨by omega, by omega⟩
theorem With_spec {w : World} {g : Nat -> Int} {i : Int} {tag : Bool} (hg : Wok g) {K : Value -> World -> Prop}
  (hK : ∀ g' w', Wok g' -> (∀ j, j < 256 -> bit g' j = if (j : Int) = i then tag else bit g j) -> Ext [] w w' -> K (.agg (tgC g').toArray) w') : callsK Tryz.prog 61 #[.agg (tgC g).toArray, .int .i64 i, .bool tag] w K := by
 apply F61_ok
 unfold F61
 simp (disch := first | exact qD12 | fail) only [qG2, tgC_len]
 apply tis_spec
 by_cases hi : 0 <= i /\ i < 256
 ·rw [decide_eq_true hi]
  have hm : i.tmod 64 = i % 64 := Int.tmod_eq_emod_of_nonneg hi.1
  have hq : i.tdiv 64 = i / 64 := Int.tdiv_eq_ediv_of_nonneg hi.1
  have hsh := shl_bit (i := i % 64) (by omega)
  have hpl := pow_lt64 (i := (i % 64).toNat) (by omega)
  have hgk := hg (i / 64).toNat
  obtain ⟨p, hp⟩ : ∃ p, p = 2 ^ (i % 64).toNat := ⟨_, rfl⟩
  rw [<- hp] at hsh hpl
  simp (disch := first | exact qD12 | fail) only [qG2, hm, hsh, tgC_len]
  refine joinL.intro fun J hJ => ?_
  have hrest : ∀ g' w2, w2.heap[w.heap.size]? = some (.cells (tgC g').toArray 143 (0, 0)) -> w2.heap[w.heap.size + 1]? = some (.cells (tgC fun _ => 0).toArray 143 (0, 0)) -> Wok g' -> (∀ j, j < 256 -> bit g' j = if (j : Int) = i then tag else bit g j) -> Ext [] w w2 -> J [] w2 := by
   intro g' w2 h1 h2 h3 h4 h5
   apply hJ
   intro _
   have l1 := lt_of_at h1
   have l2 := lt_of_at h2
   simp (disch := first | exact qD12 | fail) only [qG2, h1, h2, tgC_len, tgC_sub, tgC_all, tgC_over, tgC_over2]
   exact hK g' _ h3 h4 qX
  have hbit : ∀ v : Int, (∀ j, j < 64 -> v.toNat.testBit j = if j = (i % 64).toNat then tag else (g (i / 64).toNat).toNat.testBit j) -> ∀ j, j < 256 -> bit (wset g (i / 64).toNat v) j = if (j : Int) = i then tag else bit g j := by
   intro v hv j hj
   unfold bit wset
   by_cases h1 : j / 64 = (i / 64).toNat
   ·rw [if_pos h1, hv _ (by omega), h1]
    by_cases h2 : (j : Int) = i
    ·rw [if_pos (by omega), if_pos h2]
    ·rw [if_neg (by omega), if_neg h2]
   ·rw [if_neg h1, if_neg (by omega)]
  cases tag with
  | true =>
   have hor := or_u64 hgk (b := (p : Int)) (by omega)
   simp (disch := first | exact qD12 | fail) only [qG2, hq, tgC_get, tgC_set, tgC_len, hor]
   refine hrest (wset g (i / 64).toNat (((g (i / 64).toNat).toNat ||| p : Nat) : Int)) _ (by simp (disch := first | exact qD12 | fail) only [qG2, tgC_set]) (by simp (disch := first | exact qD12 | fail) only [qG2]; rfl) (hg.wset ⟨by omega, by have := or_lt (a := (g (i / 64).toNat).toNat) (b := p) (by omega) hpl; omega⟩) (hbit _ fun j hj => ?_) ?_
   ·simp only [Int.toNat_natCast, Nat.testBit_or, hp, Nat.testBit_two_pow]
    by_cases h : j = (i % 64).toNat
    ·subst h; simp
    ·rw [if_neg h]; simp [Ne.symm h]
   ·exact qX
  | false =>
   obtain ⟨r, hr, hr2, hr3⟩ := andNot_u64 (a := g (i / 64).toNat) (b := (p : Int)) (by omega) hgk
   simp (disch := first | exact qD12 | fail) only [qG2, hq, tgC_get, tgC_set, tgC_len, hr]
   refine hrest (wset g (i / 64).toNat (r : Int)) _ (by simp (disch := first | exact qD12 | fail) only [qG2, tgC_set]) (by simp (disch := first | exact qD12 | fail) only [qG2]; rfl) (hg.wset ⟨by omega, by omega⟩) (hbit _ fun j hj => ?_) ?_
   ·rw [Int.toNat_natCast, hr3 j hj]
    simp only [Int.toNat_natCast, hp, Nat.testBit_two_pow]
    by_cases h : j = (i % 64).toNat
    ·subst h; simp
    ·rw [if_neg h]; simp [Ne.symm h]
   ·exact qX
 ·rw [decide_eq_false hi]
  simp (disch := first | exact qD12 | fail) only [qG2, tgC_len, tgC_sub, tgC_all]
  refine hK g _ hg (fun j hj => ?_) ?_
  ·rw [if_neg (by omega)]
  ·exact qX
theorem Get_spec {w : World} {g : Nat -> Int} {i : Int} (hg : Wok g) {K : Value -> World -> Prop}
  (hK : ∀ w', Ext [] w w' -> K (.bool (decide (0 <= i /\ i < 256) && bit g i.toNat)) w') : callsK Tryz.prog 151 #[.agg (tgC g).toArray, .int .i64 i] w K := by
 apply F151_ok
 unfold F151
 simp (disch := first | exact qD12 | fail) only [qG2]
 apply tis_spec
 by_cases hi : 0 <= i /\ i < 256
 ·rw [decide_eq_true hi] at hK ⊢
  have hm : i.tmod 64 = i % 64 := Int.tmod_eq_emod_of_nonneg hi.1
  have hq : i.tdiv 64 = i / 64 := Int.tdiv_eq_ediv_of_nonneg hi.1
  have hgk := hg (i / 64).toNat
  have hd : ((g (i / 64).toNat) / 2 ^ (i % 64).toNat) = (((g (i / 64).toNat).toNat / 2 ^ (i % 64).toNat : Nat) : Int) := by
   have : g (i / 64).toNat = ((g (i / 64).toNat).toNat : Int) := by omega
   rw [this]
   simp
  have hfd : (g (i / 64).toNat).fdiv (2 ^ (i % 64).toNat) = (((g (i / 64).toNat).toNat / 2 ^ (i % 64).toNat : Nat) : Int) := by
   rw [Int.fdiv_eq_ediv_of_nonneg _ (Int.le_of_lt (Int.pow_pos (by omega))), hd]
  have hlt : (g (i / 64).toNat).toNat / 2 ^ (i % 64).toNat < 18446744073709551616 := Nat.lt_of_le_of_lt (Nat.div_le_self _ _) (by omega)
  have hb : bit g i.toNat = decide ((((((g (i / 64).toNat).toNat / 2 ^ (i % 64).toNat : Nat) : Int).toNat &&& (1 : Int).toNat : Nat) : Int) ≠ 0) := by
   unfold bit
   rw [show i.toNat / 64 = (i / 64).toNat by omega, show i.toNat % 64 = (i % 64).toNat by omega, Nat.testBit_eq_decide_div_mod_eq]
   rw [Bool.eq_iff_iff]
   simp only [decide_eq_true_eq, Int.toNat_natCast, show (1 : Int).toNat = 1 from rfl, Nat.and_one_is_mod]
   omega
  rw [hb] at hK
  generalize (g (i / 64).toNat).toNat / 2 ^ (i % 64).toNat = q at hfd hlt hK
  have hand := and_u64 (a := (q : Int)) (b := 1) (by omega) (by omega)
  simp (disch := first | exact qD12 | fail) only [qG2, Int.reduceToNat, joinBR, hm, hq, tgC_get, hfd, hand]
  simp only [Bool.true_and] at hK
  exact hK _ qX
 ·rw [decide_eq_false hi] at hK ⊢
  simp (disch := first | exact qD12 | fail) only [qG2, joinBR]
  exact hK _ qX
theorem Without_spec {w : World} {g h : Nat -> Int} (hg : Wok g) (hh : Wok h) {K : Value -> World -> Prop}
  (hK : ∀ g' w', Wok g' -> (∀ j, j < 256 -> bit g' j = (bit g j && !bit h j)) -> Ext [] w w' -> K (.agg (tgC g').toArray) w') : callsK Tryz.prog 56 #[.agg (tgC g).toArray, .agg (tgC h).toArray] w K := by
 apply F56_ok
 unfold F56
 simp (disch := first | exact qD12 | fail) only [qG2]
 refine loopT.intro (fun st w' => ∃ (k : Nat) (z : Int) (g' : Nat -> Int), k <= 4 /\ st = [.int .i64 z] /\ z = k /\ w'.heap[w.heap.size]? = some (.cells (tgC g').toArray 143 (0, 0)) /\ w'.heap[w.heap.size + 1]? = some (.cells (tgC h).toArray 143 (0, 0)) /\ w'.heap[w.heap.size + 1 + 1]? = some (.cells (tgC fun _ => 0).toArray 143 (0, 0)) /\ Wok g' /\ (∀ j, j < 256 -> bit g' j = if j / 64 < k then (bit g j && !bit h j) else bit g j) /\ Ext [] w w')
  (fun st _ => match st with
   | [.int _ z] => 4 - z.toNat
   | _ => 0) ⟨0, 0, g, by omega, rfl, rfl, by simp (disch := first | exact qD12 | fail) only [qG2], by simp (disch := first | exact qD12 | fail) only [qG2], by simp (disch := first | exact qD12 | fail) only [qG2]; rfl, hg, by simp, qX⟩ ?_
 rintro st w' ⟨k, z, g', hk, rfl, rfl, h1, h2, h3, hg', hb, hx⟩ _
 have l1 := lt_of_at h1
 have l2 := lt_of_at h2
 have l3 := lt_of_at h3
 by_cases h4 : k < 4
 ·obtain ⟨r, hr, hr2, hr3⟩ := andNot_u64 (a := g' k) (b := h k) (hh k) (hg' k)
  simp (disch := first | exact qD12 | fail) only [qG2, h1, h2, tgC_get, tgC_set, hr]
  refine ⟨⟨k + 1, _, wset g' k r, by omega, rfl, by omega, by simp (disch := first | exact qD12 | fail) only [qG2, h1, tgC_set], by simp (disch := first | exact qD12 | fail) only [qG2, h2], by simp (disch := first | exact qD12 | fail) only [qG2, h3], hg'.wset (by omega), fun j hj => ?_, qX⟩, by first | omega | (simp <;> omega)⟩
  by_cases hjk : j / 64 = k
  ·have e1 := hb j hj
   rw [if_neg (by omega)] at e1
   rw [if_pos (by omega)]
   unfold bit at e1 ⊢
   unfold wset
   rw [if_pos hjk, Int.toNat_natCast, hr3 _ (by omega), <- e1, hjk]
  ·have e1 := hb j hj
   have e2 : bit (wset g' k r) j = bit g' j := by
    unfold bit wset
    rw [if_neg hjk]
   rw [e2, e1]
   by_cases hjl : j / 64 < k
   ·rw [if_pos hjl, if_pos (by omega)]
   ·rw [if_neg hjl, if_neg (by omega)]
 ·obtain rfl : k = 4 := by omega
  simp (disch := first | exact qD12 | fail) only [qG2, Int.reduceLT, h1, h3, tgC_sub, tgC_over, tgC_over2]
  refine hK g' _ hg' (fun j hj => ?_) qX
  rw [hb j hj, if_pos (by omega)]
theorem Cover_spec {w : World} {off n : Int} (ho : 0 <= off /\ off < 4096) (hn : 1 <= n /\ n < 9223372036854775808) {K : Value -> World -> Prop}
  (hK : ∀ g w', Wok g -> (∀ j, j < 256 -> bit g j = decide (off / 16 <= (j : Int) /\ (j : Int) <= (off + min n (4096 - off) - 1) / 16)) -> Ext [] w w' -> K (.agg (tgC g).toArray) w') : callsK Tryz.prog 57 #[.int .i64 off, .int .i64 n] w K := by
 apply F57_ok
 unfold F57
 simp (disch := first | exact qD12 | fail) only [qG2, joinBR]
 refine joinL.intro fun J hJ => ?_
 simp (disch := first | exact qD12 | fail) only [qG2]
 apply hJ
 intro _
 have hmin : min n (4096 - off) = min n (4096 - off) := rfl
 have hlast : 0 <= off + min n (4096 - off) - 1 /\ off + min n (4096 - off) - 1 < 4096 := by omega
 obtain ⟨last, hl⟩ : ∃ last, last = off + min n (4096 - off) - 1 := ⟨_, rfl⟩
 rw [<- hl] at hK hlast
 obtain ⟨m, hm⟩ : ∃ m, m = min n (4096 - off) := ⟨_, rfl⟩
 have hm2 : 1 <= m /\ m <= 4096 := by omega
 have hl2 : off + m - 1 = last := by omega
 simp (disch := first | exact qD12 | fail) only [qG2, mnR, <- hm, hl2]
 refine loopT.intro (fun st w' => ∃ (k : Nat) (z : Int) (g : Nat -> Int), k <= 256 /\ st = [.int .i64 z] /\ z = k /\ w'.heap[w.heap.size]? = some (.cells (tgC fun _ => 0).toArray 143 (0, 0)) /\ w'.heap[w.heap.size + 1]? = some (.cells (tgC g).toArray 143 (0, 0)) /\ Wok g /\ (∀ j, j < 256 -> bit g j = decide (j < k /\ off / 16 <= (j : Int) /\ (j : Int) <= last / 16)) /\ Ext [] w w')
  (fun st _ => match st with
   | [.int _ z] => 256 - z.toNat
   | _ => 0) ⟨0, 0, fun _ => 0, by omega, rfl, rfl, by simp (disch := first | exact qD12 | fail) only [qG2]; rfl, by simp (disch := first | exact qD12 | fail) only [qG2]; rfl, Wok.zero, by simp [bit_zero], qX⟩ ?_
 rintro st w' ⟨k, z, g, hk, rfl, rfl, h1, h2, hg, hb, hx⟩ _
 have l1 := lt_of_at h1
 have l2 := lt_of_at h2
 by_cases h4 : k < 256
 ·have hgo : ∀ tag : Bool, tag = decide (off / 16 <= (k : Int) /\ (k : Int) <= last / 16) -> ∀ g' (w2 : World), Wok g' -> (∀ j, j < 256 -> bit g' j = if (j : Int) = k then tag else bit g j) -> ∀ j, j < 256 -> bit g' j = decide (j < k + 1 /\ off / 16 <= (j : Int) /\ (j : Int) <= last / 16) := by
   intro tag ht g' w2 _ hb' j hj
   rw [hb' j hj]
   by_cases hjk : (j : Int) = k
   ·rw [if_pos hjk, ht]
    obtain rfl : j = k := by omega
    simp
   ·rw [if_neg hjk, hb j hj, Bool.eq_iff_iff]
    simp only [decide_eq_true_eq]
    omega
  by_cases c1 : off / 16 <= (k : Int)
  ·by_cases c2 : (k : Int) <= last / 16
   ·simp (disch := first | exact qD12 | fail) only [qG2, joinBR, h2, tgC_sub]
    refine With_spec hg fun g' w2 hg' hb' hx2 => ?_
    have e1 := hx2.at h1 (by simp)
    have e2 := hx2.at h2 (by simp)
    simp (disch := first | exact qD12 | fail) only [qG2, e2, tgC_over, tgC_over2]
    refine ⟨⟨k + 1, _, g', by omega, rfl, by omega, (by first | with_reducible rfl | assumption | (simp (disch := first | exact qD12 | fail) only [qG2, Nat.reduceAdd, Nat.reduceLeDiff, Int.reduceToNat, Int.reduceAdd, Int.reduceSub, Int.reduceLT, Int.reduceLE, Nat.reduceSub, Nat.reduceMul, Nat.reduceEqDiff, e1] <;> rfl)), (by first | with_reducible rfl | assumption | (simp (disch := first | exact qD12 | fail) only [qG2, Nat.reduceAdd, Nat.reduceLeDiff, Int.reduceToNat, Int.reduceAdd, Int.reduceSub, Int.reduceLT, Int.reduceLE, Nat.reduceSub, Nat.reduceMul, Nat.reduceEqDiff, e2] <;> rfl)), hg', hgo true (by simp [c1, c2]) g' w2 hg' hb', ?_⟩, by first | omega | (simp <;> omega)⟩
    have := hx.trans hx2 (by simp)
    exact qX
   ·simp (disch := first | exact qD12 | fail) only [qG2, joinBR, h2, tgC_sub]
    refine With_spec hg fun g' w2 hg' hb' hx2 => ?_
    have e1 := hx2.at h1 (by simp)
    have e2 := hx2.at h2 (by simp)
    simp (disch := first | exact qD12 | fail) only [qG2, e2, tgC_over, tgC_over2]
    refine ⟨⟨k + 1, _, g', by omega, rfl, by omega, (by first | with_reducible rfl | assumption | (simp (disch := first | exact qD12 | fail) only [qG2, Nat.reduceAdd, Nat.reduceLeDiff, Int.reduceToNat, Int.reduceAdd, Int.reduceSub, Int.reduceLT, Int.reduceLE, Nat.reduceSub, Nat.reduceMul, Nat.reduceEqDiff, e1] <;> rfl)), (by first | with_reducible rfl | assumption | (simp (disch := first | exact qD12 | fail) only [qG2, Nat.reduceAdd, Nat.reduceLeDiff, Int.reduceToNat, Int.reduceAdd, Int.reduceSub, Int.reduceLT, Int.reduceLE, Nat.reduceSub, Nat.reduceMul, Nat.reduceEqDiff, e2] <;> rfl)), hg', hgo false (by simp [c2]) g' w2 hg' hb', ?_⟩, by first | omega | (simp <;> omega)⟩
    have := hx.trans hx2 (by simp)
    exact qX
  ·simp (disch := first | exact qD12 | fail) only [qG2, joinBR, h2, tgC_sub]
   refine With_spec hg fun g' w2 hg' hb' hx2 => ?_
   have e1 := hx2.at h1 (by simp)
   have e2 := hx2.at h2 (by simp)
   simp (disch := first | exact qD12 | fail) only [qG2, e2, tgC_over, tgC_over2]
   refine ⟨⟨k + 1, _, g', by omega, rfl, by omega, (by first | with_reducible rfl | assumption | (simp (disch := first | exact qD12 | fail) only [qG2, Nat.reduceAdd, Nat.reduceLeDiff, Int.reduceToNat, Int.reduceAdd, Int.reduceSub, Int.reduceLT, Int.reduceLE, Nat.reduceSub, Nat.reduceMul, Nat.reduceEqDiff, e1] <;> rfl)), (by first | with_reducible rfl | assumption | (simp (disch := first | exact qD12 | fail) only [qG2, Nat.reduceAdd, Nat.reduceLeDiff, Int.reduceToNat, Int.reduceAdd, Int.reduceSub, Int.reduceLT, Int.reduceLE, Nat.reduceSub, Nat.reduceMul, Nat.reduceEqDiff, e2] <;> rfl)), hg', hgo false (by simp [c1]) g' w2 hg' hb', ?_⟩, by first | omega | (simp <;> omega)⟩
   have := hx.trans hx2 (by simp)
   exact qX
 ·obtain rfl : k = 256 := by omega
  simp (disch := first | exact qD12 | fail) only [qG2, h1, h2, tgC_sub, tgC_over, tgC_over2]
  refine hK g _ hg (fun j hj => ?_) qX
  rw [hb j hj, Bool.eq_iff_iff]
  simp only [decide_eq_true_eq]
  omega
open Go.Fx
set_option maxRecDepth 100000
/-- the cells of so many frames: bytes by their address, tags by their words. -/
structure Cells (L : List Value) (n : Nat) (m g : Nat -> Int) : Prop where
 len : L.length = n * 4100
 byte : ∀ p i, p < n -> i < 4096 -> L[p * 4100 + i]? = some (.int .u8 (m (p * 4096 + i)))
 word : ∀ p j, p < n -> j < 4 -> L[p * 4100 + 4096 + j]? = some (.int .u64 (g (p * 4 + j)))
def Byte (m : Nat -> Int) : Prop := ∀ a, 0 <= m a /\ m a < 256
theorem Byte.wset {m : Nat -> Int} (h : Byte m) {k : Nat} {v : Int} (hv : 0 <= v /\ v < 256) : Byte (wset m k v) := by
 intro j
 unfold YtplfniijbeinmaaGreat.wset
 split
 ·exact hv
 ·exact h j
/-- memory at a pointer's block r, its frames in block q. -/
structure Mem (w : World) (r q n : Nat) (m g : Nat -> Int) : Prop where
 head : w.heap[r]? = some (.cells [.slice (some ⟨q, 0, none⟩) n n].toArray 134 (0, 0))
 body : ∃ L, w.heap[q]? = some (.cells L.toArray 145 (0, 0)) /\ Cells L n m g
 byte : Byte m
 word : Wok g
theorem Mem.ne {w : World} {r q n : Nat} {m g : Nat -> Int} (h : Mem w r q n m g) : r ≠ q := by
 rintro rfl
 obtain ⟨L, h1, -⟩ := h.body
 rw [h.head] at h1
 simp only [Option.some.injEq, Obj.cells.injEq] at h1
 exact absurd h1.2.1 (by decide)
theorem Mem.lt {w : World} {r q n : Nat} {m g : Nat -> Int} (h : Mem w r q n m g) : r < w.heap.size /\ q < w.heap.size := ⟨lt_of_at h.head, lt_of_at h.body.choose_spec.1⟩
theorem Mem.ext {w w' : World} {r q n : Nat} {m g : Nat -> Int} {S : List Nat} (h : Mem w r q n m g) (hx : Ext S w w') (hr : r ∉ S) (hq : q ∉ S) : Mem w' r q n m g :=
 ⟨hx.at h.head hr, ⟨_, hx.at h.body.choose_spec.1 hq, h.body.choose_spec.2⟩, h.byte, h.word⟩
theorem Cells.set {L : List Value} {n : Nat} {m g : Nat -> Int} (h : Cells L n m g) {p i : Nat} {v : Int} (hp : p < n) (hi : i < 4096) : Cells (L.set (p * 4100 + i) (.int .u8 v)) n (wset m (p * 4096 + i) v) g := by
 have hl := h.len
 refine ⟨by rw [List.length_set, h.len], fun p' i' hp' hi' => ?_, fun p' j hp' hj => ?_⟩
 ·rw [List.getElem?_set]
  unfold wset
  by_cases hc : p * 4100 + i = p' * 4100 + i'
  ·have : p = p' /\ i = i' := by omega
   rw [if_pos hc, if_pos (by omega), if_pos (by omega)]
  ·rw [if_neg hc, if_neg (by omega), h.byte p' i' hp' hi']
 ·rw [List.getElem?_set, if_neg (by omega), h.word p' j hp' hj]
def wset4 (g : Nat -> Int) (p : Nat) (t : Nat -> Int) : Nat -> Int := fun k => if k / 4 = p then t (k % 4) else g k
theorem Cells.tags {L : List Value} {n : Nat} {m g : Nat -> Int} (h : Cells L n m g) {p : Nat} {t : Nat -> Int} (hp : p < n) : Cells (splice L (p * 4100 + 4096) (tgC t)) n m (wset4 g p t) := by
 have hl := h.len
 have ht : (tgC t).length = 4 := tgC_len t
 refine ⟨by rw [splice_length (by omega), h.len], fun p' i' hp' hi' => ?_, fun p' j hp' hj => ?_⟩
 ·rw [splice_get (by omega), <- h.byte p' i' hp' hi']
  by_cases h1 : p' * 4100 + i' < p * 4100 + 4096
  ·rw [if_pos h1]
  ·rw [if_neg h1, if_neg (by omega)]
 ·rw [splice_get (by omega)]
  unfold wset4
  by_cases hc : p' = p
  ·subst hc
   rw [if_neg (by omega), if_pos (by omega), show p' * 4100 + 4096 + j - (p' * 4100 + 4096) = j by omega, tgC_get hj, if_pos (by omega), show (p' * 4 + j) % 4 = j by omega]
  ·rw [if_neg (show ¬ (p' * 4 + j) / 4 = p by omega), <- h.word p' j hp' hj]
   by_cases h1 : p' * 4100 + 4096 + j < p * 4100 + 4096
   ·rw [if_pos h1]
   ·rw [if_neg h1, if_neg (by omega)]
theorem Cells.sub {L : List Value} {n : Nat} {m g : Nat -> Int} (h : Cells L n m g) {p : Nat} (hp : p < n) : sub L (p * 4100 + 4096) 4 = tgC (fun j => g (p * 4 + j)) := by
 have hl := h.len
 apply List.ext_getElem?
 intro i
 unfold Go.Fx.sub
 by_cases hi : i < 4
 ·rw [List.getElem?_take_of_lt hi, List.getElem?_drop, h.word p i hp hi, tgC_get hi]
 ·rw [List.getElem?_eq_none (by simp; omega), List.getElem?_eq_none (by rw [tgC_len]; omega)]
theorem wset4_ok {g t : Nat -> Int} {p : Nat} (hg : Wok g) (ht : Wok t) : Wok (wset4 g p t) := by
 intro k
 unfold wset4
 split
 ·exact ht _
 ·exact hg k
theorem none_spec {w : World} {r q n : Nat} {m g : Nat -> Int} (h : Mem w r q n m g) (hn : 0 < n /\ n <= 1000) {K : Value -> World -> Prop} (hK : K (.bool false) w) : callsK Tryz.prog 91 #[.pointer (some ⟨r, 0, none⟩)] w K := by
 have h1 := h.head
 apply F91_ok
 unfold F91
 simp (disch := first | exact qD12 | fail) only [qG2, joinBR, h1, Option.isNone_some]
 exact hK
theorem place_spec {w : World} {r q n : Nat} {m g : Nat -> Int} {a s : Int} (h : Mem w r q n m g) (hn : 0 < n /\ n <= 1000) (ha : 0 <= a /\ a < 18446744073709551616) (hs : 1 <= s /\ s < 18446744073709551616) {K : Value -> World -> Prop}
  (h1 : a % s = 0 -> a / 4096 < n -> K (.tuple #[.pointer (some ⟨q, (a / 4096).toNat * 4100, none⟩), .int .i64 (a % 4096), .int .i64 0]) w)
  (h2 : ¬ (a % s = 0 /\ a / 4096 < n) -> K (.tuple #[.pointer none, .int .i64 0, .int .i64 2]) w) : callsK Tryz.prog 53 #[.pointer (some ⟨r, 0, none⟩), .int .u64 a, .int .u64 s] w K := by
 have hh := h.head
 apply F53_ok
 unfold F53
 simp (disch := first | exact qD12 | fail) only [qG2]
 refine none_spec h hn ?_
 by_cases c1 : a % s = 0
 ·by_cases c2 : a / 4096 < n
  ·simp (disch := first | exact qD12 | fail) only [qG2, joinBR, hh, c1]
   exact h1 c1 c2
  ·simp (disch := first | exact qD12 | fail) only [qG2, joinBR, hh, c1]
   exact h2 fun h => c2 h.2
 ·simp (disch := first | exact qD12 | fail) only [qG2, joinBR, hh]
  exact h2 fun h => c1 h.1
theorem number_spec {w : World} {k : Int} {K : Value -> World -> Prop} (hK : K (if k = 1 ∨ k = 2 ∨ k = 4 ∨ k = 8 then .tuple #[.int .u64 k, .bool true] else .tuple #[.int .u64 1, .bool false]) w) : callsK Tryz.prog 52 #[.int .i64 k] w K := by
 apply F52_ok
 unfold F52
 by_cases c1 : k = 1
 ·rw [if_pos (.inl c1)] at hK
  simp (disch := first | exact qD12 | fail) only [qG2, joinR]
  intro _
  exact hK
 by_cases c2 : k = 2
 ·rw [if_pos (.inr (.inl c2))] at hK
  simp (disch := first | exact qD12 | fail) only [qG2, joinR]
  intro _
  exact hK
 by_cases c3 : k = 4
 ·rw [if_pos (.inr (.inr (.inl c3)))] at hK
  simp (disch := first | exact qD12 | fail) only [qG2, joinR]
  intro _
  exact hK
 by_cases c4 : k = 8
 ·rw [if_pos (.inr (.inr (.inr c4)))] at hK
  simp (disch := first | exact qD12 | fail) only [qG2, joinR]
  intro _
  exact hK
 rw [if_neg (by omega)] at hK
 simp (disch := first | exact qD12 | fail) only [qG2, joinR]
 intro _
 exact hK
/-- each index in turn. -/
theorem each_spec {w : World} {f : Value} {n : Nat} {I : Nat -> World -> Prop} (hn : n <= 1000000) (hI : I 0 w) (hf : ∀ i w', i < n -> I i w' -> ∀ K : Value -> World -> Prop, (∀ w'', I (i + 1) w'' -> K (.tuple #[]) w'') -> kN Tryz.prog (callN f #[.int .i64 i]) w' K) {K : Value -> World -> Prop}
  (hK : ∀ w', I n w' -> K (.tuple #[]) w') : callsK Tryz.prog 54 #[.int .i64 n, f] w K := by
 apply F54_ok
 unfold F54
 refine loopT.intro (fun st w' => ∃ (k : Nat) (z : Int), k <= n /\ st = [.int .i64 z] /\ z = k /\ I k w')
  (fun st _ => match st with
   | [.int _ z] => n - z.toNat
   | _ => 0) ⟨0, 0, by omega, rfl, rfl, hI⟩ ?_
 rintro st w' ⟨k, z, hk, rfl, rfl, hi⟩ _
 by_cases hkn : k < n
 ·simp (disch := first | exact qD12 | fail) only [qG2]
  refine hf k w' hkn hi _ fun w2 h2 => ?_
  simp (disch := first | exact qD12 | fail) only [qG2]
  exact ⟨⟨k + 1, (k : Int) + 1, by omega, rfl, by omega, h2⟩, by first | omega | (simp <;> omega)⟩
 ·obtain rfl : k = n := by omega
  simp (disch := first | exact qD12 | fail) only [qG2]
  exact hK _ hi
def stored (m : Nat -> Int) (a s : Nat) (v : Int) : Nat -> Int := fun x => if a <= x /\ x < a + s then ((v.toNat / 2 ^ (8 * (x - a)) % 256 : Nat) : Int) else m x
theorem stored_zero (m : Nat -> Int) (a : Nat) (v : Int) : stored m a 0 v = m := by
 funext x
 unfold stored
 rw [if_neg (by omega)]
theorem stored_succ (m : Nat -> Int) (a i : Nat) (v : Int) : wset (stored m a i v) (a + i) ((v.toNat / 2 ^ (8 * i) % 256 : Nat) : Int) = stored m a (i + 1) v := by
 funext x
 unfold wset stored
 by_cases h : x = a + i
 ·subst h
  rw [if_pos rfl, if_pos (by omega), show a + i - a = i by omega]
 ·rw [if_neg h]
  by_cases h2 : a <= x /\ x < a + i
  ·rw [if_pos h2, if_pos (by omega)]
  ·rw [if_neg h2, if_neg (by omega)]
theorem wrapU8 (n : Int) : IntKind.u8.wrap n = n % 256 := by
 simp [IntKind.wrap, IntKind.signed, IntKind.bits]
theorem fdiv_pow {v : Int} (h : 0 <= v) (k : Nat) : v.fdiv (2 ^ k) = ((v.toNat / 2 ^ k : Nat) : Int) := by
 rw [Int.fdiv_eq_ediv_of_nonneg _ (Int.le_of_lt (Int.pow_pos (by omega)))]
 have : v = (v.toNat : Int) := by omega
 rw [this]
 simp
/-- the cells that a store goes by. -/
structure At3 (w : World) (b7 b11 b12 q p : Nat) (off : Int) (v : Value) : Prop where
 c7 : w.heap[b7]? = some (.cells [v].toArray 22 (0, 0))
 c11 : w.heap[b11]? = some (.cells [.pointer (some ⟨q, p * 4100, none⟩)].toArray 137 (0, 0))
 c12 : w.heap[b12]? = some (.cells [.int .i64 off].toArray 3 (0, 0))
theorem storeF_spec {w : World} {b7 b11 b12 r q n p i : Nat} {o : Nat} {v : Int} {m g : Nat -> Int} (h3 : At3 w b7 b11 b12 q p o (.int .u64 v)) (h : Mem w r q n m g) (hp : p < n) (hn : n <= 1000) (hi : o + i < 4096) (hi8 : i < 8) (hv : 0 <= v /\ v < 18446744073709551616) {K : Value -> World -> Prop}
  (hK : ∀ w', Mem w' r q n (wset m (p * 4096 + (o + i)) ((v.toNat / 2 ^ (8 * i) % 256 : Nat) : Int)) g -> Ext [q] w w' -> K (.tuple #[]) w') :
  callsK Tryz.prog 55 #[.int .i64 i, .pointer (some ⟨b7, 0, none⟩), .pointer (some ⟨b11, 0, none⟩), .pointer (some ⟨b12, 0, none⟩)] w K := by
 obtain ⟨c7, c11, c12⟩ := h3
 obtain ⟨L, hb, hL⟩ := h.body
 have hl := hL.len
 have hq := h.lt
 have hne := h.ne
 have hfd := fdiv_pow hv.1 (8 * i)
 have he : (8 * (i : Int)).toNat = 8 * i := by omega
 have hw8 := wrapU8 ((v.toNat / 2 ^ (8 * i) : Nat) : Int)
 have hwe : ((v.toNat / 2 ^ (8 * i) : Nat) : Int) % 256 = ((v.toNat / 2 ^ (8 * i) % 256 : Nat) : Int) := by simp
 rw [hwe] at hw8
 have hbyte := Nat.mod_lt (v.toNat / 2 ^ (8 * i)) (show 0 < 256 by omega)
 obtain ⟨x, hx⟩ : ∃ x, x = v.toNat / 2 ^ (8 * i) := ⟨_, rfl⟩
 rw [<- hx] at hfd hw8 hbyte hK
 have hidx : ((o : Int) + (i : Int)).toNat = o + i := by omega
 apply F55_ok
 unfold F55
 simp (disch := first | exact qD12 | fail) only [qG2, c7, c11, c12, hb, he, hfd, hw8, hidx]
 have hs := hL.set (p := p) (i := o + i) (v := ((x % 256 : Nat) : Int)) hp hi
 refine hK _ ⟨?_, ⟨_, ?_, hs⟩, h.byte.wset (by omega), h.word⟩ ?_
 ·have := h.head
  (first | with_reducible rfl | assumption | (simp (disch := first | exact qD12 | fail) only [qG2, this] <;> try rfl))
 ·(first | with_reducible rfl | assumption | (simp (disch := first | exact qD12 | fail) only [qG2, hb] <;> try rfl))
 ·exact qX
theorem bit_wset4 {g t : Nat -> Int} {p x : Nat} : bit (wset4 g p t) x = if x / 256 = p then bit t (x % 256) else bit g x := by
 unfold bit wset4
 by_cases h : x / 256 = p
 ·rw [if_pos (by omega), if_pos h]
  rw [show x / 64 % 4 = x % 256 / 64 by omega, show x % 256 % 64 = x % 64 by omega]
 ·rw [if_neg (by omega), if_neg h]
theorem bit_page {g : Nat -> Int} {p x : Nat} (h : x < 256) : bit (fun j => g (p * 4 + j)) x = bit g (p * 256 + x) := by
 unfold bit
 rw [show (p * 256 + x) / 64 = p * 4 + x / 64 by omega, show (p * 256 + x) % 64 = x % 64 by omega]
/-- a size that numbers may have. -/
def Size (s : Nat) : Prop := s = 1 ∨ s = 2 ∨ s = 4 ∨ s = 8
set_option maxHeartbeats 4000000 in
theorem Store_spec {w : World} {r q n a s : Nat} {v : Int} {m g : Nat -> Int} (h : Mem w r q n m g) (hn : 0 < n /\ n <= 1000) (ha : a < n * 4096) (hs : Size s) (hal : a % s = 0) (hv : 0 <= v /\ v < 18446744073709551616) {K : Value -> World -> Prop}
  (hK : ∀ g' w', Mem w' r q n (stored m a s v) g' -> (∀ x, x < n * 256 -> bit g' x = (bit g x && !decide (x = a / 16))) -> Ext [q] w w' -> K (.int .i64 0) w') :
  callsK Tryz.prog 23 #[.pointer (some ⟨r, 0, none⟩), .int .u64 a, .int .i64 s, .int .u64 v] w K := by
 have hs8 : s <= 8 /\ 1 <= s := by rcases hs with h | h | h | h <;> omega
 have hoff : a % 4096 + s <= 4096 := by rcases hs with h | h | h | h <;> subst h <;> omega
 have hgr : (a % 4096 + s - 1) / 16 = a % 4096 / 16 := by rcases hs with h | h | h | h <;> subst h <;> omega
 have hq := h.lt
 have hne := h.ne
 apply F23_ok
 unfold F23
 simp (disch := first | exact qD12 | fail) only [qG2]
 refine number_spec ?_
 rw [if_pos (by rcases hs with h | h | h | h <;> omega)]
 simp (disch := first | exact qD12 | fail) only [qG2]
 have hx1 : Ext [] w (w.alloc (.cells [.int .u64 v].toArray 22)) := qX
 refine place_spec (h.ext hx1 (by simp) (by simp)) hn (by omega) (by omega) (fun c1 c2 => ?_) (fun c => absurd ⟨by omega, by omega⟩ c)
 have e1 : ((a : Int) / 4096).toNat = a / 4096 := by omega
 have e2 : (a : Int) % 4096 = ((a % 4096 : Nat) : Int) := by omega
 rw [e1, e2]
 simp (disch := first | exact qD12 | fail) only [qG2, joinBR]
 refine joinL.intro fun J0 hJ0 => ?_
 simp (disch := first | exact qD12 | fail) only [qG2, joinBR]
 apply hJ0
 intro _
 simp (disch := first | exact qD12 | fail) only [qG2, joinBR]
 refine each_spec (n := s) (by omega) (I := fun i w' => At3 w' w.heap.size (w.heap.size + 1) (w.heap.size + 1 + 1) q (a / 4096) ((a % 4096 : Nat) : Int) (.int .u64 v) /\ Mem w' r q n (stored m a i v) g /\ Ext [q] w w') ⟨⟨by simp (disch := first | exact qD12 | fail) only [qG2], by simp (disch := first | exact qD12 | fail) only [qG2], by simp (disch := first | exact qD12 | fail) only [qG2]⟩, ?_, qX⟩ ?_ fun w2 h2 => ?_
 ·rw [stored_zero]
  refine h.ext (S := []) ?_ (by simp) (by simp)
  exact qX
 ·rintro i w2 hi ⟨h1, h2, h3⟩ K hK
  simp (disch := first | exact qD12 | fail) only [qG2]
  refine storeF_spec h1 h2 (by omega) hn.2 (by omega) (by omega) hv fun w3 h4 h5 => hK w3 ⟨?_, ?_, h3.trans h5 (by simp)⟩
  ·exact ⟨h5.at h1.c7 (by simp; omega), h5.at h1.c11 (by simp; omega), h5.at h1.c12 (by simp; omega)⟩
  ·have e3 : a / 4096 * 4096 + (a % 4096 + i) = a + i := by omega
   rw [e3, stored_succ] at h4
   exact h4
 obtain ⟨⟨c7, c11, c12⟩, hm, hx⟩ := h2
 obtain ⟨L, hb, hL⟩ := hm.body
 have hl := hL.len
 have hhd := hm.head
 have hsub := hL.sub (p := a / 4096) (by omega)
 have hql := hm.lt
 have l11 := lt_of_at c11
 have l12 := lt_of_at c12
 refine joinL.intro fun J2 hJ2 => ?_
 have hrest : ∀ gw w6, Wok gw -> (∀ j, j < 256 -> bit gw j = (bit (fun j => g (a / 4096 * 4 + j)) j && !decide (j = a % 4096 / 16))) -> w6.heap[r]? = some (.cells [.slice (some ⟨q, 0, none⟩) n n].toArray 134 (0, 0)) -> w6.heap[q]? = some (.cells (splice L (a / 4096 * 4100 + 4096) (tgC gw)).toArray 145 (0, 0)) -> Ext [q] w w6 -> J2 [] w6 := by
  intro gw w6 g1 g2 g3 g4 g5
  apply hJ2
  intro _
  refine hK (wset4 g (a / 4096) gw) w6 ⟨g3, ⟨_, g4, hL.tags (by omega)⟩, hm.byte, wset4_ok hm.word g1⟩ (fun x hx => ?_) g5
  rw [bit_wset4]
  by_cases hp : x / 256 = a / 4096
  ·rw [if_pos hp, g2 _ (by omega), bit_page (by omega), show a / 4096 * 256 + x % 256 = x by omega]
   congr 2
   rw [Bool.eq_iff_iff]
   simp only [decide_eq_true_eq]
   omega
  ·rw [if_neg hp, decide_eq_false (by omega)]
   simp
 clear hJ2 hJ0 hK
 simp (disch := first | exact qD12 | fail) only [qG2, c11, c12, hb, hsub, Option.isNone_some, and_self]
 repeat' (with_reducible apply And.intro)
 all_goals refine Cover_spec (by omega) (by omega) fun gc w4 hgc hbc hx4 => ?_
 all_goals
  have hk4 := kept0 hx4
  have hs4 : w2.heap.size <= w4.heap.size := hx4.size
  simp (disch := first | exact qD12 | fail) only [qG2, hk4, c11, c12, hb, hsub, Option.isNone_some, and_self]
 all_goals repeat' (with_reducible apply And.intro)
 all_goals refine Without_spec (g := fun j => g (a / 4096 * 4 + j)) (fun j => hm.word _) hgc fun gw w5 hgw hbw hx5 => ?_
 all_goals
  have hk5 := kept0 hx5
  have hs5 := hx5.size
  simp (disch := first | exact qD12 | fail) only [qG2, hk5, hk4, c11, c12, hb, hsub, Option.isNone_some, and_self]
 all_goals repeat' (with_reducible apply And.intro)
 all_goals
  refine hrest gw _ hgw (fun j hj => ?_) (by first | with_reducible rfl | assumption | (simp (disch := first | exact qD12 | fail) only [qG2, hk5, hk4, hhd] <;> rfl)) (by first | with_reducible rfl | assumption | (simp (disch := first | exact qD12 | fail) only [qG2, hk5, hk4, hb] <;> rfl)) ?_
  ·rw [hbw j hj, hbc j hj]
   congr 2
   rw [Bool.eq_iff_iff]
   simp only [decide_eq_true_eq]
   omega
  ·have hx6 : Ext [q] w w5 := (hx.drew.trans hx4 (by simp)).trans hx5 (by simp)
   exact qX
def leN (m : Nat -> Int) (a : Nat) : Nat -> Nat
 | 0 => 0
 | k + 1 => leN m a k + (m (a + k)).toNat * 2 ^ (8 * k)
theorem leN_lt {m : Nat -> Int} (h : Byte m) (a : Nat) : ∀ k, leN m a k < 2 ^ (8 * k)
 | 0 => by simp [leN]
 | k + 1 => by
  have h1 := leN_lt h a k
  have h2 := h (a + k)
  have h3 : (m (a + k)).toNat * 2 ^ (8 * k) <= 255 * 2 ^ (8 * k) := Nat.mul_le_mul_right _ (by omega)
  have h4 : (2 : Nat) ^ (8 * (k + 1)) = 256 * 2 ^ (8 * k) := by rw [show 8 * (k + 1) = 8 + 8 * k by omega, Nat.pow_add]
  unfold leN
  omega
theorem leN_or {m : Nat -> Int} (h : Byte m) (a k : Nat) : leN m a k ||| (m (a + k)).toNat * 2 ^ (8 * k) = leN m a (k + 1) := by
 have h1 := Nat.shiftLeft_add_eq_or_of_lt (leN_lt h a k) (m (a + k)).toNat
 rw [Nat.shiftLeft_eq] at h1
 rw [Nat.or_comm, <- h1, Nat.add_comm]
 rfl
structure At4 (w : World) (b13 b10 b11 q p : Nat) (off : Int) (x : Nat) : Prop where
 c13 : w.heap[b13]? = some (.cells [.int .u64 x].toArray 22 (0, 0))
 c10 : w.heap[b10]? = some (.cells [.pointer (some ⟨q, p * 4100, none⟩)].toArray 137 (0, 0))
 c11 : w.heap[b11]? = some (.cells [.int .i64 off].toArray 3 (0, 0))
theorem loadF_spec {w : World} {b13 b10 b11 r q n p i : Nat} {o : Nat} {m g : Nat -> Int} (h3 : At4 w b13 b10 b11 q p o (leN m (p * 4096 + o) i)) (h : Mem w r q n m g) (hp : p < n) (hn : n <= 1000) (hi : o + i < 4096) (hi8 : i < 8) (hd : b13 ≠ q) {K : Value -> World -> Prop}
  (hK : ∀ w', w'.heap[b13]? = some (.cells [.int .u64 (leN m (p * 4096 + o) (i + 1) : Nat)].toArray 22 (0, 0)) -> Ext [b13] w w' -> K (.tuple #[]) w') :
  callsK Tryz.prog 149 #[.int .i64 i, .pointer (some ⟨b13, 0, none⟩), .pointer (some ⟨b10, 0, none⟩), .pointer (some ⟨b11, 0, none⟩)] w K := by
 obtain ⟨c13, c10, c11⟩ := h3
 obtain ⟨L, hb, hL⟩ := h.body
 have hl := hL.len
 have hlt := lt_of_at c13
 have he : (8 * (i : Int)).toNat = 8 * i := by omega
 have hidx : ((o : Int) + (i : Int)).toNat = o + i := by omega
 have hg := hL.byte p (o + i) hp hi
 have hby := h.byte (p * 4096 + (o + i))
 have hle := leN_lt h.byte (p * 4096 + o) i
 have hle2 := leN_lt h.byte (p * 4096 + o) (i + 1)
 have hor := leN_or h.byte (p * 4096 + o) i
 have hpw : (2 : Nat) ^ (8 * (i + 1)) <= 18446744073709551616 := Nat.le_trans (Nat.pow_le_pow_right (show 0 < 2 by omega) (show 8 * (i + 1) <= 64 by omega)) (by decide)
 have hlb : leN m (p * 4096 + o) (i + 1) = leN m (p * 4096 + o) i + (m (p * 4096 + o + i)).toNat * 2 ^ (8 * i) := rfl
 rw [show p * 4096 + (o + i) = p * 4096 + o + i by omega] at hg hby
 generalize leN m (p * 4096 + o) (i + 1) = y at hle2 hor hK hlb
 generalize leN m (p * 4096 + o) i = x at hle hor c13 hlb
 generalize m (p * 4096 + o + i) = b at hg hby hor hlb
 obtain ⟨z, hz⟩ : ∃ z, z = b.toNat * 2 ^ (8 * i) := ⟨_, rfl⟩
 have hsh : IntKind.u64.wrap (b * 2 ^ (8 * i)) = (z : Int) := by
  have e : b * 2 ^ (8 * i) = (z : Int) := by
   rw [hz]
   have : b = (b.toNat : Int) := by omega
   rw [this]
   simp
  rw [e]
  exact wrap_u64 (by omega)
 rw [<- hz] at hor hlb
 have hor2 := or_u64 (a := (x : Int)) (b := (z : Int)) (by omega) (by omega)
 simp only [Int.toNat_natCast, hor] at hor2
 apply F149_ok
 unfold F149
 simp (disch := first | exact qD12 | fail) only [qG2, c13, c10, c11, hb, he, hidx, hg, hsh, hor2]
 refine hK _ (by first | with_reducible rfl | assumption | (simp (disch := first | exact qD12 | fail) only [qG2, c13] <;> rfl)) ?_
 exact qX
theorem Load_spec {w : World} {r q n a s : Nat} {m g : Nat -> Int} (h : Mem w r q n m g) (hn : 0 < n /\ n <= 1000) (ha : a < n * 4096) (hs : Size s) (hal : a % s = 0) {K : Value -> World -> Prop}
  (hK : ∀ w', Ext [] w w' -> K (.tuple #[.int .u64 (leN m a s : Nat), .int .i64 0]) w') :
  callsK Tryz.prog 147 #[.pointer (some ⟨r, 0, none⟩), .int .u64 a, .int .i64 s] w K := by
 have hs8 : s <= 8 /\ 1 <= s := by rcases hs with h | h | h | h <;> omega
 have hoff : a % 4096 + s <= 4096 := by rcases hs with h | h | h | h <;> subst h <;> omega
 have hq := h.lt
 apply F147_ok
 unfold F147
 simp (disch := first | exact qD12 | fail) only [qG2]
 refine number_spec ?_
 rw [if_pos (by rcases hs with h | h | h | h <;> omega)]
 simp (disch := first | exact qD12 | fail) only [qG2]
 refine place_spec h hn (by omega) (by omega) (fun c1 c2 => ?_) (fun c => absurd ⟨by omega, by omega⟩ c)
 have e1 : ((a : Int) / 4096).toNat = a / 4096 := by omega
 have e2 : (a : Int) % 4096 = ((a % 4096 : Nat) : Int) := by omega
 have e3 : a / 4096 * 4096 + a % 4096 = a := by omega
 rw [e1, e2]
 simp (disch := first | exact qD12 | fail) only [qG2, joinBR]
 refine joinL.intro fun J0 hJ0 => ?_
 simp (disch := first | exact qD12 | fail) only [qG2, joinBR]
 apply hJ0
 intro _
 simp (disch := first | exact qD12 | fail) only [qG2, joinBR]
 refine each_spec (n := s) (by omega) (I := fun i w' => At4 w' (w.heap.size + 1 + 1) w.heap.size (w.heap.size + 1) q (a / 4096) ((a % 4096 : Nat) : Int) (leN m a i) /\ Mem w' r q n m g /\ Ext [] w w') ⟨⟨by simp (disch := first | exact qD12 | fail) only [qG2]; rfl, by simp (disch := first | exact qD12 | fail) only [qG2], by simp (disch := first | exact qD12 | fail) only [qG2]⟩, ?_, qX⟩ ?_ fun w2 h2 => ?_
 ·refine h.ext (S := []) ?_ (by simp) (by simp)
  exact qX
 ·rintro i w2 hi ⟨h1, h2, h3⟩ K hK
  simp (disch := first | exact qD12 | fail) only [qG2]
  refine loadF_spec (m := m) (by rw [e3]; exact h1) h2 (by omega) hn.2 (by omega) (by omega) (by omega) fun w3 h4 h5 => hK w3 ⟨⟨?_, ?_, ?_⟩, ?_, h3.trans h5 (by simp; omega)⟩
  ·rw [e3] at h4; exact h4
  ·exact h5.at h1.c10 (by simp <;> omega)
  ·exact h5.at h1.c11 (by simp <;> omega)
  ·exact h2.ext h5 (by simp; omega) (by simp; omega)
 obtain ⟨⟨c13, c10, c11⟩, hm, hx⟩ := h2
 simp (disch := first | exact qD12 | fail) only [qG2, c13]
 exact hK _ hx
def pageZ : List Value := List.replicate 4096 (.int .u8 0) ++ List.replicate 4 (.int .u64 0)
theorem pageZ_len : pageZ.length = 4100 := by unfold pageZ; rw [List.length_append, List.length_replicate, List.length_replicate]
theorem pageZ_low {i : Nat} (h : i < 4096) : pageZ.getD i undef = .int .u8 0 := by
 unfold pageZ
 rw [List.getD_eq_getElem?_getD, List.getElem?_append_left (by rw [List.length_replicate]; exact h), List.getElem?_replicate, if_pos h]
 rfl
theorem pageZ_high {j : Nat} (h : j < 4) : pageZ.getD (4096 + j) undef = .int .u64 0 := by
 unfold pageZ
 rw [List.getD_eq_getElem?_getD, List.getElem?_append_right (by rw [List.length_replicate]; omega), List.length_replicate, Nat.add_sub_cancel_left, List.getElem?_replicate, if_pos h]
 rfl
theorem page_info : (Tryz.prog.info? 145).map (fun i => (i.size, i.bytes, i.zero.map fun z => z.cells.toList)) = some (4100, 4128, some pageZ) := by kernel_rfl
theorem New_spec {w : World} {n : Nat} (hn : 1 <= n /\ n <= 64) {K : Value -> World -> Prop}
  (hK : ∀ w', Mem w' (w.heap.size + 1) w.heap.size n (fun _ => 0) (fun _ => 0) -> Ext [] w w' -> K (.tuple #[.pointer (some ⟨w.heap.size + 1, 0, none⟩), .int .i64 0]) w') : callsK Tryz.prog 21 #[.int .i64 n] w K := by
 have hzl := pageZ_len
 have hmk := fun w => run_mk (P := Tryz.prog) Tryz.underlying132 page_info .i64 .i64 n (by intro h; rw [h] at hzl; simp at hzl) (by omega) (by omega) (by omega) w
 apply F21_ok
 unfold F21
 simp (disch := first | exact qD12 | fail) only [qG2, joinBR, hmk]
 refine hK _ ⟨by simp (disch := first | exact qD12 | fail) only [qG2], ⟨madeL pageZ (n * 4100), by simp (disch := first | exact qD12 | fail) only [qG2], ⟨by rw [madeL_length], fun p i hp hi => ?_, fun p j hp hj => ?_⟩⟩, fun _ => ⟨by decide, by decide⟩, Wok.zero⟩ qX
 ·rw [madeL_get (by omega), hzl, show (p * 4100 + i) % 4100 = i by omega]
  rw [pageZ_low hi]
 ·rw [madeL_get (by omega), hzl, show (p * 4100 + 4096 + j) % 4100 = 4096 + j by omega]
  rw [pageZ_high hj]
end Go.Proofs.YtplfniijbeinmaaGreat
