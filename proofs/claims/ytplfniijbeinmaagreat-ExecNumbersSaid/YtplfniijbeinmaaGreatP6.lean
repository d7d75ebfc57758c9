/- Part 6 of what the law ExecNumbers stands on: formulas of the functions that it reaches, and what each of them does; conditions: those of each theorem. -/
import Derived.Test.YtplfniijbeinmaaGreatP5
set_option linter.unusedVariables false
set_option linter.unusedSimpArgs false
namespace Go.Proofs.YtplfniijbeinmaaGreat
open Go.Fx
set_option maxRecDepth 100000
theorem len64G_spec {w : World} {x : Nat} (hx : x < 18446744073709551616) {K : Value -> World -> Prop} (hK : ∀ r : Nat, r <= 64 -> (4096 <= x -> 13 <= r) -> K (.int .i64 (r : Nat)) w) : callsK Tryz.prog 109 #[.int .u64 (x : Nat)] w K := by
 apply F109_ok
 unfold F109
 refine joinL.intro fun J0 hJ0 => ?_
 have k0 : ∀ y n : Nat, y < 4294967296 -> (n = 0 /\ y = x ∨ n = 32) -> J0 [.int .u64 (y : Nat), .int .i64 (n : Nat)] w := by
  intro y n hy hn
  apply hJ0
  intro _
  refine joinL.intro fun J2 hJ2 => ?_
  have k2 : ∀ z m : Nat, z < 65536 -> (m = 0 /\ z = x ∨ 16 <= m /\ m <= 48) -> J2 [.int .u64 (z : Nat), .int .i64 (m : Nat)] w := by
   intro z m hz hm
   apply hJ2
   intro _
   refine joinL.intro fun J4 hJ4 => ?_
   have k4 : ∀ v q : Nat, v < 256 -> (q = 0 /\ v = x ∨ q = 8 /\ (4096 <= x -> 16 <= v) ∨ 16 <= q /\ q <= 56) -> J4 [.int .u64 (v : Nat), .int .i64 (q : Nat)] w := by
    intro v q hv hq
    apply hJ4
    intro _
    obtain ⟨r, ⟨h1, h2⟩, hr⟩ := lenB_run hv
    unfold lenB at hr
    have e : ((q : Nat) : Int) + (r : Nat) = ((q + r : Nat) : Int) := by omega
    simp (disch := first | exact qD4 | fail) only [qG4, List.getD_cons_zero, List.getD_cons_succ, hr, e]
    refine hK (q + r) (by omega) fun h => ?_
    rcases hq with ⟨-, rfl⟩ | ⟨rfl, h3⟩ | ⟨h3, h4⟩
    ·omega
    ·have := h2 (h3 h)
     omega
    ·omega
   by_cases h : 256 <= z
   ·have hd := fdivP (v := z) 8
    have e : ((m : Nat) : Int) + 8 = ((m + 8 : Nat) : Int) := by omega
    simp (disch := first | exact qD4 | fail) only [qG4, Int.reduceToNat, List.getD_cons_zero, List.getD_cons_succ, hd, e]
    have p8 : (2 : Nat) ^ 8 = 256 := by decide
    exact k4 (z / 2 ^ 8) (m + 8) (by rw [p8]; omega) (by rw [p8]; omega)
   ·simp (disch := first | exact qD4 | fail) only [qG4, List.getD_cons_zero, List.getD_cons_succ]
    exact k4 z m (by omega) (by omega)
  by_cases h : 65536 <= y
  ·have hd := fdivP (v := y) 16
   have e : ((n : Nat) : Int) + 16 = ((n + 16 : Nat) : Int) := by omega
   simp (disch := first | exact qD4 | fail) only [qG4, Int.reduceToNat, List.getD_cons_zero, List.getD_cons_succ, hd, e]
   have p8 : (2 : Nat) ^ 16 = 65536 := by decide
   exact k2 (y / 2 ^ 16) (n + 16) (by rw [p8]; omega) (by omega)
  ·simp (disch := first | exact qD4 | fail) only [qG4, List.getD_cons_zero, List.getD_cons_succ]
   exact k2 y n (by omega) (by omega)
 by_cases h : 4294967296 <= x
 ·have hd := fdivP (v := x) 32
  simp (disch := first | exact qD4 | fail) only [qG4, Int.reduceToNat, hd]
  have p8 : (2 : Nat) ^ 32 = 4294967296 := by decide
  exact k0 (x / 2 ^ 32) 32 (by rw [p8]; omega) (.inr rfl)
 ·simp (disch := first | exact qD4 | fail) only [qG4]
  exact k0 x 0 (by omega) (.inl ⟨rfl, rfl⟩)
theorem logG_spec {w : World} {x : Nat} (hx : x < 18446744073709551616) {K : Value -> World -> Prop} (hK : ∀ r : Int, -1 <= r /\ r <= 63 -> (4096 <= x -> 12 <= r) -> K (.int .i64 r) w) : callsK Tryz.prog 88 #[.int .u64 (x : Nat)] w K := by
 apply F88_ok
 unfold F88
 simp (disch := first | exact qD4 | fail) only [qG4]
 refine len64G_spec hx fun r hr h => ?_
 simp (disch := first | exact qD4 | fail) only [qG4]
 exact hK _ (by omega) (by omega)
theorem keptG_spec {w : World} {b t : Nat} {x : Int} (hx : 0 <= x /\ x <= 60) (hb : b < 18446744073709551616) (ht : t < 18446744073709551616) {K : Value -> World -> Prop} (hK : ∀ (b' t' s : Nat) w', b' < 18446744073709551616 -> t' < 18446744073709551616 -> s < 18446744073709551616 -> Ext [] w w' -> K (.tuple #[.agg [.int .u64 (b' : Nat), .int .u64 (t' : Nat)].toArray, .int .u64 (s : Nat)]) w') : callsK Tryz.prog 89 #[.agg [.int .u64 (b : Nat), .int .u64 (t : Nat)].toArray, .int .i64 x] w K := by
 apply G89_ok
 unfold G89
 simp (disch := first | exact qD4 | fail) only [qG4]
 refine upG_spec (by omega) ht fun u o hu => ?_
 simp (disch := first | exact qD4 | fail) only [qG4]
 refine downG_spec (by omega) fun v hv => ?_
 have hbd : ∀ (a b : Int) w, (Instr.build 26 #[(0, .int .u64 a), (1, .int .u64 b)]).run Tryz.prog w = .ok (.agg [.int .u64 a, .int .u64 b].toArray) w := fun a b w => run_build w 26 _ _ (by kernel_rfl)
 obtain ⟨s, hs, hsl⟩ := natOf (wrapU ((u : Int) - (v : Int)))
 have hd := fdivP (v := s) x.toNat
 simp (disch := first | exact qD4 | fail) only [qG4, Nat.reduceAdd, hbd, hs, hd, and_self]
 exact hK v u _ _ hv hu (Nat.lt_of_le_of_lt (Nat.div_le_self _ _) hsl) qX
theorem mayG_spec {w : World} {b t : Nat} {K : Value -> World -> Prop} (hK : ∀ w', Ext [] w w' -> K (.bool (decide (b <= t /\ t <= 281474976710656))) w') : callsK Tryz.prog 47 #[.agg [.int .u64 (b : Nat), .int .u64 (t : Nat)].toArray] w K := by
 apply F47_ok
 unfold F47
 by_cases h1 : b <= t
 ·by_cases h2 : t <= 281474976710656
  ·rw [decide_eq_true ⟨h1, h2⟩] at hK
   simp (disch := first | exact qD4 | fail) only [qG4, joinBR, if_true]
   exact hK _ qX
  ·rw [decide_eq_false fun h => h2 h.2] at hK
   simp (disch := first | exact qD4 | fail) only [qG4, joinBR, if_true]
   exact hK _ qX
 ·rw [decide_eq_false fun h => h1 h.1] at hK
  simp (disch := first | exact qD4 | fail) only [qG4, joinBR, if_false]
  exact hK _ qX
theorem chooseG_spec {w : World} {b t : Nat} (hbt : b <= t) (ht : t <= 281474976710656) {K : Value -> World -> Prop} (hK : ∀ (e b' t' : Nat) w', e < 64 -> b' < 18446744073709551616 -> t' < 18446744073709551616 -> Ext [] w w' -> K (.tuple #[.int .u64 (e : Nat), .agg [.int .u64 (b' : Nat), .int .u64 (t' : Nat)].toArray]) w') : callsK Tryz.prog 48 #[.agg [.int .u64 (b : Nat), .int .u64 (t : Nat)].toArray] w K := by
 apply G48_ok
 unfold G48
 have hs : ((t : Nat) : Int) - (b : Nat) = ((t - b : Nat) : Int) := by omega
 have hx0 : Ext [] w ((w.alloc (.cells [.int .u64 (b : Nat), .int .u64 (t : Nat)].toArray 26)).alloc (.cells [.int .u64 0, .int .u64 0].toArray 26)) := qX
 have g1 : ((w.alloc (.cells [.int .u64 (b : Nat), .int .u64 (t : Nat)].toArray 26)).alloc (.cells [.int .u64 0, .int .u64 0].toArray 26)).heap[w.heap.size]? = some (.cells [.int .u64 (b : Nat), .int .u64 (t : Nat)].toArray 26 (0, 0)) := (alloc_ne (by simp only [szR]; omega)).trans (alloc_at rfl)
 have g3 : ((w.alloc (.cells [.int .u64 (b : Nat), .int .u64 (t : Nat)].toArray 26)).alloc (.cells [.int .u64 0, .int .u64 0].toArray 26)).heap[w.heap.size + 1]? = some (.cells [.int .u64 0, .int .u64 0].toArray 26 (0, 0)) := alloc_at (by simp only [szR])
 by_cases h : t - b < 4096
 ·simp (disch := first | exact qD4 | fail) only [qG4, Nat.reduceAdd, hs]
  exact hK 0 b t _ (by decide) (by omega) (by omega) qX
 ·simp (disch := first | exact qD4 | fail) only [qG4, hs]
  refine logG_spec (by omega) fun r hr hr2 => ?_
  have hr3 := hr2 (by omega)
  simp (disch := first | exact qD4 | fail) only [qG4]
  refine keptG_spec (by omega) (by omega) (by omega) fun b1 t1 s1 w1 hb1 ht1 hs1 hx1 => ?_
  have k1 := hx1.at g1 (by simp)
  have k3 := hx1.at g3 (by simp)
  have lk1 := lt_of_at k1
  have lk3 := lt_of_at k3
  have hxa := hx0.trans hx1 (by simp)
  simp (disch := first | exact qD4 | fail) only [qG4, Nat.reduceAdd]
  refine joinL.intro fun J1 hJ1 => ?_
  have hend : ∀ (w2 : World) (z : Int) (b2 t2 : Nat), 0 <= z /\ z <= 60 -> b2 < 18446744073709551616 -> t2 < 18446744073709551616 -> w2.heap[w1.heap.size]? = some (.cells [.int .u64 (b2 : Nat), .int .u64 (t2 : Nat)].toArray 26 (0, 0)) -> w2.heap[w.heap.size + 1]? = some (.cells [.int .u64 0, .int .u64 0].toArray 26 (0, 0)) -> Ext [] w w2 -> J1 [.int .i64 z] w2 := by
   intro w2 z b2 t2 hz hb2 ht2 m6 m3 hx2
   apply hJ1
   intro _
   have lm6 := lt_of_at m6
   have lm3 := lt_of_at m3
   have ez : z + 1 = (((z + 1).toNat : Nat) : Int) := by omega
   simp (disch := first | exact qD4 | fail) only [qG4, Nat.reduceAdd, m6, m3, List.getD_cons_zero]
   rw [ez]
   exact hK _ b2 t2 _ (by omega) hb2 ht2 qX
  by_cases h2 : 8192 <= s1
  ·have hxk : Ext [] w1 (w1.alloc (.cells [.int .u64 (b1 : Nat), .int .u64 (t1 : Nat)].toArray 26)) := qX
   simp (disch := first | exact qD4 | fail) only [qG4, k1]
   refine keptG_spec (by omega) (by omega) (by omega) fun b2 t2 s2 w2 hb2 ht2 hs2 hx2 => ?_
   have n6 : w2.heap[w1.heap.size]? = some (.cells [.int .u64 (b1 : Nat), .int .u64 (t1 : Nat)].toArray 26 (0, 0)) := hx2.at (alloc_at rfl) (by simp)
   have n3 := hx2.at (hxk.at k3 (by simp)) (by simp)
   have ln6 := lt_of_at n6
   have hxc := (hxa.trans hxk (by simp)).trans hx2 (by simp)
   simp (disch := first | exact qD4 | fail) only [qG4, Nat.reduceAdd, n6]
   refine hend _ _ b2 t2 (by omega) hb2 ht2 (upd_at n6) ((upd_ne (by omega)).trans n3) ?_
   have hs3 := hxa.size
   exact qX
  ·simp (disch := first | exact qD4 | fail) only [qG4]
   refine hend _ _ b1 t1 (by omega) hb1 ht1 (alloc_at rfl) ((alloc_ne (by omega)).trans k3) qX
open Go.Fx
set_option maxRecDepth 100000
theorem spanZ (w : World) : (Instr.build 26 #[]).run Tryz.prog w = .ok (.agg [.int .u64 0, .int .u64 0].toArray) w := run_build w 26 _ _ (by kernel_rfl)
theorem fdsZ (w : World) : (Instr.build 69 #[]).run Tryz.prog w = .ok (.agg (fdsC 0 0 0).toArray) w := run_build w 69 _ _ (by kernel_rfl)
theorem fds_put (B T E : Nat) : fdsC B T E ++ List.drop (fdsC B T E).length [.int .u64 0, .int .u64 0, .int .u64 0] = fdsC B T E := rfl
theorem fds_over (B T E : Nat) : splice [.int .u64 0, .int .u64 0, .int .u64 0] 0 (fdsC B T E) = fdsC B T E := rfl
theorem roundedG_spec {w : World} {b t : Nat} (ht : t < 18446744073709551616) {K : Value -> World -> Prop} (hK : ∀ (b' t' : Nat) o w', b' < 18446744073709551616 -> t' < 18446744073709551616 -> Ext [] w w' -> K (.tuple #[.agg [.int .u64 (b' : Nat), .int .u64 (t' : Nat)].toArray, .bool o]) w') : callsK Tryz.prog 114 #[.agg [.int .u64 (b : Nat), .int .u64 (t : Nat)].toArray] w K := by
 apply F114_ok
 unfold F114
 simp (disch := first | exact qD4 | fail) only [qG4]
 have hx0 : Ext [] w ((w.alloc (.cells [.int .u64 (b : Nat), .int .u64 (t : Nat)].toArray 26)).alloc (.cells [.int .u64 0, .int .u64 0].toArray 26)) := qX
 have g1 : ((w.alloc (.cells [.int .u64 (b : Nat), .int .u64 (t : Nat)].toArray 26)).alloc (.cells [.int .u64 0, .int .u64 0].toArray 26)).heap[w.heap.size]? = some (.cells [.int .u64 (b : Nat), .int .u64 (t : Nat)].toArray 26 (0, 0)) := (alloc_ne (by simp only [szR]; omega)).trans (alloc_at rfl)
 have g2 : ((w.alloc (.cells [.int .u64 (b : Nat), .int .u64 (t : Nat)].toArray 26)).alloc (.cells [.int .u64 0, .int .u64 0].toArray 26)).heap[w.heap.size + 1]? = some (.cells [.int .u64 0, .int .u64 0].toArray 26 (0, 0)) := alloc_at (by simp only [szR])
 refine mayG_spec fun w1 hx1 => ?_
 replace g1 := hx1.at g1 (by simp)
 replace g2 := hx1.at g2 (by simp)
 replace hx0 := hx0.trans hx1 (by simp)
 have lg2 := lt_of_at g2
 by_cases h : b <= t /\ t <= 281474976710656
 ·rw [decide_eq_true h]
  simp (disch := first | exact qD4 | fail) only [qG4, Bool.not_true, g1]
  refine chooseG_spec h.1 h.2 fun e b' t' w2 he hb' ht' hx2 => ?_
  replace g2 := hx2.at g2 (by simp)
  have lg3 := lt_of_at g2
  replace hx0 := hx0.trans hx2 (by simp)
  simp (disch := first | exact qD4 | fail) only [qG4, Nat.reduceAdd, g2]
  exact hK b' t' _ _ hb' ht' qX
 ·rw [decide_eq_false h]
  simp (disch := first | exact qD4 | fail) only [qG4, Nat.reduceAdd, Bool.not_false, spanZ, g2]
  exact hK 0 0 _ _ (by decide) (by decide) qX
theorem encodeG_spec {w : World} {b t : Nat} (ht : t < 18446744073709551616) {K : Value -> World -> Prop} (hK : ∀ (B T E : Nat) o w', B < 16384 -> T < 4096 -> E < 64 -> Ext [] w w' -> K (.tuple #[.agg (fdsC B T E).toArray, .bool o]) w') : callsK Tryz.prog 18 #[.agg [.int .u64 (b : Nat), .int .u64 (t : Nat)].toArray] w K := by
 apply G18_ok
 unfold G18
 simp (disch := first | exact qD4 | fail) only [qG4]
 have hx0 : Ext [] w ((w.alloc (.cells [.int .u64 (b : Nat), .int .u64 (t : Nat)].toArray 26)).alloc (.cells [.int .u64 0, .int .u64 0, .int .u64 0].toArray 69)) := qX
 have g1 : ((w.alloc (.cells [.int .u64 (b : Nat), .int .u64 (t : Nat)].toArray 26)).alloc (.cells [.int .u64 0, .int .u64 0, .int .u64 0].toArray 69)).heap[w.heap.size]? = some (.cells [.int .u64 (b : Nat), .int .u64 (t : Nat)].toArray 26 (0, 0)) := (alloc_ne (by simp only [szR]; omega)).trans (alloc_at rfl)
 have g2 : ((w.alloc (.cells [.int .u64 (b : Nat), .int .u64 (t : Nat)].toArray 26)).alloc (.cells [.int .u64 0, .int .u64 0, .int .u64 0].toArray 69)).heap[w.heap.size + 1]? = some (.cells [.int .u64 0, .int .u64 0, .int .u64 0].toArray 69 (0, 0)) := alloc_at (by simp only [szR])
 refine mayG_spec fun w1 hx1 => ?_
 replace g1 := hx1.at g1 (by simp)
 replace g2 := hx1.at g2 (by simp)
 replace hx0 := hx0.trans hx1 (by simp)
 have lg2 := lt_of_at g2
 by_cases h : b <= t /\ t <= 281474976710656
 ·rw [decide_eq_true h]
  simp (disch := first | exact qD4 | fail) only [qG4, Bool.not_true, g1]
  refine chooseG_spec h.1 h.2 fun e b' t' w2 he hb' ht' hx2 => ?_
  replace g1 := hx2.at g1 (by simp)
  replace g2 := hx2.at g2 (by simp)
  have lg3 := lt_of_at g2
  have lg1 := lt_of_at g1
  replace hx0 := hx0.trans hx2 (by simp)
  simp (disch := first | exact qD4 | fail) only [qG4, Nat.reduceAdd]
  refine shift_spec he ?_
  have hd1 := fdivP (v := b') (e - 1)
  have hd2 := fdivP (v := t') (e - 1)
  generalize b' / 2 ^ (e - 1) = u at hd1
  generalize t' / 2 ^ (e - 1) = v at hd2
  have m1 : bitI .and .u64 (u : Int) 16383 = ((u % 16384 : Nat) : Int) := by rw [mask14]; omega
  have m2 : bitI .and .u64 (v : Int) 4095 = ((v % 4096 : Nat) : Int) := by rw [mask12]; omega
  have hbf : ∀ (x y z : Nat) w, (Instr.build 69 #[(0, .int .u64 (x : Nat)), (1, .int .u64 (y : Nat)), (2, .int .u64 (z : Nat))]).run Tryz.prog w = .ok (.agg (fdsC x y z).toArray) w := fun x y z w => run_build w 69 _ _ (by kernel_rfl)
  simp (disch := first | exact qD4 | fail) only [qG4, g1, g2, Int.toNat_natCast, hd1, hd2, m1, m2, hbf, fds_put, fds_over, fdsC_sub, and_self]
  exact hK (u % 16384) (v % 4096) e _ _ (Nat.mod_lt _ (by decide)) (Nat.mod_lt _ (by decide)) he qX
 ·rw [decide_eq_false h]
  simp (disch := first | exact qD4 | fail) only [qG4, Nat.reduceAdd, Bool.not_false, fdsZ, g2, fds_put, fds_over, fdsC_sub]
  exact hK 0 0 0 _ _ (by decide) (by decide) (by decide) qX
theorem lengthG_spec {w : World} {n : Nat} (hn : n < 18446744073709551616) {K : Value -> World -> Prop} (hK : ∀ (r : Nat) o w', r < 18446744073709551616 -> Ext [] w w' -> K (.tuple #[.int .u64 (r : Nat), .bool o]) w') : callsK Tryz.prog 122 #[.int .u64 (n : Nat)] w K := by
 apply F122_ok
 unfold F122
 have hbd : ∀ (b : Nat) w, (Instr.build 26 #[(1, .int .u64 (b : Nat))]).run Tryz.prog w = .ok (.agg [.int .u64 ((0 : Nat) : Int), .int .u64 (b : Nat)].toArray) w := fun b w => run_build w 26 _ _ (by kernel_rfl)
 simp (disch := first | exact qD4 | fail) only [qG4, hbd]
 refine roundedG_spec hn fun b' t' o w1 hb' ht' hx1 => ?_
 simp (disch := first | exact qD4 | fail) only [qG4, Nat.reduceAdd]
 exact hK t' o _ ht' qX
theorem alignedG_spec {w : World} {n : Nat} (hn : n < 18446744073709551616) {K : Value -> World -> Prop} (hK : ∀ (r : Nat) w', r < 18446744073709551616 -> Ext [] w w' -> K (.int .u64 (r : Nat)) w') : callsK Tryz.prog 123 #[.int .u64 (n : Nat)] w K := by
 apply F123_ok
 unfold F123
 simp (disch := first | exact qD4 | fail) only [qG4]
 apply F128_ok
 unfold F128
 have hbd : ∀ (b : Nat) w, (Instr.build 26 #[(1, .int .u64 (b : Nat))]).run Tryz.prog w = .ok (.agg [.int .u64 ((0 : Nat) : Int), .int .u64 (b : Nat)].toArray) w := fun b w => run_build w 26 _ _ (by kernel_rfl)
 simp (disch := first | exact qD4 | fail) only [qG4, hbd]
 refine encodeG_spec hn fun B T E o w1 hB hT hE hx1 => ?_
 have f2 : (fdsC B T E)[2]? = some (.int .u64 (E : Nat)) := rfl
 simp (disch := first | exact qD4 | fail) only [qG4, fds_put, fds_over, f2]
 refine shift_spec hE ?_
 by_cases h : n <= 281474976710656
 ·obtain ⟨r, hr, hl⟩ := natOf (wrapU (18446744073709551615 * 2 ^ (E - 1)))
  simp (disch := first | exact qD4 | fail) only [qG4, Int.toNat_natCast, Bool.not_true, hr]
  exact hK r _ hl qX
 ·simp (disch := first | exact qD4 | fail) only [qG4, Bool.not_false]
  exact hK 0 _ (by decide) qX
open Go.Fx
set_option maxRecDepth 100000
theorem capZ (w : World) : (Instr.build 24 #[]).run Tryz.prog w = .ok (.agg (cq Cq.zero).toArray) w := run_build w 24 _ _ (by kernel_rfl)
theorem cap2 (m a : Nat) (w : World) : (Instr.build 24 #[(1, .int .u64 (m : Nat)), (2, .int .u64 (a : Nat))]).run Tryz.prog w = .ok (.agg (cq ⟨false, m, a⟩).toArray) w := run_build w 24 _ _ (by kernel_rfl)
theorem qZ18 : type_of% (And.intro @szR (And.intro @fdsC_len (And.intro @fdsC_all (And.intro @spC_len (And.intro @spC_all (And.intro @cpC_len (And.intro @vwC_len (And.intro @cpC_all (And.intro @vwC_all (And.intro @lvC_len (And.intro @lvC_all (And.intro @cq_len (@cq_all))))))))))))) := ⟨@szR, @fdsC_len, @fdsC_all, @spC_len, @spC_all, @cpC_len, @vwC_len, @cpC_all, @vwC_all, @lvC_len, @lvC_all, @cq_len, @cq_all⟩
theorem qD18 {p : Prop} (h : p := by first | assumption | omega | (simp only [qZ18] <;> omega) | rfl | decide) : p := h
theorem makeG_spec {w : World} {b t p ty a : Nat} (ht : t < 18446744073709551616) (hp : p < 18446744073709551616) (hty : ty < 18446744073709551616) (ha : a < 18446744073709551616) {K : Value -> World -> Prop} (hK : ∀ (x : Cq) o w', Ext [] w w' -> K (.tuple #[.agg (cq x).toArray, .bool o]) w') :
  callsK Tryz.prog 6 #[.agg [.int .u64 (b : Nat), .int .u64 (t : Nat), .int .u64 (p : Nat), .int .u64 (ty : Nat)].toArray, .int .u64 (a : Nat)] w K := by
 apply F6_ok
 unfold F6
 simp (disch := first | exact qD18 | fail) only [qG4]
 have hx0 : Ext [] w ((w.alloc (.cells [.int .u64 (b : Nat), .int .u64 (t : Nat), .int .u64 (p : Nat), .int .u64 (ty : Nat)].toArray 28)).alloc (.cells [.bool false, .int .u64 0, .int .u64 0].toArray 24)) := qX
 have g1 : ((w.alloc (.cells [.int .u64 (b : Nat), .int .u64 (t : Nat), .int .u64 (p : Nat), .int .u64 (ty : Nat)].toArray 28)).alloc (.cells [.bool false, .int .u64 0, .int .u64 0].toArray 24)).heap[w.heap.size]? = some (.cells [.int .u64 (b : Nat), .int .u64 (t : Nat), .int .u64 (p : Nat), .int .u64 (ty : Nat)].toArray 28 (0, 0)) := (alloc_ne (by simp only [szR]; omega)).trans (alloc_at rfl)
 have g2 : ((w.alloc (.cells [.int .u64 (b : Nat), .int .u64 (t : Nat), .int .u64 (p : Nat), .int .u64 (ty : Nat)].toArray 28)).alloc (.cells [.bool false, .int .u64 0, .int .u64 0].toArray 24)).heap[w.heap.size + 1]? = some (.cells [.bool false, .int .u64 0, .int .u64 0].toArray 24 (0, 0)) := alloc_at (by simp only [szR])
 refine encodeG_spec ht fun B T E o1 w1 hB hT hE hx1 => ?_
 replace g1 := hx1.at g1 (by simp)
 replace g2 := hx1.at g2 (by simp)
 replace hx0 := hx0.trans hx1 (by simp)
 have lg1 := lt_of_at g1
 have lg2 := lt_of_at g2
 simp (disch := first | exact qD18 | fail) only [qG4, fds_put, fds_over, fdsC_sub]
 have hxe : Ext [] w1 (w1.alloc (.cells (fdsC B T E).toArray 69)) := Ext.alloc Ext.refl _ _
 refine Decode_spec hB hT hE ha fun w2 hx2 => ?_
 have g3 : w2.heap[w1.heap.size]? = some (.cells (fdsC B T E).toArray 69 (0, 0)) := hx2.at (alloc_at rfl) (by simp)
 have hx3 := hxe.trans hx2 (by simp)
 replace g1 := hx3.at g1 (by simp)
 replace g2 := hx3.at g2 (by simp)
 replace hx0 := hx0.trans hx3 (by simp)
 replace lg1 := lt_of_at g1
 replace lg2 := lt_of_at g2
 have lg3 := lt_of_at g3
 clear hx1 hx2 hx3 hxe
 generalize (spn B T E a).isSome = o2
 generalize spn B T E a = so
 have hne : ∀ (x y : Operand) w, (binV .neq 26 x y (.agg (spC so).toArray) (.agg [.int .u64 (b : Nat), .int .u64 (t : Nat)].toArray)).run Tryz.prog w = .ok (.bool (!(((spB so : Nat) : Int) == (b : Nat) && (((spT so : Nat) : Int) == (t : Nat) && true)))) w := fun x y w => RX_neq_26 _ _ _ _ x y w
 generalize (!(((spB so : Nat) : Int) == (b : Nat) && (((spT so : Nat) : Int) == (t : Nat) && true))) = nb at hne
 cases o1 with
 | false =>
  simp (disch := first | exact qD18 | fail) only [qG4, Nat.reduceAdd, joinBR, Bool.not_false, if_true, capZ, g2, cq_over0, cq_put, cq_sub, spC_put, spC_over]
  exact hK Cq.zero false _ qX
 | true =>
 cases o2 with
 | false =>
  simp (disch := first | exact qD18 | fail) only [qG4, Nat.reduceAdd, joinBR, Bool.not_true, Bool.not_false, if_true, if_false, capZ, g2, cq_over0, cq_put, cq_sub, spC_put, spC_over]
  exact hK Cq.zero false _ qX
 | true =>
 cases nb with
 | true =>
  simp (disch := first | exact qD18 | fail) only [qG4, Nat.reduceAdd, joinBR, Bool.not_true, Bool.not_false, if_true, if_false, capZ, g1, g2, cq_over0, cq_put, cq_sub, spC_put, spC_over, spC_sub, hne]
  exact hK Cq.zero false _ qX
 | false =>
 by_cases hp2 : 511 < p
 ·simp (disch := first | exact qD18 | fail) only [qG4, Nat.reduceAdd, joinBR, Bool.not_true, Bool.not_false, if_true, if_false, capZ, g1, g2, cq_over0, cq_put, cq_sub, spC_put, spC_over, spC_sub, hne]
  exact hK Cq.zero false _ qX
 ·by_cases ht2 : 4095 < ty
  ·simp (disch := first | exact qD18 | fail) only [qG4, Nat.reduceAdd, joinBR, Bool.not_true, Bool.not_false, if_true, if_false, capZ, g1, g2, cq_over0, cq_put, cq_sub, spC_put, spC_over, spC_sub, hne]
   exact hK Cq.zero false _ qX
  ·simp (disch := first | exact qD18 | fail) only [qG4, joinBR, Bool.not_true, Bool.not_false, if_true, if_false, capZ, g1, g2, g3, cq_over0, cq_put, cq_sub, spC_put, spC_over, spC_sub, hne, fdsC_sub]
   have hwf : wordF B T E 3 < 18446744073709551616 := Nat.lt_trans (wordF_lt B T E (Nat.le_refl 3)) (by decide)
   have hx4 : Ext [] w2 (w2.alloc (.cells (spC so).toArray 26)) := Ext.alloc Ext.refl _ _
   refine meta_spec (B := B) (T := T) (E := E) (p := p) (t := ty) (by omega) (by omega) (by omega) hwf hp hty fun w3 hx5 => ?_
   have hx6 := hx4.trans hx5 (by simp)
   replace g2 := hx6.at g2 (by simp)
   have lg4 := lt_of_at g2
   replace hx0 := hx0.trans hx6 (by simp)
   simp (disch := first | exact qD18 | fail) only [qG4, Nat.reduceAdd, cap2, g2, cq_over0, cq_put, cq_sub]
   exact hK ⟨false, mtN (wordF B T E 3) p ty, a⟩ true _ qX
theorem CheckG_spec {w : World} {c : Cq} {k n : Nat} (hm : c.m < 18446744073709551616) (ha : c.a < 18446744073709551616) (hk : k < 5) (hn : n < 18446744073709551616) {K : Value -> World -> Prop} (hK : ∀ (r : Nat) w', Ext [] w w' -> K (.int .i64 (r : Nat)) w') : callsK Tryz.prog 29 #[.agg (cq c).toArray, .int .i64 (k : Nat), .int .u64 (n : Nat)] w K := by
 apply G29_ok
 unfold G29
 obtain ⟨t, m, a⟩ := c
 simp only at hm ha
 have hc : cq ⟨t, m, a⟩ = cpC t m a := rfl
 rw [hc]
 simp (disch := first | exact qD18 | fail) only [qG4, cpC_sub]
 have hx0 : Ext [] w (w.alloc (.cells (cpC t m a).toArray 24)) := Ext.alloc Ext.refl _ _
 refine of_spec hm ha fun w1 hx1 => ?_
 have g3 : w1.heap[w.heap.size]? = some (.cells (cpC t m a).toArray 24 (0, 0)) := hx1.at (alloc_at rfl) (by simp)
 replace hx0 := hx0.trans hx1 (by simp)
 have l7 : (lvC t m a)[7]? = some (.bool (t && rightM m a)) := rfl
 have l5 : (lvC t m a)[5]? = some (.int .u64 (m / 4294967296 % 512 : Nat)) := rfl
 have l3 : (lvC t m a)[3]? = some (.int .u64 (spB (spM m a) : Nat)) := rfl
 have l4 : (lvC t m a)[4]? = some (.int .u64 (spT (spM m a) : Nat)) := rfl
 have c2 : (cpC t m a)[2]? = some (.int .u64 (a : Nat)) := rfl
 have lg3 := lt_of_at g3
 have hxe : Ext [] w1 (w1.alloc (.cells (lvC t m a).toArray 121)) := Ext.alloc Ext.refl _ _
 cases hl : (t && rightM m a) with
 | false =>
  rw [hl] at l7
  simp (disch := first | exact qD18 | fail) only [qG4, lv_over, lv_over2, l7, Bool.not_false]
  exact hK 1 _ qX
 | true =>
  rw [hl] at l7
  simp (disch := first | exact qD18 | fail) only [qG4, lv_over, lv_over2, l7, Bool.not_true, lvC_sub]
  refine open_spec fun w2 hx2 => ?_
  have g7 : w2.heap[w1.heap.size]? = some (.cells (lvC t m a).toArray 121 (0, 0)) := hx2.at (alloc_at rfl) (by simp)
  have hx3 := hxe.trans hx2 (by simp)
  replace g3 := hx3.at g3 (by simp)
  replace hx0 := hx0.trans hx3 (by simp)
  cases openM t m a with
  | false =>
   simp (disch := first | exact qD18 | fail) only [qG4, Bool.not_false]
   exact hK 2 _ qX
  | true =>
   simp (disch := first | exact qD18 | fail) only [qG4, Bool.not_true]
   refine need_still hk ?_
   simp (disch := first | exact qD18 | fail) only [qG4, Nat.reduceAdd, g7, l5]
   have hnd : needN k < 18446744073709551616 := by unfold needN; split <;> first | decide | (split <;> first | decide | (split <;> first | decide | (split <;> first | decide | (split <;> decide))))
   refine pw_still hnd (by omega) ?_
   cases pwN (needN k) (m / 4294967296 % 512) with
   | false =>
    simp (disch := first | exact qD18 | fail) only [qG4, Bool.not_false]
    exact hK 3 _ qX
   | true =>
    simp (disch := first | exact qD18 | fail) only [qG4, Nat.reduceAdd, Bool.not_true, g3, g7, c2, l3, l4]
    refine InG_spec fun r => ?_
    cases r with
    | false =>
     simp (disch := first | exact qD18 | fail) only [qG4, Bool.not_false]
     exact hK 4 _ qX
    | true =>
     simp (disch := first | exact qD18 | fail) only [qG4, Bool.not_true]
     exact hK 0 _ qX
open Go.Fx
set_option maxRecDepth 100000
/-- numbers that fit. -/
def Okq (c : Cq) : Prop := c.m < 18446744073709551616 /\ c.a < 18446744073709551616
theorem lq_0 (t : Bool) (m a : Nat) : sub (lvC t m a) 0 3 = cq ⟨t, m, a⟩ := rfl
theorem lq_1 (t : Bool) (m a : Nat) : (lvC t m a)[1]? = some (.int .u64 (m : Nat)) := rfl
theorem lq_2 (t : Bool) (m a : Nat) : (lvC t m a)[2]? = some (.int .u64 (a : Nat)) := rfl
theorem lq_3 (t : Bool) (m a : Nat) : (lvC t m a)[3]? = some (.int .u64 (spB (spM m a) : Nat)) := rfl
theorem lq_4 (t : Bool) (m a : Nat) : (lvC t m a)[4]? = some (.int .u64 (spT (spM m a) : Nat)) := rfl
theorem lq_5 (t : Bool) (m a : Nat) : (lvC t m a)[5]? = some (.int .u64 (m / 4294967296 % 512 : Nat)) := rfl
theorem lq_6 (t : Bool) (m a : Nat) : (lvC t m a)[6]? = some (.int .u64 (m / 281474976710656 % 4096 : Nat)) := rfl
theorem lq_7 (t : Bool) (m a : Nat) : (lvC t m a)[7]? = some (.bool (t && rightM m a)) := rfl
theorem cq_1 (c : Cq) : (cq c)[1]? = some (.int .u64 (c.m : Nat)) := rfl
theorem cq_2 (c : Cq) : (cq c)[2]? = some (.int .u64 (c.a : Nat)) := rfl
theorem ofq_spec {w : World} {c : Cq} (hc : Okq c) {K : Value -> World -> Prop} (hK : ∀ w', Ext [] w w' -> K (.agg (lvC c.t c.m c.a).toArray) w') : callsK Tryz.prog 45 #[.agg (cq c).toArray] w K := of_spec hc.1 hc.2 hK
theorem clearq_spec {w : World} {c : Cq} {K : Value -> World -> Prop} (hK : ∀ w', Ext [] w w' -> K (.agg (cq ⟨false, c.m, c.a⟩).toArray) w') : callsK Tryz.prog 87 #[.agg (cq c).toArray] w K := Clear_spec (t := c.t) (m := c.m) (a := c.a) hK
theorem typedG_spec {w : World} {t : Bool} {m a : Nat} {b : Bool} {k : Int} (hm : m < 18446744073709551616) (ha : a < 18446744073709551616) {K : Value -> World -> Prop} (hK : ∀ (x : Cq) w', Okq x -> Ext [] w w' -> K (.agg (cq x).toArray) w') : callsK Tryz.prog 46 #[.agg (lvC t m a).toArray, .bool b, .int .u64 k] w K := by
 apply F46_ok
 unfold F46
 have hx0 : Ext [] w ((w.alloc (.cells (lvC t m a).toArray 121)).alloc (.cells [.bool false, .int .u64 0, .int .u64 0].toArray 24)) := qX
 have g2 : ((w.alloc (.cells (lvC t m a).toArray 121)).alloc (.cells [.bool false, .int .u64 0, .int .u64 0].toArray 24)).heap[w.heap.size + 1]? = some (.cells [.bool false, .int .u64 0, .int .u64 0].toArray 24 (0, 0)) := alloc_at (by simp only [szR])
 cases b with
 | false =>
  simp (disch := first | exact qD18 | fail) only [qG4, lvC_sub, Bool.not_false, lq_0]
  refine clearq_spec (c := ⟨t, m, a⟩) fun w1 hx1 => ?_
  replace g2 := hx1.at g2 (by simp)
  replace hx0 := hx0.trans hx1 (by simp)
  have lg := lt_of_at g2
  simp (disch := first | exact qD18 | fail) only [qG4, g2, cq_over0, cq_put, cq_sub]
  exact hK ⟨false, m, a⟩ _ ⟨hm, ha⟩ qX
 | true =>
  obtain ⟨M, hM, hMl⟩ := natOf (bitU .xor (m : Int) (IntKind.u64.wrap (bitI .xor .u64 (m / 281474976710656 % 4096 : Nat) k * 2 ^ 48)) (.inr (.inr (.inl rfl))))
  have l3 : ∀ v, sub ((lvC t m a).set 1 (.int .u64 v)) 0 3 = [.bool t, .int .u64 v, .int .u64 (a : Nat)] := fun v => rfl
  have l4 : ∀ v, ((lvC t m a).set 1 (.int .u64 v)).length = 8 := fun v => rfl
  simp (disch := first | exact qD18 | fail) only [qG4, Nat.reduceAdd, Int.reduceToNat, lvC_sub, Bool.not_true, lq_1, lq_6, hM, l3, l4]
  exact hK ⟨t, M, a⟩ _ ⟨hMl, ha⟩ qX
def hasM (t : Bool) (m a p : Nat) : Bool := openM t m a && pwN p (m / 4294967296 % 512) && decide (spB (spM m a) <= a) && decide (a < spT (spM m a))
theorem hasM_spec {w : World} {t : Bool} {m a p : Nat} (hp : p < 18446744073709551616) {K : Value -> World -> Prop} (hK : ∀ w', Ext [] w w' -> K (.bool (hasM t m a p)) w') : callsK Tryz.prog 115 #[.agg (lvC t m a).toArray, .int .u64 (p : Nat)] w K := by
 apply F115_ok
 unfold F115
 unfold hasM at hK
 simp (disch := first | exact qD18 | fail) only [qG4, lvC_sub]
 have hx0 : Ext [] w (w.alloc (.cells (lvC t m a).toArray 121)) := qX
 refine open_spec fun w1 hx1 => ?_
 have g1 : w1.heap[w.heap.size]? = some (.cells (lvC t m a).toArray 121 (0, 0)) := hx1.at (alloc_at rfl) (by simp)
 replace hx0 := hx0.trans hx1 (by simp)
 cases ho : openM t m a with
 | false =>
  rw [ho] at hK
  simp (disch := first | exact qD18 | fail) only [qG4, joinBR, if_false, if_true]
  exact hK _ hx0
 | true =>
 rw [ho] at hK
 simp (disch := first | exact qD18 | fail) only [qG4, Nat.reduceAdd, joinBR, if_true, g1, lq_5]
 refine pw_spec hp (by omega) ?_
 cases hpw : pwN p (m / 4294967296 % 512) with
 | false =>
  rw [hpw] at hK
  simp (disch := first | exact qD18 | fail) only [qG4, joinBR, if_false, if_true]
  exact hK _ hx0
 | true =>
 rw [hpw] at hK
 by_cases h1 : spB (spM m a) <= a
 ·by_cases h2 : a < spT (spM m a)
  ·rw [decide_eq_true h1, decide_eq_true h2] at hK
   simp (disch := first | exact qD18 | fail) only [qG4, Nat.reduceAdd, joinBR, if_true, g1, lq_2, lq_3, lq_4]
   exact hK _ hx0
  ·rw [decide_eq_true h1, decide_eq_false h2] at hK
   simp (disch := first | exact qD18 | fail) only [qG4, Nat.reduceAdd, joinBR, if_true, g1, lq_2, lq_3, lq_4]
   exact hK _ hx0
 ·rw [decide_eq_false h1] at hK
  simp (disch := first | exact qD18 | fail) only [qG4, joinBR, if_true, if_false, g1, lq_2, lq_3, lq_4]
  exact hK _ hx0
open Go.Fx
set_option maxRecDepth 100000
theorem EnterG_spec {w : World} {c : Cq} (hc : Okq c) {K : Value -> World -> Prop} (hK : ∀ (x : Cq) w', Okq x -> Ext [] w w' -> K (.agg (cq x).toArray) w') : callsK Tryz.prog 75 #[.agg (cq c).toArray] w K := by
 apply F75_ok
 unfold F75
 simp (disch := first | exact qD18 | fail) only [qG4, cq_sub]
 have hx0 : Ext [] w ((w.alloc (.cells (cq c).toArray 24)).alloc (.cells [.bool false, .int .u64 0, .int .u64 0].toArray 24)) := qX
 have g1 : ((w.alloc (.cells (cq c).toArray 24)).alloc (.cells [.bool false, .int .u64 0, .int .u64 0].toArray 24)).heap[w.heap.size + 1]? = some (.cells [.bool false, .int .u64 0, .int .u64 0].toArray 24 (0, 0)) := alloc_at (by simp only [szR])
 refine ofq_spec hc fun w1 hx1 => ?_
 have hxa := hx0.trans hx1 (by simp)
 replace g1 := hx1.at g1 (by simp)
 have lg1 := lt_of_at g1
 obtain ⟨t, m, a⟩ := c
 obtain ⟨hm, ha⟩ := hc
 simp only at hm ha hx0 hx1 hxa g1
 simp (disch := first | exact qD18 | fail) only [qG4, lv_over, lv_over2]
 have hx2 : Ext [] w1 (w1.alloc (.cells (lvC t m a).toArray 121)).drew := qX
 have g3 : (w1.alloc (.cells (lvC t m a).toArray 121)).drew.heap[w1.heap.size]? = some (.cells (lvC t m a).toArray 121 (0, 0)) := alloc_at rfl
 replace g1 := hx2.at g1 (by simp)
 replace hxa := hxa.trans hx2 (by simp)
 generalize w1.heap.size = b3 at *
 generalize (w1.alloc (.cells (lvC t m a).toArray 121)).drew = w2 at *
 have l5 := lq_5 t m a
 cases ho : openM t m a with
 | true =>
  cases h5 : pwN 4 (m / 4294967296 % 512) with
  | true =>
   refine relX.ext [] ?_
   (repeat (apply postX.is; (focus (intro v w2 hR hd; have e0 := hR.at g3 (by simp); (try simp (disch := first | exact qD18 | fail) only [qG4, hd, e0, lvC_sub]); exact okX.is))))
   apply postX.is
   ·intro v w5 hR hd
    simp (disch := first | exact qD18 | fail) only [qG4, hd]
    exact open_spec (t := t) (m := m) (a := a) fun w6 hx6 => okX.mk hx6 (by rw [ho])
   (repeat (apply postX.is; (focus (intro v w2 hR hd; have e0 := hR.at g3 (by simp); (try simp (disch := first | exact qD18 | fail) only [qG4, Nat.reduceAdd, hd, e0, lvC_sub, l5]); exact okX.is))))
   apply postX.is
   ·intro v w5 hR hd
    simp (disch := first | exact qD18 | fail) only [qG4, hd]
    exact pw_spec (p := 4) (q := m / 4294967296 % 512) (by decide) (by omega) (okX.mk Ext.refl (by rw [h5]))
   (repeat (apply postX.is; (focus (intro v w2 hR hd; (try simp (disch := first | exact qD18 | fail) only [qG4, hd, if_true]); exact okX.is))))
   intro v w5 hR hd _
   simp (disch := first | exact qD18 | fail) only [qG4, hd]
   refine typedG_spec (t := t) (m := m) (a := a) hm ha fun x w6 hx hx6 => ?_
   replace g1 := (hR.trans hx6 (by simp)).at g1 (by simp)
   have lg2 := lt_of_at g1
   have hxz := (hxa.trans hR (by simp)).trans hx6 (by simp)
   simp (disch := first | exact qD18 | fail) only [qG4, g1, cq_over0, cq_put, cq_sub]
   exact hK _ _ hx qX
  | false =>
   refine relX.ext [] ?_
   (repeat (apply postX.is; (focus (intro v w2 hR hd; have e0 := hR.at g3 (by simp); (try simp (disch := first | exact qD18 | fail) only [qG4, hd, e0, lvC_sub]); exact okX.is))))
   apply postX.is
   ·intro v w5 hR hd
    simp (disch := first | exact qD18 | fail) only [qG4, hd]
    exact open_spec (t := t) (m := m) (a := a) fun w6 hx6 => okX.mk hx6 (by rw [ho])
   (repeat (apply postX.is; (focus (intro v w2 hR hd; have e0 := hR.at g3 (by simp); (try simp (disch := first | exact qD18 | fail) only [qG4, Nat.reduceAdd, hd, e0, lvC_sub, l5]); exact okX.is))))
   apply postX.is
   ·intro v w5 hR hd
    simp (disch := first | exact qD18 | fail) only [qG4, hd]
    exact pw_spec (p := 4) (q := m / 4294967296 % 512) (by decide) (by omega) (okX.mk Ext.refl (by rw [h5]))
   (repeat (apply postX.is; (focus (intro v w2 hR hd; (try simp (disch := first | exact qD18 | fail) only [qG4, hd, if_true]); exact okX.is))))
   intro v w5 hR hd _
   simp (disch := first | exact qD18 | fail) only [qG4, hd]
   refine typedG_spec (t := t) (m := m) (a := a) hm ha fun x w6 hx hx6 => ?_
   replace g1 := (hR.trans hx6 (by simp)).at g1 (by simp)
   have lg2 := lt_of_at g1
   have hxz := (hxa.trans hR (by simp)).trans hx6 (by simp)
   simp (disch := first | exact qD18 | fail) only [qG4, g1, cq_over0, cq_put, cq_sub]
   exact hK _ _ hx qX
 | false =>
  refine relX.ext [] ?_
  (repeat (apply postX.is; (focus (intro v w2 hR hd; have e0 := hR.at g3 (by simp); (try simp (disch := first | exact qD18 | fail) only [qG4, hd, e0, lvC_sub]); exact okX.is))))
  apply postX.is
  ·intro v w5 hR hd
   simp (disch := first | exact qD18 | fail) only [qG4, hd]
   exact open_spec (t := t) (m := m) (a := a) fun w6 hx6 => okX.mk hx6 (by rw [ho])
  (repeat (apply postX.is; (focus (intro v w2 hR hd; have e0 := hR.at g3 (by simp); (try simp (disch := first | exact qD18 | fail) only [qG4, hd, e0, lvC_sub, l5, if_false]); exact okX.is))))
  (repeat (apply postX.is; (focus (intro v w2 hR hd; (try simp (disch := first | exact qD18 | fail) only [qG4, Nat.reduceAdd, Nat.reduceLeDiff, Int.reduceToNat, Int.reduceAdd, Int.reduceSub, Int.reduceLT, Int.reduceLE, Nat.reduceSub, Nat.reduceMul, Nat.reduceEqDiff, hd, if_false, if_true]); exact okX.is))))
  intro v w5 hR hd _
  simp (disch := first | exact qD18 | fail) only [qG4, hd]
  refine typedG_spec (t := t) (m := m) (a := a) hm ha fun x w6 hx hx6 => ?_
  replace g1 := (hR.trans hx6 (by simp)).at g1 (by simp)
  have lg2 := lt_of_at g1
  have hxz := (hxa.trans hR (by simp)).trans hx6 (by simp)
  simp (disch := first | exact qD18 | fail) only [qG4, g1, cq_over0, cq_put, cq_sub]
  exact hK _ _ hx qX
theorem OpenG_spec {w : World} {c : Cq} (hc : Okq c) {K : Value -> World -> Prop} (hK : ∀ (x : Cq) w', Okq x -> Ext [] w w' -> K (.agg (cq x).toArray) w') : callsK Tryz.prog 17 #[.agg (cq c).toArray] w K := by
 apply F17_ok
 unfold F17
 simp (disch := first | exact qD18 | fail) only [qG4, cq_sub]
 have hx0 : Ext [] w ((w.alloc (.cells (cq c).toArray 24)).alloc (.cells [.bool false, .int .u64 0, .int .u64 0].toArray 24)) := qX
 have g1 : ((w.alloc (.cells (cq c).toArray 24)).alloc (.cells [.bool false, .int .u64 0, .int .u64 0].toArray 24)).heap[w.heap.size + 1]? = some (.cells [.bool false, .int .u64 0, .int .u64 0].toArray 24 (0, 0)) := alloc_at (by simp only [szR])
 have g0 : ((w.alloc (.cells (cq c).toArray 24)).alloc (.cells [.bool false, .int .u64 0, .int .u64 0].toArray 24)).heap[w.heap.size]? = some (.cells (cq c).toArray 24 (0, 0)) := (alloc_ne (by simp only [szR]; omega)).trans (alloc_at rfl)
 refine ofq_spec hc fun w1 hx1 => ?_
 have hxa := hx0.trans hx1 (by simp)
 replace g1 := hx1.at g1 (by simp)
 replace g0 := hx1.at g0 (by simp)
 have lg1 := lt_of_at g1
 have lg0 := lt_of_at g0
 obtain ⟨t, m, a⟩ := c
 obtain ⟨hm, ha⟩ := hc
 simp only at hm ha hx0 hx1 hxa g1 g0
 have l6 := lq_6 t m a
 have l7 := lq_7 t m a
 cases hr : (t && rightM m a) with
 | false =>
  rw [hr] at l7
  simp (disch := first | exact qD18 | fail) only [qG4, joinBR, lv_over, lv_over2, l6, l7, g0, g1, cq_over0, cq_put, cq_sub, Bool.not_false, Bool.and_self, if_true, lvC_sub]
  exact hK ⟨t, m, a⟩ _ ⟨hm, ha⟩ qX
 | true =>
  rw [hr] at l7
  by_cases h6 : m / 281474976710656 % 4096 = 1
  ·rw [h6] at l6
   simp (disch := first | exact qD18 | fail) only [qG4, Nat.reduceAdd, joinBR, lv_over, lv_over2, l6, l7, Bool.not_true, Bool.and_self, if_true, lvC_sub]
   refine typedG_spec (t := t) (m := m) (a := a) hm ha fun x w6 hx hx6 => ?_
   have hx2 : Ext [] w1 w6 := Ext.trans (S := []) qX hx6 (by simp)
   replace g1 := hx2.at g1 (by simp)
   have lg2 := lt_of_at g1
   have hxz := hxa.trans hx2 (by simp)
   simp (disch := first | exact qD18 | fail) only [qG4, g1, cq_over0, cq_put, cq_sub]
   exact hK _ _ hx qX
  ·have hn : ¬ (((m / 281474976710656 % 4096 : Nat) : Int) = 1) := by omega
   simp (disch := first | exact qD18 | fail) only [qG4, Nat.reduceAdd, joinBR, lv_over, lv_over2, l6, l7, hn, g0, g1, cq_over0, cq_put, cq_sub, Bool.not_true, Bool.and_self, if_true, lvC_sub]
   exact hK ⟨t, m, a⟩ _ ⟨hm, ha⟩ qX
open Go.Fx
set_option maxRecDepth 100000
theorem lookq_spec {w : World} {c : Cq} (hc : Okq c) {K : Value -> World -> Prop} (hK : ∀ w', Ext [] w w' -> K (.tuple #[.agg (vwC c.m c.a).toArray, .bool (spM c.m c.a).isSome]) w') : callsK Tryz.prog 15 #[.agg (cq c).toArray] w K := Look_spec hc.1 hc.2 hK
theorem rightq_spec {w : World} {c : Cq} (hc : Okq c) {K : Value -> World -> Prop} (hK : ∀ w', Ext [] w w' -> K (.bool (rightM c.m c.a)) w') : callsK Tryz.prog 86 #[.agg (cq c).toArray] w K := Right_spec hc.1 hc.2 hK
theorem vq_0 (m a : Nat) : (vwC m a)[0]? = some (.int .u64 (spB (spM m a) : Nat)) := rfl
theorem vq_1 (m a : Nat) : (vwC m a)[1]? = some (.int .u64 (spT (spM m a) : Nat)) := rfl
theorem vq_2 (m a : Nat) : (vwC m a)[2]? = some (.int .u64 (m / 4294967296 % 512 : Nat)) := rfl
theorem vq_3 (m a : Nat) : (vwC m a)[3]? = some (.int .u64 (m / 281474976710656 % 4096 : Nat)) := rfl
theorem WithinG_spec {w : World} {c d : Cq} (hc : Okq c) (hd : Okq d) {K : Value -> World -> Prop} (hK : ∀ o w', Ext [] w w' -> K (.bool o) w') : callsK Tryz.prog 116 #[.agg (cq c).toArray, .agg (cq d).toArray] w K := by
 apply F116_ok
 unfold F116
 simp (disch := first | exact qD18 | fail) only [qG4, cq_sub]
 have hx0 : Ext [] w ((w.alloc (.cells (cq c).toArray 24)).alloc (.cells (cq d).toArray 24)) := qX
 have g1 : ((w.alloc (.cells (cq c).toArray 24)).alloc (.cells (cq d).toArray 24)).heap[w.heap.size]? = some (.cells (cq c).toArray 24 (0, 0)) := (alloc_ne (by simp only [szR]; omega)).trans (alloc_at rfl)
 have g2 : ((w.alloc (.cells (cq c).toArray 24)).alloc (.cells (cq d).toArray 24)).heap[w.heap.size + 1]? = some (.cells (cq d).toArray 24 (0, 0)) := alloc_at (by simp only [szR])
 refine lookq_spec hc fun w1 hx1 => ?_
 replace g1 := hx1.at g1 (by simp)
 replace g2 := hx1.at g2 (by simp)
 replace hx0 := hx0.trans hx1 (by simp)
 have lg2 := lt_of_at g2
 simp (disch := first | exact qD18 | fail) only [qG4, vw_over, vw_over2, g2, cq_sub]
 have hxe : Ext [] w1 (w1.alloc (.cells (vwC c.m c.a).toArray 28)) := qX
 refine lookq_spec hd fun w2 hx2 => ?_
 have g3 : w2.heap[w1.heap.size]? = some (.cells (vwC c.m c.a).toArray 28 (0, 0)) := hx2.at (alloc_at rfl) (by simp)
 have hx3 := hxe.trans hx2 (by simp)
 replace g1 := hx3.at g1 (by simp)
 replace g2 := hx3.at g2 (by simp)
 replace hx0 := hx0.trans hx3 (by simp)
 have lg1 := lt_of_at g1
 have lg3 := lt_of_at g3
 simp (disch := first | exact qD18 | fail) only [qG4, vw_over, vw_over2, g1, cq_sub]
 have hxf : Ext [] w2 (w2.alloc (.cells (vwC d.m d.a).toArray 28)) := qX
 refine rightq_spec hc fun w3 hx4 => ?_
 have g4 : w3.heap[w2.heap.size]? = some (.cells (vwC d.m d.a).toArray 28 (0, 0)) := hx4.at (alloc_at rfl) (by simp)
 have hx5 := hxf.trans hx4 (by simp)
 replace g2 := hx5.at g2 (by simp)
 replace g3 := hx5.at g3 (by simp)
 replace hx0 := hx0.trans hx5 (by simp)
 cases rightM c.m c.a with
 | false =>
  simp (disch := first | exact qD18 | fail) only [qG4, joinBR, if_false, if_true]
  exact hK _ _ hx0
 | true =>
 simp (disch := first | exact qD18 | fail) only [qG4, joinBR, if_true, g2, cq_sub]
 refine rightq_spec hd fun w4 hx6 => ?_
 replace g3 := hx6.at g3 (by simp)
 replace g4 := hx6.at g4 (by simp)
 replace hx0 := hx0.trans hx6 (by simp)
 cases rightM d.m d.a with
 | false =>
  simp (disch := first | exact qD18 | fail) only [qG4, joinBR, if_false, if_true]
  exact hK _ _ hx0
 | true =>
 by_cases h1 : spB (spM d.m d.a) <= spB (spM c.m c.a)
 ·by_cases h2 : spT (spM c.m c.a) <= spT (spM d.m d.a)
  ·simp (disch := first | exact qD18 | fail) only [qG4, joinBR, if_true, g3, g4, vq_0, vq_1, vq_2]
   refine pw_spec (by omega) (by omega) ?_
   simp (disch := first | exact qD18 | fail) only [qG4, joinBR]
   exact hK _ _ hx0
  ·simp (disch := first | exact qD18 | fail) only [qG4, joinBR, if_true, if_false, g3, g4, vq_0, vq_1, vq_2]
   exact hK _ _ hx0
 ·simp (disch := first | exact qD18 | fail) only [qG4, joinBR, if_true, if_false, g3, g4, vq_0, vq_1, vq_2]
  exact hK _ _ hx0
theorem UnderG_spec {w : World} {c d : Cq} (hc : Okq c) (hd : Okq d) {K : Value -> World -> Prop} (hK : ∀ o w', Ext [] w w' -> K (.bool o) w') : callsK Tryz.prog 118 #[.agg (cq c).toArray, .agg (cq d).toArray] w K := by
 apply F118_ok
 unfold F118
 have q0 : ∀ c : Cq, (cq c)[0]? = some (.bool c.t) := fun c => rfl
 have hx0 : Ext [] w ((w.alloc (.cells (cq c).toArray 24)).alloc (.cells (cq d).toArray 24)) := qX
 cases ht : (c.t == d.t) with
 | false =>
  simp (disch := first | exact qD18 | fail) only [qG4, joinBR, q0, ht, if_false]
  exact hK _ _ hx0
 | true =>
  simp (disch := first | exact qD18 | fail) only [qG4, joinBR, q0, ht, if_true, cq_sub]
  refine WithinG_spec hc hd fun o w1 hx1 => ?_
  simp (disch := first | exact qD18 | fail) only [qG4, joinBR]
  exact hK _ _ (hx0.trans hx1 (by simp))
theorem baseG_spec {w : World} {b t : Nat} {K : Value -> World -> Prop} (hK : ∀ w', Ext [] w w' -> K (.int .u64 (b : Nat)) w') : callsK Tryz.prog 126 #[.agg [.int .u64 (b : Nat), .int .u64 (t : Nat)].toArray] w K := by
 apply F126_ok
 unfold F126
 simp (disch := first | exact qD18 | fail) only [qG4]
 exact hK _ qX
theorem lengthE_spec {w : World} {b t : Nat} {K : Value -> World -> Prop} (hK : ∀ (n : Nat) w', n < 18446744073709551616 -> Ext [] w w' -> K (.int .u64 (n : Nat)) w') : callsK Tryz.prog 127 #[.agg [.int .u64 (b : Nat), .int .u64 (t : Nat)].toArray] w K := by
 apply F127_ok
 unfold F127
 obtain ⟨n, hn, hl⟩ := natOf (wrapU ((t : Nat) - (b : Nat) : Int))
 simp (disch := first | exact qD18 | fail) only [qG4, hn]
 exact hK n _ hl qX
open Go.Fx
set_option maxRecDepth 100000
/-- a method of a span's ends: a number, told by looking. -/
def EndF (f : FuncId) : Prop := (∀ (first cap args : List Value) (w : World) (K : Value -> World -> Prop), kN Tryz.prog (callN (.func (.func f) first.toArray cap.toArray) args.toArray) w K = callsK Tryz.prog f (first ++ args ++ cap).toArray w K) /\ ∀ (b t : Nat) (w : World) (K : Value -> World -> Prop), (∀ (n : Nat) w', Ext [] w w' -> K (.int .u64 (n : Nat)) w') -> callsK Tryz.prog f #[.agg [.int .u64 (b : Nat), .int .u64 (t : Nat)].toArray] w K
theorem told1_spec {f : FuncId} (hf : EndF f) {w : World} {p b t : Nat} {fl : Nat × Nat} (hp : w.heap[p]? = some (.cells [Value.func (.func f) #[] #[]].toArray 210 fl)) {K : Value -> World -> Prop} (hK : ∀ (n : Nat) w', Ext [] w w' -> K (.int .u64 (n : Nat)) w') : callsK Tryz.prog 130 #[.agg [.int .u64 (b : Nat), .int .u64 (t : Nat)].toArray, .pointer (some ⟨p, 0, none⟩)] w K := by
 apply F130_ok
 unfold F130
 have lp := lt_of_at hp
 simp (disch := first | exact qD18 | fail) only [qG4, hp]
 have hx0 : Ext [] w (w.alloc (.cells [.int .u64 (b : Nat), .int .u64 (t : Nat)].toArray 26)) := qX
 have e := hf.1 [] [] [Value.agg [.int .u64 (b : Nat), .int .u64 (t : Nat)].toArray] (w.alloc (.cells [.int .u64 (b : Nat), .int .u64 (t : Nat)].toArray 26)) K
 simp (disch := first | exact qD18 | fail) only [qG4, e]
 exact hf.2 b t _ _ fun n w' hx => hK n w' (hx0.trans hx (by simp))
theorem seen_spec {f : FuncId} (hf : EndF f) {w : World} {c : Cq} (hc : Okq c) {p : Nat} {fl : Nat × Nat} (hp : w.heap[p]? = some (.cells [Value.func (.func f) #[] #[]].toArray 210 fl)) {K : Value -> World -> Prop} (hK : ∀ (n : Nat) w', Ext [] w w' -> K (.int .u64 (n : Nat)) w') : callsK Tryz.prog 129 #[.agg (cq c).toArray, .func (.func 130) #[] #[.pointer (some ⟨p, 0, none⟩)]] w K := by
 apply F129_ok
 unfold F129
 simp (disch := first | exact qD18 | fail) only [qG4, cq_sub]
 have hx0 : Ext [] w (w.alloc (.cells (cq c).toArray 24)) := qX
 refine lookq_spec hc fun w1 hx1 => ?_
 replace hx0 := hx0.trans hx1 (by simp)
 replace hp := hx0.at hp (by simp)
 have hs : sub (vwC c.m c.a) 0 2 = [.int .u64 (spB (spM c.m c.a) : Nat), .int .u64 (spT (spM c.m c.a) : Nat)] := rfl
 simp (disch := first | exact qD18 | fail) only [qG4, vw_over, vw_over2, hs]
 have hx2 : Ext [] w1 (w1.alloc (.cells (vwC c.m c.a).toArray 28)) := qX
 replace hp := hx2.at hp (by simp)
 replace hx0 := hx0.trans hx2 (by simp)
 refine told1_spec hf hp fun n w2 hx3 => ?_
 exact hK n _ (hx0.trans hx3 (by simp))
theorem told_spec {f : FuncId} (hf : EndF f) {w : World} {c : Cq} (hc : Okq c) {K : Value -> World -> Prop} (hK : ∀ (n : Nat) w', Ext [] w w' -> K (.int .u64 (n : Nat)) w') : callsK Tryz.prog 125 #[.agg (cq c).toArray, .func (.func f) #[] #[]] w K := by
 apply F125_ok
 unfold F125
 simp (disch := first | exact qD18 | fail) only [qG4, cq_sub]
 have hx0 : Ext [] w ((w.alloc (.cells (cq c).toArray 24)).alloc (.cells [Value.func (.func f) #[] #[]].toArray 210)) := qX
 have hp : ((w.alloc (.cells (cq c).toArray 24)).alloc (.cells [Value.func (.func f) #[] #[]].toArray 210)).heap[w.heap.size + 1]? = some (.cells [Value.func (.func f) #[] #[]].toArray 210 (0, 0)) := alloc_at (by simp only [szR])
 refine seen_spec hf hc hp fun n w2 hx3 => ?_
 exact hK n _ (hx0.trans hx3 (by simp))
theorem BaseG_spec {w : World} {c : Cq} (hc : Okq c) {K : Value -> World -> Prop} (hK : ∀ (n : Nat) w', Ext [] w w' -> K (.int .u64 (n : Nat)) w') : callsK Tryz.prog 119 #[.agg (cq c).toArray] w K := by
 apply F119_ok
 unfold F119
 simp (disch := first | exact qD18 | fail) only [qG4, cq_sub]
 have hx0 : Ext [] w (w.alloc (.cells (cq c).toArray 24)) := qX
 refine told_spec ⟨RN_call_126, fun b t w K hK => baseG_spec fun w' hx => hK b w' hx⟩ hc fun n w2 hx3 => hK n _ (hx0.trans hx3 (by simp))
theorem LengthG_spec {w : World} {c : Cq} (hc : Okq c) {K : Value -> World -> Prop} (hK : ∀ (n : Nat) w', Ext [] w w' -> K (.int .u64 (n : Nat)) w') : callsK Tryz.prog 120 #[.agg (cq c).toArray] w K := by
 apply F120_ok
 unfold F120
 simp (disch := first | exact qD18 | fail) only [qG4, cq_sub]
 have hx0 : Ext [] w (w.alloc (.cells (cq c).toArray 24)) := qX
 refine told_spec ⟨RN_call_127, fun b t w K hK => lengthE_spec fun n w' _ hx => hK n w' hx⟩ hc fun n w2 hx3 => hK n _ (hx0.trans hx3 (by simp))
theorem OffsetG_spec {w : World} {c : Cq} (hc : Okq c) {K : Value -> World -> Prop} (hK : ∀ (n : Nat) w', Ext [] w w' -> K (.int .u64 (n : Nat)) w') : callsK Tryz.prog 121 #[.agg (cq c).toArray] w K := by
 apply F121_ok
 unfold F121
 simp (disch := first | exact qD18 | fail) only [qG4, cq_sub]
 have g3 : (w.alloc (.cells (cq c).toArray 24)).drew.heap[w.heap.size]? = some (.cells (cq c).toArray 24 (0, 0)) := alloc_at rfl
 have hx0 : Ext [] w (w.alloc (.cells (cq c).toArray 24)).drew := qX
 refine relX.ext [] ?_
 (repeat (apply postX.is; (focus (intro v w2 hR hd; have e0 := hR.at g3 (by simp); (try simp (disch := first | exact qD18 | fail) only [qG4, hd, e0, cq_sub, cq_2]); exact okX.is))))
 refine postX.intro (fun v _ => ∃ n : Nat, v = .int .u64 (n : Nat)) (fun _ _ _ _ h => h) ?_ ?_
 ·intro v w5 hR hd
  simp (disch := first | exact qD18 | fail) only [qG4, hd]
  exact BaseG_spec hc fun n w6 hx6 => okX.mk hx6 ⟨n, rfl⟩
 intro v w5 hR hd _
 refine Exists.elim hd.2.2.2.1 fun n h6 => ?_
 have h4 := hd.2.1
 refine Exists.elim (natOf (wrapU ((c.a : Nat) - (n : Nat) : Int))) fun r hr => ?_
 simp (disch := first | exact qD18 | fail) only [qG4, h4, h6, hr.1]
 exact hK r _ (hx0.trans hR (by simp))
open Go.Fx
set_option maxRecDepth 100000
theorem hasq_spec {w : World} {t : Bool} {m a p : Nat} {b : Bool} (hb : hasM t m a p = b) (hp : p < 18446744073709551616) {K : Value -> World -> Prop} (hK : ∀ w', Ext [] w w' -> K (.bool b) w') : callsK Tryz.prog 115 #[.agg (lvC t m a).toArray, .int .u64 (p : Nat)] w K := by
 subst hb
 exact hasM_spec hp hK
theorem openb_spec {w : World} {t : Bool} {m a : Nat} {b : Bool} (hb : openM t m a = b) {K : Value -> World -> Prop} (hK : ∀ w', Ext [] w w' -> K (.bool b) w') : callsK Tryz.prog 64 #[.agg (lvC t m a).toArray] w K := by
 subst hb
 exact open_spec hK
theorem SealG_spec {w : World} {c d : Cq} (hc : Okq c) (hdq : Okq d) {K : Value -> World -> Prop} (hK : ∀ (x : Cq) w', Ext [] w w' -> K (.agg (cq x).toArray) w') : callsK Tryz.prog 104 #[.agg (cq c).toArray, .agg (cq d).toArray] w K := by
 apply F104_ok
 unfold F104
 simp (disch := first | exact qD18 | fail) only [qG4, cq_sub]
 have hx0 : Ext [] w (((w.alloc (.cells (cq c).toArray 24)).alloc (.cells (cq d).toArray 24)).alloc (.cells [.bool false, .int .u64 0, .int .u64 0].toArray 24)) := qX
 have g1 : (((w.alloc (.cells (cq c).toArray 24)).alloc (.cells (cq d).toArray 24)).alloc (.cells [.bool false, .int .u64 0, .int .u64 0].toArray 24)).heap[w.heap.size + 1 + 1]? = some (.cells [.bool false, .int .u64 0, .int .u64 0].toArray 24 (0, 0)) := alloc_at (by simp only [szR])
 have g2 : (((w.alloc (.cells (cq c).toArray 24)).alloc (.cells (cq d).toArray 24)).alloc (.cells [.bool false, .int .u64 0, .int .u64 0].toArray 24)).heap[w.heap.size + 1]? = some (.cells (cq d).toArray 24 (0, 0)) := (alloc_ne (by simp only [szR]; omega)).trans (alloc_at (by simp only [szR]))
 refine ofq_spec hc fun w1 hx1 => ?_
 replace hx0 := hx0.trans hx1 (by simp)
 replace g1 := hx1.at g1 (by simp)
 replace g2 := hx1.at g2 (by simp)
 have lg1 := lt_of_at g1
 have lg2 := lt_of_at g2
 obtain ⟨t, m, a⟩ := c
 obtain ⟨hm, ha⟩ := hc
 simp only at hm ha hx0 hx1 g1 g2
 simp (disch := first | exact qD18 | fail) only [qG4, lv_over, lv_over2]
 have hx2 : Ext [] w1 (w1.alloc (.cells (lvC t m a).toArray 121)).drew := qX
 have g3 : (w1.alloc (.cells (lvC t m a).toArray 121)).drew.heap[w1.heap.size]? = some (.cells (lvC t m a).toArray 121 (0, 0)) := alloc_at rfl
 replace g1 := hx2.at g1 (by simp)
 replace g2 := hx2.at g2 (by simp)
 replace hx0 := hx0.trans hx2 (by simp)
 generalize w1.heap.size = b3 at *
 generalize (w1.alloc (.cells (lvC t m a).toArray 121)).drew = w2 at *
 cases ho : openM t m a with
 | false =>
  refine relX.ext [] ?_
  (repeat (apply postX.is; (focus (intro v w2 hR hd; have e0 := hR.at g3 (by simp); have e1 := hR.at g2 (by simp); (try simp (disch := first | exact qD18 | fail) only [qG4, hd, e0, e1, lvC_sub, cq_sub, cq_2, if_true, if_false]); exact okX.is))))
  apply postX.is
  ·intro v w5 hR hd
   simp (disch := first | exact qD18 | fail) only [qG4, hd]
   exact openb_spec ho fun w6 hx6 => okX.mk hx6 rfl
  (repeat (apply postX.is; (focus (intro v w2 hR hd; have e0 := hR.at g3 (by simp); have e1 := hR.at g2 (by simp); (try simp (disch := first | exact qD18 | fail) only [qG4, hd, e0, e1, lvC_sub, cq_sub, cq_2, if_true, if_false]); exact okX.is))))
  (repeat (apply postX.is; (focus (intro v w2 hR hd; have e0 := hR.at g3 (by simp); have e1 := hR.at g2 (by simp); (try simp (disch := first | exact qD18 | fail) only [qG4, Nat.reduceAdd, Nat.reduceLeDiff, Int.reduceToNat, Int.reduceAdd, Int.reduceSub, Int.reduceLT, Int.reduceLE, Nat.reduceSub, Nat.reduceMul, Nat.reduceEqDiff, hd, e0, e1, lvC_sub, cq_sub, cq_2, if_true, if_false]); exact okX.is))))
  refine postX.intro (fun v _ => ∃ x : Cq, v = .agg (cq x).toArray) (fun _ _ _ _ h => h) ?_ ?_
  ·intro v w5 hR hd
   simp (disch := first | exact qD18 | fail) only [qG4, hd]
   exact typedG_spec hm ha fun x w6 hx hx6 => okX.mk hx6 ⟨x, rfl⟩
  intro v w5 hR hd _
  refine Exists.elim hd.2.2.2.2.2.2.2.2.2.2.2.2.2.2.2.2.2.2.2.2.1 fun x h6 => ?_
  replace g1 := hR.at g1 (by simp)
  have lg2 := lt_of_at g1
  have hxz := hx0.trans hR (by simp)
  simp (disch := first | exact qD18 | fail) only [qG4, h6, g1, cq_over0, cq_put, cq_sub]
  exact hK x _ qX
 | true =>
 cases hh : hasM d.t d.m d.a 32 with
 | false =>
  refine relX.ext [] ?_
  (repeat (apply postX.is; (focus (intro v w2 hR hd; have e0 := hR.at g3 (by simp); have e1 := hR.at g2 (by simp); (try simp (disch := first | exact qD18 | fail) only [qG4, hd, e0, e1, lvC_sub, cq_sub, cq_2, if_true, if_false]); exact okX.is))))
  apply postX.is
  ·intro v w5 hR hd
   simp (disch := first | exact qD18 | fail) only [qG4, hd]
   exact openb_spec ho fun w6 hx6 => okX.mk hx6 rfl
  (repeat (apply postX.is; (focus (intro v w2 hR hd; have e0 := hR.at g3 (by simp); have e1 := hR.at g2 (by simp); (try simp (disch := first | exact qD18 | fail) only [qG4, hd, e0, e1, lvC_sub, cq_sub, cq_2, if_true, if_false]); exact okX.is))))
  apply postX.is
  ·intro v w5 hR hd
   simp (disch := first | exact qD18 | fail) only [qG4, hd, if_true]
   exact ofq_spec hdq fun w6 hx6 => okX.mk hx6 rfl
  apply postX.is
  ·intro v w5 hR hd
   simp (disch := first | exact qD18 | fail) only [qG4, hd, if_true]
   exact hasq_spec (p := 32) hh (by decide) fun w6 hx6 => okX.mk hx6 rfl
  (repeat (apply postX.is; (focus (intro v w2 hR hd; have e0 := hR.at g3 (by simp); have e1 := hR.at g2 (by simp); (try simp (disch := first | exact qD18 | fail) only [qG4, hd, e0, e1, lvC_sub, cq_sub, cq_2, if_true, if_false]); exact okX.is))))
  refine postX.intro (fun v _ => ∃ x : Cq, v = .agg (cq x).toArray) (fun _ _ _ _ h => h) ?_ ?_
  ·intro v w5 hR hd
   simp (disch := first | exact qD18 | fail) only [qG4, hd]
   exact typedG_spec hm ha fun x w6 hx hx6 => okX.mk hx6 ⟨x, rfl⟩
  intro v w5 hR hd _
  refine Exists.elim hd.2.2.2.2.2.2.2.2.2.2.2.2.2.2.2.2.2.2.2.2.1 fun x h6 => ?_
  replace g1 := hR.at g1 (by simp)
  have lg2 := lt_of_at g1
  have hxz := hx0.trans hR (by simp)
  simp (disch := first | exact qD18 | fail) only [qG4, h6, g1, cq_over0, cq_put, cq_sub]
  exact hK x _ qX
 | true =>
 by_cases lo : (16 : Int) <= (d.a : Nat)
 ·by_cases hi : ((d.a : Nat) : Int) <= 4095
  ·skip
   refine relX.ext [] ?_
   (repeat (apply postX.is; (focus (intro v w2 hR hd; have e0 := hR.at g3 (by simp); have e1 := hR.at g2 (by simp); (try simp (disch := first | exact qD18 | fail) only [qG4, hd, e0, e1, lvC_sub, cq_sub, cq_2, if_true, if_false, lo, hi]); exact okX.is))))
   apply postX.is
   ·intro v w5 hR hd
    simp (disch := first | exact qD18 | fail) only [qG4, hd]
    exact openb_spec ho fun w6 hx6 => okX.mk hx6 rfl
   (repeat (apply postX.is; (focus (intro v w2 hR hd; have e0 := hR.at g3 (by simp); have e1 := hR.at g2 (by simp); (try simp (disch := first | exact qD18 | fail) only [qG4, hd, e0, e1, lvC_sub, cq_sub, cq_2, if_true, if_false, lo, hi]); exact okX.is))))
   apply postX.is
   ·intro v w5 hR hd
    simp (disch := first | exact qD18 | fail) only [qG4, hd, if_true]
    exact ofq_spec hdq fun w6 hx6 => okX.mk hx6 rfl
   apply postX.is
   ·intro v w5 hR hd
    simp (disch := first | exact qD18 | fail) only [qG4, hd, if_true]
    exact hasq_spec (p := 32) hh (by decide) fun w6 hx6 => okX.mk hx6 rfl
   (repeat (apply postX.is; (focus (intro v w2 hR hd; have e0 := hR.at g3 (by simp); have e1 := hR.at g2 (by simp); (try simp (disch := first | exact qD18 | fail) only [qG4, hd, e0, e1, lvC_sub, cq_sub, cq_2, if_true, if_false, lo, hi]); exact okX.is))))
   refine postX.intro (fun v _ => ∃ x : Cq, v = .agg (cq x).toArray) (fun _ _ _ _ h => h) ?_ ?_
   ·intro v w5 hR hd
    simp (disch := first | exact qD18 | fail) only [qG4, hd]
    exact typedG_spec hm ha fun x w6 hx hx6 => okX.mk hx6 ⟨x, rfl⟩
   intro v w5 hR hd _
   refine Exists.elim hd.2.2.2.2.2.2.2.2.2.2.2.2.2.2.2.2.2.2.2.2.1 fun x h6 => ?_
   replace g1 := hR.at g1 (by simp)
   have lg2 := lt_of_at g1
   have hxz := hx0.trans hR (by simp)
   simp (disch := first | exact qD18 | fail) only [qG4, h6, g1, cq_over0, cq_put, cq_sub]
   exact hK x _ qX
  ·skip
   refine relX.ext [] ?_
   (repeat (apply postX.is; (focus (intro v w2 hR hd; have e0 := hR.at g3 (by simp); have e1 := hR.at g2 (by simp); (try simp (disch := first | exact qD18 | fail) only [qG4, hd, e0, e1, lvC_sub, cq_sub, cq_2, if_true, if_false, lo, hi]); exact okX.is))))
   apply postX.is
   ·intro v w5 hR hd
    simp (disch := first | exact qD18 | fail) only [qG4, hd]
    exact openb_spec ho fun w6 hx6 => okX.mk hx6 rfl
   (repeat (apply postX.is; (focus (intro v w2 hR hd; have e0 := hR.at g3 (by simp); have e1 := hR.at g2 (by simp); (try simp (disch := first | exact qD18 | fail) only [qG4, hd, e0, e1, lvC_sub, cq_sub, cq_2, if_true, if_false, lo, hi]); exact okX.is))))
   apply postX.is
   ·intro v w5 hR hd
    simp (disch := first | exact qD18 | fail) only [qG4, hd, if_true]
    exact ofq_spec hdq fun w6 hx6 => okX.mk hx6 rfl
   apply postX.is
   ·intro v w5 hR hd
    simp (disch := first | exact qD18 | fail) only [qG4, hd, if_true]
    exact hasq_spec (p := 32) hh (by decide) fun w6 hx6 => okX.mk hx6 rfl
   (repeat (apply postX.is; (focus (intro v w2 hR hd; have e0 := hR.at g3 (by simp); have e1 := hR.at g2 (by simp); (try simp (disch := first | exact qD18 | fail) only [qG4, hd, e0, e1, lvC_sub, cq_sub, cq_2, if_true, if_false, lo, hi]); exact okX.is))))
   refine postX.intro (fun v _ => ∃ x : Cq, v = .agg (cq x).toArray) (fun _ _ _ _ h => h) ?_ ?_
   ·intro v w5 hR hd
    simp (disch := first | exact qD18 | fail) only [qG4, hd]
    exact typedG_spec hm ha fun x w6 hx hx6 => okX.mk hx6 ⟨x, rfl⟩
   intro v w5 hR hd _
   refine Exists.elim hd.2.2.2.2.2.2.2.2.2.2.2.2.2.2.2.2.2.2.2.2.1 fun x h6 => ?_
   replace g1 := hR.at g1 (by simp)
   have lg2 := lt_of_at g1
   have hxz := hx0.trans hR (by simp)
   simp (disch := first | exact qD18 | fail) only [qG4, h6, g1, cq_over0, cq_put, cq_sub]
   exact hK x _ qX
 ·skip
  refine relX.ext [] ?_
  (repeat (apply postX.is; (focus (intro v w2 hR hd; have e0 := hR.at g3 (by simp); have e1 := hR.at g2 (by simp); (try simp (disch := first | exact qD18 | fail) only [qG4, hd, e0, e1, lvC_sub, cq_sub, cq_2, if_true, if_false, lo]); exact okX.is))))
  apply postX.is
  ·intro v w5 hR hd
   simp (disch := first | exact qD18 | fail) only [qG4, hd]
   exact openb_spec ho fun w6 hx6 => okX.mk hx6 rfl
  (repeat (apply postX.is; (focus (intro v w2 hR hd; have e0 := hR.at g3 (by simp); have e1 := hR.at g2 (by simp); (try simp (disch := first | exact qD18 | fail) only [qG4, hd, e0, e1, lvC_sub, cq_sub, cq_2, if_true, if_false, lo]); exact okX.is))))
  apply postX.is
  ·intro v w5 hR hd
   simp (disch := first | exact qD18 | fail) only [qG4, hd, if_true]
   exact ofq_spec hdq fun w6 hx6 => okX.mk hx6 rfl
  apply postX.is
  ·intro v w5 hR hd
   simp (disch := first | exact qD18 | fail) only [qG4, hd, if_true]
   exact hasq_spec (p := 32) hh (by decide) fun w6 hx6 => okX.mk hx6 rfl
  (repeat (apply postX.is; (focus (intro v w2 hR hd; have e0 := hR.at g3 (by simp); have e1 := hR.at g2 (by simp); (try simp (disch := first | exact qD18 | fail) only [qG4, hd, e0, e1, lvC_sub, cq_sub, cq_2, if_true, if_false, lo]); exact okX.is))))
  refine postX.intro (fun v _ => ∃ x : Cq, v = .agg (cq x).toArray) (fun _ _ _ _ h => h) ?_ ?_
  ·intro v w5 hR hd
   simp (disch := first | exact qD18 | fail) only [qG4, hd]
   exact typedG_spec hm ha fun x w6 hx hx6 => okX.mk hx6 ⟨x, rfl⟩
  intro v w5 hR hd _
  refine Exists.elim hd.2.2.2.2.2.2.2.2.2.2.2.2.2.2.2.2.2.2.2.2.1 fun x h6 => ?_
  replace g1 := hR.at g1 (by simp)
  have lg2 := lt_of_at g1
  have hxz := hx0.trans hR (by simp)
  simp (disch := first | exact qD18 | fail) only [qG4, h6, g1, cq_over0, cq_put, cq_sub]
  exact hK x _ qX
theorem UnsealG_spec {w : World} {c d : Cq} (hc : Okq c) (hdq : Okq d) {K : Value -> World -> Prop} (hK : ∀ (x : Cq) w', Ext [] w w' -> K (.agg (cq x).toArray) w') : callsK Tryz.prog 105 #[.agg (cq c).toArray, .agg (cq d).toArray] w K := by
 apply F105_ok
 unfold F105
 simp (disch := first | exact qD18 | fail) only [qG4, cq_sub]
 have hx0 : Ext [] w (((w.alloc (.cells (cq c).toArray 24)).alloc (.cells (cq d).toArray 24)).alloc (.cells [.bool false, .int .u64 0, .int .u64 0].toArray 24)) := qX
 have g1 : (((w.alloc (.cells (cq c).toArray 24)).alloc (.cells (cq d).toArray 24)).alloc (.cells [.bool false, .int .u64 0, .int .u64 0].toArray 24)).heap[w.heap.size + 1 + 1]? = some (.cells [.bool false, .int .u64 0, .int .u64 0].toArray 24 (0, 0)) := alloc_at (by simp only [szR])
 have g2 : (((w.alloc (.cells (cq c).toArray 24)).alloc (.cells (cq d).toArray 24)).alloc (.cells [.bool false, .int .u64 0, .int .u64 0].toArray 24)).heap[w.heap.size + 1]? = some (.cells (cq d).toArray 24 (0, 0)) := (alloc_ne (by simp only [szR]; omega)).trans (alloc_at (by simp only [szR]))
 refine ofq_spec hc fun w1 hx1 => ?_
 replace hx0 := hx0.trans hx1 (by simp)
 replace g1 := hx1.at g1 (by simp)
 replace g2 := hx1.at g2 (by simp)
 have lg1 := lt_of_at g1
 have lg2 := lt_of_at g2
 obtain ⟨t, m, a⟩ := c
 obtain ⟨hm, ha⟩ := hc
 simp only at hm ha hx0 hx1 g1 g2
 simp (disch := first | exact qD18 | fail) only [qG4, lv_over, lv_over2]
 have hx2 : Ext [] w1 (w1.alloc (.cells (lvC t m a).toArray 121)).drew := qX
 have g3 : (w1.alloc (.cells (lvC t m a).toArray 121)).drew.heap[w1.heap.size]? = some (.cells (lvC t m a).toArray 121 (0, 0)) := alloc_at rfl
 replace g1 := hx2.at g1 (by simp)
 replace g2 := hx2.at g2 (by simp)
 replace hx0 := hx0.trans hx2 (by simp)
 generalize w1.heap.size = b3 at *
 generalize (w1.alloc (.cells (lvC t m a).toArray 121)).drew = w2 at *
 have l7 := lq_7 t m a
 cases hr : (t && rightM m a) with
 | false =>
  rw [hr] at l7
  refine relX.ext [] ?_
  (repeat (apply postX.is; (focus (intro v w2 hR hd; have e0 := hR.at g3 (by simp); have e1 := hR.at g2 (by simp); (try simp (disch := first | exact qD18 | fail) only [qG4, hd, e0, e1, lvC_sub, cq_sub, cq_2, lq_6, l7, Bool.not_true, if_true, if_false]); exact okX.is))))
  (repeat (apply postX.is; (focus (intro v w2 hR hd; have e0 := hR.at g3 (by simp); have e1 := hR.at g2 (by simp); (try simp (disch := first | exact qD18 | fail) only [qG4, Nat.reduceAdd, Nat.reduceLeDiff, Int.reduceToNat, Int.reduceAdd, Int.reduceSub, Int.reduceLT, Int.reduceLE, Nat.reduceSub, Nat.reduceMul, Nat.reduceEqDiff, hd, e0, e1, lvC_sub, cq_sub, cq_2, lq_6, l7, Bool.not_true, if_true, if_false]); exact okX.is))))
  refine postX.intro (fun v _ => ∃ x : Cq, v = .agg (cq x).toArray) (fun _ _ _ _ h => h) ?_ ?_
  ·intro v w5 hR hd
   simp (disch := first | exact qD18 | fail) only [qG4, hd]
   exact typedG_spec hm ha fun x w6 hx hx6 => okX.mk hx6 ⟨x, rfl⟩
  intro v w5 hR hd _
  refine Exists.elim hd.2.2.2.2.2.2.2.2.2.2.2.2.2.2.2.2.2.2.2.2.2.2.1 fun x h6 => ?_
  replace g1 := hR.at g1 (by simp)
  have lg2 := lt_of_at g1
  have hxz := hx0.trans hR (by simp)
  simp (disch := first | exact qD18 | fail) only [qG4, h6, g1, cq_over0, cq_put, cq_sub]
  exact hK x _ qX
 | true =>
 rw [hr] at l7
 by_cases lo : (16 : Int) <= ((m / 281474976710656 % 4096 : Nat) : Int)
 ·cases hh : hasM d.t d.m d.a 64 with
  | false =>
   refine relX.ext [] ?_
   (repeat (apply postX.is; (focus (intro v w2 hR hd; have e0 := hR.at g3 (by simp); have e1 := hR.at g2 (by simp); (try simp (disch := first | exact qD18 | fail) only [qG4, Nat.reduceAdd, hd, e0, e1, lvC_sub, cq_sub, cq_2, lq_6, l7, Bool.not_true, if_true, if_false, lo]); exact okX.is))))
   apply postX.is
   ·intro v w5 hR hd
    simp (disch := first | exact qD18 | fail) only [qG4, hd, if_true]
    exact ofq_spec hdq fun w6 hx6 => okX.mk hx6 rfl
   apply postX.is
   ·intro v w5 hR hd
    simp (disch := first | exact qD18 | fail) only [qG4, hd, if_true]
    exact hasq_spec (p := 64) hh (by decide) fun w6 hx6 => okX.mk hx6 rfl
   (repeat (apply postX.is; (focus (intro v w2 hR hd; have e0 := hR.at g3 (by simp); have e1 := hR.at g2 (by simp); (try simp (disch := first | exact qD18 | fail) only [qG4, hd, e0, e1, lvC_sub, cq_sub, cq_2, lq_6, l7, Bool.not_true, if_true, if_false, lo]); exact okX.is))))
   refine postX.intro (fun v _ => ∃ x : Cq, v = .agg (cq x).toArray) (fun _ _ _ _ h => h) ?_ ?_
   ·intro v w5 hR hd
    simp (disch := first | exact qD18 | fail) only [qG4, hd]
    exact typedG_spec hm ha fun x w6 hx hx6 => okX.mk hx6 ⟨x, rfl⟩
   intro v w5 hR hd _
   refine Exists.elim hd.2.2.2.2.2.2.2.2.2.2.2.2.2.2.2.2.2.2.2.2.2.2.1 fun x h6 => ?_
   replace g1 := hR.at g1 (by simp)
   have lg2 := lt_of_at g1
   have hxz := hx0.trans hR (by simp)
   simp (disch := first | exact qD18 | fail) only [qG4, h6, g1, cq_over0, cq_put, cq_sub]
   exact hK x _ qX
  | true =>
  by_cases he : ((d.a : Nat) : Int) = ((m / 281474976710656 % 4096 : Nat) : Int)
  ·skip
   refine relX.ext [] ?_
   (repeat (apply postX.is; (focus (intro v w2 hR hd; have e0 := hR.at g3 (by simp); have e1 := hR.at g2 (by simp); (try simp (disch := first | exact qD18 | fail) only [qG4, Nat.reduceAdd, hd, e0, e1, lvC_sub, cq_sub, cq_2, lq_6, l7, Bool.not_true, if_true, if_false, lo, he]); exact okX.is))))
   apply postX.is
   ·intro v w5 hR hd
    simp (disch := first | exact qD18 | fail) only [qG4, hd, if_true]
    exact ofq_spec hdq fun w6 hx6 => okX.mk hx6 rfl
   apply postX.is
   ·intro v w5 hR hd
    simp (disch := first | exact qD18 | fail) only [qG4, hd, if_true]
    exact hasq_spec (p := 64) hh (by decide) fun w6 hx6 => okX.mk hx6 rfl
   (repeat (apply postX.is; (focus (intro v w2 hR hd; have e0 := hR.at g3 (by simp); have e1 := hR.at g2 (by simp); (try simp (disch := first | exact qD18 | fail) only [qG4, Nat.reduceAdd, hd, e0, e1, lvC_sub, cq_sub, cq_2, lq_6, l7, Bool.not_true, if_true, if_false, lo, he]); exact okX.is))))
   refine postX.intro (fun v _ => ∃ x : Cq, v = .agg (cq x).toArray) (fun _ _ _ _ h => h) ?_ ?_
   ·intro v w5 hR hd
    simp (disch := first | exact qD18 | fail) only [qG4, hd]
    exact typedG_spec hm ha fun x w6 hx hx6 => okX.mk hx6 ⟨x, rfl⟩
   intro v w5 hR hd _
   refine Exists.elim hd.2.2.2.2.2.2.2.2.2.2.2.2.2.2.2.2.2.2.2.2.2.2.1 fun x h6 => ?_
   replace g1 := hR.at g1 (by simp)
   have lg2 := lt_of_at g1
   have hxz := hx0.trans hR (by simp)
   simp (disch := first | exact qD18 | fail) only [qG4, h6, g1, cq_over0, cq_put, cq_sub]
   exact hK x _ qX
  ·skip
   refine relX.ext [] ?_
   (repeat (apply postX.is; (focus (intro v w2 hR hd; have e0 := hR.at g3 (by simp); have e1 := hR.at g2 (by simp); (try simp (disch := first | exact qD18 | fail) only [qG4, Nat.reduceAdd, hd, e0, e1, lvC_sub, cq_sub, cq_2, lq_6, l7, Bool.not_true, if_true, if_false, lo, he]); exact okX.is))))
   apply postX.is
   ·intro v w5 hR hd
    simp (disch := first | exact qD18 | fail) only [qG4, hd, if_true]
    exact ofq_spec hdq fun w6 hx6 => okX.mk hx6 rfl
   apply postX.is
   ·intro v w5 hR hd
    simp (disch := first | exact qD18 | fail) only [qG4, hd, if_true]
    exact hasq_spec (p := 64) hh (by decide) fun w6 hx6 => okX.mk hx6 rfl
   (repeat (apply postX.is; (focus (intro v w2 hR hd; have e0 := hR.at g3 (by simp); have e1 := hR.at g2 (by simp); (try simp (disch := first | exact qD18 | fail) only [qG4, Nat.reduceAdd, hd, e0, e1, lvC_sub, cq_sub, cq_2, lq_6, l7, Bool.not_true, if_true, if_false, lo, he]); exact okX.is))))
   refine postX.intro (fun v _ => ∃ x : Cq, v = .agg (cq x).toArray) (fun _ _ _ _ h => h) ?_ ?_
   ·intro v w5 hR hd
    simp (disch := first | exact qD18 | fail) only [qG4, hd]
    exact typedG_spec hm ha fun x w6 hx hx6 => okX.mk hx6 ⟨x, rfl⟩
   intro v w5 hR hd _
   refine Exists.elim hd.2.2.2.2.2.2.2.2.2.2.2.2.2.2.2.2.2.2.2.2.2.2.1 fun x h6 => ?_
   replace g1 := hR.at g1 (by simp)
   have lg2 := lt_of_at g1
   have hxz := hx0.trans hR (by simp)
   simp (disch := first | exact qD18 | fail) only [qG4, h6, g1, cq_over0, cq_put, cq_sub]
   exact hK x _ qX
 ·skip
  refine relX.ext [] ?_
  (repeat (apply postX.is; (focus (intro v w2 hR hd; have e0 := hR.at g3 (by simp); have e1 := hR.at g2 (by simp); (try simp (disch := first | exact qD18 | fail) only [qG4, Nat.reduceAdd, hd, e0, e1, lvC_sub, cq_sub, cq_2, lq_6, l7, Bool.not_true, if_true, if_false, lo]); exact okX.is))))
  (repeat (apply postX.is; (focus (intro v w2 hR hd; have e0 := hR.at g3 (by simp); have e1 := hR.at g2 (by simp); (try simp (disch := first | exact qD18 | fail) only [qG4, Nat.reduceAdd, Nat.reduceLeDiff, Int.reduceToNat, Int.reduceAdd, Int.reduceSub, Int.reduceLT, Int.reduceLE, Nat.reduceSub, Nat.reduceMul, Nat.reduceEqDiff, hd, e0, e1, lvC_sub, cq_sub, cq_2, lq_6, l7, Bool.not_true, if_true, if_false, lo]); exact okX.is))))
  refine postX.intro (fun v _ => ∃ x : Cq, v = .agg (cq x).toArray) (fun _ _ _ _ h => h) ?_ ?_
  ·intro v w5 hR hd
   simp (disch := first | exact qD18 | fail) only [qG4, hd]
   exact typedG_spec hm ha fun x w6 hx hx6 => okX.mk hx6 ⟨x, rfl⟩
  intro v w5 hR hd _
  refine Exists.elim hd.2.2.2.2.2.2.2.2.2.2.2.2.2.2.2.2.2.2.2.2.2.2.1 fun x h6 => ?_
  replace g1 := hR.at g1 (by simp)
  have lg2 := lt_of_at g1
  have hxz := hx0.trans hR (by simp)
  simp (disch := first | exact qD18 | fail) only [qG4, h6, g1, cq_over0, cq_put, cq_sub]
  exact hK x _ qX
open Go.Fx
set_option maxRecDepth 100000
theorem cq_set0 (c : Cq) (b : Bool) : (cq c).set 0 (.bool b) = cq ⟨b, c.m, c.a⟩ := rfl
theorem cq_set1 (c : Cq) (n : Nat) : (cq c).set 1 (.int .u64 (n : Nat)) = cq ⟨c.t, n, c.a⟩ := rfl
theorem fld_live (t : Bool) (m a : Nat) (w : World) : (Instr.field 121 (.agg (lvC t m a).toArray) 1).run Tryz.prog w = .ok (.agg (vwC m a).toArray) w := by kernel_rfl
theorem fld_view (m a : Nat) (w : World) : (Instr.field 28 (.agg (vwC m a).toArray) 2).run Tryz.prog w = .ok (.int .u64 (m / 281474976710656 % 4096 : Nat)) w := by kernel_rfl
theorem AndG_spec {w : World} {c : Cq} {p : Nat} (hc : Okq c) {K : Value -> World -> Prop} (hK : ∀ (x : Cq) w', Ext [] w w' -> K (.agg (cq x).toArray) w') : callsK Tryz.prog 106 #[.agg (cq c).toArray, .int .u64 (p : Nat)] w K := by
 apply F106_ok
 unfold F106
 simp (disch := first | exact qD18 | fail) only [qG4, cq_sub]
 have hx0 : Ext [] w ((w.alloc (.cells (cq c).toArray 24)).alloc (.cells [.bool false, .int .u64 0, .int .u64 0].toArray 24)) := qX
 have g0 : ((w.alloc (.cells (cq c).toArray 24)).alloc (.cells [.bool false, .int .u64 0, .int .u64 0].toArray 24)).heap[w.heap.size]? = some (.cells (cq c).toArray 24 (0, 0)) := (alloc_ne (by simp only [szR]; omega)).trans (alloc_at rfl)
 have g1 : ((w.alloc (.cells (cq c).toArray 24)).alloc (.cells [.bool false, .int .u64 0, .int .u64 0].toArray 24)).heap[w.heap.size + 1]? = some (.cells [.bool false, .int .u64 0, .int .u64 0].toArray 24 (0, 0)) := alloc_at (by simp only [szR])
 refine ofq_spec hc fun w1 hx1 => ?_
 replace hx0 := hx0.trans hx1 (by simp)
 replace g0 := hx1.at g0 (by simp)
 replace g1 := hx1.at g1 (by simp)
 have lg0 := lt_of_at g0
 have lg1 := lt_of_at g1
 obtain ⟨t, m, a⟩ := c
 obtain ⟨hm, ha⟩ := hc
 simp only at hm ha hx0 hx1 g0 g1
 obtain ⟨M, hM, hMl⟩ := natOf (bitU .andNot (m : Int) (IntKind.u64.wrap (bitI .andNot .u64 (m / 4294967296 % 512 : Nat) (p : Nat) * 2 ^ 32)) (.inr (.inr (.inr rfl))))
 simp (disch := first | exact qD18 | fail) only [qG4, Nat.reduceAdd, Int.reduceToNat, lv_over, lv_over2, lvC_sub, g0, cq_1, lq_5, hM, cq_set1]
 have gu0 : (World.upd (w1.alloc (.cells (lvC t m a).toArray 121)) w.heap.size (cq ⟨t, M, a⟩)).heap[w.heap.size]? = some (.cells (cq ⟨t, M, a⟩).toArray 24 (0, 0)) := upd_at ((alloc_ne (by omega)).trans g0)
 have gu1 : (World.upd (w1.alloc (.cells (lvC t m a).toArray 121)) w.heap.size (cq ⟨t, M, a⟩)).heap[w.heap.size + 1]? = some (.cells [.bool false, .int .u64 0, .int .u64 0].toArray 24 (0, 0)) := (upd_ne (by omega)).trans ((alloc_ne (by omega)).trans g1)
 have hxu : Ext [] w (World.upd (w1.alloc (.cells (lvC t m a).toArray 121)) w.heap.size (cq ⟨t, M, a⟩)) := qX
 refine open_spec fun w2 hx2 => ?_
 replace gu0 := hx2.at gu0 (by simp)
 replace gu1 := hx2.at gu1 (by simp)
 replace hxu := hxu.trans hx2 (by simp)
 have l0 := lt_of_at gu0
 have l1 := lt_of_at gu1
 generalize openM t m a = o
 simp (disch := first | exact qD18 | fail) only [qG4, gu0, gu1, cq_set0, cq_over0, cq_put, cq_sub]
 exact hK ⟨o, M, a⟩ _ qX
theorem BuildG_spec {w : World} {c d : Cq} (hc : Okq c) (hdq : Okq d) {K : Value -> World -> Prop} (hK : ∀ (x : Cq) w', Ext [] w w' -> K (.agg (cq x).toArray) w') : callsK Tryz.prog 107 #[.agg (cq c).toArray, .agg (cq d).toArray] w K := by
 apply F107_ok
 unfold F107
 simp (disch := first | exact qD18 | fail) only [qG4, cq_sub]
 have hx0 : Ext [] w (((w.alloc (.cells (cq c).toArray 24)).alloc (.cells (cq d).toArray 24)).alloc (.cells [.bool false, .int .u64 0, .int .u64 0].toArray 24)) := qX
 have g0 : (((w.alloc (.cells (cq c).toArray 24)).alloc (.cells (cq d).toArray 24)).alloc (.cells [.bool false, .int .u64 0, .int .u64 0].toArray 24)).heap[w.heap.size]? = some (.cells (cq c).toArray 24 (0, 0)) := (alloc_ne (by simp only [szR]; omega)).trans ((alloc_ne (by simp only [szR]; omega)).trans (alloc_at rfl))
 have g1 : (((w.alloc (.cells (cq c).toArray 24)).alloc (.cells (cq d).toArray 24)).alloc (.cells [.bool false, .int .u64 0, .int .u64 0].toArray 24)).heap[w.heap.size + 1 + 1]? = some (.cells [.bool false, .int .u64 0, .int .u64 0].toArray 24 (0, 0)) := alloc_at (by simp only [szR])
 have g2 : (((w.alloc (.cells (cq c).toArray 24)).alloc (.cells (cq d).toArray 24)).alloc (.cells [.bool false, .int .u64 0, .int .u64 0].toArray 24)).heap[w.heap.size + 1]? = some (.cells (cq d).toArray 24 (0, 0)) := (alloc_ne (by simp only [szR]; omega)).trans (alloc_at (by simp only [szR]))
 refine ofq_spec hdq fun w1 hx1 => ?_
 replace hx0 := hx0.trans hx1 (by simp)
 replace g0 := hx1.at g0 (by simp)
 replace g1 := hx1.at g1 (by simp)
 replace g2 := hx1.at g2 (by simp)
 clear hx1
 simp (disch := first | exact qD18 | fail) only [qG4]
 refine open_spec fun w2 hx1 => ?_
 replace hx0 := hx0.trans hx1 (by simp)
 replace g0 := hx1.at g0 (by simp)
 replace g1 := hx1.at g1 (by simp)
 replace g2 := hx1.at g2 (by simp)
 clear hx1
 have lg0 := lt_of_at g0
 have lg1 := lt_of_at g1
 have lg2 := lt_of_at g2
 cases openM d.t d.m d.a with
 | false =>
  simp (disch := first | exact qD18 | fail) only [qG4, joinBR, if_false, if_true, g0, g1, g2, cq_set0, cq_over0, cq_put, cq_sub]
  exact hK ⟨false, c.m, c.a⟩ _ qX
 | true =>
 simp (disch := first | exact qD18 | fail) only [qG4, joinBR, if_true, g0, g2, cq_sub]
 refine WithinG_spec hc hdq fun o w3 hx1 => ?_
 replace hx0 := hx0.trans hx1 (by simp)
 replace g0 := hx1.at g0 (by simp)
 replace g1 := hx1.at g1 (by simp)
 clear hx1
 have lg3 := lt_of_at g0
 have lg4 := lt_of_at g1
 cases o with
 | false =>
  simp (disch := first | exact qD18 | fail) only [qG4, joinBR, if_false, if_true, g0, g1, cq_set0, cq_over0, cq_put, cq_sub]
  exact hK ⟨false, c.m, c.a⟩ _ qX
 | true =>
 simp (disch := first | exact qD18 | fail) only [qG4, joinBR, if_true, g0, cq_sub]
 refine ofq_spec hc fun w4 hx1 => ?_
 replace hx0 := hx0.trans hx1 (by simp)
 replace g0 := hx1.at g0 (by simp)
 replace g1 := hx1.at g1 (by simp)
 clear hx1
 have lg5 := lt_of_at g0
 have lg6 := lt_of_at g1
 by_cases h1 : ((c.m / 281474976710656 % 4096 : Nat) : Int) <= 1
 ·simp (disch := first | exact qD18 | fail) only [qG4, joinBR, if_true, fld_live, fld_view, h1, g0, g1, cq_set0, cq_over0, cq_put, cq_sub]
  exact hK ⟨true, c.m, c.a⟩ _ qX
 ·simp (disch := first | exact qD18 | fail) only [qG4, joinBR, if_true, fld_live, fld_view, h1, g0, g1, cq_set0, cq_over0, cq_put, cq_sub]
  exact hK ⟨false, c.m, c.a⟩ _ qX
theorem BoundG_spec {w : World} {c : Cq} {n : Nat} {e : Bool} (hc : Okq c) {K : Value -> World -> Prop} (hK : ∀ (x : Cq) w', Ext [] w w' -> K (.agg (cq x).toArray) w') : callsK Tryz.prog 103 #[.agg (cq c).toArray, .int .u64 (n : Nat), .bool e] w K := by
 apply F103_ok
 unfold F103
 simp (disch := first | exact qD18 | fail) only [qG4, cq_sub]
 have hx0 : Ext [] w ((w.alloc (.cells (cq c).toArray 24)).alloc (.cells [.bool false, .int .u64 0, .int .u64 0].toArray 24)) := qX
 have g0 : ((w.alloc (.cells (cq c).toArray 24)).alloc (.cells [.bool false, .int .u64 0, .int .u64 0].toArray 24)).heap[w.heap.size]? = some (.cells (cq c).toArray 24 (0, 0)) := (alloc_ne (by simp only [szR]; omega)).trans (alloc_at rfl)
 have g1 : ((w.alloc (.cells (cq c).toArray 24)).alloc (.cells [.bool false, .int .u64 0, .int .u64 0].toArray 24)).heap[w.heap.size + 1]? = some (.cells [.bool false, .int .u64 0, .int .u64 0].toArray 24 (0, 0)) := alloc_at (by simp only [szR])
 refine ofq_spec hc fun w1 hx1 => ?_
 replace hx0 := hx0.trans hx1 (by simp)
 replace g0 := hx1.at g0 (by simp)
 replace g1 := hx1.at g1 (by simp)
 clear hx1
 have lg0 := lt_of_at g0
 have lg1 := lt_of_at g1
 obtain ⟨t, m, a⟩ := c
 obtain ⟨hm, ha⟩ := hc
 simp only at hm ha hx0 g0 g1
 simp (disch := first | exact qD18 | fail) only [qG4, lv_over, lv_over2, g0, cq_2]
 refine sAddG_spec fun ov => ?_
 obtain ⟨s, hs, hsl⟩ : ∃ s, (a + n) % 18446744073709551616 = s /\ s < 18446744073709551616 := ⟨_, rfl, Nat.mod_lt _ (by decide)⟩
 rw [hs]
 simp (disch := first | exact qD18 | fail) only [qG4, Nat.reduceAdd, lv_over, lv_over2, g0, cq_2]
 have hx2 : Ext [] w1 ((w1.alloc (.cells (lvC t m a).toArray 121)).alloc (.cells [.int .u64 (a : Nat), .int .u64 (s : Nat)].toArray 26)) := qX
 have g3 : ((w1.alloc (.cells (lvC t m a).toArray 121)).alloc (.cells [.int .u64 (a : Nat), .int .u64 (s : Nat)].toArray 26)).heap[w1.heap.size]? = some (.cells (lvC t m a).toArray 121 (0, 0)) := (alloc_ne (by simp only [szR]; omega)).trans (alloc_at rfl)
 have g4 : ((w1.alloc (.cells (lvC t m a).toArray 121)).alloc (.cells [.int .u64 (a : Nat), .int .u64 (s : Nat)].toArray 26)).heap[w1.heap.size + 1]? = some (.cells [.int .u64 (a : Nat), .int .u64 (s : Nat)].toArray 26 (0, 0)) := alloc_at (by simp only [szR])
 replace g0 := hx2.at g0 (by simp)
 replace g1 := hx2.at g1 (by simp)
 replace hx0 := hx0.trans hx2 (by simp)
 generalize w1.heap.size = b3 at *
 generalize ((w1.alloc (.cells (lvC t m a).toArray 121)).alloc (.cells [.int .u64 (a : Nat), .int .u64 (s : Nat)].toArray 26)) = w1' at *
 clear hx2
 refine roundedG_spec hsl fun b' t' o w2 hb' ht' hx1 => ?_
 replace g0 := hx1.at g0 (by simp)
 replace g1 := hx1.at g1 (by simp)
 replace g3 := hx1.at g3 (by simp)
 replace g4 := hx1.at g4 (by simp)
 replace hx0 := hx0.trans hx1 (by simp)
 clear hx1
 have lg0 := lt_of_at g0
 have lg1 := lt_of_at g1
 have lg3 := lt_of_at g3
 have lg4 := lt_of_at g4
 cases ov with
 | true =>
  simp (disch := first | exact qD18 | fail) only [qG4, Nat.reduceAdd, joinBR, if_true, if_false, g0, cq_sub]
  refine clearq_spec (c := ⟨t, m, a⟩) fun w9 hx8 => ?_
  have hx9 : Ext [] w2 w9 := Ext.trans (S := []) qX hx8 (by simp)
  replace g1 := hx9.at g1 (by simp)
  have lg9 := lt_of_at g1
  have hxz := hx0.trans hx9 (by simp)
  simp (disch := first | exact qD18 | fail) only [qG4, g1, cq_over0, cq_put, cq_sub]
  exact hK ⟨false, m, a⟩ _ qX
 | false =>
 cases o with
 | false =>
  simp (disch := first | exact qD18 | fail) only [qG4, Nat.reduceAdd, joinBR, if_true, if_false, Bool.not_false, g0, cq_sub]
  refine clearq_spec (c := ⟨t, m, a⟩) fun w9 hx8 => ?_
  have hx9 : Ext [] w2 w9 := Ext.trans (S := []) qX hx8 (by simp)
  replace g1 := hx9.at g1 (by simp)
  have lg9 := lt_of_at g1
  have hxz := hx0.trans hx9 (by simp)
  simp (disch := first | exact qD18 | fail) only [qG4, g1, cq_over0, cq_put, cq_sub]
  exact hK ⟨false, m, a⟩ _ qX
 | true =>
 simp (disch := first | exact qD18 | fail) only [qG4, Nat.reduceAdd, joinBR, if_true, if_false, Bool.not_true, g0, g3, cq_2, lq_5, lq_6]
 refine makeG_spec ht' (by omega) (by omega) ha fun x o w3 hx1 => ?_
 have g5 : w3.heap[w2.heap.size]? = some (.cells [.int .u64 (b' : Nat), .int .u64 (t' : Nat)].toArray 26 (0, 0)) := hx1.at (alloc_at rfl) (by simp)
 have hx2 : Ext [] w2 w3 := Ext.trans (S := []) qX hx1 (by simp)
 replace g0 := hx2.at g0 (by simp)
 replace g1 := hx2.at g1 (by simp)
 replace g3 := hx2.at g3 (by simp)
 replace g4 := hx2.at g4 (by simp)
 replace hx0 := hx0.trans hx2 (by simp)
 clear hx1 hx2
 replace lg0 := lt_of_at g0
 replace lg1 := lt_of_at g1
 replace lg3 := lt_of_at g3
 replace lg4 := lt_of_at g4
 have lg5 := lt_of_at g5
 generalize w2.heap.size = b5 at *
 cases o with
 | false =>
  simp (disch := first | exact qD18 | fail) only [qG4, joinBR, if_true, if_false, Bool.not_false, g0, cq_sub, cq_over0, cq_put]
  refine clearq_spec (c := ⟨t, m, a⟩) fun w9 hx8 => ?_
  have hx9 : Ext [] w3 w9 := Ext.trans (S := []) qX hx8 (by simp)
  replace g1 := hx9.at g1 (by simp)
  have lg9 := lt_of_at g1
  have hxz := hx0.trans hx9 (by simp)
  simp (disch := first | exact qD18 | fail) only [qG4, g1, cq_over0, cq_put, cq_sub]
  exact hK ⟨false, m, a⟩ _ qX
 | true =>
 simp (disch := first | exact qD18 | fail) only [qG4, joinBR, if_true, if_false, Bool.not_true, g3, lvC_sub, cq_over0, cq_put]
 have n1 := lg1
 refine open_spec fun w4 hx1 => ?_
 have g6 : w4.heap[w3.heap.size]? = some (.cells (cq x).toArray 24 (0, 0)) := hx1.at (alloc_at rfl) (by simp)
 have hx2 : Ext [] w3 w4 := Ext.trans (S := []) qX hx1 (by simp)
 replace g0 := hx2.at g0 (by simp)
 replace g1 := hx2.at g1 (by simp)
 replace g3 := hx2.at g3 (by simp)
 replace g4 := hx2.at g4 (by simp)
 replace g5 := hx2.at g5 (by simp)
 replace hx0 := hx0.trans hx2 (by simp)
 clear hx1 hx2
 replace lg0 := lt_of_at g0
 replace lg1 := lt_of_at g1
 replace lg3 := lt_of_at g3
 replace lg4 := lt_of_at g4
 replace lg5 := lt_of_at g5
 have lg6 := lt_of_at g6
 generalize w3.heap.size = b6 at *
 cases openM t m a with
 | false =>
  simp (disch := first | exact qD18 | fail) only [qG4, joinBR, if_true, if_false, Bool.not_true, Bool.not_false, g1, g3, g4, g5, g6, lq_3, lq_4, cq_set0, cq_over0, cq_put, cq_sub, RX_eql_26, cq_1]
  exact hK ⟨false, x.m, x.a⟩ _ qX
 | true =>
 by_cases h1 : spB (spM m a) <= b'
 ·by_cases h2 : t' <= spT (spM m a)
  ·cases e with
   | false =>
    simp (disch := first | exact qD18 | fail) only [qG4, Nat.reduceAdd, joinBR, if_true, if_false, Bool.not_true, Bool.not_false, g1, g3, g4, g5, g6, lq_3, lq_4, cq_set0, cq_over0, cq_put, cq_sub, RX_eql_26, cq_1]
    exact hK ⟨true, x.m, x.a⟩ _ qX
   | true =>
    have hne : ∀ (x y : Operand) w, (binV .eql 26 x y (.agg [.int .u64 (b' : Nat), .int .u64 (t' : Nat)].toArray) (.agg [.int .u64 (a : Nat), .int .u64 (s : Nat)].toArray)).run Tryz.prog w = .ok (.bool (((b' : Nat) : Int) == (a : Nat) && (((t' : Nat) : Int) == (s : Nat) && true))) w := fun x y w => RX_eql_26 _ _ _ _ x y w
    generalize (((b' : Nat) : Int) == (a : Nat) && (((t' : Nat) : Int) == (s : Nat) && true)) = q at hne
    simp (disch := first | exact qD18 | fail) only [qG4, Nat.reduceAdd, joinBR, if_true, if_false, Bool.not_true, Bool.not_false, g1, g3, g4, g5, g6, lq_3, lq_4, cq_set0, cq_over0, cq_put, cq_sub, hne]
    exact hK ⟨q, x.m, x.a⟩ _ qX
  ·simp (disch := first | exact qD18 | fail) only [qG4, Nat.reduceAdd, joinBR, if_true, if_false, Bool.not_true, Bool.not_false, g1, g3, g4, g5, g6, lq_3, lq_4, cq_set0, cq_over0, cq_put, cq_sub, RX_eql_26, cq_1]
   exact hK ⟨false, x.m, x.a⟩ _ qX
 ·simp (disch := first | exact qD18 | fail) only [qG4, joinBR, if_true, if_false, Bool.not_true, Bool.not_false, g1, g3, g4, g5, g6, lq_3, lq_4, cq_set0, cq_over0, cq_put, cq_sub, RX_eql_26, cq_1]
  exact hK ⟨false, x.m, x.a⟩ _ qX
open Go.Fx
set_option maxRecDepth 100000
theorem toldB_spec {w : World} {b : Bool} {K : Value -> World -> Prop} (hK : ∀ n : Nat, n < 18446744073709551616 -> K (.int .u64 (n : Nat)) w) : callsK Tryz.prog 102 #[.bool b] w K := by
 apply F102_ok
 unfold F102
 cases b with
 | true =>
  simp (disch := first | exact qDR | fail) only [qG4]
  exact hK 1 (by decide)
 | false =>
  simp (disch := first | exact qDR | fail) only [qG4]
  exact hK 0 (by decide)
theorem fdivU {a n : Nat} (ha : a < 18446744073709551616) : U6 (((a : Nat) : Int).fdiv (2 ^ n)) := by
 have h2 : (0 : Int) <= 2 ^ n := Int.le_of_lt (Int.pow_pos (by decide))
 rw [Int.fdiv_eq_ediv_of_nonneg _ h2]
 have h3 : (0 : Int) <= ((a : Nat) : Int) / 2 ^ n := Int.ediv_nonneg (by omega) h2
 have h4 : ((a : Nat) : Int) / 2 ^ n <= a := Int.ediv_le_self _ (by omega)
 unfold U6
 omega
theorem DoG_spec {w : World} {k a b : Nat} (ha : a < 18446744073709551616) (hb : b < 18446744073709551616) {K : Value -> World -> Prop} (hK : ∀ (n : Nat) o, n < 18446744073709551616 -> K (.tuple #[.int .u64 (n : Nat), .bool o]) w) : callsK Tryz.prog 79 #[.int .i64 (k : Nat), .int .u64 (a : Nat), .int .u64 (b : Nat)] w K := by
 have hz : ∀ (z : Int) o, U6 z -> K (.tuple #[.int .u64 z, .bool o]) w := fun z o h => by
  obtain ⟨n, hn, hl⟩ := natOf h
  rw [hn]
  exact hK n o hl
 apply F79_ok
 unfold F79
 by_cases h31 : k = 31
 ·subst h31
  simp (disch := first | exact qDR | fail) only [qG4, joinR]
  intros
  exact hz _ _ (wrapU _)
 by_cases h22 : k = 22
 ·subst h22
  simp (disch := first | exact qDR | fail) only [qG4, joinR]
  intros
  exact hz _ _ (wrapU _)
 by_cases h32 : k = 32
 ·subst h32
  simp (disch := first | exact qDR | fail) only [qG4, joinR]
  intros
  exact hz _ _ (wrapU _)
 by_cases h40 : k = 40
 ·subst h40
  simp (disch := first | exact qDR | fail) only [qG4, joinR]
  intros
  exact hz _ _ (bitU .and _ _ (.inl rfl))
 by_cases h27 : k = 27
 ·subst h27
  simp (disch := first | exact qDR | fail) only [qG4, joinR]
  intros
  exact hz _ _ (bitU .and _ _ (.inl rfl))
 by_cases h39 : k = 39
 ·subst h39
  simp (disch := first | exact qDR | fail) only [qG4, joinR]
  intros
  exact hz _ _ (bitU .or _ _ (.inr (.inl rfl)))
 by_cases h26 : k = 26
 ·subst h26
  simp (disch := first | exact qDR | fail) only [qG4, joinR]
  intros
  exact hz _ _ (bitU .or _ _ (.inr (.inl rfl)))
 by_cases h36 : k = 36
 ·subst h36
  simp (disch := first | exact qDR | fail) only [qG4, joinR]
  intros
  exact hz _ _ (bitU .xor _ _ (.inr (.inr (.inl rfl))))
 by_cases h25 : k = 25
 ·subst h25
  simp (disch := first | exact qDR | fail) only [qG4, joinR]
  intros
  exact hz _ _ (bitU .xor _ _ (.inr (.inr (.inl rfl))))
 by_cases h33 : k = 33
 ·subst h33
  simp (disch := first | exact qDR | fail) only [qG4, joinR]
  intros
  exact hz _ _ (wrapU _)
 by_cases h28 : k = 28
 ·subst h28
  simp (disch := first | exact qDR | fail) only [qG4, joinR]
  intros
  exact hz _ _ (wrapU _)
 by_cases h37 : k = 37
 ·subst h37
  simp (disch := first | exact qDR | fail) only [qG4, joinR]
  intros
  exact hz _ _ (fdivU ha)
 by_cases h29 : k = 29
 ·subst h29
  simp (disch := first | exact qDR | fail) only [qG4, joinR]
  intros
  exact hz _ _ (fdivU ha)
 by_cases h38 : k = 38
 ·subst h38
  simp (disch := first | exact qDR | fail) only [qG4, joinR]
  intros
  exact hz _ _ (wrapU _)
 by_cases h30 : k = 30
 ·subst h30
  simp (disch := first | exact qDR | fail) only [qG4, joinR]
  intros
  exact hz _ _ (wrapU _)
 by_cases h34 : k = 34
 ·subst h34
  simp (disch := first | exact qDR | fail) only [qG4, joinR]
  intros
  refine toldB_spec fun n hn => ?_
  exact hK n _ hn
 by_cases h23 : k = 23
 ·subst h23
  simp (disch := first | exact qDR | fail) only [qG4, joinR]
  intros
  refine toldB_spec fun n hn => ?_
  exact hK n _ hn
 by_cases h35 : k = 35
 ·subst h35
  by_cases hl : a < b
  ·simp (disch := first | exact qDR | fail) only [qG4, joinR]
   intros
   refine toldB_spec fun n hn => ?_
   exact hK n _ hn
  ·simp (disch := first | exact qDR | fail) only [qG4, joinR]
   intros
   refine toldB_spec fun n hn => ?_
   exact hK n _ hn
 by_cases h24 : k = 24
 ·subst h24
  by_cases hl : a < b
  ·simp (disch := first | exact qDR | fail) only [qG4, joinR]
   intros
   refine toldB_spec fun n hn => ?_
   exact hK n _ hn
  ·simp (disch := first | exact qDR | fail) only [qG4, joinR]
   intros
   refine toldB_spec fun n hn => ?_
   exact hK n _ hn
 simp (disch := first | exact qDR | fail) only [qG4, joinR]
 intros
 exact hK 0 _ (by decide)
open Go.Fx
set_option maxRecDepth 100000
theorem less_spec {w : World} {s : Bool} {p q a b : Nat} {fl fm : Nat × Nat} (hp : w.heap[p]? = some (.cells [.int .u64 (a : Nat)].toArray 22 fl)) (hq : w.heap[q]? = some (.cells [.int .u64 (b : Nat)].toArray 22 fm)) {K : Value -> World -> Prop} (hK : ∀ o, K (.bool o) w) : callsK Tryz.prog 113 #[.bool s, .pointer (some ⟨p, 0, none⟩), .pointer (some ⟨q, 0, none⟩)] w K := by
 apply F113_ok
 unfold F113
 have lp := lt_of_at hp
 have lq := lt_of_at hq
 cases s with
 | true =>
  simp (disch := first | exact qDR | fail) only [qG4, hp, hq]
  exact hK _
 | false =>
  by_cases h : a < b
  ·simp (disch := first | exact qDR | fail) only [qG4, hp, hq]
   exact hK _
  ·simp (disch := first | exact qDR | fail) only [qG4, hp, hq]
   exact hK _
theorem TakesG_spec {w : World} {k a b : Nat} {K : Value -> World -> Prop} (hK : ∀ s o w', Ext [] w w' -> K (.tuple #[.bool s, .bool o]) w') : callsK Tryz.prog 95 #[.int .i64 (k : Nat), .int .u64 (a : Nat), .int .u64 (b : Nat)] w K := by
 apply F95_ok
 unfold F95
 simp (disch := first | exact qDR | fail) only [qG4]
 have hx : Ext [] w ((w.alloc (.cells [.int .u64 (a : Nat)].toArray 22)).alloc (.cells [.int .u64 (b : Nat)].toArray 22)) := qX
 have hp : ((w.alloc (.cells [.int .u64 (a : Nat)].toArray 22)).alloc (.cells [.int .u64 (b : Nat)].toArray 22)).heap[w.heap.size]? = some (.cells [.int .u64 (a : Nat)].toArray 22 (0, 0)) := (alloc_ne (by simp only [szR]; omega)).trans (alloc_at rfl)
 have hq : ((w.alloc (.cells [.int .u64 (a : Nat)].toArray 22)).alloc (.cells [.int .u64 (b : Nat)].toArray 22)).heap[w.heap.size + 1]? = some (.cells [.int .u64 (b : Nat)].toArray 22 (0, 0)) := alloc_at (by simp only [szR])
 by_cases h5 : k = 5
 ·subst h5
  by_cases he : ((a : Nat) : Int) = (b : Nat)
  ·simp (disch := first | exact qDR | fail) only [qG4, hp, hq, he]
   exact hK _ _ _ qX
  ·simp (disch := first | exact qDR | fail) only [qG4, hp, hq, he]
   exact hK _ _ _ qX
 by_cases h6 : k = 6
 ·subst h6
  by_cases he : ((a : Nat) : Int) = (b : Nat)
  ·simp (disch := first | exact qDR | fail) only [qG4, hp, hq, he]
   exact hK _ _ _ qX
  ·simp (disch := first | exact qDR | fail) only [qG4, hp, hq, he]
   exact hK _ _ _ qX
 by_cases h7 : k = 7
 ·subst h7
  simp (disch := first | exact qDR | fail) only [qG4]
  refine less_spec hp hq fun o => ?_
  
  exact hK _ _ _ hx
 by_cases h8 : k = 8
 ·subst h8
  simp (disch := first | exact qDR | fail) only [qG4]
  refine less_spec hp hq fun o => ?_
  simp (disch := first | exact qDR | fail) only [qG4]
  exact hK _ _ _ hx
 by_cases h9 : k = 9
 ·subst h9
  simp (disch := first | exact qDR | fail) only [qG4]
  refine less_spec hp hq fun o => ?_
  
  exact hK _ _ _ hx
 by_cases h10 : k = 10
 ·subst h10
  simp (disch := first | exact qDR | fail) only [qG4]
  refine less_spec hp hq fun o => ?_
  simp (disch := first | exact qDR | fail) only [qG4]
  exact hK _ _ _ hx
 simp (disch := first | exact qDR | fail) only [qG4]
 exact hK _ _ _ qX
/-- how many bytes an operation takes of memory. -/
def widthN (k : Nat) : Nat := if k = 11 ∨ k = 15 ∨ k = 18 then 1 else if k = 12 ∨ k = 16 ∨ k = 19 then 2 else if k = 13 ∨ k = 17 ∨ k = 20 then 4 else if k = 14 ∨ k = 21 then 8 else if k = 43 ∨ k = 44 then 16 else 0
theorem widthG_spec {w : World} {k : Nat} (hk : k < 1000) {K : Value -> World -> Prop} (hK : ∀ w', Ext [] w w' -> K (.int .i64 (widthN k : Nat)) w') : callsK Tryz.prog 72 #[.int .i64 (k : Nat)] w K := by
 apply F72_ok
 unfold F72
 unfold widthN at hK
 simp (disch := first | exact qDR | fail) only [qG4, Nat.reduceAdd]
 by_cases h11 : k = 11
 ·subst h11
  refine loads_spec (by omega) ?_
  rw [decide_eq_true (by omega)]
  simp (disch := first | exact qDR | fail) only [qG4]
  exact hK _ qX
 by_cases h12 : k = 12
 ·subst h12
  refine loads_spec (by omega) ?_
  rw [decide_eq_true (by omega)]
  simp (disch := first | exact qDR | fail) only [qG4]
  exact hK _ qX
 by_cases h13 : k = 13
 ·subst h13
  refine loads_spec (by omega) ?_
  rw [decide_eq_true (by omega)]
  simp (disch := first | exact qDR | fail) only [qG4]
  exact hK _ qX
 by_cases h14 : k = 14
 ·subst h14
  refine loads_spec (by omega) ?_
  rw [decide_eq_true (by omega)]
  simp (disch := first | exact qDR | fail) only [qG4]
  exact hK _ qX
 by_cases h15 : k = 15
 ·subst h15
  refine loads_spec (by omega) ?_
  rw [decide_eq_true (by omega)]
  simp (disch := first | exact qDR | fail) only [qG4]
  exact hK _ qX
 by_cases h16 : k = 16
 ·subst h16
  refine loads_spec (by omega) ?_
  rw [decide_eq_true (by omega)]
  simp (disch := first | exact qDR | fail) only [qG4]
  exact hK _ qX
 by_cases h17 : k = 17
 ·subst h17
  refine loads_spec (by omega) ?_
  rw [decide_eq_true (by omega)]
  simp (disch := first | exact qDR | fail) only [qG4]
  exact hK _ qX
 by_cases h18 : k = 18
 ·subst h18
  refine loads_spec (by omega) ?_
  rw [decide_eq_false (by omega)]
  simp (disch := first | exact qDR | fail) only [qG4]
  refine stores_spec (by omega) ?_
  rw [decide_eq_true (by omega)]
  simp (disch := first | exact qDR | fail) only [qG4]
  exact hK _ qX
 by_cases h19 : k = 19
 ·subst h19
  refine loads_spec (by omega) ?_
  rw [decide_eq_false (by omega)]
  simp (disch := first | exact qDR | fail) only [qG4]
  refine stores_spec (by omega) ?_
  rw [decide_eq_true (by omega)]
  simp (disch := first | exact qDR | fail) only [qG4]
  exact hK _ qX
 by_cases h20 : k = 20
 ·subst h20
  refine loads_spec (by omega) ?_
  rw [decide_eq_false (by omega)]
  simp (disch := first | exact qDR | fail) only [qG4]
  refine stores_spec (by omega) ?_
  rw [decide_eq_true (by omega)]
  simp (disch := first | exact qDR | fail) only [qG4]
  exact hK _ qX
 by_cases h21 : k = 21
 ·subst h21
  refine loads_spec (by omega) ?_
  rw [decide_eq_false (by omega)]
  simp (disch := first | exact qDR | fail) only [qG4]
  refine stores_spec (by omega) ?_
  rw [decide_eq_true (by omega)]
  simp (disch := first | exact qDR | fail) only [qG4]
  exact hK _ qX
 by_cases hc : k = 43 ∨ k = 44
 ·refine loads_spec (by omega) ?_
  rw [decide_eq_false (by omega)]
  simp (disch := first | exact qDR | fail) only [qG4]
  refine stores_spec (by omega) ?_
  rw [decide_eq_false (by omega)]
  rcases hc with rfl | rfl
  ·simp (disch := first | exact qDR | fail) only [qG4, joinBR]
   exact hK _ qX
  ·simp (disch := first | exact qDR | fail) only [qG4, joinBR]
   exact hK _ qX
 ·rw [if_neg (by omega), if_neg (by omega), if_neg (by omega), if_neg (by omega), if_neg (by omega)] at hK
  refine loads_spec (by omega) ?_
  rw [decide_eq_false (by omega)]
  simp (disch := first | exact qDR | fail) only [qG4]
  refine stores_spec (by omega) ?_
  rw [decide_eq_false (by omega)]
  simp (disch := first | exact qDR | fail) only [qG4, joinBR]
  exact hK _ qX
theorem SignG_spec {w : World} {x : Nat} {b : Int} {K : Value -> World -> Prop} (hK : ∀ n : Nat, n < 18446744073709551616 -> K (.int .u64 (n : Nat)) w) : callsK Tryz.prog 83 #[.int .u64 (x : Nat), .int .i64 b] w K := by
 have hz : ∀ (z : Int), U6 z -> K (.int .u64 z) w := fun z h => by
  obtain ⟨n, hn, hl⟩ := natOf h
  rw [hn]
  exact hK n hl
 apply F83_ok
 unfold F83
 by_cases h1 : b < 1
 ·simp (disch := first | exact qDR | fail) only [qG4, joinBR]
  exact hK 0 (by decide)
 ·by_cases h2 : 64 < b
  ·simp (disch := first | exact qDR | fail) only [qG4, joinBR]
   exact hK 0 (by decide)
  ·simp (disch := first | exact qDR | fail) only [qG4, joinBR]
   exact hz _ (wrapU _)
theorem ExtendG_spec {w : World} {k v : Nat} (hk : k < 1000) (hv : v < 18446744073709551616) {K : Value -> World -> Prop} (hK : ∀ (n : Nat) w', n < 18446744073709551616 -> Ext [] w w' -> K (.int .u64 (n : Nat)) w') : callsK Tryz.prog 101 #[.int .i64 (k : Nat), .int .u64 (v : Nat)] w K := by
 apply F101_ok
 unfold F101
 simp (disch := first | exact qDR | fail) only [qG4]
 refine widthG_spec hk fun w1 hx1 => ?_
 by_cases h11 : k = 11
 ·subst h11
  have hw : widthN 11 = 1 := by decide
  rw [hw]
  simp (disch := first | exact qDR | fail) only [qG4, joinR]
  intros
  refine SignG_spec fun n hn => ?_
  exact hK n _ hn hx1
 by_cases h12 : k = 12
 ·subst h12
  have hw : widthN 12 = 2 := by decide
  rw [hw]
  simp (disch := first | exact qDR | fail) only [qG4, joinR]
  intros
  refine SignG_spec fun n hn => ?_
  exact hK n _ hn hx1
 by_cases h13 : k = 13
 ·subst h13
  have hw : widthN 13 = 4 := by decide
  rw [hw]
  simp (disch := first | exact qDR | fail) only [qG4, joinR]
  intros
  refine SignG_spec fun n hn => ?_
  exact hK n _ hn hx1
 by_cases h14 : k = 14
 ·subst h14
  have hw : widthN 14 = 8 := by decide
  rw [hw]
  simp (disch := first | exact qDR | fail) only [qG4, joinR]
  intros
  refine SignG_spec fun n hn => ?_
  exact hK n _ hn hx1
 by_cases h15 : k = 15
 ·subst h15
  have hw : widthN 15 = 1 := by decide
  rw [hw]
  simp (disch := first | exact qDR | fail) only [qG4, joinR]
  intros
  refine fGet_spec (by omega) (by omega) (by omega) hv fun w2 hx2 => ?_
  exact hK _ _ (Nat.lt_of_le_of_lt (Nat.mod_le _ _) (Nat.lt_of_le_of_lt (Nat.div_le_self _ _) hv)) (hx1.trans hx2 (by simp))
 by_cases h16 : k = 16
 ·subst h16
  have hw : widthN 16 = 2 := by decide
  rw [hw]
  simp (disch := first | exact qDR | fail) only [qG4, joinR]
  intros
  refine fGet_spec (by omega) (by omega) (by omega) hv fun w2 hx2 => ?_
  exact hK _ _ (Nat.lt_of_le_of_lt (Nat.mod_le _ _) (Nat.lt_of_le_of_lt (Nat.div_le_self _ _) hv)) (hx1.trans hx2 (by simp))
 by_cases h17 : k = 17
 ·subst h17
  have hw : widthN 17 = 4 := by decide
  rw [hw]
  simp (disch := first | exact qDR | fail) only [qG4, joinR]
  intros
  refine fGet_spec (by omega) (by omega) (by omega) hv fun w2 hx2 => ?_
  exact hK _ _ (Nat.lt_of_le_of_lt (Nat.mod_le _ _) (Nat.lt_of_le_of_lt (Nat.div_le_self _ _) hv)) (hx1.trans hx2 (by simp))
 have hw : widthN k <= 16 := by
  unfold widthN
  split <;> first | omega | (split <;> first | omega | (split <;> first | omega | (split <;> first | omega | (split <;> omega))))
 simp (disch := first | exact qDR | fail) only [qG4, joinR]
 intros
 exact hK 0 _ (by decide) hx1
end Go.Proofs.YtplfniijbeinmaaGreat
