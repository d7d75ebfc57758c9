/- Part 6 of what the law ExecLays stands on: formulas of the functions that it reaches, and what each of them does; conditions: those of each theorem. -/
import Derived.Test.YtldkfbelnndaoaaGreatDoorP5
set_option linter.unusedVariables false
set_option linter.unusedSimpArgs false
namespace Go.Proofs.YtldkfbelnndaoaaGreatDoor
open Go.Fx
set_option maxRecDepth 100000
/-- the instruction of a word whose row is k. -/
def ofK (W k : Nat) : IZ := let s := (row k).s
 ⟨(k : Int) + 1, if (hasS s).1 then ((W / 2 ^ 7 % 2 ^ 5 : Nat) : Int) else 0, if (hasS s).2.1 then ((W / 2 ^ 15 % 2 ^ 5 : Nat) : Int) else 0, if (hasS s).2.2 then ((W / 2 ^ 20 % 2 ^ 5 : Nat) : Int) else 0, readL (laidS s).1 (laidS s).2.1 (laidS s).2.2.1 W⟩
def decGo (W : Nat) : Nat -> Nat -> IZ × Bool
 | 0, _ => (⟨0, 0, 0, 0, 0⟩, false)
 | f + 1, k => if W &&& fixM (row k) = fixW (row k) then (ofK W k, true) else decGo W f (k + 1)
def dcdF (W : Nat) : IZ × Bool := decGo W 69 0
theorem qZ8 : type_of% (And.intro @szR (And.intro @rwC_len (And.intro @rwC_all (And.intro @rwsC_len (And.intro @rwsC_all (And.intro @ptC_lenA (And.intro @ptC_allA (And.intro @pcC_len (And.intro @pcC_all (And.intro @loC_len (And.intro @loC_all (And.intro @izC_len (@izC_all))))))))))))) := ⟨@szR, @rwC_len, @rwC_all, @rwsC_len, @rwsC_all, @ptC_lenA, @ptC_allA, @pcC_len, @pcC_all, @loC_len, @loC_all, @izC_len, @izC_all⟩
theorem qD8 {p : Prop} (h : p := by first | assumption | omega | (simp only [qZ8] <;> omega) | rfl | decide) : p := h
set_option maxHeartbeats 1000000 in
theorem Decode_specA {w : World} {W : Nat} (hW : W < 4294967296) {K : Value -> World -> Prop} (hK : ∀ w', Ext [] w w' -> K (.tuple #[.agg (izC (dcdF W).1).toArray, .bool (dcdF W).2]) w') : callsK Tryz.prog 27 #[.int .u32 (W : Nat)] w K := by
 apply F27_ok
 unfold F27
 have hz0 : izC ⟨0, 0, 0, 0, 0⟩ = [.int .i64 0, .int .i64 0, .int .i64 0, .int .i64 0, .int .i64 0] := rfl
 simp (disch := first | exact qD8 | fail) only [qG1, Nat.reduceAdd, Nat.reduceLeDiff, Int.reduceToNat, Int.reduceAdd, Int.reduceSub, Int.reduceLT, Int.reduceLE, Nat.reduceSub, Nat.reduceMul, Nat.reduceEqDiff]
 have hx0 : Ext [] w (w.alloc (.cells [.int .i64 0, .int .i64 0, .int .i64 0, .int .i64 0, .int .i64 0].toArray 46)) := qX
 have hRW : dcdF W = decGo W 69 0 := rfl
 generalize dcdF W = R at *
 refine rows_spec fun w1 hx1 => ?_
 have hxa := hx0.trans hx1 (by simp)
 have h2 := hx1.at (b := w.heap.size) (o := .cells [.int .i64 0, .int .i64 0, .int .i64 0, .int .i64 0, .int .i64 0].toArray 46 (0, 0)) (by first | with_reducible rfl | assumption | (simp (disch := first | exact qD8 | fail) only [qG1, Nat.reduceAdd, Nat.reduceLeDiff, Int.reduceToNat, Int.reduceAdd, Int.reduceSub, Int.reduceLT, Int.reduceLE, Nat.reduceSub, Nat.reduceMul, Nat.reduceEqDiff] <;> rfl)) (by simp)
 refine loopT.intro (fun st w' => ∃ (j : Nat), j <= 69 /\ st = [.int .i64 (j : Nat)] /\ R = decGo W (69 - j) j /\ w'.heap[w.heap.size]? = some (.cells [.int .i64 0, .int .i64 0, .int .i64 0, .int .i64 0, .int .i64 0].toArray 46 (0, 0)) /\ Ext [] w w')
  (fun st _ => match st with
   | [.int _ z] => 69 - z.toNat
   | _ => 0) ⟨0, Nat.zero_le _, rfl, hRW, h2, hxa⟩ ?_
 rintro st w' ⟨j, hj, rfl, hR, h3, hx'⟩ _
 have l3 := lt_of_at h3
 have z1 : ∀ i : IZ, splice [.int .i64 0, .int .i64 0, .int .i64 0, .int .i64 0, .int .i64 0] 0 (izC i) = izC i := fun _ => rfl
 have z2 : ∀ i : IZ, izC i ++ List.drop (izC i).length [.int .i64 0, .int .i64 0, .int .i64 0, .int .i64 0, .int .i64 0] = izC i := fun _ => by simp [izC]
 by_cases hj69 : j < 69
 ·obtain ⟨ok, gW, gM⟩ := row_good (k := j) hj69
  have hix := row_ix j hj69
  have hsh := row_sh hj69
  rw [show 69 - j = (69 - (j + 1)) + 1 by omega, decGo] at hR
  simp (disch := first | exact qD8 | fail) only [qG1, Nat.reduceAdd, Nat.reduceLeDiff, Int.reduceToNat, Int.reduceAdd, Int.reduceSub, Int.reduceLT, Int.reduceLE, Nat.reduceSub, Nat.reduceMul, Nat.reduceEqDiff, hix, rw_over, rw_put]
  have hx4 : Ext [] w' (w'.alloc (.cells (rwC (row j)).toArray 114)) := qX
  refine fixed_spec ok fun w2 hx5 => ?_
  have hx6 := hx4.trans hx5 (by simp)
  have hx7 := hx'.trans hx6 (by simp)
  have k3 := hx6.at h3 (by simp)
  have kr := hx5.at (b := w'.heap.size) (o := .cells (rwC (row j)).toArray 114 (0, 0)) (by first | with_reducible rfl | assumption | (simp (disch := first | exact qD8 | fail) only [qG1, Nat.reduceAdd, Nat.reduceLeDiff, Int.reduceToNat, Int.reduceAdd, Int.reduceSub, Int.reduceLT, Int.reduceLE, Nat.reduceSub, Nat.reduceMul, Nat.reduceEqDiff] <;> rfl)) (by simp)
  have hand : bitI .and .u64 (W : Int) (fixM (row j) : Nat) = ((W &&& fixM (row j) : Nat) : Int) := by
   rw [and_u64 (by omega) (by omega)]
   simp
  have hal : W &&& fixM (row j) <= W := Nat.and_le_left
  by_cases hjk : W &&& fixM (row j) = fixW (row j)
  ·rw [if_pos hjk] at hR
   have hn2 : ((W &&& fixM (row j) : Nat) : Int) = ((fixW (row j) : Nat) : Int) := by rw [hjk]
   simp (disch := first | exact qD8 | fail) only [qG1, Nat.reduceAdd, Nat.reduceLeDiff, Int.reduceToNat, Int.reduceAdd, Int.reduceSub, Int.reduceLT, Int.reduceLE, Nat.reduceSub, Nat.reduceMul, Nat.reduceEqDiff, hand, hn2]
   have hof : ofK W j = ⟨(j : Int) + 1, if (hasS (row j).s).1 then ((W / 2 ^ 7 % 2 ^ 5 : Nat) : Int) else 0, if (hasS (row j).s).2.1 then ((W / 2 ^ 15 % 2 ^ 5 : Nat) : Int) else 0, if (hasS (row j).s).2.2 then ((W / 2 ^ 20 % 2 ^ 5 : Nat) : Int) else 0, readL (laidS (row j).s).1 (laidS (row j).s).2.1 (laidS (row j).s).2.2.1 W⟩ := rfl
   rw [hR] at hK
   rw [hof] at hK
   clear hR hof
   have hpc := pcs_okA hsh
   obtain ⟨hb0, hb1, hb2, hb3⟩ := laid_bits hsh
   have r1 : (rwC (row j))[1]? = some (.int .u8 ((row j).s : Nat)) := rfl
   simp (disch := first | exact qD8 | fail) only [qG1, Nat.reduceAdd, Nat.reduceLeDiff, Int.reduceToNat, Int.reduceAdd, Int.reduceSub, Int.reduceLT, Int.reduceLE, Nat.reduceSub, Nat.reduceMul, Nat.reduceEqDiff, kr, r1]
   have lr := lt_of_at kr
   have l3' := lt_of_at k3
   generalize (row j).s = s at *
   refine laidG_spec hsh fun a n c w3 hn hv hx8 => ?_
   subst hn
   simp (disch := first | exact qD8 | fail) only [qG1, Nat.reduceAdd, Nat.reduceLeDiff, Int.reduceToNat, Int.reduceAdd, Int.reduceSub, Int.reduceLT, Int.reduceLE, Nat.reduceSub, Nat.reduceMul, Nat.reduceEqDiff]
   refine readG_spec hv hpc (by omega) hb3 fun w4 hx9 => ?_
   generalize readL (laidS s).1 (laidS s).2.1 (laidS s).2.2.1 W = im at *
   have hb : ∀ (x y : Int) (w : World), (Instr.build 46 #[(0, .int .i64 x), (4, .int .i64 y)]).run Tryz.prog w = .ok (.agg [.int .i64 x, .int .i64 0, .int .i64 0, .int .i64 0, .int .i64 y].toArray) w := fun x y w => run_build w 46 _ _ (by kernel_rfl)
   have hbb : ∀ (w : World), (Instr.build 46 #[(0, .int .i64 ((j : Nat) + 1 : Int)), (4, .int .i64 im)]).run Tryz.prog w = .ok (.agg (izC ⟨(j : Int) + 1, 0, 0, 0, im⟩).toArray) w := fun w => hb _ _ w
   have hxb := hx8.trans hx9 (by simp)
   have m3 := hxb.at k3 (by simp)
   have mr := hxb.at kr (by simp)
   have lm3 := lt_of_at m3
   have lmr := lt_of_at mr
   simp (disch := first | exact qD8 | fail) only [qG1, Nat.reduceAdd, Nat.reduceLeDiff, Int.reduceToNat, Int.reduceAdd, Int.reduceSub, Int.reduceLT, Int.reduceLE, Nat.reduceSub, Nat.reduceMul, Nat.reduceEqDiff, hbb, z1, z2, mr, r1]
   refine hasG_spec hsh ?_
   generalize hasS s = h at *
   obtain ⟨t1, t2, t3⟩ := h
   dsimp only at hK ⊢
   have hxc : Ext [] w (w4.alloc (.cells (izC ⟨(j : Int) + 1, 0, 0, 0, im⟩).toArray 46)) := by
    have := hx7.trans hxb (by simp)
    exact qX
   have q3 : (w4.alloc (.cells (izC ⟨(j : Int) + 1, 0, 0, 0, im⟩).toArray 46)).heap[w.heap.size]? = some (.cells [.int .i64 0, .int .i64 0, .int .i64 0, .int .i64 0, .int .i64 0].toArray 46 (0, 0)) := (by first | with_reducible rfl | assumption | (simp (disch := first | exact qD8 | fail) only [qG1, Nat.reduceAdd, Nat.reduceLeDiff, Int.reduceToNat, Int.reduceAdd, Int.reduceSub, Int.reduceLT, Int.reduceLE, Nat.reduceSub, Nat.reduceMul, Nat.reduceEqDiff, m3] <;> rfl))
   have q9 : (w4.alloc (.cells (izC ⟨(j : Int) + 1, 0, 0, 0, im⟩).toArray 46)).heap[w4.heap.size]? = some (.cells (izC ⟨(j : Int) + 1, 0, 0, 0, im⟩).toArray 46 (0, 0)) := (by first | with_reducible rfl | assumption | (simp (disch := first | exact qD8 | fail) only [qG1, Nat.reduceAdd, Nat.reduceLeDiff, Int.reduceToNat, Int.reduceAdd, Int.reduceSub, Int.reduceLT, Int.reduceLE, Nat.reduceSub, Nat.reduceMul, Nat.reduceEqDiff] <;> rfl))
   have hw4 : w.heap.size < w4.heap.size := by omega
   obtain ⟨b9, hb9⟩ : ∃ b9, b9 = w4.heap.size := ⟨_, rfl⟩
   rw [<- hb9] at q9 hw4 ⊢
   simp (disch := first | exact qD8 | fail) only [qG1, Nat.reduceAdd, Nat.reduceLeDiff, Int.reduceToNat, Int.reduceAdd, Int.reduceSub, Int.reduceLT, Int.reduceLE, Nat.reduceSub, Nat.reduceMul, Nat.reduceEqDiff]
   generalize (w4.alloc (.cells (izC ⟨(j : Int) + 1, 0, 0, 0, im⟩).toArray 46)) = w5 at *
   have p5 : (2 : Nat) ^ 5 = 32 := by decide
   have e7 : ((7 : Int).toNat) = 7 := rfl
   have e15 : ((15 : Int).toNat) = 15 := rfl
   have e20 : ((20 : Int).toNat) = 20 := rfl
   have e5 : ((5 : Int).toNat) = 5 := rfl
   have hne9 : w.heap.size ≠ b9 := by omega
   have hbw : w.heap.size <= b9 := by omega
   have s1 : ∀ (o r1 r2 x v : Int), (izC ⟨o, 0, r1, r2, x⟩).set 1 (.int .i64 v) = izC ⟨o, v, r1, r2, x⟩ := fun _ _ _ _ _ => rfl
   have s2 : ∀ (o rd r2 x v : Int), (izC ⟨o, rd, 0, r2, x⟩).set 2 (.int .i64 v) = izC ⟨o, rd, v, r2, x⟩ := fun _ _ _ _ _ => rfl
   have s3 : ∀ (o rd r1 x v : Int), (izC ⟨o, rd, r1, 0, x⟩).set 3 (.int .i64 v) = izC ⟨o, rd, r1, v, x⟩ := fun _ _ _ _ _ => rfl
   have f1 : W / 2 ^ 7 % 2 ^ 5 < 2 ^ 5 := Nat.mod_lt _ (Nat.two_pow_pos _)
   have f2 : W / 2 ^ 15 % 2 ^ 5 < 2 ^ 5 := Nat.mod_lt _ (Nat.two_pow_pos _)
   have f3 : W / 2 ^ 20 % 2 ^ 5 < 2 ^ 5 := Nat.mod_lt _ (Nat.two_pow_pos _)
   obtain ⟨y1, hy1⟩ : ∃ y, y = W / 2 ^ 7 % 2 ^ 5 := ⟨_, rfl⟩
   obtain ⟨y2, hy2⟩ : ∃ y, y = W / 2 ^ 15 % 2 ^ 5 := ⟨_, rfl⟩
   obtain ⟨y3, hy3⟩ : ∃ y, y = W / 2 ^ 20 % 2 ^ 5 := ⟨_, rfl⟩
   rw [<- hy1, <- hy2, <- hy3] at hK
   rw [<- hy1, p5] at f1
   rw [<- hy2, p5] at f2
   rw [<- hy3, p5] at f3
   refine joinL.intro fun J2 hJ2 => ?_
   have g2 : ∀ (w6 : World) (rd : Int), rd = (if t1 = true then (y1 : Int) else 0) -> w6.heap[b9]? = some (.cells (izC ⟨(j : Int) + 1, rd, 0, 0, im⟩).toArray 46 (0, 0)) -> w6.heap[w.heap.size]? = some (.cells [.int .i64 0, .int .i64 0, .int .i64 0, .int .i64 0, .int .i64 0].toArray 46 (0, 0)) -> Ext [] w w6 -> J2 [] w6 := by
    intro w6 rd hrd a1 a2 a3
    rw [<- hrd] at hK
    apply hJ2
    intro _
    refine joinL.intro fun J4 hJ4 => ?_
    have g4 : ∀ (w7 : World) (rb : Int), rb = (if t2 = true then (y2 : Int) else 0) -> w7.heap[b9]? = some (.cells (izC ⟨(j : Int) + 1, rd, rb, 0, im⟩).toArray 46 (0, 0)) -> w7.heap[w.heap.size]? = some (.cells [.int .i64 0, .int .i64 0, .int .i64 0, .int .i64 0, .int .i64 0].toArray 46 (0, 0)) -> Ext [] w w7 -> J4 [] w7 := by
     intro w7 rb hrb c1 c2 c3
     rw [<- hrb] at hK
     apply hJ4
     intro _
     refine joinL.intro fun J6 hJ6 => ?_
     have g6 : ∀ (w8 : World) (rc : Int), rc = (if t3 = true then (y3 : Int) else 0) -> w8.heap[b9]? = some (.cells (izC ⟨(j : Int) + 1, rd, rb, rc, im⟩).toArray 46 (0, 0)) -> w8.heap[w.heap.size]? = some (.cells [.int .i64 0, .int .i64 0, .int .i64 0, .int .i64 0, .int .i64 0].toArray 46 (0, 0)) -> Ext [] w w8 -> J6 [] w8 := by
      intro w8 rc hrc d1 d2 d3
      rw [<- hrc] at hK
      apply hJ6
      intro _
      have ld1 := lt_of_at d1
      have ld2 := lt_of_at d2
      simp (disch := first | exact qD8 | fail) only [qG1, Nat.reduceAdd, Nat.reduceLeDiff, Int.reduceToNat, Int.reduceAdd, Int.reduceSub, Int.reduceLT, Int.reduceLE, Nat.reduceSub, Nat.reduceMul, Nat.reduceEqDiff, d1, d2, izC_sub, z1, z2]
      exact hK _ qX
     cases t3 with
     | true =>
      refine .inl ⟨rfl, ?_⟩
      simp (disch := first | exact qD8 | fail) only [qG1, Nat.reduceAdd, Nat.reduceLeDiff, Int.reduceToNat, Int.reduceAdd, Int.reduceSub, Int.reduceLT, Int.reduceLE, Nat.reduceSub, Nat.reduceMul, Nat.reduceEqDiff]
      refine fGet_spec (by decide) (by decide) (by decide) (by omega) fun w8 hx10 => ?_
      rw [e20, e5, <- hy3]
      have d1 := hx10.at c1 (by simp)
      have d2 := hx10.at c2 (by simp)
      have ld1 := lt_of_at d1
      simp (disch := first | exact qD8 | fail) only [qG1, Nat.reduceAdd, Nat.reduceLeDiff, Int.reduceToNat, Int.reduceAdd, Int.reduceSub, Int.reduceLT, Int.reduceLE, Nat.reduceSub, Nat.reduceMul, Nat.reduceEqDiff, d1, s3]
      exact g6 _ y3 rfl (upd_at d1) ((upd_ne hne9).trans d2) ((c3.trans hx10 (by simp)).upd _ (.inr hbw))
     | false =>
      refine .inr ⟨rfl, ?_⟩
      exact g6 w7 0 rfl c1 c2 c3
    cases t2 with
    | true =>
     refine .inl ⟨rfl, ?_⟩
     simp (disch := first | exact qD8 | fail) only [qG1, Nat.reduceAdd, Nat.reduceLeDiff, Int.reduceToNat, Int.reduceAdd, Int.reduceSub, Int.reduceLT, Int.reduceLE, Nat.reduceSub, Nat.reduceMul, Nat.reduceEqDiff]
     refine fGet_spec (by decide) (by decide) (by decide) (by omega) fun w8 hx10 => ?_
     rw [e15, e5, <- hy2]
     have d1 := hx10.at a1 (by simp)
     have d2 := hx10.at a2 (by simp)
     have ld1 := lt_of_at d1
     simp (disch := first | exact qD8 | fail) only [qG1, Nat.reduceAdd, Nat.reduceLeDiff, Int.reduceToNat, Int.reduceAdd, Int.reduceSub, Int.reduceLT, Int.reduceLE, Nat.reduceSub, Nat.reduceMul, Nat.reduceEqDiff, d1, s2]
     exact g4 _ y2 rfl (upd_at d1) ((upd_ne hne9).trans d2) ((a3.trans hx10 (by simp)).upd _ (.inr hbw))
    | false =>
     refine .inr ⟨rfl, ?_⟩
     exact g4 w6 0 rfl a1 a2 a3
   cases t1 with
   | true =>
    refine .inl ⟨rfl, ?_⟩
    simp (disch := first | exact qD8 | fail) only [qG1, Nat.reduceAdd, Nat.reduceLeDiff, Int.reduceToNat, Int.reduceAdd, Int.reduceSub, Int.reduceLT, Int.reduceLE, Nat.reduceSub, Nat.reduceMul, Nat.reduceEqDiff]
    refine fGet_spec (by decide) (by decide) (by decide) (by omega) fun w8 hx10 => ?_
    rw [e7, e5, <- hy1]
    have d1 := hx10.at q9 (by simp)
    have d2 := hx10.at q3 (by simp)
    have ld1 := lt_of_at d1
    simp (disch := first | exact qD8 | fail) only [qG1, Nat.reduceAdd, Nat.reduceLeDiff, Int.reduceToNat, Int.reduceAdd, Int.reduceSub, Int.reduceLT, Int.reduceLE, Nat.reduceSub, Nat.reduceMul, Nat.reduceEqDiff, d1, s1]
    exact g2 _ y1 rfl (upd_at d1) ((upd_ne hne9).trans d2) ((hxc.trans hx10 (by simp)).upd _ (.inr hbw))
   | false =>
    refine .inr ⟨rfl, ?_⟩
    exact g2 w5 0 rfl q9 q3 hxc
  ·rw [if_neg hjk] at hR
   have hn2 : ((W &&& fixM (row j) : Nat) : Int) ≠ ((fixW (row j) : Nat) : Int) := by omega
   simp (disch := first | exact qD8 | fail) only [qG1, Nat.reduceAdd, Nat.reduceLeDiff, Int.reduceToNat, Int.reduceAdd, Int.reduceSub, Int.reduceLT, Int.reduceLE, Nat.reduceSub, Nat.reduceMul, Nat.reduceEqDiff, hand]
   exact ⟨⟨j + 1, by omega, rfl, hR, k3, hx7⟩, by first | omega | (simp <;> omega)⟩
 ·obtain rfl : j = 69 := by omega
  have hR0 : R = (⟨0, 0, 0, 0, 0⟩, false) := hR
  rw [hR0] at hK
  dsimp only at hK
  rw [hz0] at hK
  simp (disch := first | exact qD8 | fail) only [qG1, Nat.reduceAdd, Nat.reduceLeDiff, Int.reduceToNat, Int.reduceAdd, Int.reduceSub, Int.reduceLT, Int.reduceLE, Nat.reduceSub, Nat.reduceMul, Nat.reduceEqDiff, h3]
  exact hK _ qX
open Go.Fx
set_option maxRecDepth 100000
theorem and_field (W p k : Nat) : W &&& ((2 ^ k - 1) * 2 ^ p) = W / 2 ^ p % 2 ^ k * 2 ^ p := by
 apply Nat.eq_of_testBit_eq
 intro i
 rw [Nat.testBit_and, Nat.mul_comm (2 ^ k - 1), Nat.mul_comm (W / 2 ^ p % 2 ^ k), Nat.testBit_two_pow_mul, Nat.testBit_two_pow_mul, Nat.testBit_two_pow_sub_one, Nat.testBit_mod_two_pow, Nat.testBit_div_two_pow]
 by_cases h : i ≥ p
 ·by_cases h2 : i - p < k
  ·simp [h, h2, Nat.sub_add_cancel h]
  ·simp [h, h2]
 ·simp [h]
theorem and_plus {W m n p : Nat} (hm : m < 2 ^ p) : W &&& (2 ^ p * n + m) = (W &&& (2 ^ p * n)) + (W &&& m) := by
 have h1 := Nat.two_pow_add_eq_or_of_lt hm n
 rw [h1, Nat.and_or_distrib_left]
 have hlt : W &&& m < 2 ^ p := Nat.lt_of_le_of_lt Nat.and_le_right hm
 have hd : ∃ t, W &&& (2 ^ p * n) = 2 ^ p * t := by
  refine ⟨W / 2 ^ p &&& n, ?_⟩
  apply Nat.eq_of_testBit_eq
  intro i
  rw [Nat.testBit_and, Nat.testBit_two_pow_mul, Nat.testBit_two_pow_mul, Nat.testBit_and, Nat.testBit_div_two_pow]
  by_cases h : i ≥ p
  ·simp [h, Nat.sub_add_cancel h]
  ·simp [h]
 obtain ⟨t, ht⟩ := hd
 rw [ht, <- Nat.two_pow_add_eq_or_of_lt hlt]
theorem m1 (W a b : Nat) (hab : a <= b) (k : Nat) (m : Nat) (hm : m < 2 ^ b) : W &&& (m + (2 ^ k - 1) * 2 ^ b) = (W &&& m) + W / 2 ^ b % 2 ^ k * 2 ^ b := by
 rw [Nat.add_comm m, Nat.mul_comm (2 ^ k - 1), and_plus hm, Nat.mul_comm (2 ^ b), and_field]
 omega
theorem and_I (W : Nat) : W &&& (127 + 7 * 4096) = W % 128 + W / 4096 % 8 * 4096 := by
 have h := m1 W 7 12 (by decide) 3 127 (by decide)
 have e := Nat.and_two_pow_sub_one_eq_mod W 7
 have h1 : (2 ^ 3 - 1) * 2 ^ 12 = 7 * 4096 := by decide
 rw [h1] at h
 rw [h]
 have e2 : (2 : Nat) ^ 7 - 1 = 127 := by decide
 rw [e2] at e
 rw [e]
theorem and_U (W : Nat) : W &&& 127 = W % 128 := by
 have e := Nat.and_two_pow_sub_one_eq_mod W 7
 exact e
theorem and_R (W : Nat) : W &&& (127 + 7 * 4096 + 127 * 33554432) = W % 128 + W / 4096 % 8 * 4096 + W / 33554432 % 128 * 33554432 := by
 have h := m1 W 7 25 (by decide) 7 (127 + 7 * 4096) (by decide)
 have h1 : (2 ^ 7 - 1) * 2 ^ 25 = 127 * 33554432 := by decide
 rw [h1] at h
 rw [h, and_I]
theorem and_G (W : Nat) : W &&& (127 + 7 * 4096 + 31 * 1048576 + 127 * 33554432) = W % 128 + W / 4096 % 8 * 4096 + W / 1048576 % 32 * 1048576 + W / 33554432 % 128 * 33554432 := by
 have h := m1 W 7 25 (by decide) 7 (127 + 7 * 4096 + 31 * 1048576) (by decide)
 have h1 : (2 ^ 7 - 1) * 2 ^ 25 = 127 * 33554432 := by decide
 rw [h1] at h
 have k := m1 W 7 20 (by decide) 5 (127 + 7 * 4096) (by decide)
 have k1 : (2 ^ 5 - 1) * 2 ^ 20 = 31 * 1048576 := by decide
 rw [k1] at k
 rw [h, k, and_I]
theorem and_H (W : Nat) : W &&& (127 + 7 * 4096 + 63 * 67108864) = W % 128 + W / 4096 % 8 * 4096 + W / 67108864 % 64 * 67108864 := by
 have h := m1 W 7 26 (by decide) 6 (127 + 7 * 4096) (by decide)
 have h1 : (2 ^ 6 - 1) * 2 ^ 26 = 63 * 67108864 := by decide
 rw [h1] at h
 rw [h, and_I]
theorem and_N (W : Nat) : W &&& (127 + 8191 * 128 + 4095 * 1048576) = W % 128 + W / 128 % 8192 * 128 + W / 1048576 % 4096 * 1048576 := by
 have h := m1 W 7 20 (by decide) 12 (127 + 8191 * 128) (by decide)
 have h1 : (2 ^ 12 - 1) * 2 ^ 20 = 4095 * 1048576 := by decide
 rw [h1] at h
 have k := m1 W 7 7 (by decide) 13 127 (by decide)
 have k1 : (2 ^ 13 - 1) * 2 ^ 7 = 8191 * 128 := by decide
 rw [k1] at k
 rw [h, k, and_U]
def Msh (s : Nat) : Nat := if s = 85 ∨ s = 74 then 127 else if s = 78 then 127 + 8191 * 128 + 4095 * 1048576 else if s = 82 then 127 + 7 * 4096 + 127 * 33554432 else if s = 71 then 127 + 7 * 4096 + 31 * 1048576 + 127 * 33554432 else if s = 72 then 127 + 7 * 4096 + 63 * 67108864 else 127 + 7 * 4096
def Wsh (r : Rw) : Nat := if r.s = 85 ∨ r.s = 74 then r.c else if r.s = 78 then r.c + r.o * 1048576 else if r.s = 82 then r.c + r.f * 4096 + r.o * 33554432 else if r.s = 71 then r.c + r.f * 4096 + r.o * 1048576 + 127 * 33554432 else if r.s = 72 then r.c + r.f * 4096 + r.o * 67108864 else r.c + r.f * 4096
def factB (r : Rw) : Bool := decide (fixM r = Msh r.s /\ fixW r = Wsh r /\ r.c < 128 /\ r.f < 8 /\ (r.s = 82 -> r.o < 128) /\ (r.s = 71 -> r.o < 32) /\ (r.s = 72 -> r.o < 64) /\ (r.s = 78 -> r.o < 4096))
theorem facts_all : rowI.all factB = true := by kernel_rfl
theorem row_fact {k : Nat} (h : k < 69) : fixM (row k) = Msh (row k).s /\ fixW (row k) = Wsh (row k) /\ (row k).c < 128 /\ (row k).f < 8 /\ ((row k).s = 82 -> (row k).o < 128) /\ ((row k).s = 71 -> (row k).o < 32) /\ ((row k).s = 72 -> (row k).o < 64) /\ ((row k).s = 78 -> (row k).o < 4096) := by
 have := List.all_eq_true.1 facts_all _ (row_mem h)
 unfold factB at this
 rwa [decide_eq_true_eq] at this
theorem un_read {ps : List (Nat × Nat × Nat)} {bits W : Nat} {sg : Bool} (h : ps.foldl (readX W) 0 < 18446744073709551616) (hb : sg = true -> 1 <= bits /\ bits <= 64) : un (readL ps bits sg W) = if sg then signN (ps.foldl (readX W) 0) bits else ps.foldl (readX W) 0 := by
 unfold readL
 generalize ps.foldl (readX W) 0 = x at *
 have key : ∀ y : Nat, y < 18446744073709551616 -> un (if y < 9223372036854775808 then (y : Int) else (y : Int) - 18446744073709551616) = y := by
  intro y hy
  unfold un
  split <;> omega
 dsimp only
 cases sg with
 | false => exact key x h
 | true => exact key _ (signN_lt (hb rfl))
theorem low_bits {x y b f n : Nat} (h : f + n <= b) (he : x % 2 ^ b = y % 2 ^ b) : x / 2 ^ f % 2 ^ n = y / 2 ^ f % 2 ^ n := by
 apply Nat.eq_of_testBit_eq
 intro i
 rw [Nat.testBit_mod_two_pow, Nat.testBit_mod_two_pow, Nat.testBit_div_two_pow, Nat.testBit_div_two_pow]
 by_cases hi : i < n
 ·have h1 : (x % 2 ^ b).testBit (i + f) = (y % 2 ^ b).testBit (i + f) := by rw [he]
  rw [Nat.testBit_mod_two_pow, Nat.testBit_mod_two_pow] at h1
  have : i + f < b := by omega
  simpa [this, hi] using h1
 ·simp [hi]
theorem sign_low {x b : Nat} (h : 1 <= b /\ b <= 64) : signN x b % 2 ^ b = x % 2 ^ b := by
 have e64 : (18446744073709551616 : Nat) = 2 ^ b * 2 ^ (64 - b) := by
  rw [<- Nat.pow_add, show b + (64 - b) = 64 by omega]
 unfold signN
 split
 ·rw [Nat.mod_mod]
 ·have hg := Nat.two_pow_pos (64 - b)
  have e : 18446744073709551616 - 2 ^ b = 2 ^ b * (2 ^ (64 - b) - 1) := by
   rw [Nat.mul_sub, Nat.mul_one, <- e64]
  rw [e, Nat.add_mul_mod_self_left, Nat.mod_mod]
theorem sign_piece {x b f n : Nat} (h : 1 <= b /\ b <= 64) (hf : f + n <= b) : signN x b / 2 ^ f % 2 ^ n = x / 2 ^ f % 2 ^ n := low_bits hf (sign_low h)
theorem un_small {n : Nat} (h : n < 18446744073709551616) : un (n : Int) = n := by
 unfold un
 omega
open Go.Fx
set_option maxRecDepth 100000
theorem mid_eq {hi v lo a k : Nat} (hlo : lo < 2 ^ a) (hv : v < 2 ^ k) : (2 ^ (a + k) * hi + (2 ^ a * v + lo)) / 2 ^ a = 2 ^ k * hi + v /\ (2 ^ (a + k) * hi + (2 ^ a * v + lo)) % 2 ^ a = lo /\ (2 ^ (a + k) * hi + (2 ^ a * v + lo)) / 2 ^ (a + k) = hi := by
 have ha := Nat.two_pow_pos a
 have hk := Nat.two_pow_pos k
 have e : 2 ^ (a + k) * hi + (2 ^ a * v + lo) = lo + 2 ^ a * (2 ^ k * hi + v) := by
  rw [Nat.pow_add, Nat.mul_add, Nat.mul_assoc]
  omega
 have h1 : (2 ^ (a + k) * hi + (2 ^ a * v + lo)) / 2 ^ a = 2 ^ k * hi + v := by
  rw [e, Nat.add_mul_div_left _ _ ha, Nat.div_eq_of_lt hlo, Nat.zero_add]
 refine ⟨h1, ?_, ?_⟩
 ·rw [e, Nat.add_mul_mod_self_left, Nat.mod_eq_of_lt hlo]
 ·rw [Nat.pow_add, <- Nat.div_div_eq_div_mul, <- Nat.pow_add, h1, Nat.add_comm, Nat.add_mul_div_left _ _ hk, Nat.div_eq_of_lt hv, Nat.zero_add]
theorem fld_mid {W hi v lo a k : Nat} (hW : W = 2 ^ (a + k) * hi + (2 ^ a * v + lo)) (hlo : lo < 2 ^ a) (hv : v < 2 ^ k) : W / 2 ^ a % 2 ^ k = v := by
 rw [hW, (mid_eq hlo hv).1, Nat.add_comm, Nat.add_mul_mod_self_left, Nat.mod_eq_of_lt hv]
theorem put_mid {x hi lo a k v : Nat} (hx : x = 2 ^ (a + k) * hi + lo) (hlo : lo < 2 ^ a) (hv : v < 2 ^ k) : putB x a k v = 2 ^ (a + k) * hi + (2 ^ a * v + lo) := by
 have h0 : (0 : Nat) < 2 ^ k := Nat.two_pow_pos k
 have h := mid_eq (hi := hi) (v := 0) hlo h0
 rw [Nat.mul_zero, Nat.zero_add] at h
 unfold putB
 rw [hx, h.2.1, h.2.2, Nat.mod_eq_of_lt hv, Nat.mul_comm hi, Nat.mul_comm v]
 omega
theorem lp_73 : (laidS 73).1 = [(0, 12, 20)] := rfl
theorem v0_73 {w0 w1 w2 w3 w4 : Nat} (h0 : w0 < 128) (h1 : w1 < 32) (h2 : w2 < 8) (h3 : w3 < 32) (h4 : w4 < 4096) : (w0 + 128 * w1 + 4096 * w2 + 32768 * w3 + 1048576 * w4) / 2 ^ 20 % 2 ^ 12 = w4 := fld_mid (hi := 0) (lo := w0 + 128 * w1 + 4096 * w2 + 32768 * w3) (by first | (simp only [Nat.reduceAdd, Nat.reducePow]; omega) | (simp only [Nat.reduceAdd, Nat.reducePow]; done) | omega) (by first | (simp only [Nat.reduceAdd, Nat.reducePow]; omega) | (simp only [Nat.reduceAdd, Nat.reducePow]; done) | omega) (by first | (simp only [Nat.reduceAdd, Nat.reducePow]; omega) | (simp only [Nat.reduceAdd, Nat.reducePow]; done) | omega)
theorem s0_73 {w0 w1 w2 w3 w4 : Nat} (h0 : w0 < 128) (h1 : w1 < 32) (h2 : w2 < 8) (h3 : w3 < 32) (h4 : w4 < 4096) : putB (0) 0 12 w4 = w4 := (put_mid (hi := 0) (lo := 0) (by first | (simp only [Nat.reduceAdd, Nat.reducePow]; omega) | (simp only [Nat.reduceAdd, Nat.reducePow]; done) | omega) (by first | (simp only [Nat.reduceAdd, Nat.reducePow]; omega) | (simp only [Nat.reduceAdd, Nat.reducePow]; done) | omega) (by first | (simp only [Nat.reduceAdd, Nat.reducePow]; omega) | (simp only [Nat.reduceAdd, Nat.reducePow]; done) | omega)).trans (by first | (simp only [Nat.reduceAdd, Nat.reducePow]; omega) | (simp only [Nat.reduceAdd, Nat.reducePow]; done) | omega)
theorem x_73 {W w0 w1 w2 w3 w4 : Nat} (hW : W = w0 + 128 * w1 + 4096 * w2 + 32768 * w3 + 1048576 * w4) (h0 : w0 < 128) (h1 : w1 < 32) (h2 : w2 < 8) (h3 : w3 < 32) (h4 : w4 < 4096) : (laidS 73).1.foldl (readX W) 0 = w4 := by
 rw [lp_73]
 have v0 : W / 2 ^ 20 % 2 ^ 12 = w4 := by rw [hW]; exact v0_73 h0 h1 h2 h3 h4
 have s0 : putB (0) 0 12 w4 = w4 := s0_73 h0 h1 h2 h3 h4
 have e0 : ∀ x, readX W x (0, 12, 20) = putB x 0 12 (W / 2 ^ 20 % 2 ^ 12) := fun _ => rfl
 rw [List.foldl_cons, List.foldl_nil, e0, v0, s0]
theorem z0_73 {w0 w1 w2 w3 w4 : Nat} (h0 : w0 < 128) (h1 : w1 < 32) (h2 : w2 < 8) (h3 : w3 < 32) (h4 : w4 < 4096) : (w4) / 2 ^ 0 % 2 ^ 12 = w4 := fld_mid (hi := 0) (lo := 0) (by first | (simp only [Nat.reduceAdd, Nat.reducePow]; omega) | (simp only [Nat.reduceAdd, Nat.reducePow]; done) | omega) (by first | (simp only [Nat.reduceAdd, Nat.reducePow]; omega) | (simp only [Nat.reduceAdd, Nat.reducePow]; done) | omega) (by first | (simp only [Nat.reduceAdd, Nat.reducePow]; omega) | (simp only [Nat.reduceAdd, Nat.reducePow]; done) | omega)
theorem l0_73 {w0 w1 w2 w3 w4 : Nat} (h0 : w0 < 128) (h1 : w1 < 32) (h2 : w2 < 8) (h3 : w3 < 32) (h4 : w4 < 4096) : putB (w0 + 4096 * w2) 20 12 w4 = w0 + 4096 * w2 + 1048576 * w4 := (put_mid (hi := 0) (lo := w0 + 4096 * w2) (by first | (simp only [Nat.reduceAdd, Nat.reducePow]; omega) | (simp only [Nat.reduceAdd, Nat.reducePow]; done) | omega) (by first | (simp only [Nat.reduceAdd, Nat.reducePow]; omega) | (simp only [Nat.reduceAdd, Nat.reducePow]; done) | omega) (by first | (simp only [Nat.reduceAdd, Nat.reducePow]; omega) | (simp only [Nat.reduceAdd, Nat.reducePow]; done) | omega)).trans (by first | (simp only [Nat.reduceAdd, Nat.reducePow]; omega) | (simp only [Nat.reduceAdd, Nat.reducePow]; done) | omega)
theorem g7_73 {w0 w1 w2 w3 w4 : Nat} (h0 : w0 < 128) (h1 : w1 < 32) (h2 : w2 < 8) (h3 : w3 < 32) (h4 : w4 < 4096) : (w0 + 128 * w1 + 4096 * w2 + 32768 * w3 + 1048576 * w4) / 2 ^ 7 % 2 ^ 5 = w1 := fld_mid (hi := w2 + 8 * w3 + 256 * w4) (lo := w0) (by first | (simp only [Nat.reduceAdd, Nat.reducePow]; omega) | (simp only [Nat.reduceAdd, Nat.reducePow]; done) | omega) (by first | (simp only [Nat.reduceAdd, Nat.reducePow]; omega) | (simp only [Nat.reduceAdd, Nat.reducePow]; done) | omega) (by first | (simp only [Nat.reduceAdd, Nat.reducePow]; omega) | (simp only [Nat.reduceAdd, Nat.reducePow]; done) | omega)
theorem r7_73 {w0 w1 w2 w3 w4 : Nat} (h0 : w0 < 128) (h1 : w1 < 32) (h2 : w2 < 8) (h3 : w3 < 32) (h4 : w4 < 4096) : putB (w0 + 4096 * w2 + 1048576 * w4) 7 5 w1 = w0 + 4096 * w2 + 1048576 * w4 + 128 * w1 := (put_mid (hi := w2 + 256 * w4) (lo := w0) (by first | (simp only [Nat.reduceAdd, Nat.reducePow]; omega) | (simp only [Nat.reduceAdd, Nat.reducePow]; done) | omega) (by first | (simp only [Nat.reduceAdd, Nat.reducePow]; omega) | (simp only [Nat.reduceAdd, Nat.reducePow]; done) | omega) (by first | (simp only [Nat.reduceAdd, Nat.reducePow]; omega) | (simp only [Nat.reduceAdd, Nat.reducePow]; done) | omega)).trans (by first | (simp only [Nat.reduceAdd, Nat.reducePow]; omega) | (simp only [Nat.reduceAdd, Nat.reducePow]; done) | omega)
theorem g15_73 {w0 w1 w2 w3 w4 : Nat} (h0 : w0 < 128) (h1 : w1 < 32) (h2 : w2 < 8) (h3 : w3 < 32) (h4 : w4 < 4096) : (w0 + 128 * w1 + 4096 * w2 + 32768 * w3 + 1048576 * w4) / 2 ^ 15 % 2 ^ 5 = w3 := fld_mid (hi := w4) (lo := w0 + 128 * w1 + 4096 * w2) (by first | (simp only [Nat.reduceAdd, Nat.reducePow]; omega) | (simp only [Nat.reduceAdd, Nat.reducePow]; done) | omega) (by first | (simp only [Nat.reduceAdd, Nat.reducePow]; omega) | (simp only [Nat.reduceAdd, Nat.reducePow]; done) | omega) (by first | (simp only [Nat.reduceAdd, Nat.reducePow]; omega) | (simp only [Nat.reduceAdd, Nat.reducePow]; done) | omega)
theorem r15_73 {w0 w1 w2 w3 w4 : Nat} (h0 : w0 < 128) (h1 : w1 < 32) (h2 : w2 < 8) (h3 : w3 < 32) (h4 : w4 < 4096) : putB (w0 + 4096 * w2 + 1048576 * w4 + 128 * w1) 15 5 w3 = w0 + 4096 * w2 + 1048576 * w4 + 128 * w1 + 32768 * w3 := (put_mid (hi := w4) (lo := w0 + 4096 * w2 + 128 * w1) (by first | (simp only [Nat.reduceAdd, Nat.reducePow]; omega) | (simp only [Nat.reduceAdd, Nat.reducePow]; done) | omega) (by first | (simp only [Nat.reduceAdd, Nat.reducePow]; omega) | (simp only [Nat.reduceAdd, Nat.reducePow]; done) | omega) (by first | (simp only [Nat.reduceAdd, Nat.reducePow]; omega) | (simp only [Nat.reduceAdd, Nat.reducePow]; done) | omega)).trans (by first | (simp only [Nat.reduceAdd, Nat.reducePow]; omega) | (simp only [Nat.reduceAdd, Nat.reducePow]; done) | omega)
theorem w_73 {W w0 w1 w2 w3 w4 : Nat} {im : Int} (hW : W = w0 + 128 * w1 + 4096 * w2 + 32768 * w3 + 1048576 * w4) (h0 : w0 < 128) (h1 : w1 < 32) (h2 : w2 < 8) (h3 : w3 < 32) (h4 : w4 < 4096) (him : un im = signN ((laidS 73).1.foldl (readX W) 0) 12) : [((hasS 73).1, 7, if (hasS 73).1 = true then ((W / 2 ^ 7 % 2 ^ 5 : Nat) : Int) else 0), ((hasS 73).2.1, 15, if (hasS 73).2.1 = true then ((W / 2 ^ 15 % 2 ^ 5 : Nat) : Int) else 0), ((hasS 73).2.2, 20, if (hasS 73).2.2 = true then ((W / 2 ^ 20 % 2 ^ 5 : Nat) : Int) else 0)].foldl stepR ((laidS 73).1.foldl (layB im) (w0 + 4096 * w2)) = W := by
 have hx := x_73 hW h0 h1 h2 h3 h4
 rw [hx] at him
 clear hx
 have eh : hasS 73 = (true, true, false) := rfl
 rw [eh]
 have z0 : (w4) / 2 ^ 0 % 2 ^ 12 = w4 := by exact z0_73 h0 h1 h2 h3 h4
 have u0 : un im / 2 ^ 0 % 2 ^ 12 = w4 := by rw [him, sign_piece (by decide) (by decide)]; exact z0
 have l0 : putB (w0 + 4096 * w2) 20 12 w4 = w0 + 4096 * w2 + 1048576 * w4 := l0_73 h0 h1 h2 h3 h4
 have hl : (laidS 73).1.foldl (layB im) (w0 + 4096 * w2) = w0 + 4096 * w2 + 1048576 * w4 := by
  rw [lp_73]
  have e0 : ∀ x, layB im x (0, 12, 20) = putB x 20 12 (un im / 2 ^ 0 % 2 ^ 12) := fun _ => rfl
  rw [List.foldl_cons, List.foldl_nil, e0, u0, l0]
 rw [hl]
 have g7 : W / 2 ^ 7 % 2 ^ 5 = w1 := by rw [hW]; exact g7_73 h0 h1 h2 h3 h4
 have r7 : putB (w0 + 4096 * w2 + 1048576 * w4) 7 5 w1 = w0 + 4096 * w2 + 1048576 * w4 + 128 * w1 := r7_73 h0 h1 h2 h3 h4
 have q7 : un ((w1 : Nat) : Int) = w1 := un_small (by omega)
 have g15 : W / 2 ^ 15 % 2 ^ 5 = w3 := by rw [hW]; exact g15_73 h0 h1 h2 h3 h4
 have r15 : putB (w0 + 4096 * w2 + 1048576 * w4 + 128 * w1) 15 5 w3 = w0 + 4096 * w2 + 1048576 * w4 + 128 * w1 + 32768 * w3 := r15_73 h0 h1 h2 h3 h4
 have q15 : un ((w3 : Nat) : Int) = w3 := un_small (by omega)
 have ey : ∀ (x a : Nat) (r : Int), stepR x (true, a, r) = putB x a 5 (un r) := fun _ _ _ => rfl
 have en : ∀ (x a : Nat) (r : Int), stepR x (false, a, r) = x := fun _ _ _ => rfl
 dsimp only
 rw [List.foldl_cons, List.foldl_cons, List.foldl_cons, List.foldl_nil, en, ey, ey, if_pos rfl, if_pos rfl, g7, g15, q7, q15, r7, r15]
 rw [hW]
 clear hW
 omega
theorem lp_67 : (laidS 67).1 = [(0, 12, 20)] := rfl
theorem v0_67 {w0 w1 w2 w3 w4 : Nat} (h0 : w0 < 128) (h1 : w1 < 32) (h2 : w2 < 8) (h3 : w3 < 32) (h4 : w4 < 4096) : (w0 + 128 * w1 + 4096 * w2 + 32768 * w3 + 1048576 * w4) / 2 ^ 20 % 2 ^ 12 = w4 := fld_mid (hi := 0) (lo := w0 + 128 * w1 + 4096 * w2 + 32768 * w3) (by first | (simp only [Nat.reduceAdd, Nat.reducePow]; omega) | (simp only [Nat.reduceAdd, Nat.reducePow]; done) | omega) (by first | (simp only [Nat.reduceAdd, Nat.reducePow]; omega) | (simp only [Nat.reduceAdd, Nat.reducePow]; done) | omega) (by first | (simp only [Nat.reduceAdd, Nat.reducePow]; omega) | (simp only [Nat.reduceAdd, Nat.reducePow]; done) | omega)
theorem s0_67 {w0 w1 w2 w3 w4 : Nat} (h0 : w0 < 128) (h1 : w1 < 32) (h2 : w2 < 8) (h3 : w3 < 32) (h4 : w4 < 4096) : putB (0) 0 12 w4 = w4 := (put_mid (hi := 0) (lo := 0) (by first | (simp only [Nat.reduceAdd, Nat.reducePow]; omega) | (simp only [Nat.reduceAdd, Nat.reducePow]; done) | omega) (by first | (simp only [Nat.reduceAdd, Nat.reducePow]; omega) | (simp only [Nat.reduceAdd, Nat.reducePow]; done) | omega) (by first | (simp only [Nat.reduceAdd, Nat.reducePow]; omega) | (simp only [Nat.reduceAdd, Nat.reducePow]; done) | omega)).trans (by first | (simp only [Nat.reduceAdd, Nat.reducePow]; omega) | (simp only [Nat.reduceAdd, Nat.reducePow]; done) | omega)
theorem x_67 {W w0 w1 w2 w3 w4 : Nat} (hW : W = w0 + 128 * w1 + 4096 * w2 + 32768 * w3 + 1048576 * w4) (h0 : w0 < 128) (h1 : w1 < 32) (h2 : w2 < 8) (h3 : w3 < 32) (h4 : w4 < 4096) : (laidS 67).1.foldl (readX W) 0 = w4 := by
 rw [lp_67]
 have v0 : W / 2 ^ 20 % 2 ^ 12 = w4 := by rw [hW]; exact v0_67 h0 h1 h2 h3 h4
 have s0 : putB (0) 0 12 w4 = w4 := s0_67 h0 h1 h2 h3 h4
 have e0 : ∀ x, readX W x (0, 12, 20) = putB x 0 12 (W / 2 ^ 20 % 2 ^ 12) := fun _ => rfl
 rw [List.foldl_cons, List.foldl_nil, e0, v0, s0]
theorem z0_67 {w0 w1 w2 w3 w4 : Nat} (h0 : w0 < 128) (h1 : w1 < 32) (h2 : w2 < 8) (h3 : w3 < 32) (h4 : w4 < 4096) : (w4) / 2 ^ 0 % 2 ^ 12 = w4 := fld_mid (hi := 0) (lo := 0) (by first | (simp only [Nat.reduceAdd, Nat.reducePow]; omega) | (simp only [Nat.reduceAdd, Nat.reducePow]; done) | omega) (by first | (simp only [Nat.reduceAdd, Nat.reducePow]; omega) | (simp only [Nat.reduceAdd, Nat.reducePow]; done) | omega) (by first | (simp only [Nat.reduceAdd, Nat.reducePow]; omega) | (simp only [Nat.reduceAdd, Nat.reducePow]; done) | omega)
theorem l0_67 {w0 w1 w2 w3 w4 : Nat} (h0 : w0 < 128) (h1 : w1 < 32) (h2 : w2 < 8) (h3 : w3 < 32) (h4 : w4 < 4096) : putB (w0 + 4096 * w2) 20 12 w4 = w0 + 4096 * w2 + 1048576 * w4 := (put_mid (hi := 0) (lo := w0 + 4096 * w2) (by first | (simp only [Nat.reduceAdd, Nat.reducePow]; omega) | (simp only [Nat.reduceAdd, Nat.reducePow]; done) | omega) (by first | (simp only [Nat.reduceAdd, Nat.reducePow]; omega) | (simp only [Nat.reduceAdd, Nat.reducePow]; done) | omega) (by first | (simp only [Nat.reduceAdd, Nat.reducePow]; omega) | (simp only [Nat.reduceAdd, Nat.reducePow]; done) | omega)).trans (by first | (simp only [Nat.reduceAdd, Nat.reducePow]; omega) | (simp only [Nat.reduceAdd, Nat.reducePow]; done) | omega)
theorem g7_67 {w0 w1 w2 w3 w4 : Nat} (h0 : w0 < 128) (h1 : w1 < 32) (h2 : w2 < 8) (h3 : w3 < 32) (h4 : w4 < 4096) : (w0 + 128 * w1 + 4096 * w2 + 32768 * w3 + 1048576 * w4) / 2 ^ 7 % 2 ^ 5 = w1 := fld_mid (hi := w2 + 8 * w3 + 256 * w4) (lo := w0) (by first | (simp only [Nat.reduceAdd, Nat.reducePow]; omega) | (simp only [Nat.reduceAdd, Nat.reducePow]; done) | omega) (by first | (simp only [Nat.reduceAdd, Nat.reducePow]; omega) | (simp only [Nat.reduceAdd, Nat.reducePow]; done) | omega) (by first | (simp only [Nat.reduceAdd, Nat.reducePow]; omega) | (simp only [Nat.reduceAdd, Nat.reducePow]; done) | omega)
theorem r7_67 {w0 w1 w2 w3 w4 : Nat} (h0 : w0 < 128) (h1 : w1 < 32) (h2 : w2 < 8) (h3 : w3 < 32) (h4 : w4 < 4096) : putB (w0 + 4096 * w2 + 1048576 * w4) 7 5 w1 = w0 + 4096 * w2 + 1048576 * w4 + 128 * w1 := (put_mid (hi := w2 + 256 * w4) (lo := w0) (by first | (simp only [Nat.reduceAdd, Nat.reducePow]; omega) | (simp only [Nat.reduceAdd, Nat.reducePow]; done) | omega) (by first | (simp only [Nat.reduceAdd, Nat.reducePow]; omega) | (simp only [Nat.reduceAdd, Nat.reducePow]; done) | omega) (by first | (simp only [Nat.reduceAdd, Nat.reducePow]; omega) | (simp only [Nat.reduceAdd, Nat.reducePow]; done) | omega)).trans (by first | (simp only [Nat.reduceAdd, Nat.reducePow]; omega) | (simp only [Nat.reduceAdd, Nat.reducePow]; done) | omega)
theorem g15_67 {w0 w1 w2 w3 w4 : Nat} (h0 : w0 < 128) (h1 : w1 < 32) (h2 : w2 < 8) (h3 : w3 < 32) (h4 : w4 < 4096) : (w0 + 128 * w1 + 4096 * w2 + 32768 * w3 + 1048576 * w4) / 2 ^ 15 % 2 ^ 5 = w3 := fld_mid (hi := w4) (lo := w0 + 128 * w1 + 4096 * w2) (by first | (simp only [Nat.reduceAdd, Nat.reducePow]; omega) | (simp only [Nat.reduceAdd, Nat.reducePow]; done) | omega) (by first | (simp only [Nat.reduceAdd, Nat.reducePow]; omega) | (simp only [Nat.reduceAdd, Nat.reducePow]; done) | omega) (by first | (simp only [Nat.reduceAdd, Nat.reducePow]; omega) | (simp only [Nat.reduceAdd, Nat.reducePow]; done) | omega)
theorem r15_67 {w0 w1 w2 w3 w4 : Nat} (h0 : w0 < 128) (h1 : w1 < 32) (h2 : w2 < 8) (h3 : w3 < 32) (h4 : w4 < 4096) : putB (w0 + 4096 * w2 + 1048576 * w4 + 128 * w1) 15 5 w3 = w0 + 4096 * w2 + 1048576 * w4 + 128 * w1 + 32768 * w3 := (put_mid (hi := w4) (lo := w0 + 4096 * w2 + 128 * w1) (by first | (simp only [Nat.reduceAdd, Nat.reducePow]; omega) | (simp only [Nat.reduceAdd, Nat.reducePow]; done) | omega) (by first | (simp only [Nat.reduceAdd, Nat.reducePow]; omega) | (simp only [Nat.reduceAdd, Nat.reducePow]; done) | omega) (by first | (simp only [Nat.reduceAdd, Nat.reducePow]; omega) | (simp only [Nat.reduceAdd, Nat.reducePow]; done) | omega)).trans (by first | (simp only [Nat.reduceAdd, Nat.reducePow]; omega) | (simp only [Nat.reduceAdd, Nat.reducePow]; done) | omega)
theorem w_67 {W w0 w1 w2 w3 w4 : Nat} {im : Int} (hW : W = w0 + 128 * w1 + 4096 * w2 + 32768 * w3 + 1048576 * w4) (h0 : w0 < 128) (h1 : w1 < 32) (h2 : w2 < 8) (h3 : w3 < 32) (h4 : w4 < 4096) (him : un im = ((laidS 67).1.foldl (readX W) 0)) : [((hasS 67).1, 7, if (hasS 67).1 = true then ((W / 2 ^ 7 % 2 ^ 5 : Nat) : Int) else 0), ((hasS 67).2.1, 15, if (hasS 67).2.1 = true then ((W / 2 ^ 15 % 2 ^ 5 : Nat) : Int) else 0), ((hasS 67).2.2, 20, if (hasS 67).2.2 = true then ((W / 2 ^ 20 % 2 ^ 5 : Nat) : Int) else 0)].foldl stepR ((laidS 67).1.foldl (layB im) (w0 + 4096 * w2)) = W := by
 have hx := x_67 hW h0 h1 h2 h3 h4
 rw [hx] at him
 clear hx
 have eh : hasS 67 = (true, true, false) := rfl
 rw [eh]
 have z0 : (w4) / 2 ^ 0 % 2 ^ 12 = w4 := by exact z0_67 h0 h1 h2 h3 h4
 have u0 : un im / 2 ^ 0 % 2 ^ 12 = w4 := by rw [him]; exact z0
 have l0 : putB (w0 + 4096 * w2) 20 12 w4 = w0 + 4096 * w2 + 1048576 * w4 := l0_67 h0 h1 h2 h3 h4
 have hl : (laidS 67).1.foldl (layB im) (w0 + 4096 * w2) = w0 + 4096 * w2 + 1048576 * w4 := by
  rw [lp_67]
  have e0 : ∀ x, layB im x (0, 12, 20) = putB x 20 12 (un im / 2 ^ 0 % 2 ^ 12) := fun _ => rfl
  rw [List.foldl_cons, List.foldl_nil, e0, u0, l0]
 rw [hl]
 have g7 : W / 2 ^ 7 % 2 ^ 5 = w1 := by rw [hW]; exact g7_67 h0 h1 h2 h3 h4
 have r7 : putB (w0 + 4096 * w2 + 1048576 * w4) 7 5 w1 = w0 + 4096 * w2 + 1048576 * w4 + 128 * w1 := r7_67 h0 h1 h2 h3 h4
 have q7 : un ((w1 : Nat) : Int) = w1 := un_small (by omega)
 have g15 : W / 2 ^ 15 % 2 ^ 5 = w3 := by rw [hW]; exact g15_67 h0 h1 h2 h3 h4
 have r15 : putB (w0 + 4096 * w2 + 1048576 * w4 + 128 * w1) 15 5 w3 = w0 + 4096 * w2 + 1048576 * w4 + 128 * w1 + 32768 * w3 := r15_67 h0 h1 h2 h3 h4
 have q15 : un ((w3 : Nat) : Int) = w3 := un_small (by omega)
 have ey : ∀ (x a : Nat) (r : Int), stepR x (true, a, r) = putB x a 5 (un r) := fun _ _ _ => rfl
 have en : ∀ (x a : Nat) (r : Int), stepR x (false, a, r) = x := fun _ _ _ => rfl
 dsimp only
 rw [List.foldl_cons, List.foldl_cons, List.foldl_cons, List.foldl_nil, en, ey, ey, if_pos rfl, if_pos rfl, g7, g15, q7, q15, r7, r15]
 rw [hW]
 clear hW
 omega
theorem lp_72 : (laidS 72).1 = [(0, 6, 20)] := rfl
theorem v0_72 {w0 w1 w2 w3 w4 w5 : Nat} (h0 : w0 < 128) (h1 : w1 < 32) (h2 : w2 < 8) (h3 : w3 < 32) (h4 : w4 < 64) (h5 : w5 < 64) : (w0 + 128 * w1 + 4096 * w2 + 32768 * w3 + 1048576 * w4 + 67108864 * w5) / 2 ^ 20 % 2 ^ 6 = w4 := fld_mid (hi := w5) (lo := w0 + 128 * w1 + 4096 * w2 + 32768 * w3) (by first | (simp only [Nat.reduceAdd, Nat.reducePow]; omega) | (simp only [Nat.reduceAdd, Nat.reducePow]; done) | omega) (by first | (simp only [Nat.reduceAdd, Nat.reducePow]; omega) | (simp only [Nat.reduceAdd, Nat.reducePow]; done) | omega) (by first | (simp only [Nat.reduceAdd, Nat.reducePow]; omega) | (simp only [Nat.reduceAdd, Nat.reducePow]; done) | omega)
theorem s0_72 {w0 w1 w2 w3 w4 w5 : Nat} (h0 : w0 < 128) (h1 : w1 < 32) (h2 : w2 < 8) (h3 : w3 < 32) (h4 : w4 < 64) (h5 : w5 < 64) : putB (0) 0 6 w4 = w4 := (put_mid (hi := 0) (lo := 0) (by first | (simp only [Nat.reduceAdd, Nat.reducePow]; omega) | (simp only [Nat.reduceAdd, Nat.reducePow]; done) | omega) (by first | (simp only [Nat.reduceAdd, Nat.reducePow]; omega) | (simp only [Nat.reduceAdd, Nat.reducePow]; done) | omega) (by first | (simp only [Nat.reduceAdd, Nat.reducePow]; omega) | (simp only [Nat.reduceAdd, Nat.reducePow]; done) | omega)).trans (by first | (simp only [Nat.reduceAdd, Nat.reducePow]; omega) | (simp only [Nat.reduceAdd, Nat.reducePow]; done) | omega)
theorem x_72 {W w0 w1 w2 w3 w4 w5 : Nat} (hW : W = w0 + 128 * w1 + 4096 * w2 + 32768 * w3 + 1048576 * w4 + 67108864 * w5) (h0 : w0 < 128) (h1 : w1 < 32) (h2 : w2 < 8) (h3 : w3 < 32) (h4 : w4 < 64) (h5 : w5 < 64) : (laidS 72).1.foldl (readX W) 0 = w4 := by
 rw [lp_72]
 have v0 : W / 2 ^ 20 % 2 ^ 6 = w4 := by rw [hW]; exact v0_72 h0 h1 h2 h3 h4 h5
 have s0 : putB (0) 0 6 w4 = w4 := s0_72 h0 h1 h2 h3 h4 h5
 have e0 : ∀ x, readX W x (0, 6, 20) = putB x 0 6 (W / 2 ^ 20 % 2 ^ 6) := fun _ => rfl
 rw [List.foldl_cons, List.foldl_nil, e0, v0, s0]
theorem z0_72 {w0 w1 w2 w3 w4 w5 : Nat} (h0 : w0 < 128) (h1 : w1 < 32) (h2 : w2 < 8) (h3 : w3 < 32) (h4 : w4 < 64) (h5 : w5 < 64) : (w4) / 2 ^ 0 % 2 ^ 6 = w4 := fld_mid (hi := 0) (lo := 0) (by first | (simp only [Nat.reduceAdd, Nat.reducePow]; omega) | (simp only [Nat.reduceAdd, Nat.reducePow]; done) | omega) (by first | (simp only [Nat.reduceAdd, Nat.reducePow]; omega) | (simp only [Nat.reduceAdd, Nat.reducePow]; done) | omega) (by first | (simp only [Nat.reduceAdd, Nat.reducePow]; omega) | (simp only [Nat.reduceAdd, Nat.reducePow]; done) | omega)
theorem l0_72 {w0 w1 w2 w3 w4 w5 : Nat} (h0 : w0 < 128) (h1 : w1 < 32) (h2 : w2 < 8) (h3 : w3 < 32) (h4 : w4 < 64) (h5 : w5 < 64) : putB (w0 + 4096 * w2 + 67108864 * w5) 20 6 w4 = w0 + 4096 * w2 + 67108864 * w5 + 1048576 * w4 := (put_mid (hi := w5) (lo := w0 + 4096 * w2) (by first | (simp only [Nat.reduceAdd, Nat.reducePow]; omega) | (simp only [Nat.reduceAdd, Nat.reducePow]; done) | omega) (by first | (simp only [Nat.reduceAdd, Nat.reducePow]; omega) | (simp only [Nat.reduceAdd, Nat.reducePow]; done) | omega) (by first | (simp only [Nat.reduceAdd, Nat.reducePow]; omega) | (simp only [Nat.reduceAdd, Nat.reducePow]; done) | omega)).trans (by first | (simp only [Nat.reduceAdd, Nat.reducePow]; omega) | (simp only [Nat.reduceAdd, Nat.reducePow]; done) | omega)
theorem g7_72 {w0 w1 w2 w3 w4 w5 : Nat} (h0 : w0 < 128) (h1 : w1 < 32) (h2 : w2 < 8) (h3 : w3 < 32) (h4 : w4 < 64) (h5 : w5 < 64) : (w0 + 128 * w1 + 4096 * w2 + 32768 * w3 + 1048576 * w4 + 67108864 * w5) / 2 ^ 7 % 2 ^ 5 = w1 := fld_mid (hi := w2 + 8 * w3 + 256 * w4 + 16384 * w5) (lo := w0) (by first | (simp only [Nat.reduceAdd, Nat.reducePow]; omega) | (simp only [Nat.reduceAdd, Nat.reducePow]; done) | omega) (by first | (simp only [Nat.reduceAdd, Nat.reducePow]; omega) | (simp only [Nat.reduceAdd, Nat.reducePow]; done) | omega) (by first | (simp only [Nat.reduceAdd, Nat.reducePow]; omega) | (simp only [Nat.reduceAdd, Nat.reducePow]; done) | omega)
theorem r7_72 {w0 w1 w2 w3 w4 w5 : Nat} (h0 : w0 < 128) (h1 : w1 < 32) (h2 : w2 < 8) (h3 : w3 < 32) (h4 : w4 < 64) (h5 : w5 < 64) : putB (w0 + 4096 * w2 + 67108864 * w5 + 1048576 * w4) 7 5 w1 = w0 + 4096 * w2 + 67108864 * w5 + 1048576 * w4 + 128 * w1 := (put_mid (hi := w2 + 16384 * w5 + 256 * w4) (lo := w0) (by first | (simp only [Nat.reduceAdd, Nat.reducePow]; omega) | (simp only [Nat.reduceAdd, Nat.reducePow]; done) | omega) (by first | (simp only [Nat.reduceAdd, Nat.reducePow]; omega) | (simp only [Nat.reduceAdd, Nat.reducePow]; done) | omega) (by first | (simp only [Nat.reduceAdd, Nat.reducePow]; omega) | (simp only [Nat.reduceAdd, Nat.reducePow]; done) | omega)).trans (by first | (simp only [Nat.reduceAdd, Nat.reducePow]; omega) | (simp only [Nat.reduceAdd, Nat.reducePow]; done) | omega)
theorem g15_72 {w0 w1 w2 w3 w4 w5 : Nat} (h0 : w0 < 128) (h1 : w1 < 32) (h2 : w2 < 8) (h3 : w3 < 32) (h4 : w4 < 64) (h5 : w5 < 64) : (w0 + 128 * w1 + 4096 * w2 + 32768 * w3 + 1048576 * w4 + 67108864 * w5) / 2 ^ 15 % 2 ^ 5 = w3 := fld_mid (hi := w4 + 64 * w5) (lo := w0 + 128 * w1 + 4096 * w2) (by first | (simp only [Nat.reduceAdd, Nat.reducePow]; omega) | (simp only [Nat.reduceAdd, Nat.reducePow]; done) | omega) (by first | (simp only [Nat.reduceAdd, Nat.reducePow]; omega) | (simp only [Nat.reduceAdd, Nat.reducePow]; done) | omega) (by first | (simp only [Nat.reduceAdd, Nat.reducePow]; omega) | (simp only [Nat.reduceAdd, Nat.reducePow]; done) | omega)
theorem r15_72 {w0 w1 w2 w3 w4 w5 : Nat} (h0 : w0 < 128) (h1 : w1 < 32) (h2 : w2 < 8) (h3 : w3 < 32) (h4 : w4 < 64) (h5 : w5 < 64) : putB (w0 + 4096 * w2 + 67108864 * w5 + 1048576 * w4 + 128 * w1) 15 5 w3 = w0 + 4096 * w2 + 67108864 * w5 + 1048576 * w4 + 128 * w1 + 32768 * w3 := (put_mid (hi := 64 * w5 + w4) (lo := w0 + 4096 * w2 + 128 * w1) (by first | (simp only [Nat.reduceAdd, Nat.reducePow]; omega) | (simp only [Nat.reduceAdd, Nat.reducePow]; done) | omega) (by first | (simp only [Nat.reduceAdd, Nat.reducePow]; omega) | (simp only [Nat.reduceAdd, Nat.reducePow]; done) | omega) (by first | (simp only [Nat.reduceAdd, Nat.reducePow]; omega) | (simp only [Nat.reduceAdd, Nat.reducePow]; done) | omega)).trans (by first | (simp only [Nat.reduceAdd, Nat.reducePow]; omega) | (simp only [Nat.reduceAdd, Nat.reducePow]; done) | omega)
theorem w_72 {W w0 w1 w2 w3 w4 w5 : Nat} {im : Int} (hW : W = w0 + 128 * w1 + 4096 * w2 + 32768 * w3 + 1048576 * w4 + 67108864 * w5) (h0 : w0 < 128) (h1 : w1 < 32) (h2 : w2 < 8) (h3 : w3 < 32) (h4 : w4 < 64) (h5 : w5 < 64) (him : un im = ((laidS 72).1.foldl (readX W) 0)) : [((hasS 72).1, 7, if (hasS 72).1 = true then ((W / 2 ^ 7 % 2 ^ 5 : Nat) : Int) else 0), ((hasS 72).2.1, 15, if (hasS 72).2.1 = true then ((W / 2 ^ 15 % 2 ^ 5 : Nat) : Int) else 0), ((hasS 72).2.2, 20, if (hasS 72).2.2 = true then ((W / 2 ^ 20 % 2 ^ 5 : Nat) : Int) else 0)].foldl stepR ((laidS 72).1.foldl (layB im) (w0 + 4096 * w2 + 67108864 * w5)) = W := by
 have hx := x_72 hW h0 h1 h2 h3 h4 h5
 rw [hx] at him
 clear hx
 have eh : hasS 72 = (true, true, false) := rfl
 rw [eh]
 have z0 : (w4) / 2 ^ 0 % 2 ^ 6 = w4 := by exact z0_72 h0 h1 h2 h3 h4 h5
 have u0 : un im / 2 ^ 0 % 2 ^ 6 = w4 := by rw [him]; exact z0
 have l0 : putB (w0 + 4096 * w2 + 67108864 * w5) 20 6 w4 = w0 + 4096 * w2 + 67108864 * w5 + 1048576 * w4 := l0_72 h0 h1 h2 h3 h4 h5
 have hl : (laidS 72).1.foldl (layB im) (w0 + 4096 * w2 + 67108864 * w5) = w0 + 4096 * w2 + 67108864 * w5 + 1048576 * w4 := by
  rw [lp_72]
  have e0 : ∀ x, layB im x (0, 6, 20) = putB x 20 6 (un im / 2 ^ 0 % 2 ^ 6) := fun _ => rfl
  rw [List.foldl_cons, List.foldl_nil, e0, u0, l0]
 rw [hl]
 have g7 : W / 2 ^ 7 % 2 ^ 5 = w1 := by rw [hW]; exact g7_72 h0 h1 h2 h3 h4 h5
 have r7 : putB (w0 + 4096 * w2 + 67108864 * w5 + 1048576 * w4) 7 5 w1 = w0 + 4096 * w2 + 67108864 * w5 + 1048576 * w4 + 128 * w1 := r7_72 h0 h1 h2 h3 h4 h5
 have q7 : un ((w1 : Nat) : Int) = w1 := un_small (by omega)
 have g15 : W / 2 ^ 15 % 2 ^ 5 = w3 := by rw [hW]; exact g15_72 h0 h1 h2 h3 h4 h5
 have r15 : putB (w0 + 4096 * w2 + 67108864 * w5 + 1048576 * w4 + 128 * w1) 15 5 w3 = w0 + 4096 * w2 + 67108864 * w5 + 1048576 * w4 + 128 * w1 + 32768 * w3 := r15_72 h0 h1 h2 h3 h4 h5
 have q15 : un ((w3 : Nat) : Int) = w3 := un_small (by omega)
 have ey : ∀ (x a : Nat) (r : Int), stepR x (true, a, r) = putB x a 5 (un r) := fun _ _ _ => rfl
 have en : ∀ (x a : Nat) (r : Int), stepR x (false, a, r) = x := fun _ _ _ => rfl
 dsimp only
 rw [List.foldl_cons, List.foldl_cons, List.foldl_cons, List.foldl_nil, en, ey, ey, if_pos rfl, if_pos rfl, g7, g15, q7, q15, r7, r15]
 rw [hW]
 clear hW
 omega
theorem lp_83 : (laidS 83).1 = [(0, 5, 7), (5, 7, 25)] := rfl
theorem v0_83 {w0 w1 w2 w3 w4 w5 : Nat} (h0 : w0 < 128) (h1 : w1 < 32) (h2 : w2 < 8) (h3 : w3 < 32) (h4 : w4 < 32) (h5 : w5 < 128) : (w0 + 128 * w1 + 4096 * w2 + 32768 * w3 + 1048576 * w4 + 33554432 * w5) / 2 ^ 7 % 2 ^ 5 = w1 := fld_mid (hi := w2 + 8 * w3 + 256 * w4 + 8192 * w5) (lo := w0) (by first | (simp only [Nat.reduceAdd, Nat.reducePow]; omega) | (simp only [Nat.reduceAdd, Nat.reducePow]; done) | omega) (by first | (simp only [Nat.reduceAdd, Nat.reducePow]; omega) | (simp only [Nat.reduceAdd, Nat.reducePow]; done) | omega) (by first | (simp only [Nat.reduceAdd, Nat.reducePow]; omega) | (simp only [Nat.reduceAdd, Nat.reducePow]; done) | omega)
theorem v1_83 {w0 w1 w2 w3 w4 w5 : Nat} (h0 : w0 < 128) (h1 : w1 < 32) (h2 : w2 < 8) (h3 : w3 < 32) (h4 : w4 < 32) (h5 : w5 < 128) : (w0 + 128 * w1 + 4096 * w2 + 32768 * w3 + 1048576 * w4 + 33554432 * w5) / 2 ^ 25 % 2 ^ 7 = w5 := fld_mid (hi := 0) (lo := w0 + 128 * w1 + 4096 * w2 + 32768 * w3 + 1048576 * w4) (by first | (simp only [Nat.reduceAdd, Nat.reducePow]; omega) | (simp only [Nat.reduceAdd, Nat.reducePow]; done) | omega) (by first | (simp only [Nat.reduceAdd, Nat.reducePow]; omega) | (simp only [Nat.reduceAdd, Nat.reducePow]; done) | omega) (by first | (simp only [Nat.reduceAdd, Nat.reducePow]; omega) | (simp only [Nat.reduceAdd, Nat.reducePow]; done) | omega)
theorem s0_83 {w0 w1 w2 w3 w4 w5 : Nat} (h0 : w0 < 128) (h1 : w1 < 32) (h2 : w2 < 8) (h3 : w3 < 32) (h4 : w4 < 32) (h5 : w5 < 128) : putB (0) 0 5 w1 = w1 := (put_mid (hi := 0) (lo := 0) (by first | (simp only [Nat.reduceAdd, Nat.reducePow]; omega) | (simp only [Nat.reduceAdd, Nat.reducePow]; done) | omega) (by first | (simp only [Nat.reduceAdd, Nat.reducePow]; omega) | (simp only [Nat.reduceAdd, Nat.reducePow]; done) | omega) (by first | (simp only [Nat.reduceAdd, Nat.reducePow]; omega) | (simp only [Nat.reduceAdd, Nat.reducePow]; done) | omega)).trans (by first | (simp only [Nat.reduceAdd, Nat.reducePow]; omega) | (simp only [Nat.reduceAdd, Nat.reducePow]; done) | omega)
theorem s1_83 {w0 w1 w2 w3 w4 w5 : Nat} (h0 : w0 < 128) (h1 : w1 < 32) (h2 : w2 < 8) (h3 : w3 < 32) (h4 : w4 < 32) (h5 : w5 < 128) : putB (w1) 5 7 w5 = w1 + 32 * w5 := (put_mid (hi := 0) (lo := w1) (by first | (simp only [Nat.reduceAdd, Nat.reducePow]; omega) | (simp only [Nat.reduceAdd, Nat.reducePow]; done) | omega) (by first | (simp only [Nat.reduceAdd, Nat.reducePow]; omega) | (simp only [Nat.reduceAdd, Nat.reducePow]; done) | omega) (by first | (simp only [Nat.reduceAdd, Nat.reducePow]; omega) | (simp only [Nat.reduceAdd, Nat.reducePow]; done) | omega)).trans (by first | (simp only [Nat.reduceAdd, Nat.reducePow]; omega) | (simp only [Nat.reduceAdd, Nat.reducePow]; done) | omega)
theorem x_83 {W w0 w1 w2 w3 w4 w5 : Nat} (hW : W = w0 + 128 * w1 + 4096 * w2 + 32768 * w3 + 1048576 * w4 + 33554432 * w5) (h0 : w0 < 128) (h1 : w1 < 32) (h2 : w2 < 8) (h3 : w3 < 32) (h4 : w4 < 32) (h5 : w5 < 128) : (laidS 83).1.foldl (readX W) 0 = w1 + 32 * w5 := by
 rw [lp_83]
 have v0 : W / 2 ^ 7 % 2 ^ 5 = w1 := by rw [hW]; exact v0_83 h0 h1 h2 h3 h4 h5
 have v1 : W / 2 ^ 25 % 2 ^ 7 = w5 := by rw [hW]; exact v1_83 h0 h1 h2 h3 h4 h5
 have s0 : putB (0) 0 5 w1 = w1 := s0_83 h0 h1 h2 h3 h4 h5
 have e0 : ∀ x, readX W x (0, 5, 7) = putB x 0 5 (W / 2 ^ 7 % 2 ^ 5) := fun _ => rfl
 have s1 : putB (w1) 5 7 w5 = w1 + 32 * w5 := s1_83 h0 h1 h2 h3 h4 h5
 have e1 : ∀ x, readX W x (5, 7, 25) = putB x 5 7 (W / 2 ^ 25 % 2 ^ 7) := fun _ => rfl
 rw [List.foldl_cons, List.foldl_cons, List.foldl_nil, e0, v0, s0, e1, v1, s1]
theorem z0_83 {w0 w1 w2 w3 w4 w5 : Nat} (h0 : w0 < 128) (h1 : w1 < 32) (h2 : w2 < 8) (h3 : w3 < 32) (h4 : w4 < 32) (h5 : w5 < 128) : (w1 + 32 * w5) / 2 ^ 0 % 2 ^ 5 = w1 := fld_mid (hi := w5) (lo := 0) (by first | (simp only [Nat.reduceAdd, Nat.reducePow]; omega) | (simp only [Nat.reduceAdd, Nat.reducePow]; done) | omega) (by first | (simp only [Nat.reduceAdd, Nat.reducePow]; omega) | (simp only [Nat.reduceAdd, Nat.reducePow]; done) | omega) (by first | (simp only [Nat.reduceAdd, Nat.reducePow]; omega) | (simp only [Nat.reduceAdd, Nat.reducePow]; done) | omega)
theorem z1_83 {w0 w1 w2 w3 w4 w5 : Nat} (h0 : w0 < 128) (h1 : w1 < 32) (h2 : w2 < 8) (h3 : w3 < 32) (h4 : w4 < 32) (h5 : w5 < 128) : (w1 + 32 * w5) / 2 ^ 5 % 2 ^ 7 = w5 := fld_mid (hi := 0) (lo := w1) (by first | (simp only [Nat.reduceAdd, Nat.reducePow]; omega) | (simp only [Nat.reduceAdd, Nat.reducePow]; done) | omega) (by first | (simp only [Nat.reduceAdd, Nat.reducePow]; omega) | (simp only [Nat.reduceAdd, Nat.reducePow]; done) | omega) (by first | (simp only [Nat.reduceAdd, Nat.reducePow]; omega) | (simp only [Nat.reduceAdd, Nat.reducePow]; done) | omega)
theorem l0_83 {w0 w1 w2 w3 w4 w5 : Nat} (h0 : w0 < 128) (h1 : w1 < 32) (h2 : w2 < 8) (h3 : w3 < 32) (h4 : w4 < 32) (h5 : w5 < 128) : putB (w0 + 4096 * w2) 7 5 w1 = w0 + 4096 * w2 + 128 * w1 := (put_mid (hi := w2) (lo := w0) (by first | (simp only [Nat.reduceAdd, Nat.reducePow]; omega) | (simp only [Nat.reduceAdd, Nat.reducePow]; done) | omega) (by first | (simp only [Nat.reduceAdd, Nat.reducePow]; omega) | (simp only [Nat.reduceAdd, Nat.reducePow]; done) | omega) (by first | (simp only [Nat.reduceAdd, Nat.reducePow]; omega) | (simp only [Nat.reduceAdd, Nat.reducePow]; done) | omega)).trans (by first | (simp only [Nat.reduceAdd, Nat.reducePow]; omega) | (simp only [Nat.reduceAdd, Nat.reducePow]; done) | omega)
theorem l1_83 {w0 w1 w2 w3 w4 w5 : Nat} (h0 : w0 < 128) (h1 : w1 < 32) (h2 : w2 < 8) (h3 : w3 < 32) (h4 : w4 < 32) (h5 : w5 < 128) : putB (w0 + 4096 * w2 + 128 * w1) 25 7 w5 = w0 + 4096 * w2 + 128 * w1 + 33554432 * w5 := (put_mid (hi := 0) (lo := w0 + 4096 * w2 + 128 * w1) (by first | (simp only [Nat.reduceAdd, Nat.reducePow]; omega) | (simp only [Nat.reduceAdd, Nat.reducePow]; done) | omega) (by first | (simp only [Nat.reduceAdd, Nat.reducePow]; omega) | (simp only [Nat.reduceAdd, Nat.reducePow]; done) | omega) (by first | (simp only [Nat.reduceAdd, Nat.reducePow]; omega) | (simp only [Nat.reduceAdd, Nat.reducePow]; done) | omega)).trans (by first | (simp only [Nat.reduceAdd, Nat.reducePow]; omega) | (simp only [Nat.reduceAdd, Nat.reducePow]; done) | omega)
theorem g15_83 {w0 w1 w2 w3 w4 w5 : Nat} (h0 : w0 < 128) (h1 : w1 < 32) (h2 : w2 < 8) (h3 : w3 < 32) (h4 : w4 < 32) (h5 : w5 < 128) : (w0 + 128 * w1 + 4096 * w2 + 32768 * w3 + 1048576 * w4 + 33554432 * w5) / 2 ^ 15 % 2 ^ 5 = w3 := fld_mid (hi := w4 + 32 * w5) (lo := w0 + 128 * w1 + 4096 * w2) (by first | (simp only [Nat.reduceAdd, Nat.reducePow]; omega) | (simp only [Nat.reduceAdd, Nat.reducePow]; done) | omega) (by first | (simp only [Nat.reduceAdd, Nat.reducePow]; omega) | (simp only [Nat.reduceAdd, Nat.reducePow]; done) | omega) (by first | (simp only [Nat.reduceAdd, Nat.reducePow]; omega) | (simp only [Nat.reduceAdd, Nat.reducePow]; done) | omega)
theorem r15_83 {w0 w1 w2 w3 w4 w5 : Nat} (h0 : w0 < 128) (h1 : w1 < 32) (h2 : w2 < 8) (h3 : w3 < 32) (h4 : w4 < 32) (h5 : w5 < 128) : putB (w0 + 4096 * w2 + 128 * w1 + 33554432 * w5) 15 5 w3 = w0 + 4096 * w2 + 128 * w1 + 33554432 * w5 + 32768 * w3 := (put_mid (hi := 32 * w5) (lo := w0 + 4096 * w2 + 128 * w1) (by first | (simp only [Nat.reduceAdd, Nat.reducePow]; omega) | (simp only [Nat.reduceAdd, Nat.reducePow]; done) | omega) (by first | (simp only [Nat.reduceAdd, Nat.reducePow]; omega) | (simp only [Nat.reduceAdd, Nat.reducePow]; done) | omega) (by first | (simp only [Nat.reduceAdd, Nat.reducePow]; omega) | (simp only [Nat.reduceAdd, Nat.reducePow]; done) | omega)).trans (by first | (simp only [Nat.reduceAdd, Nat.reducePow]; omega) | (simp only [Nat.reduceAdd, Nat.reducePow]; done) | omega)
theorem g20_83 {w0 w1 w2 w3 w4 w5 : Nat} (h0 : w0 < 128) (h1 : w1 < 32) (h2 : w2 < 8) (h3 : w3 < 32) (h4 : w4 < 32) (h5 : w5 < 128) : (w0 + 128 * w1 + 4096 * w2 + 32768 * w3 + 1048576 * w4 + 33554432 * w5) / 2 ^ 20 % 2 ^ 5 = w4 := fld_mid (hi := w5) (lo := w0 + 128 * w1 + 4096 * w2 + 32768 * w3) (by first | (simp only [Nat.reduceAdd, Nat.reducePow]; omega) | (simp only [Nat.reduceAdd, Nat.reducePow]; done) | omega) (by first | (simp only [Nat.reduceAdd, Nat.reducePow]; omega) | (simp only [Nat.reduceAdd, Nat.reducePow]; done) | omega) (by first | (simp only [Nat.reduceAdd, Nat.reducePow]; omega) | (simp only [Nat.reduceAdd, Nat.reducePow]; done) | omega)
theorem r20_83 {w0 w1 w2 w3 w4 w5 : Nat} (h0 : w0 < 128) (h1 : w1 < 32) (h2 : w2 < 8) (h3 : w3 < 32) (h4 : w4 < 32) (h5 : w5 < 128) : putB (w0 + 4096 * w2 + 128 * w1 + 33554432 * w5 + 32768 * w3) 20 5 w4 = w0 + 4096 * w2 + 128 * w1 + 33554432 * w5 + 32768 * w3 + 1048576 * w4 := (put_mid (hi := w5) (lo := w0 + 4096 * w2 + 128 * w1 + 32768 * w3) (by first | (simp only [Nat.reduceAdd, Nat.reducePow]; omega) | (simp only [Nat.reduceAdd, Nat.reducePow]; done) | omega) (by first | (simp only [Nat.reduceAdd, Nat.reducePow]; omega) | (simp only [Nat.reduceAdd, Nat.reducePow]; done) | omega) (by first | (simp only [Nat.reduceAdd, Nat.reducePow]; omega) | (simp only [Nat.reduceAdd, Nat.reducePow]; done) | omega)).trans (by first | (simp only [Nat.reduceAdd, Nat.reducePow]; omega) | (simp only [Nat.reduceAdd, Nat.reducePow]; done) | omega)
theorem w_83 {W w0 w1 w2 w3 w4 w5 : Nat} {im : Int} (hW : W = w0 + 128 * w1 + 4096 * w2 + 32768 * w3 + 1048576 * w4 + 33554432 * w5) (h0 : w0 < 128) (h1 : w1 < 32) (h2 : w2 < 8) (h3 : w3 < 32) (h4 : w4 < 32) (h5 : w5 < 128) (him : un im = signN ((laidS 83).1.foldl (readX W) 0) 12) : [((hasS 83).1, 7, if (hasS 83).1 = true then ((W / 2 ^ 7 % 2 ^ 5 : Nat) : Int) else 0), ((hasS 83).2.1, 15, if (hasS 83).2.1 = true then ((W / 2 ^ 15 % 2 ^ 5 : Nat) : Int) else 0), ((hasS 83).2.2, 20, if (hasS 83).2.2 = true then ((W / 2 ^ 20 % 2 ^ 5 : Nat) : Int) else 0)].foldl stepR ((laidS 83).1.foldl (layB im) (w0 + 4096 * w2)) = W := by
 have hx := x_83 hW h0 h1 h2 h3 h4 h5
 rw [hx] at him
 clear hx
 have eh : hasS 83 = (false, true, true) := rfl
 rw [eh]
 have z0 : (w1 + 32 * w5) / 2 ^ 0 % 2 ^ 5 = w1 := by exact z0_83 h0 h1 h2 h3 h4 h5
 have u0 : un im / 2 ^ 0 % 2 ^ 5 = w1 := by rw [him, sign_piece (by decide) (by decide)]; exact z0
 have z1 : (w1 + 32 * w5) / 2 ^ 5 % 2 ^ 7 = w5 := by exact z1_83 h0 h1 h2 h3 h4 h5
 have u1 : un im / 2 ^ 5 % 2 ^ 7 = w5 := by rw [him, sign_piece (by decide) (by decide)]; exact z1
 have l0 : putB (w0 + 4096 * w2) 7 5 w1 = w0 + 4096 * w2 + 128 * w1 := l0_83 h0 h1 h2 h3 h4 h5
 have l1 : putB (w0 + 4096 * w2 + 128 * w1) 25 7 w5 = w0 + 4096 * w2 + 128 * w1 + 33554432 * w5 := l1_83 h0 h1 h2 h3 h4 h5
 have hl : (laidS 83).1.foldl (layB im) (w0 + 4096 * w2) = w0 + 4096 * w2 + 128 * w1 + 33554432 * w5 := by
  rw [lp_83]
  have e0 : ∀ x, layB im x (0, 5, 7) = putB x 7 5 (un im / 2 ^ 0 % 2 ^ 5) := fun _ => rfl
  have e1 : ∀ x, layB im x (5, 7, 25) = putB x 25 7 (un im / 2 ^ 5 % 2 ^ 7) := fun _ => rfl
  rw [List.foldl_cons, List.foldl_cons, List.foldl_nil, e0, u0, l0, e1, u1, l1]
 rw [hl]
 have g15 : W / 2 ^ 15 % 2 ^ 5 = w3 := by rw [hW]; exact g15_83 h0 h1 h2 h3 h4 h5
 have r15 : putB (w0 + 4096 * w2 + 128 * w1 + 33554432 * w5) 15 5 w3 = w0 + 4096 * w2 + 128 * w1 + 33554432 * w5 + 32768 * w3 := r15_83 h0 h1 h2 h3 h4 h5
 have q15 : un ((w3 : Nat) : Int) = w3 := un_small (by omega)
 have g20 : W / 2 ^ 20 % 2 ^ 5 = w4 := by rw [hW]; exact g20_83 h0 h1 h2 h3 h4 h5
 have r20 : putB (w0 + 4096 * w2 + 128 * w1 + 33554432 * w5 + 32768 * w3) 20 5 w4 = w0 + 4096 * w2 + 128 * w1 + 33554432 * w5 + 32768 * w3 + 1048576 * w4 := r20_83 h0 h1 h2 h3 h4 h5
 have q20 : un ((w4 : Nat) : Int) = w4 := un_small (by omega)
 have ey : ∀ (x a : Nat) (r : Int), stepR x (true, a, r) = putB x a 5 (un r) := fun _ _ _ => rfl
 have en : ∀ (x a : Nat) (r : Int), stepR x (false, a, r) = x := fun _ _ _ => rfl
 dsimp only
 rw [List.foldl_cons, List.foldl_cons, List.foldl_cons, List.foldl_nil, ey, ey, en, if_pos rfl, if_pos rfl, g15, g20, q15, q20, r15, r20]
 rw [hW]
 clear hW
 omega
theorem lp_66 : (laidS 66).1 = [(1, 4, 8), (5, 6, 25), (11, 1, 7), (12, 1, 31)] := rfl
theorem v0_66 {w0 w1 w2 w3 w4 w5 w6 w7 : Nat} (h0 : w0 < 128) (h1 : w1 < 2) (h2 : w2 < 16) (h3 : w3 < 8) (h4 : w4 < 32) (h5 : w5 < 32) (h6 : w6 < 64) (h7 : w7 < 2) : (w0 + 128 * w1 + 256 * w2 + 4096 * w3 + 32768 * w4 + 1048576 * w5 + 33554432 * w6 + 2147483648 * w7) / 2 ^ 8 % 2 ^ 4 = w2 := fld_mid (hi := w3 + 8 * w4 + 256 * w5 + 8192 * w6 + 524288 * w7) (lo := w0 + 128 * w1) (by first | (simp only [Nat.reduceAdd, Nat.reducePow]; omega) | (simp only [Nat.reduceAdd, Nat.reducePow]; done) | omega) (by first | (simp only [Nat.reduceAdd, Nat.reducePow]; omega) | (simp only [Nat.reduceAdd, Nat.reducePow]; done) | omega) (by first | (simp only [Nat.reduceAdd, Nat.reducePow]; omega) | (simp only [Nat.reduceAdd, Nat.reducePow]; done) | omega)
theorem v1_66 {w0 w1 w2 w3 w4 w5 w6 w7 : Nat} (h0 : w0 < 128) (h1 : w1 < 2) (h2 : w2 < 16) (h3 : w3 < 8) (h4 : w4 < 32) (h5 : w5 < 32) (h6 : w6 < 64) (h7 : w7 < 2) : (w0 + 128 * w1 + 256 * w2 + 4096 * w3 + 32768 * w4 + 1048576 * w5 + 33554432 * w6 + 2147483648 * w7) / 2 ^ 25 % 2 ^ 6 = w6 := fld_mid (hi := w7) (lo := w0 + 128 * w1 + 256 * w2 + 4096 * w3 + 32768 * w4 + 1048576 * w5) (by first | (simp only [Nat.reduceAdd, Nat.reducePow]; omega) | (simp only [Nat.reduceAdd, Nat.reducePow]; done) | omega) (by first | (simp only [Nat.reduceAdd, Nat.reducePow]; omega) | (simp only [Nat.reduceAdd, Nat.reducePow]; done) | omega) (by first | (simp only [Nat.reduceAdd, Nat.reducePow]; omega) | (simp only [Nat.reduceAdd, Nat.reducePow]; done) | omega)
theorem v2_66 {w0 w1 w2 w3 w4 w5 w6 w7 : Nat} (h0 : w0 < 128) (h1 : w1 < 2) (h2 : w2 < 16) (h3 : w3 < 8) (h4 : w4 < 32) (h5 : w5 < 32) (h6 : w6 < 64) (h7 : w7 < 2) : (w0 + 128 * w1 + 256 * w2 + 4096 * w3 + 32768 * w4 + 1048576 * w5 + 33554432 * w6 + 2147483648 * w7) / 2 ^ 7 % 2 ^ 1 = w1 := fld_mid (hi := w2 + 16 * w3 + 128 * w4 + 4096 * w5 + 131072 * w6 + 8388608 * w7) (lo := w0) (by first | (simp only [Nat.reduceAdd, Nat.reducePow]; omega) | (simp only [Nat.reduceAdd, Nat.reducePow]; done) | omega) (by first | (simp only [Nat.reduceAdd, Nat.reducePow]; omega) | (simp only [Nat.reduceAdd, Nat.reducePow]; done) | omega) (by first | (simp only [Nat.reduceAdd, Nat.reducePow]; omega) | (simp only [Nat.reduceAdd, Nat.reducePow]; done) | omega)
theorem v3_66 {w0 w1 w2 w3 w4 w5 w6 w7 : Nat} (h0 : w0 < 128) (h1 : w1 < 2) (h2 : w2 < 16) (h3 : w3 < 8) (h4 : w4 < 32) (h5 : w5 < 32) (h6 : w6 < 64) (h7 : w7 < 2) : (w0 + 128 * w1 + 256 * w2 + 4096 * w3 + 32768 * w4 + 1048576 * w5 + 33554432 * w6 + 2147483648 * w7) / 2 ^ 31 % 2 ^ 1 = w7 := fld_mid (hi := 0) (lo := w0 + 128 * w1 + 256 * w2 + 4096 * w3 + 32768 * w4 + 1048576 * w5 + 33554432 * w6) (by first | (simp only [Nat.reduceAdd, Nat.reducePow]; omega) | (simp only [Nat.reduceAdd, Nat.reducePow]; done) | omega) (by first | (simp only [Nat.reduceAdd, Nat.reducePow]; omega) | (simp only [Nat.reduceAdd, Nat.reducePow]; done) | omega) (by first | (simp only [Nat.reduceAdd, Nat.reducePow]; omega) | (simp only [Nat.reduceAdd, Nat.reducePow]; done) | omega)
theorem s0_66 {w0 w1 w2 w3 w4 w5 w6 w7 : Nat} (h0 : w0 < 128) (h1 : w1 < 2) (h2 : w2 < 16) (h3 : w3 < 8) (h4 : w4 < 32) (h5 : w5 < 32) (h6 : w6 < 64) (h7 : w7 < 2) : putB (0) 1 4 w2 = 2 * w2 := (put_mid (hi := 0) (lo := 0) (by first | (simp only [Nat.reduceAdd, Nat.reducePow]; omega) | (simp only [Nat.reduceAdd, Nat.reducePow]; done) | omega) (by first | (simp only [Nat.reduceAdd, Nat.reducePow]; omega) | (simp only [Nat.reduceAdd, Nat.reducePow]; done) | omega) (by first | (simp only [Nat.reduceAdd, Nat.reducePow]; omega) | (simp only [Nat.reduceAdd, Nat.reducePow]; done) | omega)).trans (by first | (simp only [Nat.reduceAdd, Nat.reducePow]; omega) | (simp only [Nat.reduceAdd, Nat.reducePow]; done) | omega)
theorem s1_66 {w0 w1 w2 w3 w4 w5 w6 w7 : Nat} (h0 : w0 < 128) (h1 : w1 < 2) (h2 : w2 < 16) (h3 : w3 < 8) (h4 : w4 < 32) (h5 : w5 < 32) (h6 : w6 < 64) (h7 : w7 < 2) : putB (2 * w2) 5 6 w6 = 2 * w2 + 32 * w6 := (put_mid (hi := 0) (lo := 2 * w2) (by first | (simp only [Nat.reduceAdd, Nat.reducePow]; omega) | (simp only [Nat.reduceAdd, Nat.reducePow]; done) | omega) (by first | (simp only [Nat.reduceAdd, Nat.reducePow]; omega) | (simp only [Nat.reduceAdd, Nat.reducePow]; done) | omega) (by first | (simp only [Nat.reduceAdd, Nat.reducePow]; omega) | (simp only [Nat.reduceAdd, Nat.reducePow]; done) | omega)).trans (by first | (simp only [Nat.reduceAdd, Nat.reducePow]; omega) | (simp only [Nat.reduceAdd, Nat.reducePow]; done) | omega)
theorem s2_66 {w0 w1 w2 w3 w4 w5 w6 w7 : Nat} (h0 : w0 < 128) (h1 : w1 < 2) (h2 : w2 < 16) (h3 : w3 < 8) (h4 : w4 < 32) (h5 : w5 < 32) (h6 : w6 < 64) (h7 : w7 < 2) : putB (2 * w2 + 32 * w6) 11 1 w1 = 2 * w2 + 32 * w6 + 2048 * w1 := (put_mid (hi := 0) (lo := 2 * w2 + 32 * w6) (by first | (simp only [Nat.reduceAdd, Nat.reducePow]; omega) | (simp only [Nat.reduceAdd, Nat.reducePow]; done) | omega) (by first | (simp only [Nat.reduceAdd, Nat.reducePow]; omega) | (simp only [Nat.reduceAdd, Nat.reducePow]; done) | omega) (by first | (simp only [Nat.reduceAdd, Nat.reducePow]; omega) | (simp only [Nat.reduceAdd, Nat.reducePow]; done) | omega)).trans (by first | (simp only [Nat.reduceAdd, Nat.reducePow]; omega) | (simp only [Nat.reduceAdd, Nat.reducePow]; done) | omega)
theorem s3_66 {w0 w1 w2 w3 w4 w5 w6 w7 : Nat} (h0 : w0 < 128) (h1 : w1 < 2) (h2 : w2 < 16) (h3 : w3 < 8) (h4 : w4 < 32) (h5 : w5 < 32) (h6 : w6 < 64) (h7 : w7 < 2) : putB (2 * w2 + 32 * w6 + 2048 * w1) 12 1 w7 = 2 * w2 + 32 * w6 + 2048 * w1 + 4096 * w7 := (put_mid (hi := 0) (lo := 2 * w2 + 32 * w6 + 2048 * w1) (by first | (simp only [Nat.reduceAdd, Nat.reducePow]; omega) | (simp only [Nat.reduceAdd, Nat.reducePow]; done) | omega) (by first | (simp only [Nat.reduceAdd, Nat.reducePow]; omega) | (simp only [Nat.reduceAdd, Nat.reducePow]; done) | omega) (by first | (simp only [Nat.reduceAdd, Nat.reducePow]; omega) | (simp only [Nat.reduceAdd, Nat.reducePow]; done) | omega)).trans (by first | (simp only [Nat.reduceAdd, Nat.reducePow]; omega) | (simp only [Nat.reduceAdd, Nat.reducePow]; done) | omega)
theorem x_66 {W w0 w1 w2 w3 w4 w5 w6 w7 : Nat} (hW : W = w0 + 128 * w1 + 256 * w2 + 4096 * w3 + 32768 * w4 + 1048576 * w5 + 33554432 * w6 + 2147483648 * w7) (h0 : w0 < 128) (h1 : w1 < 2) (h2 : w2 < 16) (h3 : w3 < 8) (h4 : w4 < 32) (h5 : w5 < 32) (h6 : w6 < 64) (h7 : w7 < 2) : (laidS 66).1.foldl (readX W) 0 = 2 * w2 + 32 * w6 + 2048 * w1 + 4096 * w7 := by
 rw [lp_66]
 have v0 : W / 2 ^ 8 % 2 ^ 4 = w2 := by rw [hW]; exact v0_66 h0 h1 h2 h3 h4 h5 h6 h7
 have v1 : W / 2 ^ 25 % 2 ^ 6 = w6 := by rw [hW]; exact v1_66 h0 h1 h2 h3 h4 h5 h6 h7
 have v2 : W / 2 ^ 7 % 2 ^ 1 = w1 := by rw [hW]; exact v2_66 h0 h1 h2 h3 h4 h5 h6 h7
 have v3 : W / 2 ^ 31 % 2 ^ 1 = w7 := by rw [hW]; exact v3_66 h0 h1 h2 h3 h4 h5 h6 h7
 have s0 : putB (0) 1 4 w2 = 2 * w2 := s0_66 h0 h1 h2 h3 h4 h5 h6 h7
 have e0 : ∀ x, readX W x (1, 4, 8) = putB x 1 4 (W / 2 ^ 8 % 2 ^ 4) := fun _ => rfl
 have s1 : putB (2 * w2) 5 6 w6 = 2 * w2 + 32 * w6 := s1_66 h0 h1 h2 h3 h4 h5 h6 h7
 have e1 : ∀ x, readX W x (5, 6, 25) = putB x 5 6 (W / 2 ^ 25 % 2 ^ 6) := fun _ => rfl
 have s2 : putB (2 * w2 + 32 * w6) 11 1 w1 = 2 * w2 + 32 * w6 + 2048 * w1 := s2_66 h0 h1 h2 h3 h4 h5 h6 h7
 have e2 : ∀ x, readX W x (11, 1, 7) = putB x 11 1 (W / 2 ^ 7 % 2 ^ 1) := fun _ => rfl
 have s3 : putB (2 * w2 + 32 * w6 + 2048 * w1) 12 1 w7 = 2 * w2 + 32 * w6 + 2048 * w1 + 4096 * w7 := s3_66 h0 h1 h2 h3 h4 h5 h6 h7
 have e3 : ∀ x, readX W x (12, 1, 31) = putB x 12 1 (W / 2 ^ 31 % 2 ^ 1) := fun _ => rfl
 rw [List.foldl_cons, List.foldl_cons, List.foldl_cons, List.foldl_cons, List.foldl_nil, e0, v0, s0, e1, v1, s1, e2, v2, s2, e3, v3, s3]
theorem z0_66 {w0 w1 w2 w3 w4 w5 w6 w7 : Nat} (h0 : w0 < 128) (h1 : w1 < 2) (h2 : w2 < 16) (h3 : w3 < 8) (h4 : w4 < 32) (h5 : w5 < 32) (h6 : w6 < 64) (h7 : w7 < 2) : (2 * w2 + 32 * w6 + 2048 * w1 + 4096 * w7) / 2 ^ 1 % 2 ^ 4 = w2 := fld_mid (hi := w6 + 64 * w1 + 128 * w7) (lo := 0) (by first | (simp only [Nat.reduceAdd, Nat.reducePow]; omega) | (simp only [Nat.reduceAdd, Nat.reducePow]; done) | omega) (by first | (simp only [Nat.reduceAdd, Nat.reducePow]; omega) | (simp only [Nat.reduceAdd, Nat.reducePow]; done) | omega) (by first | (simp only [Nat.reduceAdd, Nat.reducePow]; omega) | (simp only [Nat.reduceAdd, Nat.reducePow]; done) | omega)
theorem z1_66 {w0 w1 w2 w3 w4 w5 w6 w7 : Nat} (h0 : w0 < 128) (h1 : w1 < 2) (h2 : w2 < 16) (h3 : w3 < 8) (h4 : w4 < 32) (h5 : w5 < 32) (h6 : w6 < 64) (h7 : w7 < 2) : (2 * w2 + 32 * w6 + 2048 * w1 + 4096 * w7) / 2 ^ 5 % 2 ^ 6 = w6 := fld_mid (hi := w1 + 2 * w7) (lo := 2 * w2) (by first | (simp only [Nat.reduceAdd, Nat.reducePow]; omega) | (simp only [Nat.reduceAdd, Nat.reducePow]; done) | omega) (by first | (simp only [Nat.reduceAdd, Nat.reducePow]; omega) | (simp only [Nat.reduceAdd, Nat.reducePow]; done) | omega) (by first | (simp only [Nat.reduceAdd, Nat.reducePow]; omega) | (simp only [Nat.reduceAdd, Nat.reducePow]; done) | omega)
theorem z2_66 {w0 w1 w2 w3 w4 w5 w6 w7 : Nat} (h0 : w0 < 128) (h1 : w1 < 2) (h2 : w2 < 16) (h3 : w3 < 8) (h4 : w4 < 32) (h5 : w5 < 32) (h6 : w6 < 64) (h7 : w7 < 2) : (2 * w2 + 32 * w6 + 2048 * w1 + 4096 * w7) / 2 ^ 11 % 2 ^ 1 = w1 := fld_mid (hi := w7) (lo := 2 * w2 + 32 * w6) (by first | (simp only [Nat.reduceAdd, Nat.reducePow]; omega) | (simp only [Nat.reduceAdd, Nat.reducePow]; done) | omega) (by first | (simp only [Nat.reduceAdd, Nat.reducePow]; omega) | (simp only [Nat.reduceAdd, Nat.reducePow]; done) | omega) (by first | (simp only [Nat.reduceAdd, Nat.reducePow]; omega) | (simp only [Nat.reduceAdd, Nat.reducePow]; done) | omega)
theorem z3_66 {w0 w1 w2 w3 w4 w5 w6 w7 : Nat} (h0 : w0 < 128) (h1 : w1 < 2) (h2 : w2 < 16) (h3 : w3 < 8) (h4 : w4 < 32) (h5 : w5 < 32) (h6 : w6 < 64) (h7 : w7 < 2) : (2 * w2 + 32 * w6 + 2048 * w1 + 4096 * w7) / 2 ^ 12 % 2 ^ 1 = w7 := fld_mid (hi := 0) (lo := 2 * w2 + 32 * w6 + 2048 * w1) (by first | (simp only [Nat.reduceAdd, Nat.reducePow]; omega) | (simp only [Nat.reduceAdd, Nat.reducePow]; done) | omega) (by first | (simp only [Nat.reduceAdd, Nat.reducePow]; omega) | (simp only [Nat.reduceAdd, Nat.reducePow]; done) | omega) (by first | (simp only [Nat.reduceAdd, Nat.reducePow]; omega) | (simp only [Nat.reduceAdd, Nat.reducePow]; done) | omega)
theorem l0_66 {w0 w1 w2 w3 w4 w5 w6 w7 : Nat} (h0 : w0 < 128) (h1 : w1 < 2) (h2 : w2 < 16) (h3 : w3 < 8) (h4 : w4 < 32) (h5 : w5 < 32) (h6 : w6 < 64) (h7 : w7 < 2) : putB (w0 + 4096 * w3) 8 4 w2 = w0 + 4096 * w3 + 256 * w2 := (put_mid (hi := w3) (lo := w0) (by first | (simp only [Nat.reduceAdd, Nat.reducePow]; omega) | (simp only [Nat.reduceAdd, Nat.reducePow]; done) | omega) (by first | (simp only [Nat.reduceAdd, Nat.reducePow]; omega) | (simp only [Nat.reduceAdd, Nat.reducePow]; done) | omega) (by first | (simp only [Nat.reduceAdd, Nat.reducePow]; omega) | (simp only [Nat.reduceAdd, Nat.reducePow]; done) | omega)).trans (by first | (simp only [Nat.reduceAdd, Nat.reducePow]; omega) | (simp only [Nat.reduceAdd, Nat.reducePow]; done) | omega)
theorem l1_66 {w0 w1 w2 w3 w4 w5 w6 w7 : Nat} (h0 : w0 < 128) (h1 : w1 < 2) (h2 : w2 < 16) (h3 : w3 < 8) (h4 : w4 < 32) (h5 : w5 < 32) (h6 : w6 < 64) (h7 : w7 < 2) : putB (w0 + 4096 * w3 + 256 * w2) 25 6 w6 = w0 + 4096 * w3 + 256 * w2 + 33554432 * w6 := (put_mid (hi := 0) (lo := w0 + 4096 * w3 + 256 * w2) (by first | (simp only [Nat.reduceAdd, Nat.reducePow]; omega) | (simp only [Nat.reduceAdd, Nat.reducePow]; done) | omega) (by first | (simp only [Nat.reduceAdd, Nat.reducePow]; omega) | (simp only [Nat.reduceAdd, Nat.reducePow]; done) | omega) (by first | (simp only [Nat.reduceAdd, Nat.reducePow]; omega) | (simp only [Nat.reduceAdd, Nat.reducePow]; done) | omega)).trans (by first | (simp only [Nat.reduceAdd, Nat.reducePow]; omega) | (simp only [Nat.reduceAdd, Nat.reducePow]; done) | omega)
theorem l2_66 {w0 w1 w2 w3 w4 w5 w6 w7 : Nat} (h0 : w0 < 128) (h1 : w1 < 2) (h2 : w2 < 16) (h3 : w3 < 8) (h4 : w4 < 32) (h5 : w5 < 32) (h6 : w6 < 64) (h7 : w7 < 2) : putB (w0 + 4096 * w3 + 256 * w2 + 33554432 * w6) 7 1 w1 = w0 + 4096 * w3 + 256 * w2 + 33554432 * w6 + 128 * w1 := (put_mid (hi := 16 * w3 + w2 + 131072 * w6) (lo := w0) (by first | (simp only [Nat.reduceAdd, Nat.reducePow]; omega) | (simp only [Nat.reduceAdd, Nat.reducePow]; done) | omega) (by first | (simp only [Nat.reduceAdd, Nat.reducePow]; omega) | (simp only [Nat.reduceAdd, Nat.reducePow]; done) | omega) (by first | (simp only [Nat.reduceAdd, Nat.reducePow]; omega) | (simp only [Nat.reduceAdd, Nat.reducePow]; done) | omega)).trans (by first | (simp only [Nat.reduceAdd, Nat.reducePow]; omega) | (simp only [Nat.reduceAdd, Nat.reducePow]; done) | omega)
theorem l3_66 {w0 w1 w2 w3 w4 w5 w6 w7 : Nat} (h0 : w0 < 128) (h1 : w1 < 2) (h2 : w2 < 16) (h3 : w3 < 8) (h4 : w4 < 32) (h5 : w5 < 32) (h6 : w6 < 64) (h7 : w7 < 2) : putB (w0 + 4096 * w3 + 256 * w2 + 33554432 * w6 + 128 * w1) 31 1 w7 = w0 + 4096 * w3 + 256 * w2 + 33554432 * w6 + 128 * w1 + 2147483648 * w7 := (put_mid (hi := 0) (lo := w0 + 4096 * w3 + 256 * w2 + 33554432 * w6 + 128 * w1) (by first | (simp only [Nat.reduceAdd, Nat.reducePow]; omega) | (simp only [Nat.reduceAdd, Nat.reducePow]; done) | omega) (by first | (simp only [Nat.reduceAdd, Nat.reducePow]; omega) | (simp only [Nat.reduceAdd, Nat.reducePow]; done) | omega) (by first | (simp only [Nat.reduceAdd, Nat.reducePow]; omega) | (simp only [Nat.reduceAdd, Nat.reducePow]; done) | omega)).trans (by first | (simp only [Nat.reduceAdd, Nat.reducePow]; omega) | (simp only [Nat.reduceAdd, Nat.reducePow]; done) | omega)
theorem g15_66 {w0 w1 w2 w3 w4 w5 w6 w7 : Nat} (h0 : w0 < 128) (h1 : w1 < 2) (h2 : w2 < 16) (h3 : w3 < 8) (h4 : w4 < 32) (h5 : w5 < 32) (h6 : w6 < 64) (h7 : w7 < 2) : (w0 + 128 * w1 + 256 * w2 + 4096 * w3 + 32768 * w4 + 1048576 * w5 + 33554432 * w6 + 2147483648 * w7) / 2 ^ 15 % 2 ^ 5 = w4 := fld_mid (hi := w5 + 32 * w6 + 2048 * w7) (lo := w0 + 128 * w1 + 256 * w2 + 4096 * w3) (by first | (simp only [Nat.reduceAdd, Nat.reducePow]; omega) | (simp only [Nat.reduceAdd, Nat.reducePow]; done) | omega) (by first | (simp only [Nat.reduceAdd, Nat.reducePow]; omega) | (simp only [Nat.reduceAdd, Nat.reducePow]; done) | omega) (by first | (simp only [Nat.reduceAdd, Nat.reducePow]; omega) | (simp only [Nat.reduceAdd, Nat.reducePow]; done) | omega)
theorem r15_66 {w0 w1 w2 w3 w4 w5 w6 w7 : Nat} (h0 : w0 < 128) (h1 : w1 < 2) (h2 : w2 < 16) (h3 : w3 < 8) (h4 : w4 < 32) (h5 : w5 < 32) (h6 : w6 < 64) (h7 : w7 < 2) : putB (w0 + 4096 * w3 + 256 * w2 + 33554432 * w6 + 128 * w1 + 2147483648 * w7) 15 5 w4 = w0 + 4096 * w3 + 256 * w2 + 33554432 * w6 + 128 * w1 + 2147483648 * w7 + 32768 * w4 := (put_mid (hi := 32 * w6 + 2048 * w7) (lo := w0 + 4096 * w3 + 256 * w2 + 128 * w1) (by first | (simp only [Nat.reduceAdd, Nat.reducePow]; omega) | (simp only [Nat.reduceAdd, Nat.reducePow]; done) | omega) (by first | (simp only [Nat.reduceAdd, Nat.reducePow]; omega) | (simp only [Nat.reduceAdd, Nat.reducePow]; done) | omega) (by first | (simp only [Nat.reduceAdd, Nat.reducePow]; omega) | (simp only [Nat.reduceAdd, Nat.reducePow]; done) | omega)).trans (by first | (simp only [Nat.reduceAdd, Nat.reducePow]; omega) | (simp only [Nat.reduceAdd, Nat.reducePow]; done) | omega)
theorem g20_66 {w0 w1 w2 w3 w4 w5 w6 w7 : Nat} (h0 : w0 < 128) (h1 : w1 < 2) (h2 : w2 < 16) (h3 : w3 < 8) (h4 : w4 < 32) (h5 : w5 < 32) (h6 : w6 < 64) (h7 : w7 < 2) : (w0 + 128 * w1 + 256 * w2 + 4096 * w3 + 32768 * w4 + 1048576 * w5 + 33554432 * w6 + 2147483648 * w7) / 2 ^ 20 % 2 ^ 5 = w5 := fld_mid (hi := w6 + 64 * w7) (lo := w0 + 128 * w1 + 256 * w2 + 4096 * w3 + 32768 * w4) (by first | (simp only [Nat.reduceAdd, Nat.reducePow]; omega) | (simp only [Nat.reduceAdd, Nat.reducePow]; done) | omega) (by first | (simp only [Nat.reduceAdd, Nat.reducePow]; omega) | (simp only [Nat.reduceAdd, Nat.reducePow]; done) | omega) (by first | (simp only [Nat.reduceAdd, Nat.reducePow]; omega) | (simp only [Nat.reduceAdd, Nat.reducePow]; done) | omega)
theorem r20_66 {w0 w1 w2 w3 w4 w5 w6 w7 : Nat} (h0 : w0 < 128) (h1 : w1 < 2) (h2 : w2 < 16) (h3 : w3 < 8) (h4 : w4 < 32) (h5 : w5 < 32) (h6 : w6 < 64) (h7 : w7 < 2) : putB (w0 + 4096 * w3 + 256 * w2 + 33554432 * w6 + 128 * w1 + 2147483648 * w7 + 32768 * w4) 20 5 w5 = w0 + 4096 * w3 + 256 * w2 + 33554432 * w6 + 128 * w1 + 2147483648 * w7 + 32768 * w4 + 1048576 * w5 := (put_mid (hi := w6 + 64 * w7) (lo := w0 + 4096 * w3 + 256 * w2 + 128 * w1 + 32768 * w4) (by first | (simp only [Nat.reduceAdd, Nat.reducePow]; omega) | (simp only [Nat.reduceAdd, Nat.reducePow]; done) | omega) (by first | (simp only [Nat.reduceAdd, Nat.reducePow]; omega) | (simp only [Nat.reduceAdd, Nat.reducePow]; done) | omega) (by first | (simp only [Nat.reduceAdd, Nat.reducePow]; omega) | (simp only [Nat.reduceAdd, Nat.reducePow]; done) | omega)).trans (by first | (simp only [Nat.reduceAdd, Nat.reducePow]; omega) | (simp only [Nat.reduceAdd, Nat.reducePow]; done) | omega)
theorem w_66 {W w0 w1 w2 w3 w4 w5 w6 w7 : Nat} {im : Int} (hW : W = w0 + 128 * w1 + 256 * w2 + 4096 * w3 + 32768 * w4 + 1048576 * w5 + 33554432 * w6 + 2147483648 * w7) (h0 : w0 < 128) (h1 : w1 < 2) (h2 : w2 < 16) (h3 : w3 < 8) (h4 : w4 < 32) (h5 : w5 < 32) (h6 : w6 < 64) (h7 : w7 < 2) (him : un im = signN ((laidS 66).1.foldl (readX W) 0) 13) : [((hasS 66).1, 7, if (hasS 66).1 = true then ((W / 2 ^ 7 % 2 ^ 5 : Nat) : Int) else 0), ((hasS 66).2.1, 15, if (hasS 66).2.1 = true then ((W / 2 ^ 15 % 2 ^ 5 : Nat) : Int) else 0), ((hasS 66).2.2, 20, if (hasS 66).2.2 = true then ((W / 2 ^ 20 % 2 ^ 5 : Nat) : Int) else 0)].foldl stepR ((laidS 66).1.foldl (layB im) (w0 + 4096 * w3)) = W := by
 have hx := x_66 hW h0 h1 h2 h3 h4 h5 h6 h7
 rw [hx] at him
 clear hx
 have eh : hasS 66 = (false, true, true) := rfl
 rw [eh]
 have z0 : (2 * w2 + 32 * w6 + 2048 * w1 + 4096 * w7) / 2 ^ 1 % 2 ^ 4 = w2 := by exact z0_66 h0 h1 h2 h3 h4 h5 h6 h7
 have u0 : un im / 2 ^ 1 % 2 ^ 4 = w2 := by rw [him, sign_piece (by decide) (by decide)]; exact z0
 have z1 : (2 * w2 + 32 * w6 + 2048 * w1 + 4096 * w7) / 2 ^ 5 % 2 ^ 6 = w6 := by exact z1_66 h0 h1 h2 h3 h4 h5 h6 h7
 have u1 : un im / 2 ^ 5 % 2 ^ 6 = w6 := by rw [him, sign_piece (by decide) (by decide)]; exact z1
 have z2 : (2 * w2 + 32 * w6 + 2048 * w1 + 4096 * w7) / 2 ^ 11 % 2 ^ 1 = w1 := by exact z2_66 h0 h1 h2 h3 h4 h5 h6 h7
 have u2 : un im / 2 ^ 11 % 2 ^ 1 = w1 := by rw [him, sign_piece (by decide) (by decide)]; exact z2
 have z3 : (2 * w2 + 32 * w6 + 2048 * w1 + 4096 * w7) / 2 ^ 12 % 2 ^ 1 = w7 := by exact z3_66 h0 h1 h2 h3 h4 h5 h6 h7
 have u3 : un im / 2 ^ 12 % 2 ^ 1 = w7 := by rw [him, sign_piece (by decide) (by decide)]; exact z3
 have l0 : putB (w0 + 4096 * w3) 8 4 w2 = w0 + 4096 * w3 + 256 * w2 := l0_66 h0 h1 h2 h3 h4 h5 h6 h7
 have l1 : putB (w0 + 4096 * w3 + 256 * w2) 25 6 w6 = w0 + 4096 * w3 + 256 * w2 + 33554432 * w6 := l1_66 h0 h1 h2 h3 h4 h5 h6 h7
 have l2 : putB (w0 + 4096 * w3 + 256 * w2 + 33554432 * w6) 7 1 w1 = w0 + 4096 * w3 + 256 * w2 + 33554432 * w6 + 128 * w1 := l2_66 h0 h1 h2 h3 h4 h5 h6 h7
 have l3 : putB (w0 + 4096 * w3 + 256 * w2 + 33554432 * w6 + 128 * w1) 31 1 w7 = w0 + 4096 * w3 + 256 * w2 + 33554432 * w6 + 128 * w1 + 2147483648 * w7 := l3_66 h0 h1 h2 h3 h4 h5 h6 h7
 have hl : (laidS 66).1.foldl (layB im) (w0 + 4096 * w3) = w0 + 4096 * w3 + 256 * w2 + 33554432 * w6 + 128 * w1 + 2147483648 * w7 := by
  rw [lp_66]
  have e0 : ∀ x, layB im x (1, 4, 8) = putB x 8 4 (un im / 2 ^ 1 % 2 ^ 4) := fun _ => rfl
  have e1 : ∀ x, layB im x (5, 6, 25) = putB x 25 6 (un im / 2 ^ 5 % 2 ^ 6) := fun _ => rfl
  have e2 : ∀ x, layB im x (11, 1, 7) = putB x 7 1 (un im / 2 ^ 11 % 2 ^ 1) := fun _ => rfl
  have e3 : ∀ x, layB im x (12, 1, 31) = putB x 31 1 (un im / 2 ^ 12 % 2 ^ 1) := fun _ => rfl
  rw [List.foldl_cons, List.foldl_cons, List.foldl_cons, List.foldl_cons, List.foldl_nil, e0, u0, l0, e1, u1, l1, e2, u2, l2, e3, u3, l3]
 rw [hl]
 have g15 : W / 2 ^ 15 % 2 ^ 5 = w4 := by rw [hW]; exact g15_66 h0 h1 h2 h3 h4 h5 h6 h7
 have r15 : putB (w0 + 4096 * w3 + 256 * w2 + 33554432 * w6 + 128 * w1 + 2147483648 * w7) 15 5 w4 = w0 + 4096 * w3 + 256 * w2 + 33554432 * w6 + 128 * w1 + 2147483648 * w7 + 32768 * w4 := r15_66 h0 h1 h2 h3 h4 h5 h6 h7
 have q15 : un ((w4 : Nat) : Int) = w4 := un_small (by omega)
 have g20 : W / 2 ^ 20 % 2 ^ 5 = w5 := by rw [hW]; exact g20_66 h0 h1 h2 h3 h4 h5 h6 h7
 have r20 : putB (w0 + 4096 * w3 + 256 * w2 + 33554432 * w6 + 128 * w1 + 2147483648 * w7 + 32768 * w4) 20 5 w5 = w0 + 4096 * w3 + 256 * w2 + 33554432 * w6 + 128 * w1 + 2147483648 * w7 + 32768 * w4 + 1048576 * w5 := r20_66 h0 h1 h2 h3 h4 h5 h6 h7
 have q20 : un ((w5 : Nat) : Int) = w5 := un_small (by omega)
 have ey : ∀ (x a : Nat) (r : Int), stepR x (true, a, r) = putB x a 5 (un r) := fun _ _ _ => rfl
 have en : ∀ (x a : Nat) (r : Int), stepR x (false, a, r) = x := fun _ _ _ => rfl
 dsimp only
 rw [List.foldl_cons, List.foldl_cons, List.foldl_cons, List.foldl_nil, ey, ey, en, if_pos rfl, if_pos rfl, g15, g20, q15, q20, r15, r20]
 rw [hW]
 clear hW
 omega
theorem lp_85 : (laidS 85).1 = [(12, 20, 12)] := rfl
theorem v0_85 {w0 w1 w2 : Nat} (h0 : w0 < 128) (h1 : w1 < 32) (h2 : w2 < 1048576) : (w0 + 128 * w1 + 4096 * w2) / 2 ^ 12 % 2 ^ 20 = w2 := fld_mid (hi := 0) (lo := w0 + 128 * w1) (by first | (simp only [Nat.reduceAdd, Nat.reducePow]; omega) | (simp only [Nat.reduceAdd, Nat.reducePow]; done) | omega) (by first | (simp only [Nat.reduceAdd, Nat.reducePow]; omega) | (simp only [Nat.reduceAdd, Nat.reducePow]; done) | omega) (by first | (simp only [Nat.reduceAdd, Nat.reducePow]; omega) | (simp only [Nat.reduceAdd, Nat.reducePow]; done) | omega)
theorem s0_85 {w0 w1 w2 : Nat} (h0 : w0 < 128) (h1 : w1 < 32) (h2 : w2 < 1048576) : putB (0) 12 20 w2 = 4096 * w2 := (put_mid (hi := 0) (lo := 0) (by first | (simp only [Nat.reduceAdd, Nat.reducePow]; omega) | (simp only [Nat.reduceAdd, Nat.reducePow]; done) | omega) (by first | (simp only [Nat.reduceAdd, Nat.reducePow]; omega) | (simp only [Nat.reduceAdd, Nat.reducePow]; done) | omega) (by first | (simp only [Nat.reduceAdd, Nat.reducePow]; omega) | (simp only [Nat.reduceAdd, Nat.reducePow]; done) | omega)).trans (by first | (simp only [Nat.reduceAdd, Nat.reducePow]; omega) | (simp only [Nat.reduceAdd, Nat.reducePow]; done) | omega)
theorem x_85 {W w0 w1 w2 : Nat} (hW : W = w0 + 128 * w1 + 4096 * w2) (h0 : w0 < 128) (h1 : w1 < 32) (h2 : w2 < 1048576) : (laidS 85).1.foldl (readX W) 0 = 4096 * w2 := by
 rw [lp_85]
 have v0 : W / 2 ^ 12 % 2 ^ 20 = w2 := by rw [hW]; exact v0_85 h0 h1 h2
 have s0 : putB (0) 12 20 w2 = 4096 * w2 := s0_85 h0 h1 h2
 have e0 : ∀ x, readX W x (12, 20, 12) = putB x 12 20 (W / 2 ^ 12 % 2 ^ 20) := fun _ => rfl
 rw [List.foldl_cons, List.foldl_nil, e0, v0, s0]
theorem z0_85 {w0 w1 w2 : Nat} (h0 : w0 < 128) (h1 : w1 < 32) (h2 : w2 < 1048576) : (4096 * w2) / 2 ^ 12 % 2 ^ 20 = w2 := fld_mid (hi := 0) (lo := 0) (by first | (simp only [Nat.reduceAdd, Nat.reducePow]; omega) | (simp only [Nat.reduceAdd, Nat.reducePow]; done) | omega) (by first | (simp only [Nat.reduceAdd, Nat.reducePow]; omega) | (simp only [Nat.reduceAdd, Nat.reducePow]; done) | omega) (by first | (simp only [Nat.reduceAdd, Nat.reducePow]; omega) | (simp only [Nat.reduceAdd, Nat.reducePow]; done) | omega)
theorem l0_85 {w0 w1 w2 : Nat} (h0 : w0 < 128) (h1 : w1 < 32) (h2 : w2 < 1048576) : putB (w0) 12 20 w2 = w0 + 4096 * w2 := (put_mid (hi := 0) (lo := w0) (by first | (simp only [Nat.reduceAdd, Nat.reducePow]; omega) | (simp only [Nat.reduceAdd, Nat.reducePow]; done) | omega) (by first | (simp only [Nat.reduceAdd, Nat.reducePow]; omega) | (simp only [Nat.reduceAdd, Nat.reducePow]; done) | omega) (by first | (simp only [Nat.reduceAdd, Nat.reducePow]; omega) | (simp only [Nat.reduceAdd, Nat.reducePow]; done) | omega)).trans (by first | (simp only [Nat.reduceAdd, Nat.reducePow]; omega) | (simp only [Nat.reduceAdd, Nat.reducePow]; done) | omega)
theorem g7_85 {w0 w1 w2 : Nat} (h0 : w0 < 128) (h1 : w1 < 32) (h2 : w2 < 1048576) : (w0 + 128 * w1 + 4096 * w2) / 2 ^ 7 % 2 ^ 5 = w1 := fld_mid (hi := w2) (lo := w0) (by first | (simp only [Nat.reduceAdd, Nat.reducePow]; omega) | (simp only [Nat.reduceAdd, Nat.reducePow]; done) | omega) (by first | (simp only [Nat.reduceAdd, Nat.reducePow]; omega) | (simp only [Nat.reduceAdd, Nat.reducePow]; done) | omega) (by first | (simp only [Nat.reduceAdd, Nat.reducePow]; omega) | (simp only [Nat.reduceAdd, Nat.reducePow]; done) | omega)
theorem r7_85 {w0 w1 w2 : Nat} (h0 : w0 < 128) (h1 : w1 < 32) (h2 : w2 < 1048576) : putB (w0 + 4096 * w2) 7 5 w1 = w0 + 4096 * w2 + 128 * w1 := (put_mid (hi := w2) (lo := w0) (by first | (simp only [Nat.reduceAdd, Nat.reducePow]; omega) | (simp only [Nat.reduceAdd, Nat.reducePow]; done) | omega) (by first | (simp only [Nat.reduceAdd, Nat.reducePow]; omega) | (simp only [Nat.reduceAdd, Nat.reducePow]; done) | omega) (by first | (simp only [Nat.reduceAdd, Nat.reducePow]; omega) | (simp only [Nat.reduceAdd, Nat.reducePow]; done) | omega)).trans (by first | (simp only [Nat.reduceAdd, Nat.reducePow]; omega) | (simp only [Nat.reduceAdd, Nat.reducePow]; done) | omega)
theorem w_85 {W w0 w1 w2 : Nat} {im : Int} (hW : W = w0 + 128 * w1 + 4096 * w2) (h0 : w0 < 128) (h1 : w1 < 32) (h2 : w2 < 1048576) (him : un im = signN ((laidS 85).1.foldl (readX W) 0) 32) : [((hasS 85).1, 7, if (hasS 85).1 = true then ((W / 2 ^ 7 % 2 ^ 5 : Nat) : Int) else 0), ((hasS 85).2.1, 15, if (hasS 85).2.1 = true then ((W / 2 ^ 15 % 2 ^ 5 : Nat) : Int) else 0), ((hasS 85).2.2, 20, if (hasS 85).2.2 = true then ((W / 2 ^ 20 % 2 ^ 5 : Nat) : Int) else 0)].foldl stepR ((laidS 85).1.foldl (layB im) (w0)) = W := by
 have hx := x_85 hW h0 h1 h2
 rw [hx] at him
 clear hx
 have eh : hasS 85 = (true, false, false) := rfl
 rw [eh]
 have z0 : (4096 * w2) / 2 ^ 12 % 2 ^ 20 = w2 := by exact z0_85 h0 h1 h2
 have u0 : un im / 2 ^ 12 % 2 ^ 20 = w2 := by rw [him, sign_piece (by decide) (by decide)]; exact z0
 have l0 : putB (w0) 12 20 w2 = w0 + 4096 * w2 := l0_85 h0 h1 h2
 have hl : (laidS 85).1.foldl (layB im) (w0) = w0 + 4096 * w2 := by
  rw [lp_85]
  have e0 : ∀ x, layB im x (12, 20, 12) = putB x 12 20 (un im / 2 ^ 12 % 2 ^ 20) := fun _ => rfl
  rw [List.foldl_cons, List.foldl_nil, e0, u0, l0]
 rw [hl]
 have g7 : W / 2 ^ 7 % 2 ^ 5 = w1 := by rw [hW]; exact g7_85 h0 h1 h2
 have r7 : putB (w0 + 4096 * w2) 7 5 w1 = w0 + 4096 * w2 + 128 * w1 := r7_85 h0 h1 h2
 have q7 : un ((w1 : Nat) : Int) = w1 := un_small (by omega)
 have ey : ∀ (x a : Nat) (r : Int), stepR x (true, a, r) = putB x a 5 (un r) := fun _ _ _ => rfl
 have en : ∀ (x a : Nat) (r : Int), stepR x (false, a, r) = x := fun _ _ _ => rfl
 dsimp only
 rw [List.foldl_cons, List.foldl_cons, List.foldl_cons, List.foldl_nil, en, en, ey, if_pos rfl, g7, q7, r7]
 rw [hW]
 clear hW
 omega
theorem lp_74 : (laidS 74).1 = [(12, 8, 12), (11, 1, 20), (1, 10, 21), (20, 1, 31)] := rfl
theorem v0_74 {w0 w1 w2 w3 w4 w5 : Nat} (h0 : w0 < 128) (h1 : w1 < 32) (h2 : w2 < 256) (h3 : w3 < 2) (h4 : w4 < 1024) (h5 : w5 < 2) : (w0 + 128 * w1 + 4096 * w2 + 1048576 * w3 + 2097152 * w4 + 2147483648 * w5) / 2 ^ 12 % 2 ^ 8 = w2 := fld_mid (hi := w3 + 2 * w4 + 2048 * w5) (lo := w0 + 128 * w1) (by first | (simp only [Nat.reduceAdd, Nat.reducePow]; omega) | (simp only [Nat.reduceAdd, Nat.reducePow]; done) | omega) (by first | (simp only [Nat.reduceAdd, Nat.reducePow]; omega) | (simp only [Nat.reduceAdd, Nat.reducePow]; done) | omega) (by first | (simp only [Nat.reduceAdd, Nat.reducePow]; omega) | (simp only [Nat.reduceAdd, Nat.reducePow]; done) | omega)
theorem v1_74 {w0 w1 w2 w3 w4 w5 : Nat} (h0 : w0 < 128) (h1 : w1 < 32) (h2 : w2 < 256) (h3 : w3 < 2) (h4 : w4 < 1024) (h5 : w5 < 2) : (w0 + 128 * w1 + 4096 * w2 + 1048576 * w3 + 2097152 * w4 + 2147483648 * w5) / 2 ^ 20 % 2 ^ 1 = w3 := fld_mid (hi := w4 + 1024 * w5) (lo := w0 + 128 * w1 + 4096 * w2) (by first | (simp only [Nat.reduceAdd, Nat.reducePow]; omega) | (simp only [Nat.reduceAdd, Nat.reducePow]; done) | omega) (by first | (simp only [Nat.reduceAdd, Nat.reducePow]; omega) | (simp only [Nat.reduceAdd, Nat.reducePow]; done) | omega) (by first | (simp only [Nat.reduceAdd, Nat.reducePow]; omega) | (simp only [Nat.reduceAdd, Nat.reducePow]; done) | omega)
theorem v2_74 {w0 w1 w2 w3 w4 w5 : Nat} (h0 : w0 < 128) (h1 : w1 < 32) (h2 : w2 < 256) (h3 : w3 < 2) (h4 : w4 < 1024) (h5 : w5 < 2) : (w0 + 128 * w1 + 4096 * w2 + 1048576 * w3 + 2097152 * w4 + 2147483648 * w5) / 2 ^ 21 % 2 ^ 10 = w4 := fld_mid (hi := w5) (lo := w0 + 128 * w1 + 4096 * w2 + 1048576 * w3) (by first | (simp only [Nat.reduceAdd, Nat.reducePow]; omega) | (simp only [Nat.reduceAdd, Nat.reducePow]; done) | omega) (by first | (simp only [Nat.reduceAdd, Nat.reducePow]; omega) | (simp only [Nat.reduceAdd, Nat.reducePow]; done) | omega) (by first | (simp only [Nat.reduceAdd, Nat.reducePow]; omega) | (simp only [Nat.reduceAdd, Nat.reducePow]; done) | omega)
theorem v3_74 {w0 w1 w2 w3 w4 w5 : Nat} (h0 : w0 < 128) (h1 : w1 < 32) (h2 : w2 < 256) (h3 : w3 < 2) (h4 : w4 < 1024) (h5 : w5 < 2) : (w0 + 128 * w1 + 4096 * w2 + 1048576 * w3 + 2097152 * w4 + 2147483648 * w5) / 2 ^ 31 % 2 ^ 1 = w5 := fld_mid (hi := 0) (lo := w0 + 128 * w1 + 4096 * w2 + 1048576 * w3 + 2097152 * w4) (by first | (simp only [Nat.reduceAdd, Nat.reducePow]; omega) | (simp only [Nat.reduceAdd, Nat.reducePow]; done) | omega) (by first | (simp only [Nat.reduceAdd, Nat.reducePow]; omega) | (simp only [Nat.reduceAdd, Nat.reducePow]; done) | omega) (by first | (simp only [Nat.reduceAdd, Nat.reducePow]; omega) | (simp only [Nat.reduceAdd, Nat.reducePow]; done) | omega)
theorem s0_74 {w0 w1 w2 w3 w4 w5 : Nat} (h0 : w0 < 128) (h1 : w1 < 32) (h2 : w2 < 256) (h3 : w3 < 2) (h4 : w4 < 1024) (h5 : w5 < 2) : putB (0) 12 8 w2 = 4096 * w2 := (put_mid (hi := 0) (lo := 0) (by first | (simp only [Nat.reduceAdd, Nat.reducePow]; omega) | (simp only [Nat.reduceAdd, Nat.reducePow]; done) | omega) (by first | (simp only [Nat.reduceAdd, Nat.reducePow]; omega) | (simp only [Nat.reduceAdd, Nat.reducePow]; done) | omega) (by first | (simp only [Nat.reduceAdd, Nat.reducePow]; omega) | (simp only [Nat.reduceAdd, Nat.reducePow]; done) | omega)).trans (by first | (simp only [Nat.reduceAdd, Nat.reducePow]; omega) | (simp only [Nat.reduceAdd, Nat.reducePow]; done) | omega)
theorem s1_74 {w0 w1 w2 w3 w4 w5 : Nat} (h0 : w0 < 128) (h1 : w1 < 32) (h2 : w2 < 256) (h3 : w3 < 2) (h4 : w4 < 1024) (h5 : w5 < 2) : putB (4096 * w2) 11 1 w3 = 4096 * w2 + 2048 * w3 := (put_mid (hi := w2) (lo := 0) (by first | (simp only [Nat.reduceAdd, Nat.reducePow]; omega) | (simp only [Nat.reduceAdd, Nat.reducePow]; done) | omega) (by first | (simp only [Nat.reduceAdd, Nat.reducePow]; omega) | (simp only [Nat.reduceAdd, Nat.reducePow]; done) | omega) (by first | (simp only [Nat.reduceAdd, Nat.reducePow]; omega) | (simp only [Nat.reduceAdd, Nat.reducePow]; done) | omega)).trans (by first | (simp only [Nat.reduceAdd, Nat.reducePow]; omega) | (simp only [Nat.reduceAdd, Nat.reducePow]; done) | omega)
theorem s2_74 {w0 w1 w2 w3 w4 w5 : Nat} (h0 : w0 < 128) (h1 : w1 < 32) (h2 : w2 < 256) (h3 : w3 < 2) (h4 : w4 < 1024) (h5 : w5 < 2) : putB (4096 * w2 + 2048 * w3) 1 10 w4 = 4096 * w2 + 2048 * w3 + 2 * w4 := (put_mid (hi := 2 * w2 + w3) (lo := 0) (by first | (simp only [Nat.reduceAdd, Nat.reducePow]; omega) | (simp only [Nat.reduceAdd, Nat.reducePow]; done) | omega) (by first | (simp only [Nat.reduceAdd, Nat.reducePow]; omega) | (simp only [Nat.reduceAdd, Nat.reducePow]; done) | omega) (by first | (simp only [Nat.reduceAdd, Nat.reducePow]; omega) | (simp only [Nat.reduceAdd, Nat.reducePow]; done) | omega)).trans (by first | (simp only [Nat.reduceAdd, Nat.reducePow]; omega) | (simp only [Nat.reduceAdd, Nat.reducePow]; done) | omega)
theorem s3_74 {w0 w1 w2 w3 w4 w5 : Nat} (h0 : w0 < 128) (h1 : w1 < 32) (h2 : w2 < 256) (h3 : w3 < 2) (h4 : w4 < 1024) (h5 : w5 < 2) : putB (4096 * w2 + 2048 * w3 + 2 * w4) 20 1 w5 = 4096 * w2 + 2048 * w3 + 2 * w4 + 1048576 * w5 := (put_mid (hi := 0) (lo := 4096 * w2 + 2048 * w3 + 2 * w4) (by first | (simp only [Nat.reduceAdd, Nat.reducePow]; omega) | (simp only [Nat.reduceAdd, Nat.reducePow]; done) | omega) (by first | (simp only [Nat.reduceAdd, Nat.reducePow]; omega) | (simp only [Nat.reduceAdd, Nat.reducePow]; done) | omega) (by first | (simp only [Nat.reduceAdd, Nat.reducePow]; omega) | (simp only [Nat.reduceAdd, Nat.reducePow]; done) | omega)).trans (by first | (simp only [Nat.reduceAdd, Nat.reducePow]; omega) | (simp only [Nat.reduceAdd, Nat.reducePow]; done) | omega)
theorem x_74 {W w0 w1 w2 w3 w4 w5 : Nat} (hW : W = w0 + 128 * w1 + 4096 * w2 + 1048576 * w3 + 2097152 * w4 + 2147483648 * w5) (h0 : w0 < 128) (h1 : w1 < 32) (h2 : w2 < 256) (h3 : w3 < 2) (h4 : w4 < 1024) (h5 : w5 < 2) : (laidS 74).1.foldl (readX W) 0 = 4096 * w2 + 2048 * w3 + 2 * w4 + 1048576 * w5 := by
 rw [lp_74]
 have v0 : W / 2 ^ 12 % 2 ^ 8 = w2 := by rw [hW]; exact v0_74 h0 h1 h2 h3 h4 h5
 have v1 : W / 2 ^ 20 % 2 ^ 1 = w3 := by rw [hW]; exact v1_74 h0 h1 h2 h3 h4 h5
 have v2 : W / 2 ^ 21 % 2 ^ 10 = w4 := by rw [hW]; exact v2_74 h0 h1 h2 h3 h4 h5
 have v3 : W / 2 ^ 31 % 2 ^ 1 = w5 := by rw [hW]; exact v3_74 h0 h1 h2 h3 h4 h5
 have s0 : putB (0) 12 8 w2 = 4096 * w2 := s0_74 h0 h1 h2 h3 h4 h5
 have e0 : ∀ x, readX W x (12, 8, 12) = putB x 12 8 (W / 2 ^ 12 % 2 ^ 8) := fun _ => rfl
 have s1 : putB (4096 * w2) 11 1 w3 = 4096 * w2 + 2048 * w3 := s1_74 h0 h1 h2 h3 h4 h5
 have e1 : ∀ x, readX W x (11, 1, 20) = putB x 11 1 (W / 2 ^ 20 % 2 ^ 1) := fun _ => rfl
 have s2 : putB (4096 * w2 + 2048 * w3) 1 10 w4 = 4096 * w2 + 2048 * w3 + 2 * w4 := s2_74 h0 h1 h2 h3 h4 h5
 have e2 : ∀ x, readX W x (1, 10, 21) = putB x 1 10 (W / 2 ^ 21 % 2 ^ 10) := fun _ => rfl
 have s3 : putB (4096 * w2 + 2048 * w3 + 2 * w4) 20 1 w5 = 4096 * w2 + 2048 * w3 + 2 * w4 + 1048576 * w5 := s3_74 h0 h1 h2 h3 h4 h5
 have e3 : ∀ x, readX W x (20, 1, 31) = putB x 20 1 (W / 2 ^ 31 % 2 ^ 1) := fun _ => rfl
 rw [List.foldl_cons, List.foldl_cons, List.foldl_cons, List.foldl_cons, List.foldl_nil, e0, v0, s0, e1, v1, s1, e2, v2, s2, e3, v3, s3]
theorem z0_74 {w0 w1 w2 w3 w4 w5 : Nat} (h0 : w0 < 128) (h1 : w1 < 32) (h2 : w2 < 256) (h3 : w3 < 2) (h4 : w4 < 1024) (h5 : w5 < 2) : (4096 * w2 + 2048 * w3 + 2 * w4 + 1048576 * w5) / 2 ^ 12 % 2 ^ 8 = w2 := fld_mid (hi := w5) (lo := 2048 * w3 + 2 * w4) (by first | (simp only [Nat.reduceAdd, Nat.reducePow]; omega) | (simp only [Nat.reduceAdd, Nat.reducePow]; done) | omega) (by first | (simp only [Nat.reduceAdd, Nat.reducePow]; omega) | (simp only [Nat.reduceAdd, Nat.reducePow]; done) | omega) (by first | (simp only [Nat.reduceAdd, Nat.reducePow]; omega) | (simp only [Nat.reduceAdd, Nat.reducePow]; done) | omega)
theorem z1_74 {w0 w1 w2 w3 w4 w5 : Nat} (h0 : w0 < 128) (h1 : w1 < 32) (h2 : w2 < 256) (h3 : w3 < 2) (h4 : w4 < 1024) (h5 : w5 < 2) : (4096 * w2 + 2048 * w3 + 2 * w4 + 1048576 * w5) / 2 ^ 11 % 2 ^ 1 = w3 := fld_mid (hi := w2 + 256 * w5) (lo := 2 * w4) (by first | (simp only [Nat.reduceAdd, Nat.reducePow]; omega) | (simp only [Nat.reduceAdd, Nat.reducePow]; done) | omega) (by first | (simp only [Nat.reduceAdd, Nat.reducePow]; omega) | (simp only [Nat.reduceAdd, Nat.reducePow]; done) | omega) (by first | (simp only [Nat.reduceAdd, Nat.reducePow]; omega) | (simp only [Nat.reduceAdd, Nat.reducePow]; done) | omega)
theorem z2_74 {w0 w1 w2 w3 w4 w5 : Nat} (h0 : w0 < 128) (h1 : w1 < 32) (h2 : w2 < 256) (h3 : w3 < 2) (h4 : w4 < 1024) (h5 : w5 < 2) : (4096 * w2 + 2048 * w3 + 2 * w4 + 1048576 * w5) / 2 ^ 1 % 2 ^ 10 = w4 := fld_mid (hi := 2 * w2 + w3 + 512 * w5) (lo := 0) (by first | (simp only [Nat.reduceAdd, Nat.reducePow]; omega) | (simp only [Nat.reduceAdd, Nat.reducePow]; done) | omega) (by first | (simp only [Nat.reduceAdd, Nat.reducePow]; omega) | (simp only [Nat.reduceAdd, Nat.reducePow]; done) | omega) (by first | (simp only [Nat.reduceAdd, Nat.reducePow]; omega) | (simp only [Nat.reduceAdd, Nat.reducePow]; done) | omega)
theorem z3_74 {w0 w1 w2 w3 w4 w5 : Nat} (h0 : w0 < 128) (h1 : w1 < 32) (h2 : w2 < 256) (h3 : w3 < 2) (h4 : w4 < 1024) (h5 : w5 < 2) : (4096 * w2 + 2048 * w3 + 2 * w4 + 1048576 * w5) / 2 ^ 20 % 2 ^ 1 = w5 := fld_mid (hi := 0) (lo := 4096 * w2 + 2048 * w3 + 2 * w4) (by first | (simp only [Nat.reduceAdd, Nat.reducePow]; omega) | (simp only [Nat.reduceAdd, Nat.reducePow]; done) | omega) (by first | (simp only [Nat.reduceAdd, Nat.reducePow]; omega) | (simp only [Nat.reduceAdd, Nat.reducePow]; done) | omega) (by first | (simp only [Nat.reduceAdd, Nat.reducePow]; omega) | (simp only [Nat.reduceAdd, Nat.reducePow]; done) | omega)
theorem l0_74 {w0 w1 w2 w3 w4 w5 : Nat} (h0 : w0 < 128) (h1 : w1 < 32) (h2 : w2 < 256) (h3 : w3 < 2) (h4 : w4 < 1024) (h5 : w5 < 2) : putB (w0) 12 8 w2 = w0 + 4096 * w2 := (put_mid (hi := 0) (lo := w0) (by first | (simp only [Nat.reduceAdd, Nat.reducePow]; omega) | (simp only [Nat.reduceAdd, Nat.reducePow]; done) | omega) (by first | (simp only [Nat.reduceAdd, Nat.reducePow]; omega) | (simp only [Nat.reduceAdd, Nat.reducePow]; done) | omega) (by first | (simp only [Nat.reduceAdd, Nat.reducePow]; omega) | (simp only [Nat.reduceAdd, Nat.reducePow]; done) | omega)).trans (by first | (simp only [Nat.reduceAdd, Nat.reducePow]; omega) | (simp only [Nat.reduceAdd, Nat.reducePow]; done) | omega)
theorem l1_74 {w0 w1 w2 w3 w4 w5 : Nat} (h0 : w0 < 128) (h1 : w1 < 32) (h2 : w2 < 256) (h3 : w3 < 2) (h4 : w4 < 1024) (h5 : w5 < 2) : putB (w0 + 4096 * w2) 20 1 w3 = w0 + 4096 * w2 + 1048576 * w3 := (put_mid (hi := 0) (lo := w0 + 4096 * w2) (by first | (simp only [Nat.reduceAdd, Nat.reducePow]; omega) | (simp only [Nat.reduceAdd, Nat.reducePow]; done) | omega) (by first | (simp only [Nat.reduceAdd, Nat.reducePow]; omega) | (simp only [Nat.reduceAdd, Nat.reducePow]; done) | omega) (by first | (simp only [Nat.reduceAdd, Nat.reducePow]; omega) | (simp only [Nat.reduceAdd, Nat.reducePow]; done) | omega)).trans (by first | (simp only [Nat.reduceAdd, Nat.reducePow]; omega) | (simp only [Nat.reduceAdd, Nat.reducePow]; done) | omega)
theorem l2_74 {w0 w1 w2 w3 w4 w5 : Nat} (h0 : w0 < 128) (h1 : w1 < 32) (h2 : w2 < 256) (h3 : w3 < 2) (h4 : w4 < 1024) (h5 : w5 < 2) : putB (w0 + 4096 * w2 + 1048576 * w3) 21 10 w4 = w0 + 4096 * w2 + 1048576 * w3 + 2097152 * w4 := (put_mid (hi := 0) (lo := w0 + 4096 * w2 + 1048576 * w3) (by first | (simp only [Nat.reduceAdd, Nat.reducePow]; omega) | (simp only [Nat.reduceAdd, Nat.reducePow]; done) | omega) (by first | (simp only [Nat.reduceAdd, Nat.reducePow]; omega) | (simp only [Nat.reduceAdd, Nat.reducePow]; done) | omega) (by first | (simp only [Nat.reduceAdd, Nat.reducePow]; omega) | (simp only [Nat.reduceAdd, Nat.reducePow]; done) | omega)).trans (by first | (simp only [Nat.reduceAdd, Nat.reducePow]; omega) | (simp only [Nat.reduceAdd, Nat.reducePow]; done) | omega)
theorem l3_74 {w0 w1 w2 w3 w4 w5 : Nat} (h0 : w0 < 128) (h1 : w1 < 32) (h2 : w2 < 256) (h3 : w3 < 2) (h4 : w4 < 1024) (h5 : w5 < 2) : putB (w0 + 4096 * w2 + 1048576 * w3 + 2097152 * w4) 31 1 w5 = w0 + 4096 * w2 + 1048576 * w3 + 2097152 * w4 + 2147483648 * w5 := (put_mid (hi := 0) (lo := w0 + 4096 * w2 + 1048576 * w3 + 2097152 * w4) (by first | (simp only [Nat.reduceAdd, Nat.reducePow]; omega) | (simp only [Nat.reduceAdd, Nat.reducePow]; done) | omega) (by first | (simp only [Nat.reduceAdd, Nat.reducePow]; omega) | (simp only [Nat.reduceAdd, Nat.reducePow]; done) | omega) (by first | (simp only [Nat.reduceAdd, Nat.reducePow]; omega) | (simp only [Nat.reduceAdd, Nat.reducePow]; done) | omega)).trans (by first | (simp only [Nat.reduceAdd, Nat.reducePow]; omega) | (simp only [Nat.reduceAdd, Nat.reducePow]; done) | omega)
theorem g7_74 {w0 w1 w2 w3 w4 w5 : Nat} (h0 : w0 < 128) (h1 : w1 < 32) (h2 : w2 < 256) (h3 : w3 < 2) (h4 : w4 < 1024) (h5 : w5 < 2) : (w0 + 128 * w1 + 4096 * w2 + 1048576 * w3 + 2097152 * w4 + 2147483648 * w5) / 2 ^ 7 % 2 ^ 5 = w1 := fld_mid (hi := w2 + 256 * w3 + 512 * w4 + 524288 * w5) (lo := w0) (by first | (simp only [Nat.reduceAdd, Nat.reducePow]; omega) | (simp only [Nat.reduceAdd, Nat.reducePow]; done) | omega) (by first | (simp only [Nat.reduceAdd, Nat.reducePow]; omega) | (simp only [Nat.reduceAdd, Nat.reducePow]; done) | omega) (by first | (simp only [Nat.reduceAdd, Nat.reducePow]; omega) | (simp only [Nat.reduceAdd, Nat.reducePow]; done) | omega)
theorem r7_74 {w0 w1 w2 w3 w4 w5 : Nat} (h0 : w0 < 128) (h1 : w1 < 32) (h2 : w2 < 256) (h3 : w3 < 2) (h4 : w4 < 1024) (h5 : w5 < 2) : putB (w0 + 4096 * w2 + 1048576 * w3 + 2097152 * w4 + 2147483648 * w5) 7 5 w1 = w0 + 4096 * w2 + 1048576 * w3 + 2097152 * w4 + 2147483648 * w5 + 128 * w1 := (put_mid (hi := w2 + 256 * w3 + 512 * w4 + 524288 * w5) (lo := w0) (by first | (simp only [Nat.reduceAdd, Nat.reducePow]; omega) | (simp only [Nat.reduceAdd, Nat.reducePow]; done) | omega) (by first | (simp only [Nat.reduceAdd, Nat.reducePow]; omega) | (simp only [Nat.reduceAdd, Nat.reducePow]; done) | omega) (by first | (simp only [Nat.reduceAdd, Nat.reducePow]; omega) | (simp only [Nat.reduceAdd, Nat.reducePow]; done) | omega)).trans (by first | (simp only [Nat.reduceAdd, Nat.reducePow]; omega) | (simp only [Nat.reduceAdd, Nat.reducePow]; done) | omega)
theorem w_74 {W w0 w1 w2 w3 w4 w5 : Nat} {im : Int} (hW : W = w0 + 128 * w1 + 4096 * w2 + 1048576 * w3 + 2097152 * w4 + 2147483648 * w5) (h0 : w0 < 128) (h1 : w1 < 32) (h2 : w2 < 256) (h3 : w3 < 2) (h4 : w4 < 1024) (h5 : w5 < 2) (him : un im = signN ((laidS 74).1.foldl (readX W) 0) 21) : [((hasS 74).1, 7, if (hasS 74).1 = true then ((W / 2 ^ 7 % 2 ^ 5 : Nat) : Int) else 0), ((hasS 74).2.1, 15, if (hasS 74).2.1 = true then ((W / 2 ^ 15 % 2 ^ 5 : Nat) : Int) else 0), ((hasS 74).2.2, 20, if (hasS 74).2.2 = true then ((W / 2 ^ 20 % 2 ^ 5 : Nat) : Int) else 0)].foldl stepR ((laidS 74).1.foldl (layB im) (w0)) = W := by
 have hx := x_74 hW h0 h1 h2 h3 h4 h5
 rw [hx] at him
 clear hx
 have eh : hasS 74 = (true, false, false) := rfl
 rw [eh]
 have z0 : (4096 * w2 + 2048 * w3 + 2 * w4 + 1048576 * w5) / 2 ^ 12 % 2 ^ 8 = w2 := by exact z0_74 h0 h1 h2 h3 h4 h5
 have u0 : un im / 2 ^ 12 % 2 ^ 8 = w2 := by rw [him, sign_piece (by decide) (by decide)]; exact z0
 have z1 : (4096 * w2 + 2048 * w3 + 2 * w4 + 1048576 * w5) / 2 ^ 11 % 2 ^ 1 = w3 := by exact z1_74 h0 h1 h2 h3 h4 h5
 have u1 : un im / 2 ^ 11 % 2 ^ 1 = w3 := by rw [him, sign_piece (by decide) (by decide)]; exact z1
 have z2 : (4096 * w2 + 2048 * w3 + 2 * w4 + 1048576 * w5) / 2 ^ 1 % 2 ^ 10 = w4 := by exact z2_74 h0 h1 h2 h3 h4 h5
 have u2 : un im / 2 ^ 1 % 2 ^ 10 = w4 := by rw [him, sign_piece (by decide) (by decide)]; exact z2
 have z3 : (4096 * w2 + 2048 * w3 + 2 * w4 + 1048576 * w5) / 2 ^ 20 % 2 ^ 1 = w5 := by exact z3_74 h0 h1 h2 h3 h4 h5
 have u3 : un im / 2 ^ 20 % 2 ^ 1 = w5 := by rw [him, sign_piece (by decide) (by decide)]; exact z3
 have l0 : putB (w0) 12 8 w2 = w0 + 4096 * w2 := l0_74 h0 h1 h2 h3 h4 h5
 have l1 : putB (w0 + 4096 * w2) 20 1 w3 = w0 + 4096 * w2 + 1048576 * w3 := l1_74 h0 h1 h2 h3 h4 h5
 have l2 : putB (w0 + 4096 * w2 + 1048576 * w3) 21 10 w4 = w0 + 4096 * w2 + 1048576 * w3 + 2097152 * w4 := l2_74 h0 h1 h2 h3 h4 h5
 have l3 : putB (w0 + 4096 * w2 + 1048576 * w3 + 2097152 * w4) 31 1 w5 = w0 + 4096 * w2 + 1048576 * w3 + 2097152 * w4 + 2147483648 * w5 := l3_74 h0 h1 h2 h3 h4 h5
 have hl : (laidS 74).1.foldl (layB im) (w0) = w0 + 4096 * w2 + 1048576 * w3 + 2097152 * w4 + 2147483648 * w5 := by
  rw [lp_74]
  have e0 : ∀ x, layB im x (12, 8, 12) = putB x 12 8 (un im / 2 ^ 12 % 2 ^ 8) := fun _ => rfl
  have e1 : ∀ x, layB im x (11, 1, 20) = putB x 20 1 (un im / 2 ^ 11 % 2 ^ 1) := fun _ => rfl
  have e2 : ∀ x, layB im x (1, 10, 21) = putB x 21 10 (un im / 2 ^ 1 % 2 ^ 10) := fun _ => rfl
  have e3 : ∀ x, layB im x (20, 1, 31) = putB x 31 1 (un im / 2 ^ 20 % 2 ^ 1) := fun _ => rfl
  rw [List.foldl_cons, List.foldl_cons, List.foldl_cons, List.foldl_cons, List.foldl_nil, e0, u0, l0, e1, u1, l1, e2, u2, l2, e3, u3, l3]
 rw [hl]
 have g7 : W / 2 ^ 7 % 2 ^ 5 = w1 := by rw [hW]; exact g7_74 h0 h1 h2 h3 h4 h5
 have r7 : putB (w0 + 4096 * w2 + 1048576 * w3 + 2097152 * w4 + 2147483648 * w5) 7 5 w1 = w0 + 4096 * w2 + 1048576 * w3 + 2097152 * w4 + 2147483648 * w5 + 128 * w1 := r7_74 h0 h1 h2 h3 h4 h5
 have q7 : un ((w1 : Nat) : Int) = w1 := un_small (by omega)
 have ey : ∀ (x a : Nat) (r : Int), stepR x (true, a, r) = putB x a 5 (un r) := fun _ _ _ => rfl
 have en : ∀ (x a : Nat) (r : Int), stepR x (false, a, r) = x := fun _ _ _ => rfl
 dsimp only
 rw [List.foldl_cons, List.foldl_cons, List.foldl_cons, List.foldl_nil, en, en, ey, if_pos rfl, g7, q7, r7]
 rw [hW]
 clear hW
 omega
theorem lp_82 : (laidS 82).1 = [] := rfl
theorem g7_82 {w0 w1 w2 w3 w4 w5 : Nat} (h0 : w0 < 128) (h1 : w1 < 32) (h2 : w2 < 8) (h3 : w3 < 32) (h4 : w4 < 32) (h5 : w5 < 128) : (w0 + 128 * w1 + 4096 * w2 + 32768 * w3 + 1048576 * w4 + 33554432 * w5) / 2 ^ 7 % 2 ^ 5 = w1 := fld_mid (hi := w2 + 8 * w3 + 256 * w4 + 8192 * w5) (lo := w0) (by first | (simp only [Nat.reduceAdd, Nat.reducePow]; omega) | (simp only [Nat.reduceAdd, Nat.reducePow]; done) | omega) (by first | (simp only [Nat.reduceAdd, Nat.reducePow]; omega) | (simp only [Nat.reduceAdd, Nat.reducePow]; done) | omega) (by first | (simp only [Nat.reduceAdd, Nat.reducePow]; omega) | (simp only [Nat.reduceAdd, Nat.reducePow]; done) | omega)
theorem r7_82 {w0 w1 w2 w3 w4 w5 : Nat} (h0 : w0 < 128) (h1 : w1 < 32) (h2 : w2 < 8) (h3 : w3 < 32) (h4 : w4 < 32) (h5 : w5 < 128) : putB (w0 + 4096 * w2 + 33554432 * w5) 7 5 w1 = w0 + 4096 * w2 + 33554432 * w5 + 128 * w1 := (put_mid (hi := w2 + 8192 * w5) (lo := w0) (by first | (simp only [Nat.reduceAdd, Nat.reducePow]; omega) | (simp only [Nat.reduceAdd, Nat.reducePow]; done) | omega) (by first | (simp only [Nat.reduceAdd, Nat.reducePow]; omega) | (simp only [Nat.reduceAdd, Nat.reducePow]; done) | omega) (by first | (simp only [Nat.reduceAdd, Nat.reducePow]; omega) | (simp only [Nat.reduceAdd, Nat.reducePow]; done) | omega)).trans (by first | (simp only [Nat.reduceAdd, Nat.reducePow]; omega) | (simp only [Nat.reduceAdd, Nat.reducePow]; done) | omega)
theorem g15_82 {w0 w1 w2 w3 w4 w5 : Nat} (h0 : w0 < 128) (h1 : w1 < 32) (h2 : w2 < 8) (h3 : w3 < 32) (h4 : w4 < 32) (h5 : w5 < 128) : (w0 + 128 * w1 + 4096 * w2 + 32768 * w3 + 1048576 * w4 + 33554432 * w5) / 2 ^ 15 % 2 ^ 5 = w3 := fld_mid (hi := w4 + 32 * w5) (lo := w0 + 128 * w1 + 4096 * w2) (by first | (simp only [Nat.reduceAdd, Nat.reducePow]; omega) | (simp only [Nat.reduceAdd, Nat.reducePow]; done) | omega) (by first | (simp only [Nat.reduceAdd, Nat.reducePow]; omega) | (simp only [Nat.reduceAdd, Nat.reducePow]; done) | omega) (by first | (simp only [Nat.reduceAdd, Nat.reducePow]; omega) | (simp only [Nat.reduceAdd, Nat.reducePow]; done) | omega)
theorem r15_82 {w0 w1 w2 w3 w4 w5 : Nat} (h0 : w0 < 128) (h1 : w1 < 32) (h2 : w2 < 8) (h3 : w3 < 32) (h4 : w4 < 32) (h5 : w5 < 128) : putB (w0 + 4096 * w2 + 33554432 * w5 + 128 * w1) 15 5 w3 = w0 + 4096 * w2 + 33554432 * w5 + 128 * w1 + 32768 * w3 := (put_mid (hi := 32 * w5) (lo := w0 + 4096 * w2 + 128 * w1) (by first | (simp only [Nat.reduceAdd, Nat.reducePow]; omega) | (simp only [Nat.reduceAdd, Nat.reducePow]; done) | omega) (by first | (simp only [Nat.reduceAdd, Nat.reducePow]; omega) | (simp only [Nat.reduceAdd, Nat.reducePow]; done) | omega) (by first | (simp only [Nat.reduceAdd, Nat.reducePow]; omega) | (simp only [Nat.reduceAdd, Nat.reducePow]; done) | omega)).trans (by first | (simp only [Nat.reduceAdd, Nat.reducePow]; omega) | (simp only [Nat.reduceAdd, Nat.reducePow]; done) | omega)
theorem g20_82 {w0 w1 w2 w3 w4 w5 : Nat} (h0 : w0 < 128) (h1 : w1 < 32) (h2 : w2 < 8) (h3 : w3 < 32) (h4 : w4 < 32) (h5 : w5 < 128) : (w0 + 128 * w1 + 4096 * w2 + 32768 * w3 + 1048576 * w4 + 33554432 * w5) / 2 ^ 20 % 2 ^ 5 = w4 := fld_mid (hi := w5) (lo := w0 + 128 * w1 + 4096 * w2 + 32768 * w3) (by first | (simp only [Nat.reduceAdd, Nat.reducePow]; omega) | (simp only [Nat.reduceAdd, Nat.reducePow]; done) | omega) (by first | (simp only [Nat.reduceAdd, Nat.reducePow]; omega) | (simp only [Nat.reduceAdd, Nat.reducePow]; done) | omega) (by first | (simp only [Nat.reduceAdd, Nat.reducePow]; omega) | (simp only [Nat.reduceAdd, Nat.reducePow]; done) | omega)
theorem r20_82 {w0 w1 w2 w3 w4 w5 : Nat} (h0 : w0 < 128) (h1 : w1 < 32) (h2 : w2 < 8) (h3 : w3 < 32) (h4 : w4 < 32) (h5 : w5 < 128) : putB (w0 + 4096 * w2 + 33554432 * w5 + 128 * w1 + 32768 * w3) 20 5 w4 = w0 + 4096 * w2 + 33554432 * w5 + 128 * w1 + 32768 * w3 + 1048576 * w4 := (put_mid (hi := w5) (lo := w0 + 4096 * w2 + 128 * w1 + 32768 * w3) (by first | (simp only [Nat.reduceAdd, Nat.reducePow]; omega) | (simp only [Nat.reduceAdd, Nat.reducePow]; done) | omega) (by first | (simp only [Nat.reduceAdd, Nat.reducePow]; omega) | (simp only [Nat.reduceAdd, Nat.reducePow]; done) | omega) (by first | (simp only [Nat.reduceAdd, Nat.reducePow]; omega) | (simp only [Nat.reduceAdd, Nat.reducePow]; done) | omega)).trans (by first | (simp only [Nat.reduceAdd, Nat.reducePow]; omega) | (simp only [Nat.reduceAdd, Nat.reducePow]; done) | omega)
theorem w_82 {W w0 w1 w2 w3 w4 w5 : Nat} {im : Int} (hW : W = w0 + 128 * w1 + 4096 * w2 + 32768 * w3 + 1048576 * w4 + 33554432 * w5) (h0 : w0 < 128) (h1 : w1 < 32) (h2 : w2 < 8) (h3 : w3 < 32) (h4 : w4 < 32) (h5 : w5 < 128) : [((hasS 82).1, 7, if (hasS 82).1 = true then ((W / 2 ^ 7 % 2 ^ 5 : Nat) : Int) else 0), ((hasS 82).2.1, 15, if (hasS 82).2.1 = true then ((W / 2 ^ 15 % 2 ^ 5 : Nat) : Int) else 0), ((hasS 82).2.2, 20, if (hasS 82).2.2 = true then ((W / 2 ^ 20 % 2 ^ 5 : Nat) : Int) else 0)].foldl stepR ((laidS 82).1.foldl (layB im) (w0 + 4096 * w2 + 33554432 * w5)) = W := by
 have eh : hasS 82 = (true, true, true) := rfl
 rw [eh]
 have hl : (laidS 82).1.foldl (layB im) (w0 + 4096 * w2 + 33554432 * w5) = w0 + 4096 * w2 + 33554432 * w5 := by
  rw [lp_82, List.foldl_nil]
 rw [hl]
 have g7 : W / 2 ^ 7 % 2 ^ 5 = w1 := by rw [hW]; exact g7_82 h0 h1 h2 h3 h4 h5
 have r7 : putB (w0 + 4096 * w2 + 33554432 * w5) 7 5 w1 = w0 + 4096 * w2 + 33554432 * w5 + 128 * w1 := r7_82 h0 h1 h2 h3 h4 h5
 have q7 : un ((w1 : Nat) : Int) = w1 := un_small (by omega)
 have g15 : W / 2 ^ 15 % 2 ^ 5 = w3 := by rw [hW]; exact g15_82 h0 h1 h2 h3 h4 h5
 have r15 : putB (w0 + 4096 * w2 + 33554432 * w5 + 128 * w1) 15 5 w3 = w0 + 4096 * w2 + 33554432 * w5 + 128 * w1 + 32768 * w3 := r15_82 h0 h1 h2 h3 h4 h5
 have q15 : un ((w3 : Nat) : Int) = w3 := un_small (by omega)
 have g20 : W / 2 ^ 20 % 2 ^ 5 = w4 := by rw [hW]; exact g20_82 h0 h1 h2 h3 h4 h5
 have r20 : putB (w0 + 4096 * w2 + 33554432 * w5 + 128 * w1 + 32768 * w3) 20 5 w4 = w0 + 4096 * w2 + 33554432 * w5 + 128 * w1 + 32768 * w3 + 1048576 * w4 := r20_82 h0 h1 h2 h3 h4 h5
 have q20 : un ((w4 : Nat) : Int) = w4 := un_small (by omega)
 have ey : ∀ (x a : Nat) (r : Int), stepR x (true, a, r) = putB x a 5 (un r) := fun _ _ _ => rfl
 have en : ∀ (x a : Nat) (r : Int), stepR x (false, a, r) = x := fun _ _ _ => rfl
 dsimp only
 rw [List.foldl_cons, List.foldl_cons, List.foldl_cons, List.foldl_nil, ey, ey, ey, if_pos rfl, if_pos rfl, if_pos rfl, g7, g15, g20, q7, q15, q20, r7, r15, r20]
 rw [hW]
 clear hW
 omega
theorem lp_71 : (laidS 71).1 = [] := rfl
theorem g7_71 {w0 w1 w2 w3 w4 w5 : Nat} (h0 : w0 < 128) (h1 : w1 < 32) (h2 : w2 < 8) (h3 : w3 < 32) (h4 : w4 < 32) (h5 : w5 < 128) : (w0 + 128 * w1 + 4096 * w2 + 32768 * w3 + 1048576 * w4 + 33554432 * w5) / 2 ^ 7 % 2 ^ 5 = w1 := fld_mid (hi := w2 + 8 * w3 + 256 * w4 + 8192 * w5) (lo := w0) (by first | (simp only [Nat.reduceAdd, Nat.reducePow]; omega) | (simp only [Nat.reduceAdd, Nat.reducePow]; done) | omega) (by first | (simp only [Nat.reduceAdd, Nat.reducePow]; omega) | (simp only [Nat.reduceAdd, Nat.reducePow]; done) | omega) (by first | (simp only [Nat.reduceAdd, Nat.reducePow]; omega) | (simp only [Nat.reduceAdd, Nat.reducePow]; done) | omega)
theorem r7_71 {w0 w1 w2 w3 w4 w5 : Nat} (h0 : w0 < 128) (h1 : w1 < 32) (h2 : w2 < 8) (h3 : w3 < 32) (h4 : w4 < 32) (h5 : w5 < 128) : putB (w0 + 4096 * w2 + 1048576 * w4 + 33554432 * w5) 7 5 w1 = w0 + 4096 * w2 + 1048576 * w4 + 33554432 * w5 + 128 * w1 := (put_mid (hi := w2 + 256 * w4 + 8192 * w5) (lo := w0) (by first | (simp only [Nat.reduceAdd, Nat.reducePow]; omega) | (simp only [Nat.reduceAdd, Nat.reducePow]; done) | omega) (by first | (simp only [Nat.reduceAdd, Nat.reducePow]; omega) | (simp only [Nat.reduceAdd, Nat.reducePow]; done) | omega) (by first | (simp only [Nat.reduceAdd, Nat.reducePow]; omega) | (simp only [Nat.reduceAdd, Nat.reducePow]; done) | omega)).trans (by first | (simp only [Nat.reduceAdd, Nat.reducePow]; omega) | (simp only [Nat.reduceAdd, Nat.reducePow]; done) | omega)
theorem g15_71 {w0 w1 w2 w3 w4 w5 : Nat} (h0 : w0 < 128) (h1 : w1 < 32) (h2 : w2 < 8) (h3 : w3 < 32) (h4 : w4 < 32) (h5 : w5 < 128) : (w0 + 128 * w1 + 4096 * w2 + 32768 * w3 + 1048576 * w4 + 33554432 * w5) / 2 ^ 15 % 2 ^ 5 = w3 := fld_mid (hi := w4 + 32 * w5) (lo := w0 + 128 * w1 + 4096 * w2) (by first | (simp only [Nat.reduceAdd, Nat.reducePow]; omega) | (simp only [Nat.reduceAdd, Nat.reducePow]; done) | omega) (by first | (simp only [Nat.reduceAdd, Nat.reducePow]; omega) | (simp only [Nat.reduceAdd, Nat.reducePow]; done) | omega) (by first | (simp only [Nat.reduceAdd, Nat.reducePow]; omega) | (simp only [Nat.reduceAdd, Nat.reducePow]; done) | omega)
theorem r15_71 {w0 w1 w2 w3 w4 w5 : Nat} (h0 : w0 < 128) (h1 : w1 < 32) (h2 : w2 < 8) (h3 : w3 < 32) (h4 : w4 < 32) (h5 : w5 < 128) : putB (w0 + 4096 * w2 + 1048576 * w4 + 33554432 * w5 + 128 * w1) 15 5 w3 = w0 + 4096 * w2 + 1048576 * w4 + 33554432 * w5 + 128 * w1 + 32768 * w3 := (put_mid (hi := w4 + 32 * w5) (lo := w0 + 4096 * w2 + 128 * w1) (by first | (simp only [Nat.reduceAdd, Nat.reducePow]; omega) | (simp only [Nat.reduceAdd, Nat.reducePow]; done) | omega) (by first | (simp only [Nat.reduceAdd, Nat.reducePow]; omega) | (simp only [Nat.reduceAdd, Nat.reducePow]; done) | omega) (by first | (simp only [Nat.reduceAdd, Nat.reducePow]; omega) | (simp only [Nat.reduceAdd, Nat.reducePow]; done) | omega)).trans (by first | (simp only [Nat.reduceAdd, Nat.reducePow]; omega) | (simp only [Nat.reduceAdd, Nat.reducePow]; done) | omega)
theorem w_71 {W w0 w1 w2 w3 w4 w5 : Nat} {im : Int} (hW : W = w0 + 128 * w1 + 4096 * w2 + 32768 * w3 + 1048576 * w4 + 33554432 * w5) (h0 : w0 < 128) (h1 : w1 < 32) (h2 : w2 < 8) (h3 : w3 < 32) (h4 : w4 < 32) (h5 : w5 < 128) : [((hasS 71).1, 7, if (hasS 71).1 = true then ((W / 2 ^ 7 % 2 ^ 5 : Nat) : Int) else 0), ((hasS 71).2.1, 15, if (hasS 71).2.1 = true then ((W / 2 ^ 15 % 2 ^ 5 : Nat) : Int) else 0), ((hasS 71).2.2, 20, if (hasS 71).2.2 = true then ((W / 2 ^ 20 % 2 ^ 5 : Nat) : Int) else 0)].foldl stepR ((laidS 71).1.foldl (layB im) (w0 + 4096 * w2 + 1048576 * w4 + 33554432 * w5)) = W := by
 have eh : hasS 71 = (true, true, false) := rfl
 rw [eh]
 have hl : (laidS 71).1.foldl (layB im) (w0 + 4096 * w2 + 1048576 * w4 + 33554432 * w5) = w0 + 4096 * w2 + 1048576 * w4 + 33554432 * w5 := by
  rw [lp_71, List.foldl_nil]
 rw [hl]
 have g7 : W / 2 ^ 7 % 2 ^ 5 = w1 := by rw [hW]; exact g7_71 h0 h1 h2 h3 h4 h5
 have r7 : putB (w0 + 4096 * w2 + 1048576 * w4 + 33554432 * w5) 7 5 w1 = w0 + 4096 * w2 + 1048576 * w4 + 33554432 * w5 + 128 * w1 := r7_71 h0 h1 h2 h3 h4 h5
 have q7 : un ((w1 : Nat) : Int) = w1 := un_small (by omega)
 have g15 : W / 2 ^ 15 % 2 ^ 5 = w3 := by rw [hW]; exact g15_71 h0 h1 h2 h3 h4 h5
 have r15 : putB (w0 + 4096 * w2 + 1048576 * w4 + 33554432 * w5 + 128 * w1) 15 5 w3 = w0 + 4096 * w2 + 1048576 * w4 + 33554432 * w5 + 128 * w1 + 32768 * w3 := r15_71 h0 h1 h2 h3 h4 h5
 have q15 : un ((w3 : Nat) : Int) = w3 := un_small (by omega)
 have ey : ∀ (x a : Nat) (r : Int), stepR x (true, a, r) = putB x a 5 (un r) := fun _ _ _ => rfl
 have en : ∀ (x a : Nat) (r : Int), stepR x (false, a, r) = x := fun _ _ _ => rfl
 dsimp only
 rw [List.foldl_cons, List.foldl_cons, List.foldl_cons, List.foldl_nil, en, ey, ey, if_pos rfl, if_pos rfl, g7, g15, q7, q15, r7, r15]
 rw [hW]
 clear hW
 omega
theorem lp_78 : (laidS 78).1 = [] := rfl
theorem w_78 {W w0 w1 w2 : Nat} {im : Int} (hW : W = w0 + 128 * w1 + 1048576 * w2) (h0 : w0 < 128) (h1 : w1 < 8192) (h2 : w2 < 4096) (hn : w1 = 0) : [((hasS 78).1, 7, if (hasS 78).1 = true then ((W / 2 ^ 7 % 2 ^ 5 : Nat) : Int) else 0), ((hasS 78).2.1, 15, if (hasS 78).2.1 = true then ((W / 2 ^ 15 % 2 ^ 5 : Nat) : Int) else 0), ((hasS 78).2.2, 20, if (hasS 78).2.2 = true then ((W / 2 ^ 20 % 2 ^ 5 : Nat) : Int) else 0)].foldl stepR ((laidS 78).1.foldl (layB im) (w0 + 1048576 * w2)) = W := by
 have eh : hasS 78 = (false, false, false) := rfl
 rw [eh]
 have hl : (laidS 78).1.foldl (layB im) (w0 + 1048576 * w2) = w0 + 1048576 * w2 := by
  rw [lp_78, List.foldl_nil]
 rw [hl]
 have ey : ∀ (x a : Nat) (r : Int), stepR x (true, a, r) = putB x a 5 (un r) := fun _ _ _ => rfl
 have en : ∀ (x a : Nat) (r : Int), stepR x (false, a, r) = x := fun _ _ _ => rfl
 dsimp only
 rw [List.foldl_cons, List.foldl_cons, List.foldl_cons, List.foldl_nil, en, en, en]
 rw [hW]
 clear hW
 omega
open Go.Fx
set_option maxRecDepth 100000
theorem fits_readS {ps : List (Nat × Nat × Nat)} {W b : Nat} (hb : 1 <= b /\ b <= 63) : fitsS (readL ps b true W) b = true := by
 unfold fitsS readL
 dsimp only
 rw [if_pos rfl]
 generalize ps.foldl (readX W) 0 = X
 unfold signN
 have hy : X % 2 ^ b < 2 ^ b := Nat.mod_lt _ (Nat.two_pow_pos _)
 have eb : (2 : Nat) ^ b = 2 * 2 ^ (b - 1) := by
  rw [<- Nat.pow_succ']
  congr 1
  omega
 have h63 : (2 : Nat) ^ (b - 1) <= 2 ^ 62 := Nat.pow_le_pow_right (by decide) (by omega)
 have e62 : (2 : Nat) ^ 62 = 4611686018427387904 := by decide
 rw [e62] at h63
 generalize X % 2 ^ b = y at *
 generalize 2 ^ (b - 1) = h at *
 generalize 2 ^ b = B at *
 apply decide_eq_true
 split
 ·rw [if_pos (by omega)]
  omega
 ·rw [if_neg (by omega)]
  omega
theorem fits_readU {ps : List (Nat × Nat × Nat)} {W b X : Nat} (hx : ps.foldl (readX W) 0 = X) (hX : X < 2 ^ b) (hb : b <= 62) : fitsU (readL ps b false W) b = true := by
 unfold fitsU readL
 dsimp only
 simp only [Bool.false_eq_true, if_false]
 rw [hx]
 have h63 : (2 : Nat) ^ b <= 2 ^ 62 := Nat.pow_le_pow_right (by decide) hb
 have e62 : (2 : Nat) ^ 62 = 4611686018427387904 := by decide
 rw [e62] at h63
 generalize 2 ^ b = B at *
 apply decide_eq_true
 rw [if_pos (by omega)]
 omega
theorem even_read {ps : List (Nat × Nat × Nat)} {W b z X : Nat} (hx : ps.foldl (readX W) 0 = X) (hz : z <= b) (hb : 1 <= b /\ b <= 64) (h : X % 2 ^ z = 0) : readL ps b true W % 2 ^ z = 0 := by
 have hm : un (readL ps b true W) % 2 ^ z = 0 := by
  unfold readL
  dsimp only
  rw [if_pos rfl, hx]
  have hs := sign_low (x := X) hb
  have hl := signN_lt (x := X) hb
  have h2 : signN X b % 2 ^ z = 0 := by
   have := low_bits (f := 0) (n := z) (b := b) (by omega) hs
   rw [Nat.pow_zero, Nat.div_one, Nat.div_one] at this
   rw [this, h]
  have e : un (if signN X b < 9223372036854775808 then (signN X b : Int) else (signN X b : Int) - 18446744073709551616) = signN X b := by
   unfold un
   split <;> omega
  rw [e, h2]
 by_cases hz64 : z < 64
 ·have := un_mod hz64 (readL ps b true W)
  rw [hm] at this
  simpa using this
 ·have hz2 : z = 64 := by omega
  subst hz2
  have hb2 : b = 64 := by omega
  unfold un at hm
  have e64 : (2 : Nat) ^ 64 = 18446744073709551616 := by decide
  have e64i : (2 : Int) ^ 64 = 18446744073709551616 := by decide
  rw [e64] at hm
  rw [e64i]
  omega
theorem reg5 (x : Nat) (t : Bool) (a : Nat) : okTr (t, a, if t = true then ((x % 2 ^ 5 : Nat) : Int) else 0) = true := by
 cases t with
 | false => rfl
 | true =>
  have : x % 2 ^ 5 < 2 ^ 5 := Nat.mod_lt _ (by decide)
  have e : okTr (true, a, if true = true then ((x % 2 ^ 5 : Nat) : Int) else 0) = fitsU ((x % 2 ^ 5 : Nat) : Int) 5 := rfl
  rw [e]
  unfold fitsU
  exact decide_eq_true (by omega)
/-- what a row's word is, by its shape. -/
structure Back (W : Nat) (s : Nat) (W0 : Nat) : Prop where
 fit : fitsL (laidS s).1.length (laidS s).2.1 (laidS s).2.2.1 (laidS s).2.2.2 (readL (laidS s).1 (laidS s).2.1 (laidS s).2.2.1 W) = true
 lay : [((hasS s).1, 7, if (hasS s).1 = true then ((W / 2 ^ 7 % 2 ^ 5 : Nat) : Int) else 0), ((hasS s).2.1, 15, if (hasS s).2.1 = true then ((W / 2 ^ 15 % 2 ^ 5 : Nat) : Int) else 0), ((hasS s).2.2, 20, if (hasS s).2.2 = true then ((W / 2 ^ 20 % 2 ^ 5 : Nat) : Int) else 0)].foldl stepR ((laidS s).1.foldl (layB (readL (laidS s).1 (laidS s).2.1 (laidS s).2.2.1 W)) W0) = W
theorem back_73 {W c f o : Nat} (hW : W < 4294967296) (hc : c < 128) (hf : f < 8) (ho : True) (h : W &&& (127 + 7 * 4096) = c + f * 4096) : Back W 73 (c + f * 4096) := by
 rw [and_I] at h
 obtain ⟨w0, w1, w2, w3, w4, hw, h0, h1, h2, h3, h4, he⟩ : ∃ w0 w1 w2 w3 w4 : Nat, W = w0 + 128 * w1 + 4096 * w2 + 32768 * w3 + 1048576 * w4 /\ w0 < 128 /\ w1 < 32 /\ w2 < 8 /\ w3 < 32 /\ w4 < 4096 /\ c + f * 4096 = w0 + 4096 * w2 := ⟨W % 128, W / 128 % 32, W / 4096 % 8, W / 32768 % 32, W / 1048576, by omega, by omega, by omega, by omega, by omega, by omega, by omega⟩
 rw [he]
 have hx := x_73 hw h0 h1 h2 h3 h4
 have hlt : (laidS 73).1.foldl (readX W) 0 < 18446744073709551616 := by rw [hx]; omega
 have hu := un_read (ps := (laidS 73).1) (bits := 12) (W := W) (sg := true) hlt (by decide)
 rw [if_pos rfl] at hu
 refine ⟨?_, w_73 (im := readL (laidS 73).1 12 true W) hw h0 h1 h2 h3 h4 hu⟩
 show fitsL 1 12 true 0 (readL (laidS 73).1 12 true W) = true
 unfold fitsL
 rw [if_pos rfl, fits_readS (by decide)]
 have e := even_read (z := 0) hx (by decide) (by decide : 1 <= 12 /\ 12 <= 64) (by simp only [Nat.reducePow]; omega)
 rw [decide_eq_true e]
 rfl
theorem back_67 {W c f o : Nat} (hW : W < 4294967296) (hc : c < 128) (hf : f < 8) (ho : True) (h : W &&& (127 + 7 * 4096) = c + f * 4096) : Back W 67 (c + f * 4096) := by
 rw [and_I] at h
 obtain ⟨w0, w1, w2, w3, w4, hw, h0, h1, h2, h3, h4, he⟩ : ∃ w0 w1 w2 w3 w4 : Nat, W = w0 + 128 * w1 + 4096 * w2 + 32768 * w3 + 1048576 * w4 /\ w0 < 128 /\ w1 < 32 /\ w2 < 8 /\ w3 < 32 /\ w4 < 4096 /\ c + f * 4096 = w0 + 4096 * w2 := ⟨W % 128, W / 128 % 32, W / 4096 % 8, W / 32768 % 32, W / 1048576, by omega, by omega, by omega, by omega, by omega, by omega, by omega⟩
 rw [he]
 have hx := x_67 hw h0 h1 h2 h3 h4
 have hlt : (laidS 67).1.foldl (readX W) 0 < 18446744073709551616 := by rw [hx]; omega
 have hu := un_read (ps := (laidS 67).1) (bits := 12) (W := W) (sg := false) hlt (by decide)
 rw [if_neg (by decide)] at hu
 refine ⟨?_, w_67 (im := readL (laidS 67).1 12 false W) hw h0 h1 h2 h3 h4 hu⟩
 show fitsL 1 12 false 0 (readL (laidS 67).1 12 false W) = true
 unfold fitsL
 rw [if_neg (by decide), fits_readU hx (by simp only [Nat.reducePow]; omega) (by decide)]
 simp
theorem back_72 {W c f o : Nat} (hW : W < 4294967296) (hc : c < 128) (hf : f < 8) (ho : o < 64) (h : W &&& (127 + 7 * 4096 + 63 * 67108864) = c + f * 4096 + o * 67108864) : Back W 72 (c + f * 4096 + o * 67108864) := by
 rw [and_H] at h
 obtain ⟨w0, w1, w2, w3, w4, w5, hw, h0, h1, h2, h3, h4, h5, he⟩ : ∃ w0 w1 w2 w3 w4 w5 : Nat, W = w0 + 128 * w1 + 4096 * w2 + 32768 * w3 + 1048576 * w4 + 67108864 * w5 /\ w0 < 128 /\ w1 < 32 /\ w2 < 8 /\ w3 < 32 /\ w4 < 64 /\ w5 < 64 /\ c + f * 4096 + o * 67108864 = w0 + 4096 * w2 + 67108864 * w5 := ⟨W % 128, W / 128 % 32, W / 4096 % 8, W / 32768 % 32, W / 1048576 % 64, W / 67108864, by omega, by omega, by omega, by omega, by omega, by omega, by omega, by omega⟩
 rw [he]
 have hx := x_72 hw h0 h1 h2 h3 h4 h5
 have hlt : (laidS 72).1.foldl (readX W) 0 < 18446744073709551616 := by rw [hx]; omega
 have hu := un_read (ps := (laidS 72).1) (bits := 6) (W := W) (sg := false) hlt (by decide)
 rw [if_neg (by decide)] at hu
 refine ⟨?_, w_72 (im := readL (laidS 72).1 6 false W) hw h0 h1 h2 h3 h4 h5 hu⟩
 show fitsL 1 6 false 0 (readL (laidS 72).1 6 false W) = true
 unfold fitsL
 rw [if_neg (by decide), fits_readU hx (by simp only [Nat.reducePow]; omega) (by decide)]
 simp
theorem back_83 {W c f o : Nat} (hW : W < 4294967296) (hc : c < 128) (hf : f < 8) (ho : True) (h : W &&& (127 + 7 * 4096) = c + f * 4096) : Back W 83 (c + f * 4096) := by
 rw [and_I] at h
 obtain ⟨w0, w1, w2, w3, w4, w5, hw, h0, h1, h2, h3, h4, h5, he⟩ : ∃ w0 w1 w2 w3 w4 w5 : Nat, W = w0 + 128 * w1 + 4096 * w2 + 32768 * w3 + 1048576 * w4 + 33554432 * w5 /\ w0 < 128 /\ w1 < 32 /\ w2 < 8 /\ w3 < 32 /\ w4 < 32 /\ w5 < 128 /\ c + f * 4096 = w0 + 4096 * w2 := ⟨W % 128, W / 128 % 32, W / 4096 % 8, W / 32768 % 32, W / 1048576 % 32, W / 33554432, by omega, by omega, by omega, by omega, by omega, by omega, by omega, by omega⟩
 rw [he]
 have hx := x_83 hw h0 h1 h2 h3 h4 h5
 have hlt : (laidS 83).1.foldl (readX W) 0 < 18446744073709551616 := by rw [hx]; omega
 have hu := un_read (ps := (laidS 83).1) (bits := 12) (W := W) (sg := true) hlt (by decide)
 rw [if_pos rfl] at hu
 refine ⟨?_, w_83 (im := readL (laidS 83).1 12 true W) hw h0 h1 h2 h3 h4 h5 hu⟩
 show fitsL 2 12 true 0 (readL (laidS 83).1 12 true W) = true
 unfold fitsL
 rw [if_pos rfl, fits_readS (by decide)]
 have e := even_read (z := 0) hx (by decide) (by decide : 1 <= 12 /\ 12 <= 64) (by simp only [Nat.reducePow]; omega)
 rw [decide_eq_true e]
 rfl
theorem back_66 {W c f o : Nat} (hW : W < 4294967296) (hc : c < 128) (hf : f < 8) (ho : True) (h : W &&& (127 + 7 * 4096) = c + f * 4096) : Back W 66 (c + f * 4096) := by
 rw [and_I] at h
 obtain ⟨w0, w1, w2, w3, w4, w5, w6, w7, hw, h0, h1, h2, h3, h4, h5, h6, h7, he⟩ : ∃ w0 w1 w2 w3 w4 w5 w6 w7 : Nat, W = w0 + 128 * w1 + 256 * w2 + 4096 * w3 + 32768 * w4 + 1048576 * w5 + 33554432 * w6 + 2147483648 * w7 /\ w0 < 128 /\ w1 < 2 /\ w2 < 16 /\ w3 < 8 /\ w4 < 32 /\ w5 < 32 /\ w6 < 64 /\ w7 < 2 /\ c + f * 4096 = w0 + 4096 * w3 := ⟨W % 128, W / 128 % 2, W / 256 % 16, W / 4096 % 8, W / 32768 % 32, W / 1048576 % 32, W / 33554432 % 64, W / 2147483648, by omega, by omega, by omega, by omega, by omega, by omega, by omega, by omega, by omega, by omega⟩
 rw [he]
 have hx := x_66 hw h0 h1 h2 h3 h4 h5 h6 h7
 have hlt : (laidS 66).1.foldl (readX W) 0 < 18446744073709551616 := by rw [hx]; omega
 have hu := un_read (ps := (laidS 66).1) (bits := 13) (W := W) (sg := true) hlt (by decide)
 rw [if_pos rfl] at hu
 refine ⟨?_, w_66 (im := readL (laidS 66).1 13 true W) hw h0 h1 h2 h3 h4 h5 h6 h7 hu⟩
 show fitsL 4 13 true 1 (readL (laidS 66).1 13 true W) = true
 unfold fitsL
 rw [if_pos rfl, fits_readS (by decide)]
 have e := even_read (z := 1) hx (by decide) (by decide : 1 <= 13 /\ 13 <= 64) (by simp only [Nat.reducePow]; omega)
 rw [decide_eq_true e]
 rfl
theorem back_85 {W c f o : Nat} (hW : W < 4294967296) (hc : c < 128) (hf : f < 8) (ho : True) (h : W &&& 127 = c) : Back W 85 (c) := by
 rw [and_U] at h
 obtain ⟨w0, w1, w2, hw, h0, h1, h2, he⟩ : ∃ w0 w1 w2 : Nat, W = w0 + 128 * w1 + 4096 * w2 /\ w0 < 128 /\ w1 < 32 /\ w2 < 1048576 /\ c = w0 := ⟨W % 128, W / 128 % 32, W / 4096, by omega, by omega, by omega, by omega, by omega⟩
 rw [he]
 have hx := x_85 hw h0 h1 h2
 have hlt : (laidS 85).1.foldl (readX W) 0 < 18446744073709551616 := by rw [hx]; omega
 have hu := un_read (ps := (laidS 85).1) (bits := 32) (W := W) (sg := true) hlt (by decide)
 rw [if_pos rfl] at hu
 refine ⟨?_, w_85 (im := readL (laidS 85).1 32 true W) hw h0 h1 h2 hu⟩
 show fitsL 1 32 true 12 (readL (laidS 85).1 32 true W) = true
 unfold fitsL
 rw [if_pos rfl, fits_readS (by decide)]
 have e := even_read (z := 12) hx (by decide) (by decide : 1 <= 32 /\ 32 <= 64) (by simp only [Nat.reducePow]; omega)
 rw [decide_eq_true e]
 rfl
theorem back_74 {W c f o : Nat} (hW : W < 4294967296) (hc : c < 128) (hf : f < 8) (ho : True) (h : W &&& 127 = c) : Back W 74 (c) := by
 rw [and_U] at h
 obtain ⟨w0, w1, w2, w3, w4, w5, hw, h0, h1, h2, h3, h4, h5, he⟩ : ∃ w0 w1 w2 w3 w4 w5 : Nat, W = w0 + 128 * w1 + 4096 * w2 + 1048576 * w3 + 2097152 * w4 + 2147483648 * w5 /\ w0 < 128 /\ w1 < 32 /\ w2 < 256 /\ w3 < 2 /\ w4 < 1024 /\ w5 < 2 /\ c = w0 := ⟨W % 128, W / 128 % 32, W / 4096 % 256, W / 1048576 % 2, W / 2097152 % 1024, W / 2147483648, by omega, by omega, by omega, by omega, by omega, by omega, by omega, by omega⟩
 rw [he]
 have hx := x_74 hw h0 h1 h2 h3 h4 h5
 have hlt : (laidS 74).1.foldl (readX W) 0 < 18446744073709551616 := by rw [hx]; omega
 have hu := un_read (ps := (laidS 74).1) (bits := 21) (W := W) (sg := true) hlt (by decide)
 rw [if_pos rfl] at hu
 refine ⟨?_, w_74 (im := readL (laidS 74).1 21 true W) hw h0 h1 h2 h3 h4 h5 hu⟩
 show fitsL 4 21 true 1 (readL (laidS 74).1 21 true W) = true
 unfold fitsL
 rw [if_pos rfl, fits_readS (by decide)]
 have e := even_read (z := 1) hx (by decide) (by decide : 1 <= 21 /\ 21 <= 64) (by simp only [Nat.reducePow]; omega)
 rw [decide_eq_true e]
 rfl
theorem back_82 {W c f o : Nat} (hW : W < 4294967296) (hc : c < 128) (hf : f < 8) (ho : o < 128) (h : W &&& (127 + 7 * 4096 + 127 * 33554432) = c + f * 4096 + o * 33554432) : Back W 82 (c + f * 4096 + o * 33554432) := by
 rw [and_R] at h
 obtain ⟨w0, w1, w2, w3, w4, w5, hw, h0, h1, h2, h3, h4, h5, he⟩ : ∃ w0 w1 w2 w3 w4 w5 : Nat, W = w0 + 128 * w1 + 4096 * w2 + 32768 * w3 + 1048576 * w4 + 33554432 * w5 /\ w0 < 128 /\ w1 < 32 /\ w2 < 8 /\ w3 < 32 /\ w4 < 32 /\ w5 < 128 /\ c + f * 4096 + o * 33554432 = w0 + 4096 * w2 + 33554432 * w5 := ⟨W % 128, W / 128 % 32, W / 4096 % 8, W / 32768 % 32, W / 1048576 % 32, W / 33554432, by omega, by omega, by omega, by omega, by omega, by omega, by omega, by omega⟩
 rw [he]
 exact ⟨rfl, w_82 (im := 0) hw h0 h1 h2 h3 h4 h5⟩
theorem back_71 {W c f o : Nat} (hW : W < 4294967296) (hc : c < 128) (hf : f < 8) (ho : o < 32) (h : W &&& (127 + 7 * 4096 + 31 * 1048576 + 127 * 33554432) = c + f * 4096 + o * 1048576 + 127 * 33554432) : Back W 71 (c + f * 4096 + o * 1048576 + 127 * 33554432) := by
 rw [and_G] at h
 obtain ⟨w0, w1, w2, w3, w4, w5, hw, h0, h1, h2, h3, h4, h5, he⟩ : ∃ w0 w1 w2 w3 w4 w5 : Nat, W = w0 + 128 * w1 + 4096 * w2 + 32768 * w3 + 1048576 * w4 + 33554432 * w5 /\ w0 < 128 /\ w1 < 32 /\ w2 < 8 /\ w3 < 32 /\ w4 < 32 /\ w5 < 128 /\ c + f * 4096 + o * 1048576 + 127 * 33554432 = w0 + 4096 * w2 + 1048576 * w4 + 33554432 * w5 := ⟨W % 128, W / 128 % 32, W / 4096 % 8, W / 32768 % 32, W / 1048576 % 32, W / 33554432, by omega, by omega, by omega, by omega, by omega, by omega, by omega, by omega⟩
 rw [he]
 exact ⟨rfl, w_71 (im := 0) hw h0 h1 h2 h3 h4 h5⟩
theorem back_78 {W c f o : Nat} (hW : W < 4294967296) (hc : c < 128) (hf : f < 8) (ho : o < 4096) (h : W &&& (127 + 8191 * 128 + 4095 * 1048576) = c + o * 1048576) : Back W 78 (c + o * 1048576) := by
 rw [and_N] at h
 obtain ⟨w0, w1, w2, hw, h0, h1, h2, he, hn⟩ : ∃ w0 w1 w2 : Nat, W = w0 + 128 * w1 + 1048576 * w2 /\ w0 < 128 /\ w1 < 8192 /\ w2 < 4096 /\ c + o * 1048576 = w0 + 1048576 * w2 /\ w1 = 0 := ⟨W % 128, W / 128 % 8192, W / 1048576, by omega, by omega, by omega, by omega, by omega, by omega⟩
 rw [he]
 exact ⟨rfl, w_78 (im := 0) hw h0 h1 h2 hn⟩
theorem shapes_back {W : Nat} {r : Rw} (hW : W < 4294967296) (hs : r.s = 73 ∨ r.s = 67 ∨ r.s = 72 ∨ r.s = 83 ∨ r.s = 66 ∨ r.s = 85 ∨ r.s = 74 ∨ r.s = 82 ∨ r.s = 71 ∨ r.s = 78) (hc : r.c < 128) (hf : r.f < 8) (o1 : r.s = 82 -> r.o < 128) (o2 : r.s = 71 -> r.o < 32) (o3 : r.s = 72 -> r.o < 64) (o4 : r.s = 78 -> r.o < 4096) (h : W &&& Msh r.s = Wsh r) : Back W r.s (Wsh r) := by
 obtain ⟨n, s, c, f, o⟩ := r
 dsimp only at *
 rcases hs with rfl | rfl | rfl | rfl | rfl | rfl | rfl | rfl | rfl | rfl
 ·exact back_73 (o := o) hW hc hf trivial h
 ·exact back_67 (o := o) hW hc hf trivial h
 ·exact back_72 (o := o) hW hc hf (o3 rfl) h
 ·exact back_83 (o := o) hW hc hf trivial h
 ·exact back_66 (o := o) hW hc hf trivial h
 ·exact back_85 (o := o) hW hc hf trivial h
 ·exact back_74 (o := o) hW hc hf trivial h
 ·exact back_82 (o := o) hW hc hf (o1 rfl) h
 ·exact back_71 (o := o) hW hc hf (o2 rfl) h
 ·exact back_78 (o := o) hW hc hf (o4 rfl) h
theorem word_back {W k : Nat} (hW : W < 4294967296) (hk : k < 69) (h : W &&& fixM (row k) = fixW (row k)) : encOk (ofK W k) = true /\ encR (ofK W k) = W := by
 obtain ⟨f1, f2, f3, f4, f5, f6, f7, f8⟩ := row_fact hk
 obtain ⟨-, -, -, -, -, hs⟩ := row_goodA hk
 rw [f1, f2] at h
 obtain ⟨b1, b2⟩ := shapes_back hW hs f3 f4 f5 f6 f7 f8 h
 have hop : okOp (ofK W k).op = true := decide_eq_true (show 1 <= (k : Int) + 1 /\ (k : Int) + 1 <= 69 by omega)
 have hz : rowZ (ofK W k).op = row k := by
  unfold rowZ
  rw [hop, if_pos rfl]
  have e : ((ofK W k).op - 1).toNat = k := by show (((k : Int) + 1) - 1).toNat = k; omega
  rw [e]
 have hok : encOk (ofK W k) = true := by
  unfold encOk
  dsimp only
  rw [hop, hz]
  have e1 : (ofK W k).im = readL (laidS (row k).s).1 (laidS (row k).s).2.1 (laidS (row k).s).2.2.1 W := rfl
  rw [e1, b1]
  unfold regsI
  dsimp only
  rw [hz]
  simp only [List.all_cons, List.all_nil, Bool.and_true, Bool.true_and]
  have r1 : okTr ((hasS (row k).s).1, 7, (ofK W k).rd) = true := reg5 (W / 2 ^ 7) _ 7
  have r2 : okTr ((hasS (row k).s).2.1, 15, (ofK W k).r1) = true := reg5 (W / 2 ^ 15) _ 15
  have r3 : okTr ((hasS (row k).s).2.2, 20, (ofK W k).r2) = true := reg5 (W / 2 ^ 20) _ 20
  rw [r1, r2, r3]
  rfl
 refine ⟨hok, ?_⟩
 unfold encR encW regsI
 rw [hok, if_pos rfl, hz]
 dsimp only
 have e2 := b2
 rw [f2]
 exact (congrArg (·% 4294967296) e2).trans (Nat.mod_eq_of_lt hW)
open Go.Fx
set_option maxRecDepth 100000
def luiW (r u : Nat) : Nat := 55 + 128 * r + 4096 * u
def addW (r s v : Nat) : Nat := 19 + 128 * r + 32768 * s + 1048576 * v
def luiI (r : Nat) (m : Int) : IZ := ⟨1, r, 0, 0, m⟩
def addZ (r s : Nat) (m : Int) : IZ := ⟨22, r, s, 0, m⟩
theorem ofK_is (W k : Nat) : ofK W k = ⟨(k : Int) + 1, if (hasS (row k).s).1 = true then ((W / 2 ^ 7 % 2 ^ 5 : Nat) : Int) else 0, if (hasS (row k).s).2.1 = true then ((W / 2 ^ 15 % 2 ^ 5 : Nat) : Int) else 0, if (hasS (row k).s).2.2 = true then ((W / 2 ^ 20 % 2 ^ 5 : Nat) : Int) else 0, readL (laidS (row k).s).1 (laidS (row k).s).2.1 (laidS (row k).s).2.2.1 W⟩ := rfl
theorem foldI (W : Nat) : [(0, 12, 20)].foldl (readX W) 0 = W / 2 ^ 20 % 2 ^ 12 := by
 show putB 0 0 12 (W / 2 ^ 20 % 2 ^ 12) = _
 unfold putB
 simp only [Nat.reducePow]
 omega
theorem foldU (W : Nat) : [(12, 20, 12)].foldl (readX W) 0 = W / 2 ^ 12 % 2 ^ 20 * 2 ^ 12 := by
 show putB 0 12 20 (W / 2 ^ 12 % 2 ^ 20) = _
 unfold putB
 simp only [Nat.reducePow]
 omega
theorem readI (W : Nat) : readL [(0, 12, 20)] 12 true W = if W / 2 ^ 20 % 2 ^ 12 < 2048 then ((W / 2 ^ 20 % 2 ^ 12 : Nat) : Int) else ((W / 2 ^ 20 % 2 ^ 12 : Nat) : Int) - 4096 := by
 unfold readL
 rw [foldI]
 generalize W / 2 ^ 20 = q
 unfold signN
 simp only [if_true, Nat.reducePow, Nat.reduceSub]
 split <;> split <;> split <;> omega
theorem readU (W : Nat) : readL [(12, 20, 12)] 32 true W = if W / 2 ^ 12 % 2 ^ 20 < 524288 then ((W / 2 ^ 12 % 2 ^ 20 * 4096 : Nat) : Int) else ((W / 2 ^ 12 % 2 ^ 20 * 4096 : Nat) : Int) - 4294967296 := by
 unfold readL
 rw [foldU]
 generalize W / 2 ^ 12 = q
 unfold signN
 simp only [if_true, Nat.reducePow, Nat.reduceSub]
 split <;> split <;> split <;> omega
theorem goHit {W k : Nat} (h : W &&& fixM (row k) = fixW (row k)) (f : Nat) : decGo W (f + 1) k = (ofK W k, true) := by rw [decGo, if_pos h]
theorem goMiss {W k : Nat} (h : ¬ W &&& fixM (row k) = fixW (row k)) (f : Nat) : decGo W (f + 1) k = decGo W f (k + 1) := by rw [decGo, if_neg h]
theorem goSkip {W : Nat} : ∀ (k f : Nat), (∀ j, j < k -> ¬ W &&& fixM (row j) = fixW (row j)) -> decGo W (f + k) 0 = decGo W f k
 | 0, _, _ => rfl
 | k + 1, f, h => by
  rw [show f + (k + 1) = (f + 1) + k by omega, goSkip k (f + 1) fun j hj => h j (by omega), goMiss (h k (by omega))]
theorem lui_word {r u : Nat} (hr : r < 32) (hu : u < 1048576) : luiW r u < 4294967296 /\ dcdF (luiW r u) = (luiI r (if u < 524288 then ((u * 4096 : Nat) : Int) else ((u * 4096 : Nat) : Int) - 4294967296), true) /\ encOk (luiI r (if u < 524288 then ((u * 4096 : Nat) : Int) else ((u * 4096 : Nat) : Int) - 4294967296)) = true /\ encR (luiI r (if u < 524288 then ((u * 4096 : Nat) : Int) else ((u * 4096 : Nat) : Int) - 4294967296)) = luiW r u := by
 have hW : luiW r u < 4294967296 := by unfold luiW; omega
 have e1 : fixM (row 0) = 127 := by kernel_rfl
 have e2 : fixW (row 0) = 55 := by kernel_rfl
 have hm : luiW r u &&& fixM (row 0) = fixW (row 0) := by
  rw [e1, e2, and_U]
  unfold luiW
  omega
 have e3 : (row 0).s = 85 := by kernel_rfl
 have h85 : hasS 85 = (true, false, false) := by decide
 have l85 : laidS 85 = ([(12, 20, 12)], 32, true, 12) := by decide
 have q1 : luiW r u / 2 ^ 7 % 2 ^ 5 = r := by unfold luiW; simp only [Nat.reducePow]; omega
 have q2 : luiW r u / 2 ^ 12 % 2 ^ 20 = u := by unfold luiW; simp only [Nat.reducePow]; omega
 have hI : ofK (luiW r u) 0 = luiI r (if u < 524288 then ((u * 4096 : Nat) : Int) else ((u * 4096 : Nat) : Int) - 4294967296) := by
  rw [ofK_is, e3, h85, l85]
  dsimp only
  rw [readU, q1, q2]
  rfl
 have hd : dcdF (luiW r u) = (ofK (luiW r u) 0, true) := goHit hm 68
 obtain ⟨h1, h2⟩ := word_back hW (by omega : 0 < 69) hm
 rw [hI] at hd h1 h2
 exact ⟨hW, hd, h1, h2⟩
theorem add_miss : (List.range 21).all (fun j => decide (fixM (row j) % 128 = 127) && decide (fixW (row j) % 128 ≠ 19)) = true := by kernel_rfl
theorem add_word {r s v : Nat} (hr : r < 32) (hs : s < 32) (hv : v < 4096) : addW r s v < 4294967296 /\ dcdF (addW r s v) = (addZ r s (if v < 2048 then (v : Int) else (v : Int) - 4096), true) /\ encOk (addZ r s (if v < 2048 then (v : Int) else (v : Int) - 4096)) = true /\ encR (addZ r s (if v < 2048 then (v : Int) else (v : Int) - 4096)) = addW r s v := by
 have hW : addW r s v < 4294967296 := by unfold addW; omega
 have e1 : fixM (row 21) = 127 + 7 * 4096 := by kernel_rfl
 have e2 : fixW (row 21) = 19 := by kernel_rfl
 have hm : addW r s v &&& fixM (row 21) = fixW (row 21) := by
  rw [e1, e2, and_I]
  unfold addW
  omega
 have e3 : (row 21).s = 73 := by kernel_rfl
 have h85 : hasS 73 = (true, true, false) := by decide
 have l85 : laidS 73 = ([(0, 12, 20)], 12, true, 0) := by decide
 have q1 : addW r s v / 2 ^ 7 % 2 ^ 5 = r := by unfold addW; simp only [Nat.reducePow]; omega
 have q2 : addW r s v / 2 ^ 15 % 2 ^ 5 = s := by unfold addW; simp only [Nat.reducePow]; omega
 have q3 : addW r s v / 2 ^ 20 % 2 ^ 12 = v := by unfold addW; simp only [Nat.reducePow]; omega
 have q0 : addW r s v % 2 ^ 7 = 19 := by unfold addW; simp only [Nat.reducePow]; omega
 have hI : ofK (addW r s v) 21 = addZ r s (if v < 2048 then (v : Int) else (v : Int) - 4096) := by
  rw [ofK_is, e3, h85, l85]
  dsimp only
  rw [readI, q1, q2, q3]
  rfl
 have hmiss : ∀ j, j < 21 -> ¬ addW r s v &&& fixM (row j) = fixW (row j) := by
  intro j hj h
  have h1 := List.all_eq_true.1 add_miss j (List.mem_range.2 hj)
  simp only [Bool.and_eq_true, decide_eq_true_eq] at h1
  have h2 : (addW r s v &&& fixM (row j)) % 2 ^ 7 = addW r s v % 2 ^ 7 &&& fixM (row j) % 2 ^ 7 := Nat.and_mod_two_pow
  rw [h, q0, show (2 : Nat) ^ 7 = 128 by decide, h1.1] at h2
  exact h1.2 (h2.trans (by decide))
 have hd : dcdF (addW r s v) = (ofK (addW r s v) 21, true) := by
  show decGo (addW r s v) (48 + 21) 0 = _
  rw [goSkip 21 48 hmiss]
  exact goHit hm 47
 obtain ⟨h1, h2⟩ := word_back hW (by omega : 21 < 69) hm
 rw [hI] at hd h1 h2
 exact ⟨hW, hd, h1, h2⟩
/-- the lowest 12 bits, with their sign. -/
def lowZ (n : Int) : Int := if n % 4096 < 2048 then n % 4096 else n % 4096 - 4096
theorem low_range (n : Int) : -2048 <= lowZ n /\ lowZ n < 2048 /\ (n - lowZ n) % 4096 = 0 /\ (lowZ n) % 4096 = n % 4096 := by
 unfold lowZ
 split <;> omega
theorem high_range {n : Int} (h : -2147483648 <= n /\ n <= 2147483647) : -2147483648 <= n - lowZ n /\ n - lowZ n <= 2147483648 /\ (n - lowZ n = 2147483648 ↔ 2147481599 < n) := by
 unfold lowZ
 split <;> omega
theorem sign_low12 (n : Int) : (if signN (un n) 12 < 9223372036854775808 then (signN (un n) 12 : Int) else (signN (un n) 12 : Int) - 18446744073709551616) = lowZ n := by
 have h : ((un n : Nat) : Int) % 4096 = n % 4096 := by unfold un; omega
 unfold signN lowZ
 simp only [Nat.reducePow, Nat.reduceSub]
 generalize un n = u at *
 split <;> split <;> split <;> omega
def liT (r : Nat) (n : Int) : List UInt8 := [108, 105, 32, 99] ++ dec (r : Nat) ++ [44, 32] ++ dec n
def luiT (r : Nat) (m : Int) : List UInt8 := [108, 117, 105, 32] ++ (99 :: dec (r : Nat)) ++ [44, 32] ++ dec m
def addT' (r s : Nat) (m : Int) : List UInt8 := [97, 100, 100, 105, 32] ++ Lib.join [99 :: dec (r : Nat), 99 :: dec (s : Nat), dec m] [44, 32]
theorem lui_text {r : Nat} {m : Int} (h : encOk (luiI r m) = true) : textF (luiI r m) = luiT r m := by
 have ho : orderS (rowZ (luiI r m).op).s = [100, 109] := by show orderS (rowZ 1).s = _; decide
 have hn : nameR (luiI r m) = [108, 117, 105] := by show (rowZ 1).n = _; decide
 have p1 : partF (luiI r m) 100 = 99 :: dec (r : Nat) := rfl
 have p3 : partF (luiI r m) 109 = dec m := rfl
 unfold textF luiT
 rw [h, if_pos rfl, ho, hn, if_neg (by simp)]
 simp only [List.map_cons, List.map_nil, p1, p3]
 simp [Lib.join_cons, Lib.joinTail]
theorem add_text' {r s : Nat} {m : Int} (h : encOk (addZ r s m) = true) : textF (addZ r s m) = addT' r s m := by
 have ho : orderS (rowZ (addZ r s m).op).s = [100, 97, 109] := by show orderS (rowZ 22).s = _; decide
 have hn : nameR (addZ r s m) = [97, 100, 100, 105] := by show (rowZ 22).n = _; decide
 have p1 : partF (addZ r s m) 100 = 99 :: dec (r : Nat) := rfl
 have p2 : partF (addZ r s m) 97 = 99 :: dec (s : Nat) := rfl
 have p3 : partF (addZ r s m) 109 = dec m := rfl
 unfold textF addT'
 rw [h, if_pos rfl, ho, hn, if_neg (by simp)]
 simp only [List.map_cons, List.map_nil, p1, p2, p3]
 rfl
/-- the texts that a number is laid by. -/
def wideF (r : Nat) (n : Int) : List (List UInt8) := if fitsS n 12 = true then [addT' r 0 n] else [luiT r (n - lowZ n), addT' r r (lowZ n)]
/-- and the words. -/
def wordsF (r : Nat) (n : Int) : List Nat := if fitsS n 12 = true then [addW r 0 (n % 4096).toNat] else [luiW r ((n - lowZ n) / 4096 % 1048576).toNat, addW r r (n % 4096).toNat]
theorem fits12 (n : Int) : fitsS n 12 = true ↔ -2048 <= n /\ n < 2048 := by
 unfold fitsS
 rw [decide_eq_true_eq]
 have e : ((2 ^ (12 - 1) : Nat) : Int) = 2048 := by decide
 omega
theorem inner_one {A T : List UInt8 -> Option Int} {i : IZ} {l : List (List UInt8)} {out : List Nat} (hT : toldF A T (textF i) out.length = textF i) (h : encOk i = true) : innerF A T (textF i :: l) out = innerF A T l (out ++ [encR i]) := by
 obtain ⟨x, hx, ha⟩ := parse_back h
 obtain ⟨e1, e2⟩ := agree_enc ha
 rw [innerF, hT, hx]
 dsimp only
 rw [e1, h, e2]
 rfl
theorem add_at {r s : Nat} {n : Int} (hr : r < 32) (hs : s < 32) (h : -2048 <= n /\ n < 2048) : encOk (addZ r s n) = true /\ encR (addZ r s n) = addW r s (n % 4096).toNat /\ dcdF (addW r s (n % 4096).toNat) = (addZ r s n, true) := by
 obtain ⟨-, h2, h3, h4⟩ := add_word hr hs (v := (n % 4096).toNat) (by omega)
 have e : (if (n % 4096).toNat < 2048 then (((n % 4096).toNat : Nat) : Int) else (((n % 4096).toNat : Nat) : Int) - 4096) = n := by split <;> omega
 rw [e] at h2 h3 h4
 exact ⟨h3, h4, h2⟩
theorem lui_at {r : Nat} {m : Int} (hr : r < 32) (h : -2147483648 <= m /\ m < 2147483648) (h0 : m % 4096 = 0) : encOk (luiI r m) = true /\ encR (luiI r m) = luiW r (m / 4096 % 1048576).toNat /\ dcdF (luiW r (m / 4096 % 1048576).toNat) = (luiI r m, true) := by
 obtain ⟨-, h2, h3, h4⟩ := lui_word hr (u := (m / 4096 % 1048576).toNat) (by omega)
 have e : (if (m / 4096 % 1048576).toNat < 524288 then (((m / 4096 % 1048576).toNat * 4096 : Nat) : Int) else (((m / 4096 % 1048576).toNat * 4096 : Nat) : Int) - 4294967296) = m := by split <;> omega
 rw [e] at h2 h3 h4
 exact ⟨h3, h4, h2⟩
/-- they are parsed to those words. -/
theorem wide_words {A T : List UInt8 -> Option Int} (hT : ∀ b, T b = none) {r : Nat} {n : Int} (hr : r < 32) (hn : -2147483648 <= n /\ n <= 2147481599) : innerF A T (wideF r n) [] = some (wordsF r n) := by
 unfold wideF wordsF
 by_cases h : fitsS n 12 = true
 ·rw [if_pos h, if_pos h]
  obtain ⟨h1, h2, -⟩ := add_at hr (by omega : 0 < 32) ((fits12 n).1 h)
  rw [<- add_text' h1, inner_one (told_none hT) h1, h2]
  rfl
 ·rw [if_neg h, if_neg h]
  obtain ⟨l1, l2, l3, l4⟩ := low_range n
  obtain ⟨g1, g2, g3⟩ := high_range (n := n) (by omega)
  obtain ⟨h1, h2, -⟩ := add_at hr hr (n := lowZ n) ⟨l1, l2⟩
  obtain ⟨k1, k2, -⟩ := lui_at hr (m := n - lowZ n) (by omega) l3
  rw [<- add_text' h1, <- lui_text k1, inner_one (told_none hT) k1, inner_one (told_none hT) h1, h2, k2, l4]
  rfl
/-- a number that does not fit. -/
theorem wide_wrong {A T : List UInt8 -> Option Int} (hT : ∀ b, T b = none) {r : Nat} {n : Int} (hr : r < 32) (hn : 2147481599 < n /\ n <= 2147483647) : innerF A T (wideF r n) [] = none := by
 have hf : ¬ fitsS n 12 = true := fun h => by have := (fits12 n).1 h; omega
 obtain ⟨g1, g2, g3⟩ := high_range (n := n) (by omega)
 unfold wideF
 rw [if_neg hf, g3.2 hn.1]
 have hno : encOk (luiI r 2147483648) = false := by
  unfold encOk fitsL fitsS
  have hs : (rowZ (luiI r 2147483648).op).s = 85 := by show (rowZ 1).s = _; decide
  have l85 : laidS 85 = ([(12, 20, 12)], 32, true, 12) := by decide
  rw [hs, l85]
  simp
  intro _ _ h
  exact absurd h (by show ¬ ((2147483648 : Int) < 2147483648); omega)
 have hparts : luiT r 2147483648 = [108, 117, 105] ++ (32 :: [] ++ Lib.join [99 :: dec (r : Nat), dec 2147483648] [44, 32]) := by simp [luiT, Lib.join_cons, Lib.joinTail]
 have hc : Lib.cut (luiT r 2147483648) [32] = ([108, 117, 105], Lib.join [99 :: dec (r : Nat), dec 2147483648] [44, 32], true) := by rw [hparts, cut_at (by decide)]
 have hop : parseOp (luiT r 2147483648) = 1 := by
  unfold parseOp
  rw [hc]
  kernel_rfl
 have h44 : ∀ n : Int, (44 : UInt8) ∉ dec n := fun n hm => by
  rcases dec_sign _ hm with e | e
  ·exact absurd e (by decide)
  ·exact absurd e.1 (by decide)
 have hpl : parseL (luiT r 2147483648) = [99 :: dec (r : Nat), dec 2147483648] := by
  unfold parseL
  rw [hc, if_pos rfl]
  refine split_join (by simp) fun x hx => ?_
  simp only [List.mem_cons, List.mem_nil_iff, or_false] at hx
  rcases hx with rfl | rfl
  ·rw [List.mem_cons, not_or]
   exact ⟨by decide, h44 _⟩
  ·exact h44 _
 have ho : orderS (rowZ ((1 : Nat) : Int)).s = [100, 109] := by decide
 obtain ⟨x, hx, hxop, r1, -, -, r4, -⟩ := fold_back (i := luiI r 2147483648) [100, 109] ⟨1, 0, 0, 0, 0⟩ (by decide) (by simp) (fun _ => ⟨by show (0 : Int) <= (r : Nat); omega, by show ((r : Nat) : Int) < 32; omega⟩) (by simp) (by simp) (fun _ => by show (-10000000000 : Int) < 2147483648 /\ (2147483648 : Int) < 10000000000; omega)
 have hs : (rowZ (luiI r 2147483648).op).s = 85 := by show (rowZ 1).s = _; decide
 have ha : agreeI (luiI r 2147483648) x := by
  refine ⟨hxop, fun _ => r1 (by simp), fun h => ?_, fun h => ?_, fun _ => r4 (by simp)⟩
  ·rw [hs] at h; exact absurd h (by decide)
  ·rw [hs] at h; exact absurd h (by decide)
 have hpp : parseP (luiT r 2147483648) = (x, true) := by
  unfold parseP
  rw [hop, hpl, ho]
  exact hx
 have hpf : (parseF (luiT r 2147483648)).2 = false := by
  unfold parseF
  rw [hpp, hop, hpl, ho, if_neg (by simp)]
  dsimp only
  rw [(agree_enc ha).1, hno]
  rfl
 rw [innerF, told_none hT, hpf]
 rfl
open Go.Fx
set_option maxRecDepth 100000
def txV (t : List UInt8) : Value := .string ⟨t.toArray⟩
theorem texts_rows {w : World} {b : Nat} {l : List (List UInt8)} {E : TypeId} {f : Nat × Nat} (hb : w.heap[b]? = some (.cells (l.map txV).toArray E f)) (hn : l.length <= 1000) : RowsAt w (.slice (some ⟨b, 0, none⟩) l.length l.length) 1 (l.map sC) := by
 refine ⟨some ⟨b, 0, none⟩, l.length, by rw [List.length_map], ⟨by rw [List.length_map]; exact Nat.le_refl _, by simp only [maxLen]; omega⟩, .inr ⟨b, 0, l.map txV, E, f, rfl, hb, by simp, fun k r hk => ?_⟩⟩
 rw [List.getElem?_map] at hk
 obtain ⟨t, ht, rfl⟩ := Option.map_eq_some_iff.1 hk
 obtain ⟨hk1, hk2⟩ := List.getElem?_eq_some_iff.1 ht
 have h2 : (l.map txV)[k]? = some (txV t) := by rw [List.getElem?_map, ht]; rfl
 obtain ⟨h3, h4⟩ := List.getElem?_eq_some_iff.1 h2
 unfold Go.Fx.sub sC
 rw [Nat.zero_add, Nat.mul_one, List.drop_eq_getElem_cons h3, h4]
 rfl
theorem dec_in {n : Int} (h : -2147483648 <= n /\ n <= 2147483648) : in64 n := by unfold in64; omega
set_option maxHeartbeats 1000000 in
theorem wide_spec {w : World} {r : Nat} {n : Int} (hn : -2147483648 <= n /\ n <= 2147483647) {K : Value -> World -> Prop} (hK : ∀ v w', RowsAt w' v 1 ((wideF r n).map sC) -> Ext [] w w' -> (∀ b, blockOf v = some b -> w.heap.size <= b) -> K v w') : callsK Tryz.prog 93 #[.string ⟨(99 :: dec (r : Nat)).toArray⟩, .int .i64 n] w K := by
 apply F93_ok
 unfold F93
 have hlr := dec_len (n := (r : Int))
 have hln := dec_len (n := n)
 have hl0 := dec_len (n := 0)
 have hd0 : dec 0 = [48] := by decide
 have hw : wideF r n = if fitsS n 12 = true then [addT' r 0 n] else [luiT r (n - lowZ n), addT' r r (lowZ n)] := rfl
 simp (disch := first | exact qD5 | fail) only [qG2, Nat.reduceAdd, Nat.reduceLeDiff, Int.reduceToNat, Int.reduceAdd, Int.reduceSub, Int.reduceLT, Int.reduceLE, Nat.reduceSub, Nat.reduceMul, Nat.reduceEqDiff]
 refine FitsS_spec (x := n) (b := 12) (by omega) (by omega) ?_
 cases hf : fitsS n 12 with
 | true =>
  rw [if_pos hf] at hw
  simp (disch := first | exact qD5 | fail) only [qG2, Nat.reduceAdd, Nat.reduceLeDiff, Int.reduceToNat, Int.reduceAdd, Int.reduceSub, Int.reduceLT, Int.reduceLE, Nat.reduceSub, Nat.reduceMul, Nat.reduceEqDiff]
  refine digits_spec (dec_in (by omega)) fun w1 hx1 => ?_
  simp (disch := first | exact qD5 | fail) only [qG2, Nat.reduceAdd, Nat.reduceLeDiff, Int.reduceToNat, Int.reduceAdd, Int.reduceSub, Int.reduceLT, Int.reduceLE, Nat.reduceSub, Nat.reduceMul, Nat.reduceEqDiff]
  have hr := texts_rows (w := w1.alloc (.cells [.string ⟨(99 :: dec (r : Nat)).toArray⟩, .string ⟨#[99, 48]⟩, .string ⟨(dec n).toArray⟩].toArray 9)) (b := w1.heap.size) (l := [99 :: dec (r : Nat), [99, 48], dec n]) (alloc_at rfl) (by simp)
  have hxa : Ext [] w (w1.alloc (.cells [.string ⟨(99 :: dec (r : Nat)).toArray⟩, .string ⟨#[99, 48]⟩, .string ⟨(dec n).toArray⟩].toArray 9)) := Ext.alloc hx1 _ _
  have hjl : (Lib.join [99 :: dec (r : Nat), [99, 48], dec n] [44, 32]).length <= 100 := by
   simp [Lib.join_cons, Lib.joinTail]
   omega
  refine Join_spec hr (by simp) (by simp) (by omega) fun w2 hx2 => ?_
  have hadd := addS (a := [97, 100, 100, 105, 32]) (b := Lib.join [99 :: dec (r : Nat), [99, 48], dec n] [44, 32]) (by simp; omega)
  simp (disch := first | exact qD5 | fail) only [qG2, Nat.reduceAdd, Nat.reduceLeDiff, Int.reduceToNat, Int.reduceAdd, Int.reduceSub, Int.reduceLT, Int.reduceLE, Nat.reduceSub, Nat.reduceMul, Nat.reduceEqDiff, hadd]
  have e : [97, 100, 100, 105, 32] ++ Lib.join [99 :: dec (r : Nat), [99, 48], dec n] [44, 32] = addT' r 0 n := by
   unfold addT'
   rw [show dec ((0 : Nat) : Int) = [48] from hd0]
  rw [e]
  rw [hw] at hK
  have hxb := hxa.trans hx2 (by simp)
  have hsz := hxb.size
  exact one_text fun v w' hv hx hb => hK v w' hv (hxb.trans hx (by simp)) fun b hb2 => Nat.le_trans hsz (hb b hb2)
 | false =>
  rw [hf, if_neg (by decide)] at hw
  obtain ⟨l1, l2, -, -⟩ := low_range n
  obtain ⟨g1, g2, -⟩ := high_range (n := n) hn
  have hu := wrap_un n
  have hs := sign_low12 n
  have hws := wrap_i64N (signN_lt (x := un n) (b := 12) (by omega))
  rw [hs] at hws
  generalize hlow : lowZ n = low at *
  have hll := dec_len (n := low)
  have hlh := dec_len (n := n - low)
  simp (disch := first | exact qD5 | fail) only [qG2, Nat.reduceAdd, Nat.reduceLeDiff, Int.reduceToNat, Int.reduceAdd, Int.reduceSub, Int.reduceLT, Int.reduceLE, Nat.reduceSub, Nat.reduceMul, Nat.reduceEqDiff, hu]
  refine SignG_spec (x := un n) (b := 12) (by omega) ?_
  have hA1 := addS (a := [108, 117, 105, 32]) (b := 99 :: dec (r : Nat)) (by simp; omega)
  have hA2 := addS (a := [108, 117, 105, 32] ++ 99 :: dec (r : Nat)) (b := [44, 32]) (by simp; omega)
  simp (disch := first | exact qD5 | fail) only [qG2, Nat.reduceAdd, Nat.reduceLeDiff, Int.reduceToNat, Int.reduceAdd, Int.reduceSub, Int.reduceLT, Int.reduceLE, Nat.reduceSub, Nat.reduceMul, Nat.reduceEqDiff, hws, hA1, hA2]
  refine digits_spec (dec_in (by omega)) fun w1 hx1 => ?_
  have hA3 := addS (a := [108, 117, 105, 32] ++ 99 :: dec (r : Nat) ++ [44, 32]) (b := dec (n - low)) (by simp; omega)
  simp (disch := first | exact qD5 | fail) only [qG2, Nat.reduceAdd, Nat.reduceLeDiff, Int.reduceToNat, Int.reduceAdd, Int.reduceSub, Int.reduceLT, Int.reduceLE, Nat.reduceSub, Nat.reduceMul, Nat.reduceEqDiff, hA3]
  refine digits_spec (dec_in (by omega)) fun w2 hx2 => ?_
  simp (disch := first | exact qD5 | fail) only [qG2, Nat.reduceAdd, Nat.reduceLeDiff, Int.reduceToNat, Int.reduceAdd, Int.reduceSub, Int.reduceLT, Int.reduceLE, Nat.reduceSub, Nat.reduceMul, Nat.reduceEqDiff]
  have hx12 := hx1.trans hx2 (by simp)
  have hr := texts_rows (w := w2.alloc (.cells [.string ⟨(99 :: dec (r : Nat)).toArray⟩, .string ⟨(99 :: dec (r : Nat)).toArray⟩, .string ⟨(dec low).toArray⟩].toArray 9)) (b := w2.heap.size) (l := [99 :: dec (r : Nat), 99 :: dec (r : Nat), dec low]) (alloc_at rfl) (by simp)
  have hxa : Ext [] w (w2.alloc (.cells [.string ⟨(99 :: dec (r : Nat)).toArray⟩, .string ⟨(99 :: dec (r : Nat)).toArray⟩, .string ⟨(dec low).toArray⟩].toArray 9)) := Ext.alloc hx12 _ _
  have hjl : (Lib.join [99 :: dec (r : Nat), 99 :: dec (r : Nat), dec low] [44, 32]).length <= 100 := by
   simp [Lib.join_cons, Lib.joinTail]
   omega
  refine Join_spec hr (by simp) (by simp) (by omega) fun w3 hx3 => ?_
  have hadd := addS (a := [97, 100, 100, 105, 32]) (b := Lib.join [99 :: dec (r : Nat), 99 :: dec (r : Nat), dec low] [44, 32]) (by simp; omega)
  simp (disch := first | exact qD5 | fail) only [qG2, Nat.reduceAdd, Nat.reduceLeDiff, Int.reduceToNat, Int.reduceAdd, Int.reduceSub, Int.reduceLT, Int.reduceLE, Nat.reduceSub, Nat.reduceMul, Nat.reduceEqDiff, hadd]
  have e : [97, 100, 100, 105, 32] ++ Lib.join [99 :: dec (r : Nat), 99 :: dec (r : Nat), dec low] [44, 32] = addT' r r low := rfl
  have e2 : [108, 117, 105, 32] ++ 99 :: dec (r : Nat) ++ [44, 32] ++ dec (n - low) = luiT r (n - low) := rfl
  rw [e, e2]
  rw [hw] at hK
  have hxb := hxa.trans hx3 (by simp)
  have hsz := hxb.size
  refine hK _ _ (texts_rows (w := w3.alloc (.cells [.string ⟨(luiT r (n - low)).toArray⟩, .string ⟨(addT' r r low).toArray⟩].toArray 9)) (b := w3.heap.size) (l := [luiT r (n - low), addT' r r low]) (alloc_at rfl) (by simp)) (Ext.alloc hxb _ _) fun b hb => ?_
  have : w3.heap.size = b := Option.some.inj hb
  omega
set_option maxHeartbeats 1000000 in
theorem stands_li {r : Nat} {n : Int} (hr : r < 32) (hn : -2147483648 <= n /\ n <= 2147483647) : StandsOK (liT r n) (wideF r n) := by
 intro w K hg hK
 have hlr := dec_len (n := (r : Int))
 have hln := dec_len (n := n)
 have h44 : ∀ m : Int, (44 : UInt8) ∉ dec m := fun m hm => by
  rcases dec_sign _ hm with e | e
  ·exact absurd e (by decide)
  ·exact absurd e.1 (by decide)
 have hc1 : Lib.cut (liT r n) [32] = ([108, 105], 99 :: dec (r : Nat) ++ ([44, 32] ++ dec n), true) := by
  have e : liT r n = [108, 105] ++ (32 :: [] ++ (99 :: dec (r : Nat) ++ ([44, 32] ++ dec n))) := by simp [liT]
  rw [e, cut_at (by decide)]
 have hc2 : Lib.cut (99 :: dec (r : Nat) ++ ([44, 32] ++ dec n)) [44, 32] = (99 :: dec (r : Nat), dec n, true) := by
  have e : 99 :: dec (r : Nat) ++ ([44, 32] ++ dec n) = 99 :: dec (r : Nat) ++ (44 :: [32] ++ dec n) := rfl
  rw [e, cut_at]
  rw [List.mem_cons, not_or]
  exact ⟨by decide, h44 _⟩
 have hlt : (liT r n).length <= 100 := by unfold liT; simp; omega
 have hlt2 : (99 :: dec (r : Nat) ++ ([44, 32] ++ dec n)).length <= 100 := by simp; omega
 have hnum := number_dec (n := n) (by omega)
 have hfit : fitsS n 32 = true := by
  unfold fitsS
  rw [decide_eq_true_eq]
  have e : ((2 ^ (32 - 1) : Nat) : Int) = 2147483648 := by decide
  omega
 apply F14_ok
 unfold F14
 have E1 := eqlS (liT r n) [110, 111, 112]
 have E2 := eqlS (liT r n) [114, 101, 116]
 rw [decide_eq_false (show liT r n ≠ [110, 111, 112] from fun h => by rw [h] at hc1; exact absurd (congrArg (fun p => p.2.2) hc1) (by simp only; decide))] at E1
 rw [decide_eq_false (show liT r n ≠ [114, 101, 116] from fun h => by rw [h] at hc1; exact absurd (congrArg (fun p => p.2.2) hc1) (by simp only; decide))] at E2
 refine Cut_spec (s := liT r n) (p := [32]) hg (by omega) fun w1 hx1 => ?_
 rw [hc1]
 have E3 := eqlS [108, 105] [106]
 have E4 := eqlS [108, 105] [109, 118]
 have E5 := eqlS [108, 105] [108, 105]
 rw [decide_eq_false (by decide)] at E3 E4
 rw [decide_eq_true rfl] at E5
 simp (disch := first | exact qD5 | fail) only [qG2, Nat.reduceAdd, Nat.reduceLeDiff, Int.reduceToNat, Int.reduceAdd, Int.reduceSub, Int.reduceLT, Int.reduceLE, Nat.reduceSub, Nat.reduceMul, Nat.reduceEqDiff]
 refine joinL.intro fun J0 hJ0 => ?_
 simp (disch := first | exact qD5 | fail) only [qG2, Nat.reduceAdd, Nat.reduceLeDiff, Int.reduceToNat, Int.reduceAdd, Int.reduceSub, Int.reduceLT, Int.reduceLE, Nat.reduceSub, Nat.reduceMul, Nat.reduceEqDiff, E1, E2, E3, E4, E5]
 apply F36_ok
 unfold F36
 refine Cut_spec (s := 99 :: dec (r : Nat) ++ ([44, 32] ++ dec n)) (p := [44, 32]) (hg.ext hx1) (by omega) fun w2 hx2 => ?_
 rw [hc2]
 simp (disch := first | exact qD5 | fail) only [qG2, Nat.reduceAdd, Nat.reduceLeDiff, Int.reduceToNat, Int.reduceAdd, Int.reduceSub, Int.reduceLT, Int.reduceLE, Nat.reduceSub, Nat.reduceMul, Nat.reduceEqDiff]
 refine number_specA (s := dec n) (by omega) ?_
 rw [hnum]
 simp (disch := first | exact qD5 | fail) only [qG2, Nat.reduceAdd, Nat.reduceLeDiff, Int.reduceToNat, Int.reduceAdd, Int.reduceSub, Int.reduceLT, Int.reduceLE, Nat.reduceSub, Nat.reduceMul, Nat.reduceEqDiff, joinBR]
 refine FitsS_spec (x := n) (b := 32) (by omega) (by omega) ?_
 rw [hfit]
 simp (disch := first | exact qD5 | fail) only [qG2, Nat.reduceAdd, Nat.reduceLeDiff, Int.reduceToNat, Int.reduceAdd, Int.reduceSub, Int.reduceLT, Int.reduceLE, Nat.reduceSub, Nat.reduceMul, Nat.reduceEqDiff, joinBR]
 refine wide_spec hn fun v w3 hv hx3 hb => ?_
 simp (disch := first | exact qD5 | fail) only [qG2, Nat.reduceAdd, Nat.reduceLeDiff, Int.reduceToNat, Int.reduceAdd, Int.reduceSub, Int.reduceLT, Int.reduceLE, Nat.reduceSub, Nat.reduceMul, Nat.reduceEqDiff]
 have hx := (hx1.trans hx2 (by simp)).trans hx3 (by simp)
 have hsz := (hx1.trans hx2 (by simp)).size
 exact hK v w3 hv hx fun b hb2 => Nat.le_trans hsz (hb b hb2)
open Go.Fx
set_option maxRecDepth 100000
/-- a span's end or none. -/
def spn (B T E a : Nat) : Option (Nat × Nat) :=
 if 37 < E ∨ 281474976710656 <= a then none
 else if a / 2 ^ (E - 1) + 4096 < (a / 2 ^ (E - 1) + 16384 - B + 4096) % 16384 then none
 else if 281474976710656 / 2 ^ (E - 1) < a / 2 ^ (E - 1) + 4096 - (a / 2 ^ (E - 1) + 16384 - B + 4096) % 16384 + ((T + 16384 - B) % 4096 + if 0 < E then 4096 else 0) then none
 else some ((a / 2 ^ (E - 1) + 4096 - (a / 2 ^ (E - 1) + 16384 - B + 4096) % 16384) * 2 ^ (E - 1), (a / 2 ^ (E - 1) + 4096 - (a / 2 ^ (E - 1) + 16384 - B + 4096) % 16384 + ((T + 16384 - B) % 4096 + if 0 < E then 4096 else 0)) * 2 ^ (E - 1))
def spB (o : Option (Nat × Nat)) : Nat := (o.getD (0, 0)).1
def spT (o : Option (Nat × Nat)) : Nat := (o.getD (0, 0)).2
def spC (o : Option (Nat × Nat)) : List Value := [.int .u64 (spB o : Nat), .int .u64 (spT o : Nat)]
def fdsC (B T E : Nat) : List Value := [.int .u64 B, .int .u64 T, .int .u64 E]
theorem shift_spec {w : World} {e : Nat} (he : e < 64) {K : Value -> World -> Prop} (hK : K (.int .i64 ((e - 1 : Nat) : Int)) w) : callsK Tryz.prog 164 #[.int .u64 e] w K := by
 have hm : max (e : Int) 1 - 1 = ((e - 1 : Nat) : Int) := by omega
 have hm2 : 1 <= max (e : Int) 1 /\ max (e : Int) 1 <= 64 := by omega
 apply F164_ok
 unfold F164
 obtain ⟨x, hx⟩ : ∃ x, x = max (e : Int) 1 := ⟨_, rfl⟩
 rw [<- hx] at hm hm2
 simp (disch := first | assumption | omega | (simp only [szR, fdsC_len, fdsC_all, wdsC_len, wdsC_all] <;> omega) | rfl | decide) only [qG0, Nat.reduceAdd, Nat.reduceLeDiff, Int.reduceToNat, Int.reduceAdd, Int.reduceSub, Int.reduceLT, Int.reduceLE, Nat.reduceSub, Nat.reduceMul, Nat.reduceEqDiff, mnR, <- hx, hm]
 exact hK
def wdsC : List Value := [.int .i64 14, .int .i64 12, .int .i64 6]
theorem widths_spec {w : World} {K : Value -> World -> Prop} (hK : ∀ w', Ext [] w w' -> K (.agg wdsC.toArray) w') : callsK Tryz.prog 165 #[] w K := by
 apply F165_ok
 unfold F165
 simp (disch := first | assumption | omega | (simp only [szR, fdsC_len, fdsC_all, wdsC_len, wdsC_all] <;> omega) | rfl | decide) only [qG0, Nat.reduceAdd, Nat.reduceLeDiff, Int.reduceToNat, Int.reduceAdd, Int.reduceSub, Int.reduceLT, Int.reduceLE, Nat.reduceSub, Nat.reduceMul, Nat.reduceEqDiff]
 exact hK _ qX
theorem three {p : Nat -> Prop} (h : p 0 /\ p 1 /\ p 2) {k : Nat} (hk : k < 3) : p k := by
 rcases (by omega : k = 0 ∨ k = 1 ∨ k = 2) with rfl | rfl | rfl
 all_goals simp [h]
def wAt (k : Nat) : Nat := if k = 0 then 14 else if k = 1 then 12 else 6
def aAt (k : Nat) : Nat := if k = 0 then 0 else if k = 1 then 14 else if k = 2 then 26 else 32
def fAt (B T E k : Nat) : Nat := if k = 0 then B else if k = 1 then T else E
theorem wds_get {k : Nat} (h : k < 3) : wdsC[k]? = some (.int .i64 (wAt k)) := three (p := fun k => wdsC[k]? = some (.int .i64 (wAt k))) ⟨rfl, rfl, rfl⟩ h
theorem fds_get {B T E k : Nat} (h : k < 3) : (fdsC B T E)[k]? = some (.int .u64 (fAt B T E k)) := three (p := fun k => (fdsC B T E)[k]? = some (.int .u64 (fAt B T E k))) ⟨rfl, rfl, rfl⟩ h
theorem aAt_succ {k : Nat} (h : k < 3) : (aAt k : Int) + (wAt k : Int) = (aAt (k + 1) : Int) := three (p := fun k => (aAt k : Int) + (wAt k : Int) = (aAt (k + 1) : Int)) ⟨rfl, rfl, rfl⟩ h
theorem aw_le {k : Nat} (h : k < 3) : 0 < wAt k /\ wAt k < 64 /\ aAt k + wAt k <= 32 := three (p := fun k => 0 < wAt k /\ wAt k < 64 /\ aAt k + wAt k <= 32) ⟨by decide, by decide, by decide⟩ h
theorem wdsC_len : wdsC.length = 3 := by simp [wdsC]
theorem wdsC_all : wdsC.all (fun v => v.oneCell') = true := by simp [wdsC]; exact ⟨rfl, rfl, rfl⟩
theorem fdsC_len (B T E : Nat) : (fdsC B T E).length = 3 := by simp [fdsC]
theorem fdsC_all (B T E : Nat) : (fdsC B T E).all (fun v => v.oneCell') = true := by simp [fdsC]; exact ⟨rfl, rfl, rfl⟩
theorem fdsC_sub (B T E : Nat) : sub (fdsC B T E) 0 3 = fdsC B T E := rfl
/-- the number of the first fields. -/
def wordF (B T E : Nat) : Nat -> Nat
 | 0 => 0
 | k + 1 => wordF B T E k + fAt B T E k % 2 ^ wAt k * 2 ^ aAt k
theorem wordF_lt (B T E : Nat) {k : Nat} (hk : k <= 3) : wordF B T E k < 2 ^ aAt k := by
 have h0 : B % 16384 < 16384 := Nat.mod_lt _ (by decide)
 have h1 : T % 4096 < 4096 := Nat.mod_lt _ (by decide)
 have h2 : E % 64 < 64 := Nat.mod_lt _ (by decide)
 rcases (by omega : k = 0 ∨ k = 1 ∨ k = 2 ∨ k = 3) with rfl | rfl | rfl | rfl
 ·show 0 < 2 ^ 0
  decide
 ·show 0 + B % 2 ^ 14 * 2 ^ 0 < 2 ^ 14
  simp
  omega
 ·show 0 + B % 2 ^ 14 * 2 ^ 0 + T % 2 ^ 12 * 2 ^ 14 < 2 ^ 26
  simp
  omega
 ·show 0 + B % 2 ^ 14 * 2 ^ 0 + T % 2 ^ 12 * 2 ^ 14 + E % 2 ^ 6 * 2 ^ 26 < 2 ^ 32
  simp
  omega
theorem qZ9 : type_of% (And.intro @szR (And.intro @fdsC_len (And.intro @fdsC_all (And.intro @wdsC_len (@wdsC_all))))) := ⟨@szR, @fdsC_len, @fdsC_all, @wdsC_len, @wdsC_all⟩
theorem qD9 {p : Prop} (h : p := by first | assumption | omega | (simp only [qZ9] <;> omega) | rfl | decide) : p := h
theorem BWord_spec {w : World} {B T E : Nat} (hB : B < 18446744073709551616) (hT : T < 18446744073709551616) (hE : E < 18446744073709551616) {K : Value -> World -> Prop} (hK : ∀ w', Ext [] w w' -> K (.int .u64 (wordF B T E 3 : Nat)) w') : callsK Tryz.prog 163 #[.agg (fdsC B T E).toArray] w K := by
 apply F163_ok
 unfold F163
 have hf : fdsC B T E = [.int .u64 B, .int .u64 T, .int .u64 E] := rfl
 rw [hf]
 simp (disch := first | exact qD9 | fail) only [qG0, Nat.reduceAdd, Nat.reduceLeDiff, Int.reduceToNat, Int.reduceAdd, Int.reduceSub, Int.reduceLT, Int.reduceLE, Nat.reduceSub, Nat.reduceMul, Nat.reduceEqDiff]
 refine widths_spec fun w1 hx1 => ?_
 have hk1 := kept0 hx1
 have c5 : w1.heap[w.heap.size + 1]? = some (.cells (fdsC B T E).toArray 251 (0, 0)) := by
  rw [hf]
  exact (by first | with_reducible rfl | assumption | (simp (disch := first | exact qD9 | fail) only [qG0, Nat.reduceAdd, Nat.reduceLeDiff, Int.reduceToNat, Int.reduceAdd, Int.reduceSub, Int.reduceLT, Int.reduceLE, Nat.reduceSub, Nat.reduceMul, Nat.reduceEqDiff, hk1] <;> rfl))
 have hx1w : Ext [] w w1 := Ext.trans (S := []) qX hx1 (by simp)
 refine loopT.intro (fun st w' => ∃ (k : Nat), k <= 3 /\ st = [.int .u64 (wordF B T E k : Nat), .int .i64 (aAt k : Nat), .int .i64 k] /\ Ext [] w1 w')
  (fun st _ => match st with
   | [_, _, .int _ z] => 3 - z.toNat
   | _ => 0) ⟨0, by omega, rfl, Ext.refl⟩ ?_
 rintro st w' ⟨k, hk, rfl, hx⟩ _
 have c5' := hx.at c5 (by simp)
 by_cases h3 : k < 3
 ·obtain ⟨a1, a2, a3⟩ := aw_le h3
  have hwl := wds_get h3
  have hfl := fds_get (B := B) (T := T) (E := E) h3
  have has := aAt_succ h3
  have hlt := wordF_lt B T E (k := k) (by omega)
  have hfa : fAt B T E k < 18446744073709551616 := by unfold fAt; split; exact hB; split; exact hT; exact hE
  have hs : wordF B T E (k + 1) = wordF B T E k + fAt B T E k % 2 ^ wAt k * 2 ^ aAt k := rfl
  simp (disch := first | exact qD9 | fail) only [qG0, Nat.reduceAdd, Nat.reduceLeDiff, Int.reduceToNat, Int.reduceAdd, Int.reduceSub, Int.reduceLT, Int.reduceLE, Nat.reduceSub, Nat.reduceMul, Nat.reduceEqDiff, c5', hwl, hfl, wdsC_len, fdsC_len]
  refine fPut_spec (by omega) (by omega) (by omega) (by rw [Int.toNat_natCast]; exact hlt) hfa fun w2 hx2 => ?_
  rw [Int.toNat_natCast, Int.toNat_natCast, <- hs]
  simp (disch := first | exact qD9 | fail) only [qG0, Nat.reduceAdd, Nat.reduceLeDiff, Int.reduceToNat, Int.reduceAdd, Int.reduceSub, Int.reduceLT, Int.reduceLE, Nat.reduceSub, Nat.reduceMul, Nat.reduceEqDiff, has]
  exact ⟨⟨k + 1, by omega, rfl, hx.trans (Ext.trans (S := []) qX hx2 (by simp)) (by simp)⟩, by simp; omega⟩
 ·obtain rfl : k = 3 := by omega
  simp (disch := first | exact qD9 | fail) only [qG0, Nat.reduceAdd, Nat.reduceLeDiff, Int.reduceToNat, Int.reduceAdd, Int.reduceSub, Int.reduceLT, Int.reduceLE, Nat.reduceSub, Nat.reduceMul, Nat.reduceEqDiff]
  exact hK _ (hx1w.trans hx (by simp))
theorem BOf_spec {w : World} {x : Nat} (hx : x < 18446744073709551616) {K : Value -> World -> Prop} (hK : ∀ w', Ext [] w w' -> K (.agg (fdsC (x % 16384) (x / 16384 % 4096) (x / 67108864 % 64)).toArray) w') : callsK Tryz.prog 137 #[.int .u64 x] w K := by
 apply F137_ok
 unfold F137
 simp (disch := first | exact qD9 | fail) only [qG0, Nat.reduceAdd, Nat.reduceLeDiff, Int.reduceToNat, Int.reduceAdd, Int.reduceSub, Int.reduceLT, Int.reduceLE, Nat.reduceSub, Nat.reduceMul, Nat.reduceEqDiff]
 refine widths_spec fun w1 hx1 => ?_
 have hk1 := kept0 hx1
 have hx1w : Ext [] w w1 := Ext.trans (S := []) qX hx1 (by simp)
 have hs1 := hx1.size
 simp only [szR] at hs1
 have c2 : w1.heap[w.heap.size]? = some (.cells (fdsC 0 0 0).toArray 226 (0, 0)) := (by first | with_reducible rfl | assumption | (simp (disch := first | exact qD9 | fail) only [qG0, Nat.reduceAdd, Nat.reduceLeDiff, Int.reduceToNat, Int.reduceAdd, Int.reduceSub, Int.reduceLT, Int.reduceLE, Nat.reduceSub, Nat.reduceMul, Nat.reduceEqDiff, hk1] <;> rfl))
 have c3 : w1.heap[w.heap.size + 1]? = some (.cells (fdsC 0 0 0).toArray 251 (0, 0)) := (by first | with_reducible rfl | assumption | (simp (disch := first | exact qD9 | fail) only [qG0, Nat.reduceAdd, Nat.reduceLeDiff, Int.reduceToNat, Int.reduceAdd, Int.reduceSub, Int.reduceLT, Int.reduceLE, Nat.reduceSub, Nat.reduceMul, Nat.reduceEqDiff, hk1] <;> rfl))
 refine loopT.intro (fun st w' => ∃ (k : Nat), k <= 3 /\ st = [.int .i64 (aAt k : Nat), .int .i64 k] /\ w'.heap[w.heap.size]? = some (.cells (fdsC 0 0 0).toArray 226 (0, 0)) /\ w'.heap[w.heap.size + 1]? = some (.cells (fdsC (if 0 < k then x % 16384 else 0) (if 1 < k then x / 16384 % 4096 else 0) (if 2 < k then x / 67108864 % 64 else 0)).toArray 251 (0, 0)) /\ Ext [] w w')
  (fun st _ => match st with
   | [_, .int _ z] => 3 - z.toNat
   | _ => 0) ⟨0, by omega, rfl, c2, c3, hx1w⟩ ?_
 rintro st w' ⟨k, hk, rfl, d2, d3, hxw⟩ _
 have l2 := lt_of_at d2
 have l3 := lt_of_at d3
 by_cases h3 : k < 3
 ·obtain ⟨a1, a2, a3⟩ := aw_le h3
  have hwl := wds_get h3
  have has := aAt_succ h3
  simp (disch := first | exact qD9 | fail) only [qG0, Nat.reduceAdd, Nat.reduceLeDiff, Int.reduceToNat, Int.reduceAdd, Int.reduceSub, Int.reduceLT, Int.reduceLE, Nat.reduceSub, Nat.reduceMul, Nat.reduceEqDiff, hwl, wdsC_len]
  refine fGet_spec (by omega) (by omega) (by omega) hx fun w2 hx2 => ?_
  have d2 := hx2.at d2 (by simp)
  have d3 := hx2.at d3 (by simp)
  have hset : (fdsC (if 0 < k then x % 16384 else 0) (if 1 < k then x / 16384 % 4096 else 0) (if 2 < k then x / 67108864 % 64 else 0)).set k (.int .u64 ((x / 2 ^ aAt k % 2 ^ wAt k : Nat) : Int)) = fdsC (if 0 < k + 1 then x % 16384 else 0) (if 1 < k + 1 then x / 16384 % 4096 else 0) (if 2 < k + 1 then x / 67108864 % 64 else 0) := by
   rcases (by omega : k = 0 ∨ k = 1 ∨ k = 2) with rfl | rfl | rfl
   ·simp [fdsC, aAt, wAt]
   ·simp [fdsC, aAt, wAt]
   ·simp [fdsC, aAt, wAt]
  have hxw2 := hxw.trans hx2 (by simp)
  simp (disch := first | exact qD9 | fail) only [qG0, Nat.reduceAdd, Nat.reduceLeDiff, Int.reduceToNat, Int.reduceAdd, Int.reduceSub, Int.reduceLT, Int.reduceLE, Nat.reduceSub, Nat.reduceMul, Nat.reduceEqDiff, d3, fdsC_len, has, hset]
  exact ⟨⟨k + 1, by omega, rfl, by first | exact d2 | exact (upd_ne (by omega)).trans d2, by first | rfl | exact upd_at d3, Ext.updN (by omega) hxw2⟩, by simp; omega⟩
 ·obtain rfl : k = 3 := by omega
  simp only [fdsC] at d2 d3
  simp (disch := first | exact qD9 | fail) only [qG0, Nat.reduceAdd, Nat.reduceLeDiff, Int.reduceToNat, Int.reduceAdd, Int.reduceSub, Int.reduceLT, Int.reduceLE, Nat.reduceSub, Nat.reduceMul, Nat.reduceEqDiff, d2, d3]
  exact hK _ qX
end Go.Proofs.YtldkfbelnndaoaaGreatDoor
