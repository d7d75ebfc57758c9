/- A power of two beyond a number; a number turned; a part's order broken; conditions: those of each theorem. -/
import Derived.Test.YtgnibcaflidjmaaSU5
import Derived.Test.YtgnibcaflidjmaaShelf
import Derived.Lib.ItoaNum
namespace Go.Proofs.Ytgnibcaflidjmaa
open Go.Fx
set_option maxRecDepth 100000
set_option linter.unusedSimpArgs false
set_option linter.unusedVariables false
set_option maxHeartbeats 1000000
theorem shlU {i : Int} (h : 0 ≤ i ∧ i < 64) : IntKind.u64.wrap (1 * 2 ^ i.toNat) = ((2 ^ i.toNat : Nat) : Int) := by
  obtain ⟨k, rfl⟩ : ∃ k : Nat, i = (k : Int) := ⟨i.toNat, by omega⟩
  have hk : k < 64 := by omega
  have h2 : (2 : Nat) ^ k < 2 ^ 64 := Nat.pow_lt_pow_right (by omega) hk
  rw [IntKind.wrap_u64, Int.toNat_natCast, Int.one_mul]
  have : ((2 : Int) ^ k) = ((2 ^ k : Nat) : Int) := by simp
  rw [this]
  generalize (2 : Nat) ^ k = M at h2 ⊢
  omega
theorem npt_spec {w : World} {n : Nat} (hn : n < 1000000) (hn0 : 0 < n) {K : Value → World → Prop}
    (hK : ∀ (L : Nat), 2 ^ L < 2000001 → 2 ^ L ≤ 2 * n → K (.int .u64 ((2 ^ L : Nat) : Int)) w) :
    callsK Try.prog 110 #[.int .i64 (n : Nat)] w K := by
  apply F110_ok
  unfold F110
  simp (disch := first | assumption | omega | (simp only [szR] <;> omega) | rfl | decide) only [gen0, gen1, gen2, rulesZ, litR, bolR, Nat.reduceAdd, Nat.reduceLeDiff, numR, memR, valR, heapR, updR, intR, decR, extR, slR, segR, thenR, pnR, Int.reduceToNat, Int.reduceAdd, Int.reduceSub, Int.reduceLT, Int.reduceLE, Nat.reduceSub, Nat.reduceMul, Nat.reduceEqDiff]
  refine Calls.mono (Try.bits_Len (n : Int) w (by omega) (by omega)) ?_
  rintro e w' ⟨rfl, rfl⟩
  obtain ⟨h1, h2, h3⟩ := Lib.bitLenAux_bounds 64 n (by omega) (by omega)
  have hL : Lib.bitLen ((n : Nat) : Int).toNat = Lib.bitLenAux 64 n := rfl
  rw [hL]
  generalize Lib.bitLenAux 64 n = L at h1 h2 h3 ⊢
  refine ⟨_, rfl, ?_⟩
  have h4 : 2 ^ L = 2 * 2 ^ (L - 1) := by
    rw [← Nat.pow_succ']
    congr 1
    omega
  have hL64 : L < 64 := by
    apply Classical.byContradiction
    intro hc
    have := Nat.pow_le_pow_right (n := 2) (by omega) (show 64 ≤ L by omega)
    omega
  have hs := shlU (i := (L : Int)) ⟨by omega, by omega⟩
  rw [Int.toNat_natCast] at hs
  simp (disch := first | assumption | omega | (simp only [szR] <;> omega) | rfl | decide) only [gen0, gen1, gen2, rulesZ, litR, bolR, Nat.reduceAdd, Nat.reduceLeDiff, numR, memR, valR, heapR, updR, intR, decR, extR, slR, segR, thenR, pnR, Int.reduceToNat, Int.reduceAdd, Int.reduceSub, Int.reduceLT, Int.reduceLE, Nat.reduceSub, Nat.reduceMul, Nat.reduceEqDiff, hs]
  exact hK L (by omega) (by omega)
theorem wrapUs (z : Int) : ∃ n : Nat, IntKind.u64.wrap z = (n : Int) ∧ n < 18446744073709551616 := by
  rw [IntKind.wrap_u64]
  exact ⟨(z % 18446744073709551616).toNat, by omega, by omega⟩
theorem next_spec {w : World} {r x : Nat} (hr : w.heap[r]? = some (.cells [.int .u64 (x : Nat)].toArray 168 (0, 0))) (hx : x < 18446744073709551616) {K : Value → World → Prop}
    (hK : ∀ (y : Nat) w', y < 18446744073709551616 → w'.heap[r]? = some (.cells [.int .u64 (y : Nat)].toArray 168 (0, 0)) → Ext [r] w w' → K (.int .u64 (y : Nat)) w') :
    callsK Try.prog 111 #[.pointer (some ⟨r, 0, none⟩)] w K := by
  apply F111_ok
  unfold F111
  rw [drewK_eq]
  simp (disch := first | assumption | omega | (simp only [szR] <;> omega) | rfl | decide) only [gen0, gen1, gen2, rulesZ, litR, bolR, Nat.reduceAdd, Nat.reduceLeDiff, numR, memR, valR, heapR, updR, intR, decR, extR, slR, segR, thenR, pnR, Int.reduceToNat, Int.reduceAdd, Int.reduceSub, Int.reduceLT, Int.reduceLE, Nat.reduceSub, Nat.reduceMul, Nat.reduceEqDiff, hr]
  generalize [Value.int IntKind.u64 (bitI BinOp.xor IntKind.u64 (↑x) (IntKind.u64.wrap (↑x * 2 ^ 13)))] = l1
  generalize bitI BinOp.xor IntKind.u64 (↑x) (IntKind.u64.wrap (↑x * 2 ^ 13)) = b1
  generalize [Value.int IntKind.u64 (bitI BinOp.xor IntKind.u64 b1 (b1.fdiv (2 ^ 7)))] = l2
  generalize bitI BinOp.xor IntKind.u64 b1 (b1.fdiv (2 ^ 7)) = b2
  obtain ⟨y, hy, hyl⟩ : ∃ n : Nat, bitI BinOp.xor IntKind.u64 b2 (IntKind.u64.wrap (b2 * 2 ^ 17)) = (n : Int) ∧ n < 18446744073709551616 := wrapUs _
  rw [hy]
  have g1 : (World.upd w.drew r l1).heap[r]? = some (.cells l1.toArray 168 (0, 0)) := upd_at (w := w.drew) hr
  have g2 : (World.upd (World.upd w.drew r l1).drew r l2).heap[r]? = some (.cells l2.toArray 168 (0, 0)) := upd_at (w := (World.upd w.drew r l1).drew) g1
  have g3 : (World.upd (World.upd (World.upd w.drew r l1).drew r l2).drew r [Value.int IntKind.u64 (y : Nat)]).heap[r]? = some (.cells [Value.int IntKind.u64 (y : Nat)].toArray 168 (0, 0)) := upd_at (w := (World.upd (World.upd w.drew r l1).drew r l2).drew) g2
  refine hK y _ hyl g3 ?_
  exact Ext.updI (S := [r]) (by simp) (Ext.drew (Ext.updI (S := [r]) (by simp) (Ext.drew (Ext.updI (S := [r]) (by simp) ((dE w).mono (by simp))))))


theorem break_spec {w : World} {g n c a b : Nat} {xs : List Nat} (h : SU w g n xs) (hab : a + 8 ≤ b) (hbn : b ≤ n) (hn : n < 1000000) {K : Value → World → Prop}
    (hK : ∀ ys w', SU w' g n ys → Sw a b xs ys → Ext [g] w w' → K (.tuple #[]) w') :
    callsK Try.prog 99 #[.slice (some ⟨g, 0, none⟩) n c, .int .i64 (a : Nat), .int .i64 (b : Nat)] w K := by
  apply F99_ok
  unfold F99
  obtain ⟨m, hm⟩ : ∃ m, b = a + m := ⟨b - a, by omega⟩
  subst hm
  have e1 : ((a + m : Nat) : Int) - (a : Int) = (m : Int) := by omega
  have e2 : ((m : Nat) : Int).tdiv 4 = ((m / 4 : Nat) : Int) := by
    rw [Int.tdiv_eq_ediv_of_nonneg (by omega)]
    omega
  have e3 : ((m : Nat) : Int) / 4 = ((m / 4 : Nat) : Int) := by omega
  obtain ⟨q, hq⟩ : ∃ q, q = m / 4 := ⟨_, rfl⟩
  rw [← hq] at e2 e3
  have e8 : decide ((8 : Int) ≤ (m : Int)) = true := decide_eq_true (by omega)
  have f2 : ((q : Nat) : Int) * 2 = ((q * 2 : Nat) : Int) := by omega
  have g2 : ((a : Nat) : Int) + ((q * 2 : Nat) : Int) = ((a + q * 2 : Nat) : Int) := by omega
  have g3 : ((a + q * 2 : Nat) : Int) - 1 = ((a + q * 2 - 1 : Nat) : Int) := by omega
  have g4 : ((a + q * 2 : Nat) : Int) + 1 = ((a + q * 2 + 1 : Nat) : Int) := by omega
  simp (disch := first | assumption | omega | (simp only [szR] <;> omega) | rfl | decide) only [gen0, gen1, gen2, rulesZ, litR, bolR, Nat.reduceAdd, Nat.reduceLeDiff, numR, memR, valR, heapR, updR, intR, decR, extR, slR, segR, thenR, pnR, Int.reduceToNat, Int.reduceAdd, Int.reduceSub, Int.reduceLT, Int.reduceLE, Nat.reduceSub, Nat.reduceMul, Nat.reduceEqDiff, e1, e8, e2, e3, f2, g2, g3]
  refine npt_spec (by omega) (by omega) fun L hL1 hL2 => ?_
  simp (disch := first | assumption | omega | (simp only [szR] <;> omega) | rfl | decide) only [gen0, gen1, gen2, rulesZ, litR, bolR, Nat.reduceAdd, Nat.reduceLeDiff, numR, memR, valR, heapR, updR, intR, decR, extR, slR, segR, thenR, pnR, Int.reduceToNat, Int.reduceAdd, Int.reduceSub, Int.reduceLT, Int.reduceLE, Nat.reduceSub, Nat.reduceMul, Nat.reduceEqDiff, e1, e8, e2, e3, f2, g2, g3]
  obtain ⟨r, hr⟩ : ∃ r, r = w.heap.size := ⟨_, rfl⟩
  obtain ⟨W, hW⟩ : ∃ W, W = w.alloc (.cells #[.int .u64 (m : Nat)] 168) := ⟨_, rfl⟩
  rw [← hW, ← hr]
  have hxW : Ext [] w W := by rw [hW]; exact Ext.alloc Ext.refl _ _
  have hs : W.heap[r]? = some (.cells [.int .u64 (m : Nat)].toArray 168 (0, 0)) := by rw [hW, hr]; exact alloc_at rfl
  clear hW
  have hgr : g < r := by
    obtain ⟨cur, hg, -⟩ := h.at'
    rw [hr]
    exact lt_of_at hg
  have h2l : 1 ≤ 2 ^ L := Nat.one_le_two_pow
  have f9 : (((2 ^ L : Nat) : Int) - 1) = ((2 ^ L - 1 : Nat) : Int) := by omega
  have hL64 : L < 64 := by
    apply Classical.byContradiction
    intro hc
    have := Nat.pow_le_pow_right (n := 2) (by omega) (show 64 ≤ L by omega)
    omega
  refine loopT.intro (fun st w' => ∃ (i y : Nat) (zs : List Nat), a + q * 2 - 1 ≤ i ∧ i ≤ a + q * 2 + 2 ∧ st = [.int .i64 (i : Nat)] ∧ SU w' g n zs ∧ Sw a (a + m) xs zs ∧ w'.heap[r]? = some (.cells [.int .u64 (y : Nat)].toArray 168 (0, 0)) ∧ y < 18446744073709551616 ∧ Ext [g] w w')
    (fun st _ => match st with
      | [.int _ y] => a + q * 2 + 2 - y.toNat
      | _ => 0) ⟨a + q * 2 - 1, m, xs, by omega, by omega, rfl, h.ext hxW (by simp), Sw.refl _ _ _, hs, by omega, hxW.mono (by simp)⟩ ?_
  rintro st w2 ⟨i, y, zs, hi, hi', rfl, h2, hp2, hy, hyl, hx2⟩ _
  by_cases hlast : i ≤ a + q * 2 + 1
  rotate_left
  · have d : decide (((i : Nat) : Int) ≤ ((a + q * 2 + 1 : Nat) : Int)) = false := decide_eq_false (by omega)
    simp (disch := first | assumption | omega | (simp only [szR] <;> omega) | rfl | decide) only [gen0, gen1, gen2, rulesZ, litR, bolR, Nat.reduceAdd, Nat.reduceLeDiff, numR, memR, valR, heapR, updR, intR, decR, extR, slR, segR, thenR, pnR, Int.reduceToNat, Int.reduceAdd, Int.reduceSub, Int.reduceLT, Int.reduceLE, Nat.reduceSub, Nat.reduceMul, Nat.reduceEqDiff, joinBR, e2, e3, f2, g2, g4, d]
    exact hK zs w2 h2 hp2 hx2
  have d : decide (((i : Nat) : Int) ≤ ((a + q * 2 + 1 : Nat) : Int)) = true := decide_eq_true (by omega)
  simp (disch := first | assumption | omega | (simp only [szR] <;> omega) | rfl | decide) only [gen0, gen1, gen2, rulesZ, litR, bolR, Nat.reduceAdd, Nat.reduceLeDiff, numR, memR, valR, heapR, updR, intR, decR, extR, slR, segR, thenR, pnR, Int.reduceToNat, Int.reduceAdd, Int.reduceSub, Int.reduceLT, Int.reduceLE, Nat.reduceSub, Nat.reduceMul, Nat.reduceEqDiff, joinBR, e2, e3, f2, g2, g4, d]
  clear d
  refine joinL.intro fun J2 hJ2 => ?_
  refine next_spec hy hyl fun y3 w3 hy3 hr3 hx3 => ?_
  have hm3 := and_mask (k := .u64) (a := (y3 : Int)) (n := L) hL64
  have hm4 : ((y3 : Nat) : Int) % ((2 ^ L : Nat) : Int) = ((y3 % 2 ^ L : Nat) : Int) := (Int.natCast_emod _ _).symm
  rw [hm4] at hm3
  have hlt : y3 % 2 ^ L < 2 ^ L := Nat.mod_lt _ (by omega)
  generalize y3 % 2 ^ L = z at hm3 hlt
  have h3 : SU w3 g n zs := h2.ext hx3 (by simp; omega)
  have hx3 : Ext [g] w w3 := hx2.trans hx3 (fun b hb => .inr (by rw [List.mem_singleton.1 hb, hr]; exact Nat.le_refl _))
  simp (disch := first | assumption | omega | (simp only [szR] <;> omega) | rfl | decide) only [gen0, gen1, gen2, rulesZ, litR, bolR, Nat.reduceAdd, Nat.reduceLeDiff, numR, memR, valR, heapR, updR, intR, decR, extR, slR, segR, thenR, pnR, Int.reduceToNat, Int.reduceAdd, Int.reduceSub, Int.reduceLT, Int.reduceLE, Nat.reduceSub, Nat.reduceMul, Nat.reduceEqDiff, joinBR, f9, hm3]
  refine joinL.intro fun J4 hJ4 => ?_
  have hgo : ∀ (o : Nat), o < m → J4 [.int .i64 (o : Nat)] w3 := by
    intro o ho
    obtain ⟨cur, hb, hl, hc⟩ := h3.at'
    have hlen := h3.len
    have g5 : ((a : Nat) : Int) + (o : Int) = ((a + o : Nat) : Int) := by omega
    have gi := hc i (by omega)
    have gj := hc (a + o) (by omega)
    apply hJ4
    intro _
    rw [drewK_eq]
    simp (disch := first | assumption | omega | (simp only [szR] <;> omega) | rfl | decide) only [gen0, gen1, gen2, rulesZ, litR, bolR, Nat.reduceAdd, Nat.reduceLeDiff, numR, memR, valR, heapR, updR, intR, decR, extR, slR, segR, thenR, pnR, Int.reduceToNat, Int.reduceAdd, Int.reduceSub, Int.reduceLT, Int.reduceLE, Nat.reduceSub, Nat.reduceMul, Nat.reduceEqDiff, hb, gi, g5, gj, and_self]
    obtain ⟨us, h6, hp6, hx6⟩ := SU.swap h3.drew hb hl hc (i := i) (j := a + o) (by omega) (by omega)
    have e6 : ((i : Nat) : Int) + 1 = ((i + 1 : Nat) : Int) := by omega
    apply hJ2
    intro _
    simp (disch := first | assumption | omega | (simp only [szR] <;> omega) | rfl | decide) only [gen0, gen1, gen2, rulesZ, litR, bolR, Nat.reduceAdd, Nat.reduceLeDiff, numR, memR, valR, heapR, updR, intR, decR, extR, slR, segR, thenR, pnR, Int.reduceToNat, Int.reduceAdd, Int.reduceSub, Int.reduceLT, Int.reduceLE, Nat.reduceSub, Nat.reduceMul, Nat.reduceEqDiff, e6]
    exact ⟨⟨i + 1, y3, us, by omega, by omega, rfl, h6, hp2.trans (hp6.sw (by omega) (by omega)), by first | exact hr3 | exact hx6.at ((dE w3).at hr3 (by simp)) (by simp; omega), hy3, xG (xE hx3 (dE _)) hx6⟩, by omega⟩
  clear hJ4
  by_cases hz : m ≤ z
  · have d : decide (((m : Nat) : Int) ≤ ((z : Nat) : Int)) = true := decide_eq_true (by omega)
    have e7 : ((z : Nat) : Int) - (m : Int) = ((z - m : Nat) : Int) := by omega
    simp (disch := first | assumption | omega | (simp only [szR] <;> omega) | rfl | decide) only [gen0, gen1, gen2, rulesZ, litR, bolR, Nat.reduceAdd, Nat.reduceLeDiff, numR, memR, valR, heapR, updR, intR, decR, extR, slR, segR, thenR, pnR, Int.reduceToNat, Int.reduceAdd, Int.reduceSub, Int.reduceLT, Int.reduceLE, Nat.reduceSub, Nat.reduceMul, Nat.reduceEqDiff, joinBR, d, e7]
    exact hgo (z - m) (by omega)
  · have d : decide (((m : Nat) : Int) ≤ ((z : Nat) : Int)) = false := decide_eq_false (by omega)
    simp (disch := first | assumption | omega | (simp only [szR] <;> omega) | rfl | decide) only [gen0, gen1, gen2, rulesZ, litR, bolR, Nat.reduceAdd, Nat.reduceLeDiff, numR, memR, valR, heapR, updR, intR, decR, extR, slR, segR, thenR, pnR, Int.reduceToNat, Int.reduceAdd, Int.reduceSub, Int.reduceLT, Int.reduceLE, Nat.reduceSub, Nat.reduceMul, Nat.reduceEqDiff, joinBR, d]
    exact hgo z (by omega)
end Go.Proofs.Ytgnibcaflidjmaa
