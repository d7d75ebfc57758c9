/- Part 8 of what the law ExecNumbers stands on: formulas of the functions that it reaches, and what each of them does; conditions: those of each theorem. -/
import Derived.Test.YtplfniijbeinmaaGreatP7
set_option linter.unusedVariables false
set_option linter.unusedSimpArgs false
namespace Go.Proofs.YtplfniijbeinmaaGreat
open Go.Fx
set_option maxRecDepth 100000
theorem callStore {v va x y : Value} {w : World} {K : Value -> World -> Prop} (h : callsK Tryz.prog 161 #[v, va, x, y] w K) : kN Tryz.prog (callMethod (.iface 55 v) "Store" #[va, x, y]) w K := by
 have e : (callMethod (.iface 55 v) "Store" #[va, x, y]).run Tryz.prog w = .ok (.enter 161 #[v, va, x, y]) w := by kernel_rfl
 unfold kN
 rw [e]
 exact h
theorem callLoad {v va x : Value} {w : World} {K : Value -> World -> Prop} (h : callsK Tryz.prog 159 #[v, va, x] w K) : kN Tryz.prog (callMethod (.iface 55 v) "Load" #[va, x]) w K := by
 have e : (callMethod (.iface 55 v) "Load" #[va, x]).run Tryz.prog w = .ok (.enter 159 #[v, va, x]) w := by kernel_rfl
 unfold kN
 rw [e]
 exact h
theorem SetG_spec {w : World} {c : Nat -> Cq} {k n : Nat} (hk : k < 9223372036854775808) {K : Value -> World -> Prop} (hK : ∀ w', Ext [] w w' -> K (.agg (cxC (withX c k ⟨false, 0, n⟩)).toArray) w') : callsK Tryz.prog 100 #[.agg (cxC c).toArray, .int .i64 (k : Nat), .int .u64 (n : Nat)] w K := by
 apply F100_ok
 unfold F100
 have hx0 : Ext [] w ((w.alloc (.cells (cxC c).toArray 42)).alloc (.cells (cxC zeroX).toArray 42)).drew := qX
 have g0 : ((w.alloc (.cells (cxC c).toArray 42)).alloc (.cells (cxC zeroX).toArray 42)).drew.heap[w.heap.size]? = some (.cells (cxC c).toArray 42 (0, 0)) := (alloc_ne (by simp only [szR]; omega)).trans (alloc_at rfl)
 have g1 : ((w.alloc (.cells (cxC c).toArray 42)).alloc (.cells (cxC zeroX).toArray 42)).drew.heap[w.heap.size + 1]? = some (.cells (cxC zeroX).toArray 42 (0, 0)) := alloc_at (by simp only [szR])
 simp (disch := first | exact qD20 | fail) only [qG5, zeroX_cells, cx_sub]
 refine ⟨?_, ?_⟩
 all_goals
  refine Null_spec fun w2 hx2 => ?_
  have h0 := hx2.at g0 (by simp)
  have h1 := hx2.at g1 (by simp)
  have hxa := hx0.trans hx2 (by simp)
  have l0 := lt_of_at h0
  simp (disch := first | exact qD20 | fail) only [qG5, h0, cx_sub]
  refine With_reg (x := ⟨false, 0, n⟩) hk fun w3 hx3 => ?_
  have n1 := hx3.at h1 (by simp)
  have l1 := lt_of_at n1
  have hxb := hxa.trans hx3 (by simp)
  simp (disch := first | exact qD20 | fail) only [qG5, n1, cx_over, cx_put, cx_sub]
  exact hK _ qX
set_option maxHeartbeats 1000000 in
theorem memG_spec {w : World} {q s rb pb n : Nat} {r : Rz} {m g : Nat -> Int} (hr : w.heap[q]? = some (.cells (rzC r).toArray 91 (0, 0))) (ho : r.i.op < 1000) (hs : s = widthN r.i.op) (hs0 : 1 <= s /\ s <= 16) (hrd : r.i.rd < 9223372036854775808) (ha : Okq r.a) (hb : Okq r.b) (hm : r.m = flV rb) (hM : Mem w rb pb n m g) (hn : 0 < n /\ n <= 1000) (hqpb : q ≠ pb) {K : Value -> World -> Prop}
  (hT : ∀ (k e va : Nat) w', k ≠ 0 -> Ext [q, pb] w w' -> K (.tuple #[.agg (cxC r.d).toArray, .agg (ozC k e va r.i).toArray]) w')
  (hS : ∀ d w', (18 <= r.i.op /\ r.i.op <= 21) ∨ r.i.op = 44 -> Same r.c d -> Ext [q, pb] w w' -> K (.tuple #[.agg (cxC d).toArray, .agg (ozC 0 0 0 r.i).toArray]) w')
  (hK : ∀ (x : Cq) c w', ¬ ((18 <= r.i.op /\ r.i.op <= 21) ∨ r.i.op = 44) -> (numOp r.i.op -> x.t = false /\ x.m = 0) -> Same r.c c -> Ext [q, pb] w w' -> K (.tuple #[.agg (cxC (withX c r.i.rd x)).toArray, .agg (ozC 0 0 0 r.i).toArray]) w') : callsK Tryz.prog 73 #[.pointer (some ⟨q, 0, none⟩), .int .i64 (s : Nat)] w K := by
 apply G73_ok
 unfold G73
 have l0 := lt_of_at hr
 have hx0 := two_x w
 have g1 := two_1 w
 have g2 := two_2 w
 have g0 := hx0.at hr (by simp)
 have era := rz_a r
 have eim := rz_im r
 have eop := rz_op r
 simp (disch := first | exact qD20 | fail) only [qG5, zeroX_cells]
 refine joinL.intro fun J0 hJ0 => ?_
 have hxd : Ext [] ((w.alloc (.cells (cxC zeroX).toArray 42)).alloc (.cells [.int .i64 0, .int .i64 0, .int .u64 0, .int .i64 0, .int .i64 0, .int .i64 0, .int .i64 0, .int .i64 0].toArray 51)) ((w.alloc (.cells (cxC zeroX).toArray 42)).alloc (.cells [.int .i64 0, .int .i64 0, .int .u64 0, .int .i64 0, .int .i64 0, .int .i64 0, .int .i64 0, .int .i64 0].toArray 51)).drew := qX
 replace g0 := hxd.at g0 (by simp)
 replace g1 := hxd.at g1 (by simp)
 replace g2 := hxd.at g2 (by simp)
 replace hx0 := hx0.trans hxd (by simp)
 clear hxd
 have hend : ∀ (p : Cq) b6 w2, Okq p -> w2.heap[b6]? = some (.cells (cq p).toArray 24 (0, 0)) -> Ext [] ((w.alloc (.cells (cxC zeroX).toArray 42)).alloc (.cells [.int .i64 0, .int .i64 0, .int .u64 0, .int .i64 0, .int .i64 0, .int .i64 0, .int .i64 0, .int .i64 0].toArray 51)).drew w2 -> ((w.alloc (.cells (cxC zeroX).toArray 42)).alloc (.cells [.int .i64 0, .int .i64 0, .int .u64 0, .int .i64 0, .int .i64 0, .int .i64 0, .int .i64 0, .int .i64 0].toArray 51)).drew.heap.size <= b6 -> J0 [.pointer (some ⟨b6, 0, none⟩)] w2 := by
  intro p b6 w2 hp h6 hx h6n
  replace g0 := hx.at g0 (by simp)
  replace g1 := hx.at g1 (by simp)
  replace g2 := hx.at g2 (by simp)
  replace hx0 := hx0.trans hx (by simp)
  apply hJ0
  intro _
  clear hJ0
  have hdr : Ext [] w2 w2.drew := qX
  refine Exists.elim (kindG_still (hdr.at g0 (by simp)) ho) fun k hk => ?_
  have lg0 := lt_of_at g0
  have lg6 := lt_of_at h6
  have hws : IntKind.u64.wrap ((s : Nat) : Int) = (s : Nat) := by
   rw [wrapMod]
   omega
  simp (disch := first | exact qD20 | fail) only [qG5, h6, cq_sub]
  refine hk.2 _ ?_
  simp (disch := first | exact qD20 | fail) only [qG5, hws]
  refine CheckG_spec (k := k) (n := s) hp.1 hp.2 hk.1 (by omega) fun e w3 hx3 => ?_
  have hx4 : Ext [] w2 w3 := Ext.trans (S := []) qX hx3 (by simp)
  replace g0 := hx4.at g0 (by simp)
  replace g1 := hx4.at g1 (by simp)
  replace g2 := hx4.at g2 (by simp)
  replace h6 := hx4.at h6 (by simp)
  replace hx0 := hx0.trans hx4 (by simp)
  replace lg0 := lt_of_at g0
  replace lg6 := lt_of_at h6
  by_cases he : ((e : Nat) : Int) = 0
  ·by_cases hal : ((p.a : Nat) : Int) % ((s : Nat) : Int) = 0
   ·simp (disch := first | exact qD20 | fail) only [qG5, he, h6, cq_2, hws, hal]
    refine joinL.intro fun J6 hJ6 => ?_
    have hend6 : ∀ (c : Nat -> Cq) (e : Nat) w4, w4.heap[q]? = some (.cells (rzC { r with c := c }).toArray 91 (0, 0)) -> Ext [q, pb] w3 w4 -> (∀ w', Ext [q, pb] w w' -> K (.tuple #[.agg (cxC c).toArray, .agg (ozC 0 0 0 r.i).toArray]) w') -> J6 [.int .i64 (e : Nat)] w4 := by
     intro c e w4 h0 hx5 hres
     have hpbw := hM.lt
     have hszw := hx0.size
     have k1 := hx5.at g1 (by simp; omega)
     have k2 := hx5.at g2 (by simp; omega)
     have hszd : w.heap.size + 1 < ((w.alloc (.cells (cxC zeroX).toArray 42)).alloc (.cells [.int .i64 0, .int .i64 0, .int .u64 0, .int .i64 0, .int .i64 0, .int .i64 0, .int .i64 0, .int .i64 0].toArray 51)).drew.heap.size := by simp only [szR]; omega
     have k6 := hx5.at h6 (by simp; omega)
     have hxw : Ext [q, pb] w w4 := (hx0.mono (by simp)).step hx5
     have lk0 := lt_of_at h0
     have lk6 := lt_of_at k6
     apply hJ6
     intro _
     by_cases he2 : ((e : Nat) : Int) = 0
     ·simp (disch := first | exact qD20 | fail) only [qG5, he2]
      refine retireZ_spec h0 fun w9 hxt => ?_
      have n1 := hxt.at k1 (by simp)
      have n2 := hxt.at k2 (by simp)
      have hxc : Ext [q, pb] w w9 := hxw.step (hxt.mono (by simp))
      have ln1 := lt_of_at n1
      have ln2 := lt_of_at n2
      simp (disch := first | exact qD20 | fail) only [qG5, n1, n2, cx_over, cx_put, oz_over, oz_put, cx_sub, oz_sub]
      exact hres _ qX
     ·simp (disch := first | exact qD20 | fail) only [qG5, he2, k6, cq_2]
      refine trapZ_spec (k := 6) (e := e) (va := p.a) h0 fun w9 hxt => ?_
      have n1 := hxt.at k1 (by simp)
      have n2 := hxt.at k2 (by simp)
      have hxc : Ext [q, pb] w w9 := hxw.step (hxt.mono (by simp))
      have ln1 := lt_of_at n1
      have ln2 := lt_of_at n2
      simp (disch := first | exact qD20 | fail) only [qG5, n1, n2, cx_over, cx_put, oz_over, oz_put, cx_sub, oz_sub]
      exact hT _ _ _ _ (by decide) qX
    have erm := rz_m r
    rw [hm] at erm
    by_cases h43 : ((r.i.op : Nat) : Int) = 43
    ·simp (disch := first | exact qD20 | fail) only [qG5, g0, eop, h43]
     refine joinL.intro fun J12 hJ12 => ?_
     have ho43 : r.i.op = 43 := by omega
     have hs16 : s = 16 := by rw [hs, ho43]; rfl
     have hal2 : p.a % 16 = 0 := by
      rw [hs16] at hal
      omega
     have erc := rz_c r
     have errd := rz_rd r
     have hdr3 : Ext [] w3 w3.drew := qX
     have hend12 : ∀ (y : Cq) (e b9 : Nat) w4, w4.heap[b9]? = some (.cells (cq y).toArray 24 (0, 0)) -> w3.drew.heap.size <= b9 -> Ext [] w3.drew w4 -> J12 [.pointer (some ⟨b9, 0, none⟩), .int .i64 (e : Nat)] w4 := by
      intro y e b9 w4 h9 h9n hx5
      have k0 := (hdr3.trans hx5 (by simp)).at g0 (by simp)
      have lk0 := lt_of_at k0
      have lk9 := lt_of_at h9
      have hq9 : q < w3.drew.heap.size := lt_of_at (hdr3.at g0 (by simp))
      apply hJ12
      intro _
      refine joinL.intro fun J14 hJ14 => ?_
      have hend14 : ∀ (z : Cq) w5, w5.heap[b9]? = some (.cells (cq z).toArray 24 (0, 0)) -> Ext [] w3.drew w5 -> J14 [] w5 := by
       intro z w5 h95 hx6
       have m0 := (hdr3.trans hx6 (by simp)).at g0 (by simp)
       have lm0 := lt_of_at m0
       have lm9 := lt_of_at h95
       have hxd5 : Ext [] w5 w5.drew := qX
       apply hJ14
       intro _
       simp (disch := first | exact qD20 | fail) only [qG5, Nat.reduceAdd, m0, h95, erc, errd, cq_sub, and_self]
       refine With_reg (x := z) hrd fun w6 hx13 => ?_
       have n0 := hx13.at (hxd5.at m0 (by simp)) (by simp)
       have ln0 := lt_of_at n0
       simp (disch := first | exact qD20 | fail) only [qG5, n0, rz_setc, rz_putc]
       have hxu : Ext [q, pb] w6 (World.upd w6 q (rzC { r with c := withX r.c r.i.rd z })) := qX
       have hxs : Ext [q, pb] w3 w6 := ((((hdr3.trans hx6 (by simp)).trans hxd5 (by simp)).trans hx13 (by simp))).mono (by simp)
       refine hend6 (withX r.c r.i.rd z) e _ (upd_at n0) (hxs.step hxu) fun w' hxx => ?_
       exact hK _ _ _ (by omega) (fun hn => by unfold numOp at hn; omega) (fun _ _ => rfl) hxx
      simp (disch := first | exact qD20 | fail) only [qG5, k0, era, cq_sub]
      refine lookq_spec ha fun w5 hx6 => ?_
      have k5 := hx6.at h9 (by simp)
      have lk5 := lt_of_at k5
      simp (disch := first | exact qD20 | fail) only [qG5, vw_over, vw_over2, vq_2]
      refine pw_spec (p := 8) (q := r.a.m / 4294967296 % 512) (by decide) (by omega) ?_
      have hx7 : Ext [] w5 (w5.alloc (.cells (vwC r.a.m r.a.a).toArray 28)) := qX
      have k7 := hx7.at k5 (by simp)
      have hx8 := (hx5.trans hx6 (by simp)).trans hx7 (by simp)
      cases pwN 8 (r.a.m / 4294967296 % 512) with
      | true =>
       simp (disch := first | exact qD20 | fail) only [qG5, Bool.not_true]
       exact hend14 y _ k7 hx8
      | false =>
       simp (disch := first | exact qD20 | fail) only [qG5, Bool.not_false, k5, cq_sub]
       refine clearq_spec (c := y) fun w8 hx9 => ?_
       have k8 := hx9.at k7 (by simp)
       have lk8 := lt_of_at k8
       simp (disch := first | exact qD20 | fail) only [qG5, k8, cq_over, cq_put3]
       have hx10 := hx8.trans hx9 (by simp)
       exact hend14 ⟨false, y.m, y.a⟩ _ (upd_at k8) (Ext.updN h9n hx10)
     have hld : ∀ w4 (K : Value -> World -> Prop), Ext [] w3 w4 -> (∀ (y : Cq) (e : Nat) w5, Ext [] w4 w5 -> K (.tuple #[.agg (cq y).toArray, .int .i64 (e : Nat)]) w5) -> kN Tryz.prog (callMethod (flV rb) "LoadCap" #[.int .u64 (p.a : Nat)]) w4 K := by
      intro w4 K hx5 hK2
      refine callLoadCap ?_
      have hM4 := hM.ext (hx0.trans hx5 (by simp)) (by simp) (by simp)
      by_cases hpa : p.a < n * 4096
      ·exact FLoadCap_spec hM4 hn hpa hal2 fun w5 hx6 => hK2 _ 0 w5 hx6
      ·exact FLoadCapN_spec hM4 hn hpa hp.2 fun e w5 hx6 => hK2 _ e w5 hx6
     have hsz3 : w3.drew.heap.size = w3.heap.size := rfl
     have hA : kN Tryz.prog (callMethod (flV rb) "LoadCap" #[.int .u64 (p.a : Nat)]) w3.drew fun v99 w => pV Tryz.prog (Instr.extract v99 0) fun v100 => pV Tryz.prog (Instr.extract v99 1) fun v101 => kV Tryz.prog (Instr.alloc 24 true (.tuple #[])) w fun v9 w => kU Tryz.prog (Instr.storeAt 24 v9 v100) w fun x w => J12 [v9, v101] w := by
      refine hld _ _ hdr3 fun y e w5 hx6 => ?_
      simp (disch := first | exact qD20 | fail) only [qG5, cq_over0, cq_put]
      exact hend12 y e _ _ (alloc_at rfl) hx6.size (hx6.step (Ext.alloc Ext.refl _ _))
     have hxz3 : Ext [] w3.drew (w3.drew.alloc (.cells [.bool false, .int .u64 0, .int .u64 0].toArray 24)) := Ext.alloc Ext.refl _ _
     have hz3 : (w3.drew.alloc (.cells [.bool false, .int .u64 0, .int .u64 0].toArray 24)).heap[w3.heap.size]? = some (.cells [.bool false, .int .u64 0, .int .u64 0].toArray 24 (0, 0)) := alloc_at rfl
     have hB : kN Tryz.prog (callMethod (flV rb) "LoadCap" #[.int .u64 (p.a : Nat)]) (w3.drew.alloc (.cells [.bool false, .int .u64 0, .int .u64 0].toArray 24)) fun v99 w => pV Tryz.prog (Instr.extract v99 0) fun v100 => pV Tryz.prog (Instr.extract v99 1) fun v101 => kU Tryz.prog (Instr.storeAt 24 (.pointer (some ⟨w3.heap.size, 0, none⟩)) v100) w fun x w => J12 [.pointer (some ⟨w3.heap.size, 0, none⟩), v101] w := by
      refine hld _ _ (hdr3.trans hxz3 (by simp)) fun y e w5 hx6 => ?_
      have h9 := hx6.at hz3 (by simp)
      have l9 := lt_of_at h9
      simp (disch := first | exact qD20 | fail) only [qG5, h9, cq_over0, cq_put]
      exact hend12 y e _ _ (upd_at h9) (Nat.le_refl _) (Ext.updN (Nat.le_refl _) (hxz3.step hx6))
     simp (disch := first | exact qD20 | fail) only [qG5, g0, h6, erm, cq_2, sN_fl, and_self]
     repeat' apply And.intro
     all_goals with_reducible first | exact hA | exact hB
    ·by_cases h44 : ((r.i.op : Nat) : Int) = 44
     ·have erb := rz_b r
      simp (disch := first | exact qD20 | fail) only [qG5, g0, eop, h43, h44, erm, erb, h6, cq_2, cq_sub, and_self]
      rw [sN_fl]
      refine callStoreCap ?_
      have ho44 : r.i.op = 44 := by omega
      have hs16 : s = 16 := by rw [hs, ho44]; rfl
      have hal2 : p.a % 16 = 0 := by
       rw [hs16] at hal
       omega
      have hx7 : Ext [] w3 w3.drew := qX
      have hx8 := hx0.trans hx7 (by simp)
      have hM3 := hM.ext hx8 (by simp) (by simp)
      have k0 := hx7.at g0 (by simp)
      have hqp : q ≠ pb := hqpb
      by_cases hpa : p.a < n * 4096
      ·refine FStoreCap_spec hM3 hn hpa hal2 hb.1 hb.2 fun g' w4 _ _ hx9 => ?_
       refine hend6 r.c 0 w4 (hx9.at k0 (by simp; omega)) ((hx7.mono (by simp)).step (hx9.mono (by simp))) fun w' hxx => ?_
       exact hS r.c w' (.inr ho44) (fun _ _ => rfl) hxx
      ·refine FStoreCapN_spec hM3 hn hpa hp.2 fun e w4 hx9 => ?_
       refine hend6 r.c e w4 (hx9.at k0 (by simp)) ((hx7.mono (by simp)).step (hx9.mono (by simp))) fun w' hxx => ?_
       exact hS r.c w' (.inr ho44) (fun _ _ => rfl) hxx
     ·simp (disch := first | exact qD20 | fail) only [qG5, g0, eop, h43, h44, h6, cq_2]
      refine joinL.intro fun J16 hJ16 => ?_
      have eba := rz_ba r
      have hx7 : Ext [] w3 w3.drew := qX
      have hx8 := hx0.trans hx7 (by simp)
      have hM3 := hM.ext hx8 (by simp) (by simp)
      have k0 := hx7.at g0 (by simp)
      have hsz : Size s := by
       have h1 : s = 1 ∨ s = 2 ∨ s = 4 ∨ s = 8 := by
        unfold widthN at hs
        split at hs <;> first | omega | (split at hs <;> first | omega | (split at hs <;> first | omega | (split at hs <;> first | omega | (split at hs <;> omega))))
       exact h1
      have hal2 : p.a % s = 0 := by
       have : ((p.a % s : Nat) : Int) = 0 := by rw [Int.natCast_emod]; exact hal
       omega
      have hbt : 18 <= r.i.op /\ r.i.op <= 21 -> J16 [.bool true] w3 := by
       intro hst
       apply hJ16
       intro _
       simp (disch := first | exact qD20 | fail) only [qG5, Nat.reduceAdd, g0, h6, erm, eba, cq_2, and_self]
       rw [sN_fl]
       refine callStore ?_
       refine FStore_spec hM3 hn hp.2 hsz hal2 hb.2 fun e w4 hx9 => ?_
       refine hend6 r.c e w4 (hx9.at k0 (by simp; omega)) ((hx7.mono (by simp)).step (hx9.mono (by simp))) fun w' hxx => ?_
       exact hS r.c w' (.inl hst) (fun _ _ => rfl) hxx
      have hbf : ¬ (18 <= r.i.op /\ r.i.op <= 21) -> J16 [.bool false] w3 := by
       intro hst
       apply hJ16
       intro _
       simp (disch := first | exact qD20 | fail) only [qG5, g0, h6, erm, cq_2, and_self]
       refine joinL.intro fun J18 hJ18 => ?_
       simp (disch := first | exact qD20 | fail) only [qG5, g0, h6, erm, cq_2, and_self]
       try rw [sN_fl]
       refine callLoad ?_
       refine FLoad_spec hM3 hn hp.2 hsz hal2 fun v e w4 hv hx9 => ?_
       replace k0 := hx9.at k0 (by simp)
       have lk0 := lt_of_at k0
       simp (disch := first | exact qD20 | fail) only [qG5]
       apply hJ18
       intro _
       have erc := rz_c r
       have errd := rz_rd r
       have hx10 : Ext [] w4 w4.drew := qX
       have hx11 : Ext [q, pb] w3 w4.drew := (((hx7.trans hx9 (by simp)).trans hx10 (by simp))).mono (by simp)
       have k0w := k0
       replace k0 := hx10.at k0 (by simp)
       have lk0d := lt_of_at k0
       simp (disch := first | exact qD20 | fail) only [qG5, Nat.reduceAdd, k0w, k0, eop, erc, errd, and_self]
       repeat' apply And.intro
       all_goals
        refine ExtendG_spec ho hv fun x w5 hx hx12 => ?_
        have k5 := hx12.at k0 (by simp)
        have lk5 := lt_of_at k5
        try simp (disch := first | exact qD20 | fail) only [qG5, k5, erc, errd, and_self]
        refine SetG_spec (n := x) hrd fun w6 hx13 => ?_
        have k6 := hx13.at k5 (by simp)
        have lk6 := lt_of_at k6
        simp (disch := first | exact qD20 | fail) only [qG5, k6, rz_setc, rz_putc]
        have hxu : Ext [q, pb] w6 (World.upd w6 q (rzC { r with c := withX r.c r.i.rd ⟨false, 0, x⟩ })) := qX
        refine hend6 (withX r.c r.i.rd ⟨false, 0, x⟩) e _ (upd_at k6) ((hx11.step ((hx12.trans hx13 (by simp)).mono (by simp))).step hxu) fun w' hxx => ?_
        exact hK _ _ _ (by omega) (fun _ => ⟨rfl, rfl⟩) (fun _ _ => rfl) hxx
      by_cases h18 : ((r.i.op : Nat) : Int) = 18
      ·simp (disch := first | exact qD20 | fail) only [qG5, h18]
       exact hbt (by omega)
      by_cases h19 : ((r.i.op : Nat) : Int) = 19
      ·simp (disch := first | exact qD20 | fail) only [qG5, h18, h19]
       exact hbt (by omega)
      by_cases h20 : ((r.i.op : Nat) : Int) = 20
      ·simp (disch := first | exact qD20 | fail) only [qG5, h18, h19, h20]
       exact hbt (by omega)
      by_cases h21 : ((r.i.op : Nat) : Int) = 21
      ·simp (disch := first | exact qD20 | fail) only [qG5, h18, h19, h20, h21]
       exact hbt (by omega)
      simp (disch := first | exact qD20 | fail) only [qG5, h18, h19, h20, h21]
      exact hbf (by omega)
   ·simp (disch := first | exact qD20 | fail) only [qG5, he, h6, cq_2, hws, hal]
    refine trapZ_spec (k := 4) (e := 0) (va := p.a) g0 fun w9 hxt => ?_
    have n1 := hxt.at g1 (by simp)
    have n2 := hxt.at g2 (by simp)
    have hxc : Ext [q, pb] w w9 := (hx0.trans hxt (by simp)).mono (by simp)
    have ln1 := lt_of_at n1
    have ln2 := lt_of_at n2
    simp (disch := first | exact qD20 | fail) only [qG5, n1, n2, cx_over, cx_put, oz_over, oz_put, cx_sub, oz_sub]
    exact hT _ _ _ _ (by decide) qX
  ·simp (disch := first | exact qD20 | fail) only [qG5, he, h6, cq_2]
   refine trapZ_spec (k := 5) (e := e) (va := p.a) g0 fun w9 hxt => ?_
   have n1 := hxt.at g1 (by simp)
   have n2 := hxt.at g2 (by simp)
   have hxc : Ext [q, pb] w w9 := (hx0.trans hxt (by simp)).mono (by simp)
   have ln1 := lt_of_at n1
   have ln2 := lt_of_at n2
   simp (disch := first | exact qD20 | fail) only [qG5, n1, n2, cx_over, cx_put, oz_over, oz_put, cx_sub, oz_sub]
   exact hT _ _ _ _ (by decide) qX
 simp (disch := first | exact qD20 | fail) only [qG5, Nat.reduceAdd, hr, era, eim, cq_sub, and_self]
 have hxz : Ext [] ((w.alloc (.cells (cxC zeroX).toArray 42)).alloc (.cells [.int .i64 0, .int .i64 0, .int .u64 0, .int .i64 0, .int .i64 0, .int .i64 0, .int .i64 0, .int .i64 0].toArray 51)).drew (((w.alloc (.cells (cxC zeroX).toArray 42)).alloc (.cells [.int .i64 0, .int .i64 0, .int .u64 0, .int .i64 0, .int .i64 0, .int .i64 0, .int .i64 0, .int .i64 0].toArray 51)).drew.alloc (.cells [.bool false, .int .u64 0, .int .u64 0].toArray 24)) := qX
 have hA : callsK Tryz.prog 16 #[.agg (cq r.a).toArray, .int .u64 (IntKind.u64.wrap r.i.im)] ((w.alloc (.cells (cxC zeroX).toArray 42)).alloc (.cells [.int .i64 0, .int .i64 0, .int .u64 0, .int .i64 0, .int .i64 0, .int .i64 0, .int .i64 0, .int .i64 0].toArray 51)).drew fun v w => kV Tryz.prog (Instr.alloc 24 true (.tuple #[])) w fun v6 w => kU Tryz.prog (Instr.storeAt 24 v6 v) w fun x w => J0 [v6] w := by
  refine MoveG_spec ha fun p w2 hp hx => ?_
  simp (disch := first | exact qD20 | fail) only [qG5, cq_over0, cq_put]
  exact hend p _ _ hp (alloc_at rfl) (hx.step (Ext.alloc Ext.refl _ _)) hx.size
 have hz6 : (((w.alloc (.cells (cxC zeroX).toArray 42)).alloc (.cells [.int .i64 0, .int .i64 0, .int .u64 0, .int .i64 0, .int .i64 0, .int .i64 0, .int .i64 0, .int .i64 0].toArray 51)).drew.alloc (.cells [.bool false, .int .u64 0, .int .u64 0].toArray 24)).heap[w.heap.size + 1 + 1]? = some (.cells [.bool false, .int .u64 0, .int .u64 0].toArray 24 (0, 0)) := alloc_at (by simp only [szR])
 have hB : callsK Tryz.prog 16 #[.agg (cq r.a).toArray, .int .u64 (IntKind.u64.wrap r.i.im)] (((w.alloc (.cells (cxC zeroX).toArray 42)).alloc (.cells [.int .i64 0, .int .i64 0, .int .u64 0, .int .i64 0, .int .i64 0, .int .i64 0, .int .i64 0, .int .i64 0].toArray 51)).drew.alloc (.cells [.bool false, .int .u64 0, .int .u64 0].toArray 24)) fun v w1 => kU Tryz.prog (Instr.storeAt 24 (.pointer (some ⟨w.heap.size + 1 + 1, 0, none⟩)) v) w1 fun x w2 => J0 [.pointer (some ⟨w.heap.size + 1 + 1, 0, none⟩)] w2 := by
  refine MoveG_spec ha fun p w2 hp hx => ?_
  have h6 := hx.at hz6 (by simp)
  have l6 := lt_of_at h6
  simp (disch := first | exact qD20 | fail) only [qG5, h6, cq_over0, cq_put]
  have hsz : ((w.alloc (.cells (cxC zeroX).toArray 42)).alloc (.cells [.int .i64 0, .int .i64 0, .int .u64 0, .int .i64 0, .int .i64 0, .int .i64 0, .int .i64 0, .int .i64 0].toArray 51)).drew.heap.size <= w.heap.size + 1 + 1 := by simp only [szR]; omega
  have hxx : Ext [] ((w.alloc (.cells (cxC zeroX).toArray 42)).alloc (.cells [.int .i64 0, .int .i64 0, .int .u64 0, .int .i64 0, .int .i64 0, .int .i64 0, .int .i64 0, .int .i64 0].toArray 51)).drew (World.upd w2 (w.heap.size + 1 + 1) (cq p)) := Ext.updN hsz (hxz.step hx)
  exact hend p _ _ hp (upd_at h6) hxx hsz
 repeat' apply And.intro
 all_goals with_reducible first | exact hA | exact hB
open Go.Fx
set_option maxRecDepth 100000
theorem FetchG_spec {w : World} {rb pb n a : Nat} {m g : Nat -> Int} (hM : Mem w rb pb n m g) (hn : 0 < n /\ n <= 1000) (ha64 : a < 18446744073709551616) (hal : a % 4 = 0) {K : Value -> World -> Prop} (hK : ∀ (W e : Nat) w', W < 4294967296 -> Ext [] w w' -> K (.tuple #[.int .u32 (W : Nat), .int .i64 (e : Nat)]) w') :
  callsK Tryz.prog 158 #[.agg [.pointer (some ⟨rb, 0, none⟩)].toArray, .int .u64 (a : Nat)] w K := by
 apply F158_ok
 unfold F158
 simp (disch := first | exact qD20 | fail) only [qG5]
 have hx0 : Ext [] w (w.alloc (.cells [.pointer (some ⟨rb, 0, none⟩)].toArray 55)) := qX
 have hM1 := hM.ext hx0 (by simp) (by simp)
 by_cases ha : a < n * 4096
 ·refine Load_spec hM1 hn ha (.inr (.inr (.inl rfl))) hal fun w1 hx1 => ?_
  have hlt : leN m a 4 < 4294967296 := leN_lt hM.byte a 4
  generalize leN m a 4 = W at *
  have hw : IntKind.u32.wrap ((W : Nat) : Int) = (W : Nat) := wrap_u32 (by omega)
  simp (disch := first | exact qD20 | fail) only [qG5, hw]
  refine wrong_spec ?_
  exact hK W 0 _ hlt (hx0.trans hx1 (by simp))
 ·refine LoadN_spec hM1 hn ha ha64 (.inr (.inr (.inl rfl))) fun w1 hx1 => ?_
  simp (disch := first | exact qD20 | fail) only [qG5]
  refine wrongN_spec fun e => ?_
  exact hK 0 e _ (by decide) (hx0.trans hx1 (by simp))
/-- what changes no register: a branch, a store. -/
def bsOp (k : Nat) : Prop := (5 <= k /\ k <= 10) ∨ (18 <= k /\ k <= 21) ∨ k = 44
theorem width_mem {k : Nat} (h : widthN k ≠ 0) : k < 1000 /\ ¬ (5 <= k /\ k <= 10) /\ 1 <= widthN k /\ widthN k <= 16 := by
 unfold widthN at h ⊢
 split
 ·omega
 split
 ·omega
 split
 ·omega
 split
 ·omega
 split
 ·omega
 ·exfalso
  rw [if_neg (by assumption), if_neg (by assumption), if_neg (by assumption), if_neg (by assumption), if_neg (by assumption)] at h
  exact h rfl
theorem width_none {k : Nat} (h : widthN k = 0) : ¬ ((18 <= k /\ k <= 21) ∨ k = 44) := by
 unfold widthN at h
 split at h
 ·omega
 split at h
 ·omega
 split at h
 ·omega
 split at h
 ·omega
 split at h
 ·omega
 ·omega
theorem runA_spec {w : World} {q rb pb n : Nat} {r : Rz} {m g : Nat -> Int} (hr : w.heap[q]? = some (.cells (rzC r).toArray 91 (0, 0))) (ho : r.i.op < 1000) (hrd : r.i.rd < 9223372036854775808) (ha : Okq r.a) (hb : Okq r.b) (hd : Okq (r.d 32)) (hm : r.m = flV rb) (hM : Mem w rb pb n m g) (hn : 0 < n /\ n <= 1000) (hqpb : q ≠ pb) {K : Value -> World -> Prop}
  (hT : ∀ (k e va : Nat) w', k ≠ 0 -> Ext [q, pb] w w' -> K (.tuple #[.agg (cxC r.d).toArray, .agg (ozC k e va r.i).toArray]) w')
  (hS : ∀ d w', bsOp r.i.op -> Same r.c d -> Ext [q, pb] w w' -> K (.tuple #[.agg (cxC d).toArray, .agg (ozC 0 0 0 r.i).toArray]) w')
  (hK : ∀ (x : Cq) c w', ¬ bsOp r.i.op -> (numOp r.i.op -> x.t = false /\ x.m = 0) -> Same r.c c -> Ext [q, pb] w w' -> K (.tuple #[.agg (cxC (withX c r.i.rd x)).toArray, .agg (ozC 0 0 0 r.i).toArray]) w') : callsK Tryz.prog 32 #[.pointer (some ⟨q, 0, none⟩)] w K := by
 by_cases hwd : widthN r.i.op = 0
 ·have h1 := width_none hwd
  refine runG_spec hr ho hwd hrd ha hb hd (fun k e va w' h hx => hT k e va w' h (hx.mono (by simp))) (fun d w' h hs hx => hS d w' (.inl h) hs (hx.mono (by simp))) (fun x c w' h hn hs hx => hK x c w' (by unfold bsOp; omega) hn hs (hx.mono (by simp)))
 ·obtain ⟨-, hbr, hw1⟩ := width_mem hwd
  apply G32_ok
  unfold G32
  have l0 := lt_of_at hr
  have hx0 := two_x w
  have g1 := two_1 w
  have g2 := two_2 w
  have g0 := hx0.at hr (by simp)
  have eop := rz_op r
  simp (disch := first | exact qD20 | fail) only [qG5, zeroX_cells]
  simp (disch := first | exact qD20 | fail) only [qG5, hr, eop]
  refine branches_spec ho ?_
  rw [decide_eq_false hbr]
  simp (disch := first | exact qD20 | fail) only [qG5]
  refine widthG_spec ho fun w2 hx1 => ?_
  replace g0 := hx1.at g0 (by simp)
  replace g1 := hx1.at g1 (by simp)
  replace g2 := hx1.at g2 (by simp)
  replace hx0 := hx0.trans hx1 (by simp)
  have lg0 := lt_of_at g0
  generalize hs : widthN r.i.op = s at *
  simp (disch := first | exact qD20 | fail) only [qG5]
  refine widthG_spec ho fun w3 hx3 => ?_
  rw [hs]
  have hx4 : Ext [] w2 w3 := Ext.trans (S := []) qX hx3 (by simp)
  replace g0 := hx4.at g0 (by simp)
  replace g1 := hx4.at g1 (by simp)
  replace g2 := hx4.at g2 (by simp)
  replace hx0 := hx0.trans hx4 (by simp)
  have lM := hM.lt
  have hM3 := hM.ext hx0 (by simp) (by simp)
  simp (disch := first | exact qD20 | fail) only [qG5]
  refine memG_spec g0 ho hs.symm (by omega) hrd ha hb hm hM3 hn hqpb (fun k e va w6 hk hx6 => ?_) (fun d w6 hst hsm hx6 => ?_) (fun x c w6 hst hnum hsm hx6 => ?_)
  ·have n1 := hx6.at g1 (by simp; omega)
   have n2 := hx6.at g2 (by simp; omega)
   have hxc : Ext [q, pb] w w6 := (hx0.mono (by simp)).step hx6
   have ln1 := lt_of_at n1
   have ln2 := lt_of_at n2
   simp (disch := first | exact qD20 | fail) only [qG5, n1, n2, cx_over, cx_put, oz_over, oz_put, cx_sub, oz_sub]
   exact hT _ _ _ _ hk qX
  ·have n1 := hx6.at g1 (by simp; omega)
   have n2 := hx6.at g2 (by simp; omega)
   have hxc : Ext [q, pb] w w6 := (hx0.mono (by simp)).step hx6
   have ln1 := lt_of_at n1
   have ln2 := lt_of_at n2
   simp (disch := first | exact qD20 | fail) only [qG5, n1, n2, cx_over, cx_put, oz_over, oz_put, cx_sub, oz_sub]
   exact hS _ _ (by unfold bsOp; omega) hsm qX
  ·have n1 := hx6.at g1 (by simp; omega)
   have n2 := hx6.at g2 (by simp; omega)
   have hxc : Ext [q, pb] w w6 := (hx0.mono (by simp)).step hx6
   have ln1 := lt_of_at n1
   have ln2 := lt_of_at n2
   simp (disch := first | exact qD20 | fail) only [qG5, n1, n2, cx_over, cx_put, oz_over, oz_put, cx_sub, oz_sub]
   exact hK _ _ _ (by unfold bsOp; omega) hnum hsm qX
open Go.Fx
set_option maxRecDepth 100000
theorem PutG_spec {w : World} {x v : Nat} {a k : Int} (ha : 0 <= a) (hk : 0 < k /\ k < 64) (hak : a + k <= 64) {K : Value -> World -> Prop}
  (hK : ∀ (y : Nat) w', y < 18446744073709551616 -> Ext [] w w' -> K (.int .u64 (y : Nat)) w') : callsK Tryz.prog 41 #[.int .u64 (x : Nat), .int .i64 a, .int .i64 k, .int .u64 (v : Nat)] w K := by
 have hz : ∀ (z : Int) w', U6 z -> Ext [] w w' -> K (.int .u64 z) w' := fun z w' h hx => by
  obtain ⟨n, hn, hl⟩ := natOf h
  rw [hn]
  exact hK n w' hl hx
 apply F41_ok
 unfold F41
 simp (disch := first | exact qD9 | fail) only [qG5]
 refine fmay_spec (by omega) ?_
 simp (disch := first | exact qD9 | fail) only [qG5]
 refine fMask_spec hk ?_
 simp (disch := first | exact qD9 | fail) only [qG5]
 exact hz _ _ (bitU _ _ _ (by simp)) qX
theorem readG_spec {w : World} {v : Value} {ps : List (Nat × Nat × Nat)} {bits z W : Nat} {sg : Bool} (hv : RowsAt w v 3 (ps.map pcC)) (hp : ∀ p ∈ ps, pcOk p) (hW : W < 18446744073709551616) (hbits : bits < 1000) {K : Value -> World -> Prop} (hK : ∀ (n : Int) w', Ext [] w w' -> K (.int .i64 n) w') :
  callsK Tryz.prog 69 #[.agg (loC v bits sg z).toArray, .int .u64 (W : Nat)] w K := by
 apply F69_ok
 unfold F69
 have hcap : ps.length <= maxLen := by
  obtain ⟨_, _, _, ⟨hc1, hc2⟩, _⟩ := id hv
  rw [List.length_map] at hc1
  omega
 simp only [maxLen] at hcap
 have hlen : (ps.map pcC).length = ps.length := by simp
 obtain ⟨a, cap, rfl⟩ := hv.len
 have hx0 : Ext [] w (w.alloc (.cells (loC (.slice a (ps.map pcC).length cap) bits sg z).toArray 106)) := qX
 have c0 : (loC (.slice a (ps.map pcC).length cap) bits sg z)[0]? = some (.slice a (ps.map pcC).length cap) := rfl
 have c1 : (loC (.slice a (ps.map pcC).length cap) bits sg z)[1]? = some (.int .i64 (bits : Nat)) := rfl
 have c2 : (loC (.slice a (ps.map pcC).length cap) bits sg z)[2]? = some (.bool sg) := rfl
 have g0 : (w.alloc (.cells (loC (.slice a (ps.map pcC).length cap) bits sg z).toArray 106)).heap[w.heap.size]? = some (.cells (loC (.slice a (ps.map pcC).length cap) bits sg z).toArray 106 (0, 0)) := by simp (disch := first | exact qD9 | fail) only [qG5]
 simp (disch := first | exact qD9 | fail) only [qG5, c0]
 refine loopT.intro (fun st w' => ∃ (k x : Nat), k <= ps.length /\ x < 18446744073709551616 /\ st = [.int .u64 (x : Nat), .int .i64 (k : Nat)] /\ w'.heap[w.heap.size]? = some (.cells (loC (.slice a (ps.map pcC).length cap) bits sg z).toArray 106 (0, 0)) /\ Ext [] w w')
  (fun st _ => match st with
   | [.int _ _, .int _ z] => ps.length - z.toNat
   | _ => 0) ⟨0, 0, Nat.zero_le _, by decide, rfl, g0, hx0⟩ ?_
 rintro st w' ⟨k, x, hk, hx64, rfl, h1, hx'⟩ _
 have l1 := lt_of_at h1
 by_cases h4 : k < ps.length
 ·obtain ⟨p, hpk⟩ : ∃ p, ps[k]? = some p := ⟨_, List.getElem?_eq_getElem h4⟩
  have hrow : (ps.map pcC)[k]? = some (pcC p) := by rw [List.getElem?_map, hpk]; rfl
  obtain ⟨b0, o0, lb, E0, f0, hix, hb0, hfit, hblt, hbk, hsub, hget⟩ := RowsAt.ixR Tryz.underlying104 Tryz.sizeOf169 hv hrow
  have hb3 := hx'.at hb0 (by simp)
  have hs := hsub o0 rfl
  obtain ⟨q1, q2, q3, q4⟩ := hp p (List.mem_of_getElem? hpk)
  simp (disch := first | exact qD9 | fail) only [qG5, hlen]
  refine joinL.intro fun J2 hJ2 => ?_
  simp (disch := first | exact qD9 | fail) only [qG5, hix, hb3, hs, pcC_over, pcC_over2]
  have hx2 : Ext [] w' (w'.alloc (.cells (pcC p).toArray 169)).drew := qX
  have g7 : (w'.alloc (.cells (pcC p).toArray 169)).drew.heap[w'.heap.size]? = some (.cells (pcC p).toArray 169 (0, 0)) := (by first | with_reducible rfl | assumption | (simp (disch := first | exact qD9 | fail) only [qG5] <;> rfl))
  obtain ⟨b7, hb7⟩ : ∃ b7, b7 = w'.heap.size := ⟨_, rfl⟩
  rw [<- hb7] at g7 ⊢
  generalize (w'.alloc (.cells (pcC p).toArray 169)).drew = w2 at *
  have r0 : (pcC p)[0]? = some (.int .i64 (p.1 : Nat)) := rfl
  have r1 : (pcC p)[1]? = some (.int .i64 (p.2.1 : Nat)) := rfl
  have r2 : (pcC p)[2]? = some (.int .i64 (p.2.2 : Nat)) := rfl
  refine relX.ext [] ?_
  refine postX.is (.int .u64 (x : Nat)) (fun v w3 hR _ => okX.is) ?_
  refine postX.is (.pointer (some ⟨b7, 0, none⟩)) (fun v w3 hR _ => by simp (disch := first | exact qD9 | fail) only [qG5]; exact okX.is) ?_
  refine postX.is (.int .i64 (p.1 : Nat)) (fun v w3 hR hd => by
   obtain ⟨d1, -⟩ := hd
   have e := hR.at g7 (by simp)
   simp (disch := first | exact qD9 | fail) only [qG5, d1, e, r0]
   exact okX.is) ?_
  refine postX.is (.pointer (some ⟨b7, 1, none⟩)) (fun v w3 hR _ => by simp (disch := first | exact qD9 | fail) only [qG5]; exact okX.is) ?_
  refine postX.is (.int .i64 (p.2.1 : Nat)) (fun v w3 hR hd => by
   obtain ⟨d1, -⟩ := hd
   have e := hR.at g7 (by simp)
   simp (disch := first | exact qD9 | fail) only [qG5, d1, e, r1]
   exact okX.is) ?_
  refine postX.is (.int .u64 (W : Nat)) (fun v w3 hR _ => okX.is) ?_
  refine postX.is (.pointer (some ⟨b7, 2, none⟩)) (fun v w3 hR _ => by simp (disch := first | exact qD9 | fail) only [qG5]; exact okX.is) ?_
  refine postX.is (.int .i64 (p.2.2 : Nat)) (fun v w3 hR hd => by
   obtain ⟨d1, -⟩ := hd
   have e := hR.at g7 (by simp)
   simp (disch := first | exact qD9 | fail) only [qG5, d1, e, r2]
   exact okX.is) ?_
  refine postX.is (.pointer (some ⟨b7, 1, none⟩)) (fun v w3 hR _ => by simp (disch := first | exact qD9 | fail) only [qG5]; exact okX.is) ?_
  refine postX.is (.int .i64 (p.2.1 : Nat)) (fun v w3 hR hd => by
   obtain ⟨d1, -⟩ := hd
   have e := hR.at g7 (by simp)
   simp (disch := first | exact qD9 | fail) only [qG5, d1, e, r1]
   exact okX.is) ?_
  obtain ⟨y, hy⟩ : ∃ y, y = W / 2 ^ p.2.2 % 2 ^ p.2.1 := ⟨_, rfl⟩
  refine postX.is (.int .u64 (y : Nat)) (fun v w3 hR hd => by
   obtain ⟨d1, d2, d3, -⟩ := hd
   simp (disch := first | exact qD9 | fail) only [qG5, d1, d2, d3]
   refine fGet_spec (by omega) (by omega) (by omega) hW fun w4 hx => okX.mk hx ?_
   rw [Int.toNat_natCast, Int.toNat_natCast, <- hy]) ?_
  intro v w3 hR hd _
  obtain ⟨d15, -, d17, -, d19, -, -, -, -, -, d25, -⟩ := hd
  rw [d15, d17, d19, d25]
  simp (disch := first | exact qD9 | fail) only [qG5]
  refine PutG_spec (by omega) (by omega) (by omega) fun y2 w4 hy2 hx4 => ?_
  have hx5 := (hx2.trans hR (by simp)).trans hx4 (by simp)
  apply hJ2
  intro _
  simp (disch := first | exact qD9 | fail) only [qG5]
  exact ⟨⟨k + 1, y2, by omega, hy2, rfl, hx5.at h1 (by simp), hx'.trans hx5 (by simp)⟩, by first | omega | (simp <;> omega)⟩
 ·obtain rfl : k = ps.length := by omega
  simp (disch := first | exact qD9 | fail) only [qG5, hlen]
  refine joinL.intro fun J5 hJ5 => ?_
  cases sg with
  | false =>
   simp (disch := first | exact qD9 | fail) only [qG5, h1, c2]
   apply hJ5
   intro _
   simp (disch := first | exact qD9 | fail) only [qG5]
   exact hK _ _ hx'
  | true =>
   simp (disch := first | exact qD9 | fail) only [qG5, h1, c1, c2]
   refine SignG_spec fun y _ => ?_
   apply hJ5
   intro _
   simp (disch := first | exact qD9 | fail) only [qG5]
   exact hK _ _ hx'
theorem rowsG4 {w : World} {E : TypeId} {f : Nat × Nat} {g : Nat} {p q r s : Nat × Nat × Nat} (h : w.heap[g]? = some (.cells (pcC p ++ (pcC q ++ (pcC r ++ pcC s))).toArray E f)) : RowsAt w (.slice (some ⟨g, 0, none⟩) 4 4) 3 ([p, q, r, s].map pcC) :=
 ⟨_, 4, rfl, ⟨Nat.le_refl _, by simp [maxLen]⟩, .inr ⟨g, 0, _, E, f, rfl, h, by simp [pcC_len], fun i r hi => by
  match i, hi with
  | 0, hi => simp at hi; subst hi; simp [sub, pcC]
  | 1, hi => simp at hi; subst hi; simp [sub, pcC]
  | 2, hi => simp at hi; subst hi; simp [sub, pcC]
  | 3, hi => simp at hi; subst hi; simp [sub, pcC]⟩⟩
theorem bsG4 (a b c d : List Value) (h1 : a.length = 3) (h2 : b.length = 3) (h3 : c.length = 3) (h4 : d.length = 3) (w : World) : (Instr.buildSlice 104 4 #[(0, .agg a.toArray), (1, .agg b.toArray), (2, .agg c.toArray), (3, .agg d.toArray)]).run Tryz.prog w = .ok (.slice (some ⟨w.heap.size, 0, none⟩) 4 4) (w.alloc (.cells (a ++ (b ++ (c ++ d))).toArray 169)) := by
 have := run_bs Tryz.underlying104 (e := 169) (size := 3) (by kernel_rfl) [.agg a.toArray, .agg b.toArray, .agg c.toArray, .agg d.toArray] (by simp [Value.cells, h1, h2, h3, h4]) (by simp) w
 simpa [Value.cells, partsFrom] using this
/-- the shapes that there are. -/
abbrev shOk (s : Nat) : Prop := s = 85 ∨ s = 74 ∨ s = 73 ∨ s = 67 ∨ s = 72 ∨ s = 83 ∨ s = 66 ∨ s = 82 ∨ s = 71 ∨ s = 78
def LaidOk (v : Value) (w : World) : Prop := ∃ (ps : List (Nat × Nat × Nat)) (a : Option Addr) (n c bits z : Nat) (sg : Bool), v = .agg (loC (.slice a n c) bits sg z).toArray /\ RowsAt w (.slice a n c) 3 (ps.map pcC) /\ (∀ p ∈ ps, pcOk p) /\ bits < 1000
theorem laidG_spec {w : World} {s : Nat} (hs : shOk s) {K : Value -> World -> Prop} (hK : ∀ v w', LaidOk v w' -> Ext [] w w' -> K v w') : callsK Tryz.prog 35 #[.int .u8 (s : Nat)] w K := by
 apply F35_ok
 unfold F35
 rcases hs with rfl | rfl | rfl | rfl | rfl | rfl | rfl | rfl | rfl | rfl
 ·simp (disch := first | exact qD9 | fail) only [qG5]
  refine joinL.intro fun J0 hJ0 => ?_
  simp (disch := first | exact qD9 | fail) only [qG5]
  apply hJ0
  intro _
  refine .inr ⟨rfl, ?_⟩
  simp (disch := first | exact qD9 | fail) only [qG5, Nat.reduceAdd]
  refine hK _ _ ⟨[(12, 20, 12)], _, _, _, 32, 12, true, rfl, rowsP1 (p := (12, 20, 12)) (E := 169) (f := (0, 0)) ?_, (by intro p hp; simp at hp; rcases hp with rfl <;> exact ⟨by decide, by decide, by decide, by decide⟩), by decide⟩ qX
  rw [upd_ne (by omega)]
  first | exact alloc_at (by simp only [szR]) | (simp (disch := first | exact qD9 | fail) only [qG5, Nat.reduceAdd, Nat.reduceLeDiff, Int.reduceToNat, Int.reduceAdd, Int.reduceSub, Int.reduceLT, Int.reduceLE, Nat.reduceSub, Nat.reduceMul, Nat.reduceEqDiff]; rfl)
 ·simp (disch := first | exact qD9 | fail) only [qG5]
  refine joinL.intro fun J0 hJ0 => ?_
  simp (disch := first | exact qD9 | fail) only [qG5]
  apply hJ0
  intro _
  refine .inr ⟨rfl, ?_⟩
  have hbs : ∀ w : World, (Instr.buildSlice 104 4 #[(0, .agg [.int .i64 12, .int .i64 8, .int .i64 12].toArray), (1, .agg [.int .i64 11, .int .i64 1, .int .i64 20].toArray), (2, .agg [.int .i64 1, .int .i64 10, .int .i64 21].toArray), (3, .agg [.int .i64 20, .int .i64 1, .int .i64 31].toArray)]).run Tryz.prog w = .ok (.slice (some ⟨w.heap.size, 0, none⟩) 4 4) (w.alloc (.cells (pcC (12, 8, 12) ++ (pcC (11, 1, 20) ++ (pcC (1, 10, 21) ++ pcC (20, 1, 31)))).toArray 169)) := fun w => bsG4 (pcC (12, 8, 12)) (pcC (11, 1, 20)) (pcC (1, 10, 21)) (pcC (20, 1, 31)) rfl rfl rfl rfl w
  simp (disch := first | exact qD9 | fail) only [qG5, Nat.reduceAdd, hbs]
  refine hK _ _ ⟨[(12, 8, 12), (11, 1, 20), (1, 10, 21), (20, 1, 31)], _, _, _, 21, 1, true, rfl, rowsG4 (p := (12, 8, 12)) (q := (11, 1, 20)) (r := (1, 10, 21)) (s := (20, 1, 31)) (E := 169) (f := (0, 0)) ?_, (by intro p hp; simp at hp; rcases hp with rfl | rfl | rfl | rfl <;> exact ⟨by decide, by decide, by decide, by decide⟩), by decide⟩ qX
  rw [upd_ne (by omega)]
  first | exact alloc_at (by simp only [szR]) | (simp (disch := first | exact qD9 | fail) only [qG5, Nat.reduceAdd, Nat.reduceLeDiff, Int.reduceToNat, Int.reduceAdd, Int.reduceSub, Int.reduceLT, Int.reduceLE, Nat.reduceSub, Nat.reduceMul, Nat.reduceEqDiff]; rfl)
 ·simp (disch := first | exact qD9 | fail) only [qG5]
  refine joinL.intro fun J0 hJ0 => ?_
  simp (disch := first | exact qD9 | fail) only [qG5]
  apply hJ0
  intro _
  refine .inl ⟨rfl, ?_⟩
  simp (disch := first | exact qD9 | fail) only [qG5, Nat.reduceAdd]
  refine hK _ _ ⟨[(0, 12, 20)], _, _, _, 12, 0, true, rfl, rowsP1 (p := (0, 12, 20)) (E := 169) (f := (0, 0)) ?_, (by intro p hp; simp at hp; rcases hp with rfl <;> exact ⟨by decide, by decide, by decide, by decide⟩), by decide⟩ qX
  rw [upd_ne (by omega)]
  first | exact alloc_at (by simp only [szR]) | (simp (disch := first | exact qD9 | fail) only [qG5, Nat.reduceAdd, Nat.reduceLeDiff, Int.reduceToNat, Int.reduceAdd, Int.reduceSub, Int.reduceLT, Int.reduceLE, Nat.reduceSub, Nat.reduceMul, Nat.reduceEqDiff]; rfl)
 ·simp (disch := first | exact qD9 | fail) only [qG5]
  refine joinL.intro fun J0 hJ0 => ?_
  simp (disch := first | exact qD9 | fail) only [qG5]
  apply hJ0
  intro _
  refine .inl ⟨rfl, ?_⟩
  simp (disch := first | exact qD9 | fail) only [qG5, Nat.reduceAdd]
  refine hK _ _ ⟨[(0, 12, 20)], _, _, _, 12, 0, false, rfl, rowsP1 (p := (0, 12, 20)) (E := 169) (f := (0, 0)) ?_, (by intro p hp; simp at hp; rcases hp with rfl <;> exact ⟨by decide, by decide, by decide, by decide⟩), by decide⟩ qX
  rw [upd_ne (by omega)]
  first | exact alloc_at (by simp only [szR]) | (simp (disch := first | exact qD9 | fail) only [qG5, Nat.reduceAdd, Nat.reduceLeDiff, Int.reduceToNat, Int.reduceAdd, Int.reduceSub, Int.reduceLT, Int.reduceLE, Nat.reduceSub, Nat.reduceMul, Nat.reduceEqDiff]; rfl)
 ·simp (disch := first | exact qD9 | fail) only [qG5]
  refine joinL.intro fun J0 hJ0 => ?_
  simp (disch := first | exact qD9 | fail) only [qG5]
  apply hJ0
  intro _
  refine .inr ⟨rfl, ?_⟩
  simp (disch := first | exact qD9 | fail) only [qG5, Nat.reduceAdd]
  refine hK _ _ ⟨[(0, 6, 20)], _, _, _, 6, 0, false, rfl, rowsP1 (p := (0, 6, 20)) (E := 169) (f := (0, 0)) ?_, (by intro p hp; simp at hp; rcases hp with rfl <;> exact ⟨by decide, by decide, by decide, by decide⟩), by decide⟩ qX
  rw [upd_ne (by omega)]
  first | exact alloc_at (by simp only [szR]) | (simp (disch := first | exact qD9 | fail) only [qG5, Nat.reduceAdd, Nat.reduceLeDiff, Int.reduceToNat, Int.reduceAdd, Int.reduceSub, Int.reduceLT, Int.reduceLE, Nat.reduceSub, Nat.reduceMul, Nat.reduceEqDiff]; rfl)
 ·simp (disch := first | exact qD9 | fail) only [qG5]
  refine joinL.intro fun J0 hJ0 => ?_
  simp (disch := first | exact qD9 | fail) only [qG5]
  apply hJ0
  intro _
  refine .inr ⟨rfl, ?_⟩
  have hbs : ∀ w : World, (Instr.buildSlice 104 2 #[(0, .agg [.int .i64 0, .int .i64 5, .int .i64 7].toArray), (1, .agg [.int .i64 5, .int .i64 7, .int .i64 25].toArray)]).run Tryz.prog w = .ok (.slice (some ⟨w.heap.size, 0, none⟩) 2 2) (w.alloc (.cells (pcC (0, 5, 7) ++ pcC (5, 7, 25)).toArray 169)) := fun w => bsP2 (pcC (0, 5, 7)) (pcC (5, 7, 25)) rfl rfl w
  simp (disch := first | exact qD9 | fail) only [qG5, Nat.reduceAdd, hbs]
  refine hK _ _ ⟨[(0, 5, 7), (5, 7, 25)], _, _, _, 12, 0, true, rfl, rowsP2 (p := (0, 5, 7)) (q := (5, 7, 25)) (E := 169) (f := (0, 0)) ?_, (by intro p hp; simp at hp; rcases hp with rfl | rfl <;> exact ⟨by decide, by decide, by decide, by decide⟩), by decide⟩ qX
  rw [upd_ne (by omega)]
  first | exact alloc_at (by simp only [szR]) | (simp (disch := first | exact qD9 | fail) only [qG5, Nat.reduceAdd, Nat.reduceLeDiff, Int.reduceToNat, Int.reduceAdd, Int.reduceSub, Int.reduceLT, Int.reduceLE, Nat.reduceSub, Nat.reduceMul, Nat.reduceEqDiff]; rfl)
 ·simp (disch := first | exact qD9 | fail) only [qG5]
  refine joinL.intro fun J0 hJ0 => ?_
  simp (disch := first | exact qD9 | fail) only [qG5]
  apply hJ0
  intro _
  refine .inr ⟨rfl, ?_⟩
  have hbs : ∀ w : World, (Instr.buildSlice 104 4 #[(0, .agg [.int .i64 1, .int .i64 4, .int .i64 8].toArray), (1, .agg [.int .i64 5, .int .i64 6, .int .i64 25].toArray), (2, .agg [.int .i64 11, .int .i64 1, .int .i64 7].toArray), (3, .agg [.int .i64 12, .int .i64 1, .int .i64 31].toArray)]).run Tryz.prog w = .ok (.slice (some ⟨w.heap.size, 0, none⟩) 4 4) (w.alloc (.cells (pcC (1, 4, 8) ++ (pcC (5, 6, 25) ++ (pcC (11, 1, 7) ++ pcC (12, 1, 31)))).toArray 169)) := fun w => bsG4 (pcC (1, 4, 8)) (pcC (5, 6, 25)) (pcC (11, 1, 7)) (pcC (12, 1, 31)) rfl rfl rfl rfl w
  simp (disch := first | exact qD9 | fail) only [qG5, Nat.reduceAdd, hbs]
  refine hK _ _ ⟨[(1, 4, 8), (5, 6, 25), (11, 1, 7), (12, 1, 31)], _, _, _, 13, 1, true, rfl, rowsG4 (p := (1, 4, 8)) (q := (5, 6, 25)) (r := (11, 1, 7)) (s := (12, 1, 31)) (E := 169) (f := (0, 0)) ?_, (by intro p hp; simp at hp; rcases hp with rfl | rfl | rfl | rfl <;> exact ⟨by decide, by decide, by decide, by decide⟩), by decide⟩ qX
  rw [upd_ne (by omega)]
  first | exact alloc_at (by simp only [szR]) | (simp (disch := first | exact qD9 | fail) only [qG5, Nat.reduceAdd, Nat.reduceLeDiff, Int.reduceToNat, Int.reduceAdd, Int.reduceSub, Int.reduceLT, Int.reduceLE, Nat.reduceSub, Nat.reduceMul, Nat.reduceEqDiff]; rfl)
 ·simp (disch := first | exact qD9 | fail) only [qG5]
  refine joinL.intro fun J0 hJ0 => ?_
  simp (disch := first | exact qD9 | fail) only [qG5]
  apply hJ0
  intro _
  refine .inr ⟨rfl, ?_⟩
  simp (disch := first | exact qD9 | fail) only [qG5, Nat.reduceAdd]
  refine hK _ _ ⟨[], _, _, _, 0, 0, false, rfl, OwnR.nil.rows (base := 0) (e := 5), (by simp), by decide⟩ qX
 ·simp (disch := first | exact qD9 | fail) only [qG5]
  refine joinL.intro fun J0 hJ0 => ?_
  simp (disch := first | exact qD9 | fail) only [qG5]
  apply hJ0
  intro _
  refine .inr ⟨rfl, ?_⟩
  simp (disch := first | exact qD9 | fail) only [qG5, Nat.reduceAdd]
  refine hK _ _ ⟨[], _, _, _, 0, 0, false, rfl, OwnR.nil.rows (base := 0) (e := 5), (by simp), by decide⟩ qX
 ·simp (disch := first | exact qD9 | fail) only [qG5]
  refine joinL.intro fun J0 hJ0 => ?_
  simp (disch := first | exact qD9 | fail) only [qG5]
  apply hJ0
  intro _
  refine .inr ⟨rfl, ?_⟩
  simp (disch := first | exact qD9 | fail) only [qG5, Nat.reduceAdd]
  refine hK _ _ ⟨[], _, _, _, 0, 0, false, rfl, OwnR.nil.rows (base := 0) (e := 5), (by simp), by decide⟩ qX
theorem hasG_spec {w : World} {s : Nat} (hs : shOk s) {K : Value -> World -> Prop} (hK : ∀ a b c, K (.tuple #[.bool a, .bool b, .bool c]) w) : callsK Tryz.prog 38 #[.int .u8 (s : Nat)] w K := by
 apply F38_ok
 unfold F38
 rcases hs with rfl | rfl | rfl | rfl | rfl | rfl | rfl | rfl | rfl | rfl
 all_goals
  simp (disch := first | exact qD9 | fail) only [qG5, joinR]
  intros
  exact hK _ _ _
theorem shapes_good : rowI.all (fun r => decide (shOk r.s)) = true := by kernel_rfl
open Go.Fx
set_option maxRecDepth 100000
theorem izC_lenS (i : Iz) : (izC i).length = 5 := by simp [izC]
theorem izC_sub (i : Iz) : sub (izC i) 0 5 = izC i := rfl
theorem iz_put0 (i : Iz) : izC i ++ List.drop (izC i).length [.int .i64 0, .int .i64 0, .int .i64 0, .int .i64 0, .int .i64 0] = izC i := by simp [izC]
theorem iz_over0 (i : Iz) : splice [.int .i64 0, .int .i64 0, .int .i64 0, .int .i64 0, .int .i64 0] 0 (izC i) = izC i := rfl
theorem row_shape {k : Nat} (h : k < 69) : shOk (row k).s := by
 have hm : row k ∈ rowI := by
  unfold row
  rw [List.getD_eq_getElem?_getD, List.getElem?_eq_getElem (by rw [rowI_len]; exact h)]
  exact List.getElem_mem _
 have := List.all_eq_true.1 shapes_good _ hm
 rwa [decide_eq_true_eq] at this
theorem qZ22 : type_of% (And.intro @szR (And.intro @rwC_len (And.intro @rwC_all (And.intro @izC_lenS (And.intro @izC_all (And.intro @pcC_len (And.intro @pcC_all (And.intro @loC_len (@loC_all))))))))) := ⟨@szR, @rwC_len, @rwC_all, @izC_lenS, @izC_all, @pcC_len, @pcC_all, @loC_len, @loC_all⟩
theorem qD22 {p : Prop} (h : p := by first | assumption | omega | (simp only [qZ22] <;> omega) | rfl | decide) : p := h
set_option maxHeartbeats 1000000 in
theorem decodeG_spec {w : World} {W : Nat} (hW : W < 4294967296) {K : Value -> World -> Prop}
  (hN : ∀ w', Ext [] w w' -> K (.tuple #[.agg (izC Iz.zero).toArray, .bool false]) w')
  (hK : ∀ (k rd r1 r2 : Nat) (im : Int) w', k < 69 -> rd < 32 -> r1 < 32 -> r2 < 32 -> Ext [] w w' -> K (.tuple #[.agg (izC ⟨k + 1, rd, r1, r2, im⟩).toArray, .bool true]) w') : callsK Tryz.prog 31 #[.int .u32 (W : Nat)] w K := by
 apply F31_ok
 unfold F31
 simp (disch := first | exact qD22 | fail) only [qG5]
 have hx0 : Ext [] w (w.alloc (.cells [.int .i64 0, .int .i64 0, .int .i64 0, .int .i64 0, .int .i64 0].toArray 49)) := qX
 refine rows_spec fun w1 hx1 => ?_
 have hxa := hx0.trans hx1 (by simp)
 have h2 := hx1.at (b := w.heap.size) (o := .cells [.int .i64 0, .int .i64 0, .int .i64 0, .int .i64 0, .int .i64 0].toArray 49 (0, 0)) (by first | with_reducible rfl | assumption | (simp (disch := first | exact qD22 | fail) only [qG5] <;> rfl)) (by simp)
 refine loopT.intro (fun st w' => ∃ (j : Nat), j <= 69 /\ st = [.int .i64 (j : Nat)] /\ w'.heap[w.heap.size]? = some (.cells [.int .i64 0, .int .i64 0, .int .i64 0, .int .i64 0, .int .i64 0].toArray 49 (0, 0)) /\ Ext [] w w')
  (fun st _ => match st with
   | [.int _ z] => 69 - z.toNat
   | _ => 0) ⟨0, Nat.zero_le _, rfl, h2, hxa⟩ ?_
 rintro st w' ⟨j, hj, rfl, h3, hx'⟩ _
 have l3 := lt_of_at h3
 by_cases hj69 : j < 69
 ·obtain ⟨ok, gW, gM⟩ := row_good (k := j) (by omega)
  have hsh := row_shape hj69
  have hix := row_ix j (by omega)
  simp (disch := first | exact qD22 | fail) only [qG5, hix, rw_over, rw_put]
  have hx4 : Ext [] w' (w'.alloc (.cells (rwC (row j)).toArray 101)) := qX
  refine fixed_spec ok fun w2 hx5 => ?_
  have hx6 := hx4.trans hx5 (by simp)
  have hx7 := hx'.trans hx6 (by simp)
  have k3 := hx6.at h3 (by simp)
  have kr := hx5.at (b := w'.heap.size) (o := .cells (rwC (row j)).toArray 101 (0, 0)) (by first | with_reducible rfl | assumption | (simp (disch := first | exact qD22 | fail) only [qG5] <;> rfl)) (by simp)
  have hand : bitI .and .u64 (W : Int) (fixM (row j) : Nat) = ((W &&& fixM (row j) : Nat) : Int) := by
   rw [and_u64 (by omega) (by omega)]
   simp
  have hal : W &&& fixM (row j) <= W := Nat.and_le_left
  by_cases hjk : W &&& fixM (row j) = fixW (row j)
  ·have hn2 : ((W &&& fixM (row j) : Nat) : Int) = ((fixW (row j) : Nat) : Int) := by rw [hjk]
   simp (disch := first | exact qD22 | fail) only [qG5, hand, hn2]
   have r1 : (rwC (row j))[1]? = some (.int .u8 ((row j).s : Nat)) := rfl
   simp (disch := first | exact qD22 | fail) only [qG5, kr, r1]
   have lr := lt_of_at kr
   have l3' := lt_of_at k3
   refine laidG_spec hsh fun v w3 hv hx8 => ?_
   obtain ⟨ps, a, n, c, bits, z, sg, rfl, hr, hp, hbits⟩ := hv
   simp (disch := first | exact qD22 | fail) only [qG5]
   refine readG_spec hr hp (by omega) hbits fun im w4 hx9 => ?_
   have hb : ∀ (x y : Int) (w : World), (Instr.build 49 #[(0, .int .i64 x), (4, .int .i64 y)]).run Tryz.prog w = .ok (.agg [.int .i64 x, .int .i64 0, .int .i64 0, .int .i64 0, .int .i64 y].toArray) w := fun x y w => run_build w 49 _ _ (by kernel_rfl)
   have hb2 : ∀ (w : World), (Instr.build 49 #[(0, .int .i64 ((j : Nat) + 1 : Int)), (4, .int .i64 im)]).run Tryz.prog w = .ok (.agg (izC ⟨j + 1, 0, 0, 0, im⟩).toArray) w := fun w => hb _ _ w
   have hxb := hx8.trans hx9 (by simp)
   have m3 := hxb.at k3 (by simp)
   have mr := hxb.at kr (by simp)
   have lm3 := lt_of_at m3
   have lmr := lt_of_at mr
   simp (disch := first | exact qD22 | fail) only [qG5, hb2, iz_over0, iz_put0, mr, r1]
   refine hasG_spec hsh fun b1 b2 b3 => ?_
   have hxc : Ext [] w (w4.alloc (.cells (izC ⟨j + 1, 0, 0, 0, im⟩).toArray 49)) := by
    have := hx7.trans hxb (by simp)
    exact qX
   have q3 : (w4.alloc (.cells (izC ⟨j + 1, 0, 0, 0, im⟩).toArray 49)).heap[w.heap.size]? = some (.cells [.int .i64 0, .int .i64 0, .int .i64 0, .int .i64 0, .int .i64 0].toArray 49 (0, 0)) := (by first | with_reducible rfl | assumption | (simp (disch := first | exact qD22 | fail) only [qG5, m3] <;> rfl))
   have q9 : (w4.alloc (.cells (izC ⟨j + 1, 0, 0, 0, im⟩).toArray 49)).heap[w4.heap.size]? = some (.cells (izC ⟨j + 1, 0, 0, 0, im⟩).toArray 49 (0, 0)) := (by first | with_reducible rfl | assumption | (simp (disch := first | exact qD22 | fail) only [qG5] <;> rfl))
   have hw4 : w.heap.size < w4.heap.size := by omega
   obtain ⟨b9, hb9⟩ : ∃ b9, b9 = w4.heap.size := ⟨_, rfl⟩
   rw [<- hb9] at q9 hw4 ⊢
   simp (disch := first | exact qD22 | fail) only [qG5]
   generalize (w4.alloc (.cells (izC ⟨j + 1, 0, 0, 0, im⟩).toArray 49)) = w5 at *
   have hne9 : w.heap.size ≠ b9 := by omega
   have hbw : w.heap.size <= b9 := by omega
   refine joinL.intro fun J2 hJ2 => ?_
   have s1 : ∀ (o r1 r2 : Nat) (x : Int) (v : Nat), (izC ⟨o, 0, r1, r2, x⟩).set 1 (.int .i64 (v : Nat)) = izC ⟨o, v, r1, r2, x⟩ := fun _ _ _ _ _ => rfl
   have s2 : ∀ (o rd r2 : Nat) (x : Int) (v : Nat), (izC ⟨o, rd, 0, r2, x⟩).set 2 (.int .i64 (v : Nat)) = izC ⟨o, rd, v, r2, x⟩ := fun _ _ _ _ _ => rfl
   have s3 : ∀ (o rd r1 : Nat) (x : Int) (v : Nat), (izC ⟨o, rd, r1, 0, x⟩).set 3 (.int .i64 (v : Nat)) = izC ⟨o, rd, r1, v, x⟩ := fun _ _ _ _ _ => rfl
   have p5 : (2 : Nat) ^ ((5 : Int).toNat) = 32 := by decide
   have g6 : ∀ (w8 : World) (rd y1 y2 : Nat), rd < 32 -> y1 < 32 -> y2 < 32 -> w8.heap[b9]? = some (.cells (izC ⟨j + 1, rd, y1, y2, im⟩).toArray 49 (0, 0)) -> w8.heap[w.heap.size]? = some (.cells [.int .i64 0, .int .i64 0, .int .i64 0, .int .i64 0, .int .i64 0].toArray 49 (0, 0)) -> Ext [] w w8 -> K (.tuple #[.agg (izC ⟨j + 1, rd, y1, y2, im⟩).toArray, .bool true]) (World.upd w8 w.heap.size (izC ⟨j + 1, rd, y1, y2, im⟩)) := by
    intro w8 rd y1 y2 hrd hy1 hy2 d1 d2 d3
    exact hK j rd y1 y2 im _ hj69 hrd hy1 hy2 qX
   have g2 : ∀ (w6 : World) (rd : Nat), rd < 32 -> w6.heap[b9]? = some (.cells (izC ⟨j + 1, rd, 0, 0, im⟩).toArray 49 (0, 0)) -> w6.heap[w.heap.size]? = some (.cells [.int .i64 0, .int .i64 0, .int .i64 0, .int .i64 0, .int .i64 0].toArray 49 (0, 0)) -> Ext [] w w6 -> J2 [] w6 := by
    intro w6 rd hrd a1 a2 a3
    apply hJ2
    intro _
    refine joinL.intro fun J4 hJ4 => ?_
    have g4 : ∀ (w7 : World) (y1 : Nat), y1 < 32 -> w7.heap[b9]? = some (.cells (izC ⟨j + 1, rd, y1, 0, im⟩).toArray 49 (0, 0)) -> w7.heap[w.heap.size]? = some (.cells [.int .i64 0, .int .i64 0, .int .i64 0, .int .i64 0, .int .i64 0].toArray 49 (0, 0)) -> Ext [] w w7 -> J4 [] w7 := by
     intro w7 y1 hy1 c1 c2 c3
     apply hJ4
     intro _
     refine joinL.intro fun J6 hJ6 => ?_
     have g5 : ∀ (w8 : World) (y2 : Nat), y2 < 32 -> w8.heap[b9]? = some (.cells (izC ⟨j + 1, rd, y1, y2, im⟩).toArray 49 (0, 0)) -> w8.heap[w.heap.size]? = some (.cells [.int .i64 0, .int .i64 0, .int .i64 0, .int .i64 0, .int .i64 0].toArray 49 (0, 0)) -> Ext [] w w8 -> J6 [] w8 := by
      intro w8 y2 hy2 d1 d2 d3
      apply hJ6
      intro _
      have ld1 := lt_of_at d1
      have ld2 := lt_of_at d2
      simp (disch := first | exact qD22 | fail) only [qG5, d1, d2, izC_sub, iz_over0, iz_put0]
      exact g6 _ _ _ _ hrd hy1 hy2 d1 d2 d3
     cases b3 with
     | true =>
      refine .inl ⟨rfl, ?_⟩
      simp (disch := first | exact qD22 | fail) only [qG5]
      refine fGet_spec (by decide) (by decide) (by decide) (by omega) fun w8 hx10 => ?_
      rw [p5]
      have hyl := Nat.mod_lt (W / 2 ^ ((20 : Int).toNat)) (show 32 > 0 by omega)
      generalize W / 2 ^ ((20 : Int).toNat) % 32 = y at *
      have d1 := hx10.at c1 (by simp)
      have d2 := hx10.at c2 (by simp)
      have ld1 := lt_of_at d1
      simp (disch := first | exact qD22 | fail) only [qG5, d1, s3]
      have hx11 : Ext [] w (World.upd w8 b9 (izC ⟨j + 1, rd, y1, y, im⟩)) := (c3.trans hx10 (by simp)).upd _ (.inr hbw)
      exact g5 _ y hyl (upd_at d1) ((upd_ne hne9).trans d2) hx11
     | false => exact .inr ⟨rfl, g5 w7 0 (by decide) c1 c2 c3⟩
    cases b2 with
    | true =>
     refine .inl ⟨rfl, ?_⟩
     simp (disch := first | exact qD22 | fail) only [qG5]
     refine fGet_spec (by decide) (by decide) (by decide) (by omega) fun w8 hx10 => ?_
     rw [p5]
     have hyl := Nat.mod_lt (W / 2 ^ ((15 : Int).toNat)) (show 32 > 0 by omega)
     generalize W / 2 ^ ((15 : Int).toNat) % 32 = y at *
     have d1 := hx10.at a1 (by simp)
     have d2 := hx10.at a2 (by simp)
     have ld1 := lt_of_at d1
     simp (disch := first | exact qD22 | fail) only [qG5, d1, s2]
     have hx11 : Ext [] w (World.upd w8 b9 (izC ⟨j + 1, rd, y, 0, im⟩)) := (a3.trans hx10 (by simp)).upd _ (.inr hbw)
     exact g4 _ y hyl (upd_at d1) ((upd_ne hne9).trans d2) hx11
    | false => exact .inr ⟨rfl, g4 w6 0 (by decide) a1 a2 a3⟩
   cases b1 with
   | true =>
    refine .inl ⟨rfl, ?_⟩
    simp (disch := first | exact qD22 | fail) only [qG5]
    refine fGet_spec (by decide) (by decide) (by decide) (by omega) fun w8 hx10 => ?_
    rw [p5]
    have hyl := Nat.mod_lt (W / 2 ^ ((7 : Int).toNat)) (show 32 > 0 by omega)
    generalize W / 2 ^ ((7 : Int).toNat) % 32 = y at *
    have d1 := hx10.at q9 (by simp)
    have d2 := hx10.at q3 (by simp)
    have ld1 := lt_of_at d1
    simp (disch := first | exact qD22 | fail) only [qG5, d1, s1]
    have hx11 : Ext [] w (World.upd w8 b9 (izC ⟨j + 1, y, 0, 0, im⟩)) := (hxc.trans hx10 (by simp)).upd _ (.inr hbw)
    exact g2 _ y hyl (upd_at d1) ((upd_ne hne9).trans d2) hx11
   | false => exact .inr ⟨rfl, g2 w5 0 (by decide) q9 q3 hxc⟩
  ·have hn2 : ((W &&& fixM (row j) : Nat) : Int) ≠ ((fixW (row j) : Nat) : Int) := by omega
   simp (disch := first | exact qD22 | fail) only [qG5, hand]
   exact ⟨⟨j + 1, by omega, rfl, k3, hx7⟩, by first | omega | (simp <;> omega)⟩
 ·obtain rfl : j = 69 := by omega
  simp (disch := first | exact qD22 | fail) only [qG5, Nat.reduceAdd, h3]
  exact hN _ qX
open Go.Fx
set_option maxRecDepth 100000
/-- a region in which fields of an instruction that is run are written: what words say of it stands. -/
def FldZ (q : Nat) (ps : List (Rz -> Prop)) (w w' : World) : Prop := Ext [q] w w' /\ ∀ p ∈ ps, (∃ r, p r /\ w.heap[q]? = some (.cells (rzC r).toArray 91 (0, 0))) -> ∃ r, p r /\ w'.heap[q]? = some (.cells (rzC r).toArray 91 (0, 0))
theorem FldZ.refl {q : Nat} {ps : List (Rz -> Prop)} {w : World} : FldZ q ps w w := ⟨Ext.refl, fun _ _ h => h⟩
theorem FldZ.of {q : Nat} {ps : List (Rz -> Prop)} {w w' : World} (h : Ext [] w w') : FldZ q ps w w' := ⟨h.mono (by simp), fun _ _ ⟨r, h1, h2⟩ => ⟨r, h1, h.at h2 (by simp)⟩⟩
theorem relX.fldZ (q : Nat) (ps : List (Rz -> Prop)) {G : (World -> World -> Prop) -> Prop} (h : G (FldZ q ps)) : relX G :=
 ⟨FldZ q ps, fun _ => FldZ.refl, fun _ _ _ h1 h2 => ⟨h1.1.step h2.1, fun p hp hw => h2.2 p hp (h1.2 p hp hw)⟩, fun _ _ h => h.1.size, h⟩
theorem okX.fldZ {q : Nat} {ps : List (Rz -> Prop)} {w : World} {v : Value} : okX (FldZ q ps) w (fun u _ => u = v) v w := ⟨FldZ.refl, rfl⟩
theorem FldZ.set {q : Nat} {ps : List (Rz -> Prop)} {w w' : World} (f : Rz -> Rz) (hf : ∀ r r', rzC r = rzC r' -> rzC (f r) = rzC (f r')) (hx : Ext [q] w w') {r : Rz} (h : w.heap[q]? = some (.cells (rzC r).toArray 91 (0, 0))) (h' : w'.heap[q]? = some (.cells (rzC (f r)).toArray 91 (0, 0))) (hp : ∀ p ∈ ps, ∀ r, p r -> p (f r)) : FldZ q ps w w' :=
 ⟨hx, fun p hm ⟨r', h1, h2⟩ => ⟨f r', hp p hm r' h1, by
  rw [h] at h2
  simp only [Option.some.injEq, Obj.cells.injEq, List.toArray_inj] at h2
  rw [h', hf r r' (by simpa using h2)]⟩⟩
theorem FldZ.has {q : Nat} {ps : List (Rz -> Prop)} {w w' : World} (h : FldZ q ps w w') {p : Rz -> Prop} (hm : p ∈ ps) {r : Rz} (hr : p r) (hw : w.heap[q]? = some (.cells (rzC r).toArray 91 (0, 0))) : ∃ r, p r /\ w'.heap[q]? = some (.cells (rzC r).toArray 91 (0, 0)) := h.2 p hm ⟨r, hr, hw⟩
theorem rz_i_inj {i : Iz} (r r' : Rz) (h : rzC r = rzC r') : rzC { r with i := i } = rzC { r' with i := i } := (rz_seti r i).symm.trans ((congrArg (fun l => splice l 199 (izC i)) h).trans (rz_seti r' i))
theorem rz_a_inj {x : Cq} (r r' : Rz) (h : rzC r = rzC r') : rzC { r with a := x } = rzC { r' with a := x } := (rz_seta r x).symm.trans ((congrArg (fun l => splice l 204 (cq x)) h).trans (rz_seta r' x))
theorem iz_r1 (i : Iz) : (izC i)[2]? = some (.int .i64 (i.r1 : Nat)) := rfl
theorem iz_r2 (i : Iz) : (izC i)[3]? = some (.int .i64 (i.r2 : Nat)) := rfl
theorem regX_ok {c : Nat -> Cq} (h : ∀ k, k < 33 -> Okq (c k)) (n : Nat) : Okq (regX c n) := by
 unfold regX
 split
 ·exact h n (by omega)
 ·exact ⟨by decide, by decide⟩
theorem withX_ne {c : Nat -> Cq} {n k : Nat} {x : Cq} (h : k ≠ n) : withX c n x k = c k := by
 unfold withX
 split
 ·unfold setX
  rw [if_neg h]
 ·rfl
theorem regX_with {c : Nat -> Cq} {n : Nat} {x : Cq} : regX (withX c n x) n = if 1 <= n /\ n < 32 then x else Cq.zero := by
 unfold regX
 by_cases h : 1 <= n /\ n < 32
 ·rw [if_pos h, if_pos h]
  unfold withX setX
  rw [if_pos h, if_pos rfl]
 ·rw [if_neg h, if_neg h]
theorem qZ23 : type_of% (And.intro @szR (And.intro @cq_len (And.intro @cq_all (And.intro @cxC_len (And.intro @cxC_all (And.intro @izC_lenS (And.intro @izC_all (And.intro @rzC_len (And.intro @rzC_all (And.intro @ozC_len (And.intro @ozC_all (And.intro @vwC_len (@vwC_all))))))))))))) := ⟨@szR, @cq_len, @cq_all, @cxC_len, @cxC_all, @izC_lenS, @izC_all, @rzC_len, @rzC_all, @ozC_len, @ozC_all, @vwC_len, @vwC_all⟩
theorem qD23 {p : Prop} (h : p := by first | assumption | omega | (simp only [qZ23] <;> omega) | rfl | decide) : p := h
set_option maxHeartbeats 1000000 in
theorem StepG_spec {w : World} {rb pb n : Nat} {c : Nat -> Cq} {m g : Nat -> Int} (hM : Mem w rb pb n m g) (hn : 0 < n /\ n <= 1000) (hc : ∀ k, k < 33 -> Okq (c k)) {K : Value -> World -> Prop}
  (hT : ∀ (k e va : Nat) (i : Iz) w', k ≠ 0 -> Ext [pb] w w' -> K (.tuple #[.agg (cxC c).toArray, .agg (ozC k e va i).toArray]) w')
  (hR : ∀ (d : Nat -> Cq) (i : Iz) w', 1 <= i.op /\ i.op <= 69 -> i.rd < 32 -> (∀ k, k < 32 -> (bsOp i.op ∨ k ≠ i.rd) -> d k = c k) -> (numOp i.op -> (regX d i.rd).t = false /\ (regX d i.rd).m = 0) -> Ext [pb] w w' -> K (.tuple #[.agg (cxC d).toArray, .agg (ozC 0 0 0 i).toArray]) w') :
  callsK Tryz.prog 10 #[.agg (cxC c).toArray, flV rb] w K := by
 have hcp := hc 32 (by omega)
 obtain ⟨hcm, hca⟩ := id hcp
 apply F10_ok
 unfold F10
 have lM := hM.lt
 simp (disch := first | exact qD23 | fail) only [qG5, Nat.reduceAdd, zeroX_cells, cx_sub, cx_pca]
 refine joinL.intro fun J0 hJ0 => ?_
 simp (disch := first | exact qD23 | fail) only [qG5]
 have hx0 : Ext [] w (((w.alloc (.cells (cxC c).toArray 42)).alloc (.cells (cxC zeroX).toArray 42)).alloc (.cells [.int .i64 0, .int .i64 0, .int .u64 0, .int .i64 0, .int .i64 0, .int .i64 0, .int .i64 0, .int .i64 0].toArray 51)).drew := qX
 have g0 : (((w.alloc (.cells (cxC c).toArray 42)).alloc (.cells (cxC zeroX).toArray 42)).alloc (.cells [.int .i64 0, .int .i64 0, .int .u64 0, .int .i64 0, .int .i64 0, .int .i64 0, .int .i64 0, .int .i64 0].toArray 51)).drew.heap[w.heap.size]? = some (.cells (cxC c).toArray 42 (0, 0)) := (by first | with_reducible rfl | assumption | (simp (disch := first | exact qD23 | fail) only [qG5] <;> rfl))
 have g1 : (((w.alloc (.cells (cxC c).toArray 42)).alloc (.cells (cxC zeroX).toArray 42)).alloc (.cells [.int .i64 0, .int .i64 0, .int .u64 0, .int .i64 0, .int .i64 0, .int .i64 0, .int .i64 0, .int .i64 0].toArray 51)).drew.heap[w.heap.size + 1]? = some (.cells (cxC zeroX).toArray 42 (0, 0)) := (by first | with_reducible rfl | assumption | (simp (disch := first | exact qD23 | fail) only [qG5] <;> rfl))
 have g2 : (((w.alloc (.cells (cxC c).toArray 42)).alloc (.cells (cxC zeroX).toArray 42)).alloc (.cells [.int .i64 0, .int .i64 0, .int .u64 0, .int .i64 0, .int .i64 0, .int .i64 0, .int .i64 0, .int .i64 0].toArray 51)).drew.heap[w.heap.size + 1 + 1]? = some (.cells [.int .i64 0, .int .i64 0, .int .u64 0, .int .i64 0, .int .i64 0, .int .i64 0, .int .i64 0, .int .i64 0].toArray 51 (0, 0)) := (by first | with_reducible rfl | assumption | (simp (disch := first | exact qD23 | fail) only [qG5] <;> rfl))
 have hM1 := hM.ext hx0 (by simp) (by simp)
 obtain ⟨b0, hb0⟩ : ∃ b0, b0 = w.heap.size := ⟨_, rfl⟩
 rw [<- hb0] at g0 g1 g2 hJ0 ⊢
 generalize (((w.alloc (.cells (cxC c).toArray 42)).alloc (.cells (cxC zeroX).toArray 42)).alloc (.cells [.int .i64 0, .int .i64 0, .int .u64 0, .int .i64 0, .int .i64 0, .int .i64 0, .int .i64 0, .int .i64 0].toArray 51)).drew = w1 at *
 refine relX.ext [] ?_
 (apply postX.is; (focus (intro v w2 hR hd; have e0 := hR.at g0 (by simp); (try simp (disch := first | exact qD23 | fail) only [qG5, hd, e0, cx_sub]); exact okX.is)))
 apply postX.is
 ·intro v w2 hR hd
  simp (disch := first | exact qD23 | fail) only [qG5, hd]
  refine Next_spec hcm (by omega) fun w3 hx3 => okX.mk hx3 rfl
 (apply postX.is; (focus (intro v w2 hR hd; have e0 := hR.at g0 (by simp); (try simp (disch := first | exact qD23 | fail) only [qG5, hd, e0, cx_sub]); exact okX.is)))
 (apply postX.is; (focus (intro v w2 hR hd; (try simp (disch := first | exact qD23 | fail) only [qG5, Nat.reduceAdd, Nat.reduceLeDiff, Int.reduceToNat, Int.reduceAdd, Int.reduceSub, Int.reduceLT, Int.reduceLE, Nat.reduceSub, Nat.reduceMul, Nat.reduceEqDiff, hd]); exact okX.is)))
 intro v w2 hR2 hd _
 have hb : ∀ (w : World), (Instr.build 91 #[(0, .agg (cxC (nextX c)).toArray), (1, .agg (cxC c).toArray), (2, flV rb)]).run Tryz.prog w = .ok (.agg (rzC ⟨nextX c, c, flV rb, flV_one rb, Iz.zero, Cq.zero, Cq.zero⟩).toArray) w := by
  generalize nextX c = d
  exact fun w => run_build w 91 _ _ (by kernel_rfl)
 have rsub : ∀ r : Rz, sub (rzC r) 0 210 = rzC r := fun r => sub_whole (by rw [rzC_len])
 have k0 := hR2.at g0 (by simp)
 have k1 := hR2.at g1 (by simp)
 have k2 := hR2.at g2 (by simp)
 have kM := hM1.ext hR2 (by simp) (by simp)
 have hxa := hx0.trans hR2 (by simp)
 have lk0 := lt_of_at k0
 have lk1 := lt_of_at k1
 have lk2 := lt_of_at k2
 have lkM := kM.lt
 simp (disch := first | exact qD23 | fail) only [qG5, hd, hb, rsub]
 have hsw := hx0.size
 clear hR2 hd hM1 g0 g1 g2 hx0
 apply hJ0
 intro _
 simp (disch := first | exact qD23 | fail) only [qG5, k0, cx_pcc]
 refine CheckG_spec (k := 0) (n := 4) hcm hca (by omega) (by omega) fun e w3 hx3 => ?_
 have hxb : Ext [] w2 w3 := Ext.trans (S := []) qX hx3 (by simp)
 have kq : w3.heap[w2.heap.size]? = some (.cells (rzC ⟨nextX c, c, flV rb, flV_one rb, Iz.zero, Cq.zero, Cq.zero⟩).toArray 91 (0, 0)) := hx3.at (alloc_at rfl) (by simp)
 obtain ⟨q, hq⟩ : ∃ q, q = w2.heap.size := ⟨_, rfl⟩
 rw [<- hq] at kq
 have hqb : q ≠ b0 /\ q ≠ b0 + 1 /\ q ≠ b0 + 1 + 1 /\ rb ≠ q /\ pb ≠ q := by omega
 obtain ⟨hq0, hq1, hq2, hqr, hqp⟩ := hqb
 have hlq : w.heap.size <= q := by have := hxa.size; omega
 -- a trap, told from any world behind
 have htrap : ∀ (k e va : Nat) (w4 : World) (D : Value -> World -> Prop), k ≠ 0 -> Ext [] w2 w4 -> w4.heap[q]? = some (.cells (rzC ⟨nextX c, c, flV rb, flV_one rb, Iz.zero, Cq.zero, Cq.zero⟩).toArray 91 (0, 0)) -> (∀ w5 w6, Ext [] w4 w5 -> w5.heap[b0 + 1]? = some (.cells (cxC zeroX).toArray 42 (0, 0)) -> w5.heap[b0 + 1 + 1]? = some (.cells [.int .i64 0, .int .i64 0, .int .u64 0, .int .i64 0, .int .i64 0, .int .i64 0, .int .i64 0, .int .i64 0].toArray 51 (0, 0)) -> w6 = World.upd (World.upd w5 (b0 + 1) (cxC c)) (b0 + 1 + 1) (ozC k e va Iz.zero) -> K (.tuple #[.agg (cxC c).toArray, .agg (ozC k e va Iz.zero).toArray]) w6 -> D (.tuple #[.agg (cxC c).toArray, .agg (ozC k e va Iz.zero).toArray]) w5) -> callsK Tryz.prog 30 #[.pointer (some ⟨q, 0, none⟩), .int .i64 (k : Nat), .int .i64 (e : Nat), .int .u64 (va : Nat)] w4 D := by
  intro k e va w4 D hk hx hr hD
  refine trapZ_spec hr fun w5 hx5 => ?_
  have n1 := (hx.trans hx5 (by simp)).at k1 (by simp)
  have n2 := (hx.trans hx5 (by simp)).at k2 (by simp)
  have hxo : Ext [b0 + 1, b0 + 1 + 1] w5 (World.upd (World.upd w5 (b0 + 1) (cxC c)) (b0 + 1 + 1) (ozC k e va Iz.zero)) := by
   have ln1 := lt_of_at n1
   have ln2 := lt_of_at n2
   exact qX
  have hxt := hxa.trans (hx.trans hx5 (by simp)) (by simp)
  exact hD w5 _ hx5 n1 n2 rfl (hT k e va _ _ hk ((hxt.trans hxo (by simp; omega)).mono (by simp)))
 by_cases he : ((e : Nat) : Int) = 0
 case neg =>
  simp (disch := first | exact qD23 | fail) only [qG5, he, k0, cx_pca]
  rw [<- hq]
  refine htrap 5 e (c 32).a _ _ (by decide) hxb kq fun w5 w6 hx5 n1 n2 h6 hk => ?_
  have ln1 := lt_of_at n1
  have ln2 := lt_of_at n2
  simp (disch := first | exact qD23 | fail) only [qG5, n1, n2, cx_over, cx_put, oz_over, oz_put, cx_sub, oz_sub]
  exact h6 ▸ hk
 by_cases hal : ((((c 32).a : Nat) : Int) % 4) = 0
 case neg =>
  simp (disch := first | exact qD23 | fail) only [qG5, he, hal]
  rw [<- hq]
  refine htrap 4 0 (c 32).a _ _ (by decide) hxb kq fun w5 w6 hx5 n1 n2 h6 hk => ?_
  have ln1 := lt_of_at n1
  have ln2 := lt_of_at n2
  simp (disch := first | exact qD23 | fail) only [qG5, n1, n2, cx_over, cx_put, oz_over, oz_put, cx_sub, oz_sub]
  exact h6 ▸ hk
 simp (disch := first | exact qD23 | fail) only [qG5, he, hal]
 refine fetch_m (FetchG_spec (kM.ext hxb (by simp) (by simp)) hn hca (by omega) fun W e2 w4 hW hx4 => ?_)
 by_cases he2 : ((e2 : Nat) : Int) = 0
 case neg =>
  simp (disch := first | exact qD23 | fail) only [qG5, he2]
  rw [<- hq]
  refine htrap 6 e2 (c 32).a _ _ (by decide) (hxb.trans hx4 (by simp)) (hx4.at kq (by simp)) fun w5 w6 hx5 n1 n2 h6 hk => ?_
  have ln1 := lt_of_at n1
  have ln2 := lt_of_at n2
  simp (disch := first | exact qD23 | fail) only [qG5, n1, n2, cx_over, cx_put, oz_over, oz_put, cx_sub, oz_sub]
  exact h6 ▸ hk
 simp (disch := first | exact qD23 | fail) only [qG5, he2]
 refine decodeG_spec hW (fun w5 hx5 => ?_) (fun k1' rd r1 r2 im w5 hk69 hrd h1 h2 hx5 => ?_)
 ·have hxc : Ext [] w2 w5 := (hxb.trans hx4 (by simp)).trans hx5 (by simp)
  have kq5 := (hx4.trans hx5 (by simp)).at kq (by simp)
  simp (disch := first | exact qD23 | fail) only [qG5, Bool.not_false]
  rw [<- hq]
  refine htrap 1 0 (c 32).a _ _ (by decide) (hxc.trans (Ext.alloc (S := []) Ext.refl _ _) (by simp)) ((Ext.alloc (S := []) Ext.refl _ _).at kq5 (by simp)) fun w7 w6 hx7 n1 n2 h6 hk => ?_
  have ln1 := lt_of_at n1
  have ln2 := lt_of_at n2
  simp (disch := first | exact qD23 | fail) only [qG5, n1, n2, cx_over, cx_put, oz_over, oz_put, cx_sub, oz_sub]
  exact h6 ▸ hk
 obtain ⟨i, hi⟩ : ∃ i : Iz, i = ⟨k1' + 1, rd, r1, r2, im⟩ := ⟨_, rfl⟩
 rw [<- hi]
 have hiop : 1 <= i.op /\ i.op <= 69 := by rw [hi]; exact ⟨by show 1 <= k1' + 1; omega, by show k1' + 1 <= 69; omega⟩
 have hird : i.rd < 32 := by rw [hi]; exact hrd
 have hir1 : i.r1 < 9223372036854775808 := by rw [hi]; show r1 < _; omega
 have hir2 : i.r2 < 9223372036854775808 := by rw [hi]; show r2 < _; omega
 clear hi
 have hxc : Ext [] w2 w5 := (hxb.trans hx4 (by simp)).trans hx5 (by simp)
 replace k0 := hxc.at k0 (by simp)
 replace k1 := hxc.at k1 (by simp)
 replace k2 := hxc.at k2 (by simp)
 replace kM := kM.ext hxc (by simp) (by simp)
 replace kq := (hx4.trans hx5 (by simp)).at kq (by simp)
 replace hxa := hxa.trans hxc (by simp)
 replace lk0 := lt_of_at k0
 replace lk1 := lt_of_at k1
 replace lk2 := lt_of_at k2
 have lkq := lt_of_at kq
 replace lkM := kM.lt
 clear htrap
 simp (disch := first | exact qD23 | fail) only [qG5, Bool.not_true]
 refine joinL.intro fun J10 hJ10 => ?_
 simp (disch := first | exact qD23 | fail) only [qG5, iz_put0, List.getD_cons_zero]
 rw [<- hq]
 obtain ⟨b4, hb4⟩ : ∃ b4, b4 = w5.heap.size := ⟨_, rfl⟩
 have hxd : Ext [] w5 (w5.alloc (.cells (izC i).toArray 49)).drew := qX
 have m4 : (w5.alloc (.cells (izC i).toArray 49)).drew.heap[b4]? = some (.cells (izC i).toArray 49 (0, 0)) := alloc_at hb4
 rw [<- hb4]
 have m0 := hxd.at k0 (by simp)
 have m1 := hxd.at k1 (by simp)
 have m2 := hxd.at k2 (by simp)
 have mq := hxd.at kq (by simp)
 have hxe := hxa.trans hxd (by simp)
 have mM := kM.ext hxd (by simp) (by simp)
 generalize (w5.alloc (.cells (izC i).toArray 49)).drew = w6 at *
 have hq4 : q ≠ b4 := by omega
 obtain ⟨p0, hp0⟩ : ∃ p0 : Rz -> Prop, p0 = fun r => r.c = nextX c /\ r.d = c /\ r.m = flV rb := ⟨_, rfl⟩
 obtain ⟨p1, hp1⟩ : ∃ p1 : Rz -> Prop, p1 = fun r => p0 r /\ r.i = i := ⟨_, rfl⟩
 obtain ⟨p2, hp2⟩ : ∃ p2 : Rz -> Prop, p2 = fun r => p1 r /\ r.a = regX c i.r1 := ⟨_, rfl⟩
 refine relX.fldZ q [p0, p1, p2] ?_
 (apply postX.is; (focus (intro v w2 hR hd; (try simp (disch := first | exact qD23 | fail) only [qG5, hd]); exact okX.fldZ)))
 (apply postX.is; (focus (intro v w2 hR hd; (try simp (disch := first | exact qD23 | fail) only [qG5, hd]); exact okX.fldZ)))
 (apply postX.is; (focus (intro v w2 hR hd; (try simp (disch := first | exact qD23 | fail) only [qG5, hd]); exact okX.fldZ)))
 (apply postX.is; (focus (intro v w2 hR hd; have e0 := hR.1.at m4 (by simp; try omega); (try simp (disch := first | exact qD23 | fail) only [qG5, hd, e0, izC_sub]); exact okX.fldZ)))
 (apply postX.is; (focus (intro v w2 hR hd; have e0 := hR.1.at m0 (by simp; try omega); (try simp (disch := first | exact qD23 | fail) only [qG5, hd, e0, cx_sub]); exact okX.fldZ)))
 (apply postX.is; (focus (intro v w2 hR hd; (try simp (disch := first | exact qD23 | fail) only [qG5, hd]); exact okX.fldZ)))
 (apply postX.is; (focus (intro v w2 hR hd; have e0 := hR.1.at m4 (by simp; try omega); (try simp (disch := first | exact qD23 | fail) only [qG5, hd, e0, iz_r1]); exact okX.fldZ)))
 apply postX.is
 ·intro v w2 hR hd
  simp (disch := first | exact qD23 | fail) only [qG5, hd]
  exact Get_reg hir1 fun w3 hx3 => okX.mk (FldZ.of hx3) rfl
 (apply postX.is; (focus (intro v w2 hR hd; have e0 := hR.1.at m0 (by simp; try omega); (try simp (disch := first | exact qD23 | fail) only [qG5, hd, e0, cx_sub]); exact okX.fldZ)))
 (apply postX.is; (focus (intro v w2 hR hd; (try simp (disch := first | exact qD23 | fail) only [qG5, hd]); exact okX.fldZ)))
 (apply postX.is; (focus (intro v w2 hR hd; have e0 := hR.1.at m4 (by simp; try omega); (try simp (disch := first | exact qD23 | fail) only [qG5, hd, e0, iz_r2]); exact okX.fldZ)))
 apply postX.is
 ·intro v w2 hR hd
  simp (disch := first | exact qD23 | fail) only [qG5, hd]
  exact Get_reg hir2 fun w3 hx3 => okX.mk (FldZ.of hx3) rfl
 (apply postX.is; (focus (intro v w2 hR hd; (try simp (disch := first | exact qD23 | fail) only [qG5, hd]); exact okX.fldZ)))
 (apply postX.is; (focus (intro v w2 hR hd; (try simp (disch := first | exact qD23 | fail) only [qG5, hd]); exact okX.fldZ)))
 refine postX.intro (fun _ w => ∃ r, p1 r /\ w.heap[q]? = some (.cells (rzC r).toArray 91 (0, 0))) (fun _ _ _ hR h => hR.2 p1 (by simp) h) (fun v w2 hR hd => ?_) ?_
 ·obtain ⟨r, hr, e⟩ := hR.has (p := p0) (by simp) (by rw [hp0]; exact ⟨rfl, rfl, rfl⟩) mq
  have le := lt_of_at e
  simp (disch := first | exact qD23 | fail) only [qG5, hd, e, rz_seti]
  have hxu : Ext [q] w2 (World.upd w2 q (rzC { r with i := i })) := qX
  refine okX.mk (FldZ.set (fun r => { r with i := i }) rz_i_inj hxu e (upd_at e) ?_) ⟨{ r with i := i }, by rw [hp1]; rw [hp0] at hr ⊢; exact ⟨hr, rfl⟩, upd_at e⟩
  rw [hp2, hp1, hp0]
  simp +contextual
 (apply postX.is; (focus (intro v w2 hR hd; (try simp (disch := first | exact qD23 | fail) only [qG5, hd]); exact okX.fldZ)))
 (apply postX.is; (focus (intro v w2 hR hd; (try simp (disch := first | exact qD23 | fail) only [qG5, hd]); exact okX.fldZ)))
 refine postX.intro (fun _ w => ∃ r, p2 r /\ w.heap[q]? = some (.cells (rzC r).toArray 91 (0, 0))) (fun _ _ _ hR h => hR.2 p2 (by simp) h) (fun v w2 hR hd => ?_) ?_
 ·obtain ⟨-, -, -, -, -, -, -, -, -, -, ⟨r, hr, e⟩, -⟩ := id hd
  have le := lt_of_at e
  simp (disch := first | exact qD23 | fail) only [qG5, hd, e, rz_seta]
  have hxu : Ext [q] w2 (World.upd w2 q (rzC { r with a := regX c i.r1 })) := qX
  refine okX.mk (FldZ.set (fun r => { r with a := regX c i.r1 }) rz_a_inj hxu e (upd_at e) ?_) ⟨{ r with a := regX c i.r1 }, by rw [hp2]; rw [hp1, hp0] at hr ⊢; exact ⟨hr, rfl⟩, upd_at e⟩
  rw [hp2, hp1, hp0]
  simp +contextual
 intro v w7 hR7 hd _
 obtain ⟨-, -, -, -, -, -, -, -, -, -, -, -, -, -, -, -, -, ⟨r, hr, eR⟩, -⟩ := id hd
 have le := lt_of_at eR
 simp (disch := first | exact qD23 | fail) only [qG5, hd, eR, rz_setb]
 obtain ⟨R, hRd⟩ : ∃ R : Rz, R = ⟨nextX c, c, flV rb, flV_one rb, i, regX c i.r1, regX c i.r2⟩ := ⟨_, rfl⟩
 have er : ({ r with b := regX c i.r2 } : Rz) = R := by
  rw [hp2, hp1, hp0] at hr
  obtain ⟨⟨⟨h3, h4, h5⟩, h6⟩, h7⟩ := hr
  rw [hRd]
  cases r
  simp only at h3 h4 h5 h6 h7
  subst h3 h4 h5 h6 h7
  rfl
 rw [er]
 have hxu : Ext [q] w7 (World.upd w7 q (rzC R)) := qX
 have hxv : Ext [q] w6 (World.upd w7 q (rzC R)) := hR7.1.step hxu
 replace m1 := hxv.at m1 (by simp; omega)
 replace m2 := hxv.at m2 (by simp; omega)
 replace mM := mM.ext hxv (by simp; omega) (by simp; omega)
 have mr := upd_at (l := rzC R) eR
 have hxw : Ext [] w (World.upd w7 q (rzC R)) := hxe.trans hxv (by simp; omega)
 generalize World.upd w7 q (rzC R) = w8 at *
 apply hJ10
 intro _
 simp (disch := first | exact qD23 | fail) only [qG5, List.getD_cons_zero]
 rw [<- hq]
 have hpq : pb ≠ b0 + 1 /\ pb ≠ b0 + 1 + 1 /\ rb ≠ b0 + 1 /\ rb ≠ b0 + 1 + 1 := by omega
 have hsame : ∀ k, k < 32 -> nextX c k = c k := fun k hk => by
  unfold nextX setX
  rw [if_neg (by omega)]
 have hRi : R.i = i := by rw [hRd]
 have hRc : R.c = nextX c := by rw [hRd]
 have hRdd : R.d = c := by rw [hRd]
 have hend : ∀ (d : Nat -> Cq) (k e va : Nat) (w9 : World) (hx9 : Ext [q, pb] w8 w9), w9.heap[b0 + 1]? = some (.cells (cxC zeroX).toArray 42 (0, 0)) /\ w9.heap[b0 + 1 + 1]? = some (.cells [.int .i64 0, .int .i64 0, .int .u64 0, .int .i64 0, .int .i64 0, .int .i64 0, .int .i64 0, .int .i64 0].toArray 51 (0, 0)) /\ Ext [pb] w (World.upd (World.upd w9 (b0 + 1) (cxC d)) (b0 + 1 + 1) (ozC k e va i)) := by
  intro d k e va w9 hx9
  have n1 := hx9.at m1 (by simp; omega)
  have n2 := hx9.at m2 (by simp; omega)
  have ln1 := lt_of_at n1
  have ln2 := lt_of_at n2
  have hxo : Ext [b0 + 1, b0 + 1 + 1] w9 (World.upd (World.upd w9 (b0 + 1) (cxC d)) (b0 + 1 + 1) (ozC k e va i)) := qX
  have hxp : Ext [pb] w w9 := (hxw.mono (by simp)).trans hx9 (by simp; omega)
  exact ⟨n1, n2, hxp.trans hxo (by simp; omega)⟩
 refine runA_spec mr (by rw [hRi]; omega) (by rw [hRi]; omega) (by rw [hRd]; exact regX_ok hc _) (by rw [hRd]; exact regX_ok hc _) (by rw [hRdd]; exact hcp) (by rw [hRd]) mM hn (by omega) (fun k e va w9 hk hx9 => ?_) (fun d w9 hbs hsm hx9 => ?_) (fun x c' w9 hbs hnum hsm hx9 => ?_)
 ·rw [hRdd, hRi]
  have hh := hend c k e va w9 hx9
  have n1 := hh.1
  have n2 := hh.2.1
  have hxz := hh.2.2
  have ln1 := lt_of_at n1
  have ln2 := lt_of_at n2
  simp (disch := first | exact qD23 | fail) only [qG5, n1, n2, cx_over, cx_put, oz_over, oz_put, cx_sub, oz_sub]
  exact hT k e va i _ hk hxz
 ·rw [hRi] at hbs ⊢
  rw [hRc] at hsm
  have hh := hend d 0 0 0 w9 hx9
  have n1 := hh.1
  have n2 := hh.2.1
  have hxz := hh.2.2
  have ln1 := lt_of_at n1
  have ln2 := lt_of_at n2
  simp (disch := first | exact qD23 | fail) only [qG5, n1, n2, cx_over, cx_put, oz_over, oz_put, cx_sub, oz_sub]
  refine hR d i _ hiop hird (fun k hk _ => (hsm k hk).trans (hsame k hk)) (fun hn => ?_) hxz
  unfold numOp at hn
  unfold bsOp at hbs
  omega
 ·rw [hRi] at hbs hnum ⊢
  rw [hRc] at hsm
  have hh := hend (withX c' i.rd x) 0 0 0 w9 hx9
  have n1 := hh.1
  have n2 := hh.2.1
  have hxz := hh.2.2
  have ln1 := lt_of_at n1
  have ln2 := lt_of_at n2
  simp (disch := first | exact qD23 | fail) only [qG5, n1, n2, cx_over, cx_put, oz_over, oz_put, cx_sub, oz_sub]
  refine hR (withX c' i.rd x) i _ hiop hird (fun k hk hkk => ?_) (fun hn => ?_) hxz
  ·have hkr : k ≠ i.rd := hkk.elim (fun h => absurd h hbs) id
   rw [withX_ne hkr]
   exact (hsm k hk).trans (hsame k hk)
  ·rw [regX_with]
   split
   ·exact hnum hn
   ·exact ⟨rfl, rfl⟩
open Go.Fx
set_option maxRecDepth 100000
theorem qZ24 : type_of% (And.intro @szR (And.intro @cq_len (And.intro @cq_all (And.intro @cxC_len (And.intro @cxC_all (And.intro @plC_len (And.intro @plC_all (And.intro @dC_len (@dC_all))))))))) := ⟨@szR, @cq_len, @cq_all, @cxC_len, @cxC_all, @plC_len, @plC_all, @dC_len, @dC_all⟩
theorem qD24 {p : Prop} (h : p := by first | assumption | omega | (simp only [qZ24] <;> omega) | rfl | decide) : p := h
set_option maxHeartbeats 2000000 in
theorem builtG_spec {w : World} {ws : List Nat} {cs : List Cq} {v vk : Value} {c : Nat -> Cq} (hv : RowsAt w v 1 (ws.map u4C)) (hvk : RowsAt w vk 3 (cs.map cq)) (hl : ws.length <= 40) (h32 : ∀ x ∈ ws, x < 4294967296) (hok : ∀ x ∈ cs, Okq x) {K : Value -> World -> Prop}
  (hN : ∀ (rb : Nat) (L : List Value) (w' : World), L.length = 4 -> L.all (fun v => v.oneCell') = true -> sub L 0 4 = L -> Ext [] w w' -> K (.tuple #[.pointer (some ⟨rb, 0, none⟩), .agg L.toArray, .int .i64 0]) w')
  (hK : ∀ (rb pb : Nat) (L : List Value) (m g : Nat -> Int) (w' : World), Mem w' rb pb 3 m g -> L.length = 4 -> L.all (fun v => v.oneCell') = true -> sub L 0 4 = L -> Ext [] w w' -> w.heap.size <= rb -> w.heap.size <= pb -> K (.tuple #[.pointer (some ⟨rb, 0, none⟩), .agg L.toArray, .int .i64 1]) w') :
  callsK Tryz.prog 7 #[.agg (plC v c vk).toArray] w K := by
 obtain ⟨a0, c0, rfl⟩ := hv.len
 obtain ⟨ak, ck, rfl⟩ := hvk.len
 apply G7_ok
 unfold G7
 simp (disch := first | exact qD24 | fail) only [qG5, plC_sub]
 refine New_spec (n := 3) (by omega) fun w1 hM1 hx1 => ?_
 have e0 : ((w.alloc (.cells (plC (.slice a0 (List.map u4C ws).length c0) c (.slice ak (List.map cq cs).length ck)).toArray 45)).alloc (.cells [.int .i64 0, .slice none 0 0, .slice none 0 0, .slice none 0 0].toArray 35)).heap.size = w.heap.size + 2 := by simp only [szR]
 rw [e0] at hM1 ⊢
 have hx0 : Ext [] w w1 := Ext.trans (S := []) qX hx1 (by simp)
 have g0 : w1.heap[w.heap.size]? = some (.cells (plC (.slice a0 (List.map u4C ws).length c0) c (.slice ak (List.map cq cs).length ck)).toArray 45 (0, 0)) := hx1.at ((alloc_ne (by simp only [szR]; omega)).trans (alloc_at rfl)) (by simp)
 have g1 : w1.heap[w.heap.size + 1]? = some (.cells [.int .i64 0, .slice none 0 0, .slice none 0 0, .slice none 0 0].toArray 35 (0, 0)) := hx1.at (alloc_at (by simp only [szR])) (by simp)
 have hs1 := hM1.lt
 obtain ⟨rb, hrb⟩ : ∃ rb, rb = w.heap.size + 2 + 1 := ⟨_, rfl⟩
 obtain ⟨pb, hpb⟩ : ∃ pb, pb = w.heap.size + 2 := ⟨_, rfl⟩
 rw [<- hrb, <- hpb] at hM1 hs1
 rw [<- hrb]
 clear hx1 e0
 simp (disch := first | exact qD24 | fail) only [qG5]
 refine dNew_spec (n := 3) (by omega) fun w2 hD2 hx2 => ?_
 have hM2 := hM1.ext hx2 (by simp) (by simp)
 replace g0 := hx2.at g0 (by simp)
 replace g1 := hx2.at g1 (by simp)
 replace hx0 := hx0.trans hx2 (by simp)
 have lg0 := lt_of_at g0
 have lg1 := lt_of_at g1
 have lM2 := hM2.lt
 have hv2 := hv.ext hx0 (by simp)
 have hk2 := hvk.ext hx0 (by simp)
 have e1 := hv2.lenR (P := Tryz.prog) (t := 39) (ty := 3) Tryz.underlying39
 have e2 := hk2.lenR (P := Tryz.prog) (t := 43) (ty := 3) Tryz.underlying43
 rw [List.length_map] at e1 hv2
 rw [List.length_map] at e2 hk2
 rw [List.length_map, List.length_map] at g0
 have hl2 : ¬ ((ws.length : Nat) : Int) > 40 := by omega
 have hnil : ∀ (x y : Operand) w, (binV .eql 31 x y (.pointer (some ⟨rb, 0, none⟩)) (.pointer none)).run Tryz.prog w = .ok (.bool false) w := fun x y w => by kernel_rfl
 have hner : ∀ (x y : Operand) w, (binV .neq 75 x y (.int .i64 0) (.int .i64 0)).run Tryz.prog w = .ok (.bool false) w := fun x y w => by kernel_rfl
 obtain ⟨b7, hb7⟩ : ∃ b7, b7 = w2.heap.size := ⟨_, rfl⟩
 by_cases hck : ((cs.length : Nat) : Int) > 20
 ·simp (disch := first | exact qD24 | fail) only [qG5, joinBR, dC_over0, dC_put, g0, plC_0, plC_k, hnil, hner, g1, dC_sub]
  exact hN rb (dC 3 (.slice none 0 0) (.slice none 0 0) (.slice none 0 0)) _ (dC_len _ _ _ _) (dC_all _ _ _ _ _ _ _ _ _ _) (dC_sub _ _ _ _) qX
 simp (disch := first | exact qD24 | fail) only [qG5, joinBR, dC_over0, dC_put, g0, plC_0, plC_k, hnil, hner]
 have hx3 : Ext [] w2 (w2.alloc (.cells (dC 3 (.slice none 0 0) (.slice none 0 0) (.slice none 0 0)).toArray 35)) := Ext.alloc Ext.refl _ _
 have m7 : (w2.alloc (.cells (dC 3 (.slice none 0 0) (.slice none 0 0) (.slice none 0 0)).toArray 35)).heap[b7]? = some (.cells (dC 3 (.slice none 0 0) (.slice none 0 0) (.slice none 0 0)).toArray 35 (0, 0)) := alloc_at hb7
 rw [<- hb7]
 have n0 := hx3.at g0 (by simp)
 have n1 := hx3.at g1 (by simp)
 have nM := hM2.ext hx3 (by simp) (by simp)
 have nD := hD2.ext hx3 (by simp)
 have hx4 := hx0.trans hx3 (by simp)
 have hs3 : b7 + 1 <= (w2.alloc (.cells (dC 3 (.slice none 0 0) (.slice none 0 0) (.slice none 0 0)).toArray 35)).heap.size := by rw [hb7]; simp only [szR]; omega
 have hpw : w.heap.size <= pb /\ w.heap.size <= rb /\ w.heap.size <= b7 /\ w.heap.size ≠ b7 /\ w.heap.size + 1 ≠ b7 /\ w.heap.size ≠ pb /\ w.heap.size + 1 ≠ pb /\ rb ≠ b7 /\ pb ≠ b7 := by omega
 obtain ⟨hw1, hw2, hw3, hw4, hw5, hw6, hw7, hw8, hw9⟩ := hpw
 clear hx3 hb7 hD2 g0 g1 hM2 hx0
 generalize w2.alloc (.cells (dC 3 (.slice none 0 0) (.slice none 0 0) (.slice none 0 0)).toArray 35) = w3 at *
 refine loopT.intro (fun st w' => ∃ (k : Nat) (va vb vt : Value) (m g : Nat -> Int), k <= ws.length /\ st = [.int .i64 (k : Nat)] /\ Mem w' rb pb 3 m g /\ w'.heap[b7]? = some (.cells (dC 3 va vb vt).toArray 35 (0, 0)) /\ DZ w' (4 * k) 3 va vb vt /\ (∀ b, blockOf va = some b ∨ blockOf vb = some b ∨ blockOf vt = some b -> b7 < b /\ pb < b) /\ Ext [pb, b7] w3 w')
  (fun st _ => match st with
   | [.int _ z] => ws.length - z.toNat
   | _ => 0) ⟨0, _, _, _, _, _, by omega, rfl, nM, m7, nD, by simp [blockOf], Ext.refl⟩ ?_
 rintro st w4 ⟨k, va, vb, vt, m, g, hk, rfl, hM, h7, hD, hbD, hx⟩ _
 have hxw : Ext [] w w4 := hx4.trans hx (by simp; omega)
 have k0 := hx.at n0 (by simp; omega)
 have k1 := hx.at n1 (by simp; omega)
 have hsz := hx.size
 have hf := hD.form
 obtain ⟨a1, q1, c1, a2, q2, c2, a3, q3, c3, rfl, rfl, rfl⟩ := hf
 simp (disch := first | exact qD24 | fail) only [qG5, k0, plC_0]
 by_cases hkl : k < ws.length
 ·obtain ⟨x, hxk⟩ : ∃ x, ws[k]? = some x := ⟨ws[k], List.getElem?_eq_getElem hkl⟩
  have hx32 := h32 x (List.mem_of_getElem? hxk)
  have hr : (ws.map u4C)[k]? = some (u4C x) := by rw [List.getElem?_map, hxk]; rfl
  rw [List.length_map] at hv
  obtain ⟨b, o, l, E, f, hix, hb, hfit, hlt, hblk, hsub, hget⟩ := RowsAt.ixR (P := Tryz.prog) (t := 39) Tryz.underlying39 Tryz.sizeOf38 hv hr
  have gx := hget o 0 rfl (by omega)
  have ex : (u4C x)[0]? = some (.int .u32 (x : Nat)) := rfl
  rw [ex] at gx
  have hb4 := hxw.at hb (by simp)
  have e4 : (4 : Int) * k = ((4 * k : Nat) : Int) := by omega
  refine condK_bool (fun _ => ?_) (fun h => absurd h (by simp; omega))
  refine joinL.intro fun J6 hJ6 => ?_
  simp (disch := first | exact qD24 | fail) only [qG5, k0, plC_0, hix, hb4, gx, e4]
  refine Store_spec (n := 3) (a := 4 * k) (s := 4) (v := (x : Int)) hM (by omega) (by omega) (.inr (.inr (.inl rfl))) (by omega) (by omega) fun g' w5 hM5 hg hx5 => ?_
  have q0 := hx5.at k0 (by simp; omega)
  have q7 := hx5.at h7 (by simp; omega)
  have qb := hx5.at hb4 (by simp; omega)
  have hD5 := hD.ext hx5 (fun b hb hm => by have := hbD b hb; simp at hm; omega)
  simp (disch := first | exact qD24 | fail) only [qG5, dC_sub, q7, q0, plC_0, hix, qb, gx, e4, and_self]
  have hxdr : Ext [] w5 w5.drew := qX
  refine dStore_spec (n := 3) (hD5.ext hxdr (by simp)) (by omega) (by omega) (by omega) (by omega) fun va' vb' vt' w7 hD7 hf7 hx7 => ?_
  have hf := hD7.form
  refine Exists.elim hf fun a4 hf => Exists.elim hf fun q4 hf => Exists.elim hf fun c4 hf => Exists.elim hf fun a5 hf => Exists.elim hf fun q5 hf => Exists.elim hf fun c5 hf => Exists.elim hf fun a6 hf => Exists.elim hf fun q6 hf => Exists.elim hf fun c6 hf => ?_
  have f1 := hf.1
  have f2 := hf.2.1
  have f3 := hf.2.2
  clear hf
  subst f1 f2 f3
  have hx57 := hxdr.trans hx7 (by simp)
  replace q0 := hx57.at q0 (by simp)
  replace q7 := hx57.at q7 (by simp)
  have l7 := lt_of_at q7
  simp (disch := first | exact qD24 | fail) only [qG5, q7, dC_over, dC_put2]
  apply hJ6
  intro _
  simp (disch := first | exact qD24 | fail) only [qG5]
  have hxu : Ext [b7] w7 (World.upd w7 b7 (dC 3 (.slice a4 q4 c4) (.slice a5 q5 c5) (.slice a6 q6 c6))) := qX
  have hxv : Ext [pb, b7] w4 (World.upd w7 b7 (dC 3 (.slice a4 q4 c4) (.slice a5 q5 c5) (.slice a6 q6 c6))) := ((hx5.mono (by simp)).step (hx57.mono (by simp))).step (hxu.mono (by simp))
  have hs5 := hx5.size
  have hsd : w5.drew.heap.size = w5.heap.size := rfl
  have hlM := hM.lt
  have hbn : ∀ b, blockOf (.slice a4 q4 c4) = some b ∨ blockOf (.slice a5 q5 c5) = some b ∨ blockOf (.slice a6 q6 c6) = some b -> b7 < b /\ pb < b := fun b hb => by
   have := hf7 b hb
   omega
  refine ⟨⟨k + 1, _, _, _, _, g', by omega, rfl, (hM5.ext hx57 (by simp) (by simp)).ext hxu (by simp; omega) (by simp; omega), by first | exact upd_at q7 | (rw [q7]; rfl), hD7.ext hxu (fun b hb hm => by have := hbn b hb; simp at hm; omega), hbn, hx.step hxv⟩, by first | omega | (simp <;> omega)⟩
 ·obtain rfl : k = ws.length := by omega
  refine condK_bool (fun h => absurd h (by simp)) (fun _ => ?_)
  rw [List.length_map] at hvk
  refine loopT.intro (fun st w' => ∃ (k : Nat) (va vb vt : Value) (m g : Nat -> Int), k <= cs.length /\ st = [.int .i64 (k : Nat)] /\ Mem w' rb pb 3 m g /\ w'.heap[b7]? = some (.cells (dC 3 va vb vt).toArray 35 (0, 0)) /\ DZ w' (160 + 17 * k) 3 va vb vt /\ (∀ b, blockOf va = some b ∨ blockOf vb = some b ∨ blockOf vt = some b -> b7 < b /\ pb < b) /\ Ext [pb, b7] w3 w')
   (fun st _ => match st with
    | [.int _ z] => cs.length - z.toNat
    | _ => 0) ⟨0, _, _, _, m, g, by omega, rfl, hM, h7, hD.le (by omega), hbD, hx⟩ ?_
  clear hM h7 hD hbD hx hxw k0 k1 hsz
  clear m g
  rintro st w4 ⟨k, va, vb, vt, m, g, hk, rfl, hM, h7, hD, hbD, hx⟩ _
  have hxw : Ext [] w w4 := hx4.trans hx (by simp; omega)
  have k0 := hx.at n0 (by simp; omega)
  have k1 := hx.at n1 (by simp; omega)
  have hsz := hx.size
  have hf := hD.form
  obtain ⟨a1, q1, c1, a2, q2, c2, a3, q3, c3, rfl, rfl, rfl⟩ := hf
  simp (disch := first | exact qD24 | fail) only [qG5, k0, plC_k]
  by_cases hkl : k < cs.length
  ·obtain ⟨y, hyk⟩ : ∃ y, cs[k]? = some y := ⟨cs[k], List.getElem?_eq_getElem hkl⟩
   have hyo := hok y (List.mem_of_getElem? hyk)
   have hr : (cs.map cq)[k]? = some (cq y) := by rw [List.getElem?_map, hyk]; rfl
   obtain ⟨b, o, l, E, f, hix, hb, hfit, hlt, hblk, hsub, hget⟩ := RowsAt.ixR (P := Tryz.prog) (t := 43) Tryz.underlying43 Tryz.sizeOf24 hvk hr
   have hsb := hsub o rfl
   have hb4 := hxw.at hb (by simp)
   have e4 : (16 : Int) * k = ((16 * k : Nat) : Int) := by omega
   have e5 : (4096 : Int) + ((16 * k : Nat) : Int) = ((4096 + 16 * k : Nat) : Int) := by omega
   refine condK_bool (fun _ => ?_) (fun h => absurd h (by simp; omega))
   refine joinL.intro fun J6 hJ6 => ?_
   simp (disch := first | exact qD24 | fail) only [qG5, k0, plC_k, hix, hb4, hsb, e4, e5]
   refine StoreCap_spec (n := 3) (a := 4096 + 16 * k) (t := y.t) (mt := y.m) (ad := y.a) hM (by omega) (by omega) (by omega) ⟨by omega, by have := hyo.1; omega⟩ ⟨by omega, by have := hyo.2; omega⟩ fun g' w5 hM5 hg hx5 => ?_
   have q0 := hx5.at k0 (by simp; omega)
   have q7 := hx5.at h7 (by simp; omega)
   have qb := hx5.at hb4 (by simp; omega)
   have hD5 := hD.ext hx5 (fun b hb hm => by have := hbD b hb; simp at hm; omega)
   simp (disch := first | exact qD24 | fail) only [qG5, dC_sub, q7, q0, plC_k, hix, qb, hsb, e4, e5, and_self]
   have hxdr : Ext [] w5 w5.drew := qX
   refine dStoreCap_spec (n := 3) (a := 4096 + 16 * k) (hD5.ext hxdr (by simp)) (by omega) (by omega) (by omega) (by omega) fun va' vb' vt' w7 hD7 hf7 hx7 => ?_
   have hf := hD7.form
   refine Exists.elim hf fun a4 hf => Exists.elim hf fun q4 hf => Exists.elim hf fun c4 hf => Exists.elim hf fun a5 hf => Exists.elim hf fun q5 hf => Exists.elim hf fun c5 hf => Exists.elim hf fun a6 hf => Exists.elim hf fun q6 hf => Exists.elim hf fun c6 hf => ?_
   have f1 := hf.1
   have f2 := hf.2.1
   have f3 := hf.2.2
   clear hf
   subst f1 f2 f3
   have hx57 := hxdr.trans hx7 (by simp)
   replace q0 := hx57.at q0 (by simp)
   replace q7 := hx57.at q7 (by simp)
   have l7 := lt_of_at q7
   simp (disch := first | exact qD24 | fail) only [qG5, q7, dC_over, dC_put2]
   apply hJ6
   intro _
   simp (disch := first | exact qD24 | fail) only [qG5]
   have hxu : Ext [b7] w7 (World.upd w7 b7 (dC 3 (.slice a4 q4 c4) (.slice a5 q5 c5) (.slice a6 q6 c6))) := qX
   have hxv : Ext [pb, b7] w4 (World.upd w7 b7 (dC 3 (.slice a4 q4 c4) (.slice a5 q5 c5) (.slice a6 q6 c6))) := ((hx5.mono (by simp)).step (hx57.mono (by simp))).step (hxu.mono (by simp))
   have hs5 := hx5.size
   have hsd : w5.drew.heap.size = w5.heap.size := rfl
   have hlM := hM.lt
   have hbn : ∀ b, blockOf (.slice a4 q4 c4) = some b ∨ blockOf (.slice a5 q5 c5) = some b ∨ blockOf (.slice a6 q6 c6) = some b -> b7 < b /\ pb < b := fun b hb => by
    have := hf7 b hb
    omega
   refine ⟨⟨k + 1, _, _, _, _, g', by omega, rfl, (hM5.ext hx57 (by simp) (by simp)).ext hxu (by simp; omega) (by simp; omega), by first | exact upd_at q7 | (rw [q7]; rfl), hD7.ext hxu (fun b hb hm => by have := hbn b hb; simp at hm; omega), hbn, hx.step hxv⟩, by first | omega | (simp <;> omega)⟩
  ·obtain rfl : k = cs.length := by omega
   refine condK_bool (fun h => absurd h (by simp)) (fun _ => ?_)
   have l0 := lt_of_at k0
   have l1 := lt_of_at k1
   simp (disch := first | exact qD24 | fail) only [qG5, h7, dC_sub, k1, dC_over0, dC_put]
   have hxz : Ext [w.heap.size + 1] w4 (World.upd w4.drew (w.heap.size + 1) (dC 3 (.slice a1 q1 c1) (.slice a2 q2 c2) (.slice a3 q3 c3))) := qX
   exact hK rb pb (dC 3 (.slice a1 q1 c1) (.slice a2 q2 c2) (.slice a3 q3 c3)) m g _ (hM.ext hxz (by simp; omega) (by simp; omega)) (dC_len _ _ _ _) (dC_all _ _ _ _ _ _ _ _ _ _) (dC_sub _ _ _ _) (hxw.trans hxz (by simp)) hw2 hw1
open Go.Fx
set_option maxRecDepth 100000
theorem resV_run {r : Result Value} {w' : World} {v : Value} {K : Value -> World -> Prop} (h : r = .ok v w') (hk : K v w') : resV K r := by
 rw [h]
 exact hk
theorem qZ25 : type_of% (And.intro @szR (And.intro @fdsC_len (And.intro @fdsC_all (And.intro @spC_len (And.intro @spC_all (And.intro @cpC_len (And.intro @vwC_len (And.intro @cpC_all (And.intro @vwC_all (And.intro @cq_len (@cq_all))))))))))) := ⟨@szR, @fdsC_len, @fdsC_all, @spC_len, @spC_all, @cpC_len, @vwC_len, @cpC_all, @vwC_all, @cq_len, @cq_all⟩
theorem qD25 {p : Prop} (h : p := by first | assumption | omega | (simp only [qZ25] <;> omega) | rfl | decide) : p := h
theorem len64_spec {w : World} {K : Value -> World -> Prop} (hK : K (.int .i64 13) w) : callsK Tryz.prog 109 #[.int .u64 4096] w K := by
 apply F109_ok
 unfold F109
 refine joinL.intro fun J0 hJ0 => ?_
 simp (disch := first | exact qD25 | fail) only [qG3, Int.reduceLE]
 apply hJ0
 intro _
 refine joinL.intro fun J2 hJ2 => ?_
 simp (disch := first | exact qD25 | fail) only [qG3, Int.reduceLE]
 apply hJ2
 intro _
 refine joinL.intro fun J4 hJ4 => ?_
 simp (disch := first | exact qD25 | fail) only [qG3, Int.reduceToNat, Int.reduceAdd, Int.reduceLE]
 apply hJ4
 intro _
 simp (disch := first | exact qD25 | fail) only [qG3]
 refine resV_run (v := .int .u8 5) (w' := w) (by kernel_rfl) ?_
 simp (disch := first | exact qD25 | fail) only [qG3, Int.reduceAdd, List.getD_cons_succ, List.getD_cons_zero]
 exact hK
theorem log_spec {w : World} {K : Value -> World -> Prop} (hK : K (.int .i64 12) w) : callsK Tryz.prog 88 #[.int .u64 4096] w K := by
 apply F88_ok
 unfold F88
 simp (disch := first | exact qD25 | fail) only [qG3]
 refine len64_spec ?_
 simp (disch := first | exact qD25 | fail) only [qG3, Int.reduceSub]
 exact hK
theorem unit_spec {w : World} {K : Value -> World -> Prop} (hK : K (.int .u64 0) w) : callsK Tryz.prog 124 #[.int .i64 0] w K := by
 apply F124_ok
 unfold F124
 simp (disch := first | exact qD25 | fail) only [qG3, Int.reduceLE]
 exact hK
theorem up_spec {w : World} {K : Value -> World -> Prop} (hK : K (.tuple #[.int .u64 8192, .bool true]) w) : callsK Tryz.prog 110 #[.int .u64 8192, .int .i64 0] w K := by
 apply F110_ok
 unfold F110
 simp (disch := first | exact qD25 | fail) only [qG3]
 refine unit_spec ?_
 have e : bitI .and .u64 8192 0 = 0 := by decide
 simp (disch := first | exact qD25 | fail) only [qG3, e]
 exact hK
theorem down_spec {w : World} {K : Value -> World -> Prop} (hK : K (.int .u64 4096) w) : callsK Tryz.prog 111 #[.int .u64 4096, .int .i64 0] w K := by
 apply F111_ok
 unfold F111
 simp (disch := first | exact qD25 | fail) only [qG3]
 refine unit_spec ?_
 have e : bitI .andNot .u64 4096 0 = 4096 := by decide
 simp (disch := first | exact qD25 | fail) only [qG3, e]
 exact hK
theorem kept_spec {w : World} {K : Value -> World -> Prop} (hK : ∀ w', Ext [] w w' -> K (.tuple #[.agg [.int .u64 4096, .int .u64 8192].toArray, .int .u64 4096]) w') : callsK Tryz.prog 89 #[.agg [.int .u64 4096, .int .u64 8192].toArray, .int .i64 0] w K := by
 apply F89_ok
 unfold F89
 simp (disch := first | exact qD25 | fail) only [qG3]
 refine up_spec ?_
 simp (disch := first | exact qD25 | fail) only [qG3]
 refine down_spec ?_
 have hb : ∀ w, (Instr.build 26 #[(0, .int .u64 4096), (1, .int .u64 8192)]).run Tryz.prog w = .ok (.agg [.int .u64 4096, .int .u64 8192].toArray) w := fun w => run_build w 26 _ _ (by kernel_rfl)
 simp (disch := first | exact qD25 | fail) only [qG3, Nat.reduceAdd, hb]
 have hx0 : Ext [] w (((w.alloc (.cells [.int .u64 4096, .int .u64 8192].toArray 26)).alloc (.cells [.int .u64 0, .int .u64 0].toArray 26)).alloc (.cells [.int .u64 4096, .int .u64 8192].toArray 26)).drew := qX
 have g1 : (((w.alloc (.cells [.int .u64 4096, .int .u64 8192].toArray 26)).alloc (.cells [.int .u64 0, .int .u64 0].toArray 26)).alloc (.cells [.int .u64 4096, .int .u64 8192].toArray 26)).drew.heap[w.heap.size + 1]? = some (.cells [.int .u64 0, .int .u64 0].toArray 26 (0, 0)) := (by first | with_reducible rfl | assumption | (simp (disch := first | exact qD25 | fail) only [qG3] <;> rfl))
 have g2 : (((w.alloc (.cells [.int .u64 4096, .int .u64 8192].toArray 26)).alloc (.cells [.int .u64 0, .int .u64 0].toArray 26)).alloc (.cells [.int .u64 4096, .int .u64 8192].toArray 26)).drew.heap[w.heap.size + 1 + 1]? = some (.cells [.int .u64 4096, .int .u64 8192].toArray 26 (0, 0)) := (by first | with_reducible rfl | assumption | (simp (disch := first | exact qD25 | fail) only [qG3] <;> rfl))
 generalize (((w.alloc (.cells [.int .u64 4096, .int .u64 8192].toArray 26)).alloc (.cells [.int .u64 0, .int .u64 0].toArray 26)).alloc (.cells [.int .u64 4096, .int .u64 8192].toArray 26)).drew = w1 at *
 refine relX.one (w.heap.size + 1) (.cells [.int .u64 4096, .int .u64 8192].toArray 26 (0, 0)) ?_
 (apply postX.is; (focus (intro v w2 hR hd; have e0 := hR.1.at g2 (by simp; try omega); (try simp (disch := first | exact qD25 | fail) only [qG3, hd, e0]); exact okX.one)))
 (apply postX.is; (focus (intro v w2 hR hd; have e0 := hR.1.at g2 (by simp; try omega); (try simp (disch := first | exact qD25 | fail) only [qG3, hd, e0]); exact okX.one)))
 (apply postX.is; (focus (intro v w2 hR hd; have e0 := hR.1.at g2 (by simp; try omega); (try simp (disch := first | exact qD25 | fail) only [qG3, hd, e0]); exact okX.one)))
 (apply postX.is; (focus (intro v w2 hR hd; have e0 := hR.1.at g2 (by simp; try omega); (try simp (disch := first | exact qD25 | fail) only [qG3, hd, e0]); exact okX.one)))
 (apply postX.is; (focus (intro v w2 hR hd; have e0 := hR.1.at g2 (by simp; try omega); (try simp (disch := first | exact qD25 | fail) only [qG3, hd, e0]); exact okX.one)))
 (apply postX.is; (focus (intro v w2 hR hd; (try simp (disch := first | exact qD25 | fail) only [qG3, Int.reduceSub, hd]); exact okX.one)))
 (apply postX.is; (focus (intro v w2 hR hd; (try simp (disch := first | exact qD25 | fail) only [qG3, Nat.reduceAdd, Nat.reduceLeDiff, Int.reduceToNat, Int.reduceAdd, Int.reduceSub, Int.reduceLT, Int.reduceLE, Nat.reduceSub, Nat.reduceMul, Nat.reduceEqDiff, hd]); exact okX.one)))
 (apply postX.is; (focus (intro v w2 hR hd; (try simp (disch := first | exact qD25 | fail) only [qG3, Int.reduceToNat, hd]); exact okX.one)))
 refine postX.intro (fun _ w' => w'.heap[w.heap.size + 1]? = some (.cells [.int .u64 4096, .int .u64 8192].toArray 26 (0, 0))) (fun _ w2 w' hR h => by rcases hR.2 _ h with h | h <;> exact h) (fun v w2 hR hd => ?_) ?_
 ·rcases hR.2 _ g1 with e | e
  ·have le := lt_of_at e
   simp (disch := first | exact qD25 | fail) only [qG3, Nat.reduceAdd, hd, e]
   have hxe : Ext [w.heap.size + 1] w2 (World.upd w2 (w.heap.size + 1) [.int .u64 4096, .int .u64 8192]) := qX
   exact okX.mk ⟨hxe, fun x _ => .inr (upd_at e)⟩ (upd_at e)
  ·have le := lt_of_at e
   simp (disch := first | exact qD25 | fail) only [qG3, Nat.reduceAdd, hd, e]
   have hxe : Ext [w.heap.size + 1] w2 (World.upd w2 (w.heap.size + 1) [.int .u64 4096, .int .u64 8192]) := qX
   exact okX.mk ⟨hxe, fun x _ => .inr (upd_at e)⟩ (upd_at e)
 intro v w2 hR hd _
 obtain ⟨-, -, -, -, -, -, -, d, ⟨-, e⟩, -⟩ := hd
 simp (disch := first | exact qD25 | fail) only [qG3, d, e]
 exact hK _ (hx0.trans hR.1 (by simp))
theorem choose_spec {w : World} {K : Value -> World -> Prop} (hK : ∀ w', Ext [] w w' -> K (.tuple #[.int .u64 1, .agg [.int .u64 4096, .int .u64 8192].toArray]) w') : callsK Tryz.prog 48 #[.agg [.int .u64 4096, .int .u64 8192].toArray] w K := by
 apply F48_ok
 unfold F48
 simp (disch := first | exact qD25 | fail) only [qG3, Int.reduceSub, Int.reduceLT]
 refine log_spec ?_
 simp (disch := first | exact qD25 | fail) only [qG3, Int.reduceSub]
 refine kept_spec fun w1 hx1 => ?_
 have h1 : w1.heap[w.heap.size + 1]? = some (.cells [.int .u64 0, .int .u64 0].toArray 26 (0, 0)) := hx1.at (alloc_at (by simp only [szR])) (by simp)
 have l1 := lt_of_at h1
 have hx2 : Ext [] w w1 := Ext.trans (S := []) qX hx1 (by simp)
 simp (disch := first | exact qD25 | fail) only [qG3, Nat.reduceAdd]
 refine joinL.intro fun J0 hJ0 => ?_
 simp (disch := first | exact qD25 | fail) only [qG3, Int.reduceLE]
 apply hJ0
 intro _
 simp (disch := first | exact qD25 | fail) only [qG3, Nat.reduceAdd, Int.reduceAdd, h1, List.getD_cons_zero]
 exact hK _ qX
open Go.Fx
set_option maxRecDepth 100000
/-- the capability of a program's words, where it is. -/
def pcM : Nat := 17180917760
def pcQ (a : Nat) : Cq := ⟨true, pcM, a⟩
def begX : Nat -> Cq := setX zeroX 32 (pcQ 0)
theorem dec_of {W k : Nat} (i : In) (hW : W < 4294967296) (hk : k < 69) (hne : (List.range k).all (fun j => decide (W &&& fixM (row j) ≠ fixW (row j))) = true) (heq : decide (W &&& fixM (row k) = fixW (row k)) = true) (hs : (row k).s = 73 ∨ (row k).s = 83) (hlt : decide ((pcsOf (row k).s).foldl (pcN W) 0 < 2 ^ 11) = true) (hi : ofW W k (row k).s = i) :
  ∀ (w : World) (K : Value -> World -> Prop), (∀ w', Ext [] w w' -> K (.tuple #[.agg (inC i).toArray, .bool true]) w') -> callsK Tryz.prog 31 #[.int .u32 (W : Nat)] w K := fun w K hK => by
 refine iDecode_spec hW hk (fun j hj => ?_) (of_decide_eq_true heq) hs (of_decide_eq_true hlt) (by rw [hi]; exact hK)
 exact of_decide_eq_true (List.all_eq_true.1 hne j (List.mem_range.2 hj))
def iAddi : In := ⟨22, 1, 0, 0, 5⟩
theorem dec_addi : ∀ (w : World) (K : Value -> World -> Prop), (∀ w', Ext [] w w' -> K (.tuple #[.agg (inC iAddi).toArray, .bool true]) w') -> callsK Tryz.prog 31 #[.int .u32 (5243027 : Nat)] w K := dec_of (W := 5243027) (k := 21) iAddi (by omega) (by omega) (by kernel_rfl) (by kernel_rfl) (.inl (by kernel_rfl)) (by kernel_rfl) (by kernel_rfl)
theorem pc_sp {a : Nat} (h : a <= 64) : spM pcM a = some (0, 64) := by
 unfold spM spn
 rw [show pcM % 16384 = 0 from by kernel_rfl, show pcM / 16384 % 4096 = 64 from by kernel_rfl, show pcM / 67108864 % 64 = 0 from by kernel_rfl]
 rw [show (0 : Nat) - 1 = 0 by omega, Nat.pow_zero, Nat.div_one, Nat.div_one]
 rw [if_neg (by omega), if_neg (by omega), if_neg (by simp <;> omega), Nat.mul_one, Nat.mul_one]
 congr 2 <;> first | omega | (simp <;> omega)
theorem pc_right {a : Nat} (h : a <= 64) : rightM pcM a = true := by
 unfold rightM
 rw [pc_sp h]
 kernel_rfl
theorem pc_open {a : Nat} (h : a <= 64) : openM true pcM a = true := by
 unfold openM
 rw [pc_right h]
 kernel_rfl
theorem pc_move {a b : Nat} (h : a <= 64) (hb : b <= 64) : moveT true pcM a b = true := by
 unfold moveT
 rw [pc_open h, pc_sp h, pc_sp hb]
 kernel_rfl
theorem pc_chk {a : Nat} (h : a <= 60) : chkN true pcM a 0 4 = 0 := by
 unfold chkN
 rw [pc_open (by omega), pc_right (by omega), pc_sp (by omega)]
 rw [if_neg (by simp), if_neg (by simp), if_neg (by rw [show pwN (needN 0) (pcM / 4294967296 % 512) = true from by kernel_rfl]; simp), if_pos ⟨Nat.zero_le _, by show a + 4 <= 64; omega⟩]
theorem pc_lim {a : Nat} (h : a <= 64) : spB (spM pcM a) < 18446744073709551616 /\ spT (spM pcM a) < 18446744073709551616 := by
 rw [pc_sp h]
 decide
theorem pc_next {c : Nat -> Cq} {a : Nat} (hc : c 32 = pcQ a) (h : a <= 60) : nextX c = setX c 32 (pcQ (a + 4)) := by
 unfold nextX
 rw [hc]
 have e : (a + 4) % 18446744073709551616 = a + 4 := Nat.mod_eq_of_lt (by omega)
 show setX c 32 ⟨moveT true pcM a ((a + 4) % 18446744073709551616), pcM, (a + 4) % 18446744073709551616⟩ = _
 rw [e, pc_move (by omega) (by omega)]
 rfl
/-- a step where the program's words are. -/
theorem Step_at {w : World} {rb pb a W k e va : Nat} {c d : Nat -> Cq} {i : In} {m g m' : Nat -> Int} {Q : (Nat -> Int) -> Prop} (hM : Mem w rb pb 3 m g) (hc : c 32 = pcQ a) (ha : a <= 60) (hal : a % 4 = 0) (hW : leN m a 4 = W)
  (h1 : i.r1 < 9223372036854775808) (h2 : i.r2 < 9223372036854775808)
  (hD : ∀ (w : World) (K : Value -> World -> Prop), (∀ w', Ext [] w w' -> K (.tuple #[.agg (inC i).toArray, .bool true]) w') -> callsK Tryz.prog 31 #[.int .u32 (W : Nat)] w K)
  (hrun : ∀ (q : Nat) (w1 : World) (K : Value -> World -> Prop), w1.heap[q]? = some (.cells (rnC ⟨setX c 32 (pcQ (a + 4)), c, flV rb, flV_one rb, i, regX c i.r1, regX c i.r2⟩).toArray 91 (0, 0)) -> Mem w1 rb pb 3 m g -> (∀ g' w2, Q g' -> Mem w2 rb pb 3 m' g' -> Ext [q, pb] w1 w2 -> K (.tuple #[.agg (cxC d).toArray, .agg (ouC k e va i).toArray]) w2) -> callsK Tryz.prog 32 #[.pointer (some ⟨q, 0, none⟩)] w1 K)
  {K : Value -> World -> Prop} (hK : ∀ g' w', Q g' -> Mem w' rb pb 3 m' g' -> Ext [pb] w w' -> K (.tuple #[.agg (cxC d).toArray, .agg (ouC k e va i).toArray]) w') :
  callsK Tryz.prog 10 #[.agg (cxC c).toArray, flV rb] w K := by
 have hm : (c 32).m = pcM := by rw [hc]; rfl
 have haa : (c 32).a = a := by rw [hc]; rfl
 have ht : (c 32).t = true := by rw [hc]; rfl
 have hl := pc_lim (a := a) (by omega)
 refine Step_spec (n := 3) hM (by omega) (by rw [hm]; decide) (by rw [haa]; omega) (by rw [hm, haa]; exact hl.1) (by rw [hm, haa]; exact hl.2) (by rw [ht, hm, haa]; exact pc_chk ha) (by rw [haa]; exact hal) (by rw [haa]; exact hW) h1 h2 hD ?_ hK
 rw [pc_next hc ha]
 exact hrun
instance : DecidableEq Cq := fun a b => by
 cases a; cases b
 rw [Cq.mk.injEq]
 exact inferInstance
theorem cq_eql (x y : Cq) (p q : Operand) (w : World) : (binV .eql 24 p q (.agg (cq x).toArray) (.agg (cq y).toArray)).run Tryz.prog w = .ok (.bool (decide (x = y))) w := by
 have h := RX_eql_24 x.t y.t x.m y.m x.a y.a p q w
 have e : decide (x = y) = ((x.t == y.t) && (((x.m : Int) == y.m) && (((x.a : Int) == y.a) && true))) := by
  obtain ⟨t, m, a⟩ := x
  obtain ⟨t2, m2, a2⟩ := y
  rw [Bool.eq_iff_iff]
  simp
  omega
 rw [e]
 exact h
theorem plC_build (b : Nat) (n : Nat) (w : World) : (Instr.build 45 #[(0, .slice (some ⟨b, 0, none⟩) n n)]).run Tryz.prog w = .ok (.agg (plC (.slice (some ⟨b, 0, none⟩) n n) zeroX (.slice none 0 0)).toArray) w := run_build w 45 _ _ (by kernel_rfl)
theorem pc_build (w : World) : (Instr.build 24 #[(0, .bool true), (1, .int .u64 17180917760)]).run Tryz.prog w = .ok (.agg (cq (pcQ 0)).toArray) w := run_build w 24 _ _ (by kernel_rfl)
theorem fl_build (rb : Nat) (w : World) : (Instr.build 55 #[(0, .pointer (some ⟨rb, 0, none⟩))]).run Tryz.prog w = .ok (.agg [.pointer (some ⟨rb, 0, none⟩)].toArray) w := run_build w 55 _ _ (by kernel_rfl)
theorem fl_iface (rb : Nat) (w : World) : (Instr.makeInterface 55 (.agg [.pointer (some ⟨rb, 0, none⟩)].toArray)).run Tryz.prog w = .ok (flV rb) w := by kernel_rfl
theorem Mem.neH {w : World} {q rb pb n : Nat} {r : Rn} {m g : Nat -> Int} (h : Mem w rb pb n m g) (hr : w.heap[q]? = some (.cells (rnC r).toArray 91 (0, 0))) : q ≠ rb := by
 rintro rfl
 have h1 := h.head
 rw [hr] at h1
 simp only [Option.some.injEq, Obj.cells.injEq] at h1
 exact absurd h1.2.1 (by decide)
theorem Mem.run {w w' : World} {q rb pb n : Nat} {r : Rn} {m g : Nat -> Int} (h : Mem w rb pb n m g) (hr : w.heap[q]? = some (.cells (rnC r).toArray 91 (0, 0))) (hx : Ext [q] w w') : Mem w' rb pb n m g :=
 h.ext hx (by have := h.neH hr; simp; exact fun e => this e.symm) (by have := h.neR hr; simp; exact fun e => this e.symm)
theorem two_put (w : World) (d : Nat -> Cq) (o : List Value) : Ext [] w (World.upd (World.upd ((w.alloc (.cells (cxC zeroX).toArray 42)).alloc (.cells [.int .i64 0, .int .i64 0, .int .u64 0, .int .i64 0, .int .i64 0, .int .i64 0, .int .i64 0, .int .i64 0].toArray 51)) w.heap.size (cxC d)) (w.heap.size + 1) o) /\ (World.upd (World.upd ((w.alloc (.cells (cxC zeroX).toArray 42)).alloc (.cells [.int .i64 0, .int .i64 0, .int .u64 0, .int .i64 0, .int .i64 0, .int .i64 0, .int .i64 0, .int .i64 0].toArray 51)) w.heap.size (cxC d)) (w.heap.size + 1) o).heap[w.heap.size]? = some (.cells (cxC d).toArray 42 (0, 0)) /\ (World.upd (World.upd ((w.alloc (.cells (cxC zeroX).toArray 42)).alloc (.cells [.int .i64 0, .int .i64 0, .int .u64 0, .int .i64 0, .int .i64 0, .int .i64 0, .int .i64 0, .int .i64 0].toArray 51)) w.heap.size (cxC d)) (w.heap.size + 1) o).heap[w.heap.size + 1]? = some (.cells o.toArray 51 (0, 0)) := by
 have h1 := two_1 w
 have h2 := two_2 w
 have hx := two_x w
 refine ⟨?_, (upd_ne (by omega)).trans (upd_at h1), upd_at ((upd_ne (by omega)).trans h2)⟩
 have hs : ((w.alloc (.cells (cxC zeroX).toArray 42)).alloc (.cells [.int .i64 0, .int .i64 0, .int .u64 0, .int .i64 0, .int .i64 0, .int .i64 0, .int .i64 0, .int .i64 0].toArray 51)).heap.size = w.heap.size + 2 := by simp only [szR]
 generalize ((w.alloc (.cells (cxC zeroX).toArray 42)).alloc (.cells [.int .i64 0, .int .i64 0, .int .u64 0, .int .i64 0, .int .i64 0, .int .i64 0, .int .i64 0, .int .i64 0].toArray 51)) = w1 at *
 have hxo : Ext [w.heap.size, w.heap.size + 1] w1 (World.upd (World.upd w1 w.heap.size (cxC d)) (w.heap.size + 1) o) := qX
 exact hx.trans hxo (by simp)
theorem qZ26 : type_of% (And.intro @szR (And.intro @cq_len (And.intro @cq_all (And.intro @cxC_len (And.intro @cxC_all (And.intro @inC_len (And.intro @inC_all (And.intro @rnC_len (And.intro @rnC_all (And.intro @ouC_len (And.intro @ouC_all (And.intro @vwC_len (And.intro @vwC_all (And.intro @plC_len (@plC_all))))))))))))))) := ⟨@szR, @cq_len, @cq_all, @cxC_len, @cxC_all, @inC_len, @inC_all, @rnC_len, @rnC_all, @ouC_len, @ouC_all, @vwC_len, @vwC_all, @plC_len, @plC_all⟩
theorem qD26 {p : Prop} (h : p := by first | assumption | omega | (simp only [qZ26] <;> omega) | rfl | decide) : p := h
theorem one_spec {w : World} {K : Value -> World -> Prop} (hK : ∀ w', Ext [] w w' -> K (.bool true) w') : callsK Tryz.prog 12 #[] w K := by
 apply F12_ok
 unfold F12
 have hx0 : Ext [] w (w.alloc (.cells [.int .u32 5243027].toArray 38)) := qX
 have hv : RowsAt (w.alloc (.cells [.int .u32 5243027].toArray 38)) (.slice (some ⟨w.heap.size, 0, none⟩) 1 1) 1 ([5243027].map u4C) := RowsAt.one (l := u4C 5243027) (alloc_at rfl) rfl
 simp (disch := first | exact qD26 | fail) only [qG3, plC_build]
 refine built_spec (ws := [5243027]) hv (by simp) (by simp) fun rb pb L m g w1 hM1 hW hLl hLa hLs hx1 hrb hpb => ?_
 have hW0 : leN m 0 4 = 5243027 := hW 0 5243027 (by simp) rfl
 have hsp := splice_all (l := [.int .i64 0, .slice none 0 0, .slice none 0 0, .slice none 0 0]) (vs := L) (by rw [hLl]; rfl)
 have hdr := drop_all (l := [.int .i64 0, .slice none 0 0, .slice none 0 0, .slice none 0 0]) (vs := L) (by rw [hLl]; rfl)
 have hx2 := hx0.trans hx1 (by simp)
 simp (disch := first | exact qD26 | fail) only [qG3, Nat.reduceAdd, hLl, hLa, hLs, hsp, hdr, pc_build, cq_over0, cq_put, cq_sub]
 have hx3 : Ext [] w1 ((w1.alloc (.cells L.toArray 35)).alloc (.cells (cq (pcQ 0)).toArray 24)) := qX
 refine Zero_reg (x := pcQ 0) fun w2 hx4 => ?_
 have hxa := hx3.trans hx4 (by simp)
 have hM2 := hM1.ext hxa (by simp) (by simp)
 have hx5 := hx2.trans hxa (by simp)
 simp (disch := first | exact qD26 | fail) only [qG3, fl_build, fl_iface]
 refine Step_at (a := 0) (W := 5243027) (i := iAddi) (d := setX (setX begX 32 (pcQ 4)) 1 ⟨false, 0, 5⟩) (k := 0) (e := 0) (va := 0) (m' := m) (Q := fun _ => True) hM2 rfl (by omega) (by omega) hW0 (by decide) (by decide) dec_addi (fun q w3 K hq hM3 hK3 => ?_) fun g' w3 hQ hM3 hx6 => ?_
 ·refine runAddi_spec hq rfl (by show 1 < 9223372036854775808; decide) (by show 5 < 9223372036854775808; decide) (by show 0 + 5 < 18446744073709551616; decide) fun w4 hx7 => ?_
  exact hK3 g w4 trivial (hM3.run hq hx7) (hx7.mono (by simp))
 simp only [szR] at hpb
 have hx8 : Ext [] w w3 := hx5.trans hx6 (by simp; omega)
 obtain ⟨d, hd⟩ : ∃ d, d = setX (setX begX 32 (pcQ 4)) 1 ⟨false, 0, 5⟩ := ⟨_, rfl⟩
 have hd1 : regX d 1 = ⟨false, 0, 5⟩ := by rw [hd]; rfl
 have hd2 : d 32 = pcQ 4 := by rw [hd]; rfl
 rw [<- hd]
 simp (disch := first | exact qD26 | fail) only [qG3, zeroX_cells, cx_over, cx_put, ou_over, ou_put, cx_sub, ou_sub]
 obtain ⟨hxo, g5, g6⟩ := two_put w3 d (ouC 0 0 0 iAddi)
 generalize World.upd (World.upd ((w3.alloc (.cells (cxC zeroX).toArray 42)).alloc (.cells [.int .i64 0, .int .i64 0, .int .u64 0, .int .i64 0, .int .i64 0, .int .i64 0, .int .i64 0, .int .i64 0].toArray 51)) w3.heap.size (cxC d)) (w3.heap.size + 1) (ouC 0 0 0 iAddi) = w4 at *
 refine Next_spec (c := d) (by rw [hd2]; decide) (by rw [hd2]; decide) fun w5 hx9 => ?_
 replace g5 := hx9.at g5 (by simp)
 replace g6 := hx9.at g6 (by simp)
 have hxc := (hx8.trans hxo (by simp)).trans hx9 (by simp)
 have l5 := lt_of_at g5
 have l6 := lt_of_at g6
 rw [pc_next hd2 (by omega)]
 have o0 : (ouC 0 0 0 iAddi)[0]? = some (.int .i64 0) := rfl
 have o3 : (ouC 0 0 0 iAddi)[3]? = some (.int .i64 22) := rfl
 have x98 := cx_pca d
 rw [hd2] at x98
 have y98 := cx_pca (setX d 32 (pcQ 8))
 have ea : (setX d 32 (pcQ 8) 32).a = 8 := rfl
 have eb : (pcQ 4).a = 4 := rfl
 rw [ea] at y98
 rw [eb] at x98
 simp (disch := first | exact qD26 | fail) only [qG3, Nat.reduceAdd, joinBR, g5, g6, o0, o3, cx_sub, zeroX_cells, cx_over, cx_put]
 have hxe : Ext [] w5 (w5.alloc (.cells (cxC (setX d 32 (pcQ 8))).toArray 42)) := qX
 have g7 : (w5.alloc (.cells (cxC (setX d 32 (pcQ 8))).toArray 42)).heap[w5.heap.size]? = some (.cells (cxC (setX d 32 (pcQ 8))).toArray 42 (0, 0)) := alloc_at rfl
 refine Get_reg (c := d) (n := 1) (by omega) fun w6 hx10 => ?_
 rw [hd1]
 simp (disch := first | exact qD26 | fail) only [qG3, joinBR, if_true]
 refine Null_spec (n := 5) fun w7 hx11 => ?_
 have hxf := (hxe.trans hx10 (by simp)).trans hx11 (by simp)
 have k5 := hxf.at g5 (by simp)
 have k7 := (hx10.trans hx11 (by simp)).at g7 (by simp)
 have e5 : cpC false 0 5 = cq ⟨false, 0, 5⟩ := rfl
 have hq := cq_eql ⟨false, 0, 5⟩ ⟨false, 0, 5⟩
 rw [decide_eq_true rfl] at hq
 rw [e5]
 simp (disch := first | exact qD26 | fail) only [qG3, Nat.reduceAdd, joinBR, hq, k5, k7, x98, y98, if_true]
 exact hK _ (hxc.trans hxf (by simp))
open Go.Fx
set_option maxRecDepth 100000
theorem rwC_lenS (r : Rw) : (rwC r).length = 5 := by simp [rwC]
theorem qZ27 : type_of% (And.intro @szR (And.intro @rwC_lenS (And.intro @rwC_all (And.intro @cq_len (And.intro @cq_all (And.intro @cxC_len (@cxC_all))))))) := ⟨@szR, @rwC_lenS, @rwC_all, @cq_len, @cq_all, @cxC_len, @cxC_all⟩
theorem qD27 {p : Prop} (h : p := by first | assumption | omega | (simp only [qZ27] <;> omega) | rfl | decide) : p := h
theorem rowOf_spec {w : World} {n : Nat} (hn : 1 <= n /\ n <= 69) {K : Value -> World -> Prop} (hK : ∀ w', Ext [] w w' -> K (.tuple #[.agg (rwC (row (n - 1))).toArray, .bool true]) w') : callsK Tryz.prog 34 #[.int .i64 (n : Nat)] w K := by
 apply F34_ok
 unfold F34
 simp (disch := first | exact qD27 | fail) only [qG5, joinBR]
 refine rows_spec fun w1 hx1 => ?_
 have h1 : w1.heap[w.heap.size]? = some (.cells [.string ⟨#[]⟩, .int .u8 0, .int .u64 0, .int .u64 0, .int .u64 0].toArray 101 (0, 0)) := hx1.at (alloc_at rfl) (by simp)
 have l1 := lt_of_at h1
 have hx2 : Ext [] w w1 := Ext.trans (S := []) qX hx1 (by simp)
 have hix := row_ix (n - 1) (by omega)
 have en : ((n : Nat) : Int) - 1 = ((n - 1 : Nat) : Int) := by omega
 have rsb : ∀ r, sub (rwC r) 0 5 = rwC r := fun _ => rfl
 simp (disch := first | exact qD27 | fail) only [qG5, en, hix, h1, rw_over, rw_put, rsb]
 exact hK _ qX
theorem shapeG_spec {w : World} {n : Nat} (hn : 1 <= n /\ n <= 69) {K : Value -> World -> Prop} (hK : ∀ w', Ext [] w w' -> K (.int .u8 ((row (n - 1)).s : Nat)) w') : callsK Tryz.prog 13 #[.int .i64 (n : Nat)] w K := by
 apply F13_ok
 unfold F13
 simp (disch := first | exact qD27 | fail) only [qG5]
 refine rowOf_spec hn fun w1 hx1 => ?_
 have r1 : (rwC (row (n - 1)))[1]? = some (.int .u8 ((row (n - 1)).s : Nat)) := rfl
 simp (disch := first | exact qD27 | fail) only [qG5, rw_over, rw_put, r1]
 exact hK _ qX
/-- the operations whose shape is B, or S. -/
def shB (k : Nat) : Bool := decide ((5 <= k /\ k <= 10) ∨ (18 <= k /\ k <= 21) ∨ k = 44)
theorem shape_all : (List.range 69).all (fun j => decide ((row j).s = 66 ∨ (row j).s = 83) == shB (j + 1)) = true := by kernel_rfl
theorem shape_bs {n : Nat} (hn : 1 <= n /\ n <= 69) : ((row (n - 1)).s = 66 ∨ (row (n - 1)).s = 83) ↔ bsOp n := by
 have := List.all_eq_true.1 shape_all (n - 1) (List.mem_range.2 (by omega))
 rw [beq_iff_eq, show n - 1 + 1 = n by omega] at this
 unfold shB at this
 rw [decide_eq_decide] at this
 exact this
theorem capRefl (d : Nat) (y : Cq) (w : World) : (Op.equalIn (d + 1 + 1) 24 (.agg (cq y).toArray) (.agg (cq y).toArray)).run Tryz.prog w = .ok true w := by
 have h := Fx.equalIn_struct (P := Tryz.prog) (d := d + 1) (t := 24) (xs := (cq y).toArray) (ys := (cq y).toArray) (w := w) (by kernel_rfl) (by kernel_rfl) (q := [(4, 0), (22, 1), (22, 2)]) (by kernel_rfl) (by kernel_rfl) (Fx.eqQ_cons (Fx.part1 Tryz.isAgg4 rfl) (Fx.part1 Tryz.isAgg4 rfl) (run_equalIn_bool _ d 4 y.t y.t Tryz.underlying4) (Fx.eqQ_cons (Fx.part1 Tryz.isAgg22 rfl) (Fx.part1 Tryz.isAgg22 rfl) (run_equalIn_int _ d 22 .u64 .u64 (y.m : Nat) (y.m : Nat) Tryz.underlying22) (Fx.eqQ_cons (Fx.part1 Tryz.isAgg22 rfl) (Fx.part1 Tryz.isAgg22 rfl) (run_equalIn_int _ d 22 .u64 .u64 (y.a : Nat) (y.a : Nat) Tryz.underlying22) (Fx.eqQ_nil))))
 rw [h]
 simp
theorem eqItems_refl {P : Program} {d c : Nat} {e : TypeId} {xs : Array Value} {w : World} : ∀ {is : List Nat}, (∀ i ∈ is, ∃ v, (part e xs (i * c)).run P w = .ok v w /\ (Op.equalIn d e v v).run P w = .ok true w) -> (Op.eqItems d e c xs xs is).run P w = .ok true w
 | [], _ => by simp [Op.eqItems]
 | i :: is, h => by
  obtain ⟨v, h1, h2⟩ := h i (by simp)
  have ih := eqItems_refl (is := is) fun j hj => h j (by simp [hj])
  simp only [Op.eqItems, Sem.run_bind, h1, h2, Result.andThen_ok, Bool.not_true, Bool.false_eq_true, if_false, ih]
theorem extract_sub (l : List Value) (o n : Nat) : l.toArray.extract o (o + n) = (sub l o n).toArray := by
 rw [List.extract_toArray, List.extract_eq_take_drop, sub, Nat.add_sub_cancel_left]
theorem sub_sub {l : List Value} {a b o n : Nat} (h : o + n <= b) : sub (sub l a b) o n = sub l (a + o) n := by
 unfold sub
 rw [List.drop_take, List.take_take, List.drop_drop, Nat.min_eq_left (by omega)]
theorem cx_refl (c : Nat -> Cq) (p q : Operand) (w : World) : (binV .eql 42 p q (.agg (cxC c).toArray) (.agg (cxC c).toArray)).run Tryz.prog w = .ok (.bool true) w := by
 refine Fx.eql_agg (by kernel_rfl) _ _ _ p q w ?_
 have hA : (part 40 (cxC c).toArray 0).run Tryz.prog w = .ok (.agg (sub (cxC c) 0 96).toArray) w := by
  have := Fx.partN (P := Tryz.prog) (t := 40) (xs := (cxC c).toArray) (o := 0) (n := 96) (w := w) (fun w => by kernel_rfl) (fun w => by kernel_rfl)
  rwa [extract_sub] at this
 have hP : (part 24 (cxC c).toArray 96).run Tryz.prog w = .ok (.agg (cq (c 32)).toArray) w := by
  have := Fx.partN (P := Tryz.prog) (t := 24) (xs := (cxC c).toArray) (o := 96) (n := 3) (w := w) Tryz.isAgg24 Tryz.sizeOf24
  rwa [extract_sub, cx_pcc] at this
 have hE : (Op.equalIn (9998 + 1) 40 (.agg (sub (cxC c) 0 96).toArray) (.agg (sub (cxC c) 0 96).toArray)).run Tryz.prog w = .ok true w := by
  obtain ⟨i, hi⟩ : ∃ i, Tryz.prog.info? 24 = some i := Option.isSome_iff_exists.1 (show (Tryz.prog.info? 24).isSome = true by kernel_rfl)
  rw [run_equalIn_array (n := 32) (e := 24) w 9998 _ _ (by kernel_rfl) hi]
  have hc : Tryz.prog.cellsOf 24 = 3 := by kernel_rfl
  rw [hc]
  refine eqItems_refl fun j hj => ⟨.agg (cq (c j)).toArray, ?_, capRefl 9996 (c j) w⟩
  have hj2 := List.mem_range.1 hj
  have := Fx.partN (P := Tryz.prog) (t := 24) (xs := (sub (cxC c) 0 96).toArray) (o := j * 3) (n := 3) (w := w) Tryz.isAgg24 Tryz.sizeOf24
  rw [extract_sub, sub_sub (by omega), Nat.zero_add, cx_at (by omega)] at this
  exact this
 have h := Fx.equalIn_struct (P := Tryz.prog) (d := 9999) (t := 42) (xs := (cxC c).toArray) (ys := (cxC c).toArray) (w := w) (by kernel_rfl) (by kernel_rfl) (q := [(40, 0), (24, 96)]) (by kernel_rfl) (by kernel_rfl) (Fx.eqQ_cons hA hA hE (Fx.eqQ_cons hP hP (capRefl 9997 (c 32) w) Fx.eqQ_nil))
 rw [h]
 rfl
end Go.Proofs.YtplfniijbeinmaaGreat
