/- Part 9 of what the law ExecNumbers stands on: formulas of the functions that it reaches, and what each of them does; conditions: those of each theorem. -/
import Derived.Test.YtplfniijbeinmaaGreatP8
set_option linter.unusedVariables false
set_option linter.unusedSimpArgs false
namespace Go.Proofs.YtplfniijbeinmaaGreat
open Go.Fx
set_option maxRecDepth 100000
theorem ozC_lenS (k c v : Nat) (i : Iz) : (ozC k c v i).length = 8 := by simp [ozC, izC]
theorem plC_put (v : Value) (c : Nat -> Cq) (k x : Value) : (plC v c k).set 0 x = plC x c k := rfl
theorem plC_c (v : Value) (c : Nat -> Cq) (k : Value) : sub (plC v c k) 1 99 = cxC c := by
 unfold sub plC
 rw [List.drop_succ_cons, List.drop_zero, List.take_append_of_le_length (by rw [cxC_len]; omega), List.take_of_length_le (by rw [cxC_len]; omega)]
theorem cx_set0 (c : Nat -> Cq) (x : Cq) : splice (cxC c) 0 (cq x) = cxC (setX c 0 x) := by
 have := cx_with (c := c) (k := 0) (x := x) (by omega)
 rwa [Nat.zero_mul] at this
theorem cx_setZ (c : Nat -> Cq) : Value.bool false :: Value.int .u64 0 :: Value.int .u64 0 :: List.drop 3 (cxC c) = cxC (setX c 0 Cq.zero) := by
 rw [<- cx_set0]
 unfold splice
 rw [List.take_zero, List.nil_append, cq_len]
 simp [cq, cpC, Cq.zero]
theorem qZ28 : type_of% (And.intro @szR (And.intro @cq_len (And.intro @cq_all (And.intro @cxC_len (And.intro @cxC_all (And.intro @plC_len (And.intro @plC_all (And.intro @ozC_lenS (@ozC_all))))))))) := ⟨@szR, @cq_len, @cq_all, @cxC_len, @cxC_all, @plC_len, @plC_all, @ozC_lenS, @ozC_all⟩
theorem qD28 {p : Prop} (h : p := by first | assumption | omega | (simp only [qZ28] <;> omega) | rfl | decide) : p := h
/-- the law's first condition, at any instruction. -/
theorem cond_spec {op b : Nat} {x : Cq} {v52 v12 : Value} {w : World} (h52 : v52 = .int .i64 (op : Nat)) (h12 : v12 = .pointer (some ⟨b, 0, none⟩)) (hb : w.heap[b]? = some (.cells (cq x).toArray 24 (0, 0))) (hn : numOp op -> x.t = false /\ x.m = 0) {K : Value -> World -> Prop} (hK : K (.bool false) w) :
 kV Tryz.prog (binV .eql 3 (.tmp 58) (.const (.int .i64 1)) v52 (.int .i64 1)) w fun v59 w =>
 joinK (fun J1 : Value -> World -> Prop => gdK (yb v59) false (fun k => k v52 w) w fun v61 w =>
 gdK (yb v59) false (fun k => kV Tryz.prog (binV .geq 3 (.tmp 61) (.const (.int .i64 22)) v61 (.int .i64 22)) w k) w fun v62 w =>
 gdK (yb v59) false (fun k => k v62 w) w fun v63 w =>
 gdK (yb v63) true (fun k => k v52 w) w fun v64 w =>
 gdK (yb v63) true (fun k => kV Tryz.prog (binV .leq 3 (.tmp 64) (.const (.int .i64 40)) v64 (.int .i64 40)) w k) w fun v65 w =>
 gdK (yb v59) false (fun k => kN Tryz.prog (pickN v63 v65 (.bool false)) w k) w fun v66 w =>
 kN Tryz.prog (pickN v59 (.bool true) v66) w fun v67_1 w =>
 J1 v67_1 w) fun v67 w =>
 joinK (fun J2 : Value -> World -> Prop => gdK (yb v67) false (fun k => k v52 w) w fun v69 w =>
 gdK (yb v67) false (fun k => kV Tryz.prog (binV .geq 3 (.tmp 69) (.const (.int .i64 11)) v69 (.int .i64 11)) w k) w fun v70 w =>
 gdK (yb v67) false (fun k => k v70 w) w fun v71 w =>
 gdK (yb v71) true (fun k => k v52 w) w fun v72 w =>
 gdK (yb v71) true (fun k => kV Tryz.prog (binV .leq 3 (.tmp 72) (.const (.int .i64 17)) v72 (.int .i64 17)) w k) w fun v73 w =>
 gdK (yb v67) false (fun k => kN Tryz.prog (pickN v71 v73 (.bool false)) w k) w fun v74 w =>
 kN Tryz.prog (pickN v67 (.bool true) v74) w fun v75_1 w =>
 J2 v75_1 w) fun v75 w =>
 joinK (fun J3 : Value -> World -> Prop => gdK (yb v75) false (fun k => k v52 w) w fun v77 w =>
 gdK (yb v75) false (fun k => kV Tryz.prog (binV .eql 3 (.tmp 77) (.const (.int .i64 52)) v77 (.int .i64 52)) w k) w fun v78 w =>
 kN Tryz.prog (pickN v75 (.bool true) v78) w fun v79_1 w =>
 J3 v79_1 w) fun v79 w =>
 joinK (fun J4 : Value -> World -> Prop => gdK (yb v79) false (fun k => k v52 w) w fun v81 w =>
 gdK (yb v79) false (fun k => kV Tryz.prog (binV .eql 3 (.tmp 81) (.const (.int .i64 54)) v81 (.int .i64 54)) w k) w fun v82 w =>
 kN Tryz.prog (pickN v79 (.bool true) v82) w fun v83_1 w =>
 J4 v83_1 w) fun v83 w =>
 joinK (fun J5 : Value -> World -> Prop => gdK (yb v83) false (fun k => k v52 w) w fun v85 w =>
 gdK (yb v83) false (fun k => kV Tryz.prog (binV .eql 3 (.tmp 85) (.const (.int .i64 55)) v85 (.int .i64 55)) w k) w fun v86 w =>
 kN Tryz.prog (pickN v83 (.bool true) v86) w fun v87_1 w =>
 J5 v87_1 w) fun v87 w =>
 joinK (fun J6 : Value -> World -> Prop => gdK (yb v87) false (fun k => k v52 w) w fun v89 w =>
 gdK (yb v87) false (fun k => kV Tryz.prog (binV .geq 3 (.tmp 89) (.const (.int .i64 56)) v89 (.int .i64 56)) w k) w fun v90 w =>
 gdK (yb v87) false (fun k => k v90 w) w fun v91 w =>
 gdK (yb v91) true (fun k => k v52 w) w fun v92 w =>
 gdK (yb v91) true (fun k => kV Tryz.prog (binV .leq 3 (.tmp 92) (.const (.int .i64 63)) v92 (.int .i64 63)) w k) w fun v93 w =>
 gdK (yb v87) false (fun k => kN Tryz.prog (pickN v91 v93 (.bool false)) w k) w fun v94 w =>
 kN Tryz.prog (pickN v87 (.bool true) v94) w fun v95_1 w =>
 J6 v95_1 w) fun v95 w =>
 joinK (fun J7 : Value -> World -> Prop => gdK (yb v95) false (fun k => k v52 w) w fun v97 w =>
 gdK (yb v95) false (fun k => kV Tryz.prog (binV .eql 3 (.tmp 97) (.const (.int .i64 66)) v97 (.int .i64 66)) w k) w fun v98 w =>
 kN Tryz.prog (pickN v95 (.bool true) v98) w fun v99_1 w =>
 J7 v99_1 w) fun v99 w =>
 joinK (fun J8 : Value -> World -> Prop => gdK (yb v99) true (fun k => kV Tryz.prog (Instr.fieldAt 24 v12 0) w k) w fun v101 w =>
 gdK (yb v99) true (fun k => kV Tryz.prog (Instr.loadAt 4 v101) w k) w fun v102 w =>
 gdK (yb v99) true (fun k => k v102 w) w fun v103 w =>
 gdK (yb v103) false (fun k => kV Tryz.prog (Instr.fieldAt 24 v12 1) w k) w fun v104 w =>
 gdK (yb v103) false (fun k => kV Tryz.prog (Instr.loadAt 22 v104) w k) w fun v105 w =>
 gdK (yb v103) false (fun k => kV Tryz.prog (binV .neq 22 (.tmp 105) (.const (.int .u64 0)) v105 (.int .u64 0)) w k) w fun v106 w =>
 gdK (yb v99) true (fun k => kN Tryz.prog (pickN v103 (.bool true) v106) w k) w fun v107 w =>
 kN Tryz.prog (pickN v99 v107 (.bool false)) w fun v108_1 w =>
 J8 v108_1 w) fun v108 w => K v108 w := by
 subst h52 h12
 have c0 : (cq x)[0]? = some (.bool x.t) := rfl
 have c1 : (cq x)[1]? = some (.int .u64 (x.m : Nat)) := rfl
 have l1 := lt_of_at hb
 have hcases : op = 0 ∨ op = 1 ∨ (2 <= op /\ op <= 10) ∨ (11 <= op /\ op <= 17) ∨ (18 <= op /\ op <= 21) ∨ (22 <= op /\ op <= 40) ∨ (41 <= op /\ op <= 51) ∨ op = 52 ∨ op = 53 ∨ op = 54 ∨ op = 55 ∨ (56 <= op /\ op <= 63) ∨ (64 <= op /\ op <= 65) ∨ op = 66 ∨ 67 <= op := by omega
 have hnum : numOp op -> (cq x)[0]? = some (.bool false) /\ (cq x)[1]? = some (.int .u64 0) := fun h => by
  have hx := hn h
  rw [c0, c1, hx.1, hx.2]
  exact ⟨rfl, rfl⟩
 unfold numOp at hnum
 refine hcases.elim (fun h => ?_) fun hcases => hcases.elim (fun h => ?_) fun hcases => hcases.elim (fun h => ?_) fun hcases => hcases.elim (fun h => ?_) fun hcases => hcases.elim (fun h => ?_) fun hcases => hcases.elim (fun h => ?_) fun hcases => hcases.elim (fun h => ?_) fun hcases => hcases.elim (fun h => ?_) fun hcases => hcases.elim (fun h => ?_) fun hcases => hcases.elim (fun h => ?_) fun hcases => hcases.elim (fun h => ?_) fun hcases => hcases.elim (fun h => ?_) fun hcases => hcases.elim (fun h => ?_) fun hcases => hcases.elim (fun h => ?_) (fun h => ?_)
 all_goals
  clear hcases
  first
   | (have hx := hnum (by omega); have d0 := hx.1; have d1 := hx.2; clear hx hnum c0 c1; simp (disch := first | exact qD28 | fail) only [qG5, joinBR, hb, d0, d1]; exact hK)
   | (clear hnum; simp (disch := first | exact qD28 | fail) only [qG5, joinBR, hb, c0, c1]; exact hK)
theorem cq_neq {x y : Cq} (h : x = y) (p q : Operand) (w : World) : (binV .neq 24 p q (.agg (cq x).toArray) (.agg (cq y).toArray)).run Tryz.prog w = .ok (.bool false) w := by
 subst h
 have := RN_neq_24 x.t x.t x.m x.m x.a x.a p q w
 simp only [beq_self_eq_true, Bool.and_self, Bool.not_true] at this
 exact this
set_option maxHeartbeats 1000000 in
theorem numbers_law {w : World} {v vk : Value} {cs : List Cq} {c : Nat -> Cq} {W n1 c1 : Nat} {a1 : Option Addr} (hv : v = .slice a1 n1 c1) (hvk : RowsAt w vk 3 (cs.map cq)) (hW : W < 4294967296) (hok : ∀ x ∈ cs, Okq x) (hc : ∀ k, k < 33 -> Okq (c k)) {K : Value -> World -> Prop} (hK : ∀ w', Ext [] w w' -> K (.bool true) w') :
  callsK Tryz.prog 4 #[.agg (plC v c vk).toArray, .int .u32 (W : Nat)] w K := by
 obtain ⟨ak, ck, rfl⟩ := hvk.len
 subst hv
 apply F4_ok
 unfold F4
 simp (disch := first | exact qD28 | fail) only [qG5, plC_sub, plC_put]
 have hx0 : Ext [] w (World.upd ((w.alloc (.cells (plC (.slice a1 n1 c1) c (.slice ak (List.map cq cs).length ck)).toArray 45)).alloc (.cells [.int .u32 (W : Nat)].toArray 38)) w.heap.size (plC (.slice (some ⟨w.heap.size + 1, 0, none⟩) 1 1) c (.slice ak (List.map cq cs).length ck))) := qX
 have hv0 : RowsAt (World.upd ((w.alloc (.cells (plC (.slice a1 n1 c1) c (.slice ak (List.map cq cs).length ck)).toArray 45)).alloc (.cells [.int .u32 (W : Nat)].toArray 38)) w.heap.size (plC (.slice (some ⟨w.heap.size + 1, 0, none⟩) 1 1) c (.slice ak (List.map cq cs).length ck))) (.slice (some ⟨w.heap.size + 1, 0, none⟩) 1 1) 1 ([W].map u4C) := RowsAt.one (l := u4C W) (by rw [upd_ne (by omega)]; exact alloc_at (by simp only [szR])) rfl
 have g0 : (World.upd ((w.alloc (.cells (plC (.slice a1 n1 c1) c (.slice ak (List.map cq cs).length ck)).toArray 45)).alloc (.cells [.int .u32 (W : Nat)].toArray 38)) w.heap.size (plC (.slice (some ⟨w.heap.size + 1, 0, none⟩) 1 1) c (.slice ak (List.map cq cs).length ck))).heap[w.heap.size]? = some (.cells (plC (.slice (some ⟨w.heap.size + 1, 0, none⟩) 1 1) c (.slice ak (List.map cq cs).length ck)).toArray 45 (0, 0)) := upd_at ((alloc_ne (by simp only [szR]; omega)).trans (alloc_at rfl))
 generalize World.upd ((w.alloc (.cells (plC (.slice a1 n1 c1) c (.slice ak (List.map cq cs).length ck)).toArray 45)).alloc (.cells [.int .u32 (W : Nat)].toArray 38)) w.heap.size (plC (.slice (some ⟨w.heap.size + 1, 0, none⟩) 1 1) c (.slice ak (List.map cq cs).length ck)) = w0 at *
 have hneq : ∀ (rb : Nat) (x y : Operand) w, (binV .neq 31 x y (.pointer (some ⟨rb, 0, none⟩)) (.pointer none)).run Tryz.prog w = .ok (.bool true) w := fun rb x y w => by kernel_rfl
 refine builtG_spec (ws := [W]) hv0 (hvk.ext hx0 (by simp)) (by simp) (by simpa using hW) hok (fun rb L w1 hLl hLa hLs hx1 => ?_) (fun rb pb L m g w1 hM hLl hLa hLs hx1 hrb hpb => ?_)
 ·have hx2 := hx0.trans hx1 (by simp)
  have hsp := splice_all (l := [.int .i64 0, .slice none 0 0, .slice none 0 0, .slice none 0 0]) (vs := L) (by rw [hLl]; rfl)
  have hdr := drop_all (l := [.int .i64 0, .slice none 0 0, .slice none 0 0, .slice none 0 0]) (vs := L) (by rw [hLl]; rfl)
  simp (disch := first | exact qD28 | fail) only [qG5, hLl, hLa, hLs, hsp, hdr, hneq]
  exact hK _ qX
 have hsp := splice_all (l := [.int .i64 0, .slice none 0 0, .slice none 0 0, .slice none 0 0]) (vs := L) (by rw [hLl]; rfl)
 have hdr := drop_all (l := [.int .i64 0, .slice none 0 0, .slice none 0 0, .slice none 0 0]) (vs := L) (by rw [hLl]; rfl)
 have hw0 := hx0.size
 replace hx0 := hx0.trans hx1 (by simp)
 replace g0 := hx1.at g0 (by simp)
 have l0 := lt_of_at g0
 simp (disch := first | exact qD28 | fail) only [qG5, Nat.reduceAdd, Int.reduceToNat, hLl, hLa, hLs, hsp, hdr, hneq, g0, plC_c, cx_setZ, cx_over, cx_put, cx_set0, cx_sub, zeroX_cells, fl_build, fl_iface]
 have hx2 : Ext [] w1 ((w1.alloc (.cells L.toArray 35)).alloc (.cells (cxC (setX c 0 Cq.zero)).toArray 42)) := qX
 have g8 : ((w1.alloc (.cells L.toArray 35)).alloc (.cells (cxC (setX c 0 Cq.zero)).toArray 42)).heap[w1.heap.size + 1]? = some (.cells (cxC (setX c 0 Cq.zero)).toArray 42 (0, 0)) := alloc_at (by simp only [szR])
 have hM2 := hM.ext hx2 (by simp) (by simp)
 have hlM := hM.lt
 have hxw := hx0.trans hx2 (by simp)
 have hc0 : ∀ k, k < 33 -> Okq (setX c 0 Cq.zero k) := fun k hk => by
  unfold setX
  split
  ·exact ⟨by decide, by decide⟩
  ·exact hc k hk
 have hz0 : regX (setX c 0 Cq.zero) 0 = Cq.zero := rfl
 have hne8 : pb ≠ w1.heap.size + 1 := by omega
 have hwb : w.heap.size <= pb := by have := hx1.size; omega
 generalize (w1.alloc (.cells L.toArray 35)).alloc (.cells (cxC (setX c 0 Cq.zero)).toArray 42) = w2 at *
 generalize setX c 0 Cq.zero = d0 at *
 refine StepG_spec hM2 (by omega) hc0 (fun k e va i w3 hk hx3 => ?_) (fun d i w3 hop hrd hsame hnum hx3 => ?_)
 ·have k8 := hx3.at g8 (by simp; omega)
  have l8 := lt_of_at k8
  have o0 : (ozC k e va i)[0]? = some (.int .i64 (k : Nat)) := rfl
  have hk2 : ((k : Nat) : Int) ≠ 0 := by omega
  have hh := two_put w3 d0 (ozC k e va i)
  have hx4 := hxw.trans hx3 (by simp; omega)
  have hx5 := hx4.trans hh.1 (by simp)
  simp (disch := first | exact qD28 | fail) only [qG5, joinBR, zeroX_cells, cx_over, cx_put, oz_over, oz_put, o0, hk2, cx_sub, k8, cx_refl]
  refine one_spec fun w5 hx6 => ?_
  simp (disch := first | exact qD28 | fail) only [qG5, joinBR, if_true]
  exact hK _ (hx5.trans (Ext.trans (S := []) qX hx6 (by simp)) (by simp))
 ·have k8 := hx3.at g8 (by simp; omega)
  have l8 := lt_of_at k8
  have o0 : (ozC 0 0 0 i)[0]? = some (.int .i64 0) := rfl
  have o3 : (ozC 0 0 0 i)[3]? = some (.int .i64 (i.op : Nat)) := rfl
  have o4 : (ozC 0 0 0 i)[4]? = some (.int .i64 (i.rd : Nat)) := rfl
  have hh := two_put w3 d (ozC 0 0 0 i)
  have g9 := hh.2.1
  have g10 := hh.2.2
  have hx4 := hxw.trans hx3 (by simp; omega)
  have hx5 := hx4.trans hh.1 (by simp)
  have j8 := hh.1.at k8 (by simp)
  clear hh
  simp (disch := first | exact qD28 | fail) only [qG5, Nat.reduceAdd, zeroX_cells, cx_over, cx_put, oz_over, oz_put, o0, o3, o4, cx_sub]
  refine Get_reg (c := d) (n := i.rd) (by omega) fun w4 hx6 => ?_
  simp (disch := first | exact qD28 | fail) only [qG5, cq_over0, cq_put]
  have hxa : Ext [] w4 (w4.alloc (.cells (cq (regX d i.rd)).toArray 24)) := Ext.alloc Ext.refl _ _
  refine cond_spec (op := i.op) (x := regX d i.rd) rfl rfl (alloc_at rfl) hnum ?_
  refine condK_bool (fun h => absurd h (by simp)) (fun _ => ?_)
  have hx7 := hx6.trans hxa (by simp)
  replace g9 := hx7.at g9 (by simp)
  replace g10 := hx7.at g10 (by simp)
  replace j8 := hx7.at j8 (by simp)
  replace hx5 := hx5.trans hx7 (by simp)
  clear hx3 hx4 hx6 k8 l8 hxa hx7 g8 hM2
  refine loopT.intro (fun st w' => ∃ (k : Nat), 1 <= k /\ k <= 32 /\ st = [.int .i64 (k : Nat)] /\ w'.heap[w3.heap.size]? = some (.cells (cxC d).toArray 42 (0, 0)) /\ w'.heap[w3.heap.size + 1]? = some (.cells (ozC 0 0 0 i).toArray 51 (0, 0)) /\ w'.heap[w1.heap.size + 1]? = some (.cells (cxC d0).toArray 42 (0, 0)) /\ Ext [] w w')
   (fun st _ => match st with
    | [.int _ z] => 32 - z.toNat
    | _ => 0) ⟨1, by omega, by omega, rfl, g9, g10, j8, hx5⟩ ?_
  clear g9 g10 j8 hx5
  rintro st w5 ⟨k, hk1, hk, rfl, g9, g10, j8, hx5⟩ _
  have l9 := lt_of_at g9
  have l10 := lt_of_at g10
  have l8 := lt_of_at j8
  by_cases hk32 : k < 32
  ·simp (disch := first | exact qD28 | fail) only [qG5]
   refine shapeG_spec hop fun w6 hx6 => ?_
   replace g9 := hx6.at g9 (by simp)
   replace g10 := hx6.at g10 (by simp)
   replace j8 := hx6.at j8 (by simp)
   replace hx5 := hx5.trans hx6 (by simp)
   refine joinL.intro fun J11 hJ11 => ?_
   have hend : ∀ w7, w7.heap[w3.heap.size]? = some (.cells (cxC d).toArray 42 (0, 0)) -> w7.heap[w3.heap.size + 1]? = some (.cells (ozC 0 0 0 i).toArray 51 (0, 0)) -> w7.heap[w1.heap.size + 1]? = some (.cells (cxC d0).toArray 42 (0, 0)) -> Ext [] w w7 -> J11 [.bool false] w7 := by
    intro w7 q9 q10 q8 hx7
    apply hJ11
    intro _
    refine condK_bool (fun h => absurd h (by simp)) (fun _ => ?_)
    simp (disch := first | exact qD28 | fail) only [qG5]
    exact ⟨⟨k + 1, by omega, by omega, rfl, q9, q10, q8, hx7⟩, by first | omega | (simp <;> omega)⟩
   have hcmp : (bsOp i.op ∨ k ≠ i.rd) -> regX d k = regX d0 k := fun h => by
    unfold regX
    rw [if_pos ⟨hk1, hk32⟩, if_pos ⟨hk1, hk32⟩]
    exact hsame k hk32 h
   have o4 : (ozC 0 0 0 i)[4]? = some (.int .i64 (i.rd : Nat)) := rfl
   have hsh := shape_bs hop
   generalize (row (i.op - 1)).s = sh at *
   have hdr : Ext [] w6 w6.drew := qX
   have m9 := hdr.at g9 (by simp)
   have m10 := hdr.at g10 (by simp)
   have m8 := hdr.at j8 (by simp)
   have lm9 := lt_of_at m9
   have lm10 := lt_of_at m10
   have lm8 := lt_of_at m8
   by_cases hbs : bsOp i.op
   ·have hneq := cq_neq (hcmp (.inl hbs))
    have hs2 := hsh.2 hbs
    by_cases h66 : ((sh : Nat) : Int) = 66
    ·simp (disch := first | exact qD28 | fail) only [qG5, h66, g9, j8, cx_sub, gdPR, pN_pickE, if_true, if_false, Bool.false_eq_true, and_self]
     repeat' apply And.intro
     all_goals
      refine Get_reg (c := d) (n := k) (by omega) fun w7 hx7 => ?_
      have n9 := hx7.at m9 (by simp)
      have n10 := hx7.at m10 (by simp)
      have n8 := hx7.at m8 (by simp)
      have l8' := lt_of_at n8
      simp (disch := first | exact qD28 | fail) only [qG5, n8, cx_sub, gdPR, pN_pickE]
      refine Get_reg (c := d0) (n := k) (by omega) fun w8 hx8 => ?_
      simp (disch := first | exact qD28 | fail) only [qG5, hneq, gdPR, pN_pickE, if_true, if_false]
      exact hend w8 (hx8.at n9 (by simp)) (hx8.at n10 (by simp)) (hx8.at n8 (by simp)) (((hx5.trans hdr (by simp)).trans hx7 (by simp)).trans hx8 (by simp))
    ·have h83 : ((sh : Nat) : Int) = 83 := by omega
     simp (disch := first | exact qD28 | fail) only [qG5, h66, h83, g9, j8, cx_sub, gdPR, pN_pickE, if_true, if_false, Bool.false_eq_true, and_self]
     repeat' apply And.intro
     all_goals
      refine Get_reg (c := d) (n := k) (by omega) fun w7 hx7 => ?_
      have n9 := hx7.at m9 (by simp)
      have n10 := hx7.at m10 (by simp)
      have n8 := hx7.at m8 (by simp)
      have l8' := lt_of_at n8
      simp (disch := first | exact qD28 | fail) only [qG5, n8, cx_sub, gdPR, pN_pickE]
      refine Get_reg (c := d0) (n := k) (by omega) fun w8 hx8 => ?_
      simp (disch := first | exact qD28 | fail) only [qG5, hneq, gdPR, pN_pickE, if_true, if_false]
      exact hend w8 (hx8.at n9 (by simp)) (hx8.at n10 (by simp)) (hx8.at n8 (by simp)) (((hx5.trans hdr (by simp)).trans hx7 (by simp)).trans hx8 (by simp))
   ·have h66 : ¬ ((sh : Nat) : Int) = 66 := fun h => hbs (hsh.1 (.inl (by omega)))
    have h83 : ¬ ((sh : Nat) : Int) = 83 := fun h => hbs (hsh.1 (.inr (by omega)))
    by_cases hkr : ((k : Nat) : Int) = ((i.rd : Nat) : Int)
    ·simp (disch := first | exact qD28 | fail) only [qG5, Nat.reduceAdd, h66, h83, g9, g10, o4, hkr, j8, cx_sub, gdPR, pN_pickE, if_true, if_false, Bool.false_eq_true, and_self]
     exact hend _ m9 m10 m8 (hx5.trans hdr (by simp))
    ·have hneq := cq_neq (hcmp (.inr (fun h => hkr (by rw [h]))))
     simp (disch := first | exact qD28 | fail) only [qG5, Nat.reduceAdd, h66, h83, g9, g10, o4, hkr, j8, cx_sub, gdPR, pN_pickE, if_true, if_false, Bool.false_eq_true, and_self]
     repeat' apply And.intro
     all_goals
      refine Get_reg (c := d) (n := k) (by omega) fun w7 hx7 => ?_
      have n9 := hx7.at m9 (by simp)
      have n10 := hx7.at m10 (by simp)
      have n8 := hx7.at m8 (by simp)
      have l8' := lt_of_at n8
      simp (disch := first | exact qD28 | fail) only [qG5, n8, cx_sub, gdPR, pN_pickE]
      refine Get_reg (c := d0) (n := k) (by omega) fun w8 hx8 => ?_
      simp (disch := first | exact qD28 | fail) only [qG5, hneq, gdPR, pN_pickE, if_true, if_false]
      exact hend w8 (hx8.at n9 (by simp)) (hx8.at n10 (by simp)) (hx8.at n8 (by simp)) (((hx5.trans hdr (by simp)).trans hx7 (by simp)).trans hx8 (by simp))
  ·obtain rfl : k = 32 := by omega
   simp (disch := first | exact qD28 | fail) only [qG5]
   refine one_spec fun w6 hx6 => ?_
   exact hK _ (hx5.trans hx6 (by simp))
end Go.Proofs.YtplfniijbeinmaaGreat
namespace Go.Proofs.YtplfniijbeinmaaGreat
open Go.Fx Go.ChangeShapes Go.WideShapes
set_option maxRecDepth 100000
theorem open_capq {H : Type} {enc : TypeId × Value -> H} {w : World} {base fuel : Nat} {spare : Nat -> Bool} {held : Bool} {cs : List Value} {x : DataW H × List MemPlace} (hx : DataW.trod enc Tryz.prog w base spare held fuel 24 cs = some x) : ∃ y : Cq, cs = cq y /\ Okq y := by
 have cc : Tryz.prog.cellsOf 24 = 3 := by kernel_rfl
 have cb : Tryz.prog.cellsOf 4 = 1 := by kernel_rfl
 have cu : Tryz.prog.cellsOf 22 = 1 := by kernel_rfl
 have hl := (fields_of Tryz.underlying24 hx).1
 rw [cc] at hl
 obtain ⟨t, h0⟩ := field_bool Tryz.underlying24 hx 0 0 rfl Tryz.underlying4 cb
 obtain ⟨mt, h1, w1⟩ := field_int Tryz.underlying24 hx 1 1 rfl Tryz.underlying22 cu
 obtain ⟨ad, h2, w2⟩ := field_int Tryz.underlying24 hx 2 2 rfl Tryz.underlying22 cu
 have hu : ∀ n : Int, (Lit.int .u64 n).wf = true -> 0 <= n /\ n < 18446744073709551616 := by
  intro n hn
  have : 0 <= n /\ n <= 18446744073709551615 := by simpa [Lit.wf, IntKind.min, IntKind.max, IntKind.signed, IntKind.bits] using hn
  omega
 have u1 := hu _ w1
 have u2 := hu _ w2
 refine ⟨⟨t, mt.toNat, ad.toNat⟩, ?_, by show mt.toNat < _; omega, by show ad.toNat < _; omega⟩
 have e1 : ((mt.toNat : Nat) : Int) = mt := by omega
 have e2 : ((ad.toNat : Nat) : Int) = ad := by omega
 have e3 : cq ⟨t, mt.toNat, ad.toNat⟩ = [.bool t, .int .u64 mt, .int .u64 ad] := by
  show ([.bool t, .int .u64 ((mt.toNat : Nat) : Int), .int .u64 ((ad.toNat : Nat) : Int)] : List Value) = _
  rw [e1, e2]
 rw [e3]
 match cs, hl with
 | [c0, c1, c2], _ =>
  simp at h0 h1 h2
  subst h0 h1 h2
  rfl
instance : Inhabited Cq := ⟨Cq.zero⟩
theorem parts101 (l : List Value) (h : l.length = 101) : l = (l.drop 0).take 1 ++ ((l.drop 1).take 99 ++ (l.drop 100).take 1) := by
 have e1 : (l.drop 100).take 1 = l.drop 100 := List.take_of_length_le (by simp; omega)
 have e2 : l.drop 100 = (l.drop 1).drop 99 := by rw [List.drop_drop]
 rw [e1, e2, List.take_append_drop, List.drop_zero, List.take_append_drop]
theorem open_ctx {H : Type} {enc : TypeId × Value -> H} {w : World} {base fuel : Nat} {spare : Nat -> Bool} {held : Bool} {cs : List Value} {x : DataW H × List MemPlace} (hx : DataW.trod enc Tryz.prog w base spare held fuel 42 cs = some x) : ∃ c : Nat -> Cq, cs = cxC c /\ ∀ k, k < 33 -> Okq (c k) := by
 have cc : Tryz.prog.cellsOf 42 = 99 := by kernel_rfl
 have c3 : Tryz.prog.cellsOf 24 = 3 := by kernel_rfl
 have ca : Tryz.prog.cellsOf 40 = 96 := by kernel_rfl
 obtain ⟨hl, hf⟩ := fields_of Tryz.underlying42 hx
 rw [cc] at hl
 obtain ⟨m0, y0, h0⟩ := hf 0 _ rfl
 obtain ⟨m1, y1, h1⟩ := hf 1 _ rfl
 have h0' : DataW.trod enc Tryz.prog w base spare held m0 40 ((cs.drop 0).take 96) = some y0 := by
  have : (cs.drop 0).take (Tryz.prog.cellsOf 40) = (cs.drop 0).take 96 := by rw [ca]
  rw [<- this]
  exact h0
 have h1' : DataW.trod enc Tryz.prog w base spare held m1 24 ((cs.drop 96).take 3) = some y1 := by
  have : (cs.drop 96).take (Tryz.prog.cellsOf 24) = (cs.drop 96).take 3 := by rw [c3]
  rw [<- this]
  exact h1
 obtain ⟨xs, m, -, -, -, hxl, hel⟩ := DataW.trod_array (n := 32) (e := 24) Tryz.underlying40 h0'
 have hex : ∀ i, i < 33 -> ∃ y : Cq, (cs.drop (i * 3)).take 3 = cq y /\ Okq y := by
  intro i hi
  by_cases h32 : i < 32
  ·have h := hel i h32
   rw [c3, List.getElem?_eq_getElem (by omega), List.drop_zero, List.drop_take, List.take_take, Nat.min_eq_left (by omega)] at h
   exact open_capq h
  ·obtain rfl : i = 32 := by omega
   exact open_capq h1'
 obtain ⟨c, hc⟩ := Deep.choose_lt (n := 33) hex
 refine ⟨c, ?_, fun k hk => (hc k hk).2⟩
 apply List.ext_getElem?
 intro j
 by_cases hj : j < 99
 ·have h := (hc (j / 3) (by omega)).1
  unfold cxC
  rw [rowsC_get c 33 j (by omega), <- h, List.getElem?_take_of_lt (by omega), List.getElem?_drop]
  congr 1
  omega
 ·rw [List.getElem?_eq_none (by omega), List.getElem?_eq_none (by rw [cxC_len]; omega)]
structure PlayE where
 v : Value
 c : Nat -> Cq
 k : Value
def playC (p : PlayE) : List Value := plC p.v p.c p.k
theorem argPlay {H : Type} {enc : TypeId × Value -> H} {w : World} {base b0 : Nat} {spare : Nat -> Bool} {held : Bool} {r : Reach} {v : Value} {d : DataW H} {ps : List MemPlace} (hval : Value.okWide Tryz.prog w r b0 45 v) (h : DataW.Trod enc Tryz.prog w base spare held 45 v d ps) :
  ∃ p : PlayE, v = .agg (playC p).toArray /\ (∃ a n k, p.v = .slice a n k) /\ (∃ cs : List Cq, RowsAt w p.k 3 (cs.map cq) /\ ∀ x ∈ cs, Okq x) /\ ∀ k, k < 33 -> Okq (p.c k) := by
 simp only [Value.okWide, Tryz.underlying45] at hval
 obtain ⟨cs, rfl, -, -⟩ := hval
 obtain ⟨fuel, x, hx⟩ := agg_trod h
 have e : (Value.agg cs).cells.toList = cs.toList := by simp [Value.cells]
 rw [e] at hx
 have cc : Tryz.prog.cellsOf 45 = 101 := by kernel_rfl
 have c0 : Tryz.prog.cellsOf 39 = 1 := by kernel_rfl
 have c1 : Tryz.prog.cellsOf 42 = 99 := by kernel_rfl
 have c2 : Tryz.prog.cellsOf 43 = 1 := by kernel_rfl
 have c3 : Tryz.prog.cellsOf 24 = 3 := by kernel_rfl
 have c4 : Tryz.prog.cellsOf 38 = 1 := by kernel_rfl
 obtain ⟨hl, hf⟩ := fields_of Tryz.underlying45 hx
 rw [cc] at hl
 obtain ⟨m0, y0, h0⟩ := hf 0 _ rfl
 obtain ⟨m1, y1, h1⟩ := hf 1 _ rfl
 obtain ⟨m2, y2, h2⟩ := hf 2 _ rfl
 have h0' : DataW.trod enc Tryz.prog w base spare held m0 39 ((cs.toList.drop 0).take 1) = some y0 := by
  have : (cs.toList.drop 0).take (Tryz.prog.cellsOf 39) = (cs.toList.drop 0).take 1 := by rw [c0]
  rw [<- this]
  exact h0
 have h1' : DataW.trod enc Tryz.prog w base spare held m1 42 ((cs.toList.drop 1).take 99) = some y1 := by
  have : (cs.toList.drop 1).take (Tryz.prog.cellsOf 42) = (cs.toList.drop 1).take 99 := by rw [c1]
  rw [<- this]
  exact h1
 have h2' : DataW.trod enc Tryz.prog w base spare held m2 43 ((cs.toList.drop 100).take 1) = some y2 := by
  have : (cs.toList.drop 100).take (Tryz.prog.cellsOf 43) = (cs.toList.drop 100).take 1 := by rw [c2]
  rw [<- this]
  exact h2
 obtain ⟨v0, rows0, e0, hr0, -⟩ := open_rows Tryz.underlying39 c4 (by omega) h0'
 obtain ⟨c, ec, hc⟩ := open_ctx h1'
 obtain ⟨v2, rows2, e2, hr2, hall⟩ := open_rows Tryz.underlying43 c3 (by omega) h2'
 have hcs : ∃ l : List Cq, rows2 = l.map cq /\ ∀ x ∈ l, Okq x := by
  clear hr2
  induction rows2 with
  | nil => exact ⟨[], rfl, by simp⟩
  | cons r rows ih =>
   obtain ⟨l, rfl, hl⟩ := ih fun r hr => hall r (List.mem_cons_of_mem _ hr)
   obtain ⟨m, y, hy⟩ := hall r (List.mem_cons_self ..)
   obtain ⟨c, rfl, hc⟩ := open_capq hy
   exact ⟨c :: l, rfl, fun d hd => (List.mem_cons.1 hd).elim (fun e => e ▸ hc) (hl d)⟩
 obtain ⟨l, rfl, hlo⟩ := hcs
 refine ⟨⟨v0, c, v2⟩, ?_, ?_, ⟨l, hr2, hlo⟩, hc⟩
 ·have e3 := parts101 cs.toList hl
  rw [e0, ec, e2] at e3
  have e4 : cs = (playC ⟨v0, c, v2⟩).toArray := by
   apply Array.toList_inj.1
   rw [e3]
   unfold playC plC
   rw [List.singleton_append]
  rw [<- e4]
 ·obtain ⟨a, k, ea⟩ := hr0.len
  exact ⟨a, _, k, ea⟩
theorem enumbers_spec {w : World} {p : PlayE} {W : Int} (h1 : ∃ a n k, p.v = .slice a n k) (h2 : ∃ cs : List Cq, RowsAt w p.k 3 (cs.map cq) /\ ∀ x ∈ cs, Okq x) (h3 : ∀ k, k < 33 -> Okq (p.c k)) (hW : (Lit.int .u32 W).wf = true) {K : Value -> World -> Prop} (hK : ∀ w', Ext [] w w' -> K (.bool true) w') :
  callsK Tryz.prog 4 #[.agg (playC p).toArray, .int .u32 W] w K := by
 obtain ⟨a, n, k, hv⟩ := h1
 obtain ⟨cs, hr, ho⟩ := h2
 have hb : 0 <= W /\ W <= 4294967295 := by simpa [Lit.wf, IntKind.min, IntKind.max, IntKind.signed, IntKind.bits] using hW
 obtain ⟨m, rfl⟩ : ∃ m : Nat, W = (m : Int) := ⟨W.toNat, by omega⟩
 exact numbers_law hv hr (by omega) ho h3 hK
end Go.Proofs.YtplfniijbeinmaaGreat
