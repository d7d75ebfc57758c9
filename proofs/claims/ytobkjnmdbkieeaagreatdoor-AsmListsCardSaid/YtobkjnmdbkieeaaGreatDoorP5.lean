/- Part 5 of what the law AsmLists stands on: formulas of the functions that it reaches, and what each of them does; conditions: those of each theorem. -/
import Derived.Test.YtobkjnmdbkieeaaGreatDoorP4
set_option linter.unusedVariables false
set_option linter.unusedSimpArgs false
namespace Go.Proofs.YtobkjnmdbkieeaaGreatDoor
open Go.Fx
set_option maxRecDepth 100000
/-- a line that is something. -/
structure Ln where
 n : Nat
 t : List UInt8
 m : Bool
def lnC (x : Ln) : List Value := [.int .i64 (x.n : Nat), .string ⟨x.t.toArray⟩, .bool x.m]
theorem lnC_len (x : Ln) : (lnC x).length = 3 := by simp [lnC]
theorem lnC_all (x : Ln) : (lnC x).all (fun v => v.oneCell') = true := by simp [lnC]; exact ⟨rfl, rfl, rfl⟩
def lineF (k : Nat) (l : List UInt8) : Option Ln :=
 let t := Lib.trimLeftB l 32
 if t = [] ∨ Lib.hasPrefix t [35] = true then none else if Lib.hasSuffix t [58] && namedF (Lib.trimSuffix t [58]) then some ⟨k, Lib.trimSuffix t [58], true⟩ else some ⟨k, t, false⟩
def linesFrom : Nat -> List (List UInt8) -> List Ln
 | _, [] => []
 | k, l :: r => (lineF (k + 1) l).toList ++ linesFrom (k + 1) r
theorem linesFrom_app : ∀ (a b : List (List UInt8)) (k : Nat), linesFrom k (a ++ b) = linesFrom k a ++ linesFrom (k + a.length) b
 | [], b, k => by simp [linesFrom]
 | x :: a, b, k => by
  rw [List.cons_append, linesFrom, linesFrom, linesFrom_app a b (k + 1), List.append_assoc, List.length_cons]
  rw [show k + 1 + a.length = k + (a.length + 1) by omega]
theorem linesFrom_len : ∀ (a : List (List UInt8)) (k : Nat), (linesFrom k a).length <= a.length
 | [], _ => Nat.le_refl _
 | x :: a, k => by
  have := linesFrom_len a (k + 1)
  rw [linesFrom, List.length_append, List.length_cons]
  have : (lineF (k + 1) x).toList.length <= 1 := by cases lineF (k + 1) x <;> simp
  omega
theorem appLn {base : Nat} {v x : Value} {rows rows2 : List (List Value)} {w : World} {K : Value -> World -> Prop} (hown : OwnR w base 79 3 v rows) (hx : RowsAt w x 3 rows2) (h1 : ∀ r ∈ rows2, r.all (fun v => v.oneCell') = true)
  (hl : rows.length + rows2.length <= 1000000) (hbase : base <= w.heap.size) (hK : ∀ v' w', OwnR w' base 79 3 v' (rows ++ rows2) -> App base v w w' -> K v' w') : resV K ((Builtin.append_ #[70, 70] 70 #[v, x]).run Tryz.prog w) :=
 kV_appR Tryz.underlying70 (by kernel_rfl) (by omega) (bytes := 32) hown hx h1 (by simp only [maxLen]; omega) (by omega) hbase hK
theorem trimB_len (l : List UInt8) : (Lib.trimLeftB l 32).length <= l.length := by
 unfold Lib.trimLeftB
 exact (List.dropWhile_sublist _).length_le
theorem trimSuf_len (s p : List UInt8) : (Lib.trimSuffix s p).length <= s.length := by
 unfold Lib.trimSuffix
 split
 ·simp
 ·exact Nat.le_refl _
theorem qZ6 : type_of% (And.intro @szR (And.intro @izC_len (And.intro @izC_all (And.intro @lnC_len (@lnC_all))))) := ⟨@szR, @izC_len, @izC_all, @lnC_len, @lnC_all⟩
theorem qD6 {p : Prop} (h : p := by first | assumption | omega | (simp only [qZ6] <;> omega) | rfl | decide) : p := h
theorem lines_spec {w : World} {s : List UInt8} (hg : Gm w) (hs : s.length <= 20000) {K : Value -> World -> Prop} (hK : ∀ v w', RowsAt w' v 3 ((linesFrom 0 (Lib.split s [10])).map lnC) -> Ext [] w w' -> (∀ b, blockOf v = some b -> w.heap.size <= b) -> K v w') : callsK Tryz.prog 26 #[.string ⟨s.toArray⟩] w K := by
 apply F26_ok
 unfold F26
 have hsl : ∀ x ∈ Lib.split s [10], x.length <= s.length := splitK_len _ _ _ _ (Nat.le_refl _)
 have hcn : (Lib.split s [10]).length <= s.length + 1 := by
  have hd := Lib.splitB_data ⟨#[10]⟩ 0 (Lib.countB ⟨s.toArray⟩ ⟨#[10]⟩) ⟨s.toArray⟩
  have hlen := Lib.splitB_all ⟨#[10]⟩ (Nat.le_refl 1) 0 (Lib.countB ⟨s.toArray⟩ ⟨#[10]⟩) ⟨s.toArray⟩ rfl
  have hc := Lib.countB_le ⟨#[10]⟩ (Nat.le_refl 1) s.length ⟨s.toArray⟩ (by rw [size_mk]; exact Nat.le_refl _)
  rw [size_mk] at hc
  have e2 : Lib.split s [10] = (Lib.splitB ⟨#[10]⟩ 0 (Lib.countB ⟨s.toArray⟩ ⟨#[10]⟩) ⟨s.toArray⟩).map (·.data.toList) := by rw [hd]; rfl
  rw [e2, List.length_map, hlen]
  omega
 refine Split_spec (s := s) (p := [10]) hg (by omega) (by simp) fun v w1 hv hx1 hvb => ?_
 generalize Lib.split s [10] = ls at *
 have hlv := hv.lenR (ty := 3) Tryz.underlying80
 rw [List.length_map] at hlv
 simp (disch := first | exact qD6 | fail) only [qG2, Nat.reduceAdd, Nat.reduceLeDiff, Int.reduceToNat, Int.reduceAdd, Int.reduceSub, Int.reduceLT, Int.reduceLE, Nat.reduceSub, Nat.reduceMul, Nat.reduceEqDiff, hlv]
 refine loopT.intro (fun st w' => ∃ (k : Nat) (o : Value), k <= ls.length /\ st = [o, .int .i64 (k : Nat)] /\ OwnR w' w1.heap.size 79 3 o ((linesFrom 0 (ls.take k)).map lnC) /\ Ext [] w1 w')
  (fun st _ => match st with
   | [_, .int _ z] => ls.length - z.toNat
   | _ => 0) ⟨0, _, Nat.zero_le _, rfl, OwnR.nil, Ext.refl⟩ ?_
 rintro st w2 ⟨k, o, hk, rfl, ho, hx2⟩ _
 have hll := linesFrom_len (ls.take k) 0
 rw [List.length_take] at hll
 by_cases h4 : k < ls.length
 ·obtain ⟨x, hx⟩ : ∃ x, ls[k]? = some x := ⟨_, List.getElem?_eq_getElem h4⟩
  have hxl := hsl x (List.mem_of_getElem? hx)
  have hrow : (ls.map sC)[k]? = some (sC x) := by rw [List.getElem?_map, hx]; rfl
  have hv2 := hv.ext hx2 (by simp)
  obtain ⟨b0, o0, lb, E0, f0, hix, hb0, hfit, hblt, hbk, hsub, hget⟩ := RowsAt.ixR (P := Tryz.prog) (t := 80) Tryz.underlying80 Tryz.sizeOf9 hv2 hrow
  have hc0 : lb[o0]? = some (.string ⟨x.toArray⟩) := by simpa [sC] using hget (o0 + 0) 0 rfl (by omega)
  have hnx : linesFrom 0 (ls.take (k + 1)) = linesFrom 0 (ls.take k) ++ (lineF (k + 1) x).toList := by
   rw [List.take_add_one, hx, linesFrom_app, List.length_take, Nat.min_eq_left hk, Nat.zero_add]
   rw [Option.toList, linesFrom, linesFrom, List.append_nil]
  have hlf : lineF (k + 1) x = if Lib.trimLeftB x 32 = [] ∨ Lib.hasPrefix (Lib.trimLeftB x 32) [35] = true then none else if Lib.hasSuffix (Lib.trimLeftB x 32) [58] && namedF (Lib.trimSuffix (Lib.trimLeftB x 32) [58]) then some ⟨k + 1, Lib.trimSuffix (Lib.trimLeftB x 32) [58], true⟩ else some ⟨k + 1, Lib.trimLeftB x 32, false⟩ := rfl
  generalize hr : lineF (k + 1) x = r at *
  have htl := trimB_len x
  simp (disch := first | exact qD6 | fail) only [qG2, Nat.reduceAdd, Nat.reduceLeDiff, Int.reduceToNat, Int.reduceAdd, Int.reduceSub, Int.reduceLT, Int.reduceLE, Nat.reduceSub, Nat.reduceMul, Nat.reduceEqDiff, List.getD_cons_zero, List.getD_cons_succ]
  refine joinL.intro fun J2 hJ2 => ?_
  simp (disch := first | exact qD6 | fail) only [qG2, Nat.reduceAdd, Nat.reduceLeDiff, Int.reduceToNat, Int.reduceAdd, Int.reduceSub, Int.reduceLT, Int.reduceLE, Nat.reduceSub, Nat.reduceMul, Nat.reduceEqDiff, hix, hb0, hc0]
  refine TrimLeft_spec (s := x) (c := 32) (by decide) ?_
  have hskip : r = none -> J2 [o] w2 := by
   intro hn
   rw [hn, Option.toList, List.append_nil] at hnx
   apply hJ2
   intro _
   simp (disch := first | exact qD6 | fail) only [qG2, Nat.reduceAdd, Nat.reduceLeDiff, Int.reduceToNat, Int.reduceAdd, Int.reduceSub, Int.reduceLT, Int.reduceLE, Nat.reduceSub, Nat.reduceMul, Nat.reduceEqDiff, List.getD_cons_zero, List.getD_cons_succ]
   exact ⟨⟨k + 1, o, by omega, rfl, by rw [hnx]; exact ho, hx2⟩, by first | omega | (simp <;> omega)⟩
  have htsl := trimSuf_len (Lib.trimLeftB x 32) [58]
  generalize Lib.trimLeftB x 32 = t at *
  have hE := eqlS t []
  by_cases h0 : t = []
  ·rw [if_pos (.inl h0)] at hlf
   simp (disch := first | exact qD6 | fail) only [qG2, Nat.reduceAdd, Nat.reduceLeDiff, Int.reduceToNat, Int.reduceAdd, Int.reduceSub, Int.reduceLT, Int.reduceLE, Nat.reduceSub, Nat.reduceMul, Nat.reduceEqDiff, joinBR, hE, decide_eq_true h0]
   exact hskip hlf
  have hd0 := decide_eq_false h0
  have hbl : ∀ (n : Int) (t : ByteArray) (m : Bool) w, (Instr.build 79 #[(0, .int .i64 n), (1, .string t), (2, .bool m)]).run Tryz.prog w = .ok (.agg [.int .i64 n, .string t, .bool m].toArray) w := fun n t m w => run_build w 79 _ _ (by kernel_rfl)
  simp (disch := first | exact qD6 | fail) only [qG2, Nat.reduceAdd, Nat.reduceLeDiff, Int.reduceToNat, Int.reduceAdd, Int.reduceSub, Int.reduceLT, Int.reduceLE, Nat.reduceSub, Nat.reduceMul, Nat.reduceEqDiff, joinBR, hE, hd0]
  refine HasPrefix_spec (s := t) (p := [35]) ?_
  cases hp : Lib.hasPrefix t [35] with
  | true =>
   rw [if_pos (.inr hp)] at hlf
   simp (disch := first | exact qD6 | fail) only [qG2, Nat.reduceAdd, Nat.reduceLeDiff, Int.reduceToNat, Int.reduceAdd, Int.reduceSub, Int.reduceLT, Int.reduceLE, Nat.reduceSub, Nat.reduceMul, Nat.reduceEqDiff, joinBR]
   exact hskip hlf
  | false =>
   rw [if_neg (by rw [hp]; simp [h0])] at hlf
   simp (disch := first | exact qD6 | fail) only [qG2, Nat.reduceAdd, Nat.reduceLeDiff, Int.reduceToNat, Int.reduceAdd, Int.reduceSub, Int.reduceLT, Int.reduceLE, Nat.reduceSub, Nat.reduceMul, Nat.reduceEqDiff, joinBR]
   refine CutSuffix_spec (s := t) (p := [58]) (by omega) ?_
   simp (disch := first | exact qD6 | fail) only [qG2, Nat.reduceAdd, Nat.reduceLeDiff, Int.reduceToNat, Int.reduceAdd, Int.reduceSub, Int.reduceLT, Int.reduceLE, Nat.reduceSub, Nat.reduceMul, Nat.reduceEqDiff]
   refine joinL.intro fun J5 hJ5 => ?_
   have hpush : ∀ (t' : List UInt8) (m : Bool), r = some ⟨k + 1, t', m⟩ -> J5 [.bool m, .string ⟨t'.toArray⟩] w2 := by
    intro t' m he
    rw [he, Option.toList] at hnx
    apply hJ5
    intro _
    have hag : ∀ w, (Instr.build 79 #[(0, .int .i64 ((k : Nat) + 1 : Int)), (1, .string ⟨t'.toArray⟩), (2, .bool m)]).run Tryz.prog w = .ok (.agg (lnC ⟨k + 1, t', m⟩).toArray) w := fun w => hbl _ _ _ w
    simp (disch := first | exact qD6 | fail) only [qG2, Nat.reduceAdd, Nat.reduceLeDiff, Int.reduceToNat, Int.reduceAdd, Int.reduceSub, Int.reduceLT, Int.reduceLE, Nat.reduceSub, Nat.reduceMul, Nat.reduceEqDiff, List.getD_cons_zero, List.getD_cons_succ, hag]
    have hxb : Ext [] w2 (w2.alloc (.cells (lnC ⟨k + 1, t', m⟩).toArray 79)) := Ext.alloc Ext.refl _ _
    refine appLn (rows2 := [lnC ⟨k + 1, t', m⟩]) (ho.ext hxb (by simp)) (OwnR.fresh (base := 0) rfl (lnC_all _) (Nat.zero_le _)).rows (by intro r hr; simp at hr; subst hr; exact lnC_all _) (by simp; omega) (by have := hx2.size; have := hxb.size; omega) fun v8 w4 ho8 ha => ?_
    rw [show (linesFrom 0 (ls.take k)).map lnC ++ [lnC ⟨k + 1, t', m⟩] = (linesFrom 0 (ls.take (k + 1))).map lnC by rw [hnx]; simp] at ho8
    have hx8 := ha.ext w1 [] (Nat.le_refl _) (hx2.trans hxb (by simp))
    apply hJ2
    intro _
    simp (disch := first | exact qD6 | fail) only [qG2, Nat.reduceAdd, Nat.reduceLeDiff, Int.reduceToNat, Int.reduceAdd, Int.reduceSub, Int.reduceLT, Int.reduceLE, Nat.reduceSub, Nat.reduceMul, Nat.reduceEqDiff, List.getD_cons_zero, List.getD_cons_succ]
    exact ⟨⟨k + 1, v8, by omega, rfl, ho8, hx8⟩, by first | omega | (simp <;> omega)⟩
   cases hsf : Lib.hasSuffix t [58] with
   | false =>
    rw [hsf] at hlf
    simp (disch := first | exact qD6 | fail) only [qG2, Nat.reduceAdd, Nat.reduceLeDiff, Int.reduceToNat, Int.reduceAdd, Int.reduceSub, Int.reduceLT, Int.reduceLE, Nat.reduceSub, Nat.reduceMul, Nat.reduceEqDiff, joinBR]
    exact hpush _ _ hlf
   | true =>
    rw [hsf, Bool.true_and] at hlf
    simp (disch := first | exact qD6 | fail) only [qG2, Nat.reduceAdd, Nat.reduceLeDiff, Int.reduceToNat, Int.reduceAdd, Int.reduceSub, Int.reduceLT, Int.reduceLE, Nat.reduceSub, Nat.reduceMul, Nat.reduceEqDiff, joinBR]
    refine named_spec (by omega) ?_
    cases hnm : namedF (Lib.trimSuffix t [58]) with
    | false =>
     rw [hnm] at hlf
     simp (disch := first | exact qD6 | fail) only [qG2, Nat.reduceAdd, Nat.reduceLeDiff, Int.reduceToNat, Int.reduceAdd, Int.reduceSub, Int.reduceLT, Int.reduceLE, Nat.reduceSub, Nat.reduceMul, Nat.reduceEqDiff, joinBR]
     exact hpush _ _ hlf
    | true =>
     rw [hnm] at hlf
     simp (disch := first | exact qD6 | fail) only [qG2, Nat.reduceAdd, Nat.reduceLeDiff, Int.reduceToNat, Int.reduceAdd, Int.reduceSub, Int.reduceLT, Int.reduceLE, Nat.reduceSub, Nat.reduceMul, Nat.reduceEqDiff, joinBR]
     exact hpush _ _ hlf
 ·obtain rfl : k = ls.length := by omega
  rw [List.take_length] at ho
  simp (disch := first | exact qD6 | fail) only [qG2, Nat.reduceAdd, Nat.reduceLeDiff, Int.reduceToNat, Int.reduceAdd, Int.reduceSub, Int.reduceLT, Int.reduceLE, Nat.reduceSub, Nat.reduceMul, Nat.reduceEqDiff, List.getD_cons_zero, List.getD_cons_succ]
  exact hK _ _ ho.rows (hx1.trans hx2 (by simp)) fun b hb => by have := ho.block b hb; have := hx1.size; omega
open Go.Fx
set_option maxRecDepth 100000
/-- a line stands for these instructions' texts. -/
def StandsOK (t : List UInt8) (l : List (List UInt8)) : Prop := ∀ (w : World) (K : Value -> World -> Prop), Gm w -> (∀ v w', RowsAt w' v 1 (l.map sC) -> Ext [] w w' -> (∀ b, blockOf v = some b -> w.heap.size <= b) -> K v w') -> callsK Tryz.prog 28 #[.string ⟨t.toArray⟩] w K
/-- a line that is an instruction, or none. -/
def Plain (t : List UInt8) : Prop := t ≠ [110, 111, 112] /\ t ≠ [114, 101, 116] /\ ((Lib.cut t [32]).2.2 = false ∨ ((Lib.cut t [32]).1 ≠ [106] /\ (Lib.cut t [32]).1 ≠ [109, 118] /\ (Lib.cut t [32]).1 ≠ [108, 105]))
theorem one_text {w : World} {t : List UInt8} {K : Value -> World -> Prop} (hK : ∀ v w', RowsAt w' v 1 ([t].map sC) -> Ext [] w w' -> (∀ b, blockOf v = some b -> w.heap.size <= b) -> K v w') : K (.slice (some ⟨w.heap.size, 0, none⟩) 1 1) (w.alloc (.cells [.string ⟨t.toArray⟩].toArray 9)) :=
 hK _ _ (OwnR.fresh (base := 0) rfl rfl (Nat.zero_le _)).rows qX fun b hb => Nat.le_of_eq (Option.some.inj hb)
theorem qZ7 : type_of% (And.intro @szR (And.intro @izC_len (And.intro @izC_all (And.intro @lnC_len (And.intro @lnC_all (And.intro @mkC_len (@mkC_all))))))) := ⟨@szR, @izC_len, @izC_all, @lnC_len, @lnC_all, @mkC_len, @mkC_all⟩
theorem qD7 {p : Prop} (h : p := by first | assumption | omega | (simp only [qZ7] <;> omega) | rfl | decide) : p := h
theorem stands_plain {t : List UInt8} (hs : t.length <= 1000000) (h : Plain t) : StandsOK t [t] := by
 intro w K hg hK
 obtain ⟨h1, h2, h3⟩ := h
 apply F28_ok
 unfold F28
 have E1 := eqlS t [110, 111, 112]
 have E2 := eqlS t [114, 101, 116]
 have d1 := decide_eq_false h1
 have d2 := decide_eq_false h2
 refine Cut_spec (s := t) (p := [32]) hg (by omega) fun w1 hx1 => ?_
 generalize Lib.cut t [32] = c at *
 have E3 := eqlS c.1 [106]
 have E4 := eqlS c.1 [109, 118]
 have E5 := eqlS c.1 [108, 105]
 simp (disch := first | exact qD7 | fail) only [qG2, Nat.reduceAdd, Nat.reduceLeDiff, Int.reduceToNat, Int.reduceAdd, Int.reduceSub, Int.reduceLT, Int.reduceLE, Nat.reduceSub, Nat.reduceMul, Nat.reduceEqDiff]
 refine joinL.intro fun J0 hJ0 => ?_
 have hgo : J0 [] w1 := by
  apply hJ0
  intro _
  simp (disch := first | exact qD7 | fail) only [qG2, Nat.reduceAdd, Nat.reduceLeDiff, Int.reduceToNat, Int.reduceAdd, Int.reduceSub, Int.reduceLT, Int.reduceLE, Nat.reduceSub, Nat.reduceMul, Nat.reduceEqDiff]
  have hx1s := hx1.size
  exact one_text fun v w' hv hx hb => hK v w' hv (hx1.trans hx (by simp)) fun b hb2 => Nat.le_trans hx1s (hb b hb2)
 rcases h3 with h3 | ⟨h3, h4, h5⟩
 ·simp (disch := first | exact qD7 | fail) only [qG2, Nat.reduceAdd, Nat.reduceLeDiff, Int.reduceToNat, Int.reduceAdd, Int.reduceSub, Int.reduceLT, Int.reduceLE, Nat.reduceSub, Nat.reduceMul, Nat.reduceEqDiff, E1, d1, E2, d2, h3]
  exact hgo
 ·cases hc : c.2.2 with
  | false =>
   simp (disch := first | exact qD7 | fail) only [qG2, Nat.reduceAdd, Nat.reduceLeDiff, Int.reduceToNat, Int.reduceAdd, Int.reduceSub, Int.reduceLT, Int.reduceLE, Nat.reduceSub, Nat.reduceMul, Nat.reduceEqDiff, E1, d1, E2, d2]
   exact hgo
  | true =>
   have d3 := decide_eq_false h3
   have d4 := decide_eq_false h4
   have d5 := decide_eq_false h5
   simp (disch := first | exact qD7 | fail) only [qG2, Nat.reduceAdd, Nat.reduceLeDiff, Int.reduceToNat, Int.reduceAdd, Int.reduceSub, Int.reduceLT, Int.reduceLE, Nat.reduceSub, Nat.reduceMul, Nat.reduceEqDiff, E1, d1, E2, d2, E3, d3, E4, d4, E5, d5]
   exact hgo
/-- marks' places, how often each is there, and how many instructions there are, behind a line. -/
structure Mk where
 a : List UInt8 -> Option Int
 t : List UInt8 -> Option Int
 n : Nat
def stepC (st : List UInt8 -> List (List UInt8)) (p : Mk) (x : Ln) : Mk :=
 if x.m then ⟨fun b => if b = x.t then some p.n else p.a b, fun b => if b = x.t then some ((p.t x.t).getD 0 + 1) else p.t b, p.n⟩ else ⟨p.a, p.t, p.n + (st x.t).length⟩
def Mk.zero : Mk := ⟨fun _ => none, fun _ => none, 0⟩
def countF (st : List UInt8 -> List (List UInt8)) (L : List Ln) : Mk := L.foldl (stepC st) Mk.zero
theorem countF_n {st : List UInt8 -> List (List UInt8)} (hst : ∀ t, (st t).length <= 2) : ∀ L, (countF st L).n <= 2 * L.length := by
 intro L
 unfold countF
 suffices h : ∀ (L : List Ln) (p : Mk), (L.foldl (stepC st) p).n <= p.n + 2 * L.length by
  have := h L Mk.zero
  simpa [Mk.zero] using this
 intro L
 induction L with
 | nil => intro p; simp
 | cons x L ih =>
  intro p
  rw [List.foldl_cons, List.length_cons]
  have h1 := ih (stepC st p x)
  have h2 : (stepC st p x).n <= p.n + 2 := by
   unfold stepC
   split
   ·simp
   ·have := hst x.t
    simp
    omega
  omega
theorem countF_t {st : List UInt8 -> List (List UInt8)} : ∀ L b, 0 <= ((countF st L).t b).getD 0 /\ ((countF st L).t b).getD 0 <= L.length := by
 intro L
 unfold countF
 suffices h : ∀ (L : List Ln) (p : Mk) (m : Nat), (∀ b, 0 <= (p.t b).getD 0 /\ (p.t b).getD 0 <= m) -> ∀ b, 0 <= ((L.foldl (stepC st) p).t b).getD 0 /\ ((L.foldl (stepC st) p).t b).getD 0 <= m + L.length by
  have := h L Mk.zero 0 (fun b => by simp [Mk.zero])
  simpa using this
 intro L
 induction L with
 | nil => intro p m h b; simpa using h b
 | cons x L ih =>
  intro p m h b
  have := ih (stepC st p x) (m + 1) (fun c => by
   unfold stepC
   have h1 := h x.t
   have h2 := h c
   split
   ·simp only
    split
    ·simp only [Option.getD_some]
     omega
    ·omega
   ·simp only
    omega) b
  rw [List.foldl_cons, List.length_cons]
  omega
theorem countF_a {st : List UInt8 -> List (List UInt8)} (hst : ∀ t, (st t).length <= 2) : ∀ L b c, (countF st L).a b = some c -> 0 <= c /\ c <= 2 * L.length := by
 intro L
 unfold countF
 suffices h : ∀ (L : List Ln) (p : Mk) (m : Nat), p.n <= m -> (∀ b c, p.a b = some c -> 0 <= c /\ c <= m) -> ∀ b c, (L.foldl (stepC st) p).a b = some c -> 0 <= c /\ c <= m + 2 * L.length by
  have := h L Mk.zero 0 (Nat.le_refl _) (fun b c h => by simp [Mk.zero] at h)
  simpa using this
 intro L
 induction L with
 | nil => intro p m _ h b c hb; simpa using h b c hb
 | cons x L ih =>
  intro p m hn h b c hb
  rw [List.foldl_cons] at hb
  have := ih (stepC st p x) (m + 2) (by
   unfold stepC
   split
   ·simp only; omega
   ·have := hst x.t
    simp only; omega) (fun b c hb => by
   unfold stepC at hb
   split at hb
   ·simp only at hb
    split at hb
    ·simp only [Option.some.injEq] at hb
     omega
    ·have := h b c hb
     omega
   ·have := h b c hb
    omega) b c hb
  rw [List.length_cons]
  omega
open Go.Fx
set_option maxRecDepth 100000
theorem ln_over (x : Ln) : splice [.int .i64 0, .string ⟨#[]⟩, .bool false] 0 (lnC x) = lnC x := rfl
theorem ln_put (x : Ln) : lnC x ++ List.drop (lnC x).length [.int .i64 0, .string ⟨#[]⟩, .bool false] = lnC x := by simp [lnC]
theorem mk_over (a b : Nat) : splice [.map none, .map none] 0 (mkC a b) = mkC a b := rfl
theorem mk_put (a b : Nat) : mkC a b ++ List.drop (mkC a b).length [.map none, .map none] = mkC a b := by simp [mkC]
theorem count_spec {w : World} {v : Value} {L : List Ln} {st : List UInt8 -> List (List UInt8)} (hst : ∀ t, (st t).length <= 2) (hg : Gm w) (hv : RowsAt w v 3 (L.map lnC)) (hL : L.length <= 20001) (hok : ∀ x ∈ L, x.m = false -> StandsOK x.t (st x.t)) {K : Value -> World -> Prop}
  (hK : ∀ r1 r2 w', MapF w' r1 sV iV64 (countF st L).a -> MapF w' r2 sV iV64 (countF st L).t -> w.heap.size <= r1 -> w.heap.size <= r2 -> r1 ≠ r2 -> Ext [] w w' -> K (.tuple #[.agg (mkC r1 r2).toArray, .int .i64 ((countF st L).n : Nat)]) w') : callsK Tryz.prog 27 #[v] w K := by
 apply F27_ok
 unfold F27
 have hlv := hv.lenR (ty := 3) Tryz.underlying70
 rw [List.length_map] at hlv
 have hm : ∀ w, (Instr.makeMap 72 none).run Tryz.prog w = .ok (.map (some w.heap.size)) (w.alloc (.map #[] 0)) := fun w => run_mkM _ w
 have z1 := mk_over
 have z2 := mk_put
 simp (disch := first | exact qD7 | fail) only [qG2, Nat.reduceAdd, Nat.reduceLeDiff, Int.reduceToNat, Int.reduceAdd, Int.reduceSub, Int.reduceLT, Int.reduceLE, Nat.reduceSub, Nat.reduceMul, Nat.reduceEqDiff, hlv, hm]
 have hxa : Ext [] w ((((w.alloc (.cells [.map none, .map none].toArray 74)).alloc (.map #[] 0)).alloc (.map #[] 0)).alloc (.cells (mkC (w.heap.size + 1) (w.heap.size + 1 + 1)).toArray 74)) := Ext.alloc (Ext.allocM (Ext.allocM (Ext.alloc Ext.refl _ _))) _ _
 have e1 : (w.alloc (.cells [.map none, .map none].toArray 74)).heap.size = w.heap.size + 1 := by simp (disch := first | exact qD7 | fail) only [qG2, Nat.reduceAdd, Nat.reduceLeDiff, Int.reduceToNat, Int.reduceAdd, Int.reduceSub, Int.reduceLT, Int.reduceLE, Nat.reduceSub, Nat.reduceMul, Nat.reduceEqDiff]
 have e2 : ((w.alloc (.cells [.map none, .map none].toArray 74)).alloc (.map #[] 0)).heap.size = w.heap.size + 1 + 1 := by simp (disch := first | exact qD7 | fail) only [qG2, Nat.reduceAdd, Nat.reduceLeDiff, Int.reduceToNat, Int.reduceAdd, Int.reduceSub, Int.reduceLT, Int.reduceLE, Nat.reduceSub, Nat.reduceMul, Nat.reduceEqDiff]
 have e3 : (((w.alloc (.cells [.map none, .map none].toArray 74)).alloc (.map #[] 0)).alloc (.map #[] 0)).heap.size = w.heap.size + 1 + 1 + 1 := by simp (disch := first | exact qD7 | fail) only [qG2, Nat.reduceAdd, Nat.reduceLeDiff, Int.reduceToNat, Int.reduceAdd, Int.reduceSub, Int.reduceLT, Int.reduceLE, Nat.reduceSub, Nat.reduceMul, Nat.reduceEqDiff]
 have M1 : MapF ((w.alloc (.cells [.map none, .map none].toArray 74)).alloc (.map #[] 0)) (w.heap.size + 1) sV iV64 (fun _ => none) := by
  have := MapF.make (w := w.alloc (.cells [.map none, .map none].toArray 74)) (kf := sV) (vf := iV64)
  rwa [e1] at this
 have M2 : MapF (((w.alloc (.cells [.map none, .map none].toArray 74)).alloc (.map #[] 0)).alloc (.map #[] 0)) (w.heap.size + 1 + 1) sV iV64 (fun _ => none) := by
  have := MapF.make (w := (w.alloc (.cells [.map none, .map none].toArray 74)).alloc (.map #[] 0)) (kf := sV) (vf := iV64)
  rwa [e2] at this
 replace M1 := (M1.ext (Ext.allocM (S := []) (es := #[]) (c := 0) Ext.refl) (by simp)).ext (Ext.alloc (S := []) Ext.refl (mkC (w.heap.size + 1) (w.heap.size + 1 + 1)).toArray 74) (by simp)
 replace M2 := M2.ext (Ext.alloc (S := []) Ext.refl (mkC (w.heap.size + 1) (w.heap.size + 1 + 1)).toArray 74) (by simp)
 have G4 : ((((w.alloc (.cells [.map none, .map none].toArray 74)).alloc (.map #[] 0)).alloc (.map #[] 0)).alloc (.cells (mkC (w.heap.size + 1) (w.heap.size + 1 + 1)).toArray 74)).heap[w.heap.size + 1 + 1 + 1]? = some (.cells (mkC (w.heap.size + 1) (w.heap.size + 1 + 1)).toArray 74 (0, 0)) := by
  rw [<- e3]
  exact alloc_at rfl
 have G0 : ((((w.alloc (.cells [.map none, .map none].toArray 74)).alloc (.map #[] 0)).alloc (.map #[] 0)).alloc (.cells (mkC (w.heap.size + 1) (w.heap.size + 1 + 1)).toArray 74)).heap[w.heap.size]? = some (.cells [.map none, .map none].toArray 74 (0, 0)) := by
  have h0 : (w.alloc (.cells [.map none, .map none].toArray 74)).heap[w.heap.size]? = some (.cells [.map none, .map none].toArray 74 (0, 0)) := alloc_at rfl
  have hx : Ext [] (w.alloc (.cells [.map none, .map none].toArray 74)) ((((w.alloc (.cells [.map none, .map none].toArray 74)).alloc (.map #[] 0)).alloc (.map #[] 0)).alloc (.cells (mkC (w.heap.size + 1) (w.heap.size + 1 + 1)).toArray 74)) := Ext.alloc (Ext.allocM (Ext.allocM Ext.refl)) _ _
  exact hx.at h0 (by simp)
 have hmk : [.map (some (w.heap.size + 1)), .map (some (w.heap.size + 1 + 1))] = mkC (w.heap.size + 1) (w.heap.size + 1 + 1) := rfl
 rw [hmk]
 clear e1 e2 e3 hm hmk
 generalize ((((w.alloc (.cells [.map none, .map none].toArray 74)).alloc (.map #[] 0)).alloc (.map #[] 0)).alloc (.cells (mkC (w.heap.size + 1) (w.heap.size + 1 + 1)).toArray 74)) = w1 at *
 obtain ⟨s0, hs0⟩ : ∃ s0, s0 = w.heap.size := ⟨_, rfl⟩
 have hs1 : Ext [] w w1 := hxa
 obtain ⟨r1, hr1⟩ : ∃ r1, r1 = s0 + 1 := ⟨_, rfl⟩
 obtain ⟨r2, hr2⟩ : ∃ r2, r2 = s0 + 1 + 1 := ⟨_, rfl⟩
 obtain ⟨b4, hb4⟩ : ∃ b4, b4 = s0 + 1 + 1 + 1 := ⟨_, rfl⟩
 rw [<- hs0] at M1 M2 G0 G4 ⊢
 rw [<- hb4, <- hr2, <- hr1] at G4
 rw [<- hr2] at M2
 rw [<- hr1] at M1
 rw [<- hb4]
 have lw1 := lt_of_at G4
 have c0 : (mkC r1 r2)[0]? = some (.map (some r1)) := rfl
 have c1 : (mkC r1 r2)[1]? = some (.map (some r2)) := rfl
 have hnz : ∀ L' : List Ln, L'.length <= 20001 -> (countF st L').n <= 40002 := fun L' h => Nat.le_trans (countF_n hst L') (by omega)
 refine loopT.intro (fun ss w' => ∃ (k : Nat), k <= L.length /\ ss = [.int .i64 ((countF st (L.take k)).n : Nat), .int .i64 (k : Nat)] /\ MapF w' r1 sV iV64 (countF st (L.take k)).a /\ MapF w' r2 sV iV64 (countF st (L.take k)).t /\ Ext [r1, r2] w1 w')
  (fun st _ => match st with
   | [_, .int _ z] => L.length - z.toNat
   | _ => 0) ⟨0, Nat.zero_le _, rfl, M1, M2, Ext.refl⟩ ?_
 rintro ss w2 ⟨k, hk, rfl, N1, N2, hx2⟩ _
 have H0 := hx2.at G0 (by simp; omega)
 have H4 := hx2.at G4 (by simp; omega)
 have l0 := lt_of_at H0
 have l4 := lt_of_at H4
 have hg2 : Gm w2 := by
  obtain ⟨g0, m, hm⟩ := hg.ext hs1
  have hk0 := hx2.kept 0 g0 (by simp; omega)
  refine ⟨by have := hx2.size; omega, m, ?_⟩
  rw [<- hm]
  unfold World.cell?
  rw [hk0]
 by_cases h4 : k < L.length
 ·obtain ⟨x, hx⟩ : ∃ x, L[k]? = some x := ⟨_, List.getElem?_eq_getElem h4⟩
  have hxm := List.mem_of_getElem? hx
  have hnx : countF st (L.take (k + 1)) = stepC st (countF st (L.take k)) x := by
   unfold countF
   rw [List.take_add_one, hx, List.foldl_append]
   rfl
  have hT := countF_t (st := st) (L.take k) x.t
  have hN := hnz (L.take k) (by simp; omega)
  rw [List.length_take] at hT
  generalize countF st (L.take k) = p at *
  have hrow : (L.map lnC)[k]? = some (lnC x) := by rw [List.getElem?_map, hx]; rfl
  have hv2 := (hv.ext hs1 (by simp)).at' hx2 (fun h b hb => by have := hv.blt h b hb; simp; omega)
  obtain ⟨b0, o0, lb, E0, f0, hix, hb0, hfit, hblt, hbk, hsub, hget⟩ := RowsAt.ixR (P := Tryz.prog) (t := 70) Tryz.underlying70 Tryz.sizeOf79 hv2 hrow
  have hs := hsub o0 rfl
  have q1 : (lnC x)[1]? = some (.string ⟨x.t.toArray⟩) := rfl
  have q2 : (lnC x)[2]? = some (.bool x.m) := rfl
  simp (disch := first | exact qD7 | fail) only [qG2, Nat.reduceAdd, Nat.reduceLeDiff, Int.reduceToNat, Int.reduceAdd, Int.reduceSub, Int.reduceLT, Int.reduceLE, Nat.reduceSub, Nat.reduceMul, Nat.reduceEqDiff, List.getD_cons_zero, List.getD_cons_succ]
  refine joinL.intro fun J2 hJ2 => ?_
  have hfin : ∀ w3, MapF w3 r1 sV iV64 (stepC st p x).a -> MapF w3 r2 sV iV64 (stepC st p x).t -> Ext [r1, r2] w2 w3 -> J2 [.int .i64 ((stepC st p x).n : Nat)] w3 := by
   intro w3 a1 a2 a3
   rw [<- hnx] at a1 a2 ⊢
   apply hJ2
   intro _
   simp (disch := first | exact qD7 | fail) only [qG2, Nat.reduceAdd, Nat.reduceLeDiff, Int.reduceToNat, Int.reduceAdd, Int.reduceSub, Int.reduceLT, Int.reduceLE, Nat.reduceSub, Nat.reduceMul, Nat.reduceEqDiff, List.getD_cons_zero, List.getD_cons_succ]
   exact ⟨⟨k + 1, by omega, rfl, a1, a2, hx2.trans a3 (by intro k hk; exact .inl hk)⟩, by first | omega | (simp <;> omega)⟩
  have ha : Ext [] w2 (w2.alloc (.cells (lnC x).toArray 79)) := Ext.alloc Ext.refl _ _
  cases hm : x.m with
  | false =>
   have hS : stepC st p x = ⟨p.a, p.t, p.n + (st x.t).length⟩ := by unfold stepC; rw [hm]; rfl
   rw [hS] at hfin
   have hl2 := hst x.t
   rw [hm] at q2
   simp (disch := first | exact qD7 | fail) only [qG2, Nat.reduceAdd, Nat.reduceLeDiff, Int.reduceToNat, Int.reduceAdd, Int.reduceSub, Int.reduceLT, Int.reduceLE, Nat.reduceSub, Nat.reduceMul, Nat.reduceEqDiff, hix, hb0, hs, ln_over, ln_put, q1, q2]
   refine hok x hxm hm _ _ (hg2.ext ha) fun v3 w3 hv3 hx3 _ => ?_
   have hl3 := hv3.lenR (ty := 3) Tryz.underlying80
   rw [List.length_map] at hl3
   simp (disch := first | exact qD7 | fail) only [qG2, Nat.reduceAdd, Nat.reduceLeDiff, Int.reduceToNat, Int.reduceAdd, Int.reduceSub, Int.reduceLT, Int.reduceLE, Nat.reduceSub, Nat.reduceMul, Nat.reduceEqDiff, hl3, List.getD_cons_zero]
   exact hfin _ ((N1.ext ha (by simp)).ext hx3 (by simp)) ((N2.ext ha (by simp)).ext hx3 (by simp)) ((ha.trans hx3 (by simp)).mono (by simp))
  | true =>
   have hS : stepC st p x = ⟨fun b => if b = x.t then some p.n else p.a b, fun b => if b = x.t then some ((p.t x.t).getD 0 + 1) else p.t b, p.n⟩ := by unfold stepC; rw [hm]; rfl
   rw [hS] at hfin
   rw [hm] at q2
   simp (disch := first | exact qD7 | fail) only [qG2, Nat.reduceAdd, Nat.reduceLeDiff, Int.reduceToNat, Int.reduceAdd, Int.reduceSub, Int.reduceLT, Int.reduceLE, Nat.reduceSub, Nat.reduceMul, Nat.reduceEqDiff, hix, hb0, hs, ln_over, ln_put, q1, q2, H4, c0, c1]
   have ha4 := ha.at H4 (by simp)
   refine run_updM Tryz.underlying72 keyS (N1.ext ha (by simp)) x.t (p.n : Int) fun w3 U1 hx3 => ?_
   have hne : r2 ≠ r1 := by omega
   have U2 := (N2.ext ha (by simp)).ext hx3 (by simpa using hne)
   have h34 := hx3.at ha4 (by simp; omega)
   have l34 := lt_of_at h34
   have hbx : (w2.alloc (.cells (lnC x).toArray 79)).heap[w2.heap.size]? = some (.cells (lnC x).toArray 79 (0, 0)) := alloc_at rfl
   have lr1 := N1.lt
   have hbx3 := hx3.at hbx (by simp; omega)
   have hzi : ∀ w, (zeroValue 3).run Tryz.prog w = .ok (iV64 0) w := fun w => by rw [Tryz.zeroValue3]; rfl
   have hlk : ∀ w, w = w3 -> (Instr.lookup 72 (.map (some r2)) (.string ⟨x.t.toArray⟩) false).run Tryz.prog w = .ok (.int .i64 ((p.t x.t).getD 0)) w := fun w hw => by
    subst hw
    have := run_lookM Tryz.underlying72 keyS hzi U2 x.t false
    rw [show (Value.string ⟨x.t.toArray⟩) = sV x.t from rfl, this]
    cases p.t x.t <;> rfl
   have hlk3 := hlk w3 rfl
   have lbx := lt_of_at hbx3
   simp (disch := first | exact qD7 | fail) only [qG2, Nat.reduceAdd, Nat.reduceLeDiff, Int.reduceToNat, Int.reduceAdd, Int.reduceSub, Int.reduceLT, Int.reduceLE, Nat.reduceSub, Nat.reduceMul, Nat.reduceEqDiff, h34, c1, hbx3, q1, hlk3]
   refine run_updM Tryz.underlying72 keyS U2 x.t ((p.t x.t).getD 0 + 1) fun w4 V2 hx4 => ?_
   have V1 := U1.ext hx4 (by simpa using Ne.symm hne)
   simp (disch := first | exact qD7 | fail) only [qG2, Nat.reduceAdd, Nat.reduceLeDiff, Int.reduceToNat, Int.reduceAdd, Int.reduceSub, Int.reduceLT, Int.reduceLE, Nat.reduceSub, Nat.reduceMul, Nat.reduceEqDiff, List.getD_cons_zero]
   refine hfin w4 V1 V2 ?_
   have y1 : Ext [r1, r2] w2 (w2.alloc (.cells (lnC x).toArray 79)) := ha.mono (T := [r1, r2]) (by simp)
   have y3 := hx3.mono (T := [r1, r2]) (by simp)
   have y4 := hx4.mono (T := [r1, r2]) (by simp)
   exact (y1.trans y3 (fun k hk => .inl hk)).trans y4 (fun k hk => .inl hk)
 ·obtain rfl : k = L.length := by omega
  rw [List.take_length] at N1 N2 ⊢
  simp (disch := first | exact qD7 | fail) only [qG2, Nat.reduceAdd, Nat.reduceLeDiff, Int.reduceToNat, Int.reduceAdd, Int.reduceSub, Int.reduceLT, Int.reduceLE, Nat.reduceSub, Nat.reduceMul, Nat.reduceEqDiff, List.getD_cons_zero, List.getD_cons_succ, H4, H0, mkC_sub, z1, z2]
  have hxe : Ext [] w (World.upd w2 s0 (mkC r1 r2)) := by
   have := hs1.trans hx2 (by simp; omega)
   exact this.upd _ (.inr (by omega))
  exact hK r1 r2 _ (N1.ext (Ext.updI (S := [s0]) (by simp) Ext.refl) (by simp; omega)) (N2.ext (Ext.updI (S := [s0]) (by simp) Ext.refl) (by simp; omega)) (by omega) (by omega) (by omega) hxe
open Go.Fx
set_option maxRecDepth 100000
/-- a word's cell. -/
def wC (n : Nat) : List Value := [.int .u32 (n : Nat)]
theorem wC_all (l : List Nat) : ∀ r ∈ l.map wC, r.all (fun v => v.oneCell') = true := by
 intro r hr
 obtain ⟨l, -, rfl⟩ := List.mem_map.1 hr
 rfl
theorem info_u32 : ∃ (i : TypeInfo) (z : Value), Tryz.prog.info? 28 = some i /\ i.zero = some z /\ i.size = 1 /\ i.bytes = 4 /\ z.cells.size = 1 := by
 have h : (Tryz.prog.info? 28).map (fun i => (i.size, i.bytes, i.zero.map (fun z => z.cells.size))) = some (1, 4, some 1) := by kernel_rfl
 obtain ⟨i, h2, h3⟩ := Option.map_eq_some_iff.1 h
 simp only [Prod.mk.injEq] at h3
 obtain ⟨h4, h5, h6⟩ := h3
 obtain ⟨z, h7, h8⟩ := Option.map_eq_some_iff.1 h6
 exact ⟨i, z, h2, h7, h4, h5, h8⟩
theorem appU {base : Nat} {v x : Value} {rows rows2 : List (List Value)} {w : World} {K : Value -> World -> Prop} (hown : OwnR w base 28 1 v rows) (hx : RowsAt w x 1 rows2) (h1 : ∀ r ∈ rows2, r.all (fun v => v.oneCell') = true)
  (hl : rows.length + rows2.length <= 1000000) (hbase : base <= w.heap.size) (hK : ∀ v' w', OwnR w' base 28 1 v' (rows ++ rows2) -> App base v w w' -> K v' w') : resV K ((Builtin.append_ #[22, 22] 22 #[v, x]).run Tryz.prog w) :=
 kV_appR Tryz.underlying22 (by kernel_rfl) (by omega) (bytes := 4) hown hx h1 (by simp only [maxLen]; omega) (by omega) hbase hK
theorem appU2 {base k : Nat} {v : Value} {rows : List (List Value)} {w : World} {g : Nat} (hown : OwnR w base 28 1 v rows) (hx : w.heap[g]? = some (.cells (wC k).toArray 28 (0, 0)))
  (hl : rows.length + 1 <= 1000000) (hbase : base <= w.heap.size) {K : Value -> World -> Prop} (hK : ∀ v' w', OwnR w' base 28 1 v' (rows ++ [wC k]) -> App base v w w' -> (∀ b, blockOf v' = some b -> blockOf v = some b ∨ b = w.heap.size) -> K v' w') : resV K ((Builtin.append_ #[22, 22] 22 #[v, .slice (some ⟨g, 0, none⟩) 1 1]).run Tryz.prog w) := by
 obtain ⟨i, z, i1, i2, i3, i4, i5⟩ := info_u32
 have hO : w.ownsRow base 28 1 v rows.length rows.flatten := by
  obtain ⟨h1, h2⟩ := hown.own
  refine ⟨h1, h2.imp id ?_⟩
  rintro ⟨g, cap, cur, rfl, h3, h4, h5, h6, h7, h8⟩
  exact ⟨g, cap, cur.toArray, rfl, h3, h4, h5, h6, by simpa using h7, by simpa using h8⟩
 obtain ⟨v2, w2, hr, -, -, -, hb⟩ := run_append_own_at (P := Tryz.prog) w base 22 22 28 i z 1 4 Tryz.underlying22 i1 i2 i3 i4 i5 (by omega) v rows.length rows.flatten hO ⟨g, 0, none⟩ 1 1 (wC k) rfl (fun j u hj => by
   refine cell_list (n := 1) hx j u ?_
   rw [show sub (wC k) 0 1 = wC k from rfl]
   exact hj) (by simp [wC]; rfl) (by simp only [maxLen]; omega) (by omega) hbase
 have h := appU (K := fun v' w' => OwnR w' base 28 1 v' (rows ++ [wC k]) /\ App base v w w') hown (RowsAt.one (l := wC k) hx rfl) (wC_all [k]) (by simp; omega) hbase (fun v' w' h1 h2 => ⟨h1, h2⟩)
 rw [hr] at h ⊢
 refine hK _ _ h.1 h.2 fun b hv => ?_
 have e : ∀ v : Value, v.ownBlock = blockOf v := fun v => by
  unfold Value.ownBlock blockOf
  rfl
 rw [e, e] at hb
 rcases hb with h3 | h3
 ·exact .inl (by rw [<- h3]; exact hv)
 ·rw [h3] at hv
  exact .inr (Option.some.inj hv).symm
/-- a line's words behind words. -/
def innerF (A T : List UInt8 -> Option Int) : List (List UInt8) -> List Nat -> Option (List Nat)
 | [], out => some out
 | s :: l, out => if (parseF (toldF A T s out.length)).2 && encOk (parseF (toldF A T s out.length)).1 then innerF A T l (out ++ [encR (parseF (toldF A T s out.length)).1]) else none
/-- lines' words; or the line that is wrong. -/
def asmGo (st : List UInt8 -> List (List UInt8)) (A T : List UInt8 -> Option Int) : List Ln -> (List UInt8 -> Bool) -> List Nat -> Except Nat (List Nat)
 | [], _, out => .ok out
 | x :: L, met, out => if x.m then (if met x.t then .error x.n else asmGo st A T L (fun b => if b = x.t then true else met b) out) else
  match innerF A T (st x.t) out with
  | some out' => asmGo st A T L met out'
  | none => .error x.n
theorem parseF_ok (s : List UInt8) : izOk (parseF s).1 := by
 have zz : in64 0 := ⟨by decide, by decide⟩
 have hz : izOk izZ := ⟨zz, zz, zz, zz, zz⟩
 have hof := findN_lt (Lib.cut s [32]).1 69 0 rfl
 have hp : izOk (parseP s).1 := by
  unfold parseP
  suffices h : ∀ (z : List (UInt8 × List UInt8)) (p : IZ × Bool), izOk p.1 -> izOk (z.foldl stepP p).1 by
   refine h _ _ ⟨?_, zz, zz, zz, zz⟩
   show in64 (parseOp s : Int)
   unfold parseOp in64
   omega
  intro z
  induction z with
  | nil => intro p h; exact h
  | cons x z ih => intro p h; rw [List.foldl_cons]; exact ih _ (stepP_ok h)
 unfold parseF
 split
 ·exact hz
 ·split
  ·exact hp
  ·exact hz
open Go.Fx
set_option maxRecDepth 100000
def bV (b : Bool) : Value := .bool b
theorem GmX {w w' : World} {S : List Nat} (h : Gm w) (hx : Ext S w w') (h0 : 0 ∉ S) : Gm w' := by
 obtain ⟨g0, m, hm⟩ := h
 have hk0 := hx.kept 0 g0 h0
 refine ⟨by have := hx.size; omega, m, ?_⟩
 rw [<- hm]
 unfold World.cell?
 rw [hk0]
theorem toldF_len (A T : List UInt8 -> Option Int) (s : List UInt8) (n : Int) : (toldF A T s n).length <= s.length + 21 := by
 unfold toldF
 split
 ·omega
 ·split
  ·omega
  ·have := dec_len (n := ((A (s.drop (toldK s + 1).toNat)).getD 0 - n) * 4)
   rw [List.length_append, List.length_take]
   omega
set_option maxHeartbeats 2000000 in
theorem Assemble_spec {w : World} {s : List UInt8} {st : List UInt8 -> List (List UInt8)} (hst : ∀ t, (st t).length <= 2) (hg : Gm w) (hs : s.length <= 16384) (hok : ∀ x ∈ linesFrom 0 (Lib.split s [10]), x.m = false -> StandsOK x.t (st x.t) /\ ∀ y ∈ st x.t, y.length <= 1000000)
  (hn : (countF st (linesFrom 0 (Lib.split s [10]))).n <= 1024) (hll : (linesFrom 0 (Lib.split s [10])).length <= 20001) (hpos : ∀ x ∈ linesFrom 0 (Lib.split s [10]), 0 < x.n /\ x.n <= 1000000) {K : Value -> World -> Prop}
  (hK : match asmGo st (countF st (linesFrom 0 (Lib.split s [10]))).a (countF st (linesFrom 0 (Lib.split s [10]))).t (linesFrom 0 (Lib.split s [10])) (fun _ => false) [] with
   | .ok out => ∀ v w', RowsAt w' v 1 (out.map wC) -> Ext [] w w' -> (∀ b, blockOf v = some b -> w.heap.size <= b) -> K (.tuple #[v, .int .i64 0, .int .i64 0]) w'
   | .error n => ∀ w', Ext [] w w' -> K (.tuple #[.slice none 0 0, .int .i64 (n : Nat), .int .i64 11]) w') : callsK Tryz.prog 7 #[.string ⟨s.toArray⟩] w K := by
 apply F7_ok
 unfold F7
 have hls := lenS s
 simp (disch := first | exact qD7 | fail) only [qG2, Nat.reduceAdd, Nat.reduceLeDiff, Int.reduceToNat, Int.reduceAdd, Int.reduceSub, Int.reduceLT, Int.reduceLE, Nat.reduceSub, Nat.reduceMul, Nat.reduceEqDiff, hls]
 refine lines_spec hg (by omega) fun v w1 hv hx1 hvb => ?_
 generalize linesFrom 0 (Lib.split s [10]) = L at *
 have hlv := hv.lenR (ty := 3) Tryz.underlying70
 rw [List.length_map] at hlv
 refine count_spec hst (hg.ext hx1) hv hll (fun x hx hm => (hok x hx hm).1) fun r1 r2 w2 M1 M2 hr1 hr2 hr12 hx2 => ?_
 have hA := countF_a hst L
 have hT := countF_t (st := st) L
 generalize countF st L = c at *
 have hm : ∀ w, (Instr.makeMap 77 none).run Tryz.prog w = .ok (.map (some w.heap.size)) (w.alloc (.map #[] 0)) := fun w => run_mkM _ w
 have z1 := mk_over
 have z2 := mk_put
 have hxb : Ext [] w2 ((w2.alloc (.cells (mkC r1 r2).toArray 74)).alloc (.map #[] 0)) := Ext.allocM (Ext.alloc Ext.refl _ _)
 have e1 : (w2.alloc (.cells (mkC r1 r2).toArray 74)).heap.size = w2.heap.size + 1 := by simp (disch := first | exact qD7 | fail) only [qG2, Nat.reduceAdd, Nat.reduceLeDiff, Int.reduceToNat, Int.reduceAdd, Int.reduceSub, Int.reduceLT, Int.reduceLE, Nat.reduceSub, Nat.reduceMul, Nat.reduceEqDiff]
 have G6 : ((w2.alloc (.cells (mkC r1 r2).toArray 74)).alloc (.map #[] 0)).heap[w2.heap.size]? = some (.cells (mkC r1 r2).toArray 74 (0, 0)) := by
  have h0 : (w2.alloc (.cells (mkC r1 r2).toArray 74)).heap[w2.heap.size]? = some (.cells (mkC r1 r2).toArray 74 (0, 0)) := alloc_at rfl
  exact (Ext.allocM (S := []) (es := #[]) (c := 0) Ext.refl).at h0 (by simp)
 have M3 : MapF ((w2.alloc (.cells (mkC r1 r2).toArray 74)).alloc (.map #[] 0)) (w2.heap.size + 1) sV bV (fun _ => none) := by
  have := MapF.make (w := w2.alloc (.cells (mkC r1 r2).toArray 74)) (kf := sV) (vf := bV)
  rwa [e1] at this
 simp (disch := first | exact qD7 | fail) only [qG2, Nat.reduceAdd, Nat.reduceLeDiff, Int.reduceToNat, Int.reduceAdd, Int.reduceSub, Int.reduceLT, Int.reduceLE, Nat.reduceSub, Nat.reduceMul, Nat.reduceEqDiff, z1, z2, hm]
 refine joinL.intro fun J0 hJ0 => ?_
 have hr1w := M1.lt
 have hr2w := M2.lt
 replace M1 := M1.ext hxb (by simp)
 replace M2 := M2.ext hxb (by simp)
 have hx12 := hx1.trans hx2 (by simp)
 have hxw := hx12.trans hxb (by simp)
 have hv5 := (hv.ext hx2 (by simp)).ext hxb (by simp)
 have hvlt : ∀ b, L.map lnC ≠ [] -> blockOf v = some b -> b < w2.heap.size := fun b h hb => (hv.ext hx2 (by simp)).blt h b hb
 have lr1 := hx1.size
 obtain ⟨r3, hr3⟩ : ∃ r3, r3 = w2.heap.size + 1 := ⟨_, rfl⟩
 obtain ⟨b6, hb6⟩ : ∃ b6, b6 = w2.heap.size := ⟨_, rfl⟩
 have ext2 := hx2.size
 rw [<- hr3] at M3 ⊢
 rw [<- hb6] at G6 ⊢
 clear hm hxb e1
 have hg5 : Gm ((w2.alloc (.cells (mkC r1 r2).toArray 74)).alloc (.map #[] 0)) := hg.ext hxw
 have hw0 : 0 < w.heap.size := hg.1
 generalize ((w2.alloc (.cells (mkC r1 r2).toArray 74)).alloc (.map #[] 0)) = w5 at *
 have lM3 := M3.lt
 have hdone : ∀ out v' w', asmGo st c.a c.t L (fun _ => false) [] = .ok out -> RowsAt w' v' 1 (out.map wC) -> (∀ b, blockOf v' = some b -> w.heap.size <= b) -> Ext [r3] w5 w' -> J0 [.int .i64 0, v'] w' := by
  intro out v' w' he hv' hb' hx'
  rw [he] at hK
  apply hJ0
  intro _
  simp (disch := first | exact qD7 | fail) only [qG2, Nat.reduceAdd, Nat.reduceLeDiff, Int.reduceToNat, Int.reduceAdd, Int.reduceSub, Int.reduceLT, Int.reduceLE, Nat.reduceSub, Nat.reduceMul, Nat.reduceEqDiff, List.getD_cons_zero, List.getD_cons_succ]
  exact hK v' w' hv' (hxw.trans hx' (by intro k hk; simp at hk; omega)) hb'
 have hfail : ∀ (n : Nat) v' w', asmGo st c.a c.t L (fun _ => false) [] = .error n -> 0 < n -> n <= 1000000 -> Ext [r3] w5 w' -> J0 [.int .i64 (n : Nat), v'] w' := by
  intro n v' w' he h0 h1 hx'
  rw [he] at hK
  apply hJ0
  intro _
  simp (disch := first | exact qD7 | fail) only [qG2, Nat.reduceAdd, Nat.reduceLeDiff, Int.reduceToNat, Int.reduceAdd, Int.reduceSub, Int.reduceLT, Int.reduceLE, Nat.reduceSub, Nat.reduceMul, Nat.reduceEqDiff, List.getD_cons_zero, List.getD_cons_succ]
  exact hK w' (hxw.trans hx' (by intro k hk; simp at hk; omega))
 simp (disch := first | exact qD7 | fail) only [qG2, Nat.reduceAdd, Nat.reduceLeDiff, Int.reduceToNat, Int.reduceAdd, Int.reduceSub, Int.reduceLT, Int.reduceLE, Nat.reduceSub, Nat.reduceMul, Nat.reduceEqDiff, hlv]
 refine loopT.intro (fun ss w' => ∃ (k : Nat) (v' : Value) (met : List UInt8 -> Bool) (f : List UInt8 -> Option Bool) (out : List Nat), k <= L.length /\ ss = [.int .i64 0, v', .int .i64 (k : Nat)] /\ (∀ b, (f b).getD false = met b) /\ MapF w' r3 sV bV f /\ out.length <= 2 * k /\ OwnR w' w5.heap.size 28 1 v' (out.map wC) /\ asmGo st c.a c.t L (fun _ => false) [] = asmGo st c.a c.t (L.drop k) met out /\ Ext [r3] w5 w')
  (fun st _ => match st with
   | [_, _, .int _ z] => L.length - z.toNat
   | _ => 0) ⟨0, _, _, _, [], Nat.zero_le _, rfl, fun b => rfl, M3, Nat.zero_le _, OwnR.nil, rfl, Ext.refl⟩ ?_
 rintro ss w6 ⟨k, v6, met, f, out, hk, rfl, hf, N3, hol, ho, hasm, hx6⟩ _
 by_cases h4 : k < L.length
 ·obtain ⟨x, hx⟩ : ∃ x, L[k]? = some x := ⟨_, List.getElem?_eq_getElem h4⟩
  have hxm := List.mem_of_getElem? hx
  have hdrop : L.drop k = x :: L.drop (k + 1) := by
   obtain ⟨_, rfl⟩ := List.getElem?_eq_some_iff.1 hx
   exact List.drop_eq_getElem_cons h4
  rw [hdrop] at hasm
  have hrow : (L.map lnC)[k]? = some (lnC x) := by rw [List.getElem?_map, hx]; rfl
  have hv6 := hv5.at' hx6 (fun h b hb => by have := hvlt b h hb; simp; omega)
  obtain ⟨b0, o0, lb, E0, f0, hix, hb0, hfit, hblt, hbk, hsub, hget⟩ := RowsAt.ixR (P := Tryz.prog) (t := 70) Tryz.underlying70 Tryz.sizeOf79 hv6 hrow
  have hsb := hsub o0 rfl
  have q0 : (lnC x)[0]? = some (.int .i64 (x.n : Nat)) := rfl
  have q1 : (lnC x)[1]? = some (.string ⟨x.t.toArray⟩) := rfl
  have q2 : (lnC x)[2]? = some (.bool x.m) := rfl
  have hpx := hpos x hxm
  simp (disch := first | exact qD7 | fail) only [qG2, Nat.reduceAdd, Nat.reduceLeDiff, Int.reduceToNat, Int.reduceAdd, Int.reduceSub, Int.reduceLT, Int.reduceLE, Nat.reduceSub, Nat.reduceMul, Nat.reduceEqDiff, List.getD_cons_zero, List.getD_cons_succ]
  refine joinL.intro fun J4 hJ4 => ?_
  have ha : Ext [] w6 (w6.alloc (.cells (lnC x).toArray 79)) := Ext.alloc Ext.refl _ _
  have hbx : (w6.alloc (.cells (lnC x).toArray 79)).heap[w6.heap.size]? = some (.cells (lnC x).toArray 79 (0, 0)) := alloc_at rfl
  have hnext : ∀ v' met' f' out' w', (∀ b, (f' b).getD false = met' b) -> MapF w' r3 sV bV f' -> out'.length <= out.length + 2 -> OwnR w' w5.heap.size 28 1 v' (out'.map wC) -> asmGo st c.a c.t (x :: L.drop (k + 1)) met out = asmGo st c.a c.t (L.drop (k + 1)) met' out' -> Ext [r3] w5 w' -> J4 [.int .i64 0, v'] w' := by
   intro v' met' f' out' w' a1 a2 a3 a4 a5 a6
   apply hJ4
   intro _
   simp (disch := first | exact qD7 | fail) only [qG2, Nat.reduceAdd, Nat.reduceLeDiff, Int.reduceToNat, Int.reduceAdd, Int.reduceSub, Int.reduceLT, Int.reduceLE, Nat.reduceSub, Nat.reduceMul, Nat.reduceEqDiff, List.getD_cons_zero, List.getD_cons_succ]
   refine ⟨⟨k + 1, v', met', f', out', by omega, rfl, a1, a2, by omega, a4, by rw [hasm, a5], a6⟩, by first | omega | (simp <;> omega)⟩
  cases hm : x.m with
  | true =>
   have hgo1 : asmGo st c.a c.t (x :: L.drop (k + 1)) met out = if met x.t then .error x.n else asmGo st c.a c.t (L.drop (k + 1)) (fun b => if b = x.t then true else met b) out := by
    rw [asmGo, hm]
    rfl
   rw [hm] at q2
   have hzb : ∀ w, (zeroValue 4).run Tryz.prog w = .ok (bV false) w := fun w => by rw [Tryz.zeroValue4]; rfl
   have hlk : ∀ w, w = (w6.alloc (.cells (lnC x).toArray 79)) -> (Instr.lookup 77 (.map (some r3)) (.string ⟨x.t.toArray⟩) false).run Tryz.prog w = .ok (.bool (met x.t)) w := fun w hw => by
    subst hw
    have := run_lookM Tryz.underlying77 keyS hzb (N3.ext ha (by simp)) x.t false
    rw [show (Value.string ⟨x.t.toArray⟩) = sV x.t from rfl, this, <- hf x.t]
    cases f x.t <;> rfl
   have hlk6 := hlk _ rfl
   cases hmet : met x.t with
   | true =>
    rw [hmet] at hgo1 hlk6
    simp (disch := first | exact qD7 | fail) only [qG2, Nat.reduceAdd, Nat.reduceLeDiff, Int.reduceToNat, Int.reduceAdd, Int.reduceSub, Int.reduceLT, Int.reduceLE, Nat.reduceSub, Nat.reduceMul, Nat.reduceEqDiff, joinBR, hix, hb0, hsb, ln_over, ln_put, q0, q1, q2, hlk6, List.getD_cons_zero, List.getD_cons_succ]
    exact hfail x.n v6 _ (hasm.trans hgo1) hpx.1 hpx.2 (hx6.trans ha (by simp))
   | false =>
    rw [hmet] at hgo1 hlk6
    simp (disch := first | exact qD7 | fail) only [qG2, Nat.reduceAdd, Nat.reduceLeDiff, Int.reduceToNat, Int.reduceAdd, Int.reduceSub, Int.reduceLT, Int.reduceLE, Nat.reduceSub, Nat.reduceMul, Nat.reduceEqDiff, joinBR, hix, hb0, hsb, ln_over, ln_put, q0, q1, q2, hlk6, List.getD_cons_zero, List.getD_cons_succ]
    refine run_updM Tryz.underlying77 keyS (N3.ext ha (by simp)) x.t true fun w7 U hx7 => ?_
    simp (disch := first | exact qD7 | fail) only [qG2, Nat.reduceAdd, Nat.reduceLeDiff, Int.reduceToNat, Int.reduceAdd, Int.reduceSub, Int.reduceLT, Int.reduceLE, Nat.reduceSub, Nat.reduceMul, Nat.reduceEqDiff, joinBR, List.getD_cons_zero, List.getD_cons_succ]
    refine hnext v6 _ _ out w7 (fun b => ?_) U (by omega) ((ho.ext ha (by simp)).ext hx7 (fun b hb => ?_)) hgo1 ((hx6.trans ha (by simp)).trans hx7 (fun k hk => .inl hk))
    ·by_cases hbx : b = x.t
     ·simp [hbx]
     ·simp only [if_neg hbx]
      exact hf b
    ·have := ho.block b hb
     simp
     omega
  | false =>
   have hgo1 : asmGo st c.a c.t (x :: L.drop (k + 1)) met out = match innerF c.a c.t (st x.t) out with | some out' => asmGo st c.a c.t (L.drop (k + 1)) met out' | none => .error x.n := by
    rw [asmGo, hm]
    rfl
   obtain ⟨hokx, hlx⟩ := hok x hxm hm
   have hl2 := hst x.t
   rw [hm] at q2
   simp (disch := first | exact qD7 | fail) only [qG2, Nat.reduceAdd, Nat.reduceLeDiff, Int.reduceToNat, Int.reduceAdd, Int.reduceSub, Int.reduceLT, Int.reduceLE, Nat.reduceSub, Nat.reduceMul, Nat.reduceEqDiff, joinBR, hix, hb0, hsb, ln_over, ln_put, q0, q1, q2, List.getD_cons_zero, List.getD_cons_succ]
   have hg6 : Gm w6 := GmX hg5 hx6 (by simp; omega)
   refine hokx _ _ (hg6.ext ha) fun v40 w7 hv40 hx7 hb40 => ?_
   have hl3 := hv40.lenR (ty := 3) Tryz.underlying80
   rw [List.length_map] at hl3
   have hbx7 := hx7.at hbx (by simp)
   have hx67 := ha.trans hx7 (by simp)
   obtain ⟨b12, hb12⟩ : ∃ b12, b12 = w6.heap.size := ⟨_, rfl⟩
   have hsz6 : (w6.alloc (.cells (lnC x).toArray 79)).heap.size = w6.heap.size + 1 := by simp (disch := first | exact qD7 | fail) only [qG2, Nat.reduceAdd, Nat.reduceLeDiff, Int.reduceToNat, Int.reduceAdd, Int.reduceSub, Int.reduceLT, Int.reduceLE, Nat.reduceSub, Nat.reduceMul, Nat.reduceEqDiff]
   rw [hsz6, <- hb12] at hb40
   rw [<- hb12] at hbx7 ⊢
   generalize st x.t = l at *
   simp (disch := first | exact qD7 | fail) only [qG2, Nat.reduceAdd, Nat.reduceLeDiff, Int.reduceToNat, Int.reduceAdd, Int.reduceSub, Int.reduceLT, Int.reduceLE, Nat.reduceSub, Nat.reduceMul, Nat.reduceEqDiff, hl3]
   refine loopT.intro (fun ss w' => ∃ (j : Nat) (v' : Value) (out' : List Nat), j <= l.length /\ ss = [.int .i64 0, v', .int .i64 (j : Nat)] /\ out'.length = out.length + j /\ OwnR w' w5.heap.size 28 1 v' (out'.map wC) /\ innerF c.a c.t l out = innerF c.a c.t (l.drop j) out' /\ Ext [r3] w5 w' /\ RowsAt w' v40 1 (l.map sC) /\ w'.heap[b12]? = some (.cells (lnC x).toArray 79 (0, 0)) /\ (∀ b, blockOf v' = some b -> b ≠ b12 /\ blockOf v40 ≠ some b) /\ MapF w' r3 sV bV f)
    (fun st _ => match st with
     | [_, _, .int _ z] => l.length - z.toNat
     | _ => 0) ⟨0, v6, out, Nat.zero_le _, by simp, rfl, ho.ext hx67 (by simp), rfl, hx6.trans hx67 (by simp), hv40, hbx7, fun b hb => ?_, N3.ext hx67 (by simp)⟩ ?_
   ·have q := ho.blt b hb
    refine ⟨by omega, fun h => ?_⟩
    have := hb40 b h
    omega
   rintro ss w8 ⟨j, v8, out8, hj, rfl, hl8, ho8, hin8, hx8, hv8, hbx8, hbl8, N8⟩ _
   by_cases h5 : j < l.length
   ·obtain ⟨y, hy⟩ : ∃ y, l[j]? = some y := ⟨_, List.getElem?_eq_getElem h5⟩
    have hyl := hlx y (List.mem_of_getElem? hy)
    have hdrop2 : l.drop j = y :: l.drop (j + 1) := by
     obtain ⟨_, rfl⟩ := List.getElem?_eq_some_iff.1 hy
     exact List.drop_eq_getElem_cons h5
    rw [hdrop2, innerF] at hin8
    have hrow2 : (l.map sC)[j]? = some (sC y) := by rw [List.getElem?_map, hy]; rfl
    obtain ⟨b1, o1, lb1, E1, f1, hix1, hb1, hfit1, hblt1, hbk1, hsub1, hget1⟩ := RowsAt.ixR (P := Tryz.prog) (t := 80) Tryz.underlying80 Tryz.sizeOf9 hv8 hrow2
    have hc1 : lb1[o1]? = some (.string ⟨y.toArray⟩) := by simpa [sC] using hget1 (o1 + 0) 0 rfl (by omega)
    have G68 := hx8.at G6 (by simp; omega)
    have l68 := lt_of_at G68
    have lbx8 := lt_of_at hbx8
    have hlo8 := ho8.rows.lenR (ty := 3) Tryz.underlying22
    rw [List.length_map] at hlo8
    have hg8 : Gm w8 := GmX hg5 hx8 (by simp; omega)
    have K1 := M1.ext hx8 (by simp; omega)
    have K2 := M2.ext hx8 (by simp; omega)
    have htl := toldF_len c.a c.t y out8.length
    simp (disch := first | exact qD7 | fail) only [qG2, Nat.reduceAdd, Nat.reduceLeDiff, Int.reduceToNat, Int.reduceAdd, Int.reduceSub, Int.reduceLT, Int.reduceLE, Nat.reduceSub, Nat.reduceMul, Nat.reduceEqDiff, List.getD_cons_zero, List.getD_cons_succ, hix1, hb1, hc1, G68, mkC_sub, hlo8]
    refine told_spec hg8 K1 K2 (fun b a h => by have := hA b a h; omega) hyl (by omega) fun w9 hx9 => ?_
    refine Parse_spec (hg8.ext hx9) (by omega) fun w10 hx10 => ?_
    have hpok := parseF_ok (toldF c.a c.t y out8.length)
    generalize parseF (toldF c.a c.t y out8.length) = pf at *
    have zz1 := iz_over
    have zz2 := iz_put
    rw [show izC izZ = [.int .i64 0, .int .i64 0, .int .i64 0, .int .i64 0, .int .i64 0] from rfl] at zz1 zz2
    simp (disch := first | exact qD7 | fail) only [qG2, Nat.reduceAdd, Nat.reduceLeDiff, Int.reduceToNat, Int.reduceAdd, Int.reduceSub, Int.reduceLT, Int.reduceLE, Nat.reduceSub, Nat.reduceMul, Nat.reduceEqDiff, zz1, zz2, izC_sub]
    refine Encode_spec hpok fun w11 hx11 => ?_
    have hxe : Ext [] w10 (w10.alloc (.cells (izC pf.1).toArray 25)) := Ext.alloc Ext.refl _ _
    have hx811 := ((hx9.trans hx10 (by simp)).trans hxe (by simp)).trans hx11 (by simp)
    have hbx11 := hx811.at hbx8 (by simp)
    have lbx11 := lt_of_at hbx11
    cases hpo : (pf.2 && encOk pf.1) with
    | false =>
     rw [hpo] at hin8
     rw [hin8] at hgo1
     have hfl : J0 [.int .i64 (x.n : Nat), v8] w11 := hfail x.n v8 w11 (hasm.trans hgo1) hpx.1 hpx.2 (hx8.trans hx811 (by simp))
     cases hp2 : pf.2 with
     | false =>
      simp (disch := first | exact qD7 | fail) only [qG2, Nat.reduceAdd, Nat.reduceLeDiff, Int.reduceToNat, Int.reduceAdd, Int.reduceSub, Int.reduceLT, Int.reduceLE, Nat.reduceSub, Nat.reduceMul, Nat.reduceEqDiff, joinBR, hbx11, q0, List.getD_cons_zero, List.getD_cons_succ]
      exact hfl
     | true =>
      rw [hp2, Bool.true_and] at hpo
      simp (disch := first | exact qD7 | fail) only [qG2, Nat.reduceAdd, Nat.reduceLeDiff, Int.reduceToNat, Int.reduceAdd, Int.reduceSub, Int.reduceLT, Int.reduceLE, Nat.reduceSub, Nat.reduceMul, Nat.reduceEqDiff, joinBR, hpo, hbx11, q0, List.getD_cons_zero, List.getD_cons_succ]
      exact hfl
    | true =>
     rw [hpo] at hin8
     rw [Bool.and_eq_true] at hpo
     obtain ⟨hp2, hp1⟩ := hpo
     simp (disch := first | exact qD7 | fail) only [qG2, Nat.reduceAdd, Nat.reduceLeDiff, Int.reduceToNat, Int.reduceAdd, Int.reduceSub, Int.reduceLT, Int.reduceLE, Nat.reduceSub, Nat.reduceMul, Nat.reduceEqDiff, joinBR, hp1, hp2, List.getD_cons_zero, List.getD_cons_succ]
     have hxs : Ext [] w11 (w11.alloc (.cells (wC (encR pf.1)).toArray 28)) := Ext.alloc Ext.refl _ _
     have hxs8 := hx811.trans hxs (by simp)
     refine appU2 (k := encR pf.1) (ho8.ext hxs8 (by simp)) (alloc_at rfl) (by simp; omega) (by have := hx8.size; have := hxs8.size; omega) fun v12 w12 ho12 ha12 hbl12 => ?_
     rw [show out8.map wC ++ [wC (encR pf.1)] = (out8 ++ [encR pf.1]).map wC by simp] at ho12
     have hx12 := ha12.ext w5 [r3] (Nat.le_refl _) (hx8.trans hxs8 (by simp))
     have hsz8 := hxs8.size
     have lbx8' := lt_of_at hbx8
     simp (disch := first | exact qD7 | fail) only [qG2, Nat.reduceAdd, Nat.reduceLeDiff, Int.reduceToNat, Int.reduceAdd, Int.reduceSub, Int.reduceLT, Int.reduceLE, Nat.reduceSub, Nat.reduceMul, Nat.reduceEqDiff, List.getD_cons_zero, List.getD_cons_succ]
     refine ⟨⟨j + 1, v12, out8 ++ [encR pf.1], by omega, rfl, by simp; omega, ho12, hin8, hx12, (hv8.ext hxs8 (by simp)).at' ha12.step (fun h b hb => ?_), (ha12.kept b12 (by omega) (fun e => (hbl8 b12 e).1 rfl)).trans (hxs8.at hbx8 (by simp)), fun b hb => ?_, (N8.ext hxs8 (by simp)).ext ha12.step (fun h => ?_)⟩, by first | omega | (simp <;> omega)⟩
     ·intro hbb
      rw [Option.mem_toList] at hbb
      exact (hbl8 b hbb).2 hb
     ·rcases hbl12 b hb with h | h
      ·exact hbl8 b h
      ·have q2 : ∀ b', blockOf v40 = some b' -> b' < w8.heap.size := fun b' hb' => hv8.blt (fun h => by rw [List.map_eq_nil_iff] at h; rw [h] at h5; exact absurd h5 (by simp)) b' hb'
       refine ⟨by omega, fun h' => ?_⟩
       have := q2 b h'
       omega
     ·rw [Option.mem_toList] at h
      have := ho8.block r3 h
      omega
   ·obtain rfl : j = l.length := by omega
    rw [List.drop_length, innerF] at hin8
    rw [hin8] at hgo1
    simp (disch := first | exact qD7 | fail) only [qG2, Nat.reduceAdd, Nat.reduceLeDiff, Int.reduceToNat, Int.reduceAdd, Int.reduceSub, Int.reduceLT, Int.reduceLE, Nat.reduceSub, Nat.reduceMul, Nat.reduceEqDiff, List.getD_cons_zero, List.getD_cons_succ]
    exact hnext v8 met f out8 w8 hf N8 (by omega) ho8 hgo1 hx8
 ·obtain rfl : k = L.length := by omega
  rw [List.drop_length] at hasm
  simp (disch := first | exact qD7 | fail) only [qG2, Nat.reduceAdd, Nat.reduceLeDiff, Int.reduceToNat, Int.reduceAdd, Int.reduceSub, Int.reduceLT, Int.reduceLE, Nat.reduceSub, Nat.reduceMul, Nat.reduceEqDiff, List.getD_cons_zero, List.getD_cons_succ]
  exact hdone out v6 w6 hasm ho.rows (fun b hb => by have := ho.block b hb; have := hxw.size; omega) hx6
open Go.Fx
set_option maxRecDepth 100000
theorem index_none {c : UInt8} {t : List UInt8} : ∀ {x : List UInt8}, c ∉ x -> Lib.index x (c :: t) = -1
 | [], _ => rfl
 | b :: x, h => by
  rw [List.mem_cons, not_or] at h
  have ih := index_none (t := t) h.2
  unfold Lib.index
  have h1 : (c :: t).isPrefixOf (b :: x) = false := by
   rw [List.isPrefixOf_cons_cons]
   have : (c == b) = false := by rw [beq_eq_false_iff_ne]; exact h.1
   rw [this, Bool.false_and]
  rw [h1, ih]
  rfl
theorem isPrefix_self (p r : List UInt8) : p.isPrefixOf (p ++ r) = true := by
 rw [List.isPrefixOf_iff_prefix]
 exact List.prefix_append p r
theorem index_at {c : UInt8} {t r : List UInt8} : ∀ {x : List UInt8}, c ∉ x -> Lib.index (x ++ (c :: t ++ r)) (c :: t) = x.length
 | [], _ => by
  have := isPrefix_self (c :: t) r
  rw [List.nil_append, List.cons_append] at *
  unfold Lib.index
  rw [this]
  rfl
 | b :: x, h => by
  rw [List.mem_cons, not_or] at h
  have ih := index_at (t := t) (r := r) h.2
  rw [List.cons_append]
  unfold Lib.index
  have h1 : (c :: t).isPrefixOf (b :: (x ++ (c :: t ++ r))) = false := by
   rw [List.isPrefixOf_cons_cons]
   have : (c == b) = false := by rw [beq_eq_false_iff_ne]; exact h.1
   rw [this, Bool.false_and]
  rw [h1, ih]
  have : ((x.length : Int) == -1) = false := by rw [beq_eq_false_iff_ne]; omega
  simp [this]
theorem cut_at {c : UInt8} {t x r : List UInt8} (h : c ∉ x) : Lib.cut (x ++ (c :: t ++ r)) (c :: t) = (x, r, true) := by
 unfold Lib.cut
 rw [index_at h, if_pos (by omega), Int.toNat_natCast]
 rw [List.take_left, <- List.append_assoc, List.drop_left' (by simp)]
theorem cut_none {c : UInt8} {t x : List UInt8} (h : c ∉ x) : Lib.cut x (c :: t) = (x, [], false) := by
 unfold Lib.cut
 rw [index_none h, if_neg (by omega)]
theorem split_none {c : UInt8} {t x : List UInt8} (h : c ∉ x) : Lib.split x (c :: t) = [x] := by
 unfold Lib.split
 rw [Lib.count_miss (index_none h)]
 rfl
theorem split_at {c : UInt8} {t x r : List UInt8} (h : c ∉ x) : Lib.split (x ++ (c :: t ++ r)) (c :: t) = x :: Lib.split r (c :: t) := by
 unfold Lib.split
 have hi := index_at (t := t) (r := r) h
 have hd : (x ++ (c :: t ++ r)).drop (x.length + (c :: t).length) = r := by
  rw [<- List.append_assoc, List.drop_left' (by simp)]
 rw [Lib.count_hit (by simp) hi, hd, Nat.add_comm 1, Lib.splitK, hi]
 have : ((x.length : Int) == -1) = false := by rw [beq_eq_false_iff_ne]; omega
 rw [this, Int.toNat_natCast, hd, Nat.add_zero, List.take_left]
 rfl
theorem split_join {c : UInt8} {t : List UInt8} : ∀ {L : List (List UInt8)}, L ≠ [] -> (∀ x ∈ L, c ∉ x) -> Lib.split (Lib.join L (c :: t)) (c :: t) = L
 | [], h, _ => absurd rfl h
 | [x], _, h => by rw [Lib.join_one, split_none (h x (by simp))]
 | x :: y :: L, _, h => by
  have ih := split_join (c := c) (t := t) (L := y :: L) (by simp) (fun z hz => h z (by simp [hz]))
  rw [Lib.join_cons] at ih ⊢
  have e : Lib.joinTail (c :: t) (y :: L) = c :: t ++ (y ++ Lib.joinTail (c :: t) L) := by simp [Lib.joinTail]
  rw [e, split_at (h x (by simp)), ih]
theorem valL_app (a : List UInt8) (b : UInt8) : valL (a ++ [b]) = valL a * 10 + (b.toNat - 48) := by
 unfold valL
 rw [List.foldl_append]
 rfl
theorem dig_nat {d : Nat} (h : d < 10) : (UInt8.ofNat (48 + d)).toNat = 48 + d := by
 rw [UInt8.toNat_ofNat']
 omega
theorem digB_dig {d : Nat} (h : d < 10) : digB (UInt8.ofNat (48 + d)) = true := by
 unfold digB
 rw [dig_nat h]
 exact decide_eq_true (by omega)
theorem decF_all : ∀ (f n : Nat), (decF f n).all digB = true
 | 0, n => rfl
 | f + 1, n => by
  by_cases h : n < 10
  ·rw [decF_small h, List.all_cons, digB_dig h]
   rfl
  ·rw [decF_big h, List.all_append, decF_all f, List.all_cons, digB_dig (show n % 10 < 10 by omega)]
   rfl
theorem decF_val : ∀ (f n : Nat), n < 10 ^ f -> 0 < f -> valL (decF f n) = n
 | 0, n, _, h => absurd h (by omega)
 | f + 1, n, hn, _ => by
  by_cases h : n < 10
  ·rw [decF_small h]
   show 0 * 10 + ((UInt8.ofNat (48 + n)).toNat - 48) = n
   rw [dig_nat h]
   omega
  ·have hf : 0 < f := by
    rcases Nat.eq_zero_or_pos f with rfl | h1
    ·simp at hn; omega
    ·exact h1
   rw [decF_big h, valL_app, decF_val f (n / 10) (by rw [Nat.div_lt_iff_lt_mul (by omega), <- Nat.pow_succ]; exact hn) hf, dig_nat (by omega)]
   omega
theorem decF_ne {f n : Nat} (hf : 0 < f) : decF f n ≠ [] := by
 obtain ⟨f, rfl⟩ : ∃ g, f = g + 1 := ⟨f - 1, by omega⟩
 by_cases h : n < 10
 ·rw [decF_small h]; simp
 ·rw [decF_big h]; simp
theorem decF_head : ∀ (f n : Nat), n < 10 ^ f -> 0 < n -> (decF f n)[0]? ≠ some 48
 | 0, n, hn, h => absurd hn (by simp; omega)
 | f + 1, n, hn, h0 => by
  by_cases h : n < 10
  ·rw [decF_small h]
   intro e
   have e2 : UInt8.ofNat (48 + n) = 48 := Option.some.inj e
   have := congrArg UInt8.toNat e2
   rw [dig_nat h] at this
   have h48 : (48 : UInt8).toNat = 48 := rfl
   omega
  ·have hf : 0 < f := by
    rcases Nat.eq_zero_or_pos f with rfl | h1
    ·simp at hn; omega
    ·exact h1
   have hne := decF_ne (n := n / 10) hf
   rw [decF_big h, List.getElem?_append_left (List.length_pos_iff.2 hne)]
   exact decF_head f (n / 10) (by rw [Nat.div_lt_iff_lt_mul (by omega), <- Nat.pow_succ]; exact hn) (by omega)
theorem number_dec {n : Int} (h : -10000000000 < n /\ n < 10000000000) : numberF (dec n) = (n, true) := by
 have p20 : n.natAbs < 10 ^ 20 := by
  have : (10 : Nat) ^ 20 = 100000000000000000000 := by decide
  omega
 have hall := decF_all 20 n.natAbs
 have hval := decF_val 20 n.natAbs p20 (by omega)
 have hne := decF_ne (f := 20) (n := n.natAbs) (by omega)
 have hlen := decF_lenk 10 20 n.natAbs (by omega) (by omega)
 have hh := decF_head 20 n.natAbs p20
 have hdig : ∀ b ∈ decF 20 n.natAbs, digB b = true := List.all_eq_true.1 hall
 have hsm : n.natAbs = 0 -> decF 20 n.natAbs = [48] := fun h => by rw [h]; rfl
 obtain ⟨D, hD⟩ : ∃ D, D = decF 20 n.natAbs := ⟨_, rfl⟩
 have hdec : dec n = if n < 0 then 45 :: D else D := by rw [dec, decN, hD]
 rw [<- hD] at hall hval hne hlen hh hdig hsm
 have h1 : 1 < D.length -> D[0]? ≠ some 48 := by
  intro hl
  by_cases h0 : n.natAbs = 0
  ·rw [hsm h0] at hl
   exact absurd hl (by decide)
  ·exact hh (by omega)
 by_cases hn : n < 0
 ·rw [if_pos hn] at hdec
  have ht : Lib.trimPrefix (dec n) [45] = D := by rw [hdec]; rfl
  have hp : Lib.hasPrefix (dec n) [45] = true := by rw [hdec]; rfl
  unfold numberF
  rw [ht, hp, if_neg, hall, hval]
  ·simp
   omega
  ·rintro (h2 | h2 | h2 | h2)
   ·exact hne h2
   ·omega
   ·exact h1 h2.1 h2.2
   ·have := hh (by omega)
    rw [h2.2] at this
    exact this rfl
 ·rw [if_neg hn] at hdec
  have hp : Lib.hasPrefix (dec n) [45] = false := by
   rw [hdec]
   cases hc : D with
   | nil => exact absurd hc hne
   | cons b D' =>
    have hb := hdig b (by rw [hc]; simp)
    unfold digB at hb
    rw [decide_eq_true_eq] at hb
    show ([45] : List UInt8).isPrefixOf (b :: D') = false
    rw [List.isPrefixOf_cons_cons]
    have : ((45 : UInt8) == b) = false := by
     rw [beq_eq_false_iff_ne]
     rintro rfl
     have h45 : (45 : UInt8).toNat = 45 := rfl
     omega
    rw [this, Bool.false_and]
  have ht : Lib.trimPrefix (dec n) [45] = D := by
   unfold Lib.trimPrefix
   rw [hp, hdec]
   rfl
  unfold numberF
  rw [ht, hp, if_neg, hall, hval]
  ·simp
   omega
  ·rintro (h2 | h2 | h2 | h2)
   ·exact hne h2
   ·omega
   ·exact h1 h2.1 h2.2
   ·exact absurd h2.1 (by decide)
theorem dec_sign {n : Int} : ∀ b ∈ dec n, b = 45 ∨ (48 <= b.toNat /\ b.toNat <= 57) := by
 have hdig : ∀ b ∈ decN n.natAbs, digB b = true := List.all_eq_true.1 (decF_all 20 n.natAbs)
 have h2 : ∀ b ∈ decN n.natAbs, b = 45 ∨ (48 <= b.toNat /\ b.toNat <= 57) := fun b hb => .inr (of_decide_eq_true (hdig b hb))
 intro b hb
 unfold dec at hb
 split at hb
 ·rw [List.mem_cons] at hb
  rcases hb with rfl | hb
  ·exact .inl rfl
  ·exact h2 b hb
 ·exact h2 b hb
open Go.Fx
set_option maxRecDepth 100000
def agreeI (i x : IZ) : Prop := x.op = i.op /\ ((hasS (rowZ i.op).s).1 = true -> x.rd = i.rd) /\ ((hasS (rowZ i.op).s).2.1 = true -> x.r1 = i.r1) /\ ((hasS (rowZ i.op).s).2.2 = true -> x.r2 = i.r2) /\ ((laidS (rowZ i.op).s).1 ≠ [] -> x.im = i.im)
theorem okTr_eq {t : Bool} {a : Nat} {r r' : Int} (h : t = true -> r' = r) : okTr (t, a, r') = okTr (t, a, r) := by
 cases t with
 | false => rfl
 | true => rw [h rfl]
theorem stepR_eq {t : Bool} {a W : Nat} {r r' : Int} (h : t = true -> r' = r) : stepR W (t, a, r') = stepR W (t, a, r) := by
 cases t with
 | false => rfl
 | true => rw [h rfl]
theorem agree_enc {i x : IZ} (h : agreeI i x) : encOk x = encOk i /\ encR x = encR i := by
 obtain ⟨h0, h1, h2, h3, h4⟩ := h
 have e1 := okTr_eq (a := 7) h1
 have e2 := okTr_eq (a := 15) h2
 have e3 := okTr_eq (a := 20) h3
 have f1 := fun W => stepR_eq (a := 7) (W := W) h1
 have f2 := fun W => stepR_eq (a := 15) (W := W) h2
 have f3 := fun W => stepR_eq (a := 20) (W := W) h3
 have hR : (regsI x).all okTr = (regsI i).all okTr := by
  unfold regsI
  rw [h0]
  simp only [List.all_cons, e1, e2, e3]
 have hF : fitsL (laidS (rowZ i.op).s).1.length (laidS (rowZ i.op).s).2.1 (laidS (rowZ i.op).s).2.2.1 (laidS (rowZ i.op).s).2.2.2 x.im = fitsL (laidS (rowZ i.op).s).1.length (laidS (rowZ i.op).s).2.1 (laidS (rowZ i.op).s).2.2.1 (laidS (rowZ i.op).s).2.2.2 i.im := by
  by_cases h : (laidS (rowZ i.op).s).1 = []
  ·rw [h]
   rfl
  ·rw [h4 h]
 have hL : ∀ W, (laidS (rowZ i.op).s).1.foldl (layB x.im) W = (laidS (rowZ i.op).s).1.foldl (layB i.im) W := by
  intro W
  by_cases h : (laidS (rowZ i.op).s).1 = []
  ·rw [h]
   rfl
  ·rw [h4 h]
 have hok : encOk x = encOk i := by
  unfold encOk
  rw [hR, h0]
  dsimp only
  rw [hF]
 have hW : encW x = encW i := by
  unfold encW regsI
  rw [h0]
  dsimp only
  rw [hL]
  simp only [List.foldl_cons, List.foldl_nil, f1, f2, f3]
 refine ⟨hok, ?_⟩
 unfold encR
 rw [hok, hW]
def letB (b : UInt8) : Bool := decide (97 <= b.toNat /\ b.toNat <= 122)
theorem names_ok : (List.range 69).all (fun k => decide (findN (row k).n 69 0 = k + 1) && decide ((row k).n ≠ []) && (row k).n.all letB && decide ((row k).n ≠ [110, 111, 112]) && decide ((row k).n ≠ [114, 101, 116]) && decide ((row k).n ≠ [106]) && decide ((row k).n ≠ [109, 118]) && decide ((row k).n ≠ [108, 105])) = true := by kernel_rfl
theorem name_ok {i : IZ} (h : okOp i.op = true) : (findN (nameR i) 69 0 : Int) = i.op /\ nameR i ≠ [] /\ (∀ b ∈ nameR i, 97 <= b.toNat /\ b.toNat <= 122) /\ nameR i ≠ [110, 111, 112] /\ nameR i ≠ [114, 101, 116] /\ nameR i ≠ [106] /\ nameR i ≠ [109, 118] /\ nameR i ≠ [108, 105] := by
 have hr : rowZ i.op = row (i.op - 1).toNat := by rw [rowZ, h]; rfl
 unfold okOp at h
 rw [decide_eq_true_eq] at h
 have := List.all_eq_true.1 names_ok (i.op - 1).toNat (List.mem_range.2 (by omega))
 simp only [Bool.and_eq_true, decide_eq_true_eq] at this
 obtain ⟨⟨⟨⟨⟨⟨⟨h1, h2⟩, h3⟩, h4⟩, h5⟩, h6⟩, h7⟩, h8⟩ := this
 unfold nameR
 rw [hr]
 refine ⟨by rw [h1]; omega, h2, fun b hb => ?_, h4, h5, h6, h7, h8⟩
 exact of_decide_eq_true (List.all_eq_true.1 h3 b hb)
theorem reg_dec {n : Int} (h : 0 <= n /\ n < 32) : regN (99 :: dec n) = n /\ regOK (99 :: dec n) = true := by
 have ht : Lib.trimPrefix (99 :: dec n) [99] = dec n := rfl
 have hp : Lib.hasPrefix (99 :: dec n) [99] = true := rfl
 have hn := number_dec (n := n) (by omega)
 unfold regN regOK
 rw [ht, hp, hn]
 refine ⟨rfl, ?_⟩
 simp
 omega
theorem order_has (s : Nat) (h : shOk s) : ((hasS s).1 = true ↔ (100 : UInt8) ∈ orderS s) /\ ((hasS s).2.1 = true ↔ (97 : UInt8) ∈ orderS s) /\ ((hasS s).2.2 = true ↔ (98 : UInt8) ∈ orderS s) /\ ((laidS s).1 ≠ [] ↔ (109 : UInt8) ∈ orderS s) /\ (∀ b ∈ orderS s, b = 100 ∨ b = 97 ∨ b = 98 ∨ b = 109) /\ (orderS s).Nodup := by
 rcases h with rfl | rfl | rfl | rfl | rfl | rfl | rfl | rfl | rfl | rfl | rfl <;> decide
theorem fold_back {i : IZ} : ∀ (o : List UInt8) (p : IZ), o.Nodup -> (∀ b ∈ o, b = 100 ∨ b = 97 ∨ b = 98 ∨ b = 109) -> (100 ∈ o -> 0 <= i.rd /\ i.rd < 32) -> (97 ∈ o -> 0 <= i.r1 /\ i.r1 < 32) -> (98 ∈ o -> 0 <= i.r2 /\ i.r2 < 32) -> (109 ∈ o -> -10000000000 < i.im /\ i.im < 10000000000) ->
  ∃ x : IZ, (o.zip (o.map (partF i))).foldl stepP (p, true) = (x, true) /\ x.op = p.op /\ (100 ∈ o -> x.rd = i.rd) /\ (97 ∈ o -> x.r1 = i.r1) /\ (98 ∈ o -> x.r2 = i.r2) /\ (109 ∈ o -> x.im = i.im) /\ (100 ∉ o -> x.rd = p.rd) /\ (97 ∉ o -> x.r1 = p.r1) /\ (98 ∉ o -> x.r2 = p.r2) /\ (109 ∉ o -> x.im = p.im)
 | [], p, _, _, _, _, _, _ => ⟨p, rfl, rfl, by simp, by simp, by simp, by simp, by simp, by simp, by simp, by simp⟩
 | b :: o, p, hnd, hb, h1, h2, h3, h4 => by
  rw [List.nodup_cons] at hnd
  have hb0 := hb b (by simp)
  have key : ∀ p' : IZ, stepP (p, true) (b, partF i b) = (p', true) -> ∃ x : IZ, ((b :: o).zip ((b :: o).map (partF i))).foldl stepP (p, true) = (x, true) /\ x.op = p'.op /\ (100 ∈ o -> x.rd = i.rd) /\ (97 ∈ o -> x.r1 = i.r1) /\ (98 ∈ o -> x.r2 = i.r2) /\ (109 ∈ o -> x.im = i.im) /\ (100 ∉ o -> x.rd = p'.rd) /\ (97 ∉ o -> x.r1 = p'.r1) /\ (98 ∉ o -> x.r2 = p'.r2) /\ (109 ∉ o -> x.im = p'.im) := by
   intro p' he
   obtain ⟨x, hx⟩ := fold_back o p' hnd.2 (fun c hc => hb c (by simp [hc])) (fun h => h1 (by simp [h])) (fun h => h2 (by simp [h])) (fun h => h3 (by simp [h])) (fun h => h4 (by simp [h]))
   refine ⟨x, ?_, hx.2⟩
   rw [List.map_cons, List.zip_cons_cons, List.foldl_cons, he]
   exact hx.1
  rcases hb0 with rfl | rfl | rfl | rfl
  ·obtain ⟨e1, e2⟩ := reg_dec (h1 (by simp))
   have hp : partF i 100 = 99 :: dec i.rd := rfl
   obtain ⟨x, q0, q1, q2, q3, q4, q5, q6, q7, q8, q9⟩ := key { p with rd := i.rd } (by rw [hp]; show ({ p with rd := regN (99 :: dec i.rd) }, true && regOK (99 :: dec i.rd)) = _; rw [e1, e2]; rfl)
   refine ⟨x, q0, q1, fun _ => q6 hnd.1, ?_, ?_, ?_, fun h => absurd (by simp) h, ?_, ?_, ?_⟩
   ·intro h; simp at h; exact q3 h
   ·intro h; simp at h; exact q4 h
   ·intro h; simp at h; exact q5 h
   ·intro h; simp at h; exact q7 h
   ·intro h; simp at h; exact q8 h
   ·intro h; simp at h; exact q9 h
  ·obtain ⟨e1, e2⟩ := reg_dec (h2 (by simp))
   have hp : partF i 97 = 99 :: dec i.r1 := rfl
   obtain ⟨x, q0, q1, q2, q3, q4, q5, q6, q7, q8, q9⟩ := key { p with r1 := i.r1 } (by rw [hp]; show ({ p with r1 := regN (99 :: dec i.r1) }, true && regOK (99 :: dec i.r1)) = _; rw [e1, e2]; rfl)
   refine ⟨x, q0, q1, ?_, fun _ => q7 hnd.1, ?_, ?_, ?_, fun h => absurd (by simp) h, ?_, ?_⟩
   ·intro h; simp at h; exact q2 h
   ·intro h; simp at h; exact q4 h
   ·intro h; simp at h; exact q5 h
   ·intro h; simp at h; exact q6 h
   ·intro h; simp at h; exact q8 h
   ·intro h; simp at h; exact q9 h
  ·obtain ⟨e1, e2⟩ := reg_dec (h3 (by simp))
   have hp : partF i 98 = 99 :: dec i.r2 := rfl
   obtain ⟨x, q0, q1, q2, q3, q4, q5, q6, q7, q8, q9⟩ := key { p with r2 := i.r2 } (by rw [hp]; show ({ p with r2 := regN (99 :: dec i.r2) }, true && regOK (99 :: dec i.r2)) = _; rw [e1, e2]; rfl)
   refine ⟨x, q0, q1, ?_, ?_, fun _ => q8 hnd.1, ?_, ?_, ?_, fun h => absurd (by simp) h, ?_⟩
   ·intro h; simp at h; exact q2 h
   ·intro h; simp at h; exact q3 h
   ·intro h; simp at h; exact q5 h
   ·intro h; simp at h; exact q6 h
   ·intro h; simp at h; exact q7 h
   ·intro h; simp at h; exact q9 h
  ·have e := number_dec (h4 (by simp))
   have hp : partF i 109 = dec i.im := rfl
   obtain ⟨x, q0, q1, q2, q3, q4, q5, q6, q7, q8, q9⟩ := key { p with im := i.im } (by rw [hp]; show ({ p with im := (numberF (dec i.im)).1 }, true && (numberF (dec i.im)).2) = _; rw [e]; rfl)
   refine ⟨x, q0, q1, ?_, ?_, ?_, fun _ => q9 hnd.1, ?_, ?_, ?_, fun h => absurd (by simp) h⟩
   ·intro h; simp at h; exact q2 h
   ·intro h; simp at h; exact q3 h
   ·intro h; simp at h; exact q4 h
   ·intro h; simp at h; exact q6 h
   ·intro h; simp at h; exact q7 h
   ·intro h; simp at h; exact q8 h
open Go.Fx
set_option maxRecDepth 100000
theorem enc_ranges {i : IZ} (h : encOk i = true) : okOp i.op = true /\ ((hasS (rowZ i.op).s).1 = true -> 0 <= i.rd /\ i.rd < 32) /\ ((hasS (rowZ i.op).s).2.1 = true -> 0 <= i.r1 /\ i.r1 < 32) /\ ((hasS (rowZ i.op).s).2.2 = true -> 0 <= i.r2 /\ i.r2 < 32) /\ ((laidS (rowZ i.op).s).1 ≠ [] -> -10000000000 < i.im /\ i.im < 10000000000) := by
 unfold encOk at h
 dsimp only at h
 rw [Bool.and_eq_true, Bool.and_eq_true] at h
 obtain ⟨⟨h1, h2⟩, h3⟩ := h
 unfold regsI at h3
 dsimp only at h3
 simp only [List.all_cons, List.all_nil, Bool.and_true, Bool.and_eq_true] at h3
 obtain ⟨h4, h5, h6⟩ := h3
 have key : ∀ (t : Bool) (a : Nat) (r : Int), okTr (t, a, r) = true -> t = true -> 0 <= r /\ r < 32 := by
  intro t a r h ht
  rw [ht] at h
  have : fitsU r 5 = true := h
  unfold fitsU at this
  rw [decide_eq_true_eq] at this
  have e5 : ((2 ^ 5 : Nat) : Int) = 32 := by decide
  omega
 refine ⟨h1, key _ _ _ h4, key _ _ _ h5, key _ _ _ h6, fun hne => ?_⟩
 have hn : ((laidS (rowZ i.op).s).1.length == 0) = false := by
  rw [beq_eq_false_iff_ne]
  intro e
  exact hne (List.length_eq_zero_iff.1 e)
 have hb : (laidS (rowZ i.op).s).2.1 <= 32 := by
  have hall : ∀ s, (laidS s).2.1 <= 32 := by
   intro s
   unfold laidS
   repeat' split
   all_goals decide
  exact hall _
 unfold fitsL at h2
 rw [hn, Bool.false_or, Bool.and_eq_true] at h2
 have h7 := h2.1
 generalize (laidS (rowZ i.op).s).2.1 = b at *
 have hp : (2 : Nat) ^ b <= 2 ^ 32 := Nat.pow_le_pow_right (by decide) hb
 have hp2 : (2 : Nat) ^ (b - 1) <= 2 ^ 32 := Nat.pow_le_pow_right (by decide) (by omega)
 have e32 : (2 : Nat) ^ 32 = 4294967296 := by decide
 split at h7
 ·unfold fitsS at h7
  rw [decide_eq_true_eq] at h7
  omega
 ·unfold fitsU at h7
  rw [decide_eq_true_eq] at h7
  omega
theorem part_sign {i : IZ} {b c : UInt8} (h : c ∈ partF i b) : c = 99 ∨ c = 45 ∨ (48 <= c.toNat /\ c.toNat <= 57) := by
 have key : ∀ n, c ∈ 99 :: dec n -> c = 99 ∨ c = 45 ∨ (48 <= c.toNat /\ c.toNat <= 57) := by
  intro n h
  rw [List.mem_cons] at h
  rcases h with h | h
  ·exact .inl h
  ·exact .inr (dec_sign c h)
 unfold partF at h
 split at h
 ·exact key _ h
 ·split at h
  ·exact key _ h
  ·split at h
   ·exact key _ h
   ·exact .inr (dec_sign c h)
theorem name_no {i : IZ} (h : okOp i.op = true) {c : UInt8} (hc : ¬ (97 <= c.toNat /\ c.toNat <= 122)) : c ∉ nameR i := fun hm => hc ((name_ok h).2.2.1 c hm)
theorem parse_parts {i : IZ} (h : encOk i = true) : parseOp (textF i) = i.op /\ parseL (textF i) = (orderS (rowZ i.op).s).map (partF i) /\ textF i ≠ [] /\ (Lib.cut (textF i) [32]).1 = nameR i := by
 obtain ⟨ho, -⟩ := enc_ranges h
 obtain ⟨n1, n2, n3, -⟩ := name_ok ho
 have h32 : (32 : UInt8) ∉ nameR i := name_no ho (by decide)
 unfold parseOp parseL textF
 rw [h, if_pos rfl]
 by_cases h0 : orderS (rowZ i.op).s = []
 ·rw [if_pos h0, h0, cut_none h32]
  exact ⟨n1, rfl, n2, rfl⟩
 ·rw [if_neg h0]
  have hc := cut_at (c := 32) (t := []) (x := nameR i) (r := Lib.join ((orderS (rowZ i.op).s).map (partF i)) [44, 32]) h32
  have e : [32] ++ Lib.join ((orderS (rowZ i.op).s).map (partF i)) [44, 32] = 32 :: [] ++ Lib.join ((orderS (rowZ i.op).s).map (partF i)) [44, 32] := rfl
  rw [e, hc]
  refine ⟨n1, ?_, ?_, rfl⟩
  ·rw [if_pos rfl]
   refine split_join (by simpa using h0) fun x hx => ?_
   obtain ⟨b, -, rfl⟩ := List.mem_map.1 hx
   intro h44
   rcases part_sign h44 with h1 | h1 | h1
   ·exact absurd h1 (by decide)
   ·exact absurd h1 (by decide)
   ·exact absurd h1.1 (by decide)
  ·simp [n2]
theorem parse_back {i : IZ} (h : encOk i = true) : ∃ x, parseF (textF i) = (x, true) /\ agreeI i x := by
 obtain ⟨p1, p2, p3, -⟩ := parse_parts h
 obtain ⟨ho, e1, e2, e3, e4⟩ := enc_ranges h
 obtain ⟨q1, q2, q3, q4, q5, q6⟩ := order_has (rowZ i.op).s (rowZ_sh i.op)
 have ho2 := ho
 unfold okOp at ho2
 rw [decide_eq_true_eq] at ho2
 have hop : parseOp (textF i) ≠ 0 := by omega
 obtain ⟨x, hx, hxop, r1, r2, r3, r4, -⟩ := fold_back (i := i) (orderS (rowZ i.op).s) ⟨i.op, 0, 0, 0, 0⟩ q6 q5 (fun h => e1 (q1.2 h)) (fun h => e2 (q2.2 h)) (fun h => e3 (q3.2 h)) (fun h => e4 (q4.2 h))
 have ha : agreeI i x := ⟨hxop, fun h => r1 (q1.1 h), fun h => r2 (q2.1 h), fun h => r3 (q3.1 h), fun h => r4 (q4.1 h)⟩
 refine ⟨x, ?_, ha⟩
 unfold parseF
 rw [p1, p2, if_neg (by rintro (h5 | h5); exact hop h5; exact h5 (by simp))]
 have hP : parseP (textF i) = (x, true) := by
  unfold parseP
  rw [p1, p2, hx]
 rw [hP]
 dsimp only
 rw [(agree_enc ha).1, h]
 rfl
/-- the signs of an instruction's text. -/
theorem text_sign {i : IZ} {c : UInt8} (h : c ∈ textF i) : (97 <= c.toNat /\ c.toNat <= 122) ∨ c = 45 ∨ (48 <= c.toNat /\ c.toNat <= 57) ∨ c = 32 ∨ c = 44 := by
 unfold textF at h
 split at h
 ·rename_i he
  obtain ⟨ho, -⟩ := enc_ranges he
  have hn := (name_ok ho).2.2.1
  split at h
  ·exact .inl (hn c h)
  ·rw [List.mem_append, List.mem_append] at h
   rcases h with h | h | h
   ·exact .inl (hn c h)
   ·simp at h
    exact .inr (.inr (.inr (.inl h)))
   ·have key : ∀ (L : List (List UInt8)), (∀ x ∈ L, ∀ c ∈ x, c = 99 ∨ c = 45 ∨ (48 <= c.toNat /\ c.toNat <= 57)) -> ∀ c ∈ Lib.join L [44, 32], c = 99 ∨ c = 45 ∨ (48 <= c.toNat /\ c.toNat <= 57) ∨ c = 32 ∨ c = 44 := by
     intro L hL c hc
     cases L with
     | nil => simp [Lib.join_nil] at hc
     | cons x L =>
      rw [Lib.join_cons, List.mem_append] at hc
      rcases hc with hc | hc
      ·rcases hL x (by simp) c hc with h | h | h
       ·exact .inl h
       ·exact .inr (.inl h)
       ·exact .inr (.inr (.inl h))
      ·unfold Lib.joinTail at hc
       rw [List.mem_flatten] at hc
       obtain ⟨y, hy, hcy⟩ := hc
       obtain ⟨z, hz, rfl⟩ := List.mem_map.1 hy
       rw [List.mem_append] at hcy
       rcases hcy with hcy | hcy
       ·simp at hcy
        rcases hcy with rfl | rfl
        ·exact .inr (.inr (.inr (.inr rfl)))
        ·exact .inr (.inr (.inr (.inl rfl)))
       ·rcases hL z (by simp [hz]) c hcy with h | h | h
        ·exact .inl h
        ·exact .inr (.inl h)
        ·exact .inr (.inr (.inl h))
    rcases key _ (by
     intro x hx c hc
     obtain ⟨b, -, rfl⟩ := List.mem_map.1 hx
     exact part_sign hc) c h with rfl | h | h | h | h
    ·exact .inl (by decide)
    ·exact .inr (.inl h)
    ·exact .inr (.inr (.inl h))
    ·exact .inr (.inr (.inr (.inl h)))
    ·exact .inr (.inr (.inr (.inr h)))
 ·simp at h
open Go.Fx
set_option maxRecDepth 100000
def selfL (t : List UInt8) : List (List UInt8) := [t]
theorem text_head {i : IZ} (h : encOk i = true) : ∃ b t, textF i = b :: t /\ 97 <= b.toNat /\ b.toNat <= 122 := by
 obtain ⟨ho, -⟩ := enc_ranges h
 obtain ⟨-, n2, n3, -⟩ := name_ok ho
 cases hn : nameR i with
 | nil => exact absurd hn n2
 | cons b t =>
  have hb := n3 b (by rw [hn]; simp)
  unfold textF
  rw [h, if_pos rfl, hn]
  split
  ·exact ⟨b, t, rfl, hb⟩
  ·exact ⟨b, _, rfl, hb⟩
theorem trim_text {b : UInt8} {t : List UInt8} (h : b ≠ 32) : Lib.trimLeftB (b :: t) 32 = b :: t := by
 unfold Lib.trimLeftB
 rw [List.dropWhile_cons, if_neg (by simpa using h)]
theorem trim_two (t : List UInt8) : Lib.trimLeftB (32 :: 32 :: t) 32 = Lib.trimLeftB t 32 := rfl
theorem hasSuffix_no {t : List UInt8} {c : UInt8} (h : c ∉ t) : Lib.hasSuffix t [c] = false := by
 rw [Bool.eq_false_iff]
 intro hs
 unfold Lib.hasSuffix at hs
 rw [List.isSuffixOf_iff_suffix] at hs
 exact h (hs.subset (by simp))
/-- a line of no mark. -/
theorem line_plain {t u : List UInt8} {k : Nat} (hu : Lib.trimLeftB u 32 = t) (h0 : t ≠ []) (h35 : t[0]? ≠ some 35) (h58 : (58 : UInt8) ∉ t) : lineF k u = some ⟨k, t, false⟩ := by
 unfold lineF
 dsimp only
 rw [hu, hasSuffix_no h58]
 rw [if_neg]
 ·rfl
 ·rintro (h | h)
  ·exact h0 h
  ·cases t with
   | nil => exact h0 rfl
   | cons b t =>
    unfold Lib.hasPrefix at h
    rw [List.isPrefixOf_cons_cons, Bool.and_eq_true, beq_iff_eq] at h
    exact h35 (by rw [<- h.1]; rfl)
theorem text_line {i : IZ} (h : encOk i = true) (k : Nat) : lineF k (32 :: 32 :: textF i) = some ⟨k, textF i, false⟩ /\ lineF k (textF i) = some ⟨k, textF i, false⟩ := by
 obtain ⟨b, t, e, h1, h2⟩ := text_head h
 have hne : ∀ c : UInt8, ¬ (97 <= c.toNat /\ c.toNat <= 122) -> b ≠ c := fun c hc e => hc (e ▸ ⟨h1, h2⟩)
 have ht : Lib.trimLeftB (textF i) 32 = textF i := by
  rw [e]
  exact trim_text (hne 32 (by decide))
 have h35 : (textF i)[0]? ≠ some 35 := by
  rw [e]
  intro h
  exact hne 35 (by decide) (Option.some.inj h)
 have h58 : (58 : UInt8) ∉ textF i := by
  intro h
  rcases text_sign h with h | h | h | h | h
  ·exact absurd h (by decide)
  ·exact absurd h (by decide)
  ·exact absurd h (by decide)
  ·exact absurd h (by decide)
  ·exact absurd h (by decide)
 have h0 : textF i ≠ [] := by rw [e]; simp
 exact ⟨line_plain (by rw [trim_two, ht]) h0 h35 h58, line_plain ht h0 h35 h58⟩
theorem text_plain {i : IZ} (h : encOk i = true) : Plain (textF i) := by
 obtain ⟨ho, -⟩ := enc_ranges h
 obtain ⟨-, n2, n3, n4, n5, n6, n7, n8⟩ := name_ok ho
 obtain ⟨-, -, -, hc⟩ := parse_parts h
 refine ⟨fun e => n4 ?_, fun e => n5 ?_, .inr ⟨?_, ?_, ?_⟩⟩
 ·rw [<- hc, e]
  decide
 ·rw [<- hc, e]
  decide
 ·rw [hc]; exact n6
 ·rw [hc]; exact n7
 ·rw [hc]; exact n8
open Go.Fx
theorem qG3 : type_of% (And.intro @gen0 (And.intro (@gen1 Tryz.prog) (And.intro @gen2 (And.intro @rulesC (And.intro @rulesX (And.intro @rulesA (And.intro @rulesL (And.intro @litR (And.intro @bolR (And.intro (@numR Tryz.prog) (And.intro (@memR Tryz.prog) (And.intro @valR (And.intro @heapR (And.intro @updR (And.intro @intR (And.intro @decR (And.intro (@extR Tryz.prog) (And.intro (@slR Tryz.prog) (And.intro @segR (And.intro @thenR ((@pnR Tryz.prog)))))))))))))))))))))) := ⟨@gen0, (@gen1 Tryz.prog), @gen2, @rulesC, @rulesX, @rulesA, @rulesL, @litR, @bolR, (@numR Tryz.prog), (@memR Tryz.prog), @valR, @heapR, @updR, @intR, @decR, (@extR Tryz.prog), (@slR Tryz.prog), @segR, @thenR, (@pnR Tryz.prog)⟩
set_option maxRecDepth 100000
def oneT : List UInt8 := [97, 58, 10, 97, 100, 100, 105, 32, 99, 49, 48, 44, 32, 99, 49, 48, 44, 32, 45, 49, 10, 98, 110, 101, 32, 99, 49, 48, 44, 32, 99, 48, 44, 32, 97]
def oneA : List UInt8 := [97, 100, 100, 105, 32, 99, 49, 48, 44, 32, 99, 49, 48, 44, 32, 45, 49]
def oneB : List UInt8 := [98, 110, 101, 32, 99, 49, 48, 44, 32, 99, 48, 44, 32, 97]
theorem one_split : Lib.split oneT [10] = [[97, 58], oneA, oneB] := by
 have e1 : oneT = [97, 58] ++ (10 :: [] ++ (oneA ++ (10 :: [] ++ oneB))) := rfl
 rw [e1, split_at (by decide), split_at (by decide), split_none (by decide)]
theorem one_lines : linesFrom 0 (Lib.split oneT [10]) = [⟨1, [97], true⟩, ⟨2, oneA, false⟩, ⟨3, oneB, false⟩] := by
 rw [one_split]
 rfl
theorem one_plain : Plain oneA /\ Plain oneB := by
 have c1 : Lib.cut oneA [32] = ([97, 100, 100, 105], [99, 49, 48, 44, 32, 99, 49, 48, 44, 32, 45, 49], true) := cut_at (c := 32) (t := []) (x := [97, 100, 100, 105]) (r := [99, 49, 48, 44, 32, 99, 49, 48, 44, 32, 45, 49]) (by decide)
 have c2 : Lib.cut oneB [32] = ([98, 110, 101], [99, 49, 48, 44, 32, 99, 48, 44, 32, 97], true) := cut_at (c := 32) (t := []) (x := [98, 110, 101]) (r := [99, 49, 48, 44, 32, 99, 48, 44, 32, 97]) (by decide)
 unfold Plain
 rw [c1, c2]
 decide
theorem one_go : asmGo selfL (countF selfL [⟨1, [97], true⟩, ⟨2, oneA, false⟩, ⟨3, oneB, false⟩]).a (countF selfL [⟨1, [97], true⟩, ⟨2, oneA, false⟩, ⟨3, oneB, false⟩]).t [⟨1, [97], true⟩, ⟨2, oneA, false⟩, ⟨3, oneB, false⟩] (fun _ => false) [] = .ok [4294247699, 4261748451] := by kernel_rfl
theorem one_spec {w : World} (hg : Gm w) {K : Value -> World -> Prop} (hK : ∀ w', Ext [] w w' -> K (.bool true) w') : callsK Tryz.prog 8 #[] w K := by
 apply F8_ok
 unfold F8
 have hl := one_lines
 refine Assemble_spec (s := oneT) (st := selfL) (fun t => Nat.le_succ 1) hg (by decide) ?_ ?_ ?_ ?_ ?_
 ·rw [hl]
  intro x hx hm
  have hp := one_plain
  simp only [List.mem_cons, List.mem_nil_iff, or_false] at hx
  rcases hx with rfl | rfl | rfl
  ·cases hm
  ·exact ⟨stands_plain (by decide) hp.1, fun y hy => by simp [selfL] at hy; subst hy; decide⟩
  ·exact ⟨stands_plain (by decide) hp.2, fun y hy => by simp [selfL] at hy; subst hy; decide⟩
 ·rw [hl]; decide
 ·rw [hl]; decide
 ·rw [hl]
  intro x hx
  simp only [List.mem_cons, List.mem_nil_iff, or_false] at hx
  rcases hx with rfl | rfl | rfl <;> decide
 ·rw [hl, one_go]
  dsimp only
  intro v w' hv hx hb
  have hlv := hv.lenR (ty := 3) Tryz.underlying22
  rw [List.length_map] at hlv
  have hlv' : ∀ w, (Builtin.len_ #[22] 3 #[v]).run Tryz.prog w = .ok (.int .i64 2) w := hlv
  obtain ⟨b0, o0, lb, E0, f0, hix, hb0, hfit, hblt, hbk, hsub, hget⟩ := RowsAt.ixR (P := Tryz.prog) (t := 22) Tryz.underlying22 Tryz.sizeOf28 hv (k := 0) (r := wC 4294247699) rfl
  obtain ⟨b1, o1, lb1, E1, f1, hix1, hb1, hfit1, hblt1, hbk1, hsub1, hget1⟩ := RowsAt.ixR (P := Tryz.prog) (t := 22) Tryz.underlying22 Tryz.sizeOf28 hv (k := 1) (r := wC 4261748451) rfl
  have hc0 : lb[o0]? = some (.int .u32 4294247699) := hget (o0 + 0) 0 rfl (by omega)
  have hc1 : lb1[o1]? = some (.int .u32 4261748451) := hget1 (o1 + 0) 0 rfl (by omega)
  have hi0 := fun w => hix w .i64 0 rfl
  have hi1 := fun w => hix1 w .i64 1 rfl
  simp (disch := first | exact qD5 | fail) only [qG3, Nat.reduceAdd, Nat.reduceLeDiff, Int.reduceToNat, Int.reduceAdd, Int.reduceSub, Int.reduceLT, Int.reduceLE, Nat.reduceSub, Nat.reduceMul, Nat.reduceEqDiff, joinBR, hlv', hi0, hb0, hc0, hi1, hb1, hc1]
  exact hK _ hx
open Go.Fx
set_option maxRecDepth 100000
/-- the instruction of a word whose row is k. -/
def ofK (W k : Nat) : IZ := let s := (row k).s
 ⟨(k : Int) + 1, if (hasS s).1 then ((W / 2 ^ 7 % 2 ^ 5 : Nat) : Int) else 0, if (hasS s).2.1 then ((W / 2 ^ 15 % 2 ^ 5 : Nat) : Int) else 0, if (hasS s).2.2 then ((W / 2 ^ 20 % 2 ^ 5 : Nat) : Int) else 0, readL (laidS s).1 (laidS s).2.1 (laidS s).2.2.1 W⟩
def decGo (W : Nat) : Nat -> Nat -> IZ × Bool
 | 0, _ => (⟨0, 0, 0, 0, 0⟩, false)
 | f + 1, k => if W &&& fixM (row k) = fixW (row k) then (ofK W k, true) else decGo W f (k + 1)
def dcdF (W : Nat) : IZ × Bool := decGo W 69 0
theorem qZ8 : type_of% (And.intro @szR (And.intro @rwC_len (And.intro @rwC_all (And.intro @rwsC_len (And.intro @rwsC_all (And.intro @ptC_len (And.intro @ptC_all (And.intro @pcC_len (And.intro @pcC_all (And.intro @loC_len (And.intro @loC_all (And.intro @izC_len (@izC_all))))))))))))) := ⟨@szR, @rwC_len, @rwC_all, @rwsC_len, @rwsC_all, @ptC_len, @ptC_all, @pcC_len, @pcC_all, @loC_len, @loC_all, @izC_len, @izC_all⟩
theorem qD8 {p : Prop} (h : p := by first | assumption | omega | (simp only [qZ8] <;> omega) | rfl | decide) : p := h
set_option maxHeartbeats 1000000 in
theorem Decode_spec {w : World} {W : Nat} (hW : W < 4294967296) {K : Value -> World -> Prop} (hK : ∀ w', Ext [] w w' -> K (.tuple #[.agg (izC (dcdF W).1).toArray, .bool (dcdF W).2]) w') : callsK Tryz.prog 6 #[.int .u32 (W : Nat)] w K := by
 apply F6_ok
 unfold F6
 have hz0 : izC ⟨0, 0, 0, 0, 0⟩ = [.int .i64 0, .int .i64 0, .int .i64 0, .int .i64 0, .int .i64 0] := rfl
 simp (disch := first | exact qD8 | fail) only [qG1, Nat.reduceAdd, Nat.reduceLeDiff, Int.reduceToNat, Int.reduceAdd, Int.reduceSub, Int.reduceLT, Int.reduceLE, Nat.reduceSub, Nat.reduceMul, Nat.reduceEqDiff]
 have hx0 : Ext [] w (w.alloc (.cells [.int .i64 0, .int .i64 0, .int .i64 0, .int .i64 0, .int .i64 0].toArray 25)) := qX
 have hRW : dcdF W = decGo W 69 0 := rfl
 generalize dcdF W = R at *
 refine rows_spec fun w1 hx1 => ?_
 have hxa := hx0.trans hx1 (by simp)
 have h2 := hx1.at (b := w.heap.size) (o := .cells [.int .i64 0, .int .i64 0, .int .i64 0, .int .i64 0, .int .i64 0].toArray 25 (0, 0)) (by first | with_reducible rfl | assumption | (simp (disch := first | exact qD8 | fail) only [qG1, Nat.reduceAdd, Nat.reduceLeDiff, Int.reduceToNat, Int.reduceAdd, Int.reduceSub, Int.reduceLT, Int.reduceLE, Nat.reduceSub, Nat.reduceMul, Nat.reduceEqDiff] <;> rfl)) (by simp)
 refine loopT.intro (fun st w' => ∃ (j : Nat), j <= 69 /\ st = [.int .i64 (j : Nat)] /\ R = decGo W (69 - j) j /\ w'.heap[w.heap.size]? = some (.cells [.int .i64 0, .int .i64 0, .int .i64 0, .int .i64 0, .int .i64 0].toArray 25 (0, 0)) /\ Ext [] w w')
  (fun st _ => match st with
   | [.int _ z] => 69 - z.toNat
   | _ => 0) ⟨0, Nat.zero_le _, rfl, hRW, h2, hxa⟩ ?_
 rintro st w' ⟨j, hj, rfl, hR, h3, hx'⟩ _
 have l3 := lt_of_at h3
 have z1 : ∀ i : IZ, splice [.int .i64 0, .int .i64 0, .int .i64 0, .int .i64 0, .int .i64 0] 0 (izC i) = izC i := fun _ => rfl
 have z2 : ∀ i : IZ, izC i ++ List.drop (izC i).length [.int .i64 0, .int .i64 0, .int .i64 0, .int .i64 0, .int .i64 0] = izC i := fun _ => by simp [izC]
 by_cases hj69 : j < 69
 ·obtain ⟨ok, gW, gM⟩ := row_good (k := j) hj69
  have hix := row_ix j hj69
  have hsh := row_sh hj69
  rw [show 69 - j = (69 - (j + 1)) + 1 by omega, decGo] at hR
  simp (disch := first | exact qD8 | fail) only [qG1, Nat.reduceAdd, Nat.reduceLeDiff, Int.reduceToNat, Int.reduceAdd, Int.reduceSub, Int.reduceLT, Int.reduceLE, Nat.reduceSub, Nat.reduceMul, Nat.reduceEqDiff, hix, rw_over, rw_put]
  have hx4 : Ext [] w' (w'.alloc (.cells (rwC (row j)).toArray 57)) := qX
  refine fixed_spec ok fun w2 hx5 => ?_
  have hx6 := hx4.trans hx5 (by simp)
  have hx7 := hx'.trans hx6 (by simp)
  have k3 := hx6.at h3 (by simp)
  have kr := hx5.at (b := w'.heap.size) (o := .cells (rwC (row j)).toArray 57 (0, 0)) (by first | with_reducible rfl | assumption | (simp (disch := first | exact qD8 | fail) only [qG1, Nat.reduceAdd, Nat.reduceLeDiff, Int.reduceToNat, Int.reduceAdd, Int.reduceSub, Int.reduceLT, Int.reduceLE, Nat.reduceSub, Nat.reduceMul, Nat.reduceEqDiff] <;> rfl)) (by simp)
  have hand : bitI .and .u64 (W : Int) (fixM (row j) : Nat) = ((W &&& fixM (row j) : Nat) : Int) := by
   rw [and_u64 (by omega) (by omega)]
   simp
  have hal : W &&& fixM (row j) <= W := Nat.and_le_left
  by_cases hjk : W &&& fixM (row j) = fixW (row j)
  ·rw [if_pos hjk] at hR
   have hn2 : ((W &&& fixM (row j) : Nat) : Int) = ((fixW (row j) : Nat) : Int) := by rw [hjk]
   simp (disch := first | exact qD8 | fail) only [qG1, Nat.reduceAdd, Nat.reduceLeDiff, Int.reduceToNat, Int.reduceAdd, Int.reduceSub, Int.reduceLT, Int.reduceLE, Nat.reduceSub, Nat.reduceMul, Nat.reduceEqDiff, hand, hn2]
   have hof : ofK W j = ⟨(j : Int) + 1, if (hasS (row j).s).1 then ((W / 2 ^ 7 % 2 ^ 5 : Nat) : Int) else 0, if (hasS (row j).s).2.1 then ((W / 2 ^ 15 % 2 ^ 5 : Nat) : Int) else 0, if (hasS (row j).s).2.2 then ((W / 2 ^ 20 % 2 ^ 5 : Nat) : Int) else 0, readL (laidS (row j).s).1 (laidS (row j).s).2.1 (laidS (row j).s).2.2.1 W⟩ := rfl
   rw [hR] at hK
   rw [hof] at hK
   clear hR hof
   have hpc := pcs_okA hsh
   obtain ⟨hb0, hb1, hb2, hb3⟩ := laid_bits hsh
   have r1 : (rwC (row j))[1]? = some (.int .u8 ((row j).s : Nat)) := rfl
   simp (disch := first | exact qD8 | fail) only [qG1, Nat.reduceAdd, Nat.reduceLeDiff, Int.reduceToNat, Int.reduceAdd, Int.reduceSub, Int.reduceLT, Int.reduceLE, Nat.reduceSub, Nat.reduceMul, Nat.reduceEqDiff, kr, r1]
   have lr := lt_of_at kr
   have l3' := lt_of_at k3
   generalize (row j).s = s at *
   refine laidG_spec hsh fun a n c w3 hn hv hx8 => ?_
   subst hn
   simp (disch := first | exact qD8 | fail) only [qG1, Nat.reduceAdd, Nat.reduceLeDiff, Int.reduceToNat, Int.reduceAdd, Int.reduceSub, Int.reduceLT, Int.reduceLE, Nat.reduceSub, Nat.reduceMul, Nat.reduceEqDiff]
   refine readG_spec hv hpc (by omega) hb3 fun w4 hx9 => ?_
   generalize readL (laidS s).1 (laidS s).2.1 (laidS s).2.2.1 W = im at *
   have hb : ∀ (x y : Int) (w : World), (Instr.build 25 #[(0, .int .i64 x), (4, .int .i64 y)]).run Tryz.prog w = .ok (.agg [.int .i64 x, .int .i64 0, .int .i64 0, .int .i64 0, .int .i64 y].toArray) w := fun x y w => run_build w 25 _ _ (by kernel_rfl)
   have hbb : ∀ (w : World), (Instr.build 25 #[(0, .int .i64 ((j : Nat) + 1 : Int)), (4, .int .i64 im)]).run Tryz.prog w = .ok (.agg (izC ⟨(j : Int) + 1, 0, 0, 0, im⟩).toArray) w := fun w => hb _ _ w
   have hxb := hx8.trans hx9 (by simp)
   have m3 := hxb.at k3 (by simp)
   have mr := hxb.at kr (by simp)
   have lm3 := lt_of_at m3
   have lmr := lt_of_at mr
   simp (disch := first | exact qD8 | fail) only [qG1, Nat.reduceAdd, Nat.reduceLeDiff, Int.reduceToNat, Int.reduceAdd, Int.reduceSub, Int.reduceLT, Int.reduceLE, Nat.reduceSub, Nat.reduceMul, Nat.reduceEqDiff, hbb, z1, z2, mr, r1]
   refine hasG_spec hsh ?_
   generalize hasS s = h at *
   obtain ⟨t1, t2, t3⟩ := h
   dsimp only at hK ⊢
   have hxc : Ext [] w (w4.alloc (.cells (izC ⟨(j : Int) + 1, 0, 0, 0, im⟩).toArray 25)) := by
    have := hx7.trans hxb (by simp)
    exact qX
   have q3 : (w4.alloc (.cells (izC ⟨(j : Int) + 1, 0, 0, 0, im⟩).toArray 25)).heap[w.heap.size]? = some (.cells [.int .i64 0, .int .i64 0, .int .i64 0, .int .i64 0, .int .i64 0].toArray 25 (0, 0)) := (by first | with_reducible rfl | assumption | (simp (disch := first | exact qD8 | fail) only [qG1, Nat.reduceAdd, Nat.reduceLeDiff, Int.reduceToNat, Int.reduceAdd, Int.reduceSub, Int.reduceLT, Int.reduceLE, Nat.reduceSub, Nat.reduceMul, Nat.reduceEqDiff, m3] <;> rfl))
   have q9 : (w4.alloc (.cells (izC ⟨(j : Int) + 1, 0, 0, 0, im⟩).toArray 25)).heap[w4.heap.size]? = some (.cells (izC ⟨(j : Int) + 1, 0, 0, 0, im⟩).toArray 25 (0, 0)) := (by first | with_reducible rfl | assumption | (simp (disch := first | exact qD8 | fail) only [qG1, Nat.reduceAdd, Nat.reduceLeDiff, Int.reduceToNat, Int.reduceAdd, Int.reduceSub, Int.reduceLT, Int.reduceLE, Nat.reduceSub, Nat.reduceMul, Nat.reduceEqDiff] <;> rfl))
   have hw4 : w.heap.size < w4.heap.size := by omega
   obtain ⟨b9, hb9⟩ : ∃ b9, b9 = w4.heap.size := ⟨_, rfl⟩
   rw [<- hb9] at q9 hw4 ⊢
   simp (disch := first | exact qD8 | fail) only [qG1, Nat.reduceAdd, Nat.reduceLeDiff, Int.reduceToNat, Int.reduceAdd, Int.reduceSub, Int.reduceLT, Int.reduceLE, Nat.reduceSub, Nat.reduceMul, Nat.reduceEqDiff]
   generalize (w4.alloc (.cells (izC ⟨(j : Int) + 1, 0, 0, 0, im⟩).toArray 25)) = w5 at *
   have p5 : (2 : Nat) ^ 5 = 32 := by decide
   have e7 : ((7 : Int).toNat) = 7 := rfl
   have e15 : ((15 : Int).toNat) = 15 := rfl
   have e20 : ((20 : Int).toNat) = 20 := rfl
   have e5 : ((5 : Int).toNat) = 5 := rfl
   have hne9 : w.heap.size ≠ b9 := by omega
   have hbw : w.heap.size <= b9 := by omega
   have s1 : ∀ (o r1 r2 x v : Int), (izC ⟨o, 0, r1, r2, x⟩).set 1 (.int .i64 v) = izC ⟨o, v, r1, r2, x⟩ := fun _ _ _ _ _ => rfl
   have s2 : ∀ (o rd r2 x v : Int), (izC ⟨o, rd, 0, r2, x⟩).set 2 (.int .i64 v) = izC ⟨o, rd, v, r2, x⟩ := fun _ _ _ _ _ => rfl
   have s3 : ∀ (o rd r1 x v : Int), (izC ⟨o, rd, r1, 0, x⟩).set 3 (.int .i64 v) = izC ⟨o, rd, r1, v, x⟩ := fun _ _ _ _ _ => rfl
   have f1 : W / 2 ^ 7 % 2 ^ 5 < 2 ^ 5 := Nat.mod_lt _ (Nat.two_pow_pos _)
   have f2 : W / 2 ^ 15 % 2 ^ 5 < 2 ^ 5 := Nat.mod_lt _ (Nat.two_pow_pos _)
   have f3 : W / 2 ^ 20 % 2 ^ 5 < 2 ^ 5 := Nat.mod_lt _ (Nat.two_pow_pos _)
   obtain ⟨y1, hy1⟩ : ∃ y, y = W / 2 ^ 7 % 2 ^ 5 := ⟨_, rfl⟩
   obtain ⟨y2, hy2⟩ : ∃ y, y = W / 2 ^ 15 % 2 ^ 5 := ⟨_, rfl⟩
   obtain ⟨y3, hy3⟩ : ∃ y, y = W / 2 ^ 20 % 2 ^ 5 := ⟨_, rfl⟩
   rw [<- hy1, <- hy2, <- hy3] at hK
   rw [<- hy1, p5] at f1
   rw [<- hy2, p5] at f2
   rw [<- hy3, p5] at f3
   refine joinL.intro fun J2 hJ2 => ?_
   have g2 : ∀ (w6 : World) (rd : Int), rd = (if t1 = true then (y1 : Int) else 0) -> w6.heap[b9]? = some (.cells (izC ⟨(j : Int) + 1, rd, 0, 0, im⟩).toArray 25 (0, 0)) -> w6.heap[w.heap.size]? = some (.cells [.int .i64 0, .int .i64 0, .int .i64 0, .int .i64 0, .int .i64 0].toArray 25 (0, 0)) -> Ext [] w w6 -> J2 [] w6 := by
    intro w6 rd hrd a1 a2 a3
    rw [<- hrd] at hK
    apply hJ2
    intro _
    refine joinL.intro fun J4 hJ4 => ?_
    have g4 : ∀ (w7 : World) (rb : Int), rb = (if t2 = true then (y2 : Int) else 0) -> w7.heap[b9]? = some (.cells (izC ⟨(j : Int) + 1, rd, rb, 0, im⟩).toArray 25 (0, 0)) -> w7.heap[w.heap.size]? = some (.cells [.int .i64 0, .int .i64 0, .int .i64 0, .int .i64 0, .int .i64 0].toArray 25 (0, 0)) -> Ext [] w w7 -> J4 [] w7 := by
     intro w7 rb hrb c1 c2 c3
     rw [<- hrb] at hK
     apply hJ4
     intro _
     refine joinL.intro fun J6 hJ6 => ?_
     have g6 : ∀ (w8 : World) (rc : Int), rc = (if t3 = true then (y3 : Int) else 0) -> w8.heap[b9]? = some (.cells (izC ⟨(j : Int) + 1, rd, rb, rc, im⟩).toArray 25 (0, 0)) -> w8.heap[w.heap.size]? = some (.cells [.int .i64 0, .int .i64 0, .int .i64 0, .int .i64 0, .int .i64 0].toArray 25 (0, 0)) -> Ext [] w w8 -> J6 [] w8 := by
      intro w8 rc hrc d1 d2 d3
      rw [<- hrc] at hK
      apply hJ6
      intro _
      have ld1 := lt_of_at d1
      have ld2 := lt_of_at d2
      simp (disch := first | exact qD8 | fail) only [qG1, Nat.reduceAdd, Nat.reduceLeDiff, Int.reduceToNat, Int.reduceAdd, Int.reduceSub, Int.reduceLT, Int.reduceLE, Nat.reduceSub, Nat.reduceMul, Nat.reduceEqDiff, d1, d2, izC_sub, z1, z2]
      exact hK _ qX
     cases t3 with
     | true =>
      refine .inl ⟨rfl, ?_⟩
      simp (disch := first | exact qD8 | fail) only [qG1, Nat.reduceAdd, Nat.reduceLeDiff, Int.reduceToNat, Int.reduceAdd, Int.reduceSub, Int.reduceLT, Int.reduceLE, Nat.reduceSub, Nat.reduceMul, Nat.reduceEqDiff]
      refine fGet_spec (by decide) (by decide) (by decide) (by omega) fun w8 hx10 => ?_
      rw [e20, e5, <- hy3]
      have d1 := hx10.at c1 (by simp)
      have d2 := hx10.at c2 (by simp)
      have ld1 := lt_of_at d1
      simp (disch := first | exact qD8 | fail) only [qG1, Nat.reduceAdd, Nat.reduceLeDiff, Int.reduceToNat, Int.reduceAdd, Int.reduceSub, Int.reduceLT, Int.reduceLE, Nat.reduceSub, Nat.reduceMul, Nat.reduceEqDiff, d1, s3]
      exact g6 _ y3 rfl (upd_at d1) ((upd_ne hne9).trans d2) ((c3.trans hx10 (by simp)).upd _ (.inr hbw))
     | false =>
      refine .inr ⟨rfl, ?_⟩
      exact g6 w7 0 rfl c1 c2 c3
    cases t2 with
    | true =>
     refine .inl ⟨rfl, ?_⟩
     simp (disch := first | exact qD8 | fail) only [qG1, Nat.reduceAdd, Nat.reduceLeDiff, Int.reduceToNat, Int.reduceAdd, Int.reduceSub, Int.reduceLT, Int.reduceLE, Nat.reduceSub, Nat.reduceMul, Nat.reduceEqDiff]
     refine fGet_spec (by decide) (by decide) (by decide) (by omega) fun w8 hx10 => ?_
     rw [e15, e5, <- hy2]
     have d1 := hx10.at a1 (by simp)
     have d2 := hx10.at a2 (by simp)
     have ld1 := lt_of_at d1
     simp (disch := first | exact qD8 | fail) only [qG1, Nat.reduceAdd, Nat.reduceLeDiff, Int.reduceToNat, Int.reduceAdd, Int.reduceSub, Int.reduceLT, Int.reduceLE, Nat.reduceSub, Nat.reduceMul, Nat.reduceEqDiff, d1, s2]
     exact g4 _ y2 rfl (upd_at d1) ((upd_ne hne9).trans d2) ((a3.trans hx10 (by simp)).upd _ (.inr hbw))
    | false =>
     refine .inr ⟨rfl, ?_⟩
     exact g4 w6 0 rfl a1 a2 a3
   cases t1 with
   | true =>
    refine .inl ⟨rfl, ?_⟩
    simp (disch := first | exact qD8 | fail) only [qG1, Nat.reduceAdd, Nat.reduceLeDiff, Int.reduceToNat, Int.reduceAdd, Int.reduceSub, Int.reduceLT, Int.reduceLE, Nat.reduceSub, Nat.reduceMul, Nat.reduceEqDiff]
    refine fGet_spec (by decide) (by decide) (by decide) (by omega) fun w8 hx10 => ?_
    rw [e7, e5, <- hy1]
    have d1 := hx10.at q9 (by simp)
    have d2 := hx10.at q3 (by simp)
    have ld1 := lt_of_at d1
    simp (disch := first | exact qD8 | fail) only [qG1, Nat.reduceAdd, Nat.reduceLeDiff, Int.reduceToNat, Int.reduceAdd, Int.reduceSub, Int.reduceLT, Int.reduceLE, Nat.reduceSub, Nat.reduceMul, Nat.reduceEqDiff, d1, s1]
    exact g2 _ y1 rfl (upd_at d1) ((upd_ne hne9).trans d2) ((hxc.trans hx10 (by simp)).upd _ (.inr hbw))
   | false =>
    refine .inr ⟨rfl, ?_⟩
    exact g2 w5 0 rfl q9 q3 hxc
  ·rw [if_neg hjk] at hR
   have hn2 : ((W &&& fixM (row j) : Nat) : Int) ≠ ((fixW (row j) : Nat) : Int) := by omega
   simp (disch := first | exact qD8 | fail) only [qG1, Nat.reduceAdd, Nat.reduceLeDiff, Int.reduceToNat, Int.reduceAdd, Int.reduceSub, Int.reduceLT, Int.reduceLE, Nat.reduceSub, Nat.reduceMul, Nat.reduceEqDiff, hand]
   exact ⟨⟨j + 1, by omega, rfl, hR, k3, hx7⟩, by first | omega | (simp <;> omega)⟩
 ·obtain rfl : j = 69 := by omega
  have hR0 : R = (⟨0, 0, 0, 0, 0⟩, false) := hR
  rw [hR0] at hK
  dsimp only at hK
  rw [hz0] at hK
  simp (disch := first | exact qD8 | fail) only [qG1, Nat.reduceAdd, Nat.reduceLeDiff, Int.reduceToNat, Int.reduceAdd, Int.reduceSub, Int.reduceLT, Int.reduceLE, Nat.reduceSub, Nat.reduceMul, Nat.reduceEqDiff, h3]
  exact hK _ qX
open Go.Fx
set_option maxRecDepth 100000
theorem and_field (W p k : Nat) : W &&& ((2 ^ k - 1) * 2 ^ p) = W / 2 ^ p % 2 ^ k * 2 ^ p := by
 apply Nat.eq_of_testBit_eq
 intro i
 rw [Nat.testBit_and, Nat.mul_comm (2 ^ k - 1), Nat.mul_comm (W / 2 ^ p % 2 ^ k), Nat.testBit_two_pow_mul, Nat.testBit_two_pow_mul, Nat.testBit_two_pow_sub_one, Nat.testBit_mod_two_pow, Nat.testBit_div_two_pow]
 by_cases h : i ≥ p
 ·by_cases h2 : i - p < k
  ·simp [h, h2, Nat.sub_add_cancel h]
  ·simp [h, h2]
 ·simp [h]
theorem and_plus {W m n p : Nat} (hm : m < 2 ^ p) : W &&& (2 ^ p * n + m) = (W &&& (2 ^ p * n)) + (W &&& m) := by
 have h1 := Nat.two_pow_add_eq_or_of_lt hm n
 rw [h1, Nat.and_or_distrib_left]
 have hlt : W &&& m < 2 ^ p := Nat.lt_of_le_of_lt Nat.and_le_right hm
 have hd : ∃ t, W &&& (2 ^ p * n) = 2 ^ p * t := by
  refine ⟨W / 2 ^ p &&& n, ?_⟩
  apply Nat.eq_of_testBit_eq
  intro i
  rw [Nat.testBit_and, Nat.testBit_two_pow_mul, Nat.testBit_two_pow_mul, Nat.testBit_and, Nat.testBit_div_two_pow]
  by_cases h : i ≥ p
  ·simp [h, Nat.sub_add_cancel h]
  ·simp [h]
 obtain ⟨t, ht⟩ := hd
 rw [ht, <- Nat.two_pow_add_eq_or_of_lt hlt]
theorem m1 (W a b : Nat) (hab : a <= b) (k : Nat) (m : Nat) (hm : m < 2 ^ b) : W &&& (m + (2 ^ k - 1) * 2 ^ b) = (W &&& m) + W / 2 ^ b % 2 ^ k * 2 ^ b := by
 rw [Nat.add_comm m, Nat.mul_comm (2 ^ k - 1), and_plus hm, Nat.mul_comm (2 ^ b), and_field]
 omega
theorem and_I (W : Nat) : W &&& (127 + 7 * 4096) = W % 128 + W / 4096 % 8 * 4096 := by
 have h := m1 W 7 12 (by decide) 3 127 (by decide)
 have e := Nat.and_two_pow_sub_one_eq_mod W 7
 have h1 : (2 ^ 3 - 1) * 2 ^ 12 = 7 * 4096 := by decide
 rw [h1] at h
 rw [h]
 have e2 : (2 : Nat) ^ 7 - 1 = 127 := by decide
 rw [e2] at e
 rw [e]
theorem and_U (W : Nat) : W &&& 127 = W % 128 := by
 have e := Nat.and_two_pow_sub_one_eq_mod W 7
 exact e
theorem and_R (W : Nat) : W &&& (127 + 7 * 4096 + 127 * 33554432) = W % 128 + W / 4096 % 8 * 4096 + W / 33554432 % 128 * 33554432 := by
 have h := m1 W 7 25 (by decide) 7 (127 + 7 * 4096) (by decide)
 have h1 : (2 ^ 7 - 1) * 2 ^ 25 = 127 * 33554432 := by decide
 rw [h1] at h
 rw [h, and_I]
theorem and_G (W : Nat) : W &&& (127 + 7 * 4096 + 31 * 1048576 + 127 * 33554432) = W % 128 + W / 4096 % 8 * 4096 + W / 1048576 % 32 * 1048576 + W / 33554432 % 128 * 33554432 := by
 have h := m1 W 7 25 (by decide) 7 (127 + 7 * 4096 + 31 * 1048576) (by decide)
 have h1 : (2 ^ 7 - 1) * 2 ^ 25 = 127 * 33554432 := by decide
 rw [h1] at h
 have k := m1 W 7 20 (by decide) 5 (127 + 7 * 4096) (by decide)
 have k1 : (2 ^ 5 - 1) * 2 ^ 20 = 31 * 1048576 := by decide
 rw [k1] at k
 rw [h, k, and_I]
theorem and_H (W : Nat) : W &&& (127 + 7 * 4096 + 63 * 67108864) = W % 128 + W / 4096 % 8 * 4096 + W / 67108864 % 64 * 67108864 := by
 have h := m1 W 7 26 (by decide) 6 (127 + 7 * 4096) (by decide)
 have h1 : (2 ^ 6 - 1) * 2 ^ 26 = 63 * 67108864 := by decide
 rw [h1] at h
 rw [h, and_I]
theorem and_N (W : Nat) : W &&& (127 + 8191 * 128 + 4095 * 1048576) = W % 128 + W / 128 % 8192 * 128 + W / 1048576 % 4096 * 1048576 := by
 have h := m1 W 7 20 (by decide) 12 (127 + 8191 * 128) (by decide)
 have h1 : (2 ^ 12 - 1) * 2 ^ 20 = 4095 * 1048576 := by decide
 rw [h1] at h
 have k := m1 W 7 7 (by decide) 13 127 (by decide)
 have k1 : (2 ^ 13 - 1) * 2 ^ 7 = 8191 * 128 := by decide
 rw [k1] at k
 rw [h, k, and_U]
def Msh (s : Nat) : Nat := if s = 85 ∨ s = 74 then 127 else if s = 78 then 127 + 8191 * 128 + 4095 * 1048576 else if s = 82 then 127 + 7 * 4096 + 127 * 33554432 else if s = 71 then 127 + 7 * 4096 + 31 * 1048576 + 127 * 33554432 else if s = 72 then 127 + 7 * 4096 + 63 * 67108864 else 127 + 7 * 4096
def Wsh (r : Rw) : Nat := if r.s = 85 ∨ r.s = 74 then r.c else if r.s = 78 then r.c + r.o * 1048576 else if r.s = 82 then r.c + r.f * 4096 + r.o * 33554432 else if r.s = 71 then r.c + r.f * 4096 + r.o * 1048576 + 127 * 33554432 else if r.s = 72 then r.c + r.f * 4096 + r.o * 67108864 else r.c + r.f * 4096
def factB (r : Rw) : Bool := decide (fixM r = Msh r.s /\ fixW r = Wsh r /\ r.c < 128 /\ r.f < 8 /\ (r.s = 82 -> r.o < 128) /\ (r.s = 71 -> r.o < 32) /\ (r.s = 72 -> r.o < 64) /\ (r.s = 78 -> r.o < 4096))
theorem facts_all : rowI.all factB = true := by kernel_rfl
theorem row_fact {k : Nat} (h : k < 69) : fixM (row k) = Msh (row k).s /\ fixW (row k) = Wsh (row k) /\ (row k).c < 128 /\ (row k).f < 8 /\ ((row k).s = 82 -> (row k).o < 128) /\ ((row k).s = 71 -> (row k).o < 32) /\ ((row k).s = 72 -> (row k).o < 64) /\ ((row k).s = 78 -> (row k).o < 4096) := by
 have := List.all_eq_true.1 facts_all _ (row_mem h)
 unfold factB at this
 rwa [decide_eq_true_eq] at this
theorem un_read {ps : List (Nat × Nat × Nat)} {bits W : Nat} {sg : Bool} (h : ps.foldl (readX W) 0 < 18446744073709551616) (hb : sg = true -> 1 <= bits /\ bits <= 64) : un (readL ps bits sg W) = if sg then signN (ps.foldl (readX W) 0) bits else ps.foldl (readX W) 0 := by
 unfold readL
 generalize ps.foldl (readX W) 0 = x at *
 have key : ∀ y : Nat, y < 18446744073709551616 -> un (if y < 9223372036854775808 then (y : Int) else (y : Int) - 18446744073709551616) = y := by
  intro y hy
  unfold un
  split <;> omega
 dsimp only
 cases sg with
 | false => exact key x h
 | true => exact key _ (signN_lt (hb rfl))
theorem low_bits {x y b f n : Nat} (h : f + n <= b) (he : x % 2 ^ b = y % 2 ^ b) : x / 2 ^ f % 2 ^ n = y / 2 ^ f % 2 ^ n := by
 apply Nat.eq_of_testBit_eq
 intro i
 rw [Nat.testBit_mod_two_pow, Nat.testBit_mod_two_pow, Nat.testBit_div_two_pow, Nat.testBit_div_two_pow]
 by_cases hi : i < n
 ·have h1 : (x % 2 ^ b).testBit (i + f) = (y % 2 ^ b).testBit (i + f) := by rw [he]
  rw [Nat.testBit_mod_two_pow, Nat.testBit_mod_two_pow] at h1
  have : i + f < b := by omega
  simpa [this, hi] using h1
 ·simp [hi]
theorem sign_low {x b : Nat} (h : 1 <= b /\ b <= 64) : signN x b % 2 ^ b = x % 2 ^ b := by
 have e64 : (18446744073709551616 : Nat) = 2 ^ b * 2 ^ (64 - b) := by
  rw [<- Nat.pow_add, show b + (64 - b) = 64 by omega]
 unfold signN
 split
 ·rw [Nat.mod_mod]
 ·have hg := Nat.two_pow_pos (64 - b)
  have e : 18446744073709551616 - 2 ^ b = 2 ^ b * (2 ^ (64 - b) - 1) := by
   rw [Nat.mul_sub, Nat.mul_one, <- e64]
  rw [e, Nat.add_mul_mod_self_left, Nat.mod_mod]
theorem sign_piece {x b f n : Nat} (h : 1 <= b /\ b <= 64) (hf : f + n <= b) : signN x b / 2 ^ f % 2 ^ n = x / 2 ^ f % 2 ^ n := low_bits hf (sign_low h)
theorem un_small {n : Nat} (h : n < 18446744073709551616) : un (n : Int) = n := by
 unfold un
 omega
end Go.Proofs.YtobkjnmdbkieeaaGreatDoor
