/- The keys of a bitmap's map, one by one, in any order; conditions: those of each theorem. -/
import Derived.RangeFuncBox
import Derived.RangeFuncLeaves
import Derived.RangeFuncNested
import Derived.RangeFuncBound
import Derived.RangeFuncCalls
import Derived.Shelf.Abstract
import Derived.Shelf.RegionOpen
import Derived.WalkKit
import Derived.OwnWalkIn
import Derived.TacticsInMore
import Derived.RegionIn
import Derived.LoopNIn
import Derived.LoopIn
import Derived.Maps.AppendAt
import Derived.Sort.MapsRangeIn
import Derived.Test.YtgnibcaflidjmaaBm4
namespace Go.Proofs.Ytgnibcaflidjmaa
open Go Go.RowKit Go.Shelf Go.Fx
attribute [local go_sem] Oper.semAt_some
set_option maxRecDepth 100000
set_option linter.unusedSimpArgs false
set_option linter.unusedVariables false
theorem ext_grown {w w' : World} {b : Nat} (h : Ext [b] w w') : w.grownBy w' (some b) := ⟨h.os, h.tape, h.output, h.size, fun k hk hn => h.kept k hk (by simp; intro e; exact hn (by rw [e]))⟩
theorem IterF.walks {κ ν : Type} [DecidableEq κ] {w w' : World} {it m : Nat} {kf : κ → Value} {vf : ν → Value} {cur : Option (κ × ν)} {rest : List (κ × ν)} (h : IterF w it m kf vf cur rest) (hk : KeepsWalks w w') : IterF w' it m kf vf cur rest := by
  obtain ⟨es, clock, seen, a, b, c, d⟩ := h
  exact ⟨es, clock, seen, hk.same _ _ a rfl, b, hk.same _ _ c rfl, d⟩
section
variable {F : Fence} {n : Nat} {P : Program} {ops : Array Oper} {Q : Exit → Act → World → Prop} {rest : List Oper} {a : Act} {w : World} {o : Oper}
theorem wpListIn_nextI {κ ν : Type} [DecidableEq κ] (hg : o.guard = none) (it : Operand) (hop : o.op = Op.next it false) {kf : κ → Value} {vf : ν → Value} {r m : Nat} {cur : Option (κ × ν)} {l : List (κ × ν)} (hit : a.eval it = .pointer (some ⟨r, 0, none⟩)) (h : IterF w r m kf vf cur l)
    (h0 : l = [] → ∀ w', Ext [] w w' → wpListIn F n P ops Q rest (a.put o.dst (.tuple #[.bool false])) w')
    (h1 : ∀ A p B w', l = A ++ p :: B → IterF w' r m kf vf (some p) (A ++ B) → Ext [r] w w' → wpListIn F n P ops Q rest (a.put o.dst (.tuple #[.bool true, kf p.1, vf p.2])) w') :
    wpListIn F n P ops Q (o :: rest) a w := by
  refine wpListIn_plain hg fun K' hK' => ?_
  have hr := run_nextM (P := P) (ty := o.type) h (K := fun v w' => wpListIn F n P ops Q rest (a.put o.dst v) w') h0 h1
  unfold Oper.wpIn
  refine ⟨by simp [Oper.about, hop], ?_⟩
  rw [Oper.semAt_plain F _ _ (by rw [hop]; intro c hc'; cases hc')]
  cases hrun : (Instr.next (.pointer (some ⟨r, 0, none⟩)) false o.type).run P w with
  | ok v w' =>
    rw [hrun] at hr
    simp [execOp, hop, hit, hrun, Result.andThen]
    exact hK' _ _ hr
  | _ => rw [hrun] at hr; exact hr.elim
theorem wpListIn_rangeI {κ ν : Type} [DecidableEq κ] (hg : o.guard = none) (mo : Operand) (t kt et : TypeId) (hop : o.op = Op.range t mo) (ht : P.underlying t = some (.map kt et)) {kf : κ → Value} {vf : ν → Value} {m : Nat} {f : κ → Option ν} (hm : a.eval mo = .map (some m)) (h : MapF w m kf vf f)
    (hK : ∀ l w', (l.map (·.1)).Nodup → (∀ a, getM l a = f a) → IterF w' w.heap.size m kf vf none l → w.grownBy w' none → wpListIn F n P ops Q rest (a.put o.dst (.pointer (some ⟨w.heap.size, 0, none⟩))) w') :
    wpListIn F n P ops Q (o :: rest) a w := by
  refine wpListIn_plain hg fun K' hK' => ?_
  have hr := run_rangeM ht h (K := fun v w' => wpListIn F n P ops Q rest (a.put o.dst v) w') fun l w' h1 h2 h3 h4 => hK l w' h1 h2 h3 ⟨h4.os, h4.tape, h4.output, h4.size, fun k hk _ => h4.kept k hk (by simp)⟩
  unfold Oper.wpIn
  refine ⟨by simp [Oper.about, hop], ?_⟩
  rw [Oper.semAt_plain F _ _ (by rw [hop]; intro c hc'; cases hc')]
  cases hrun : (Instr.range t (.map (some m))).run P w with
  | ok v w' =>
    rw [hrun] at hr
    simp [execOp, hop, hm, hrun, Result.andThen]
    exact hK' _ _ hr
  | _ => rw [hrun] at hr; exact hr.elim
end
/-- just the pages of which a granule is painted, each once. -/
def PagesOf (B : Nat → Bool) (ys : List Nat) : Prop := ys.Nodup ∧ ∀ k, k ∈ ys ↔ anyB (pgB B k) = true
theorem getM_mem {κ ν : Type} [DecidableEq κ] (l : List (κ × ν)) (a : κ) : a ∈ l.map (·.1) ↔ getM l a ≠ none := by
  rw [Ne, getM_none]
  exact Decidable.not_not.symm
theorem pagesOf {B : Nat → Bool} {l : List (Nat × (Nat → Bool))} {ys : List Nat} (h1 : (l.map (·.1)).Nodup) (h2 : ∀ a, getM l a = bmF B a) (hp : ys.Perm (l.map (·.1))) : PagesOf B ys := by
  refine ⟨hp.nodup_iff.2 h1, fun k => ?_⟩
  rw [hp.mem_iff, getM_mem, h2 k]
  unfold bmF
  cases anyB (pgB B k) <;> simp
set_option maxHeartbeats 1000000 in
theorem keys1_in (F : Fence) (n : Nat) (h7 : F.fn 69) (hro : F.round = none) (hn : 1 ≤ n) (l Bs m N : Nat) (B : Nat → Bool) (hN : ∀ ys, PagesOf B ys → ys.length ≤ N) (J Jx : List Nat → World → Prop)
    (hY : ∀ pre x W, J pre W → pre.length < N → YieldAt F (n - 1) Try.prog l #[.int .u64 (x : Nat)] W fun e W' =>
      (e = .returned (.bool true) ∧ J (pre ++ [x]) W' ∧ KeepsWalks W W') ∨ (e = .returned (.bool false) ∧ Jx (pre ++ [x]) W'))
    (W : World) (hJ : AbidesFrom W.heap.size J) (hBs : W.cell? ⟨Bs, 0, none⟩ = some (.map (some m))) (hB : Bm W (some m) B) (h0 : J [] W) :
    CallsIn F n Try.prog 69 #[.func (.yield l) #[] #[], .pointer (some ⟨Bs, 0, none⟩)] W fun e W' => (∃ v, e = .returned v) ∧
      ((∃ ys, PagesOf B ys ∧ J ys W') ∨ (∃ pre, True ∧ Jx pre W')) := by
  refine callsIn_of_wp Try.func69 rfl h7 ?_ hro
  simp only [Try.ntmps69, List.size_toArray, List.length_cons, List.length_nil, Nat.reduceAdd, Nat.reduceSub, Array.replicate_succ, Array.replicate_zero, List.push_toArray, List.append_toArray, List.nil_append, List.cons_append]
  gi_wp2_with (first
    | (gi_at_range; refine wpListIn_rangeI rfl _ _ 28 88 rfl Try.underlying48 rfl hB ?_; intro ls w0 hnd hget hit0 hg0)
    | gi_in)
  go_frame
  gi_loopw [3] (fun _ wr => ∃ cur rest ys, IterF wr W.heap.size m pgf setf cur rest ∧ (ys ++ rest.map (·.1)).Perm (ls.map (·.1)) ∧ J ys wr)
    (fun _ wr => leftIt wr W.heap.size)
  case atStart =>
    exact ⟨none, ls, [], hit0, by simp, hJ [] W w0 none h0 hg0 (fun r e => by cases e)⟩
  case round =>
    obtain ⟨cur, rest, ys, hit, hp, hJs⟩ := hrel
    have hleft := hit.left
    gi_wp2_with (first
      | (gi_at_next; refine wpListIn_nextI rfl _ rfl rfl hit ?_ ?_)
      | gi_in)
    · intro e0 w2 hx2
      subst e0
      have hJ2 : J ys w2 := hJ ys wr w2 none hJs ⟨hx2.os, hx2.tape, hx2.output, hx2.size, fun k hk _ => hx2.kept k hk (by simp)⟩ (fun r e => by cases e)
      gi_wp2
      go_end0
      exact ⟨⟨_, rfl⟩, .inl ⟨ys, pagesOf hnd hget (by simpa using hp), hJ2⟩⟩
    · intro A k bt B' w2 e1 hit2 hx2
      have hen := run_entryM (P := Try.prog) hit2
      simp only [pgf] at hen
      have hJ2 : J ys w2 := hJ ys wr w2 (some W.heap.size) hJs (ext_grown hx2) (fun r e => by
        cases e
        obtain ⟨es, clock, seen, h1, h2, h3, -⟩ := hit
        exact ⟨Nat.le_refl _, _, h3, rfl⟩)
      have hp2 : ((ys ++ [k]) ++ (A ++ B').map (·.1)).Perm (ls.map (·.1)) := by
        refine List.Perm.trans ?_ hp
        rw [e1]
        simp only [List.map_append, List.map_cons, List.append_assoc, List.singleton_append]
        exact List.Perm.append_left _ (List.perm_middle.symm)
      have hlt : ys.length < N := by
        have h1 := hN _ (pagesOf hnd hget (List.Perm.refl _))
        have h2 := hp2.length_eq
        simp at h1 h2
        omega
      obtain ⟨fn, tmps, assign, body, hy, hR⟩ := hY ys k w2 hJ2 hlt
      have hl2 := hit2.left
      gi_wp2
      refine hR.mono ?_
      rintro e W3 (⟨rfl, hJ3, hk3⟩ | ⟨rfl, hJx3⟩)
      · gi_wp2
        have hit3 := IterF.walks hit2 hk3
        go_roundw
        case rel => exact ⟨_, A ++ B', ys ++ [k], hit3, hp2, hJ3⟩
        case measure => rw [hit3.left, hleft, e1]; simp
      · gi_wp2
        refine bodyPost_ret (results_none rfl _ _ _) rfl ?_
        exact ⟨⟨_, rfl⟩, .inr ⟨_, trivial, hJx3⟩⟩
end Go.Proofs.Ytgnibcaflidjmaa
