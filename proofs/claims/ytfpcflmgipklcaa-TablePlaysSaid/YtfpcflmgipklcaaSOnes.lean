/- The iterator over the bits of a word, and who takes its first; conditions: those of each theorem. -/
import Derived.RangeFuncBox
import Derived.RangeFuncLeaves
import Derived.RangeFuncNested
import Derived.RangeFuncBound
import Derived.RangeFuncCalls
import Derived.Shelf.Abstract
import Derived.Shelf.RegionOpen
import Derived.WalkKit
import Derived.OwnWalkIn
import Derived.TacticsInMore
import Derived.LoopNIn
import Derived.LoopIn
import Derived.Maps.AppendAt
import Derived.Test.YtfpcflmgipklcaaSVals
import Derived.Test.YtfpcflmgipklcaaBits
namespace Go.Proofs.Ytfpcflmgipklcaa
open Go Go.RowKit Go.Shelf
attribute [local go_sem] Oper.semAt_some
set_option maxRecDepth 100000
set_option linter.unusedSimpArgs false
set_option linter.unusedVariables false
/-- the places of the bits that are 1, below k. -/
def onesK (x k : Nat) : List Nat := (List.range k).filter fun j => x / 2 ^ j % 2 == 1
theorem onesK_hit {x k : Nat} (h : x / 2 ^ k % 2 = 1) : onesK x (k + 1) = onesK x k ++ [k] := by
  unfold onesK
  rw [List.range_succ, List.filter_append]
  simp [h]
theorem onesK_miss {x k : Nat} (h : ¬ x / 2 ^ k % 2 = 1) : onesK x (k + 1) = onesK x k := by
  unfold onesK
  rw [List.range_succ, List.filter_append]
  simp [h]
theorem onesK_length (x k : Nat) : (onesK x k).length ≤ k := by
  unfold onesK
  exact Nat.le_trans (List.length_filter_le _ _) (by simp)
theorem bit_one {x k : Nat} (hx : x < 18446744073709551616) : bits BinOp.and IntKind.u64 ((x : Int) / 2 ^ k) 1 = ((x / 2 ^ k % 2 : Nat) : Int) := by
  have hq : x / 2 ^ k ≤ x := Nat.div_le_self _ _
  have e : (x : Int) / 2 ^ k = ((x / 2 ^ k : Nat) : Int) := by simp
  rw [e]
  generalize x / 2 ^ k = y at *
  have h := Fx.and_u64 (a := ((y : Nat) : Int)) (b := 1) (by omega) (by omega)
  have h2 : bits BinOp.and IntKind.u64 ((y : Nat) : Int) 1 = Fx.bitI .and .u64 ((y : Nat) : Int) 1 := rfl
  rw [h2, h]
  have h3 := Nat.and_two_pow_sub_one_eq_mod y 1
  show (((y : Int).toNat &&& 1 : Nat) : Int) = _
  rw [Int.toNat_natCast]
  have h4 : y &&& 1 = y % 2 := h3
  rw [h4]
/-- a block lies as it lay. -/
def KeptAt (B : Nat) (W W' : World) : Prop := W'.heap[B]? = W.heap[B]?
theorem KeptAt.t {B : Nat} {X Y Z : World} (h : KeptAt B X Y) (k : KeptAt B Y Z) : KeptAt B X Z := Eq.trans k h
theorem KeptAt.b {B : Nat} {w : World} (hB : B < w.heap.size) (W : World) (l : Nat) (o o' : Obj) (hl : w.heap.size ≤ l) (_ : W.heap[l]? = some o) (_ : o.isCells = false) (_ : o.isWalk = false) : KeptAt B W (W.putObj l o') :=
  World.putObj_heap_other (by omega)
set_option maxHeartbeats 2000000 in
theorem ones1_in (F : Fence) (n : Nat) (h7 : F.fn 78) (hro : F.round = none) (hn : 1 ≤ n) (l Bx x : Nat) (hx : x < 18446744073709551616) (J Jx : List Nat → World → Prop)
    (hY : ∀ pre (k : Nat) W, J pre W → pre.length < 64 → YieldAt F (n - 1) Try.prog l #[.int .i64 (k : Int)] W fun e W' =>
      (e = .returned (.bool true) ∧ J (pre ++ [k]) W' ∧ KeptAt Bx W W') ∨ (e = .returned (.bool false) ∧ Jx (pre ++ [k]) W'))
    (W : World) (hBx : Boxed W Bx 23 (.int .u64 (x : Nat))) (h0 : J [] W) :
    CallsIn F n Try.prog 78 #[.func (.yield l) #[] #[], .pointer (some ⟨Bx, 0, none⟩)] W fun e W' => (∃ v, e = .returned v) ∧
      ((∃ ys, ys = onesK x 64 ∧ J ys W') ∨ (∃ pre, (∃ k, k < 64 ∧ x / 2 ^ k % 2 = 1 ∧ pre = onesK x k ++ [k]) ∧ Jx pre W')) := by
  refine callsIn_of_wp Try.func78 rfl h7 ?_ hro
  simp only [Try.ntmps78, List.size_toArray, List.length_cons, List.length_nil, Nat.reduceAdd, Nat.reduceSub, Array.replicate_succ, Array.replicate_zero, List.push_toArray, List.append_toArray, List.nil_append, List.cons_append]
  gi_wp2
  gi_loopw [4] (fun i wr => ∃ k : Nat, k ≤ 64 ∧ i = .int .i64 k ∧ J (onesK x k) wr ∧ KeptAt Bx W wr)
    (fun i _ => 64 - (intOf i).toNat)
  case atStart => exact ⟨0, Nat.zero_le _, rfl, h0, rfl⟩
  case round =>
    obtain ⟨k, hk, rfl, hJs, hnx⟩ := hrel
    have hc : wr.cell? ⟨Bx, 0, none⟩ = some (.int .u64 (x : Nat)) := (show Boxed wr Bx 23 (.int .u64 (x : Nat)) from Eq.trans hnx hBx).cell
    by_cases hlt : k < 64
    · obtain ⟨fn, tmps, assign, body, hy, hR⟩ := hY _ k wr hJs (by have := onesK_length x k; omega)
      gi_wp2
      · -- the bit is 1
        have hb : x / 2 ^ k % 2 = 1 := by
          have h : bits BinOp.and IntKind.u64 ((x : Int) / 2 ^ k) 1 = 1 := by assumption
          rw [bit_one hx] at h
          omega
        refine hR.mono ?_
        rintro e W3 (⟨rfl, hJ3, hk3⟩ | ⟨rfl, hJx3⟩)
        · gi_wp2
          go_roundw
          case rel => exact ⟨k + 1, by omega, by simp, by rw [onesK_hit hb]; exact hJ3, Eq.trans hk3 hnx⟩
          case measure => simp [intOf]; omega
        · gi_wp2
          refine bodyPost_ret (results_none rfl _ _ _) rfl ?_
          exact ⟨⟨_, rfl⟩, .inr ⟨_, ⟨k, hlt, hb, rfl⟩, hJx3⟩⟩
      · -- it is 0
        have hb : ¬ x / 2 ^ k % 2 = 1 := by
          have h : ¬ bits BinOp.and IntKind.u64 ((x : Int) / 2 ^ k) 1 = 1 := by assumption
          rw [bit_one hx] at h
          omega
        refine ⟨fun _ h => (by cases h), ?_⟩
        gi_wp2
        go_roundw
        case rel => exact ⟨k + 1, by omega, by simp, by rw [onesK_miss hb]; exact hJs, hnx⟩
        case measure => simp [intOf]; omega
    · obtain rfl : k = 64 := by omega
      gi_wp2
      go_end0
      exact ⟨⟨_, rfl⟩, .inl ⟨_, rfl, hJs⟩⟩
set_option maxHeartbeats 1000000 in
theorem ones_in (F : Fence) (n : Nat) (h5 : F.fn 67) (hro : F.round = none) (x : Nat) (w : World) :
    CallsIn F n Try.prog 67 #[.int .u64 (x : Nat)] w fun e w' => e = .returned (.func (.func 78) #[] #[.pointer (some ⟨w.heap.size, 0, none⟩)]) ∧ w' = w.alloc (.cells #[.int .u64 (x : Nat)] 23) := by
  refine callsIn_of_wp Try.func67 rfl h5 ?_ hro
  simp only [Try.ntmps67, List.size_toArray, List.length_cons, List.length_nil, Nat.reduceAdd, Nat.reduceSub, Array.replicate_succ, Array.replicate_zero, List.push_toArray, List.append_toArray, List.nil_append, List.cons_append]
  gi_wp2
  go_ret
  exact ⟨rfl, rfl⟩
theorem ones_stops (F : Fence) (n : Nat) (h7 : F.fn 78) (hro : F.round = none) (hn : 1 ≤ n) (Bx x : Nat) (hx : x < 18446744073709551616) (w : World) (hB : Bx < w.heap.size) (hc : Boxed w Bx 23 (.int .u64 (x : Nat))) :
    SeqStopsK F n Try.prog 78 #[.pointer (some ⟨Bx, 0, none⟩)] (fun k : Nat => #[Value.int .i64 (k : Int)]) (KeptAt Bx) (fun ys => ys = onesK x 64) (fun pre => ∃ k, k < 64 ∧ x / 2 ^ k % 2 = 1 ∧ pre = onesK x k ++ [k]) 64 w := fun l J Jx W hW _ _ hY h0 =>
  ones1_in F n h7 hro hn l Bx x hx J Jx hY W ((hW.block Bx hB).trans hc) h0
/-- the place of the lowest bit that is 1; 64: there is none. -/
def ZerosOf (x z : Nat) : Prop := (onesK x 64 = [] ∧ z = 64) ∨ (z < 64 ∧ x / 2 ^ z % 2 = 1 ∧ onesK x z = [])
set_option maxHeartbeats 2000000 in
theorem zeros_in (F : Fence) (n : Nat) (h41 : F.fn 41) (h67 : F.fn 67) (h78 : F.fn 78) (hro : F.round = none) (hn : 3 ≤ n) (x : Nat) (hx : x < 18446744073709551616) (w : World) :
    CallsIn F n Try.prog 41 #[.int .u64 (x : Nat)] w fun e W' => ∃ z : Nat, e = .returned (.int .i64 (z : Int)) ∧ ZerosOf x z ∧ Below w.heap.size w W' := by
  have h1 : 1 ≤ n := by omega
  refine callsIn_of_wp_marks Try.func41 rfl h41 ?_ hro
  simp only [Try.ntmps41, List.size_toArray, List.length_cons, List.length_nil, Nat.reduceAdd, Nat.reduceSub, Array.replicate_succ, Array.replicate_zero, List.push_toArray, List.append_toArray, List.nil_append, List.cons_append]
  gi_wp2_with (gi_at_call 67; refine (ones_in F (n - 1) h67 hro x _).mono ?_; rintro e w' ⟨rfl, rfl⟩)
  have bR := Boxed.new w 3 (.int .i64 0)
  have bX := Boxed.new (w.alloc (.cells #[.int .i64 0] 3)) 23 (.int .u64 (x : Nat))
  rw [World.size_alloc] at bX
  have hB0 : Below w.heap.size w ((w.alloc (.cells #[.int .i64 0] 3)).alloc (.cells #[.int .u64 (x : Nat)] 23)) := ((Below.refl _ w).alloc (Nat.le_refl _) _).alloc (by simp) _
  refine wpIn_rangeFunc_ownG hro h1 (gf := 78) (lb := #[.pointer (some ⟨w.heap.size + 1, 0, none⟩)]) rfl h78 (enters_of Try.func78 (by kernel_rfl) rfl)
    (ones_stops F (n - 1) h78 hro (by omega) (w.heap.size + 1) x hx _ (by simp) bX) KeptAt.t (KeptAt.b (by simp)) (Below.refl _ _) (fun _ => rfl)
    (fun pre W => (pre = [] ∧ Boxed W w.heap.size 3 (.int .i64 0)) ∧ Below w.heap.size w W)
    (fun c pre W => (c = .ret ∧ ∃ k : Nat, pre = [k] ∧ Boxed W w.heap.size 3 (.int .i64 (k : Int))) ∧ Below w.heap.size w W)
    (OwnFrom.and (fun s A B row hs hg hr => ⟨hs.1, hs.2.kept hg (fun e => by have := (hr _ e.symm).1; simp at this; omega)⟩) (ownFrom_below (Nat.le_refl _) (by simp; omega)))
    (fun c => OwnFrom.and (fun s A B row hs hg hr => ⟨hs.1, let ⟨k, h1, h2⟩ := hs.2; ⟨k, h1, h2.kept hg (fun e => by have := (hr _ e.symm).1; simp at this; omega)⟩⟩) (ownFrom_below (Nat.le_refl _) (by simp; omega)))
    ⟨⟨rfl, bR.alloc _⟩, hB0⟩
    (fun k => { tmps := #[.int .u64 (x : Nat), undef, .pointer (some ⟨w.heap.size, 0, none⟩), .int .i64 (k : Int), .int .u64 (x : Nat), .func (.func 78) #[] #[.pointer (some ⟨w.heap.size + 1, 0, none⟩)], .int .i64 (k : Int), undef], defers := [] }) ?assign ?body ?done ?stop
  case assign =>
    intro l k W K hK
    gi_wp2
    exact hK
  case body =>
    rintro l pre k W ⟨⟨rfl, hv⟩, hB⟩ hlt
    have hc := hv.cell
    have hf := hv.frozen
    gi_wp2
    exact ⟨(KeepsOthers.setCell _ _ _).from _, ⟨rfl, k, rfl, hv.set _⟩, hB.trans ((Below.refl _ W).setCell (p := ⟨w.heap.size, 0, none⟩) (Nat.le_refl _) _)⟩
  case done =>
    rintro D ys W hD hys ⟨⟨rfl, hv⟩, hB⟩ hK
    have hc := hv.cell
    have hf := hv.frozen
    gi_wp2
    have hK' := (KeepsOthers.setCell W ⟨w.heap.size, 0, none⟩ (.int .i64 64)).same D _ hK rfl
    refine ⟨by simp, .inl ⟨_, _, rfl, run_takeDeferred hK', ?_⟩⟩
    have hc5 := cell_kept (hv.set (.int .i64 64)).cell (grownBy_putObj' _ D (.deferred none)) (fun r e => by cases e; exact ⟨_, hK', rfl⟩)
    refine ⟨.int .i64 64, ?_, 64, rfl, .inl ⟨hys.symm, rfl⟩, ?_⟩
    · simp [results, Try.f41, go_sem, hc5]
    · exact (hB.trans ((Below.refl _ W).setCell (p := ⟨w.heap.size, 0, none⟩) (Nat.le_refl _) _)).trans (belowK_b (w := w) (Nat.le_refl _) _ D _ _ (by simp at hD; omega) hK' rfl rfl)
  case stop =>
    rintro D c pre W hD ⟨k, hk, hbit, hpre⟩ ⟨⟨rfl, k', hk', hv⟩, hB⟩ hK
    have hc := hv.cell
    have hf := hv.frozen
    gi_wp2
    refine ⟨by simp, .inl ⟨_, _, rfl, run_takeDeferred hK, ?_⟩⟩
    have hc5 := cell_kept hv.cell (grownBy_putObj' _ D (.deferred none)) (fun r e => by cases e; exact ⟨_, hK, rfl⟩)
    have he : onesK x k = [] ∧ k = k' := by
      rw [hk'] at hpre
      cases h0 : onesK x k with
      | nil => rw [h0] at hpre; simp at hpre; exact ⟨rfl, hpre.symm⟩
      | cons a t => rw [h0] at hpre; simp at hpre
    obtain ⟨he1, rfl⟩ := he
    refine ⟨.int .i64 (k : Int), ?_, k, rfl, .inr ⟨hk, hbit, he1⟩, ?_⟩
    · simp [results, Try.f41, go_sem, hc5]
    · exact hB.trans (belowK_b (w := w) (Nat.le_refl _) _ D _ _ (by simp at hD; omega) hK rfl rfl)
end Go.Proofs.Ytfpcflmgipklcaa
