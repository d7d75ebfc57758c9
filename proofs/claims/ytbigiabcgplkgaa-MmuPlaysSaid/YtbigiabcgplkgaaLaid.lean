/- A memory with some entries, and the document's; conditions: those of each theorem. -/
import Derived.Test.YtbigiabcgplkgaaRefWalk
namespace Go.Proofs.Ytbigiabcgplkgaa
open Go.Fx
set_option maxRecDepth 100000
set_option linter.unusedSimpArgs false
set_option linter.unusedVariables false
/-- an entry that is laid. -/
structure LayE where
  fr : Int
  ix : Int
  f : Nat → Bool
  n : Nat
def layC (p : LayE) : List Value := .int .i64 p.fr :: .int .i64 p.ix :: entC p.f p.n
theorem layC_len (p : LayE) : (layC p).length = 15 := by simp [layC, entC]
def atOf (p : LayE) : Nat := (p.fr % 8).toNat * 4096 + (p.ix % 512).toNat * 8
theorem atOf_lt (p : LayE) : atOf p < 8 * 4096 := by unfold atOf; omega
theorem atOf_mod (p : LayE) : atOf p % 8 = 0 := by unfold atOf; omega
def laidM (R : List LayE) : Nat → Int := R.foldl (fun m p => stored m (atOf p) 8 (wd p.f p.n : Nat)) (fun _ => 0)
theorem laidM_take {R : List LayE} {k : Nat} (h : k < R.length) : laidM (R.take (k + 1)) = stored (laidM (R.take k)) (atOf R[k]) 8 (wd R[k].f R[k].n : Nat) := by
  unfold laidM
  rw [List.take_succ_eq_append_getElem h, List.foldl_append]
  rfl
theorem sub_drop2 (l : List Value) (o n : Nat) : sub l (o + 2) n = (sub l o (n + 2)).drop 2 := by
  unfold sub
  rw [List.drop_take, List.drop_drop]
  rfl
end Go.Proofs.Ytbigiabcgplkgaa
