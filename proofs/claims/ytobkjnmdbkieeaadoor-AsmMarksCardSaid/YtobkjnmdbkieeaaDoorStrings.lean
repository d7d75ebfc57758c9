/-
  Texts: put together, held against each other, measured, cut, made of bytes; conditions: those of each theorem.
-/
import Derived.Test.YtobkjnmdbkieeaaDoorSlices
namespace Go.Fx
set_option linter.unusedSimpArgs false
theorem run_addS {P : Program} {t : TypeId} {x y : Operand} {a b : ByteArray} {w : World} (h : a.size + b.size ≤ 9223372036854775807) : (binV .add t x y (.string a) (.string b)).run P w = .ok (.string (a ++ b)) w := by
  have h2 : ¬ ((a.size + b.size : Nat) : Int) > IntKind.i64.max := by
    have : IntKind.i64.max = 9223372036854775807 := rfl
    omega
  simp only [binV, eqGuard, binOp, Op.stringOp, if_neg h2]
  simp
theorem run_eqlS {P : Program} {t : TypeId} (x y : Operand) (a b : ByteArray) (w : World) : (binV .eql t x y (.string a) (.string b)).run P w = .ok (.bool (a.toList == b.toList)) w := by
  simp [binV, eqGuard, binOp, Op.stringOp]
theorem run_neqS {P : Program} {t : TypeId} (x y : Operand) (a b : ByteArray) (w : World) : (binV .neq t x y (.string a) (.string b)).run P w = .ok (.bool (!(a.toList == b.toList))) w := by
  simp [binV, eqGuard, binOp, Op.stringOp]
theorem run_lenS {P : Program} {t ty : TypeId} (ht : P.underlying t = some .string) (a : ByteArray) (w : World) : (Builtin.len_ #[t] ty #[.string a]).run P w = .ok (.int .i64 a.size) w := by
  simp [Builtin.len_, Builtin.lenOf, goInt, run_underlying ht]
/-- a text cut. -/
theorem run_cutS {P : Program} {t : TypeId} (ht : P.underlying t = some .string) (a : ByteArray) (lo hi : Option Value) {l h : Nat} (hb : ∀ w, (Instr.sliceBounds false a.size a.size lo hi none).run P w = .ok (l, h, a.size) w) (w : World) : (Instr.sliceAt t (.string a) lo hi none).run P w = .ok (.string (a.extract l h)) w := by
  simp [Instr.sliceAt, Instr.slice, run_underlying ht, hb]
end Go.Fx
