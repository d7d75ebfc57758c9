/- A loop that is assembled; conditions: those of each theorem. -/
import Derived.Test.YtobkjnmdbkieeaaDoorAT4
import Derived.Test.YtobkjnmdbkieeaaDoorFL
import Derived.Test.YtobkjnmdbkieeaaDoorRL
namespace Go.Proofs.YtobkjnmdbkieeaaDoor
open Go.Fx
set_option maxRecDepth 100000
set_option linter.unusedSimpArgs false
set_option linter.unusedVariables false
def oneT : List UInt8 := [97, 58, 10, 97, 100, 100, 105, 32, 99, 49, 48, 44, 32, 99, 49, 48, 44, 32, 45, 49, 10, 98, 110, 101, 32, 99, 49, 48, 44, 32, 99, 48, 44, 32, 97]
def oneA : List UInt8 := [97, 100, 100, 105, 32, 99, 49, 48, 44, 32, 99, 49, 48, 44, 32, 45, 49]
def oneB : List UInt8 := [98, 110, 101, 32, 99, 49, 48, 44, 32, 99, 48, 44, 32, 97]
theorem one_split : Lib.split oneT [10] = [[97, 58], oneA, oneB] := by
  have e1 : oneT = [97, 58] ++ (10 :: [] ++ (oneA ++ (10 :: [] ++ oneB))) := rfl
  rw [e1, split_at (by decide), split_at (by decide), split_none (by decide)]
theorem one_lines : linesFrom 0 (Lib.split oneT [10]) = [⟨1, [97], true⟩, ⟨2, oneA, false⟩, ⟨3, oneB, false⟩] := by
  rw [one_split]
  rfl
theorem one_plain : Plain oneA ∧ Plain oneB := by
  have c1 : Lib.cut oneA [32] = ([97, 100, 100, 105], [99, 49, 48, 44, 32, 99, 49, 48, 44, 32, 45, 49], true) := cut_at (c := 32) (t := []) (x := [97, 100, 100, 105]) (r := [99, 49, 48, 44, 32, 99, 49, 48, 44, 32, 45, 49]) (by decide)
  have c2 : Lib.cut oneB [32] = ([98, 110, 101], [99, 49, 48, 44, 32, 99, 48, 44, 32, 97], true) := cut_at (c := 32) (t := []) (x := [98, 110, 101]) (r := [99, 49, 48, 44, 32, 99, 48, 44, 32, 97]) (by decide)
  unfold Plain
  rw [c1, c2]
  decide
theorem one_go : asmGo selfL (countF selfL [⟨1, [97], true⟩, ⟨2, oneA, false⟩, ⟨3, oneB, false⟩]).a (countF selfL [⟨1, [97], true⟩, ⟨2, oneA, false⟩, ⟨3, oneB, false⟩]).t [⟨1, [97], true⟩, ⟨2, oneA, false⟩, ⟨3, oneB, false⟩] (fun _ => false) [] = .ok [4294247699, 4261748451] := by kernel_rfl
theorem one_spec {w : World} (hg : Gm w) {K : Value → World → Prop} (hK : ∀ w', Ext [] w w' → K (.bool true) w') : callsK Tryd.prog 9 #[] w K := by
  apply F9_ok
  unfold F9
  have hl := one_lines
  refine Assemble_spec (s := oneT) (st := selfL) (fun t => Nat.le_succ 1) hg (by decide) ?_ ?_ ?_ ?_ ?_
  · rw [hl]
    intro x hx hm
    have hp := one_plain
    simp only [List.mem_cons, List.mem_nil_iff, or_false] at hx
    rcases hx with rfl | rfl | rfl
    · cases hm
    · exact ⟨stands_plain (by decide) hp.1, fun y hy => by simp [selfL] at hy; subst hy; decide⟩
    · exact ⟨stands_plain (by decide) hp.2, fun y hy => by simp [selfL] at hy; subst hy; decide⟩
  · rw [hl]; decide
  · rw [hl]; decide
  · rw [hl]
    intro x hx
    simp only [List.mem_cons, List.mem_nil_iff, or_false] at hx
    rcases hx with rfl | rfl | rfl <;> decide
  · rw [hl, one_go]
    dsimp only
    intro v w' hv hx hb
    have hlv := hv.lenR (ty := 3) Tryd.underlying23
    rw [List.length_map] at hlv
    have hlv' : ∀ w, (Builtin.len_ #[23] 3 #[v]).run Tryd.prog w = .ok (.int .i64 2) w := hlv
    obtain ⟨b0, o0, lb, E0, f0, hix, hb0, hfit, hblt, hbk, hsub, hget⟩ := RowsAt.ixR (P := Tryd.prog) (t := 23) Tryd.underlying23 Tryd.sizeOf24 hv (k := 0) (r := wC 4294247699) rfl
    obtain ⟨b1, o1, lb1, E1, f1, hix1, hb1, hfit1, hblt1, hbk1, hsub1, hget1⟩ := RowsAt.ixR (P := Tryd.prog) (t := 23) Tryd.underlying23 Tryd.sizeOf24 hv (k := 1) (r := wC 4261748451) rfl
    have hc0 : lb[o0]? = some (.int .u32 4294247699) := hget (o0 + 0) 0 rfl (by omega)
    have hc1 : lb1[o1]? = some (.int .u32 4261748451) := hget1 (o1 + 0) 0 rfl (by omega)
    have hi0 := fun w => hix w .i64 0 rfl
    have hi1 := fun w => hix1 w .i64 1 rfl
    simp (disch := first | assumption | omega | (simp only [szR, izC_len, izC_all] <;> omega) | rfl | decide) only [gen0, gen1, gen2, rulesC, rulesX, rulesA, rulesL, litR, bolR, Nat.reduceAdd, Nat.reduceLeDiff, numR, memR, valR, heapR, updR, intR, decR, extR, slR, segR, thenR, pnR, Int.reduceToNat, Int.reduceAdd, Int.reduceSub, Int.reduceLT, Int.reduceLE, Nat.reduceSub, Nat.reduceMul, Nat.reduceEqDiff, joinBR, hlv', hi0, hb0, hc0, hi1, hb1, hc1]
    exact hK _ hx
end Go.Proofs.YtobkjnmdbkieeaaDoor
