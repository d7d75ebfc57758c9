/- Decimal texts: what both functions of digits tell; conditions: those of each theorem. -/
import Derived.Test.YtgnibcaflidjmaaFN
import Derived.Test.YtgnibcaflidjmaaRN
import Derived.Test.YtgnibcaflidjmaaBits
import Derived.Test.YtgnibcaflidjmaaStrings
import Derived.Laws.BytesArg
namespace Go.Proofs.Ytgnibcaflidjmaa
open Go.Fx
set_option maxRecDepth 100000
set_option linter.unusedSimpArgs false
set_option linter.unusedVariables false
/-- a number's decimal digits, as bytes. -/
def decs (n : Nat) : List Int := if h : n < 10 then [(48 : Int) + n] else decs (n / 10) ++ [(48 : Int) + (n % 10 : Nat)]
termination_by n
decreasing_by omega
theorem decs_small {n : Nat} (h : n < 10) : decs n = [(48 : Int) + n] := by rw [decs, dif_pos h]
theorem decs_big {n : Nat} (h : ¬ n < 10) : decs n = decs (n / 10) ++ [(48 : Int) + (n % 10 : Nat)] := by rw [decs, dif_neg h]
theorem decs_len : ∀ (k n : Nat), n < 10 ^ (k + 1) → (decs n).length ≤ k + 1
  | 0, n, h => by rw [decs_small (by omega)]; simp
  | k + 1, n, h => by
    by_cases h10 : n < 10
    · rw [decs_small h10]; simp
    · rw [decs_big h10]
      have : n / 10 < 10 ^ (k + 1) := by rw [Nat.div_lt_iff_lt_mul (by omega), ← Nat.pow_succ]; exact h
      have := decs_len k (n / 10) this
      simp
      omega
theorem decs_le {n : Nat} (h : n < 18446744073709551616) : (decs n).length ≤ 20 := decs_len 19 n (by omega)
theorem strOfNums_append (a b : List Int) : strOfNums a ++ strOfNums b = strOfNums (a ++ b) := by
  apply ByteArray.ext
  simp [strOfNums]
theorem digit_cut {d : Nat} (h : d < 10) : ByteArray.extract ⟨#[48, 49, 50, 51, 52, 53, 54, 55, 56, 57]⟩ d (d + 1) = strOfNums [(48 : Int) + d] := by
  match d, h with
  | 0, _ => rfl
  | 1, _ => rfl
  | 2, _ => rfl
  | 3, _ => rfl
  | 4, _ => rfl
  | 5, _ => rfl
  | 6, _ => rfl
  | 7, _ => rfl
  | 8, _ => rfl
  | 9, _ => rfl
theorem rdigits_spec : ∀ (n : Nat), n < 18446744073709551616 → ∀ (w : World) (K : Value → World → Prop), K (.string (strOfNums (decs n))) w → callsK Try.prog 30 #[.int .u64 n] w K := by
  intro n
  induction n using Nat.strongRecOn with
  | _ n ih =>
    intro hn w K hK
    apply F30_ok
    unfold F30
    have hd : ((n : Int) % 10) = ((n % 10 : Nat) : Int) := by omega
    have hc := digit_cut (d := n % 10) (by omega)
    have hcut : ∀ w, (Instr.sliceAt 9 (.string ⟨#[48, 49, 50, 51, 52, 53, 54, 55, 56, 57]⟩) (some (.int .u64 ((n % 10 : Nat) : Int))) (some (.int .u64 (((n % 10 : Nat) : Int) + 1))) none).run Try.prog w = .ok (.string (strOfNums [(48 : Int) + (n % 10 : Nat)])) w := by
      intro w
      rw [run_cutS Try.underlying9 _ _ _ (l := n % 10) (h := n % 10 + 1) (fun w => (slR.2.2.2.1 _ _ _ _ _ _ _ _ ⟨by omega, by omega, by show ((n % 10 : Nat) : Int) + 1 ≤ ((10 : Nat) : Int); omega⟩).trans (by rw [show (((n % 10 : Nat) : Int) + 1).toNat = n % 10 + 1 by omega, Int.toNat_natCast])), hc]
    by_cases h10 : n < 10
    · simp (disch := first | assumption | omega | (simp only [szR] <;> omega) | rfl | decide) only [gen0, gen1, gen2, rulesN, litR, bolR, Nat.reduceAdd, Nat.reduceLeDiff, numR, memR, valR, heapR, updR, intR, decR, extR, slR, segR, thenR, pnR, Int.reduceToNat, Int.reduceAdd, Int.reduceSub, Int.reduceLT, Int.reduceLE, Nat.reduceSub, Nat.reduceMul, Nat.reduceEqDiff, hd, hcut]
      rw [decs_small h10] at hK
      rw [show n % 10 = n by omega]
      exact hK
    · simp (disch := first | assumption | omega | (simp only [szR] <;> omega) | rfl | decide) only [gen0, gen1, gen2, rulesN, litR, bolR, Nat.reduceAdd, Nat.reduceLeDiff, numR, memR, valR, heapR, updR, intR, decR, extR, slR, segR, thenR, pnR, Int.reduceToNat, Int.reduceAdd, Int.reduceSub, Int.reduceLT, Int.reduceLE, Nat.reduceSub, Nat.reduceMul, Nat.reduceEqDiff, hd, hcut]
      have e : (n : Int) / 10 = ((n / 10 : Nat) : Int) := by omega
      rw [e]
      refine ih (n / 10) (by omega) (by omega) _ _ ?_
      have hl := decs_le (n := n / 10) (by omega)
      have hadd : ∀ x y w, (binV .add 9 x y (.string (strOfNums (decs (n / 10)))) (.string (strOfNums [(48 : Int) + (n % 10 : Nat)]))).run Try.prog w = .ok (.string (strOfNums (decs n))) w := by
        intro x y w
        rw [run_addS (by rw [strOfNums_size, strOfNums_size]; simp; omega), strOfNums_append, ← decs_big h10]
      simp (disch := first | assumption | omega | (simp only [szR] <;> omega) | rfl | decide) only [gen0, gen1, gen2, rulesN, litR, bolR, Nat.reduceAdd, Nat.reduceLeDiff, numR, memR, valR, heapR, updR, intR, decR, extR, slR, segR, thenR, pnR, Int.reduceToNat, Int.reduceAdd, Int.reduceSub, Int.reduceLT, Int.reduceLE, Nat.reduceSub, Nat.reduceMul, Nat.reduceEqDiff, hadd]
      exact hK
/-- bytes, a cell each. -/
def u8C (x : Int) : List Value := [.int .u8 x]
theorem u8C_all (l : List Int) : ∀ r ∈ l.map u8C, r.all (fun v => v.oneCell') = true := by
  intro r hr
  obtain ⟨l, -, rfl⟩ := List.mem_map.1 hr
  rfl
theorem text_of_rows {P : Program} {s e d : TypeId} (hs : P.underlying s = some (.slice e)) (he : P.underlying e = some (.int .u8)) (hd : P.underlying d = some .string) {w : World} {v : Value} {xs : List Int} (h : RowsAt w v 1 (xs.map u8C)) (h0 : xs ≠ []) :
    (convert s d v).run P w = .ok (.string (strOfNums xs)) w := by
  obtain ⟨a, cap, rfl, hc, hr⟩ := h
  rcases hr with hr | ⟨b, o, l, E, f, rfl, hb, hfit, hsub⟩
  · exact absurd (by simpa using hr) h0
  · refine run_convert_bytes_arg w s e hs he b o _ cap xs (by simp) (fun i hi => ?_) d hd
    simp only [List.length_map] at hi
    have h1 := hsub i (u8C xs[i]) (by simp [hi])
    rw [cell_of_block hb]
    have h2 : (Go.Fx.sub l (o + i * 1) 1)[0]? = some (.int .u8 xs[i]) := by rw [h1]; rfl
    unfold Go.Fx.sub at h2
    rw [List.getElem?_take_of_lt (by omega), List.getElem?_drop] at h2
    rw [Nat.mul_one, Nat.add_zero] at h2
    rw [h2]
    simp [hi]
theorem app31d {base : Nat} {v x : Value} {rows rows2 : List (List Value)} {w : World} {K : Value → World → Prop} (hown : OwnR w base 5 1 v rows) (hx : RowsAt w x 1 rows2) (h1 : ∀ r ∈ rows2, r.all (fun v => v.oneCell') = true)
    (hl : rows.length + rows2.length ≤ 1000000) (hbase : base ≤ w.heap.size) (hK : ∀ v' w', OwnR w' base 5 1 v' (rows ++ rows2) → App base v w w' → K v' w') : resV K ((Builtin.append_ #[60, 60] 60 #[v, x]).run Try.prog w) :=
  kV_appR Try.underlying60 (by kernel_rfl) (by omega) (bytes := 1) hown hx h1 (by simp only [maxLen]; omega) (by omega) hbase hK
theorem digits_spec {w : World} {N : Nat} (hN : N < 18446744073709551616) {K : Value → World → Prop} (hK : ∀ w', Ext [] w w' → K (.string (strOfNums (decs N))) w') : callsK Try.prog 28 #[.int .u64 N] w K := by
  apply F28_ok
  unfold F28
  refine loopT.intro (fun st w' => ∃ (v : Value) (m : Nat) (z : Int) (acc : List Int), st = [v, .int .u64 z] ∧ z = m ∧ m ≤ N ∧ RowsAt w' v 1 (acc.map u8C) ∧ decs N = decs m ++ acc ∧ Ext [] w w')
    (fun st _ => match st with
      | [_, .int _ z] => z.toNat
      | _ => 0) ⟨_, N, N, [], rfl, rfl, Nat.le_refl _, OwnR.nil.rows (base := 0) (e := 5), by simp, Ext.refl⟩ ?_
  rintro st w' ⟨v, m, z, acc, rfl, rfl, hm, hrows, hdec, hx⟩ _
  have hd : (m : Int) % 10 = ((m % 10 : Nat) : Int) := by omega
  have hq : (m : Int) / 10 = ((m / 10 : Nat) : Int) := by omega
  have hlen := congrArg List.length hdec
  have hle := decs_le hN
  simp only [List.length_append] at hlen
  have hx1 : Ext [] w' (w'.alloc (.cells [.int .u8 (48 + ((m % 10 : Nat) : Int))].toArray 5)) := by (repeat first | assumption | exact Ext.refl | apply Ext.alloc | apply Ext.drew | (refine Ext.updN ?_ ?_; (focus first | omega | (simp only [szR] <;> omega))) | (refine Ext.updI ?_ ?_; (focus (simp; done))))
  simp (disch := first | assumption | omega | (simp only [szR] <;> omega) | rfl | decide) only [gen0, gen1, gen2, rulesN, litR, bolR, Nat.reduceAdd, Nat.reduceLeDiff, numR, memR, valR, heapR, updR, intR, decR, extR, slR, segR, thenR, pnR, Int.reduceToNat, Int.reduceAdd, Int.reduceSub, Int.reduceLT, Int.reduceLE, Nat.reduceSub, Nat.reduceMul, Nat.reduceEqDiff, hd, hq]
  refine app31d (rows := [u8C (48 + ((m % 10 : Nat) : Int))]) (base := w'.heap.size) (OwnR.fresh rfl rfl (Nat.le_refl _)) (hrows.ext hx1 (by simp)) (u8C_all acc) (by simp; omega) hx1.size fun v10 w2 ho ha => ?_
  have hx2 := ha.ext w' [] (Nat.le_refl _) hx1
  have hr2 : RowsAt w2 v10 1 (((48 + ((m % 10 : Nat) : Int)) :: acc).map u8C) := ho.rows
  have hxw := hx.trans hx2 (by simp)
  by_cases h10 : m < 10
  · have htxt := text_of_rows (P := Try.prog) Try.underlying60 Try.underlying5 Try.underlying9 hr2 (by simp)
    simp (disch := first | assumption | omega | (simp only [szR] <;> omega) | rfl | decide) only [gen0, gen1, gen2, rulesN, litR, bolR, Nat.reduceAdd, Nat.reduceLeDiff, numR, memR, valR, heapR, updR, intR, decR, extR, slR, segR, thenR, pnR, Int.reduceToNat, Int.reduceAdd, Int.reduceSub, Int.reduceLT, Int.reduceLE, Nat.reduceSub, Nat.reduceMul, Nat.reduceEqDiff, htxt]
    rw [decs_small h10] at hdec
    have e : decs N = (48 + ((m % 10 : Nat) : Int)) :: acc := by rw [hdec, show m % 10 = m by omega]; rfl
    rw [← e]
    exact hK _ hxw
  · simp (disch := first | assumption | omega | (simp only [szR] <;> omega) | rfl | decide) only [gen0, gen1, gen2, rulesN, litR, bolR, Nat.reduceAdd, Nat.reduceLeDiff, numR, memR, valR, heapR, updR, intR, decR, extR, slR, segR, thenR, pnR, Int.reduceToNat, Int.reduceAdd, Int.reduceSub, Int.reduceLT, Int.reduceLE, Nat.reduceSub, Nat.reduceMul, Nat.reduceEqDiff]
    refine ⟨⟨v10, m / 10, _, (48 + ((m % 10 : Nat) : Int)) :: acc, rfl, rfl, by omega, hr2, ?_, hxw⟩, by omega⟩
    rw [hdec, decs_big h10]
    simp
end Go.Proofs.Ytgnibcaflidjmaa
