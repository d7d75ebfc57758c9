/- Numbers and permissions as texts: both texts; conditions: those of each theorem. -/
import Derived.Test.YtgnibcaflidjmaaLook2
import Derived.Test.YtgnibcaflidjmaaBuild
import Derived.Laws.BytesArg
namespace Go.Proofs.Ytgnibcaflidjmaa
open Go.Fx
set_option maxRecDepth 100000
set_option linter.unusedSimpArgs false
set_option linter.unusedVariables false
/-- a digit's byte. -/
def dg (d : Nat) : Int := if d < 10 then 48 + d else 87 + d
/-- a number's digits, of a base. -/
def digs (b n : Nat) : List Int := if h : n < b ∨ b < 2 then [dg n] else digs b (n / b) ++ [dg (n % b)]
termination_by n
decreasing_by exact Nat.div_lt_self (by omega) (by omega)
theorem digs_small {b n : Nat} (h : n < b) : digs b n = [dg n] := by rw [digs, dif_pos (.inl h)]
theorem digs_big {b n : Nat} (h : ¬ n < b) (hb : 2 ≤ b) : digs b n = digs b (n / b) ++ [dg (n % b)] := by rw [digs, dif_neg (by omega)]
theorem digs_len {b : Nat} (hb : 10 ≤ b) : ∀ (k n : Nat), n < 10 ^ (k + 1) → (digs b n).length ≤ k + 1
  | 0, n, h => by rw [digs_small (by omega)]; simp
  | k + 1, n, h => by
    by_cases h10 : n < b
    · rw [digs_small h10]; simp
    · rw [digs_big h10 (by omega)]
      have h1 : n / b ≤ n / 10 := Nat.div_le_div_left hb (by omega)
      have h2 : n / 10 < 10 ^ (k + 1) := by rw [Nat.div_lt_iff_lt_mul (by omega), ← Nat.pow_succ]; exact h
      have := digs_len hb k (n / b) (by omega)
      simp
      omega
theorem digs_le {b n : Nat} (hb : b = 10 ∨ b = 16) (h : n < 18446744073709551616) : (digs b n).length ≤ 20 := digs_len (by omega) 19 n (by omega)
def sgn : ByteArray := ⟨#[48, 49, 50, 51, 52, 53, 54, 55, 56, 57, 97, 98, 99, 100, 101, 102]⟩
theorem sixteen {p : Nat → Prop} (h : p 0 ∧ p 1 ∧ p 2 ∧ p 3 ∧ p 4 ∧ p 5 ∧ p 6 ∧ p 7 ∧ p 8 ∧ p 9 ∧ p 10 ∧ p 11 ∧ p 12 ∧ p 13 ∧ p 14 ∧ p 15) {k : Nat} (hk : k < 16) : p k := by
  rcases (by omega : k = 0 ∨ k = 1 ∨ k = 2 ∨ k = 3 ∨ k = 4 ∨ k = 5 ∨ k = 6 ∨ k = 7 ∨ k = 8 ∨ k = 9 ∨ k = 10 ∨ k = 11 ∨ k = 12 ∨ k = 13 ∨ k = 14 ∨ k = 15) with rfl | rfl | rfl | rfl | rfl | rfl | rfl | rfl | rfl | rfl | rfl | rfl | rfl | rfl | rfl | rfl
  all_goals simp [h]
theorem sgn_cut {d : Nat} (h : d < 16) : sgn.extract d (d + 1) = strOfNums [dg d] :=
  sixteen (p := fun d => sgn.extract d (d + 1) = strOfNums [dg d]) ⟨rfl, rfl, rfl, rfl, rfl, rfl, rfl, rfl, rfl, rfl, rfl, rfl, rfl, rfl, rfl, rfl⟩ h
theorem dg_byte {d : Nat} (h : d < 16) : 0 ≤ dg d ∧ dg d < 256 := by unfold dg; split <;> omega
theorem sgn_ix {d : Nat} (h : d < 16) (w : World) : (Instr.index 9 (.string sgn) (.int .u64 (d : Int))).run Try.prog w = .ok (.int .u8 (dg d)) w := by
  have key : ∀ (hd : d < sgn.size), ((sgn[d].toNat : Nat) : Int) = dg d :=
    sixteen (p := fun d => ∀ (hd : d < sgn.size), ((sgn[d].toNat : Nat) : Int) = dg d) ⟨fun _ => rfl, fun _ => rfl, fun _ => rfl, fun _ => rfl, fun _ => rfl, fun _ => rfl, fun _ => rfl, fun _ => rfl, fun _ => rfl, fun _ => rfl, fun _ => rfl, fun _ => rfl, fun _ => rfl, fun _ => rfl, fun _ => rfl, fun _ => rfl⟩ h
  have hs : sgn.size = 16 := rfl
  rw [run_index_string w 9 sgn .u64 (d : Int) Try.underlying9, dif_pos ⟨by omega, by rw [hs]; omega⟩]
  simp only [Int.toNat_natCast]
  rw [key]
theorem rdigs_spec {b : Nat} (hb : b = 10 ∨ b = 16) : ∀ (n : Nat), n < 18446744073709551616 → ∀ (w : World) (K : Value → World → Prop), (∀ w', Ext [] w w' → K (.string (strOfNums (digs b n))) w') → callsK Try.prog 32 #[.int .u64 n, .int .u64 b] w K := by
  intro n
  induction n using Nat.strongRecOn with
  | _ n ih =>
    intro hn w K hK
    apply F32_ok
    unfold F32
    have hd : ((n : Int) % (b : Int)) = ((n % b : Nat) : Int) := by simp
    have hdl : n % b < 16 := by rcases hb with rfl | rfl <;> omega
    have hc := sgn_cut hdl
    have hs : (⟨#[48, 49, 50, 51, 52, 53, 54, 55, 56, 57, 97, 98, 99, 100, 101, 102]⟩ : ByteArray) = sgn := rfl
    have hcut : ∀ w, (Instr.sliceAt 9 (.string sgn) (some (.int .u64 ((n % b : Nat) : Int))) (some (.int .u64 (((n % b : Nat) : Int) + 1))) none).run Try.prog w = .ok (.string (strOfNums [dg (n % b)])) w := by
      intro w
      rw [run_cutS Try.underlying9 _ _ _ (l := n % b) (h := n % b + 1) (fun w => (slR.2.2.2.1 _ _ _ _ _ _ _ _ ⟨by omega, by omega, by show ((n % b : Nat) : Int) + 1 ≤ ((16 : Nat) : Int); omega⟩).trans (by rw [show (((n % b : Nat) : Int) + 1).toNat = n % b + 1 by omega, Int.toNat_natCast])), hc]
    have hb0 : (b : Int) ≠ 0 := by omega
    obtain ⟨q, hqd⟩ : ∃ q, q = n / b := ⟨_, rfl⟩
    have hq : (n : Int) / (b : Int) = (q : Int) := by rw [hqd]; simp
    have hle : q ≤ n := by rw [hqd]; exact Nat.div_le_self n b
    by_cases h10 : n < b
    · simp (disch := first | assumption | omega | (simp only [szR] <;> omega) | rfl | decide) only [gen0, gen1, gen2, rulesC, litR, bolR, Nat.reduceAdd, Nat.reduceLeDiff, numR, memR, valR, heapR, updR, intR, decR, extR, slR, segR, thenR, pnR, Int.reduceToNat, Int.reduceAdd, Int.reduceSub, Int.reduceLT, Int.reduceLE, Nat.reduceSub, Nat.reduceMul, Nat.reduceEqDiff, hd, hs, hcut]
      rw [digs_small h10] at hK
      rw [show n % b = n by rw [Nat.mod_eq_of_lt h10]]
      exact hK _ (by (repeat first | assumption | exact Ext.refl | apply Ext.alloc | apply Ext.drew | (refine Ext.updN ?_ ?_; (focus first | omega | (simp only [szR] <;> omega))) | (refine Ext.updI ?_ ?_; (focus (simp; done)))))
    · simp (disch := first | assumption | omega | (simp only [szR] <;> omega) | rfl | decide) only [gen0, gen1, gen2, rulesC, litR, bolR, Nat.reduceAdd, Nat.reduceLeDiff, numR, memR, valR, heapR, updR, intR, decR, extR, slR, segR, thenR, pnR, Int.reduceToNat, Int.reduceAdd, Int.reduceSub, Int.reduceLT, Int.reduceLE, Nat.reduceSub, Nat.reduceMul, Nat.reduceEqDiff, hd, hs, hcut, hq]
      refine ih q (by rw [hqd]; exact Nat.div_lt_self (by omega) (by omega)) (by omega) _ _ fun w2 hx2 => ?_
      have hl := digs_le (n := q) hb (by omega)
      have hadd : ∀ x y w, (binV .add 9 x y (.string (strOfNums (digs b q))) (.string (strOfNums [dg (n % b)]))).run Try.prog w = .ok (.string (strOfNums (digs b n))) w := by
        intro x y w
        rw [run_addS (by rw [strOfNums_size, strOfNums_size]; simp; omega), strApp, hqd, ← digs_big h10 (by omega)]
      simp (disch := first | assumption | omega | (simp only [szR] <;> omega) | rfl | decide) only [gen0, gen1, gen2, rulesC, litR, bolR, Nat.reduceAdd, Nat.reduceLeDiff, numR, memR, valR, heapR, updR, intR, decR, extR, slR, segR, thenR, pnR, Int.reduceToNat, Int.reduceAdd, Int.reduceSub, Int.reduceLT, Int.reduceLE, Nat.reduceSub, Nat.reduceMul, Nat.reduceEqDiff, hadd]
      exact hK _ (Ext.trans (S := []) (by (repeat first | assumption | exact Ext.refl | apply Ext.alloc | apply Ext.drew | (refine Ext.updN ?_ ?_; (focus first | omega | (simp only [szR] <;> omega))) | (refine Ext.updI ?_ ?_; (focus (simp; done))))) hx2 (by simp))
/-- bytes, a cell each. -/
def u8C (x : Int) : List Value := [.int .u8 x]
theorem u8C_all (l : List Int) : ∀ r ∈ l.map u8C, r.all (fun v => v.oneCell') = true := by
  intro r hr
  obtain ⟨l, -, rfl⟩ := List.mem_map.1 hr
  rfl
theorem text_of_rows {P : Program} {s e d : TypeId} (hs : P.underlying s = some (.slice e)) (he : P.underlying e = some (.int .u8)) (hd : P.underlying d = some .string) {w : World} {v : Value} {xs : List Int} (h : RowsAt w v 1 (xs.map u8C)) (h0 : xs ≠ []) :
    (convert s d v).run P w = .ok (.string (strOfNums xs)) w := by
  obtain ⟨a, cap, rfl, hc, hr⟩ := h
  rcases hr with hr | ⟨b, o, l, E, f, rfl, hb, hfit, hsub⟩
  · exact absurd (by simpa using hr) h0
  · refine run_convert_bytes_arg w s e hs he b o _ cap xs (by simp) (fun i hi => ?_) d hd
    simp only [List.length_map] at hi
    have h1 := hsub i (u8C xs[i]) (by simp [hi])
    rw [cell_of_block hb]
    have h2 : (Go.Fx.sub l (o + i * 1) 1)[0]? = some (.int .u8 xs[i]) := by rw [h1]; rfl
    unfold Go.Fx.sub at h2
    rw [List.getElem?_take_of_lt (by omega), List.getElem?_drop] at h2
    rw [Nat.mul_one, Nat.add_zero] at h2
    rw [h2]
    simp [hi]
theorem app31d {base : Nat} {v x : Value} {rows rows2 : List (List Value)} {w : World} {K : Value → World → Prop} (hown : OwnR w base 5 1 v rows) (hx : RowsAt w x 1 rows2) (h1 : ∀ r ∈ rows2, r.all (fun v => v.oneCell') = true)
    (hl : rows.length + rows2.length ≤ 1000000) (hbase : base ≤ w.heap.size) (hK : ∀ v' w', OwnR w' base 5 1 v' (rows ++ rows2) → App base v w w' → K v' w') : resV K ((Builtin.append_ #[60, 60] 60 #[v, x]).run Try.prog w) :=
  kV_appR Try.underlying60 (by kernel_rfl) (by omega) (bytes := 1) hown hx h1 (by simp only [maxLen]; omega) (by omega) hbase hK
theorem digs_spec {w : World} {b N : Nat} (hb : b = 10 ∨ b = 16) (hN : N < 18446744073709551616) {K : Value → World → Prop} (hK : ∀ w', Ext [] w w' → K (.string (strOfNums (digs b N))) w') : callsK Try.prog 36 #[.int .u64 N, .int .u64 b] w K := by
  apply F36_ok
  unfold F36
  refine loopT.intro (fun st w' => ∃ (v : Value) (m : Nat) (z : Int) (acc : List Int), st = [v, .int .u64 z] ∧ z = m ∧ m ≤ N ∧ RowsAt w' v 1 (acc.map u8C) ∧ digs b N = digs b m ++ acc ∧ Ext [] w w')
    (fun st _ => match st with
      | [_, .int _ z] => z.toNat
      | _ => 0) ⟨_, N, N, [], rfl, rfl, Nat.le_refl _, OwnR.nil.rows (base := 0) (e := 5), by simp, Ext.refl⟩ ?_
  rintro st w' ⟨v, m, z, acc, rfl, rfl, hm, hrows, hdec, hx⟩ _
  have hd : ((m : Int) % (b : Int)) = ((m % b : Nat) : Int) := by simp
  have hdl : m % b < 16 := by rcases hb with rfl | rfl <;> omega
  have hs : (⟨#[48, 49, 50, 51, 52, 53, 54, 55, 56, 57, 97, 98, 99, 100, 101, 102]⟩ : ByteArray) = sgn := rfl
  have hix := sgn_ix hdl
  have hb0 : (b : Int) ≠ 0 := by omega
  obtain ⟨q, hqd⟩ : ∃ q, q = m / b := ⟨_, rfl⟩
  have hq : (m : Int) / (b : Int) = (q : Int) := by rw [hqd]; simp
  have hqle : q ≤ m := by rw [hqd]; exact Nat.div_le_self m b
  have hlen := congrArg List.length hdec
  have hle := digs_le (b := b) hb hN
  simp only [List.length_append] at hlen
  have hx1 : Ext [] w' (w'.alloc (.cells [.int .u8 (dg (m % b))].toArray 5)) := by (repeat first | assumption | exact Ext.refl | apply Ext.alloc | apply Ext.drew | (refine Ext.updN ?_ ?_; (focus first | omega | (simp only [szR] <;> omega))) | (refine Ext.updI ?_ ?_; (focus (simp; done))))
  simp (disch := first | assumption | omega | (simp only [szR] <;> omega) | rfl | decide) only [gen0, gen1, gen2, rulesC, litR, bolR, Nat.reduceAdd, Nat.reduceLeDiff, numR, memR, valR, heapR, updR, intR, decR, extR, slR, segR, thenR, pnR, Int.reduceToNat, Int.reduceAdd, Int.reduceSub, Int.reduceLT, Int.reduceLE, Nat.reduceSub, Nat.reduceMul, Nat.reduceEqDiff, hd, hs, hix, hq]
  refine app31d (rows := [u8C (dg (m % b))]) (base := w'.heap.size) (OwnR.fresh rfl rfl (Nat.le_refl _)) (hrows.ext hx1 (by simp)) (u8C_all acc) (by simp; omega) hx1.size fun v10 w2 ho ha => ?_
  have hx2 := ha.ext w' [] (Nat.le_refl _) hx1
  have hr2 : RowsAt w2 v10 1 ((dg (m % b) :: acc).map u8C) := ho.rows
  have hxw := hx.trans hx2 (by simp)
  by_cases h10 : m < b
  · have htxt := text_of_rows (P := Try.prog) Try.underlying60 Try.underlying5 Try.underlying9 hr2 (by simp)
    have hz : q = 0 := by rw [hqd]; exact Nat.div_eq_of_lt h10
    subst hz
    simp (disch := first | assumption | omega | (simp only [szR] <;> omega) | rfl | decide) only [gen0, gen1, gen2, rulesC, litR, bolR, Nat.reduceAdd, Nat.reduceLeDiff, numR, memR, valR, heapR, updR, intR, decR, extR, slR, segR, thenR, pnR, Int.reduceToNat, Int.reduceAdd, Int.reduceSub, Int.reduceLT, Int.reduceLE, Nat.reduceSub, Nat.reduceMul, Nat.reduceEqDiff, hq, htxt]
    rw [digs_small h10] at hdec
    have e : digs b N = dg (m % b) :: acc := by rw [hdec, Nat.mod_eq_of_lt h10]; rfl
    rw [← e]
    exact hK _ hxw
  · have hz : 0 < q := by rw [hqd]; exact Nat.div_pos (show b ≤ m by omega) (by omega)
    have hlt : q < m := by rw [hqd]; exact Nat.div_lt_self (by omega) (by omega)
    simp (disch := first | assumption | omega | (simp only [szR] <;> omega) | rfl | decide) only [gen0, gen1, gen2, rulesC, litR, bolR, Nat.reduceAdd, Nat.reduceLeDiff, numR, memR, valR, heapR, updR, intR, decR, extR, slR, segR, thenR, pnR, Int.reduceToNat, Int.reduceAdd, Int.reduceSub, Int.reduceLT, Int.reduceLE, Nat.reduceSub, Nat.reduceMul, Nat.reduceEqDiff, hq]
    refine ⟨⟨v10, q, _, dg (m % b) :: acc, rfl, rfl, by omega, hr2, ?_, hxw⟩, by omega⟩
    rw [hdec, digs_big h10 (by omega), hqd]
    simp
end Go.Proofs.Ytgnibcaflidjmaa
