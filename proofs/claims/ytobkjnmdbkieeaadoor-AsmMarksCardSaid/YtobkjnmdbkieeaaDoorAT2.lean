/- What is told of an instruction is parsed as it; conditions: those of each theorem. -/
import Derived.Test.YtobkjnmdbkieeaaDoorAT1
namespace Go.Proofs.YtobkjnmdbkieeaaDoor
open Go.Fx
set_option maxRecDepth 100000
set_option linter.unusedSimpArgs false
set_option linter.unusedVariables false
def agreeI (i x : IZ) : Prop := x.op = i.op ∧ ((hasS (rowZ i.op).s).1 = true → x.rd = i.rd) ∧ ((hasS (rowZ i.op).s).2.1 = true → x.r1 = i.r1) ∧ ((hasS (rowZ i.op).s).2.2 = true → x.r2 = i.r2) ∧ ((laidS (rowZ i.op).s).1 ≠ [] → x.im = i.im)
theorem okTr_eq {t : Bool} {a : Nat} {r r' : Int} (h : t = true → r' = r) : okTr (t, a, r') = okTr (t, a, r) := by
  cases t with
  | false => rfl
  | true => rw [h rfl]
theorem stepR_eq {t : Bool} {a W : Nat} {r r' : Int} (h : t = true → r' = r) : stepR W (t, a, r') = stepR W (t, a, r) := by
  cases t with
  | false => rfl
  | true => rw [h rfl]
theorem agree_enc {i x : IZ} (h : agreeI i x) : encOk x = encOk i ∧ encR x = encR i := by
  obtain ⟨h0, h1, h2, h3, h4⟩ := h
  have e1 := okTr_eq (a := 7) h1
  have e2 := okTr_eq (a := 15) h2
  have e3 := okTr_eq (a := 20) h3
  have f1 := fun W => stepR_eq (a := 7) (W := W) h1
  have f2 := fun W => stepR_eq (a := 15) (W := W) h2
  have f3 := fun W => stepR_eq (a := 20) (W := W) h3
  have hR : (regsI x).all okTr = (regsI i).all okTr := by
    unfold regsI
    rw [h0]
    simp only [List.all_cons, e1, e2, e3]
  have hF : fitsL (laidS (rowZ i.op).s).1.length (laidS (rowZ i.op).s).2.1 (laidS (rowZ i.op).s).2.2.1 (laidS (rowZ i.op).s).2.2.2 x.im = fitsL (laidS (rowZ i.op).s).1.length (laidS (rowZ i.op).s).2.1 (laidS (rowZ i.op).s).2.2.1 (laidS (rowZ i.op).s).2.2.2 i.im := by
    by_cases h : (laidS (rowZ i.op).s).1 = []
    · rw [h]
      rfl
    · rw [h4 h]
  have hL : ∀ W, (laidS (rowZ i.op).s).1.foldl (layB x.im) W = (laidS (rowZ i.op).s).1.foldl (layB i.im) W := by
    intro W
    by_cases h : (laidS (rowZ i.op).s).1 = []
    · rw [h]
      rfl
    · rw [h4 h]
  have hok : encOk x = encOk i := by
    unfold encOk
    rw [hR, h0]
    dsimp only
    rw [hF]
  have hW : encW x = encW i := by
    unfold encW regsI
    rw [h0]
    dsimp only
    rw [hL]
    simp only [List.foldl_cons, List.foldl_nil, f1, f2, f3]
  refine ⟨hok, ?_⟩
  unfold encR
  rw [hok, hW]
def letB (b : UInt8) : Bool := decide (97 ≤ b.toNat ∧ b.toNat ≤ 122)
theorem names_ok : (List.range 69).all (fun k => decide (findN (row k).n 69 0 = k + 1) && decide ((row k).n ≠ []) && (row k).n.all letB && decide ((row k).n ≠ [110, 111, 112]) && decide ((row k).n ≠ [114, 101, 116]) && decide ((row k).n ≠ [106]) && decide ((row k).n ≠ [109, 118]) && decide ((row k).n ≠ [108, 105])) = true := by kernel_rfl
theorem name_ok {i : IZ} (h : okOp i.op = true) : (findN (nameR i) 69 0 : Int) = i.op ∧ nameR i ≠ [] ∧ (∀ b ∈ nameR i, 97 ≤ b.toNat ∧ b.toNat ≤ 122) ∧ nameR i ≠ [110, 111, 112] ∧ nameR i ≠ [114, 101, 116] ∧ nameR i ≠ [106] ∧ nameR i ≠ [109, 118] ∧ nameR i ≠ [108, 105] := by
  have hr : rowZ i.op = row (i.op - 1).toNat := by rw [rowZ, h]; rfl
  unfold okOp at h
  rw [decide_eq_true_eq] at h
  have := List.all_eq_true.1 names_ok (i.op - 1).toNat (List.mem_range.2 (by omega))
  simp only [Bool.and_eq_true, decide_eq_true_eq] at this
  obtain ⟨⟨⟨⟨⟨⟨⟨h1, h2⟩, h3⟩, h4⟩, h5⟩, h6⟩, h7⟩, h8⟩ := this
  unfold nameR
  rw [hr]
  refine ⟨by rw [h1]; omega, h2, fun b hb => ?_, h4, h5, h6, h7, h8⟩
  exact of_decide_eq_true (List.all_eq_true.1 h3 b hb)
theorem reg_dec {n : Int} (h : 0 ≤ n ∧ n < 32) : regN (99 :: dec n) = n ∧ regOK (99 :: dec n) = true := by
  have ht : Lib.trimPrefix (99 :: dec n) [99] = dec n := rfl
  have hp : Lib.hasPrefix (99 :: dec n) [99] = true := rfl
  have hn := number_dec (n := n) (by omega)
  unfold regN regOK
  rw [ht, hp, hn]
  refine ⟨rfl, ?_⟩
  simp
  omega
theorem order_has (s : Nat) (h : shOk s) : ((hasS s).1 = true ↔ (100 : UInt8) ∈ orderS s) ∧ ((hasS s).2.1 = true ↔ (97 : UInt8) ∈ orderS s) ∧ ((hasS s).2.2 = true ↔ (98 : UInt8) ∈ orderS s) ∧ ((laidS s).1 ≠ [] ↔ (109 : UInt8) ∈ orderS s) ∧ (∀ b ∈ orderS s, b = 100 ∨ b = 97 ∨ b = 98 ∨ b = 109) ∧ (orderS s).Nodup := by
  rcases h with rfl | rfl | rfl | rfl | rfl | rfl | rfl | rfl | rfl | rfl | rfl <;> decide
theorem fold_back {i : IZ} : ∀ (o : List UInt8) (p : IZ), o.Nodup → (∀ b ∈ o, b = 100 ∨ b = 97 ∨ b = 98 ∨ b = 109) → (100 ∈ o → 0 ≤ i.rd ∧ i.rd < 32) → (97 ∈ o → 0 ≤ i.r1 ∧ i.r1 < 32) → (98 ∈ o → 0 ≤ i.r2 ∧ i.r2 < 32) → (109 ∈ o → -10000000000 < i.im ∧ i.im < 10000000000) →
    ∃ x : IZ, (o.zip (o.map (partF i))).foldl stepP (p, true) = (x, true) ∧ x.op = p.op ∧ (100 ∈ o → x.rd = i.rd) ∧ (97 ∈ o → x.r1 = i.r1) ∧ (98 ∈ o → x.r2 = i.r2) ∧ (109 ∈ o → x.im = i.im) ∧ (100 ∉ o → x.rd = p.rd) ∧ (97 ∉ o → x.r1 = p.r1) ∧ (98 ∉ o → x.r2 = p.r2) ∧ (109 ∉ o → x.im = p.im)
  | [], p, _, _, _, _, _, _ => ⟨p, rfl, rfl, by simp, by simp, by simp, by simp, by simp, by simp, by simp, by simp⟩
  | b :: o, p, hnd, hb, h1, h2, h3, h4 => by
    rw [List.nodup_cons] at hnd
    have hb0 := hb b (by simp)
    have key : ∀ p' : IZ, stepP (p, true) (b, partF i b) = (p', true) → ∃ x : IZ, ((b :: o).zip ((b :: o).map (partF i))).foldl stepP (p, true) = (x, true) ∧ x.op = p'.op ∧ (100 ∈ o → x.rd = i.rd) ∧ (97 ∈ o → x.r1 = i.r1) ∧ (98 ∈ o → x.r2 = i.r2) ∧ (109 ∈ o → x.im = i.im) ∧ (100 ∉ o → x.rd = p'.rd) ∧ (97 ∉ o → x.r1 = p'.r1) ∧ (98 ∉ o → x.r2 = p'.r2) ∧ (109 ∉ o → x.im = p'.im) := by
      intro p' he
      obtain ⟨x, hx⟩ := fold_back o p' hnd.2 (fun c hc => hb c (by simp [hc])) (fun h => h1 (by simp [h])) (fun h => h2 (by simp [h])) (fun h => h3 (by simp [h])) (fun h => h4 (by simp [h]))
      refine ⟨x, ?_, hx.2⟩
      rw [List.map_cons, List.zip_cons_cons, List.foldl_cons, he]
      exact hx.1
    rcases hb0 with rfl | rfl | rfl | rfl
    · obtain ⟨e1, e2⟩ := reg_dec (h1 (by simp))
      have hp : partF i 100 = 99 :: dec i.rd := rfl
      obtain ⟨x, q0, q1, q2, q3, q4, q5, q6, q7, q8, q9⟩ := key { p with rd := i.rd } (by rw [hp]; show ({ p with rd := regN (99 :: dec i.rd) }, true && regOK (99 :: dec i.rd)) = _; rw [e1, e2]; rfl)
      refine ⟨x, q0, q1, fun _ => q6 hnd.1, ?_, ?_, ?_, fun h => absurd (by simp) h, ?_, ?_, ?_⟩
      · intro h; simp at h; exact q3 h
      · intro h; simp at h; exact q4 h
      · intro h; simp at h; exact q5 h
      · intro h; simp at h; exact q7 h
      · intro h; simp at h; exact q8 h
      · intro h; simp at h; exact q9 h
    · obtain ⟨e1, e2⟩ := reg_dec (h2 (by simp))
      have hp : partF i 97 = 99 :: dec i.r1 := rfl
      obtain ⟨x, q0, q1, q2, q3, q4, q5, q6, q7, q8, q9⟩ := key { p with r1 := i.r1 } (by rw [hp]; show ({ p with r1 := regN (99 :: dec i.r1) }, true && regOK (99 :: dec i.r1)) = _; rw [e1, e2]; rfl)
      refine ⟨x, q0, q1, ?_, fun _ => q7 hnd.1, ?_, ?_, ?_, fun h => absurd (by simp) h, ?_, ?_⟩
      · intro h; simp at h; exact q2 h
      · intro h; simp at h; exact q4 h
      · intro h; simp at h; exact q5 h
      · intro h; simp at h; exact q6 h
      · intro h; simp at h; exact q8 h
      · intro h; simp at h; exact q9 h
    · obtain ⟨e1, e2⟩ := reg_dec (h3 (by simp))
      have hp : partF i 98 = 99 :: dec i.r2 := rfl
      obtain ⟨x, q0, q1, q2, q3, q4, q5, q6, q7, q8, q9⟩ := key { p with r2 := i.r2 } (by rw [hp]; show ({ p with r2 := regN (99 :: dec i.r2) }, true && regOK (99 :: dec i.r2)) = _; rw [e1, e2]; rfl)
      refine ⟨x, q0, q1, ?_, ?_, fun _ => q8 hnd.1, ?_, ?_, ?_, fun h => absurd (by simp) h, ?_⟩
      · intro h; simp at h; exact q2 h
      · intro h; simp at h; exact q3 h
      · intro h; simp at h; exact q5 h
      · intro h; simp at h; exact q6 h
      · intro h; simp at h; exact q7 h
      · intro h; simp at h; exact q9 h
    · have e := number_dec (h4 (by simp))
      have hp : partF i 109 = dec i.im := rfl
      obtain ⟨x, q0, q1, q2, q3, q4, q5, q6, q7, q8, q9⟩ := key { p with im := i.im } (by rw [hp]; show ({ p with im := (numberF (dec i.im)).1 }, true && (numberF (dec i.im)).2) = _; rw [e]; rfl)
      refine ⟨x, q0, q1, ?_, ?_, ?_, fun _ => q9 hnd.1, ?_, ?_, ?_, fun h => absurd (by simp) h⟩
      · intro h; simp at h; exact q2 h
      · intro h; simp at h; exact q3 h
      · intro h; simp at h; exact q4 h
      · intro h; simp at h; exact q6 h
      · intro h; simp at h; exact q7 h
      · intro h; simp at h; exact q8 h
end Go.Proofs.YtobkjnmdbkieeaaDoor
