/- The words of jumps, and a step of each; conditions: those of each theorem. -/
import Derived.Test.YtplfniijbeinmaaGreatJmp2
import Derived.Test.YtplfniijbeinmaaGreatDecJ
namespace Go.Proofs.YtplfniijbeinmaaGreat
open Go.Fx
set_option maxRecDepth 100000
set_option linter.unusedSimpArgs false
set_option linter.unusedVariables false
def jalW (l a : Nat) : Nat := 111 + l * 128 + a * 4194304
def retW (l x : Nat) : Nat := 2663 + l * 32768 + x * 1048576
def jalOk (W l a : Nat) : Bool := decide (W < 4294967296) && (List.range 2).all (fun j => decide (W &&& fixM (row j) ≠ fixW (row j))) && decide (W &&& fixM (row 2) = fixW (row 2)) && decide (W / 2 ^ 7 % 2 ^ 5 = l) && decide (pcsJ.foldl (pcN W) 0 = 4 * a) && decide ((pcsJ.take 1).foldl (pcN W) 0 < 2 ^ 11) && decide ((pcsJ.take 2).foldl (pcN W) 0 < 2 ^ 1) && decide ((pcsJ.take 3).foldl (pcN W) 0 < 2 ^ 20)
theorem jal_all : (List.range 16).all (fun l => (List.range 8).all fun a => jalOk (jalW (l + 1) (a + 2)) (l + 1) (a + 2)) = true := by kernel_rfl
def retOk (W l x : Nat) : Bool := decide (W < 4294967296) && (List.range 3).all (fun j => decide (W &&& fixM (row j) ≠ fixW (row j))) && decide (W &&& fixM (row 3) = fixW (row 3)) && decide (W / 2 ^ 7 % 2 ^ 5 = 20) && decide (W / 2 ^ 15 % 2 ^ 5 = l) && decide ((pcsOf 73).foldl (pcN W) 0 = x)
theorem ret_all : (List.range 16).all (fun l => (List.range 257).all fun x => retOk (retW (l + 1) x) (l + 1) x) = true := by kernel_rfl
theorem row2_s : (row 2).s = 74 := by kernel_rfl
theorem row3_s : (row 3).s = 73 := by kernel_rfl
theorem dec_jal {l a : Nat} (hl : 1 ≤ l ∧ l ≤ 16) (ha : 2 ≤ a ∧ a ≤ 9) : ∀ (w : World) (K : Value → World → Prop), (∀ w', Ext [] w w' → K (.tuple #[.agg (inC ⟨3, l, 0, 0, 4 * a⟩).toArray, .bool true]) w') → callsK Tryz.prog 31 #[.int .u32 (jalW l a : Nat)] w K := fun w K hK => by
  have h := List.all_eq_true.1 (List.all_eq_true.1 jal_all (l - 1) (List.mem_range.2 (by omega))) (a - 2) (List.mem_range.2 (by omega))
  rw [show l - 1 + 1 = l by omega, show a - 2 + 2 = a by omega] at h
  unfold jalOk at h
  simp only [Bool.and_eq_true, decide_eq_true_eq] at h
  obtain ⟨⟨⟨⟨⟨⟨⟨h1, h2⟩, h3⟩, h4⟩, h5⟩, h6⟩, h7⟩, h8⟩ := h
  generalize jalW l a = W at *
  refine jDecode_spec (k := 2) h1 (by omega) (fun j hj => of_decide_eq_true (List.all_eq_true.1 h2 j (List.mem_range.2 hj))) h3 row2_s (fun i p hp => ?_) (by rw [h5, show (2 : Nat) ^ 20 = 1048576 by decide]; omega) (by rw [h4, h5]; exact hK)
  match i, hp with
  | 0, hp => exact Nat.two_pow_pos _
  | 1, hp => obtain rfl : (11, 1, 20) = p := by simpa [pcsJ] using hp
             exact h6
  | 2, hp => obtain rfl : (1, 10, 21) = p := by simpa [pcsJ] using hp
             exact h7
  | 3, hp => obtain rfl : (20, 1, 31) = p := by simpa [pcsJ] using hp
             exact h8
  | i + 4, hp => simp [pcsJ] at hp
theorem dec_ret {l x : Nat} (hl : 1 ≤ l ∧ l ≤ 16) (hx : x ≤ 256) : ∀ (w : World) (K : Value → World → Prop), (∀ w', Ext [] w w' → K (.tuple #[.agg (inC ⟨4, 20, l, 0, x⟩).toArray, .bool true]) w') → callsK Tryz.prog 31 #[.int .u32 (retW l x : Nat)] w K := fun w K hK => by
  have h := List.all_eq_true.1 (List.all_eq_true.1 ret_all (l - 1) (List.mem_range.2 (by omega))) x (List.mem_range.2 (by omega))
  rw [show l - 1 + 1 = l by omega] at h
  unfold retOk at h
  simp only [Bool.and_eq_true, decide_eq_true_eq] at h
  obtain ⟨⟨⟨⟨⟨h1, h2⟩, h3⟩, h4⟩, h5⟩, h6⟩ := h
  generalize retW l x = W at *
  refine iDecode_spec (k := 3) h1 (by omega) (fun j hj => of_decide_eq_true (List.all_eq_true.1 h2 j (List.mem_range.2 hj))) h3 (.inl row3_s) (by rw [row3_s, h6, show (2 : Nat) ^ 11 = 2048 by decide]; omega) ?_
  have e : ofW W 3 (row 3).s = ⟨4, 20, l, 0, x⟩ := by
    rw [row3_s]
    unfold ofW
    rw [h4, h5, h6]
    rfl
  rw [e]
  exact hK
/-- a step where the program's words are. -/
theorem Step_pj {w : World} {rb pb a W k e va : Nat} {c d : Nat → Cq} {i : In} {m g : Nat → Int} (hM : Mem w rb pb 3 m g) (hc : c 32 = ⟨true, pjM, a⟩) (ha : a + 4 ≤ 160) (hal : a % 4 = 0) (hW : leN m a 4 = W)
    (h1 : i.r1 < 9223372036854775808) (h2 : i.r2 < 9223372036854775808)
    (hD : ∀ (w : World) (K : Value → World → Prop), (∀ w', Ext [] w w' → K (.tuple #[.agg (inC i).toArray, .bool true]) w') → callsK Tryz.prog 31 #[.int .u32 (W : Nat)] w K)
    (hrun : ∀ (q : Nat) (w1 : World) (K : Value → World → Prop), w1.heap[q]? = some (.cells (rnC ⟨setX c 32 ⟨true, pjM, a + 4⟩, c, flV rb, flV_one rb, i, regX c i.r1, regX c i.r2⟩).toArray 91 (0, 0)) → (∀ w2, Ext [q] w1 w2 → K (.tuple #[.agg (cxC d).toArray, .agg (ouC k e va i).toArray]) w2) → callsK Tryz.prog 32 #[.pointer (some ⟨q, 0, none⟩)] w1 K)
    {K : Value → World → Prop} (hK : ∀ w', Mem w' rb pb 3 m g → Ext [pb] w w' → K (.tuple #[.agg (cxC d).toArray, .agg (ouC k e va i).toArray]) w') :
    callsK Tryz.prog 10 #[.agg (cxC c).toArray, flV rb] w K := by
  have hm : (c 32).m = pjM := by rw [hc]
  have haa : (c 32).a = a := by rw [hc]
  have ht : (c 32).t = true := by rw [hc]
  have hl := pj_lim (a := a) (by omega)
  refine Step_spec (n := 3) (Q := fun g' => g' = g) (m' := m) hM (by omega) (by rw [hm]; decide) (by rw [haa]; omega) (by rw [hm, haa]; exact hl.1) (by rw [hm, haa]; exact hl.2) (by rw [ht, hm, haa]; exact pj_chk ha) (by rw [haa]; exact hal) (by rw [haa]; exact hW) h1 h2 hD (fun q w1 K hq hM1 hK1 => ?_) (fun g' w' hg hM' hx => by subst hg; exact hK w' hM' hx)
  rw [pj_next hc (by omega)] at hq
  exact hrun q w1 K hq fun w2 hx => hK1 g w2 rfl (hM1.run hq hx) (hx.mono (by simp))
theorem jal_step {w : World} {rb pb l a : Nat} {c : Nat → Cq} {m g : Nat → Int} (hM : Mem w rb pb 3 m g) (hc : c 32 = ⟨true, pjM, 0⟩) (hl : 1 ≤ l ∧ l ≤ 16) (ha : 2 ≤ a ∧ a ≤ 9) (hW : leN m 0 4 = jalW l a)
    {K : Value → World → Prop} (hK : ∀ w', Mem w' rb pb 3 m g → Ext [pb] w w' → K (.tuple #[.agg (cxC (withX (setX c 32 ⟨true, pjM, 4 * a⟩) l ⟨true, seM, 4⟩)).toArray, .agg (ouC 0 0 0 ⟨3, l, 0, 0, 4 * a⟩).toArray]) w') : callsK Tryz.prog 10 #[.agg (cxC c).toArray, flV rb] w K := by
  refine Step_pj (a := 0) (i := ⟨3, l, 0, 0, 4 * a⟩) (d := withX (setX c 32 ⟨true, pjM, 4 * a⟩) l ⟨true, seM, 4⟩) (k := 0) (e := 0) (va := 0) hM hc (by omega) (by omega) hW (by show (0 : Nat) < _; decide) (by show (0 : Nat) < _; decide) (dec_jal hl ha) (fun q w1 K hq hK1 => ?_) hK
  refine runJal_spec (a := 0) (b := 4 * a) hq rfl hc (by omega) (by show 4 * a < _; omega) (by show 0 + 4 * a = _; omega) (by omega) (by show l < _; omega) fun w2 hx => ?_
  have e : setX (setX c 32 ⟨true, pjM, 0 + 4⟩) 32 ⟨true, pjM, 4 * a⟩ = setX c 32 ⟨true, pjM, 4 * a⟩ := by
    funext j
    unfold setX
    split <;> rfl
  rw [e]
  exact hK1 w2 hx
theorem ret_step {w : World} {rb pb l a b : Nat} {c : Nat → Cq} {m g : Nat → Int} (hM : Mem w rb pb 3 m g) (hc : c 32 = ⟨true, pjM, b⟩) (hb : b + 4 ≤ 160) (hb4 : b % 4 = 0) (hl : 1 ≤ l ∧ l ≤ 16) (hr : regX c l = ⟨true, seM, a⟩) (ha : a ≤ 160) (hev : a % 2 = 0) (hW : leN m b 4 = retW l 0)
    {K : Value → World → Prop} (hK : ∀ w', Mem w' rb pb 3 m g → Ext [pb] w w' → K (.tuple #[.agg (cxC (withX (setX c 32 ⟨true, pjM, a⟩) 20 ⟨true, seM, b + 4⟩)).toArray, .agg (ouC 0 0 0 ⟨4, 20, l, 0, 0⟩).toArray]) w') : callsK Tryz.prog 10 #[.agg (cxC c).toArray, flV rb] w K := by
  refine Step_pj (a := b) (i := ⟨4, 20, l, 0, 0⟩) (d := withX (setX c 32 ⟨true, pjM, a⟩) 20 ⟨true, seM, b + 4⟩) (k := 0) (e := 0) (va := 0) hM hc hb hb4 hW (by show l < _; omega) (by show (0 : Nat) < _; decide) (dec_ret hl (by omega)) (fun q w1 K hq hK1 => ?_) hK
  have l1 := lt_of_at hq
  refine runJalr_spec (S := [q]) hq rfl (by simp; omega) (fun w3 K hx3 hK3 => ?_) (fun w3 hx3 => hK1 w3 hx3)
  refine jump_spec (a := a) (b := b) (hx3.at hq (by simp)) hr ha hev rfl hc hb (by show (20 : Nat) < _; decide) fun w4 hx4 => ?_
  have e : setX (setX c 32 ⟨true, pjM, b + 4⟩) 32 ⟨true, pjM, a⟩ = setX c 32 ⟨true, pjM, a⟩ := by
    funext j
    unfold setX
    split <;> rfl
  rw [e]
  exact hK3 w4 hx4
theorem far_step {w : World} {rb pb l a b x : Nat} {c : Nat → Cq} {m g : Nat → Int} (hM : Mem w rb pb 3 m g) (hc : c 32 = ⟨true, pjM, b⟩) (hb : b + 4 ≤ 160) (hb4 : b % 4 = 0) (hl : 1 ≤ l ∧ l ≤ 16) (hr : regX c l = ⟨true, seM, a⟩) (ha : a ≤ 160) (hx : x ≤ 256) (hx0 : x ≠ 0) (hW : leN m b 4 = retW l x)
    {K : Value → World → Prop} (hK : ∀ w', Mem w' rb pb 3 m g → Ext [pb] w w' → K (.tuple #[.agg (cxC c).toArray, .agg (ouC 5 2 a ⟨4, 20, l, 0, x⟩).toArray]) w') : callsK Tryz.prog 10 #[.agg (cxC c).toArray, flV rb] w K := by
  refine Step_pj (a := b) (i := ⟨4, 20, l, 0, x⟩) (d := c) (k := 5) (e := 2) (va := a) hM hc hb hb4 hW (by show l < _; omega) (by show (0 : Nat) < _; decide) (dec_ret hl hx) (fun q w1 K hq hK1 => ?_) hK
  refine runJalr_spec (S := []) hq rfl (by simp) (fun w3 K hx3 hK3 => ?_) (fun w3 hx3 => hK1 w3 (hx3.mono (by simp)))
  exact jumpTrap_spec (a := a) (hx3.at hq (by simp)) hr ha hx0 (by show x < _; omega) fun w4 hx4 => hK3 w4 hx4
end Go.Proofs.YtplfniijbeinmaaGreat
