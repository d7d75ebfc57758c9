/- The words of jumps, as they are made; conditions: those of each theorem. -/
import Derived.Test.YtplfniijbeinmaaGreatEnc3
namespace Go.Proofs.YtplfniijbeinmaaGreat
open Go.Fx
set_option maxRecDepth 100000
set_option linter.unusedSimpArgs false
set_option linter.unusedVariables false
theorem row2_w : fixW (row 2) = 111 := by kernel_rfl
theorem row3_w : fixW (row 3) = 103 := by kernel_rfl
def encJ (a : Nat) : Bool := decide (pcsJ.foldl (layN (4 * a)) 111 = 111 + a * 4194304) && (List.range 4).all (fun k => decide ((pcsJ.take k).foldl (layN (4 * a)) 111 < 18446744073709551616 ∧ (pcsJ.take k).foldl (layN (4 * a)) 111 / 2 ^ ((pcsJ.getD k (0, 0, 0)).2.2) % 2 ^ ((pcsJ.getD k (0, 0, 0)).2.1) = 0)) && decide (bitI .and .u64 ((4 * a : Nat) : Int) 1 = 0)
theorem encJ_all : (List.range 8).all (fun a => encJ (a + 2)) = true := by kernel_rfl
theorem slice_of {w : World} {v : Value} {ps : List (Nat × Nat × Nat)} (hv : RowsAt w v 3 (ps.map pcC)) : ∃ a c, v = .slice a ps.length c := by
  obtain ⟨a, c, rfl⟩ := hv.len
  exact ⟨a, c, by rw [List.length_map]⟩
theorem layN_eq (x W a b c : Nat) : layN x W (a, b, c) = W + x / 2 ^ a % 2 ^ b * 2 ^ c := rfl
theorem fold_one (x W : Nat) (p : Nat × Nat × Nat) : [p].foldl (layN x) W = layN x W p := rfl
theorem putR_f (W a r : Nat) : putR false W a r = W := rfl
theorem putR_t (W a r : Nat) : putR true W a r = W + r % 2 ^ 5 * 2 ^ a := rfl
theorem enc_jal {w : World} {l a : Nat} (hl : 1 ≤ l ∧ l ≤ 16) (ha : 2 ≤ a ∧ a ≤ 9) {K : Value → World → Prop} (hK : ∀ w', Ext [] w w' → K (.tuple #[.int .u32 (jalW l a : Nat), .bool true]) w') : callsK Tryz.prog 14 #[.agg (inC ⟨3, l, 0, 0, 4 * a⟩).toArray] w K := by
  have h := List.all_eq_true.1 encJ_all (a - 2) (List.mem_range.2 (by omega))
  rw [show a - 2 + 2 = a by omega] at h
  unfold encJ at h
  simp only [Bool.and_eq_true, decide_eq_true_eq] at h
  obtain ⟨⟨h1, h2⟩, h3⟩ := h
  have hs : (row ((⟨3, l, 0, 0, 4 * a⟩ : In).op - 1)).s = 74 := row2_s
  have e : jalW l a = 111 + l * 128 + a * 4194304 := rfl
  refine enc_spec (i := ⟨3, l, 0, 0, 4 * a⟩) (bits := 21) (z := 1) (ps := pcsJ) (t1 := true) (t2 := false) (t3 := false) (W0 := 111) (W1 := 111 + a * 4194304) (W2 := jalW l a) (W3 := jalW l a) (W4 := jalW l a) (by show 1 ≤ 3 ∧ 3 ≤ 69; omega) (by decide) pcsJ_ok (fun w K hK => ?_) (fun w K hK => ?_) (by omega) (by show 4 * a < 2 ^ 20; rw [show (2 : Nat) ^ 20 = 1048576 by decide]; omega) (.inr rfl) h3 (by show 4 * a < _; omega) row2_w (fun k p hk => ?_) h1 (by show l < 32; omega) (by show 0 < 32; omega) (by show 0 < 32; omega) ?_ ?_ ?_ (putR_f _ _ _) (.inr rfl) (putR_f _ _ _) (by rw [e]; omega) hK
  · rw [hs]
    refine laidJ_spec fun v w' hv _ hx => ?_
    obtain ⟨a, c, rfl⟩ := slice_of hv
    exact hK a c w' hv hx
  · rw [hs]
    exact hasJ_spec hK
  · have hkl : k < 4 := by
      have := (List.getElem?_eq_some_iff.1 hk).1
      exact this
    have := of_decide_eq_true (List.all_eq_true.1 h2 k (List.mem_range.2 hkl))
    rw [List.getD_eq_getElem?_getD, hk] at this
    exact this
  · rw [show (2 : Nat) ^ 7 = 128 by decide, show (2 : Nat) ^ 5 = 32 by decide]
    omega
  · rw [putR_t, e, show (2 : Nat) ^ 7 = 128 by decide, show (2 : Nat) ^ 5 = 32 by decide]
    show 111 + a * 4194304 + l % 32 * 128 = _
    omega
  · rw [e, show (2 : Nat) ^ 15 = 32768 by decide, show (2 : Nat) ^ 5 = 32 by decide]
    omega
theorem enc_ret {w : World} {l x : Nat} (hl : 1 ≤ l ∧ l ≤ 16) (hx : x ≤ 256) {K : Value → World → Prop} (hK : ∀ w', Ext [] w w' → K (.tuple #[.int .u32 (retW l x : Nat), .bool true]) w') : callsK Tryz.prog 14 #[.agg (inC ⟨4, 20, l, 0, x⟩).toArray] w K := by
  have hs : (row ((⟨4, 20, l, 0, x⟩ : In).op - 1)).s = 73 := row3_s
  have e : retW l x = 2663 + l * 32768 + x * 1048576 := rfl
  have p20 : (2 : Nat) ^ 20 = 1048576 := by decide
  have p12 : (2 : Nat) ^ 12 = 4096 := by decide
  have p7 : (2 : Nat) ^ 7 = 128 := by decide
  have p5 : (2 : Nat) ^ 5 = 32 := by decide
  have p15 : (2 : Nat) ^ 15 = 32768 := by decide
  have hpo : ∀ p ∈ [((0 : Nat), (12 : Nat), (20 : Nat))], pcOk p := fun p hp => by
    obtain rfl := List.mem_singleton.1 hp
    exact ⟨by decide, by decide, by decide, by decide⟩
  refine enc_spec (i := ⟨4, 20, l, 0, x⟩) (bits := 12) (z := 0) (ps := [(0, 12, 20)]) (t1 := true) (t2 := true) (t3 := false) (W0 := 103) (W1 := 103 + x * 1048576) (W2 := 2663 + x * 1048576) (W3 := retW l x) (W4 := retW l x) (by show 1 ≤ 4 ∧ 4 ≤ 69; omega) (by decide) hpo (fun w K hK => ?_) (fun w K hK => ?_) (by omega) (by show x < 2 ^ 11; rw [show (2 : Nat) ^ 11 = 2048 by decide]; omega) (.inl rfl) ?_ (by show x < _; omega) row3_w (fun k p hk => ?_) ?_ (by show 20 < 32; omega) (by show l < 32; omega) (by show 0 < 32; omega) ?_ ?_ ?_ ?_ (.inr rfl) (putR_f _ _ _) (by rw [e]; omega) hK
  · rw [hs]
    refine laid_spec (.inl rfl) fun v w' hv _ hx => ?_
    have hv2 : RowsAt w' v 3 ([(0, 12, 20)].map pcC) := hv
    obtain ⟨a, c, rfl⟩ := slice_of hv2
    exact hK a c w' hv2 hx
  · rw [hs]
    exact has_spec (.inl rfl) hK
  · rw [show (((⟨4, 20, l, 0, x⟩ : In).im : Nat) : Int) = ((x : Nat) : Int) from rfl, and_u64 (by omega) (by omega)]
    simp
  · match k, hk with
    | 0, hk =>
      obtain rfl : ((0 : Nat), (12 : Nat), (20 : Nat)) = p := by simpa using hk
      exact ⟨by show 103 < _; decide, by show 103 / 2 ^ 20 % 2 ^ 12 = 0; decide⟩
    | k + 1, hk => simp at hk
  · have hl0 : [((0 : Nat), (12 : Nat), (20 : Nat))].foldl (layN x) 103 = 103 + x * 1048576 := by
      rw [fold_one, layN_eq, p20, p12, Nat.pow_zero, Nat.div_one]
      omega
    exact hl0
  · rw [p7, p5]
    omega
  · rw [putR_t, p7, p5]
    show 103 + x * 1048576 + 20 % 32 * 128 = _
    omega
  · rw [p15, p5]
    omega
  · rw [putR_t, e, p15, p5]
    show 2663 + x * 1048576 + l % 32 * 32768 = _
    omega
end Go.Proofs.YtplfniijbeinmaaGreat
