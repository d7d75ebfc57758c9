/- What tables tell, plain: a tree of tables grows, and its lowest ones are written; conditions: those of each theorem. -/
import Derived.Test.YtfpcflmgipklcaaTab1
namespace Go.Proofs.Ytfpcflmgipklcaa
open Go.Fx
theorem fl_zero (j : Nat) : fl 0 j = false := by simp [fl]
theorem low_new {m : Nat → Int} {k va : Nat} (h0 : ∀ i, i < 512 → ew m k i = 0) : ∀ l, low m va l k = (k, l, decide (l = 0))
  | 0 => rfl
  | l + 1 => by
    rw [low_s m va l k, h0 _ (idx_lt _ _), if_neg (by rw [fl_zero]; simp)]
    simp
theorem low_grow {m m3 : Nat → Int} {n : Nat} {fs : List Nat} {lv : Nat → Nat} {par : Nat → Nat × Nat} (hT : Tree m n fs lv par) {f i k l : Nat} (hf : f ∈ fs) (hlv : lv f = l + 1) (hv : fl (ew m f i) 0 = false) (hk : k ∉ fs) (hkn : k < 17592186044416)
    (hE : ∀ f' i', i' < 512 → ew m3 f' i' = if f' = f ∧ i' = i then wd (bare false) k else if f' = k then 0 else ew m f' i') (va : Nat) : ∀ {L F : Nat}, F ∈ fs → lv F = L → low m3 va L F = if low m va L F = (f, l + 1, false) ∧ idx va (l + 1) = i then (k, l, decide (l = 0)) else low m va L F
  | 0, F, hF, hL => by
    rw [if_neg (by rintro ⟨h1, -⟩; simp [low] at h1)]
    rfl
  | L + 1, F, hF, hL => by
    have hFk : F ≠ k := fun e => hk (e ▸ hF)
    have hfk : ¬ k = f := fun e => hk (e ▸ hf)
    rw [low_s m3 va L F, hE _ _ (idx_lt _ _)]
    by_cases h1 : F = f ∧ idx va (L + 1) = i
    · obtain ⟨rfl, h2⟩ := h1
      have hLl : L = l := by omega
      subst hLl
      have e1 : low m va (L + 1) F = (F, L + 1, false) := by rw [low_s m va L F, h2, if_neg (by rw [hv]; simp)]
      have e2 : (if F = F ∧ idx va (L + 1) = i then wd (bare false) k else if F = k then 0 else ew m F (idx va (L + 1))) = wd (bare false) k := if_pos ⟨rfl, h2⟩
      have e3 : fl (wd (bare false) k) 0 = true := by rw [fl_wd _ _ 0 (by omega)]; rfl
      rw [e1, if_pos (show (F, L + 1, false) = (F, L + 1, false) ∧ idx va (L + 1) = i from ⟨rfl, h2⟩), e2, if_pos e3, fr_wd, Nat.mod_eq_of_lt hkn]
      exact low_new (fun j hj => by rw [hE _ _ hj, if_neg (by rintro ⟨h3, -⟩; exact hfk h3), if_pos rfl]) L
    · rw [if_neg h1, if_neg hFk, low_s m va L F]
      by_cases h2 : fl (ew m F (idx va (L + 1))) 0 = true
      · obtain ⟨h3, h4, -⟩ := hT.ent F hF _ (idx_lt _ _) L hL h2
        rw [if_pos h2, if_pos h2]
        exact low_grow hT hf hlv hv hk hkn hE va h3 h4
      · rw [if_neg h2, if_neg h2, if_neg]
        rintro ⟨h3, h4⟩
        simp only [Prod.mk.injEq, Nat.add_right_cancel_iff, and_true] at h3
        exact h1 ⟨h3.1, by rw [h3.2]; exact h4⟩
theorem Tree.grow {m m3 : Nat → Int} {n : Nat} {fs : List Nat} {lv : Nat → Nat} {par : Nat → Nat × Nat} (hT : Tree m n fs lv par) {f i k l : Nat} (hf : f ∈ fs) (hlv : lv f = l + 1) (hv : fl (ew m f i) 0 = false) (hk : k ∉ fs) (hkn : k < 17592186044416) (hkm : k < n)
    (hE : ∀ f' i', i' < 512 → ew m3 f' i' = if f' = f ∧ i' = i then wd (bare false) k else if f' = k then 0 else ew m f' i') : Tree m3 n (fs ++ [k]) (fun x => if x = k then l else lv x) (fun x => if x = k then (f, i) else par x) := by
  have hne : ∀ F, F ∈ fs → F ≠ k := fun F hF e => hk (e ▸ hF)
  obtain ⟨f0, l0, hfs, hf0⟩ := hT.top
  refine ⟨⟨f0, l0 ++ [k], by rw [hfs]; rfl, by rw [if_neg (hne f0 (by rw [hfs]; simp))]; exact hf0⟩, fun F hF => ?_, ?_, fun F hF j hj L hL hv3 => ?_⟩
  · rcases List.mem_append.1 hF with h | h
    · exact hT.lt F h
    · rw [List.mem_singleton.1 h]
      exact hkm
  · rw [List.nodup_append]
    exact ⟨hT.one, by simp, fun a ha b hb e => hk (by rw [List.mem_singleton.1 hb] at e; rw [← e]; exact ha)⟩
  · rw [hE _ _ hj] at hv3 ⊢
    rcases List.mem_append.1 hF with hF | hF
    · have hFk := hne F hF
      simp only [if_neg hFk] at hL hv3 ⊢
      by_cases h1 : F = f ∧ j = i
      · obtain ⟨rfl, rfl⟩ := h1
        rw [if_pos ⟨rfl, rfl⟩, fr_wd, Nat.mod_eq_of_lt hkn, if_pos rfl, if_pos rfl]
        exact ⟨by simp, by omega, rfl, rfl⟩
      · rw [if_neg h1] at hv3 ⊢
        obtain ⟨h2, h3, h4⟩ := hT.ent F hF j hj L hL hv3
        rw [if_neg (hne _ h2), if_neg (hne _ h2)]
        exact ⟨List.mem_append_left _ h2, h3, h4⟩
    · have hFk := List.mem_singleton.1 hF
      subst hFk
      rw [if_neg (by rintro ⟨h3, -⟩; exact hne f hf h3.symm), if_pos rfl, fl_zero] at hv3
      cases hv3
/-- the word of an address's entry, nought where there is no table for it. -/
def lookW (m : Nat → Int) (root va : Nat) : Nat := if (low m va 2 root).2.2 then ew m (low m va 2 root).1 (idx va 0) else 0
theorem look_grow {m m3 : Nat → Int} {n : Nat} {fs : List Nat} {lv : Nat → Nat} {par : Nat → Nat × Nat} (hT : Tree m n fs lv par) {f i k l : Nat} (hf : f ∈ fs) (hlv : lv f = l + 1) (hv : fl (ew m f i) 0 = false) (hk : k ∉ fs) (hkn : k < 17592186044416)
    (hE : ∀ f' i', i' < 512 → ew m3 f' i' = if f' = f ∧ i' = i then wd (bare false) k else if f' = k then 0 else ew m f' i') (va : Nat) : lookW m3 (fs.headD 0) va = lookW m (fs.headD 0) va := by
  obtain ⟨f0, l0, hfs, hf0⟩ := hT.top
  have hg := low_grow hT hf hlv hv hk hkn hE va (F := f0) (by rw [hfs]; simp) hf0
  have hl := low_at hT (va := va) (f := f0) (by rw [hfs]; simp) hf0
  have hfk : ¬ k = f := fun e => hk (e ▸ hf)
  rw [hfs, List.headD_cons]
  unfold lookW
  rw [hg]
  split
  · rename_i h1
    rw [h1.1]
    by_cases h0 : l = 0
    · subst h0
      rw [if_pos (by rfl), hE _ _ (idx_lt _ _), if_neg (by rintro ⟨h3, -⟩; exact hfk h3), if_pos rfl]
      rfl
    · rw [if_neg (by simp [h0])]
      rfl
  · split
    · rename_i h1 h2
      obtain ⟨h3, h4, h5, h6, h7⟩ := hl
      rw [hE _ _ (idx_lt _ _), if_neg, if_neg]
      · exact fun e => hk (e ▸ h3)
      · rintro ⟨h8, -⟩
        rw [h6, decide_eq_true_eq] at h2
        rw [h8, h2] at h4
        omega
    · rfl
/-- a lowest table written: what is found elsewhere stays. -/
theorem low_put {m m3 : Nat → Int} {n : Nat} {fs : List Nat} {lv : Nat → Nat} {par : Nat → Nat × Nat} (hT : Tree m n fs lv par) {f : Nat} (hlv : lv f = 0) (hE : ∀ f' i', i' < 512 → f' ≠ f → ew m3 f' i' = ew m f' i') (va : Nat) : ∀ {L F : Nat}, F ∈ fs → lv F = L → low m3 va L F = low m va L F
  | 0, F, hF, hL => rfl
  | L + 1, F, hF, hL => by
    have hFf : F ≠ f := fun e => by rw [e] at hL; omega
    rw [low_s m3 va L F, low_s m va L F, hE _ _ (idx_lt _ _) hFf]
    by_cases h2 : fl (ew m F (idx va (L + 1))) 0 = true
    · obtain ⟨h3, h4, -⟩ := hT.ent F hF _ (idx_lt _ _) L hL h2
      rw [if_pos h2, if_pos h2]
      exact low_put hT hlv hE va h3 h4
    · rw [if_neg h2, if_neg h2]
theorem Tree.put {m m3 : Nat → Int} {n : Nat} {fs : List Nat} {lv : Nat → Nat} {par : Nat → Nat × Nat} (hT : Tree m n fs lv par) {f : Nat} (hlv : lv f = 0) (hE : ∀ f' i', i' < 512 → f' ≠ f → ew m3 f' i' = ew m f' i') : Tree m3 n fs lv par :=
  ⟨hT.top, hT.lt, hT.one, fun F hF j hj L hL => by
    rw [hE F j hj fun e => by rw [e] at hL; omega]
    exact hT.ent F hF j hj L hL⟩
theorem low_inj {m : Nat → Int} {n : Nat} {fs : List Nat} {lv : Nat → Nat} {par : Nat → Nat × Nat} (hT : Tree m n fs lv par) {f va va' : Nat} : ∀ {L F F' : Nat}, F ∈ fs → F' ∈ fs → lv F = L → lv F' = L → low m va L F = (f, 0, true) → low m va' L F' = (f, 0, true) → F = F' ∧ ∀ j, 1 ≤ j → j ≤ L → idx va j = idx va' j
  | 0, F, F', hF, hF', hL, hL', h1, h2 => by
    simp only [low, Prod.mk.injEq, and_true] at h1 h2
    exact ⟨h1.trans h2.symm, fun j _ _ => by omega⟩
  | L + 1, F, F', hF, hF', hL, hL', h1, h2 => by
    rw [low_s m _ L F] at h1
    rw [low_s m _ L F'] at h2
    by_cases hv : fl (ew m F (idx va (L + 1))) 0 = true
    case neg => rw [if_neg hv] at h1; simp at h1
    by_cases hv' : fl (ew m F' (idx va' (L + 1))) 0 = true
    case neg => rw [if_neg hv'] at h2; simp at h2
    rw [if_pos hv] at h1
    rw [if_pos hv'] at h2
    obtain ⟨a1, a2, a3⟩ := hT.ent F hF _ (idx_lt _ _) L hL hv
    obtain ⟨b1, b2, b3⟩ := hT.ent F' hF' _ (idx_lt _ _) L hL' hv'
    obtain ⟨c1, c2⟩ := low_inj hT a1 b1 a2 b2 h1 h2
    have a3 := a3.1
    rw [c1, b3.1] at a3
    simp only [Prod.mk.injEq] at a3
    refine ⟨a3.1.symm, fun j h3 h4 => ?_⟩
    by_cases h5 : j = L + 1
    · rw [h5]
      exact a3.2.symm
    · exact c2 j h3 (by omega)
theorem page_eq {va va' : Nat} (h : va < 549755813888) (h' : va' < 549755813888) : va / 4096 = va' / 4096 ↔ ∀ j, j ≤ 2 → idx va j = idx va' j := by
  unfold idx
  constructor
  · intro e j hj
    have : ∀ x, x / 2 ^ (12 + 9 * j) = x / 4096 / 2 ^ (9 * j) := fun x => by rw [Nat.pow_add, ← Nat.div_div_eq_div_mul]
    rw [this, this, e]
  · intro hj
    have h0 := hj 0 (by omega)
    have h1 := hj 1 (by omega)
    have h2 := hj 2 (by omega)
    simp only [Nat.reduceMul, Nat.reduceAdd, Nat.reducePow] at h0 h1 h2
    omega
theorem look_put {m m3 : Nat → Int} {n : Nat} {fs : List Nat} {lv : Nat → Nat} {par : Nat → Nat × Nat} (hT : Tree m n fs lv par) {va f x : Nat} (hva : va < 274877906944) (hl : low m va 2 (fs.headD 0) = (f, 0, true)) (hE : ∀ f' i', i' < 512 → ew m3 f' i' = if f' = f ∧ i' = idx va 0 then x else ew m f' i') {va' : Nat} (hva' : va' < 549755813888) :
    lookW m3 (fs.headD 0) va' = if va' / 4096 = va / 4096 then x else lookW m (fs.headD 0) va' := by
  obtain ⟨f0, l0, hfs, hf0⟩ := hT.top
  have hF : f0 ∈ fs := by rw [hfs]; simp
  have hh : fs.headD 0 = f0 := by rw [hfs]; rfl
  rw [hh] at hl ⊢
  have hat := low_at hT (va := va) hF hf0
  rw [hl] at hat
  have hp := low_put hT (m3 := m3) hat.2.1 (fun f' i' hi hne => by rw [hE _ _ hi, if_neg (fun h => hne h.1)]) va' hF hf0
  unfold lookW
  rw [hp]
  by_cases hok : (low m va' 2 f0).2.2 = true
  · rw [if_pos hok, if_pos hok, hE _ _ (idx_lt _ _)]
    have hat' := low_at hT (va := va') hF hf0
    by_cases hc : (low m va' 2 f0).1 = f ∧ idx va' 0 = idx va 0
    · rw [if_pos hc, if_pos]
      have h1 : low m va' 2 f0 = (f, 0, true) := by
        have h2 := hat'.2.2.2.1
        rw [hok] at h2
        have h3 := of_decide_eq_true h2.symm
        rw [← hc.1, ← h3]
        conv => lhs; rw [← Prod.eta (low m va' 2 f0), ← Prod.eta (low m va' 2 f0).2]
        rw [hok]
      obtain ⟨-, h4⟩ := low_inj hT hF hF hf0 hf0 h1 hl
      rw [page_eq hva' (by omega)]
      intro j hj
      by_cases h0 : j = 0
      · rw [h0]; exact hc.2
      · exact h4 j (by omega) hj
    · rw [if_neg hc, if_neg]
      intro he
      rw [page_eq hva' (by omega)] at he
      have h5 : low m va' 2 f0 = low m va 2 f0 := by
        rw [low_s m _ 1 f0, low_s m _ 1 f0, he 2 (by omega)]
        split
        · rw [low_s m _ 0, low_s m _ 0, he 1 (by omega)]
          rfl
        · rfl
      exact hc ⟨by rw [h5, hl], he 0 (by omega)⟩
  · rw [if_neg hok, if_neg hok, if_neg]
    intro he
    rw [page_eq hva' (by omega)] at he
    have h5 : low m va' 2 f0 = low m va 2 f0 := by
      rw [low_s m _ 1 f0, low_s m _ 1 f0, he 2 (by omega)]
      split
      · rw [low_s m _ 0, low_s m _ 0, he 1 (by omega)]
        rfl
      · rfl
    rw [h5, hl] at hok
    exact hok rfl
/-- the pool's bits are the tables' frames. -/
def OwnT (t : Nat) (fs : List Nat) : Prop := ∀ i, i < 64 → (t.testBit i = true ↔ i ∈ fs)
theorem OwnT.grow {t k : Nat} {fs : List Nat} (h : OwnT t fs) : OwnT (t ||| 2 ^ k) (fs ++ [k]) := fun i hi => by
  rw [or_bit, Bool.or_eq_true, h i hi, decide_eq_true_eq, List.mem_append, List.mem_singleton]
theorem cnt_fs {t : Nat} {fs : List Nat} (h : OwnT t fs) (h1 : fs.Nodup) (h2 : ∀ f ∈ fs, f < 64) : cntK t 64 = fs.length := by
  have : ∀ k, k ≤ 64 → cntK t k = fs.countP (fun x => decide (x < k)) := by
    intro k
    induction k with
    | zero => intro _; rw [cntK_zero]; simp
    | succ k ih =>
      intro hk
      rw [cntK_succ, ih (by omega)]
      have e : fs.countP (fun x => decide (x < k + 1)) = fs.countP (fun x => decide (x < k)) + fs.count k := by
        clear ih h h1 h2
        induction fs with
        | nil => rfl
        | cons a l ih2 =>
          rw [List.countP_cons, List.countP_cons, List.count_cons, ih2]
          by_cases h3 : a < k
          · have h4 : a ≠ k := by omega
            simp [h3, h4, show a < k + 1 by omega]; omega
          · by_cases h4 : a = k
            · simp [h4]
              omega
            · simp [h3, h4, show ¬ a < k + 1 by omega]
      rw [e, List.Nodup.count h1]
      have := h k (by omega)
      by_cases h5 : k ∈ fs
      · rw [if_pos h5, this.2 h5]
        rfl
      · rw [if_neg h5]
        have : t.testBit k = false := by
          cases h6 : t.testBit k
          · rfl
          · exact absurd (this.1 h6) h5
        rw [this]
        rfl
  rw [this 64 (Nat.le_refl _), List.countP_eq_length]
  intro a ha
  simpa using h2 a ha
end Go.Proofs.Ytfpcflmgipklcaa
