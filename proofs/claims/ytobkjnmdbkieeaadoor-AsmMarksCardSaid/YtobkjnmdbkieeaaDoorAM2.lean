/- A branch to a mark: the plain law; conditions: those of each theorem. -/
import Derived.Test.YtobkjnmdbkieeaaDoorAM1
import Derived.Test.YtobkjnmdbkieeaaDoorAD1
namespace Go.Proofs.YtobkjnmdbkieeaaDoor
open Go.Fx
set_option maxRecDepth 100000
set_option linter.unusedSimpArgs false
set_option linter.unusedVariables false
/-! ### lines, whatever their numbers -/
def tmL (x : Ln) : List UInt8 × Bool := (x.t, x.m)
theorem count_same {st : List UInt8 → List (List UInt8)} : ∀ (L M : List Ln) (p : Mk), L.map tmL = M.map tmL → L.foldl (stepC st) p = M.foldl (stepC st) p
  | [], [], p, _ => rfl
  | [], y :: M, p, h => by simp at h
  | x :: L, [], p, h => by simp at h
  | x :: L, y :: M, p, h => by
    simp only [List.map_cons, List.cons.injEq, tmL, Prod.mk.injEq] at h
    rw [List.foldl_cons, List.foldl_cons]
    have e : stepC st p x = stepC st p y := by
      unfold stepC
      rw [h.1.1, h.1.2]
    rw [e]
    exact count_same L M _ h.2
theorem go_same {st : List UInt8 → List (List UInt8)} {A T : List UInt8 → Option Int} : ∀ (L M : List Ln) (met : List UInt8 → Bool) (out r : List Nat), L.map tmL = M.map tmL → asmGo st A T M met out = .ok r → asmGo st A T L met out = .ok r
  | [], [], met, out, r, _, h => h
  | [], y :: M, _, _, _, h, _ => by simp at h
  | x :: L, [], _, _, _, h, _ => by simp at h
  | x :: L, y :: M, met, out, r, h, hr => by
    simp only [List.map_cons, List.cons.injEq, tmL, Prod.mk.injEq] at h
    rw [asmGo] at hr ⊢
    rw [h.1.1, h.1.2]
    cases hm : y.m with
    | true =>
      rw [hm, if_pos rfl] at hr
      rw [if_pos rfl]
      cases hmet : met y.t with
      | true => rw [hmet] at hr; simp at hr
      | false =>
        rw [hmet] at hr
        simp only [Bool.false_eq_true, if_false] at hr ⊢
        exact go_same L M _ _ _ h.2 hr
    | false =>
      rw [hm] at hr
      simp only [Bool.false_eq_true, if_false] at hr ⊢
      cases hi : innerF A T (st y.t) out with
      | none => rw [hi] at hr; simp at hr
      | some o =>
        rw [hi] at hr
        exact go_same L M _ _ _ h.2 hr
/-! ### the text's lines -/
def sepL (bl : List Int) (i : Nat) : List (List UInt8) := match bl[i]? with
  | none => []
  | some b => if (b % 4).toNat = 0 then [] else if (b % 4).toNat = 1 then [[]] else if (b % 4).toNat = 2 then [[35, 32, 120]] else [[32, 32]]
def layL (bl : List Int) (n : Nat) : List (List UInt8) := (List.range n).flatMap fun i => addT :: sepL bl i
def joinN (l : List (List UInt8)) : List UInt8 := l.flatMap fun x => x ++ [10]
theorem joinN_app (a b : List (List UInt8)) : joinN (a ++ b) = joinN a ++ joinN b := by simp [joinN]
theorem sep_join (bl : List Int) (i : Nat) : joinN (sepL bl i) = sepT bl i := by
  unfold sepL sepT
  cases bl[i]? with
  | none => rfl
  | some b =>
    dsimp only
    unfold pieceT
    generalize (b % 4).toNat = n
    by_cases h0 : n = 0
    · rw [if_pos h0, if_pos h0]
      rfl
    · rw [if_neg h0, if_neg h0]
      by_cases h1 : n = 1
      · rw [if_pos h1, if_pos h1]
        rfl
      · rw [if_neg h1, if_neg h1]
        by_cases h2 : n = 2
        · rw [if_pos h2, if_pos h2]
          rfl
        · rw [if_neg h2, if_neg h2]
          rfl
theorem lay_join (bl : List Int) : ∀ n, joinN (layL bl n) = layT bl n
  | 0 => rfl
  | n + 1 => by
    have ih := lay_join bl n
    have e : layL bl (n + 1) = layL bl n ++ (addT :: sepL bl n) := by
      unfold layL
      rw [List.range_succ, List.flatMap_append]
      simp
    rw [e, joinN_app, ih, layT_succ, ← sep_join]
    simp [joinN]
theorem split_joinN : ∀ (l : List (List UInt8)), (∀ x ∈ l, (10 : UInt8) ∉ x) → Lib.split (joinN l) [10] = l ++ [[]]
  | [], _ => by
    show Lib.split [] [10] = [[]]
    exact split_none (c := 10) (t := []) (by simp)
  | x :: l, h => by
    have e : joinN (x :: l) = x ++ (10 :: [] ++ joinN l) := by simp [joinN]
    rw [e, split_at (h x (by simp)), split_joinN l fun y hy => h y (by simp [hy])]
    rfl
theorem sepL_mem {bl : List Int} {i : Nat} {x : List UInt8} (h : x ∈ sepL bl i) : x = [] ∨ x = [35, 32, 120] ∨ x = [32, 32] := by
  unfold sepL at h
  split at h
  · simp at h
  · split at h
    · simp at h
    · split at h
      · simp at h; exact .inl h
      · split at h
        · simp at h; exact .inr (.inl h)
        · simp at h; exact .inr (.inr h)
theorem layL_mem {bl : List Int} {n : Nat} {x : List UInt8} (h : x ∈ layL bl n) : x = addT ∨ x = [] ∨ x = [35, 32, 120] ∨ x = [32, 32] := by
  unfold layL at h
  rw [List.mem_flatMap] at h
  obtain ⟨i, -, h⟩ := h
  rw [List.mem_cons] at h
  exact h.imp id sepL_mem
def addL : Ln := ⟨1, addT, false⟩
theorem linesFrom_map : ∀ (a : List (List UInt8)) (k k' : Nat), (linesFrom k a).map tmL = (linesFrom k' a).map tmL
  | [], _, _ => rfl
  | x :: a, k, k' => by
    rw [linesFrom, linesFrom, List.map_append, List.map_append, linesFrom_map a (k + 1) (k' + 1)]
    congr 1
    unfold lineF
    dsimp only
    split
    · rfl
    · split
      · rfl
      · rfl
theorem lay_lines (bl : List Int) (k : Nat) : ∀ n, (linesFrom k (layL bl n)).map tmL = List.replicate n (addT, false)
  | 0 => rfl
  | n + 1 => by
    have e : layL bl (n + 1) = layL bl n ++ ([addT] ++ sepL bl n) := by
      unfold layL
      rw [List.range_succ, List.flatMap_append]
      simp
    have hs : ∀ k, linesFrom k (sepL bl n) = [] := by
      intro k
      unfold sepL
      split
      · rfl
      · split
        · rfl
        · split
          · rfl
          · split
            · rfl
            · rfl
    have ha : ∀ k, (linesFrom k [addT]).map tmL = [(addT, false)] := by
      intro k
      rw [linesFrom_map [addT] k 0]
      rfl
    rw [e, linesFrom_app, linesFrom_app, List.map_append, List.map_append, lay_lines bl k n, ha, hs, List.replicate_succ']
    rfl
def beqT : List UInt8 := [98, 101, 113, 32, 99, 49, 44, 32, 99, 50, 44, 32, 98]
def jalT : List UInt8 := [106, 97, 108, 32, 99, 51, 44, 32, 97]
/-- all lines. -/
def allL (bl : List Int) (a b : Nat) : List (List UInt8) := [[97, 58]] ++ layL bl a ++ [beqT, jalT] ++ layL bl b ++ [[98, 58]]
def allM (a b : Nat) : List Ln := ⟨1, [97], true⟩ :: (List.replicate a addL ++ (⟨1, beqT, false⟩ :: ⟨1, jalT, false⟩ :: (List.replicate b addL ++ [⟨1, [98], true⟩])))
theorem all_lines (bl : List Int) (a b : Nat) : (linesFrom 0 (allL bl a b ++ [[]])).map tmL = (allM a b).map tmL := by
  have h1 : ∀ k, (linesFrom k [[97, 58]]).map tmL = [([97], true)] := fun k => by rw [linesFrom_map _ k 0]; rfl
  have h2 : ∀ k, (linesFrom k [beqT, jalT]).map tmL = [(beqT, false), (jalT, false)] := fun k => by rw [linesFrom_map _ k 0]; rfl
  have h3 : ∀ k, (linesFrom k [[98, 58]]).map tmL = [([98], true)] := fun k => by rw [linesFrom_map _ k 0]; rfl
  have h4 : ∀ k, (linesFrom k [([] : List UInt8)]).map tmL = [] := fun k => rfl
  unfold allL allM
  rw [linesFrom_app, linesFrom_app, linesFrom_app, linesFrom_app, linesFrom_app]
  simp only [List.map_append, h1, h2, h3, h4, lay_lines]
  simp [tmL, addL]
end Go.Proofs.YtobkjnmdbkieeaaDoor
