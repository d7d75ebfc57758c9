/- A branch to a mark: its words; conditions: those of each theorem. -/
import Derived.Test.YtobkjnmdbkieeaaDoorAM2
namespace Go.Proofs.YtobkjnmdbkieeaaDoor
open Go.Fx
set_option maxRecDepth 100000
set_option linter.unusedSimpArgs false
set_option linter.unusedVariables false
def addI : IZ := ⟨22, 1, 1, 0, 1⟩
def beqI (b : Nat) : IZ := ⟨5, 0, 1, 2, 4 * ((b : Int) + 2)⟩
def jalI (a : Nat) : IZ := ⟨3, 3, 0, 0, -4 * ((a : Int) + 1)⟩
theorem add_text : textF addI = addT ∧ encOk addI = true := by constructor <;> kernel_rfl
theorem beq_all : (List.range 64).all (fun b => encOk (beqI b) && decide (dcdF (encR (beqI b)) = (beqI b, true)) && decide (encR (beqI b) < 4294967296)) = true := by kernel_rfl
theorem jal_all : (List.range 64).all (fun b => encOk (jalI b) && decide (dcdF (encR (jalI b)) = (jalI b, true)) && decide (encR (jalI b) < 4294967296)) = true := by kernel_rfl
theorem beq_ok {b : Nat} (h : b < 64) : encOk (beqI b) = true ∧ dcdF (encR (beqI b)) = (beqI b, true) ∧ encR (beqI b) < 4294967296 := by
  have := List.all_eq_true.1 beq_all b (List.mem_range.2 h)
  simp only [Bool.and_eq_true, decide_eq_true_eq] at this
  exact ⟨this.1.1, this.1.2, this.2⟩
theorem jal_ok {b : Nat} (h : b < 64) : encOk (jalI b) = true ∧ dcdF (encR (jalI b)) = (jalI b, true) ∧ encR (jalI b) < 4294967296 := by
  have := List.all_eq_true.1 jal_all b (List.mem_range.2 h)
  simp only [Bool.and_eq_true, decide_eq_true_eq] at this
  exact ⟨this.1.1, this.1.2, this.2⟩
theorem told_add {A T : List UInt8 → Option Int} {n : Int} (hT : (T [49]).getD 0 ≠ 1) : toldF A T addT n = addT := by
  have hk : toldK addT = 12 := by decide
  unfold toldF
  rw [hk, if_neg (by decide), if_pos (.inl hT)]
theorem told_beq {A T : List UInt8 → Option Int} {n : Int} {b : Nat} (hb : b < 64) (hT : (T [98]).getD 0 = 1) (hA : ((A [98]).getD 0 - n) * 4 = 4 * ((b : Int) + 2)) : toldF A T beqT n = textF (beqI b) := by
  have hk : toldK beqT = 11 := by decide
  have hsh : toldSh beqT = 66 := by decide
  have hd : beqT.drop 12 = [98] := rfl
  have ht : beqT.take 12 = [98, 101, 113, 32, 99, 49, 44, 32, 99, 50, 44, 32] := rfl
  unfold toldF
  rw [hk, hsh, if_neg (by decide)]
  have e12 : ((11 : Int) + 1).toNat = 12 := rfl
  rw [e12, hd, if_neg (by rw [hT]; decide), hA, ht]
  unfold textF
  rw [(beq_ok hb).1, if_pos rfl]
  have ho : orderS (rowZ (beqI b).op).s = [97, 98, 109] := by show orderS (rowZ 5).s = _; decide
  have hn : nameR (beqI b) = [98, 101, 113] := by show (rowZ 5).n = _; decide
  rw [ho, hn, if_neg (by simp)]
  have p1 : partF (beqI b) 97 = [99, 49] := rfl
  have p2 : partF (beqI b) 98 = [99, 50] := rfl
  have p3 : partF (beqI b) 109 = dec (4 * ((b : Int) + 2)) := rfl
  simp only [List.map_cons, List.map_nil, p1, p2, p3]
  simp [Lib.join_cons, Lib.joinTail]
theorem told_jal {A T : List UInt8 → Option Int} {n : Int} {b : Nat} (hb : b < 64) (hT : (T [97]).getD 0 = 1) (hA : ((A [97]).getD 0 - n) * 4 = -4 * ((b : Int) + 1)) : toldF A T jalT n = textF (jalI b) := by
  have hk : toldK jalT = 7 := by decide
  have hsh : toldSh jalT = 74 := by decide
  have hd : jalT.drop 8 = [97] := rfl
  have ht : jalT.take 8 = [106, 97, 108, 32, 99, 51, 44, 32] := rfl
  unfold toldF
  rw [hk, hsh, if_neg (by decide)]
  have e12 : ((7 : Int) + 1).toNat = 8 := rfl
  rw [e12, hd, if_neg (by rw [hT]; decide), hA, ht]
  unfold textF
  rw [(jal_ok hb).1, if_pos rfl]
  have ho : orderS (rowZ (jalI b).op).s = [100, 109] := by show orderS (rowZ 3).s = _; decide
  have hn : nameR (jalI b) = [106, 97, 108] := by show (rowZ 3).n = _; decide
  rw [ho, hn, if_neg (by simp)]
  have p1 : partF (jalI b) 100 = [99, 51] := rfl
  have p3 : partF (jalI b) 109 = dec (-4 * ((b : Int) + 1)) := rfl
  simp only [List.map_cons, List.map_nil, p1, p3]
  simp [Lib.join_cons, Lib.joinTail]
theorem inner_told {A T : List UInt8 → Option Int} {i : IZ} {s : List UInt8} {out : List Nat} (hT : toldF A T s out.length = textF i) (h : encOk i = true) : innerF A T (selfL s) out = some (out ++ [encR i]) := by
  obtain ⟨x, hx, ha⟩ := parse_back h
  obtain ⟨e1, e2⟩ := agree_enc ha
  unfold selfL innerF
  rw [hT, hx]
  dsimp only
  rw [e1, h, e2]
  rfl
theorem go_adds {A T : List UInt8 → Option Int} (hT : (T [49]).getD 0 ≠ 1) : ∀ (n : Nat) (L : List Ln) (met : List UInt8 → Bool) (out : List Nat), asmGo selfL A T (List.replicate n addL ++ L) met out = asmGo selfL A T L met (out ++ List.replicate n (encR addI))
  | 0, L, met, out => by simp
  | n + 1, L, met, out => by
    rw [List.replicate_succ, List.cons_append, asmGo]
    have hi : innerF A T (selfL addL.t) out = some (out ++ [encR addI]) := inner_told (i := addI) (by rw [add_text.1]; exact told_add hT) add_text.2
    rw [if_neg (by decide), hi]
    dsimp only
    rw [go_adds hT n L met, List.append_assoc]
    rfl
def markA (N : Int) : List UInt8 → Option Int := fun x => if x = [98] then some N else if x = [97] then some 0 else none
def markT : List UInt8 → Option Int := fun x => if x = [98] then some 1 else if x = [97] then some 1 else none
theorem count_all (a b : Nat) : (countF selfL (allM a b)).a = markA ((a + 2 + b : Nat) : Int) ∧ (countF selfL (allM a b)).t = markT ∧ (countF selfL (allM a b)).n = a + 2 + b := by
  have e : countF selfL (allM a b) = (((List.replicate a addL ++ ((⟨1, beqT, false⟩ : Ln) :: (⟨1, jalT, false⟩ : Ln) :: List.replicate b addL)) ++ [(⟨1, [98], true⟩ : Ln)]).foldl (stepC selfL) (stepC selfL Mk.zero (⟨1, [97], true⟩ : Ln))) := by
    unfold countF allM
    rw [List.foldl_cons]
    simp
  rw [e, List.foldl_append, count_plain (List.replicate a addL ++ ((⟨1, beqT, false⟩ : Ln) :: (⟨1, jalT, false⟩ : Ln) :: List.replicate b addL)) _ (by
    intro x hx
    simp only [List.mem_append, List.mem_cons, List.mem_replicate] at hx
    rcases hx with ⟨-, rfl⟩ | rfl | rfl | ⟨-, rfl⟩ <;> rfl)]
  rw [List.foldl_cons, List.foldl_nil]
  have hl : (List.replicate a addL ++ ((⟨1, beqT, false⟩ : Ln) :: (⟨1, jalT, false⟩ : Ln) :: List.replicate b addL)).length = a + 2 + b := by simp; omega
  rw [hl]
  refine ⟨?_, ?_, ?_⟩
  · funext x
    simp [stepC, Mk.zero, markA]
  · funext x
    simp [stepC, Mk.zero, markT]
  · simp [stepC, Mk.zero]
theorem go_all {a b : Nat} (ha : a < 64) (hb : b < 64) : asmGo selfL (markA ((a + 2 + b : Nat) : Int)) markT (allM a b) (fun _ => false) [] = .ok (List.replicate a (encR addI) ++ (encR (beqI b) :: encR (jalI a) :: List.replicate b (encR addI))) := by
  have hT : (markT [49]).getD 0 ≠ 1 := by decide
  unfold allM
  rw [asmGo, if_pos rfl, if_neg (by simp), go_adds hT, asmGo, if_neg (by simp)]
  have h1 : innerF (markA ((a + 2 + b : Nat) : Int)) markT (selfL beqT) ([] ++ List.replicate a (encR addI)) = some ([] ++ List.replicate a (encR addI) ++ [encR (beqI b)]) := inner_told (i := beqI b) (told_beq hb (by decide) (by
    have : (markA ((a + 2 + b : Nat) : Int) [98]).getD 0 = ((a + 2 + b : Nat) : Int) := rfl
    rw [this]
    simp
    omega)) (beq_ok hb).1
  rw [h1]
  dsimp only
  rw [asmGo, if_neg (by simp)]
  have h2 : innerF (markA ((a + 2 + b : Nat) : Int)) markT (selfL jalT) ([] ++ List.replicate a (encR addI) ++ [encR (beqI b)]) = some ([] ++ List.replicate a (encR addI) ++ [encR (beqI b)] ++ [encR (jalI a)]) := inner_told (i := jalI a) (told_jal ha (by decide) (by
    have : (markA ((a + 2 + b : Nat) : Int) [97]).getD 0 = 0 := rfl
    rw [this]
    simp
    omega)) (jal_ok ha).1
  rw [h2]
  dsimp only
  rw [go_adds hT, asmGo, if_pos rfl, if_neg (by simp), asmGo]
  simp
end Go.Proofs.YtobkjnmdbkieeaaDoor
