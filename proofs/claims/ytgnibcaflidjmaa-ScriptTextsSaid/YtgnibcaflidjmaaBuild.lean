/- A strings.Builder and strings.Join, as numbers of bytes; conditions: those of each theorem. -/
import Derived.Test.YtgnibcaflidjmaaShelf
import Derived.Test.YtgnibcaflidjmaaStrings
import Derived.Test.YtgnibcaflidjmaaRN
import Derived.Laws.BytesArg
namespace Go.Proofs.Ytgnibcaflidjmaa
open Go.Fx
set_option maxRecDepth 100000
set_option linter.unusedSimpArgs false
set_option linter.unusedVariables false
def nums (xs : List Int) : List UInt8 := xs.map fun n => UInt8.ofNat n.toNat
theorem str_nums (xs : List Int) : strOfNums xs = ⟨(nums xs).toArray⟩ := rfl
theorem strApp (a b : List Int) : strOfNums a ++ strOfNums b = strOfNums (a ++ b) := by
  apply ByteArray.ext
  simp [strOfNums]
theorem ext_below {w0 w w' : World} (hx : Ext [] w0 w) (hb : RowKit.Below w0.heap.size w w') : Ext [] w0 w' := by
  obtain ⟨h1, h2, h3, h4, h5⟩ := hb
  exact ⟨h1.trans hx.os, h2.trans hx.tape, h3.trans hx.output, Nat.le_trans hx.size h4, fun k hk _ => (h5 k hk).trans (hx.kept k hk (by simp))⟩
/-- a builder at block b, of the call's own, that holds these bytes. -/
def Bld (w0 w : World) (b : Nat) (xs : List Int) : Prop := Lib.IsBuilder 62 5 w0.heap.size b (Lib.byteCells (nums xs)) w
theorem Bld.fresh {w0 w : World} (hb : w0.heap.size ≤ w.heap.size) : Bld w0 (w.alloc (.cells [.pointer none, .slice none 0 0].toArray 62)) w.heap.size [] :=
  .inl ⟨hb, _, alloc_at rfl, ⟨by simp [nums, Lib.byteCells], .inl ⟨rfl, by simp [nums, Lib.byteCells]⟩⟩, by simp [Value.ownBlock]⟩
theorem Bld.ext {w0 w w' : World} {b : Nat} {xs : List Int} (h : Bld w0 w b xs) (hx : Ext [] w w') : Bld w0 w' b xs := by
  have key : ∀ p, Lib.BuilderAt 62 5 w0.heap.size b p (Lib.byteCells (nums xs)) w → Lib.BuilderAt 62 5 w0.heap.size b p (Lib.byteCells (nums xs)) w' := by
    rintro p ⟨h1, v, h2, ⟨h3, h4⟩, h5⟩
    refine ⟨h1, v, hx.at h2 (by simp), ⟨h3, h4.imp id ?_⟩, h5⟩
    rintro ⟨g, cap, cur, e1, e2, e3, e4⟩
    exact ⟨g, cap, cur, e1, e2, hx.at e3 (by simp), e4⟩
  exact h.imp (key _) (key _)
theorem WriteString_spec {w0 w : World} {b : Nat} {xs ys : List Int} (h : Bld w0 w b xs) (hx : Ext [] w0 w) (hl : xs.length + ys.length ≤ 100000000) {K : Value → World → Prop} (hK : ∀ v w', Bld w0 w' b (xs ++ ys) → Ext [] w0 w' → K v w') :
    callsK Try.prog 25 #[.pointer (some ⟨b, 0, none⟩), .string (strOfNums ys)] w K := by
  refine Calls.mono (Try.Builder_WriteString w0.heap.size b (Lib.byteCells (nums xs)) (strOfNums ys) w h (by simp [Lib.byteCells, nums, strOfNums_size]; omega) hx.size) ?_
  rintro e w' ⟨rfl, hb, hbl⟩
  refine ⟨_, rfl, hK _ w' (.inr ?_) (ext_below hx hbl)⟩
  have e : Lib.byteCells (nums (xs ++ ys)) = Lib.byteCells (nums xs) ++ Lib.strCells (strOfNums ys) := by simp [Lib.byteCells, nums, Lib.strCells, strOfNums]
  rw [e]
  exact hb
theorem BString_spec {w0 w : World} {b : Nat} {xs : List Int} (h : Bld w0 w b xs) (hx : Ext [] w0 w) {K : Value → World → Prop} (hK : ∀ w', Ext [] w0 w' → K (.string (strOfNums xs)) w') :
    callsK Try.prog 29 #[.pointer (some ⟨b, 0, none⟩)] w K := by
  refine Calls.mono (Try.Builder_String_any w0.heap.size b (nums xs) w h hx.size) ?_
  rintro e w' ⟨rfl, hbl⟩
  exact ⟨_, rfl, hK w' (ext_below hx hbl)⟩
/-- texts with one text between. -/
def joinN (sep : List Int) : List (List Int) → List Int
  | [] => []
  | [x] => x
  | x :: y :: r => x ++ (sep ++ joinN sep (y :: r))
theorem join_nums (sep : List Int) : ∀ xs : List (List Int), Lib.join (xs.map nums) (nums sep) = nums (joinN sep xs)
  | [] => rfl
  | [x] => by rw [List.map_cons, List.map_nil, Lib.join_one]; rfl
  | x :: y :: r => by
    have ih := join_nums sep (y :: r)
    rw [List.map_cons, Lib.join_cons] at ih ⊢
    show _ = nums (x ++ (sep ++ joinN sep (y :: r)))
    simp only [nums, List.map_append] at ih ⊢
    rw [← ih]
    simp [Lib.joinTail, nums]
theorem Join_spec {w : World} {b c : Nat} {E : TypeId} {f : Nat × Nat} {xs : List (List Int)} {sep : List Int} {l : List Value} (h : w.heap[b]? = some (.cells l.toArray E f)) (hl : l = xs.map fun x => .string (strOfNums x)) (hn : xs.length ≤ 1000) (hc : xs.length ≤ c) (hj : (joinN sep xs).length ≤ 1000000) {K : Value → World → Prop}
    (hK : ∀ w', Ext [] w w' → K (.string (strOfNums (joinN sep xs))) w') : callsK Try.prog 26 #[.slice (some ⟨b, 0, none⟩) xs.length c, .string (strOfNums sep)] w K := by
  have e1 : (xs.map strOfNums).map (·.data.toList) = xs.map nums := by simp [strOfNums, nums]
  have e2 : (strOfNums sep).data.toList = nums sep := rfl
  have hj2 := join_nums sep xs
  have := Try.strings_Join b 0 c (xs.map strOfNums) (strOfNums sep) w (fun j x hx => ?_) (lt_of_at h) (by simp; omega) (by simpa using hc) (by rw [e1, e2, hj2]; simp [nums]; omega)
  · rw [List.length_map] at this
    refine Calls.mono this ?_
    rintro e w' ⟨rfl, hbl⟩
    refine ⟨_, rfl, ?_⟩
    rw [e1, e2, hj2]
    exact hK w' (ext_below Ext.refl hbl)
  · subst hl
    rw [cell_of_block h]
    simp at hx ⊢
    obtain ⟨a, ha, rfl⟩ := hx
    exact ⟨a, ha, rfl⟩
end Go.Proofs.Ytgnibcaflidjmaa
