/-
  Regions told by words of their operations: how one is walked; conditions: those of each theorem.
-/
import Derived.Test.YtobkjnmdbkieeaaDoorSlices
namespace Go.Fx
theorem Ext.step {S : List Nat} {a b c : World} (h1 : Ext S a b) (h2 : Ext S b c) : Ext S a c := h1.trans h2 fun _ h => .inl h
theorem relX.ext (S : List Nat) {G : (World → World → Prop) → Prop} (h : G (Ext S)) : relX G := ⟨Ext S, fun _ => Ext.refl, fun _ _ _ h1 h2 => h1.step h2, fun _ _ h => h.size, h⟩
theorem postX.is {R : World → World → Prop} {G rest : (Value → World → Prop) → Prop} (c : Value) (h1 : G fun v _ => v = c) (h2 : rest fun v _ => v = c) : postX R G rest := ⟨_, fun _ _ _ _ h => h, h1, h2⟩
theorem okX.mk {R : World → World → Prop} {w w' : World} {p : Value → World → Prop} {v : Value} (h1 : R w w') (h2 : p v w') : okX R w p v w' := ⟨h1, h2⟩
theorem okX.is {S : List Nat} {w : World} {v : Value} : okX (Ext S) w (fun u _ => u = v) v w := ⟨Ext.refl, rfl⟩
/-- .. where one block, that may be written, keeps what it holds. -/
theorem relX.keep (S : List Nat) (b : Nat) (o : Obj) {G : (World → World → Prop) → Prop} (h : G fun w w' => Ext S w w' ∧ (w.heap[b]? = some o → w'.heap[b]? = some o)) : relX G :=
  ⟨_, fun _ => ⟨Ext.refl, id⟩, fun _ _ _ h1 h2 => ⟨h1.1.step h2.1, fun hb => h2.2 (h1.2 hb)⟩, fun _ _ h => h.1.size, h⟩
end Go.Fx
