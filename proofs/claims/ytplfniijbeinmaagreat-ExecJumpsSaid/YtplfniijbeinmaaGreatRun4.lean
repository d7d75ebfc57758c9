/- An instruction that loads, or stores, a capability; conditions: those of each theorem. -/
import Derived.Test.YtplfniijbeinmaaGreatRun3
namespace Go.Proofs.YtplfniijbeinmaaGreat
open Go.Fx
set_option maxRecDepth 100000
set_option linter.unusedSimpArgs false
set_option linter.unusedVariables false
theorem kN_flv {r : Rn} {rb : Nat} (h : r.m = flV rb) {w : World} {K : Value → World → Prop} : kN Tryz.prog (nilN r.m) w K = K r.m w := by
  rw [h]
  rfl
theorem sN_flv {r : Rn} {rb : Nat} (h : r.m = flV rb) {w : World} {K : Value → Prop} : sN Tryz.prog (nilN r.m) w K = K r.m := by
  rw [h]
  exact sN_fl
theorem fetch_m {rb : Nat} {va : Value} {w : World} {K : Value → World → Prop} (hc : callsK Tryz.prog 158 #[.agg [.pointer (some ⟨rb, 0, none⟩)].toArray, va] w K) : kN Tryz.prog (callMethod (flV rb) "Fetch" #[va]) w K := callFetch hc
/-- a region in which one block that is made in it is written. -/
theorem relX.any (N : Nat) (Y : Obj) {G : (World → World → Prop) → Prop} (h : G fun w w' => (∃ S, Ext S w w' ∧ ∀ k ∈ S, N ≤ k) ∧ ∀ (b : Nat) x, w.heap[b]? = some x → w'.heap[b]? = some x ∨ (N ≤ b ∧ w'.heap[b]? = some Y)) : relX G := by
  refine ⟨_, fun _ => ⟨⟨[], Ext.refl, by simp⟩, fun b x hx => .inl hx⟩, fun a b c h1 h2 => ⟨?_, fun k x hx => ?_⟩, fun _ _ h => h.1.choose_spec.1.size, h⟩
  · obtain ⟨⟨S, s1, s2⟩, -⟩ := h1
    obtain ⟨⟨T, t1, t2⟩, -⟩ := h2
    exact ⟨S ++ T, (s1.mono (by simp +contextual)).step (t1.mono (by simp +contextual)), fun k hk => by
      rcases List.mem_append.1 hk with hk | hk
      · exact s2 k hk
      · exact t2 k hk⟩
  · rcases h1.2 k x hx with h3 | ⟨h3, h4⟩
    · exact h2.2 k x h3
    · rcases h2.2 k Y h4 with h5 | h5
      · exact .inr ⟨h3, h5⟩
      · exact .inr h5
theorem Mem.neR {w : World} {q rb pb n : Nat} {r : Rn} {m g : Nat → Int} (h : Mem w rb pb n m g) (hr : w.heap[q]? = some (.cells (rnC r).toArray 91 (0, 0))) : q ≠ pb := by
  rintro rfl
  obtain ⟨L, h1, -⟩ := h.body
  rw [hr] at h1
  simp only [Option.some.injEq, Obj.cells.injEq] at h1
  exact absurd h1.2.1 (by decide)
def AnyR (N : Nat) (Y : Obj) (w w' : World) : Prop := (∃ S, Ext S w w' ∧ ∀ k ∈ S, N ≤ k) ∧ ∀ (b : Nat) x, w.heap[b]? = some x → w'.heap[b]? = some x ∨ (N ≤ b ∧ w'.heap[b]? = some Y)
theorem relX.anyR (N : Nat) (Y : Obj) {G : (World → World → Prop) → Prop} (h : G (AnyR N Y)) : relX G := relX.any N Y h
theorem AnyR.of {N : Nat} {Y : Obj} {w w' : World} (h : Ext [] w w') : AnyR N Y w w' := ⟨⟨[], h, by simp⟩, fun b x hx => .inl (h.at hx (by simp))⟩
theorem AnyR.at {N : Nat} {Y : Obj} {w w' : World} (h : AnyR N Y w w') {b : Nat} {x : Obj} (hx : w.heap[b]? = some x) (hb : b < N) : w'.heap[b]? = some x := by
  rcases h.2 b x hx with h | ⟨h, -⟩
  · exact h
  · omega
theorem AnyR.mem {N : Nat} {Y : Obj} {w w' : World} (h : AnyR N Y w w') {rb pb n : Nat} {m g : Nat → Int} (hM : Mem w rb pb n m g) (h1 : rb < N) (h2 : pb < N) : Mem w' rb pb n m g := by
  obtain ⟨⟨S, s1, s2⟩, -⟩ := h
  exact hM.ext s1 (fun hc => by have := s2 _ hc; omega) (fun hc => by have := s2 _ hc; omega)
theorem okX.any {N : Nat} {Y : Obj} {w : World} {v : Value} : okX (AnyR N Y) w (fun u _ => u = v) v w := ⟨AnyR.of Ext.refl, rfl⟩
end Go.Proofs.YtplfniijbeinmaaGreat
