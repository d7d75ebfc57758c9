/- A program's text assembled; conditions: those of each theorem. -/
import Derived.Test.YtobkjnmdbkieeaaDoorASb
import Derived.Maps.AppendAt
import Derived.ArgAppend
namespace Go.Proofs.YtobkjnmdbkieeaaDoor
open Go.Fx
set_option maxRecDepth 100000
set_option linter.unusedSimpArgs false
set_option linter.unusedVariables false
/-- a word's cell. -/
def wC (n : Nat) : List Value := [.int .u32 (n : Nat)]
theorem wC_all (l : List Nat) : ∀ r ∈ l.map wC, r.all (fun v => v.oneCell') = true := by
  intro r hr
  obtain ⟨l, -, rfl⟩ := List.mem_map.1 hr
  rfl
theorem info_u32 : ∃ (i : TypeInfo) (z : Value), Tryd.prog.info? 24 = some i ∧ i.zero = some z ∧ i.size = 1 ∧ i.bytes = 4 ∧ z.cells.size = 1 := by
  have h : (Tryd.prog.info? 24).map (fun i => (i.size, i.bytes, i.zero.map (fun z => z.cells.size))) = some (1, 4, some 1) := by kernel_rfl
  obtain ⟨i, h2, h3⟩ := Option.map_eq_some_iff.1 h
  simp only [Prod.mk.injEq] at h3
  obtain ⟨h4, h5, h6⟩ := h3
  obtain ⟨z, h7, h8⟩ := Option.map_eq_some_iff.1 h6
  exact ⟨i, z, h2, h7, h4, h5, h8⟩
theorem appU {base : Nat} {v x : Value} {rows rows2 : List (List Value)} {w : World} {K : Value → World → Prop} (hown : OwnR w base 24 1 v rows) (hx : RowsAt w x 1 rows2) (h1 : ∀ r ∈ rows2, r.all (fun v => v.oneCell') = true)
    (hl : rows.length + rows2.length ≤ 1000000) (hbase : base ≤ w.heap.size) (hK : ∀ v' w', OwnR w' base 24 1 v' (rows ++ rows2) → App base v w w' → K v' w') : resV K ((Builtin.append_ #[23, 23] 23 #[v, x]).run Tryd.prog w) :=
  kV_appR Tryd.underlying23 (by kernel_rfl) (by omega) (bytes := 4) hown hx h1 (by simp only [maxLen]; omega) (by omega) hbase hK
theorem appU2 {base k : Nat} {v : Value} {rows : List (List Value)} {w : World} {g : Nat} (hown : OwnR w base 24 1 v rows) (hx : w.heap[g]? = some (.cells (wC k).toArray 24 (0, 0)))
    (hl : rows.length + 1 ≤ 1000000) (hbase : base ≤ w.heap.size) {K : Value → World → Prop} (hK : ∀ v' w', OwnR w' base 24 1 v' (rows ++ [wC k]) → App base v w w' → (∀ b, blockOf v' = some b → blockOf v = some b ∨ b = w.heap.size) → K v' w') : resV K ((Builtin.append_ #[23, 23] 23 #[v, .slice (some ⟨g, 0, none⟩) 1 1]).run Tryd.prog w) := by
  obtain ⟨i, z, i1, i2, i3, i4, i5⟩ := info_u32
  have hO : w.ownsRow base 24 1 v rows.length rows.flatten := by
    obtain ⟨h1, h2⟩ := hown.own
    refine ⟨h1, h2.imp id ?_⟩
    rintro ⟨g, cap, cur, rfl, h3, h4, h5, h6, h7, h8⟩
    exact ⟨g, cap, cur.toArray, rfl, h3, h4, h5, h6, by simpa using h7, by simpa using h8⟩
  obtain ⟨v2, w2, hr, -, -, -, hb⟩ := run_append_own_at (P := Tryd.prog) w base 23 23 24 i z 1 4 Tryd.underlying23 i1 i2 i3 i4 i5 (by omega) v rows.length rows.flatten hO ⟨g, 0, none⟩ 1 1 (wC k) rfl (fun j u hj => by
      refine cell_list (n := 1) hx j u ?_
      rw [show sub (wC k) 0 1 = wC k from rfl]
      exact hj) (by simp [wC]; rfl) (by simp only [maxLen]; omega) (by omega) hbase
  have h := appU (K := fun v' w' => OwnR w' base 24 1 v' (rows ++ [wC k]) ∧ App base v w w') hown (RowsAt.one (l := wC k) hx rfl) (wC_all [k]) (by simp; omega) hbase (fun v' w' h1 h2 => ⟨h1, h2⟩)
  rw [hr] at h ⊢
  refine hK _ _ h.1 h.2 fun b hv => ?_
  have e : ∀ v : Value, v.ownBlock = blockOf v := fun v => by
    unfold Value.ownBlock blockOf
    rfl
  rw [e, e] at hb
  rcases hb with h3 | h3
  · exact .inl (by rw [← h3]; exact hv)
  · rw [h3] at hv
    exact .inr (Option.some.inj hv).symm
/-- a line's words behind words. -/
def innerF (A T : List UInt8 → Option Int) : List (List UInt8) → List Nat → Option (List Nat)
  | [], out => some out
  | s :: l, out => if (parseF (toldF A T s out.length)).2 && encOk (parseF (toldF A T s out.length)).1 then innerF A T l (out ++ [encR (parseF (toldF A T s out.length)).1]) else none
/-- lines' words; or the line that is wrong. -/
def asmGo (st : List UInt8 → List (List UInt8)) (A T : List UInt8 → Option Int) : List Ln → (List UInt8 → Bool) → List Nat → Except Nat (List Nat)
  | [], _, out => .ok out
  | x :: L, met, out => if x.m then (if met x.t then .error x.n else asmGo st A T L (fun b => if b = x.t then true else met b) out) else
    match innerF A T (st x.t) out with
    | some out' => asmGo st A T L met out'
    | none => .error x.n
theorem innerF_len {A T : List UInt8 → Option Int} : ∀ (l : List (List UInt8)) (out out' : List Nat), innerF A T l out = some out' → out'.length = out.length + l.length
  | [], out, out', h => by
    unfold innerF at h
    rw [Option.some.injEq] at h
    rw [h]
    rfl
  | s :: l, out, out', h => by
    unfold innerF at h
    split at h
    · have := innerF_len l _ _ h
      rw [this, List.length_append, List.length_cons, List.length_cons, List.length_nil]
      omega
    · cases h
theorem parseF_ok (s : List UInt8) : izOk (parseF s).1 := by
  have zz : in64 0 := ⟨by decide, by decide⟩
  have hz : izOk izZ := ⟨zz, zz, zz, zz, zz⟩
  have hof := findN_lt (Lib.cut s [32]).1 69 0 rfl
  have hp : izOk (parseP s).1 := by
    unfold parseP
    suffices h : ∀ (z : List (UInt8 × List UInt8)) (p : IZ × Bool), izOk p.1 → izOk (z.foldl stepP p).1 by
      refine h _ _ ⟨?_, zz, zz, zz, zz⟩
      show in64 (parseOp s : Int)
      unfold parseOp in64
      omega
    intro z
    induction z with
    | nil => intro p h; exact h
    | cons x z ih => intro p h; rw [List.foldl_cons]; exact ih _ (stepP_ok h)
  unfold parseF
  split
  · exact hz
  · split
    · exact hp
    · exact hz
end Go.Proofs.YtobkjnmdbkieeaaDoor
