/-
  Rules by which an operation's run is reckoned: blocks of memory as lists of values ('World.upd', 'ldC', 'stC'), conditions that omega decides. Each is an equation for simp.
-/
import Derived.Test.YtlklhempbpphhaaFx
import Derived.WalkSpells
import Derived.WalkLawsBesides
import Derived.RowKit3
namespace Go.Fx

/-! ### memory, block by block -/
/-- block b holds these cells. -/
def World.upd (w : World) (b : Nat) (l : List Value) : World :=
  { w with heap := w.heap.modify b fun
      | .cells _ e f => .cells l.toArray e f
      | o => o }
theorem upd_size (w : World) (b : Nat) (l : List Value) : (World.upd w b l).heap.size = w.heap.size := by simp [World.upd]
theorem upd_os (w : World) (b : Nat) (l : List Value) : (World.upd w b l).os = w.os := rfl
theorem upd_tape (w : World) (b : Nat) (l : List Value) : (World.upd w b l).tape = w.tape := rfl
theorem upd_output (w : World) (b : Nat) (l : List Value) : (World.upd w b l).output = w.output := rfl
theorem upd_at {w : World} {b : Nat} {l l0 : List Value} {e : TypeId} {f : Nat × Nat} (h : w.heap[b]? = some (.cells l0.toArray e f)) : (World.upd w b l).heap[b]? = some (.cells l.toArray e f) := by
  simp [World.upd, Array.getElem?_modify, h]
theorem upd_ne {w : World} {b k : Nat} {l : List Value} (h : k ≠ b) : (World.upd w b l).heap[k]? = w.heap[k]? := by
  simp only [World.upd, Array.getElem?_modify]
  rw [if_neg (Ne.symm h)]
theorem alloc_at {w : World} {o : Obj} {k : Nat} (h : k = w.heap.size) : (w.alloc o).heap[k]? = some o := by
  subst h
  show (w.heap.push o)[w.heap.size]? = _
  simp
theorem alloc_ne {w : World} {o : Obj} {k : Nat} (h : k ≠ w.heap.size) : (w.alloc o).heap[k]? = w.heap[k]? := by
  show (w.heap.push o)[k]? = _
  rw [Array.getElem?_push, if_neg h]
theorem drew_heap (w : World) : w.drew.heap = w.heap := rfl
theorem upd_upd {w : World} {b : Nat} {l l' : List Value} : World.upd (World.upd w b l) b l' = World.upd w b l' := by
  unfold World.upd
  congr 1
  dsimp only
  apply Array.ext_getElem?
  intro i
  simp only [Array.getElem?_modify]
  split
  · rename_i h
    subst h
    cases w.heap[b]? with
    | none => rfl
    | some o => cases o <;> rfl
  · rfl
theorem upd_alloc {w : World} {l l' : List Value} {e : TypeId} {f : Nat × Nat} {k : Nat} (h : k = w.heap.size) : World.upd (w.alloc (.cells l.toArray e f)) k l' = w.alloc (.cells l'.toArray e f) := by
  subst h
  unfold World.upd World.alloc
  congr 1
  dsimp only
  apply Array.ext_getElem?
  intro i
  simp only [Array.getElem?_modify, Array.getElem?_push]
  split
  · rename_i h
    subst h
    simp
  · rename_i h
    rw [if_neg (Ne.symm h), if_neg (Ne.symm h)]

/-- a value's cells in a list, from a place on. -/
def sub (l : List Value) (o n : Nat) : List Value := (l.drop o).take n
def splice (l : List Value) (o : Nat) (v : List Value) : List Value := l.take o ++ v ++ l.drop (o + v.length)
theorem splice_length {l : List Value} {o : Nat} {v : List Value} (h : o + v.length ≤ l.length) : (splice l o v).length = l.length := by
  simp [splice]; omega
theorem splice_get {l : List Value} {o : Nat} {v : List Value} {i : Nat} (h : o + v.length ≤ l.length) : (splice l o v)[i]? = if i < o then l[i]? else if i < o + v.length then v[i - o]? else l[i]? := by
  unfold splice
  by_cases h1 : i < o
  · rw [if_pos h1, List.append_assoc, List.getElem?_append_left (by simp; omega), List.getElem?_take_of_lt h1]
  · rw [if_neg h1, List.append_assoc, List.getElem?_append_right (by simp; omega)]
    have hl : (l.take o).length = o := by simp; omega
    rw [hl]
    by_cases h2 : i < o + v.length
    · rw [if_pos h2, List.getElem?_append_left (by omega)]
    · rw [if_neg h2, List.getElem?_append_right (by omega), List.getElem?_drop]
      congr 1
      omega

theorem cell_of_block {w : World} {b : Nat} {l : List Value} {e : TypeId} {f : Nat × Nat} (h : w.heap[b]? = some (.cells l.toArray e f)) (o : Nat) : w.cell? ⟨b, o, none⟩ = l[o]? := by
  simp [World.cell?, h]
theorem frozen_of_block {w : World} {b : Nat} {c : Array Value} {e : TypeId} (h : w.heap[b]? = some (.cells c e (0, 0))) (o : Nat) : w.frozen? ⟨b, o, none⟩ = false := by
  simp [World.frozen?, h]
theorem add_off (b o n : Nat) : Addr.add ⟨b, o, none⟩ n = ⟨b, o + n, none⟩ := by
  unfold Addr.add
  split
  · rename_i h; subst h; rfl
  · rfl
theorem run_loadCells {P : Program} {w : World} {b : Nat} {l : List Value} {e : TypeId} {f : Nat × Nat} (h : w.heap[b]? = some (.cells l.toArray e f)) (o : Nat) :
    ∀ (n i : Nat) (acc : List Value), o + i + n ≤ l.length → (loadCellsFrom ⟨b, o, none⟩ i n acc.toArray).run P w = .ok (acc ++ (l.drop (o + i)).take n).toArray w := by
  intro n
  induction n with
  | zero => intro i acc _; simp [loadCellsFrom]
  | succ n ih =>
    intro i acc hl
    unfold loadCellsFrom
    have hlt : o + i < l.length := by omega
    have hc : w.cell? (Addr.add ⟨b, o, none⟩ i) = some l[o + i] := by
      rw [add_off, cell_of_block h, List.getElem?_eq_getElem hlt]
    simp only [Sem.run_bind, run_load, hc, Result.andThen_ok]
    have := ih (i + 1) (acc ++ [l[o + i]]) (by omega)
    simp only [List.push_toArray]
    rw [this]
    congr 2
    rw [List.append_assoc]
    congr 1
    rw [show o + (i + 1) = (o + i) + 1 by omega, List.drop_eq_getElem_cons hlt, List.take_succ_cons]
    rfl
/-- what is loaded from a block: one value, or several. -/
def ldC (w : World) (b o : Nat) (agg : Option Nat) : Result Value :=
  match w.heap[b]? with
  | some (.cells cs _ _) => match agg with
    | none => match cs[o]? with
      | some v => .ok v w
      | none => .halt (.stuck "") w
    | some n => if o + n ≤ cs.size then .ok (.agg (sub cs.toList o n).toArray) w else .halt (.stuck "") w
  | _ => .halt (.stuck "") w
theorem run_load1 {P : Program} {w : World} {t : TypeId} {b o : Nat} {l : List Value} {e : TypeId} {f : Nat × Nat} {v : Value} (ht : ∀ w, (isAgg t).run P w = .ok false w) (h : w.heap[b]? = some (.cells l.toArray e f)) (hv : l[o]? = some v) :
    (Instr.loadAt t (.pointer (some ⟨b, o, none⟩))).run P w = .ok v w := by
  have hc : w.cell? ⟨b, o, none⟩ = some v := by rw [cell_of_block h, hv]
  simp [Instr.loadAt, Instr.sureAddr, loadVar, ht, hc]
theorem run_loadN {P : Program} {w : World} {t : TypeId} {b o n : Nat} {l : List Value} {e : TypeId} {f : Nat × Nat} (ht : ∀ w, (isAgg t).run P w = .ok true w) (hn : ∀ w, (sizeOf t).run P w = .ok n w) (h : w.heap[b]? = some (.cells l.toArray e f)) (hl : o + n ≤ l.length) :
    (Instr.loadAt t (.pointer (some ⟨b, o, none⟩))).run P w = .ok (.agg (sub l o n).toArray) w := by
  have := run_loadCells (P := P) h o n 0 [] (by omega)
  simp only [List.nil_append, Nat.add_zero] at this
  simp [Instr.loadAt, Instr.sureAddr, loadVar, ht, hn, loadCells, this, sub]
theorem setCell_upd {w : World} {b o : Nat} {l : List Value} {e : TypeId} {f : Nat × Nat} (h : w.heap[b]? = some (.cells l.toArray e f)) (v : Value) : w.setCell ⟨b, o, none⟩ v = World.upd w b (l.set o v) := by
  unfold World.setCell World.upd
  congr 1
  dsimp only
  apply Array.ext_getElem?
  intro i
  simp only [Array.getElem?_modify]
  split
  · rename_i hi
    subst hi
    rw [h]
    simp
  · rfl
theorem run_storeCells {P : Program} {b : Nat} {e : TypeId} (o : Nat) : ∀ (vs : List Value) (i : Nat) (w : World) (l : List Value), w.heap[b]? = some (.cells l.toArray e (0, 0)) → o + i + vs.length ≤ l.length → (∀ v ∈ vs, v.oneCell' = true) →
    (storeCells ⟨b, o, none⟩ vs i).run P w = .ok () (World.upd w b (splice l (o + i) vs)) := by
  intro vs
  induction vs with
  | nil =>
    intro i w l h _ _
    have : World.upd w b l = w := by
      unfold World.upd
      congr 1
      apply Array.ext_getElem?
      intro k
      simp only [Array.getElem?_modify]
      split
      · rename_i hk; subst hk; rw [h]; rfl
      · rfl
    simp [storeCells, splice, this]
  | cons v vs ih =>
    intro i w l h hl hv
    have hv1 := hv v (List.mem_cons_self ..)
    have hlt : o + i < l.length := by rw [List.length_cons] at hl; omega
    have hc : w.cell? ⟨b, o + i, none⟩ = some l[o + i] := by rw [cell_of_block h, List.getElem?_eq_getElem hlt]
    have hf := frozen_of_block h (o + i)
    have hs : (store ⟨b, o + i, none⟩ v).run P w = .ok () (World.upd w b (l.set (o + i) v)) := by
      rw [← setCell_upd h]
      have := run_store P w ⟨b, o + i, none⟩ v .plain hv1
      rw [this]
      simp [hc, hf]
    have h2 := ih (i + 1) (World.upd w b (l.set (o + i) v)) (l.set (o + i) v) (upd_at h) (by rw [List.length_cons] at hl; rw [List.length_set]; omega) (fun u hu => hv u (List.mem_cons_of_mem _ hu))
    simp only [storeCells, Sem.run_bind, add_off, hs, Result.andThen_ok]
    rw [h2, upd_upd]
    congr 2
    have hlen : (v :: vs).length = vs.length + 1 := rfl
    rw [hlen] at hl
    apply List.ext_getElem?
    intro k
    rw [splice_get (by rw [List.length_set]; omega), splice_get (by omega), hlen]
    by_cases h1 : k < o + i
    · rw [if_pos (by omega), if_pos h1, List.getElem?_set_ne (by omega)]
    · rw [if_neg h1]
      by_cases h2 : k = o + i
      · subst h2
        rw [if_pos (by omega), if_pos (by omega), List.getElem?_set_self hlt]
        simp
      · rw [if_neg (by omega)]
        by_cases h3 : k < o + i + (vs.length + 1)
        · rw [if_pos (by omega), if_pos h3, show k - (o + i) = (k - (o + (i + 1))) + 1 by omega, List.getElem?_cons_succ]
        · rw [if_neg (by omega), if_neg h3, List.getElem?_set_ne (by omega)]

/-! ### the rules (each with the operation itself behind what does not fit) -/
def ldY (P : Program) (w : World) (b o : Nat) : Option Value → Result Value
  | some v => .ok v w
  | none => (load ⟨b, o, none⟩).run P w
def ldX (P : Program) (w : World) (b o : Nat) : Option Obj → Result Value
  | some (.cells c _ _) => ldY P w b o c[o]?
  | _ => (load ⟨b, o, none⟩).run P w
theorem load_eq {P : Program} {w : World} {b o : Nat} : (load ⟨b, o, none⟩).run P w = ldX P w b o w.heap[b]? := by
  unfold ldX
  split
  · rename_i c e f hb
    unfold ldY
    split
    · rename_i v hv
      have hc : w.cell? ⟨b, o, none⟩ = some v := by simp [World.cell?, hb, hv]
      rw [run_load, hc]
    · rfl
  · rfl
theorem ldX_cells {P : Program} {w : World} {b o : Nat} {l : List Value} {e : TypeId} {f : Nat × Nat} : ldX P w b o (some (.cells l.toArray e f)) = ldY P w b o l[o]? := by simp [ldX]
theorem ldY_some {P : Program} {w : World} {b o : Nat} {v : Value} : ldY P w b o (some v) = .ok v w := rfl
def lnX (P : Program) (w : World) (b o n : Nat) : Option Obj → Result (Array Value)
  | some (.cells c _ _) => if o + n ≤ c.size then .ok (sub c.toList o n).toArray w else (loadCells ⟨b, o, none⟩ n).run P w
  | _ => (loadCells ⟨b, o, none⟩ n).run P w
theorem loadCells_eq {P : Program} {w : World} {b o n : Nat} : (loadCells ⟨b, o, none⟩ n).run P w = lnX P w b o n w.heap[b]? := by
  unfold lnX
  split
  · rename_i c e f hb
    split
    · rename_i hl
      have := run_loadCells (P := P) (w := w) (b := b) (l := c.toList) (e := e) (f := f) (by simpa using hb) o n 0 [] (by simpa using hl)
      simp only [List.nil_append, Nat.add_zero] at this
      simpa [loadCells, sub] using this
    · rfl
  · rfl
theorem lnX_cells {P : Program} {w : World} {b o n : Nat} {l : List Value} {e : TypeId} {f : Nat × Nat} (h : o + n ≤ l.length) : lnX P w b o n (some (.cells l.toArray e f)) = .ok (sub l o n).toArray w := by
  simp [lnX, h]
def s1X (P : Program) (w : World) (b o : Nat) (v : Value) : Option Obj → Result Unit
  | some (.cells c _ f) => if v.oneCell' = true ∧ f = (0, 0) ∧ o < c.size then .ok () (World.upd w b (c.toList.set o v)) else (store ⟨b, o, none⟩ v).run P w
  | _ => (store ⟨b, o, none⟩ v).run P w
theorem store_eq {P : Program} {w : World} {b o : Nat} {v : Value} : (store ⟨b, o, none⟩ v).run P w = s1X P w b o v w.heap[b]? := by
  unfold s1X
  split
  · rename_i c e f hb
    split
    · rename_i hl
      obtain ⟨hv, hf, ho⟩ := hl
      subst hf
      have hb' : w.heap[b]? = some (.cells c.toList.toArray e (0, 0)) := by simpa using hb
      rw [← setCell_upd hb', run_store P w ⟨b, o, none⟩ v .plain hv]
      have hc : w.cell? ⟨b, o, none⟩ = some c[o] := by rw [cell_of_block hb']; simp [ho]
      simp [hc, frozen_of_block hb]
    · rfl
  · rfl
theorem s1X_cells {P : Program} {w : World} {b o : Nat} {v : Value} {l : List Value} {e : TypeId} (hv : v.oneCell' = true) (h : o < l.length) : s1X P w b o v (some (.cells l.toArray e (0, 0))) = .ok () (World.upd w b (l.set o v)) := by
  simp [s1X, hv, h]
def snX (P : Program) (w : World) (b o : Nat) (vs : List Value) : Option Obj → Result Unit
  | some (.cells c _ f) => if (∀ v ∈ vs, v.oneCell' = true) ∧ f = (0, 0) ∧ o + vs.length ≤ c.size then .ok () (World.upd w b (splice c.toList o vs)) else (storeCells ⟨b, o, none⟩ vs 0).run P w
  | _ => (storeCells ⟨b, o, none⟩ vs 0).run P w
theorem storeCells_eq {P : Program} {w : World} {b o : Nat} {vs : List Value} : (storeCells ⟨b, o, none⟩ vs 0).run P w = snX P w b o vs w.heap[b]? := by
  unfold snX
  split
  · rename_i c e f hb
    split
    · rename_i hl
      obtain ⟨hv, hf, ho⟩ := hl
      subst hf
      have := run_storeCells (P := P) (b := b) (e := e) o vs 0 w c.toList (by simpa using hb) (by simpa using ho) hv
      simpa using this
    · rfl
  · rfl
theorem snX_cells {P : Program} {w : World} {b o : Nat} {vs : List Value} {l : List Value} {e : TypeId} (hv : ∀ v ∈ vs, v.oneCell' = true) (h : o + vs.length ≤ l.length) : snX P w b o vs (some (.cells l.toArray e (0, 0))) = .ok () (World.upd w b (splice l o vs)) := by
  simp only [snX]
  rw [if_pos ⟨hv, by simpa using h⟩]
theorem loadAt_eq {P : Program} {w : World} {t : TypeId} {b o : Nat} : (Instr.loadAt t (.pointer (some ⟨b, o, none⟩))).run P w =
    ((isAgg t).run P w).andThen fun g w1 => if g then ((sizeOf t).run P w1).andThen fun n w2 => ((loadCells ⟨b, o, none⟩ n).run P w2).andThen fun c w3 => .ok (.agg c) w3 else (load ⟨b, o, none⟩).run P w1 := by
  simp only [Instr.loadAt, Instr.sureAddr, loadVar, Sem.run_bind, Sem.run_pure, Result.andThen_ok]
  congr 1
  funext g w1
  cases g <;> simp
theorem storeAt_eq {P : Program} {w : World} {t : TypeId} {b o n : Nat} {v : Value} (hn : (sizeOf t).run P w = .ok n w) (h : v.cells.size = n) : (Instr.storeAt t (.pointer (some ⟨b, o, none⟩)) v).run P w = (storeCells ⟨b, o, none⟩ v.cells.toList 0).run P w := by
  simp [Instr.storeAt, Instr.sureAddr, storeVar, hn, h]

/-! ### numbers -/
theorem run_add {P : Program} {w : World} {t : TypeId} {x y : Operand} {k : IntKind} {a b : Int} : (binV .add t x y (.int k a) (.int k b)).run P w = .ok (.int k (k.wrap (a + b))) w := by
  simp [binV, eqGuard, binOp, Op.intArith]
theorem run_sub {P : Program} {w : World} {t : TypeId} {x y : Operand} {k : IntKind} {a b : Int} : (binV .sub t x y (.int k a) (.int k b)).run P w = .ok (.int k (k.wrap (a - b))) w := by
  simp [binV, eqGuard, binOp, Op.intArith]
theorem run_mul {P : Program} {w : World} {t : TypeId} {x y : Operand} {k : IntKind} {a b : Int} : (binV .mul t x y (.int k a) (.int k b)).run P w = .ok (.int k (k.wrap (a * b))) w := by
  simp [binV, eqGuard, binOp, Op.intArith]
theorem run_quo {P : Program} {w : World} {t : TypeId} {x y : Operand} {k : IntKind} {a b : Int} (hb : b ≠ 0) : (binV .quo t x y (.int k a) (.int k b)).run P w = .ok (.int k (k.wrap (a.tdiv b))) w := by
  simp [binV, eqGuard, binOp, Op.intDiv, hb]
theorem run_rem {P : Program} {w : World} {t : TypeId} {x y : Operand} {k : IntKind} {a b : Int} (hb : b ≠ 0) : (binV .rem t x y (.int k a) (.int k b)).run P w = .ok (.int k (a.tmod b)) w := by
  simp [binV, eqGuard, binOp, Op.intDiv, hb]
def bitI (op : BinOp) (k : IntKind) (a b : Int) : Int :=
  match op with
  | .and => k.wrap (BitVec.ofInt k.bits a &&& BitVec.ofInt k.bits b).toNat
  | .or => k.wrap (BitVec.ofInt k.bits a ||| BitVec.ofInt k.bits b).toNat
  | .xor => k.wrap (BitVec.ofInt k.bits a ^^^ BitVec.ofInt k.bits b).toNat
  | _ => k.wrap (BitVec.ofInt k.bits a &&& ~~~ BitVec.ofInt k.bits b).toNat
theorem run_and {P : Program} {w : World} {t : TypeId} {x y : Operand} {k : IntKind} {a b : Int} : (binV .and t x y (.int k a) (.int k b)).run P w = .ok (.int k (bitI .and k a b)) w := by
  simp [binV, eqGuard, binOp, Op.intBits, bitI]
theorem run_or {P : Program} {w : World} {t : TypeId} {x y : Operand} {k : IntKind} {a b : Int} : (binV .or t x y (.int k a) (.int k b)).run P w = .ok (.int k (bitI .or k a b)) w := by
  simp [binV, eqGuard, binOp, Op.intBits, bitI]
theorem run_xor {P : Program} {w : World} {t : TypeId} {x y : Operand} {k : IntKind} {a b : Int} : (binV .xor t x y (.int k a) (.int k b)).run P w = .ok (.int k (bitI .xor k a b)) w := by
  simp [binV, eqGuard, binOp, Op.intBits, bitI]
theorem run_andNot {P : Program} {w : World} {t : TypeId} {x y : Operand} {k : IntKind} {a b : Int} : (binV .andNot t x y (.int k a) (.int k b)).run P w = .ok (.int k (bitI .andNot k a b)) w := by
  simp [binV, eqGuard, binOp, Op.intBits, bitI]
theorem run_shl {P : Program} {w : World} {t : TypeId} {x y : Operand} {k k' : IntKind} {a b : Int} (hb : 0 ≤ b) : (binV .shl t x y (.int k a) (.int k' b)).run P w = .ok (.int k (k.wrap (a * 2 ^ min b.toNat k.bits))) w := by
  have : ¬ b < 0 := by omega
  simp [binV, eqGuard, binOp, Op.shift, this]
theorem run_shr {P : Program} {w : World} {t : TypeId} {x y : Operand} {k k' : IntKind} {a b : Int} (hb : 0 ≤ b) : (binV .shr t x y (.int k a) (.int k' b)).run P w = .ok (.int k (a.fdiv (2 ^ min b.toNat k.bits))) w := by
  have : ¬ b < 0 := by omega
  simp [binV, eqGuard, binOp, Op.shift, this]
theorem run_eql {P : Program} {w : World} {t : TypeId} {x y : Operand} {k : IntKind} {a b : Int} : (binV .eql t x y (.int k a) (.int k b)).run P w = .ok (.bool (decide (a = b))) w := by
  simp [binV, eqGuard, binOp, Op.intCmp]
  rfl
theorem run_neq {P : Program} {w : World} {t : TypeId} {x y : Operand} {k : IntKind} {a b : Int} : (binV .neq t x y (.int k a) (.int k b)).run P w = .ok (.bool (decide (a ≠ b))) w := by
  simp [binV, eqGuard, binOp, Op.intCmp, bne]
  rfl
theorem run_lss {P : Program} {w : World} {t : TypeId} {x y : Operand} {k : IntKind} {a b : Int} : (binV .lss t x y (.int k a) (.int k b)).run P w = .ok (.bool (decide (a < b))) w := by
  simp [binV, eqGuard, binOp, Op.intCmp]
theorem run_leq {P : Program} {w : World} {t : TypeId} {x y : Operand} {k : IntKind} {a b : Int} : (binV .leq t x y (.int k a) (.int k b)).run P w = .ok (.bool (decide (a ≤ b))) w := by
  simp [binV, eqGuard, binOp, Op.intCmp]
theorem run_gtr {P : Program} {w : World} {t : TypeId} {x y : Operand} {k : IntKind} {a b : Int} : (binV .gtr t x y (.int k a) (.int k b)).run P w = .ok (.bool (decide (b < a))) w := by
  simp [binV, eqGuard, binOp, Op.intCmp]
theorem run_geq {P : Program} {w : World} {t : TypeId} {x y : Operand} {k : IntKind} {a b : Int} : (binV .geq t x y (.int k a) (.int k b)).run P w = .ok (.bool (decide (b ≤ a))) w := by
  simp [binV, eqGuard, binOp, Op.intCmp]
theorem run_not {P : Program} {w : World} {b : Bool} : (Op.unary .not (.bool b)).run P w = .ok (.bool !b) w := rfl
theorem run_neg {P : Program} {w : World} {k : IntKind} {a : Int} : (Op.unary .neg (.int k a)).run P w = .ok (.int k (k.wrap (0 - a))) w := rfl
theorem run_extract {P : Program} {w : World} {l : List Value} {i : Nat} {v : Value} (h : l[i]? = some v) : (Instr.extract (.tuple l.toArray) i).run P w = .ok v w := by
  simp [Instr.extract, h]
theorem wrap_u64 {n : Int} (h : 0 ≤ n ∧ n < 18446744073709551616) : IntKind.u64.wrap n = n := by
  unfold IntKind.wrap
  simp [IntKind.bits, IntKind.signed]
  omega
theorem wrap_u32 {n : Int} (h : 0 ≤ n ∧ n < 4294967296) : IntKind.u32.wrap n = n := by
  unfold IntKind.wrap
  simp [IntKind.bits, IntKind.signed]
  omega
theorem wrap_u8 {n : Int} (h : 0 ≤ n ∧ n < 256) : IntKind.u8.wrap n = n := by
  unfold IntKind.wrap
  simp [IntKind.bits, IntKind.signed]
  omega
theorem wrap_i64 {n : Int} (h : -9223372036854775808 ≤ n ∧ n < 9223372036854775808) : IntKind.i64.wrap n = n := by
  unfold IntKind.wrap
  simp [IntKind.bits, IntKind.signed]
  omega
theorem wrap_i32 {n : Int} (h : -2147483648 ≤ n ∧ n < 2147483648) : IntKind.i32.wrap n = n := by
  unfold IntKind.wrap
  simp [IntKind.bits, IntKind.signed]
  omega
theorem dec_true {p : Prop} [Decidable p] (h : p) : decide p = true := by simp [h]
theorem dec_false {p : Prop} [Decidable p] (h : ¬ p) : decide p = false := by simp [h]
/-! ### memory's shapes -/
theorem run_field {P : Program} {s : TypeId} {fields : Array Field} {f : Field} {i n : Nat} (h : P.underlying s = some (.struct fields)) (hf : fields[i]? = some f) (hs : ∀ w, (sizeOf f.type).run P w = .ok n w) (hn : n ≠ 0) (b o : Nat) (w : World) :
    (Instr.fieldAt s (.pointer (some ⟨b, o, none⟩)) i).run P w = .ok (.pointer (some ⟨b, o + f.offset, none⟩)) w := by
  simp [Instr.fieldAt, Instr.sureAddr, run_underlying h, hf, fieldPlace, hs, hn, add_off]
theorem run_fieldO {P : Program} {s ft : TypeId} {fields : Array Field} (i off n : Nat) (h : P.underlying s = some (.struct fields)) (hf : (fields[i]?).map (fun f => (f.offset, f.type)) = some (off, ft)) (hs : ∀ w, (sizeOf ft).run P w = .ok n w) (hn : n ≠ 0) (b o : Nat) (w : World) :
    (Instr.fieldAt s (.pointer (some ⟨b, o, none⟩)) i).run P w = .ok (.pointer (some ⟨b, o + off, none⟩)) w := by
  obtain ⟨f, h1, h2⟩ := Option.map_eq_some_iff.1 hf
  simp only [Prod.mk.injEq] at h2
  obtain ⟨rfl, rfl⟩ := h2
  exact run_field h h1 hs hn b o w
theorem run_index_array {P : Program} {t e : TypeId} {len n : Nat} (h : P.underlying t = some (.array len e)) (hs : ∀ w, (sizeOf e).run P w = .ok n w) (b o : Nat) (k : IntKind) (i : Int) (w : World) (hi : 0 ≤ i ∧ i < len) :
    (Instr.indexAt t (.pointer (some ⟨b, o, none⟩)) (.int k i)).run P w = .ok (.pointer (some ⟨b, o + i.toNat * n, none⟩)) w := by
  simp [Instr.indexAt, asIntOf, run_underlying h, Instr.sureAddr, hi, hs, add_off]
theorem run_index_slice {P : Program} {t e : TypeId} {n : Nat} (h : P.underlying t = some (.slice e)) (hs : ∀ w, (sizeOf e).run P w = .ok n w) (b o len cap : Nat) (k : IntKind) (i : Int) (w : World) (hi : 0 ≤ i ∧ i < len) :
    (Instr.indexAt t (.slice (some ⟨b, o, none⟩) len cap) (.int k i)).run P w = .ok (.pointer (some ⟨b, o + i.toNat * n, none⟩)) w := by
  simp [Instr.indexAt, asIntOf, run_underlying h, hi, hs, add_off]
theorem run_len_slice {P : Program} {t e r : TypeId} (h : P.underlying t = some (.slice e)) (a : Option Addr) (len cap : Nat) (w : World) :
    (Builtin.len_ #[t] r #[.slice a len cap]).run P w = .ok (.int .i64 len) w := by
  simp [Builtin.len_, run_underlying h, goInt]
theorem run_alloc {P : Program} {t : TypeId} {z : Value} (h : ∀ w, (zeroValue t).run P w = .ok z w) (w : World) :
    (Instr.alloc t true (.tuple #[])).run P w = .ok (.pointer (some ⟨w.heap.size, 0, none⟩)) (w.alloc (.cells z.cells t)) := by
  simp [Instr.alloc, h, newVar, newRow]
theorem run_box {P : Program} {t : TypeId} {v : Value} (w : World) :
    (Instr.box t v).run P w = .ok (.pointer (some ⟨w.heap.size, 0, none⟩)) (w.alloc (.cells v.cells t)) := by
  simp [Instr.box, newVar, newRow]
theorem run_load1' {P : Program} {t : TypeId} (ht : ∀ w, (isAgg t).run P w = .ok false w) (b o : Nat) (w : World) :
    (Instr.loadAt t (.pointer (some ⟨b, o, none⟩))).run P w = ldX P w b o w.heap[b]? := by
  rw [loadAt_eq, ht]; exact load_eq
def lnV (P : Program) (w : World) (b o n : Nat) (ob : Option Obj) : Result Value := (lnX P w b o n ob).andThen fun c w' => .ok (.agg c) w'
theorem lnV_cells {P : Program} {w : World} {b o n : Nat} {l : List Value} {e : TypeId} {f : Nat × Nat} (h : o + n ≤ l.length) : lnV P w b o n (some (.cells l.toArray e f)) = .ok (.agg (sub l o n).toArray) w := by
  unfold lnV; rw [lnX_cells h]; rfl
theorem run_loadN' {P : Program} {t : TypeId} {n : Nat} (ht : ∀ w, (isAgg t).run P w = .ok true w) (hn : ∀ w, (sizeOf t).run P w = .ok n w) (b o : Nat) (w : World) :
    (Instr.loadAt t (.pointer (some ⟨b, o, none⟩))).run P w = lnV P w b o n w.heap[b]? := by
  rw [loadAt_eq, ht]
  simp only [Result.andThen_ok, if_true, hn]
  rw [loadCells_eq]; rfl
theorem run_store1' {P : Program} {t : TypeId} (hn : ∀ w, (sizeOf t).run P w = .ok 1 w) (b o : Nat) (v : Value) (w : World) (hv : v.oneCell' = true) :
    (Instr.storeAt t (.pointer (some ⟨b, o, none⟩)) v).run P w = s1X P w b o v w.heap[b]? := by
  have hc : v.cells = #[v] := by cases v <;> first | rfl | cases hv
  rw [storeAt_eq (hn w) (by rw [hc]; rfl), hc]
  simp [storeCells, add_off]
  exact store_eq
theorem run_storeN' {P : Program} {t : TypeId} {n : Nat} (hn : ∀ w, (sizeOf t).run P w = .ok n w) (b o : Nat) (vs : List Value) (w : World) (hl : vs.length = n) :
    (Instr.storeAt t (.pointer (some ⟨b, o, none⟩)) (.agg vs.toArray)).run P w = snX P w b o vs w.heap[b]? := by
  rw [storeAt_eq (hn w) (by simpa [Value.cells] using hl)]
  exact storeCells_eq
theorem run_convert_int {P : Program} {s d : TypeId} {sd : TypeDesc} {k : IntKind} (h1 : P.underlying s = some sd) (h2 : P.underlying d = some (.int k)) (k0 : IntKind) (a : Int) (w : World) :
    (convert s d (.int k0 a)).run P w = .ok (.int k (k.wrap a)) w := by
  unfold convert
  simp only [Sem.run_bind, run_underlying h1, run_underlying h2, Result.andThen_ok, Conv.intToInt, Sem.run_pure]
theorem kN_callf {P : Program} {f : FuncId} (hc : ∀ args w, (callFunc f args).run P w = .ok (.enter f args) w) (first cap args : List Value) (w : World) (K : Value → World → Prop) :
    kN P (callN (.func (.func f) first.toArray cap.toArray) args.toArray) w K = callsK P f (first ++ args ++ cap).toArray w K := by
  rw [kN_call, hc]
  simp [resK, resKF, callsK]

theorem cells_agg (c : Array Value) : (Value.agg c).cells = c := rfl
theorem cells_int (k : IntKind) (n : Int) : (Value.int k n).cells = [Value.int k n].toArray := rfl
theorem cells_bool (b : Bool) : (Value.bool b).cells = [Value.bool b].toArray := rfl
theorem cells_ptr (a : Option Addr) : (Value.pointer a).cells = [Value.pointer a].toArray := rfl
theorem cells_slice (a : Option Addr) (n c : Nat) : (Value.slice a n c).cells = [Value.slice a n c].toArray := rfl
theorem cells_func (f : Fn) (a b : Array Value) : (Value.func f a b).cells = [Value.func f a b].toArray := rfl
theorem cells_map (r : Option Nat) : (Value.map r).cells = [Value.map r].toArray := rfl
theorem cells_str (s : ByteArray) : (Value.string s).cells = [Value.string s].toArray := rfl
theorem one_int (k : IntKind) (n : Int) : (Value.int k n).oneCell' = true := rfl
theorem one_bool (b : Bool) : (Value.bool b).oneCell' = true := rfl
theorem one_ptr (a : Option Addr) : (Value.pointer a).oneCell' = true := rfl
theorem one_slice (a : Option Addr) (n c : Nat) : (Value.slice a n c).oneCell' = true := rfl
theorem one_func (f : Fn) (a b : Array Value) : (Value.func f a b).oneCell' = true := rfl
theorem one_map (r : Option Nat) : (Value.map r).oneCell' = true := rfl
theorem one_str (s : ByteArray) : (Value.string s).oneCell' = true := rfl
/-- the walk's own rules, as one. -/
theorem gen1 {P : Program} :
    (∀ (s : Sem Value) (w : World) (K : Value → World → Prop), kV P s w K = resV K (s.run P w)) ∧ (∀ (s : Sem Unit) (w : World) (K : Value → World → Prop), kU P s w K = resV (fun _ w' => K undef w') (s.run P w)) ∧
    (∀ (s : Sem Value) (w : World) (K : Value → Prop), sV P s w K = resQ w K (s.run P w)) ∧ (∀ (s : Sem Unit) (w : World) (K : Value → Prop), sU P s w K = resQ w (fun _ => K undef) (s.run P w)) ∧
    (∀ (s : Sem Value) (K : Value → Prop), pV P s K = resPV K (fun w => s.run P w)) ∧
    (∀ (c : Bool) (a b : Value) (w : World) (K : Value → World → Prop), kN P (pickN (.bool c) a b) w K = K (if c then a else b) w) ∧ (∀ (c : Bool) (a b : Value) (w : World) (K : Value → Prop), sN P (pickN (.bool c) a b) w K = K (if c then a else b)) ∧
    (∀ (a : Addr) (w : World) (K : Value → World → Prop), kN P (nilN (.pointer (some a))) w K = K (.pointer (some a)) w) ∧ (∀ (a : Addr) (w : World) (K : Value → Prop), sN P (nilN (.pointer (some a))) w K = K (.pointer (some a))) :=
  ⟨fun _ _ _ => kV_eq, fun _ _ _ => kU_eq, fun _ _ _ => sV_eq, fun _ _ _ => sU_eq, fun _ _ => pV_eq, fun _ _ _ _ _ => kN_pick, fun _ _ _ _ _ => sN_pick,
   fun _ _ _ => kN_nil, fun _ _ _ => sN_nil⟩
theorem gen0 :
    (∀ (K : Value → World → Prop) (v : Value) (w : World), resV K (.ok v w) = K v w) ∧ (∀ (K : Unit → World → Prop) (v : Unit) (w : World), resV K (.ok v w) = K v w) ∧
    (∀ (K : Value → Prop) (v : Value) (w : World), resQ w K (.ok v w) = K v) ∧ (∀ (K : Unit → Prop) (v : Unit) (w : World), resQ w K (.ok v w) = K v) ∧ (∀ (K : Value → Prop) (v : Value), resPV K (fun w => .ok v w) = K v) ∧ (∀ (G : World → Prop) (w : World), drewK G w = G w.drew) :=
  ⟨fun _ _ _ => rfl, fun _ _ _ => rfl, fun _ _ _ => resQ_ok, fun _ _ _ => resQ_ok, fun _ _ => resPV_ok, fun _ _ => rfl⟩
theorem gen2 : (∀ (A B : Prop), condK (.bool true) A B = A) ∧ (∀ (A B : Prop), condK (.bool false) A B = B) ∧
    (∀ (A : (Value → World → Prop) → Prop) (w : World) (K : Value → World → Prop), gdK (yb (.bool true)) true A w K = A K) ∧ (∀ (A : (Value → World → Prop) → Prop) (w : World) (K : Value → World → Prop), gdK (yb (.bool false)) false A w K = A K) ∧
    (∀ (A : (Value → World → Prop) → Prop) (w : World) (K : Value → World → Prop), gdK (yb (.bool false)) true A w K = K undef w) ∧ (∀ (A : (Value → World → Prop) → Prop) (w : World) (K : Value → World → Prop), gdK (yb (.bool true)) false A w K = K undef w) ∧
    (∀ (want : Bool) (A : (Value → World → Prop) → Prop) (w : World) (K : Value → World → Prop), gdK (yb undef) want A w K = K undef w) ∧
    (∀ (A : (Value → Prop) → Prop) (K : Value → Prop), gdS (yb (.bool true)) true A K = A K) ∧ (∀ (A : (Value → Prop) → Prop) (K : Value → Prop), gdS (yb (.bool false)) false A K = A K) ∧
    (∀ (A : (Value → Prop) → Prop) (K : Value → Prop), gdS (yb (.bool false)) true A K = K undef) ∧ (∀ (A : (Value → Prop) → Prop) (K : Value → Prop), gdS (yb (.bool true)) false A K = K undef) ∧
    (∀ (want : Bool) (A : (Value → Prop) → Prop) (K : Value → Prop), gdS (yb undef) want A K = K undef) :=
  ⟨fun _ _ => condK_true, fun _ _ => condK_false, fun _ _ _ => gdK_yes, fun _ _ _ => gdK_yes, fun _ _ _ => gdK_no1, fun _ _ _ => gdK_no2, fun _ _ _ _ => gdK_no3, fun _ _ => gdS_yes, fun _ _ => gdS_yes, fun _ _ => gdS_no1, fun _ _ => gdS_no2, fun _ _ _ => gdS_no3⟩
theorem numR {P : Program} :
    (∀ (w : World) (t : TypeId) (x y : Operand) (k : IntKind) (a b : Int), (binV .add t x y (.int k a) (.int k b)).run P w = .ok (.int k (k.wrap (a + b))) w) ∧ (∀ (w : World) (t : TypeId) (x y : Operand) (k : IntKind) (a b : Int), (binV .sub t x y (.int k a) (.int k b)).run P w = .ok (.int k (k.wrap (a - b))) w) ∧
    (∀ (w : World) (t : TypeId) (x y : Operand) (k : IntKind) (a b : Int), (binV .mul t x y (.int k a) (.int k b)).run P w = .ok (.int k (k.wrap (a * b))) w) ∧
    (∀ (w : World) (t : TypeId) (x y : Operand) (k : IntKind) (a b : Int), b ≠ 0 → (binV .quo t x y (.int k a) (.int k b)).run P w = .ok (.int k (k.wrap (a.tdiv b))) w) ∧ (∀ (w : World) (t : TypeId) (x y : Operand) (k : IntKind) (a b : Int), b ≠ 0 → (binV .rem t x y (.int k a) (.int k b)).run P w = .ok (.int k (a.tmod b)) w) ∧
    (∀ (w : World) (t : TypeId) (x y : Operand) (k : IntKind) (a b : Int), (binV .and t x y (.int k a) (.int k b)).run P w = .ok (.int k (bitI .and k a b)) w) ∧ (∀ (w : World) (t : TypeId) (x y : Operand) (k : IntKind) (a b : Int), (binV .or t x y (.int k a) (.int k b)).run P w = .ok (.int k (bitI .or k a b)) w) ∧
    (∀ (w : World) (t : TypeId) (x y : Operand) (k : IntKind) (a b : Int), (binV .xor t x y (.int k a) (.int k b)).run P w = .ok (.int k (bitI .xor k a b)) w) ∧ (∀ (w : World) (t : TypeId) (x y : Operand) (k : IntKind) (a b : Int), (binV .andNot t x y (.int k a) (.int k b)).run P w = .ok (.int k (bitI .andNot k a b)) w) ∧
    (∀ (w : World) (t : TypeId) (x y : Operand) (k k' : IntKind) (a b : Int), 0 ≤ b → (binV .shl t x y (.int k a) (.int k' b)).run P w = .ok (.int k (k.wrap (a * 2 ^ min b.toNat k.bits))) w) ∧ (∀ (w : World) (t : TypeId) (x y : Operand) (k k' : IntKind) (a b : Int), 0 ≤ b → (binV .shr t x y (.int k a) (.int k' b)).run P w = .ok (.int k (a.fdiv (2 ^ min b.toNat k.bits))) w) ∧
    (∀ (w : World) (t : TypeId) (x y : Operand) (k : IntKind) (a b : Int), (binV .eql t x y (.int k a) (.int k b)).run P w = .ok (.bool (decide (a = b))) w) ∧ (∀ (w : World) (t : TypeId) (x y : Operand) (k : IntKind) (a b : Int), (binV .neq t x y (.int k a) (.int k b)).run P w = .ok (.bool (decide (a ≠ b))) w) ∧
    (∀ (w : World) (t : TypeId) (x y : Operand) (k : IntKind) (a b : Int), (binV .lss t x y (.int k a) (.int k b)).run P w = .ok (.bool (decide (a < b))) w) ∧ (∀ (w : World) (t : TypeId) (x y : Operand) (k : IntKind) (a b : Int), (binV .leq t x y (.int k a) (.int k b)).run P w = .ok (.bool (decide (a ≤ b))) w) ∧
    (∀ (w : World) (t : TypeId) (x y : Operand) (k : IntKind) (a b : Int), (binV .gtr t x y (.int k a) (.int k b)).run P w = .ok (.bool (decide (b < a))) w) ∧ (∀ (w : World) (t : TypeId) (x y : Operand) (k : IntKind) (a b : Int), (binV .geq t x y (.int k a) (.int k b)).run P w = .ok (.bool (decide (b ≤ a))) w) ∧
    (∀ (w : World) (b : Bool), (Op.unary .not (.bool b)).run P w = .ok (.bool !b) w) ∧ (∀ (w : World) (k : IntKind) (a : Int), (Op.unary .neg (.int k a)).run P w = .ok (.int k (k.wrap (0 - a))) w) :=
  ⟨fun _ _ _ _ _ _ _ => run_add, fun _ _ _ _ _ _ _ => run_sub, fun _ _ _ _ _ _ _ => run_mul, fun _ _ _ _ _ _ _ => run_quo, fun _ _ _ _ _ _ _ => run_rem, fun _ _ _ _ _ _ _ => run_and, fun _ _ _ _ _ _ _ => run_or, fun _ _ _ _ _ _ _ => run_xor, fun _ _ _ _ _ _ _ => run_andNot,
   fun _ _ _ _ _ _ _ _ => run_shl, fun _ _ _ _ _ _ _ _ => run_shr, fun _ _ _ _ _ _ _ => run_eql, fun _ _ _ _ _ _ _ => run_neq, fun _ _ _ _ _ _ _ => run_lss, fun _ _ _ _ _ _ _ => run_leq, fun _ _ _ _ _ _ _ => run_gtr, fun _ _ _ _ _ _ _ => run_geq, fun _ _ => run_not, fun _ _ _ => run_neg⟩
theorem memR {P : Program} :
    (∀ (t : TypeId) (v : Value) (w : World), (Instr.box t v).run P w = .ok (.pointer (some ⟨w.heap.size, 0, none⟩)) (w.alloc (.cells v.cells t))) ∧
    (∀ (w : World) (b o : Nat) (l : List Value) (e : TypeId) (f : Nat × Nat), ldX P w b o (some (.cells l.toArray e f)) = ldY P w b o l[o]?) ∧ (∀ (w : World) (b o : Nat) (v : Value), ldY P w b o (some v) = .ok v w) ∧
    (∀ (w : World) (b o n : Nat) (l : List Value) (e : TypeId) (f : Nat × Nat), o + n ≤ l.length → lnV P w b o n (some (.cells l.toArray e f)) = .ok (.agg (sub l o n).toArray) w) ∧
    (∀ (w : World) (b o : Nat) (v : Value) (l : List Value) (e : TypeId), v.oneCell' = true → o < l.length → s1X P w b o v (some (.cells l.toArray e (0, 0))) = .ok () (World.upd w b (l.set o v))) ∧
    (∀ (w : World) (b o : Nat) (vs : List Value) (l : List Value) (e : TypeId), vs.all (fun v => v.oneCell') = true → o + vs.length ≤ l.length → snX P w b o vs (some (.cells l.toArray e (0, 0))) = .ok () (World.upd w b (splice l o vs))) :=
  ⟨fun _ _ w => run_box w, fun _ _ _ _ _ _ => ldX_cells, fun _ _ _ _ => ldY_some, fun _ _ _ _ _ _ _ h => lnV_cells h, fun _ _ _ _ _ _ h1 h2 => s1X_cells h1 h2, fun _ _ _ _ _ _ h1 h2 => snX_cells (List.all_eq_true.1 h1) h2⟩
theorem valR : (∀ c : Array Value, (Value.agg c).cells = c) ∧ (∀ (k : IntKind) (n : Int), (Value.int k n).cells = [Value.int k n].toArray) ∧ (∀ b : Bool, (Value.bool b).cells = [Value.bool b].toArray) ∧ (∀ a : Option Addr, (Value.pointer a).cells = [Value.pointer a].toArray) ∧
    (∀ (a : Option Addr) (n c : Nat), (Value.slice a n c).cells = [Value.slice a n c].toArray) ∧ (∀ (f : Fn) (a b : Array Value), (Value.func f a b).cells = [Value.func f a b].toArray) ∧ (∀ r : Option Nat, (Value.map r).cells = [Value.map r].toArray) ∧ (∀ s : ByteArray, (Value.string s).cells = [Value.string s].toArray) ∧
    (∀ (k : IntKind) (n : Int), (Value.int k n).oneCell' = true) ∧ (∀ b : Bool, (Value.bool b).oneCell' = true) ∧ (∀ a : Option Addr, (Value.pointer a).oneCell' = true) ∧ (∀ (a : Option Addr) (n c : Nat), (Value.slice a n c).oneCell' = true) ∧
    (∀ (f : Fn) (a b : Array Value), (Value.func f a b).oneCell' = true) ∧ (∀ r : Option Nat, (Value.map r).oneCell' = true) ∧ (∀ s : ByteArray, (Value.string s).oneCell' = true) :=
  ⟨cells_agg, cells_int, cells_bool, cells_ptr, cells_slice, cells_func, cells_map, cells_str, one_int, one_bool, one_ptr, one_slice, one_func, one_map, one_str⟩
theorem heapR : (∀ (w : World) (o : Obj), (w.alloc o).heap.size = w.heap.size + 1) ∧ (∀ (w : World) (b : Nat) (l : List Value), (World.upd w b l).heap.size = w.heap.size) ∧ (∀ w : World, w.drew.heap = w.heap) ∧
    (∀ (w : World) (o : Obj) (k : Nat), k = w.heap.size → (w.alloc o).heap[k]? = some o) ∧ (∀ (w : World) (o : Obj) (k : Nat), k ≠ w.heap.size → (w.alloc o).heap[k]? = w.heap[k]?) ∧
    (∀ (w : World) (b k : Nat) (l : List Value), k ≠ b → (World.upd w b l).heap[k]? = w.heap[k]?) ∧ (∀ (w : World) (b : Nat) (l l' : List Value), World.upd (World.upd w b l) b l' = World.upd w b l') ∧
    (∀ (w : World) (l l' : List Value) (e : TypeId) (f : Nat × Nat) (k : Nat), k = w.heap.size → World.upd (w.alloc (.cells l.toArray e f)) k l' = w.alloc (.cells l'.toArray e f)) :=
  ⟨fun w o => by simp, upd_size, fun _ => rfl, fun _ _ _ h => alloc_at h, fun _ _ _ h => alloc_ne h, fun _ _ _ _ h => upd_ne h, fun _ _ _ _ => upd_upd, fun _ _ _ _ _ _ h => upd_alloc h⟩
theorem intR : (∀ n : Int, 0 ≤ n ∧ n < 18446744073709551616 → IntKind.u64.wrap n = n) ∧ (∀ n : Int, 0 ≤ n ∧ n < 4294967296 → IntKind.u32.wrap n = n) ∧ (∀ n : Int, 0 ≤ n ∧ n < 256 → IntKind.u8.wrap n = n) ∧ (∀ n : Int, -9223372036854775808 ≤ n ∧ n < 9223372036854775808 → IntKind.i64.wrap n = n) ∧
    (∀ n : Int, -2147483648 ≤ n ∧ n < 2147483648 → IntKind.i32.wrap n = n) ∧ (∀ a b : Int, 0 ≤ a → a.tmod b = a % b) ∧ (∀ a b : Int, 0 ≤ a → a.tdiv b = a / b) :=
  ⟨fun _ => wrap_u64, fun _ => wrap_u32, fun _ => wrap_u8, fun _ => wrap_i64, fun _ => wrap_i32, fun _ _ h => Int.tmod_eq_emod_of_nonneg h, fun _ _ h => Int.tdiv_eq_ediv_of_nonneg h⟩
theorem decR : (∀ (p : Prop) [Decidable p], p → decide p = true) ∧ (∀ (p : Prop) [Decidable p], ¬ p → decide p = false) := ⟨fun _ _ h => dec_true h, fun _ _ h => dec_false h⟩
/-! ### values put together and taken apart -/
theorem run_eqlB {P : Program} {t : TypeId} (h : P.underlying t = some .bool) (x y : Operand) (a b : Bool) (w : World) : (binV .eql t x y (.bool a) (.bool b)).run P w = .ok (.bool (a == b)) w := by
  simp [binV, eqGuard, binOp, run_equal_bool w t a b h]
theorem run_neqB {P : Program} {t : TypeId} (h : P.underlying t = some .bool) (x y : Operand) (a b : Bool) (w : World) : (binV .neq t x y (.bool a) (.bool b)).run P w = .ok (.bool (!(a == b))) w := by
  simp [binV, eqGuard, binOp, run_equal_bool w t a b h]
theorem retV_load {P : Program} {t : TypeId} {a : Addr} {w : World} {K : Value → Prop} : retV P t (.pointer (some a)) w K = resQ w K ((Instr.loadAt t (.pointer (some a))).run P w) := by
  rw [retV_eq]; simp [Instr.loadAt, Instr.sureAddr]
theorem ext0 {P : Program} {w : World} {a : Value} {l : List Value} : (Instr.extract (.tuple (a :: l).toArray) 0).run P w = .ok a w := rfl
theorem ext1 {P : Program} {w : World} {a b : Value} {l : List Value} : (Instr.extract (.tuple (a :: b :: l).toArray) 1).run P w = .ok b w := rfl
theorem ext2 {P : Program} {w : World} {a b c : Value} {l : List Value} : (Instr.extract (.tuple (a :: b :: c :: l).toArray) 2).run P w = .ok c w := rfl
theorem ext3 {P : Program} {w : World} {a b c d : Value} {l : List Value} : (Instr.extract (.tuple (a :: b :: c :: d :: l).toArray) 3).run P w = .ok d w := rfl
theorem ext4 {P : Program} {w : World} {a b c d e : Value} {l : List Value} : (Instr.extract (.tuple (a :: b :: c :: d :: e :: l).toArray) 4).run P w = .ok e w := rfl
/-- results. -/
theorem extR {P : Program} : (∀ (w : World) (a : Value) (l : List Value), (Instr.extract (.tuple (a :: l).toArray) 0).run P w = .ok a w) ∧ (∀ (w : World) (a b : Value) (l : List Value), (Instr.extract (.tuple (a :: b :: l).toArray) 1).run P w = .ok b w) ∧
    (∀ (w : World) (a b c : Value) (l : List Value), (Instr.extract (.tuple (a :: b :: c :: l).toArray) 2).run P w = .ok c w) ∧ (∀ (w : World) (a b c d : Value) (l : List Value), (Instr.extract (.tuple (a :: b :: c :: d :: l).toArray) 3).run P w = .ok d w) ∧
    (∀ (w : World) (a b c d e : Value) (l : List Value), (Instr.extract (.tuple (a :: b :: c :: d :: e :: l).toArray) 4).run P w = .ok e w) ∧
    (∀ (t : TypeId) (a : Addr) (w : World) (K : Value → Prop), retV P t (.pointer (some a)) w K = resQ w K ((Instr.loadAt t (.pointer (some a))).run P w)) :=
  ⟨fun _ _ _ => ext0, fun _ _ _ _ => ext1, fun _ _ _ _ _ => ext2, fun _ _ _ _ _ _ => ext3, fun _ _ _ _ _ _ _ => ext4, fun _ _ _ _ => retV_load⟩
theorem part1 {P : Program} {t : TypeId} {xs : Array Value} {o : Nat} {v : Value} {w : World} (ht : ∀ w, (isAgg t).run P w = .ok false w) (hv : xs[o]? = some v) : (part t xs o).run P w = .ok v w := by
  simp [part, ht, hv]
theorem partN {P : Program} {t : TypeId} {xs : Array Value} {o n : Nat} {w : World} (ht : ∀ w, (isAgg t).run P w = .ok true w) (hs : ∀ w, (sizeOf t).run P w = .ok n w) : (part t xs o).run P w = .ok (.agg (xs.extract o (o + n))) w := by
  simp [part, ht, hs]
def eqQ (d : Nat) (xs ys : Array Value) : List (TypeId × Nat) → Sem Bool
  | [] => pure true
  | (t, o) :: q => do
    let a ← part t xs o
    let b ← part t ys o
    let r ← Op.equalIn d t a b
    if (!r) = true then pure false else eqQ d xs ys q
theorem eqFields_q {d : Nat} {xs ys : Array Value} : ∀ {fs : List Field} {q : List (TypeId × Nat)}, fs.map (fun f => (f.type, f.offset)) = q → fs.all (fun f => decide (f.name ≠ "_")) = true → Op.eqFields d xs ys fs = eqQ d xs ys q
  | [], q, h, _ => by subst h; rfl
  | f :: fs, q, h, hn => by
    subst h
    simp only [List.all_cons, Bool.and_eq_true, decide_eq_true_eq] at hn
    simp only [Op.eqFields, eqQ, List.map_cons]
    rw [if_pos hn.1, eqFields_q rfl hn.2]
theorem eqQ_nil {P : Program} {d : Nat} {xs ys : Array Value} {w : World} : (eqQ d xs ys []).run P w = .ok true w := by simp [eqQ]
theorem eqQ_cons {P : Program} {d o : Nat} {xs ys : Array Value} {t : TypeId} {q : List (TypeId × Nat)} {a b : Value} {r s : Bool} {w : World} (ha : (part t xs o).run P w = .ok a w) (hb : (part t ys o).run P w = .ok b w)
    (he : (Op.equalIn d t a b).run P w = .ok r w) (hr : (eqQ d xs ys q).run P w = .ok s w) : (eqQ d xs ys ((t, o) :: q)).run P w = .ok (r && s) w := by
  simp only [eqQ, Sem.run_bind, ha, hb, he, Result.andThen_ok]
  cases r
  · simp
  · simp [hr]
theorem equalIn_struct {P : Program} {d : Nat} {t : TypeId} {xs ys : Array Value} {q : List (TypeId × Nat)} {r : Bool} {w : World} (h2 : P.underlying t = some (.struct (P.fieldsOf t))) (h3 : P.stoodInHeld t = false)
    (hq : (P.fieldsOf t).toList.map (fun f => (f.type, f.offset)) = q) (hn : (P.fieldsOf t).toList.all (fun f => decide (f.name ≠ "_")) = true) (h : (eqQ d xs ys q).run P w = .ok r w) : (Op.equalIn (d + 1) t (.agg xs) (.agg ys)).run P w = .ok r w := by
  rw [run_equalIn_agg w d t xs ys h2 h3, eqFields_q hq hn, h]
theorem eql_agg {P : Program} {t : TypeId} (h1 : P.eqGuardType P.depth t = false) (xs ys : Array Value) (r : Bool) (x y : Operand) (w : World)
    (h : (Op.equalIn 10000 t (.agg xs) (.agg ys)).run P w = .ok r w) : (binV .eql t x y (.agg xs) (.agg ys)).run P w = .ok (.bool r) w := by
  unfold binV
  rw [Sem.run_bind, run_eqGuard_agg w .eql t x y xs ys h1]
  simp only [Result.andThen_ok]
  rw [run_eql_struct, h]
  rfl
theorem neq_agg {P : Program} {t : TypeId} (h1 : P.eqGuardType P.depth t = false) (xs ys : Array Value) (r : Bool) (x y : Operand) (w : World)
    (h : (Op.equalIn 10000 t (.agg xs) (.agg ys)).run P w = .ok r w) : (binV .neq t x y (.agg xs) (.agg ys)).run P w = .ok (.bool !r) w := by
  unfold binV
  rw [Sem.run_bind, run_eqGuard_agg w .neq t x y xs ys h1]
  simp only [Result.andThen_ok]
  rw [run_neq_struct, h]
  rfl
/-! ### what a call leaves as it was -/
/-- the world w' is w but for the blocks in S and new blocks (none of them frozen). -/
structure Ext (S : List Nat) (w w' : World) : Prop where
  os : w'.os = w.os
  output : w'.output = w.output
  size : w.heap.size ≤ w'.heap.size
  kept : ∀ k, k < w.heap.size → k ∉ S → w'.heap[k]? = w.heap[k]?
  frozen : ∀ a, w'.frozen? a = w.frozen? a
theorem Ext.refl {S : List Nat} {w : World} : Ext S w w := ⟨rfl, rfl, Nat.le_refl _, fun _ _ _ => rfl, fun _ => rfl⟩
theorem Ext.mono {S T : List Nat} {w w' : World} (h : Ext S w w') (hs : ∀ k, k ∈ S → k ∈ T) : Ext T w w' := ⟨h.os, h.output, h.size, fun k hk hn => h.kept k hk fun hc => hn (hs k hc), h.frozen⟩
theorem Ext.trans {S T : List Nat} {w w' w'' : World} (h : Ext S w w') (h2 : Ext T w' w'') (hs : ∀ k, k ∈ T → k ∈ S ∨ w.heap.size ≤ k) : Ext S w w'' :=
  ⟨h2.os.trans h.os, h2.output.trans h.output, Nat.le_trans h.size h2.size,
   fun k hk hn => (h2.kept k (Nat.lt_of_lt_of_le hk h.size) fun hc => (hs k hc).elim hn (fun h => absurd hk (by omega))).trans (h.kept k hk hn), fun a => (h2.frozen a).trans (h.frozen a)⟩
theorem Ext.drew {S : List Nat} {w w' : World} (h : Ext S w w') : Ext S w w'.drew := ⟨h.os, h.output, h.size, h.kept, h.frozen⟩
theorem Ext.alloc {S : List Nat} {w w' : World} (h : Ext S w w') (c : Array Value) (t : TypeId) : Ext S w (w'.alloc (.cells c t)) := by
  refine ⟨h.os, h.output, Nat.le_trans h.size (by show w'.heap.size ≤ (w'.heap.push _).size; simp), fun k hk hn => ?_, fun a => (RowKit.frozen?_alloc_cells _ _ _ a).trans (h.frozen a)⟩
  rw [alloc_ne (by have := h.size; omega)]; exact h.kept k hk hn
theorem frozen_upd {w : World} {b : Nat} {l : List Value} (a : Addr) : (World.upd w b l).frozen? a = w.frozen? a := by
  unfold World.frozen?
  have e : (World.upd w b l).heap[a.block]? = (w.heap[a.block]?).map fun o => if b = a.block then (match o with
      | .cells _ e f => .cells l.toArray e f
      | o => o) else o := by
    simp only [World.upd, Array.getElem?_modify]
    split
    · rfl
    · simp
  rw [e]
  cases w.heap[a.block]? with
  | none => rfl
  | some o =>
    simp only [Option.map_some]
    by_cases hb : b = a.block
    · simp only [if_pos hb]
      cases o with
      | cells c e f => obtain ⟨lo, hi⟩ := f; rfl
      | _ => rfl
    · simp only [if_neg hb]
theorem Ext.upd {S : List Nat} {w w' : World} (h : Ext S w w') {b : Nat} (l : List Value) (hb : b ∈ S ∨ w.heap.size ≤ b) : Ext S w (World.upd w' b l) := by
  refine ⟨h.os, h.output, by rw [upd_size]; exact h.size, fun k hk hn => ?_, fun a => (frozen_upd a).trans (h.frozen a)⟩
  rw [upd_ne]
  · exact h.kept k hk hn
  · rintro rfl
    rcases hb with hb | hb
    · exact hn hb
    · omega
theorem Ext.grown {w w' : World} (h : Ext [] w w') : RowKit.Grown w w' :=
  ⟨⟨h.os, h.output, fun i hi => by rw [h.kept i hi (by simp)]; exact (World.keptBut_refl w (fun _ => False)).2.2 i hi⟩, h.frozen, h.size⟩
theorem callsK.law {P : Program} {f : FuncId} {args : Array Value} {w : World} (h : callsK P f args w fun v w' => v = .bool true ∧ Ext [] w w') :
    Calls P f args w fun e w' => e = .returned (.bool true) ∧ RowKit.Grown w w' := by
  refine Calls.mono h ?_
  rintro e w' ⟨v, rfl, rfl, hx⟩
  exact ⟨rfl, hx.grown⟩
/-- joins gone through at once (where one leaf alone is reached). -/
theorem joinR : (∀ (G : (List Value → World → Prop) → Prop) (rest : List Value → World → Prop), joinL G rest = G rest) ∧ (∀ (G : (Value → World → Prop) → Prop) (rest : Value → World → Prop), joinK G rest = G rest) ∧
    (∀ (G : (Value → Prop) → Prop) (rest : Value → Prop), joinK G rest = G rest) ∧ (∀ (G : (World → Prop) → Prop) (rest : World → Prop), joinK G rest = G rest) := ⟨fun _ _ => rfl, fun _ _ => rfl, fun _ _ => rfl, fun _ _ => rfl⟩
/-- lists that stand written out. -/
theorem litR : (∀ (a : Value) (l v : List Value) (n : Nat), splice (a :: l) (n + 1) v = a :: splice l n v) ∧ (∀ (l v : List Value), splice l 0 v = v ++ l.drop v.length) ∧ (∀ (a : Value) (l : List Value) (o n : Nat), sub (a :: l) (o + 1) n = sub l o n) ∧
    (∀ (a : Value) (l : List Value) (n : Nat), sub (a :: l) 0 (n + 1) = a :: sub l 0 n) ∧ (∀ (l : List Value) (o : Nat), sub l o 0 = []) ∧ (∀ (a : Value) (l : List Value) (n : Nat), (a :: l).drop (n + 1) = l.drop n) ∧ (∀ (l : List Value), l.drop 0 = l) ∧ (∀ n : Nat, ([] : List Value).drop n = []) ∧
    (∀ (a : Value) (l k : List Value), a :: l ++ k = a :: (l ++ k)) ∧ (∀ l : List Value, [] ++ l = l) ∧ (∀ l : List Value, l ++ [] = l) ∧ (∀ (a : Value) (l : List Value), (a :: l).length = l.length + 1) ∧ (([] : List Value).length = 0) ∧
    (∀ (a v : Value) (l : List Value) (n : Nat), (a :: l).set (n + 1) v = a :: l.set n v) ∧ (∀ (a v : Value) (l : List Value), (a :: l).set 0 v = v :: l) ∧ (∀ (a : Value) (l : List Value) (n : Nat), (a :: l)[n + 1]? = l[n]?) ∧ (∀ (a : Value) (l : List Value), (a :: l)[0]? = some a) ∧
    (∀ (a d : Value) (l : List Value) (n : Nat), (a :: l).getD (n + 1) d = l.getD n d) ∧ (∀ (a d : Value) (l : List Value), (a :: l).getD 0 d = a) ∧ (∀ a : Nat, 0 + a = a) ∧ (∀ a : Nat, a + 0 = a) := by
  refine ⟨fun a l v n => ?_, fun l v => ?_, fun a l o n => ?_, fun a l n => ?_, fun l o => ?_, fun _ _ _ => rfl, fun _ => rfl, fun n => ?_, fun _ _ _ => rfl, fun _ => rfl, fun l => ?_, fun _ _ => rfl, rfl, fun _ _ _ _ => rfl, fun _ _ _ => rfl, fun _ _ _ => rfl, fun _ _ => rfl, fun _ _ _ _ => rfl, fun _ _ _ => rfl, fun _ => Nat.zero_add _, fun _ => rfl⟩
  · unfold splice
    rw [show n + 1 + v.length = (n + v.length) + 1 by omega]
    rfl
  · simp [splice]
  · rfl
  · rfl
  · simp [sub]
  · simp
  · simp
def updO (l : List Value) : Option Obj → Option Obj
  | some (.cells _ e f) => some (.cells l.toArray e f)
  | o => o
theorem upd_atO {w : World} {b k : Nat} {l : List Value} (h : k = b) : (World.upd w b l).heap[k]? = updO l w.heap[b]? := by
  subst h
  simp only [World.upd, Array.getElem?_modify, if_true]
  cases w.heap[k]? with
  | none => rfl
  | some o => cases o <;> rfl
/-- what a block holds that was written as a whole. -/
theorem updR : (∀ (w : World) (b k : Nat) (l : List Value), k = b → (World.upd w b l).heap[k]? = updO l w.heap[b]?) ∧ (∀ (c : Array Value) (l : List Value) (e : TypeId) (f : Nat × Nat), updO l (some (.cells c e f)) = some (.cells l.toArray e f)) := ⟨fun _ _ _ _ h => upd_atO h, fun _ _ _ _ => rfl⟩
/-- sizes. -/
theorem szR : (∀ (w : World) (o : Obj), (w.alloc o).heap.size = w.heap.size + 1) ∧ (∀ (w : World) (b : Nat) (l : List Value), (World.upd w b l).heap.size = w.heap.size) ∧ (∀ w : World, w.drew.heap = w.heap) ∧
    (∀ (a : Value) (l : List Value), (a :: l).length = l.length + 1) ∧ (([] : List Value).length = 0) ∧ (∀ (l k : List Value), (l ++ k).length = l.length + k.length) ∧ (∀ (l : List Value) (i : Nat) (v : Value), (l.set i v).length = l.length) := ⟨fun w o => by simp, upd_size, fun _ => rfl, fun _ _ => rfl, rfl, fun _ _ => List.length_append, fun _ _ _ => List.length_set⟩
/-- truth values that stand written out. -/
theorem bolR : ((true == true) = true) ∧ ((true == false) = false) ∧ ((false == true) = false) ∧ ((false == false) = true) ∧ (∀ b : Bool, (true && b) = b) ∧ (∀ b : Bool, (false && b) = false) ∧ (∀ b : Bool, (b && true) = b) ∧ ((!true) = false) ∧ ((!false) = true) ∧ (∀ a b : Int, (a == b) = decide (a = b)) ∧
    (∀ b : Bool, (b && false) = false) ∧ (∀ b : Bool, (true || b) = true) ∧ (∀ b : Bool, (false || b) = b) ∧ (∀ (h : Decidable True) (a b : Value), @ite _ True h a b = a) ∧ (∀ (h : Decidable False) (a b : Value), @ite _ False h a b = b) ∧ ((false = true) = False) :=
  ⟨rfl, rfl, rfl, rfl, fun _ => rfl, fun _ => rfl, fun b => by simp, rfl, rfl, fun _ _ => rfl, fun b => by simp, fun _ => rfl, fun _ => rfl, fun _ _ _ => if_pos trivial, fun _ _ _ => if_neg not_false, by simp⟩
end Go.Fx
