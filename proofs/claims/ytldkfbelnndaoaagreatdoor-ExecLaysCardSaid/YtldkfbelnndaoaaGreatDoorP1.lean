/- Part 1 of what the law ExecLays stands on: formulas of the functions that it reaches, and what each of them does; conditions: those of each theorem. -/
import Derived.Test.YtldkfbelnndaoaaGreatDoorP0
set_option linter.unusedVariables false
set_option linter.unusedSimpArgs false
namespace Go.Fx
/-- block b holds these cells. -/
def World.upd (w : World) (b : Nat) (l : List Value) : World :=
  { w with heap := w.heap.modify b fun
      | .cells _ e f => .cells l.toArray e f
      | o => o }
theorem upd_size (w : World) (b : Nat) (l : List Value) : (World.upd w b l).heap.size = w.heap.size := by simp [World.upd]
theorem upd_at {w : World} {b : Nat} {l l0 : List Value} {e : TypeId} {f : Nat × Nat} (h : w.heap[b]? = some (.cells l0.toArray e f)) : (World.upd w b l).heap[b]? = some (.cells l.toArray e f) := by
  simp [World.upd, Array.getElem?_modify, h]
theorem upd_ne {w : World} {b k : Nat} {l : List Value} (h : k ≠ b) : (World.upd w b l).heap[k]? = w.heap[k]? := by
  simp only [World.upd, Array.getElem?_modify]
  rw [if_neg (Ne.symm h)]
theorem alloc_at {w : World} {o : Obj} {k : Nat} (h : k = w.heap.size) : (w.alloc o).heap[k]? = some o := by
  subst h
  show (w.heap.push o)[w.heap.size]? = _
  simp
theorem alloc_ne {w : World} {o : Obj} {k : Nat} (h : k ≠ w.heap.size) : (w.alloc o).heap[k]? = w.heap[k]? := by
  show (w.heap.push o)[k]? = _
  rw [Array.getElem?_push, if_neg h]
theorem upd_upd {w : World} {b : Nat} {l l' : List Value} : World.upd (World.upd w b l) b l' = World.upd w b l' := by
  unfold World.upd
  congr 1
  dsimp only
  apply Array.ext_getElem?
  intro i
  simp only [Array.getElem?_modify]
  split
  · rename_i h
    subst h
    cases w.heap[b]? with
    | none => rfl
    | some o => cases o <;> rfl
  · rfl
theorem upd_alloc {w : World} {l l' : List Value} {e : TypeId} {f : Nat × Nat} {k : Nat} (h : k = w.heap.size) : World.upd (w.alloc (.cells l.toArray e f)) k l' = w.alloc (.cells l'.toArray e f) := by
  subst h
  unfold World.upd World.alloc
  congr 1
  dsimp only
  apply Array.ext_getElem?
  intro i
  simp only [Array.getElem?_modify, Array.getElem?_push]
  split
  · rename_i h
    subst h
    simp
  · rename_i h
    rw [if_neg (Ne.symm h), if_neg (Ne.symm h)]
/-- a value's cells in a list, from a place on. -/
def sub (l : List Value) (o n : Nat) : List Value := (l.drop o).take n
def splice (l : List Value) (o : Nat) (v : List Value) : List Value := l.take o ++ v ++ l.drop (o + v.length)
theorem splice_length {l : List Value} {o : Nat} {v : List Value} (h : o + v.length <= l.length) : (splice l o v).length = l.length := by
  simp [splice]; omega
theorem splice_get {l : List Value} {o : Nat} {v : List Value} {i : Nat} (h : o + v.length <= l.length) : (splice l o v)[i]? = if i < o then l[i]? else if i < o + v.length then v[i - o]? else l[i]? := by
  unfold splice
  by_cases h1 : i < o
  · rw [if_pos h1, List.append_assoc, List.getElem?_append_left (by simp; omega), List.getElem?_take_of_lt h1]
  · rw [if_neg h1, List.append_assoc, List.getElem?_append_right (by simp; omega)]
    have hl : (l.take o).length = o := by simp; omega
    rw [hl]
    by_cases h2 : i < o + v.length
    · rw [if_pos h2, List.getElem?_append_left (by omega)]
    · rw [if_neg h2, List.getElem?_append_right (by omega), List.getElem?_drop]
      congr 1
      omega
theorem cell_of_block {w : World} {b : Nat} {l : List Value} {e : TypeId} {f : Nat × Nat} (h : w.heap[b]? = some (.cells l.toArray e f)) (o : Nat) : w.cell? ⟨b, o, none⟩ = l[o]? := by
  simp [World.cell?, h]
theorem frozen_of_block {w : World} {b : Nat} {c : Array Value} {e : TypeId} (h : w.heap[b]? = some (.cells c e (0, 0))) (o : Nat) : w.frozen? ⟨b, o, none⟩ = false := by
  simp [World.frozen?, h]
theorem add_off (b o n : Nat) : Addr.add ⟨b, o, none⟩ n = ⟨b, o + n, none⟩ := by
  unfold Addr.add
  split
  · rename_i h; subst h; rfl
  · rfl
theorem run_loadCells {P : Program} {w : World} {b : Nat} {l : List Value} {e : TypeId} {f : Nat × Nat} (h : w.heap[b]? = some (.cells l.toArray e f)) (o : Nat) :
    ∀ (n i : Nat) (acc : List Value), o + i + n <= l.length -> (loadCellsFrom ⟨b, o, none⟩ i n acc.toArray).run P w = .ok (acc ++ (l.drop (o + i)).take n).toArray w := by
  intro n
  induction n with
  | zero => intro i acc _; simp [loadCellsFrom]
  | succ n ih =>
    intro i acc hl
    unfold loadCellsFrom
    have hlt : o + i < l.length := by omega
    have hc : w.cell? (Addr.add ⟨b, o, none⟩ i) = some l[o + i] := by
      rw [add_off, cell_of_block h, List.getElem?_eq_getElem hlt]
    simp only [Sem.run_bind, run_load, hc, Result.andThen_ok]
    have := ih (i + 1) (acc ++ [l[o + i]]) (by omega)
    simp only [List.push_toArray]
    rw [this]
    congr 2
    rw [List.append_assoc]
    congr 1
    rw [show o + (i + 1) = (o + i) + 1 by omega, List.drop_eq_getElem_cons hlt, List.take_succ_cons]
    rfl
/-- what is loaded from a block: one value, or several. -/
def ldC (w : World) (b o : Nat) (agg : Option Nat) : Result Value :=
  match w.heap[b]? with
  | some (.cells cs _ _) => match agg with
    | none => match cs[o]? with
      | some v => .ok v w
      | none => .halt (.stuck "") w
    | some n => if o + n <= cs.size then .ok (.agg (sub cs.toList o n).toArray) w else .halt (.stuck "") w
  | _ => .halt (.stuck "") w
theorem setCell_upd {w : World} {b o : Nat} {l : List Value} {e : TypeId} {f : Nat × Nat} (h : w.heap[b]? = some (.cells l.toArray e f)) (v : Value) : w.setCell ⟨b, o, none⟩ v = World.upd w b (l.set o v) := by
  unfold World.setCell World.upd
  congr 1
  dsimp only
  apply Array.ext_getElem?
  intro i
  simp only [Array.getElem?_modify]
  split
  · rename_i hi
    subst hi
    rw [h]
    simp
  · rfl
theorem run_storeCells {P : Program} {b : Nat} {e : TypeId} (o : Nat) : ∀ (vs : List Value) (i : Nat) (w : World) (l : List Value), w.heap[b]? = some (.cells l.toArray e (0, 0)) -> o + i + vs.length <= l.length -> (∀ v ∈ vs, v.oneCell' = true) ->
    (storeCells ⟨b, o, none⟩ vs i).run P w = .ok () (World.upd w b (splice l (o + i) vs)) := by
  intro vs
  induction vs with
  | nil =>
    intro i w l h _ _
    have : World.upd w b l = w := by
      unfold World.upd
      congr 1
      apply Array.ext_getElem?
      intro k
      simp only [Array.getElem?_modify]
      split
      · rename_i hk; subst hk; rw [h]; rfl
      · rfl
    simp [storeCells, splice, this]
  | cons v vs ih =>
    intro i w l h hl hv
    have hv1 := hv v (List.mem_cons_self ..)
    have hlt : o + i < l.length := by rw [List.length_cons] at hl; omega
    have hc : w.cell? ⟨b, o + i, none⟩ = some l[o + i] := by rw [cell_of_block h, List.getElem?_eq_getElem hlt]
    have hf := frozen_of_block h (o + i)
    have hs : (store ⟨b, o + i, none⟩ v).run P w = .ok () (World.upd w b (l.set (o + i) v)) := by
      rw [<- setCell_upd h]
      have := run_store P w ⟨b, o + i, none⟩ v .plain hv1
      rw [this]
      simp [hc, hf]
    have h2 := ih (i + 1) (World.upd w b (l.set (o + i) v)) (l.set (o + i) v) (upd_at h) (by rw [List.length_cons] at hl; rw [List.length_set]; omega) (fun u hu => hv u (List.mem_cons_of_mem _ hu))
    simp only [storeCells, Sem.run_bind, add_off, hs, Result.andThen_ok]
    rw [h2, upd_upd]
    congr 2
    have hlen : (v :: vs).length = vs.length + 1 := rfl
    rw [hlen] at hl
    apply List.ext_getElem?
    intro k
    rw [splice_get (by rw [List.length_set]; omega), splice_get (by omega), hlen]
    by_cases h1 : k < o + i
    · rw [if_pos (by omega), if_pos h1, List.getElem?_set_ne (by omega)]
    · rw [if_neg h1]
      by_cases h2 : k = o + i
      · subst h2
        rw [if_pos (by omega), if_pos (by omega), List.getElem?_set_self hlt]
        simp
      · rw [if_neg (by omega)]
        by_cases h3 : k < o + i + (vs.length + 1)
        · rw [if_pos (by omega), if_pos h3, show k - (o + i) = (k - (o + (i + 1))) + 1 by omega, List.getElem?_cons_succ]
        · rw [if_neg (by omega), if_neg h3, List.getElem?_set_ne (by omega)]
def ldY (P : Program) (w : World) (b o : Nat) : Option Value -> Result Value
  | some v => .ok v w
  | none => (load ⟨b, o, none⟩).run P w
def ldX (P : Program) (w : World) (b o : Nat) : Option Obj -> Result Value
  | some (.cells c _ _) => ldY P w b o c[o]?
  | _ => (load ⟨b, o, none⟩).run P w
theorem load_eq {P : Program} {w : World} {b o : Nat} : (load ⟨b, o, none⟩).run P w = ldX P w b o w.heap[b]? := by
  unfold ldX
  split
  · rename_i c e f hb
    unfold ldY
    split
    · rename_i v hv
      have hc : w.cell? ⟨b, o, none⟩ = some v := by simp [World.cell?, hb, hv]
      rw [run_load, hc]
    · rfl
  · rfl
theorem ldX_cells {P : Program} {w : World} {b o : Nat} {l : List Value} {e : TypeId} {f : Nat × Nat} : ldX P w b o (some (.cells l.toArray e f)) = ldY P w b o l[o]? := by simp [ldX]
theorem ldY_some {P : Program} {w : World} {b o : Nat} {v : Value} : ldY P w b o (some v) = .ok v w := rfl
def lnX (P : Program) (w : World) (b o n : Nat) : Option Obj -> Result (Array Value)
  | some (.cells c _ _) => if o + n <= c.size then .ok (sub c.toList o n).toArray w else (loadCells ⟨b, o, none⟩ n).run P w
  | _ => (loadCells ⟨b, o, none⟩ n).run P w
theorem loadCells_eq {P : Program} {w : World} {b o n : Nat} : (loadCells ⟨b, o, none⟩ n).run P w = lnX P w b o n w.heap[b]? := by
  unfold lnX
  split
  · rename_i c e f hb
    split
    · rename_i hl
      have := run_loadCells (P := P) (w := w) (b := b) (l := c.toList) (e := e) (f := f) (by simpa using hb) o n 0 [] (by simpa using hl)
      simp only [List.nil_append, Nat.add_zero] at this
      simpa [loadCells, sub] using this
    · rfl
  · rfl
theorem lnX_cells {P : Program} {w : World} {b o n : Nat} {l : List Value} {e : TypeId} {f : Nat × Nat} (h : o + n <= l.length) : lnX P w b o n (some (.cells l.toArray e f)) = .ok (sub l o n).toArray w := by
  simp [lnX, h]
def s1X (P : Program) (w : World) (b o : Nat) (v : Value) : Option Obj -> Result Unit
  | some (.cells c _ f) => if v.oneCell' = true /\ f = (0, 0) /\ o < c.size then .ok () (World.upd w b (c.toList.set o v)) else (store ⟨b, o, none⟩ v).run P w
  | _ => (store ⟨b, o, none⟩ v).run P w
theorem store_eq {P : Program} {w : World} {b o : Nat} {v : Value} : (store ⟨b, o, none⟩ v).run P w = s1X P w b o v w.heap[b]? := by
  unfold s1X
  split
  · rename_i c e f hb
    split
    · rename_i hl
      obtain ⟨hv, hf, ho⟩ := hl
      subst hf
      have hb' : w.heap[b]? = some (.cells c.toList.toArray e (0, 0)) := by simpa using hb
      rw [<- setCell_upd hb', run_store P w ⟨b, o, none⟩ v .plain hv]
      have hc : w.cell? ⟨b, o, none⟩ = some c[o] := by rw [cell_of_block hb']; simp [ho]
      simp [hc, frozen_of_block hb]
    · rfl
  · rfl
theorem s1X_cells {P : Program} {w : World} {b o : Nat} {v : Value} {l : List Value} {e : TypeId} (hv : v.oneCell' = true) (h : o < l.length) : s1X P w b o v (some (.cells l.toArray e (0, 0))) = .ok () (World.upd w b (l.set o v)) := by
  simp [s1X, hv, h]
def snX (P : Program) (w : World) (b o : Nat) (vs : List Value) : Option Obj -> Result Unit
  | some (.cells c _ f) => if (∀ v ∈ vs, v.oneCell' = true) /\ f = (0, 0) /\ o + vs.length <= c.size then .ok () (World.upd w b (splice c.toList o vs)) else (storeCells ⟨b, o, none⟩ vs 0).run P w
  | _ => (storeCells ⟨b, o, none⟩ vs 0).run P w
theorem storeCells_eq {P : Program} {w : World} {b o : Nat} {vs : List Value} : (storeCells ⟨b, o, none⟩ vs 0).run P w = snX P w b o vs w.heap[b]? := by
  unfold snX
  split
  · rename_i c e f hb
    split
    · rename_i hl
      obtain ⟨hv, hf, ho⟩ := hl
      subst hf
      have := run_storeCells (P := P) (b := b) (e := e) o vs 0 w c.toList (by simpa using hb) (by simpa using ho) hv
      simpa using this
    · rfl
  · rfl
theorem snX_cells {P : Program} {w : World} {b o : Nat} {vs : List Value} {l : List Value} {e : TypeId} (hv : ∀ v ∈ vs, v.oneCell' = true) (h : o + vs.length <= l.length) : snX P w b o vs (some (.cells l.toArray e (0, 0))) = .ok () (World.upd w b (splice l o vs)) := by
  simp only [snX]
  rw [if_pos ⟨hv, by simpa using h⟩]
theorem loadAt_eq {P : Program} {w : World} {t : TypeId} {b o : Nat} : (Instr.loadAt t (.pointer (some ⟨b, o, none⟩))).run P w =
    ((isAgg t).run P w).andThen fun g w1 => if g then ((sizeOf t).run P w1).andThen fun n w2 => ((loadCells ⟨b, o, none⟩ n).run P w2).andThen fun c w3 => .ok (.agg c) w3 else (load ⟨b, o, none⟩).run P w1 := by
  simp only [Instr.loadAt, Instr.sureAddr, loadVar, Sem.run_bind, Sem.run_pure, Result.andThen_ok]
  congr 1
  funext g w1
  cases g <;> simp
theorem storeAt_eq {P : Program} {w : World} {t : TypeId} {b o n : Nat} {v : Value} (hn : (sizeOf t).run P w = .ok n w) (h : v.cells.size = n) : (Instr.storeAt t (.pointer (some ⟨b, o, none⟩)) v).run P w = (storeCells ⟨b, o, none⟩ v.cells.toList 0).run P w := by
  simp [Instr.storeAt, Instr.sureAddr, storeVar, hn, h]
theorem run_add {P : Program} {w : World} {t : TypeId} {x y : Operand} {k : IntKind} {a b : Int} : (binV .add t x y (.int k a) (.int k b)).run P w = .ok (.int k (k.wrap (a + b))) w := by
  simp [binV, eqGuard, binOp, Op.intArith]
theorem run_sub {P : Program} {w : World} {t : TypeId} {x y : Operand} {k : IntKind} {a b : Int} : (binV .sub t x y (.int k a) (.int k b)).run P w = .ok (.int k (k.wrap (a - b))) w := by
  simp [binV, eqGuard, binOp, Op.intArith]
theorem run_mul {P : Program} {w : World} {t : TypeId} {x y : Operand} {k : IntKind} {a b : Int} : (binV .mul t x y (.int k a) (.int k b)).run P w = .ok (.int k (k.wrap (a * b))) w := by
  simp [binV, eqGuard, binOp, Op.intArith]
theorem run_quo {P : Program} {w : World} {t : TypeId} {x y : Operand} {k : IntKind} {a b : Int} (hb : b ≠ 0) : (binV .quo t x y (.int k a) (.int k b)).run P w = .ok (.int k (k.wrap (a.tdiv b))) w := by
  simp [binV, eqGuard, binOp, Op.intDiv, hb]
theorem run_rem {P : Program} {w : World} {t : TypeId} {x y : Operand} {k : IntKind} {a b : Int} (hb : b ≠ 0) : (binV .rem t x y (.int k a) (.int k b)).run P w = .ok (.int k (a.tmod b)) w := by
  simp [binV, eqGuard, binOp, Op.intDiv, hb]
def bitI (op : BinOp) (k : IntKind) (a b : Int) : Int :=
  match op with
  | .and => k.wrap (BitVec.ofInt k.bits a &&& BitVec.ofInt k.bits b).toNat
  | .or => k.wrap (BitVec.ofInt k.bits a ||| BitVec.ofInt k.bits b).toNat
  | .xor => k.wrap (BitVec.ofInt k.bits a ^^^ BitVec.ofInt k.bits b).toNat
  | _ => k.wrap (BitVec.ofInt k.bits a &&& ~~~ BitVec.ofInt k.bits b).toNat
theorem run_and {P : Program} {w : World} {t : TypeId} {x y : Operand} {k : IntKind} {a b : Int} : (binV .and t x y (.int k a) (.int k b)).run P w = .ok (.int k (bitI .and k a b)) w := by
  simp [binV, eqGuard, binOp, Op.intBits, bitI]
theorem run_or {P : Program} {w : World} {t : TypeId} {x y : Operand} {k : IntKind} {a b : Int} : (binV .or t x y (.int k a) (.int k b)).run P w = .ok (.int k (bitI .or k a b)) w := by
  simp [binV, eqGuard, binOp, Op.intBits, bitI]
theorem run_xor {P : Program} {w : World} {t : TypeId} {x y : Operand} {k : IntKind} {a b : Int} : (binV .xor t x y (.int k a) (.int k b)).run P w = .ok (.int k (bitI .xor k a b)) w := by
  simp [binV, eqGuard, binOp, Op.intBits, bitI]
theorem run_andNot {P : Program} {w : World} {t : TypeId} {x y : Operand} {k : IntKind} {a b : Int} : (binV .andNot t x y (.int k a) (.int k b)).run P w = .ok (.int k (bitI .andNot k a b)) w := by
  simp [binV, eqGuard, binOp, Op.intBits, bitI]
theorem run_shl {P : Program} {w : World} {t : TypeId} {x y : Operand} {k k' : IntKind} {a b : Int} (hb : 0 <= b) : (binV .shl t x y (.int k a) (.int k' b)).run P w = .ok (.int k (k.wrap (a * 2 ^ min b.toNat k.bits))) w := by
  have : ¬ b < 0 := by omega
  simp [binV, eqGuard, binOp, Op.shift, this]
theorem run_shr {P : Program} {w : World} {t : TypeId} {x y : Operand} {k k' : IntKind} {a b : Int} (hb : 0 <= b) : (binV .shr t x y (.int k a) (.int k' b)).run P w = .ok (.int k (a.fdiv (2 ^ min b.toNat k.bits))) w := by
  have : ¬ b < 0 := by omega
  simp [binV, eqGuard, binOp, Op.shift, this]
theorem run_eql {P : Program} {w : World} {t : TypeId} {x y : Operand} {k : IntKind} {a b : Int} : (binV .eql t x y (.int k a) (.int k b)).run P w = .ok (.bool (decide (a = b))) w := by
  simp [binV, eqGuard, binOp, Op.intCmp]
  rfl
theorem run_neq {P : Program} {w : World} {t : TypeId} {x y : Operand} {k : IntKind} {a b : Int} : (binV .neq t x y (.int k a) (.int k b)).run P w = .ok (.bool (decide (a ≠ b))) w := by
  simp [binV, eqGuard, binOp, Op.intCmp, bne]
  rfl
theorem run_lss {P : Program} {w : World} {t : TypeId} {x y : Operand} {k : IntKind} {a b : Int} : (binV .lss t x y (.int k a) (.int k b)).run P w = .ok (.bool (decide (a < b))) w := by
  simp [binV, eqGuard, binOp, Op.intCmp]
theorem run_leq {P : Program} {w : World} {t : TypeId} {x y : Operand} {k : IntKind} {a b : Int} : (binV .leq t x y (.int k a) (.int k b)).run P w = .ok (.bool (decide (a <= b))) w := by
  simp [binV, eqGuard, binOp, Op.intCmp]
theorem run_gtr {P : Program} {w : World} {t : TypeId} {x y : Operand} {k : IntKind} {a b : Int} : (binV .gtr t x y (.int k a) (.int k b)).run P w = .ok (.bool (decide (b < a))) w := by
  simp [binV, eqGuard, binOp, Op.intCmp]
theorem run_geq {P : Program} {w : World} {t : TypeId} {x y : Operand} {k : IntKind} {a b : Int} : (binV .geq t x y (.int k a) (.int k b)).run P w = .ok (.bool (decide (b <= a))) w := by
  simp [binV, eqGuard, binOp, Op.intCmp]
theorem run_not {P : Program} {w : World} {b : Bool} : (Op.unary .not (.bool b)).run P w = .ok (.bool !b) w := rfl
theorem run_neg {P : Program} {w : World} {k : IntKind} {a : Int} : (Op.unary .neg (.int k a)).run P w = .ok (.int k (k.wrap (0 - a))) w := rfl
theorem wrap_u64 {n : Int} (h : 0 <= n /\ n < 18446744073709551616) : IntKind.u64.wrap n = n := by
  unfold IntKind.wrap
  simp [IntKind.bits, IntKind.signed]
  omega
theorem wrap_u32 {n : Int} (h : 0 <= n /\ n < 4294967296) : IntKind.u32.wrap n = n := by
  unfold IntKind.wrap
  simp [IntKind.bits, IntKind.signed]
  omega
theorem wrap_u8 {n : Int} (h : 0 <= n /\ n < 256) : IntKind.u8.wrap n = n := by
  unfold IntKind.wrap
  simp [IntKind.bits, IntKind.signed]
  omega
theorem wrap_i64 {n : Int} (h : -9223372036854775808 <= n /\ n < 9223372036854775808) : IntKind.i64.wrap n = n := by
  unfold IntKind.wrap
  simp [IntKind.bits, IntKind.signed]
  omega
theorem wrap_i32 {n : Int} (h : -2147483648 <= n /\ n < 2147483648) : IntKind.i32.wrap n = n := by
  unfold IntKind.wrap
  simp [IntKind.bits, IntKind.signed]
  omega
theorem dec_true {p : Prop} [Decidable p] (h : p) : decide p = true := by simp [h]
theorem dec_false {p : Prop} [Decidable p] (h : ¬ p) : decide p = false := by simp [h]
theorem run_field {P : Program} {s : TypeId} {fields : Array Field} {f : Field} {i n : Nat} (h : P.underlying s = some (.struct fields)) (hf : fields[i]? = some f) (hs : ∀ w, (sizeOf f.type).run P w = .ok n w) (hn : n ≠ 0) (b o : Nat) (w : World) :
    (Instr.fieldAt s (.pointer (some ⟨b, o, none⟩)) i).run P w = .ok (.pointer (some ⟨b, o + f.offset, none⟩)) w := by
  simp [Instr.fieldAt, Instr.sureAddr, run_underlying h, hf, fieldPlace, hs, hn, add_off]
theorem run_fieldO {P : Program} {s ft : TypeId} {fields : Array Field} (i off n : Nat) (h : P.underlying s = some (.struct fields)) (hf : (fields[i]?).map (fun f => (f.offset, f.type)) = some (off, ft)) (hs : ∀ w, (sizeOf ft).run P w = .ok n w) (hn : n ≠ 0) (b o : Nat) (w : World) :
    (Instr.fieldAt s (.pointer (some ⟨b, o, none⟩)) i).run P w = .ok (.pointer (some ⟨b, o + off, none⟩)) w := by
  obtain ⟨f, h1, h2⟩ := Option.map_eq_some_iff.1 hf
  simp only [Prod.mk.injEq] at h2
  obtain ⟨rfl, rfl⟩ := h2
  exact run_field h h1 hs hn b o w
theorem run_index_array {P : Program} {t e : TypeId} {len n : Nat} (h : P.underlying t = some (.array len e)) (hs : ∀ w, (sizeOf e).run P w = .ok n w) (b o : Nat) (k : IntKind) (i : Int) (w : World) (hi : 0 <= i /\ i < len) :
    (Instr.indexAt t (.pointer (some ⟨b, o, none⟩)) (.int k i)).run P w = .ok (.pointer (some ⟨b, o + i.toNat * n, none⟩)) w := by
  simp [Instr.indexAt, asIntOf, run_underlying h, Instr.sureAddr, hi, hs, add_off]
theorem run_index_slice {P : Program} {t e : TypeId} {n : Nat} (h : P.underlying t = some (.slice e)) (hs : ∀ w, (sizeOf e).run P w = .ok n w) (b o len cap : Nat) (k : IntKind) (i : Int) (w : World) (hi : 0 <= i /\ i < len) :
    (Instr.indexAt t (.slice (some ⟨b, o, none⟩) len cap) (.int k i)).run P w = .ok (.pointer (some ⟨b, o + i.toNat * n, none⟩)) w := by
  simp [Instr.indexAt, asIntOf, run_underlying h, hi, hs, add_off]
theorem run_len_slice {P : Program} {t e r : TypeId} (h : P.underlying t = some (.slice e)) (a : Option Addr) (len cap : Nat) (w : World) :
    (Builtin.len_ #[t] r #[.slice a len cap]).run P w = .ok (.int .i64 len) w := by
  simp [Builtin.len_, run_underlying h, goInt]
theorem run_alloc {P : Program} {t : TypeId} {z : Value} (h : ∀ w, (zeroValue t).run P w = .ok z w) (w : World) :
    (Instr.alloc t true (.tuple #[])).run P w = .ok (.pointer (some ⟨w.heap.size, 0, none⟩)) (w.alloc (.cells z.cells t)) := by
  simp [Instr.alloc, h, newVar, newRow]
theorem run_box {P : Program} {t : TypeId} {v : Value} (w : World) :
    (Instr.box t v).run P w = .ok (.pointer (some ⟨w.heap.size, 0, none⟩)) (w.alloc (.cells v.cells t)) := by
  simp [Instr.box, newVar, newRow]
theorem run_load1' {P : Program} {t : TypeId} (ht : ∀ w, (isAgg t).run P w = .ok false w) (b o : Nat) (w : World) :
    (Instr.loadAt t (.pointer (some ⟨b, o, none⟩))).run P w = ldX P w b o w.heap[b]? := by
  rw [loadAt_eq, ht]; exact load_eq
def lnV (P : Program) (w : World) (b o n : Nat) (ob : Option Obj) : Result Value := (lnX P w b o n ob).andThen fun c w' => .ok (.agg c) w'
theorem lnV_cells {P : Program} {w : World} {b o n : Nat} {l : List Value} {e : TypeId} {f : Nat × Nat} (h : o + n <= l.length) : lnV P w b o n (some (.cells l.toArray e f)) = .ok (.agg (sub l o n).toArray) w := by
  unfold lnV; rw [lnX_cells h]; rfl
theorem run_loadN' {P : Program} {t : TypeId} {n : Nat} (ht : ∀ w, (isAgg t).run P w = .ok true w) (hn : ∀ w, (sizeOf t).run P w = .ok n w) (b o : Nat) (w : World) :
    (Instr.loadAt t (.pointer (some ⟨b, o, none⟩))).run P w = lnV P w b o n w.heap[b]? := by
  rw [loadAt_eq, ht]
  simp only [Result.andThen_ok, if_true, hn]
  rw [loadCells_eq]; rfl
theorem run_store1' {P : Program} {t : TypeId} (hn : ∀ w, (sizeOf t).run P w = .ok 1 w) (b o : Nat) (v : Value) (w : World) (hv : v.oneCell' = true) :
    (Instr.storeAt t (.pointer (some ⟨b, o, none⟩)) v).run P w = s1X P w b o v w.heap[b]? := by
  have hc : v.cells = #[v] := by cases v <;> first | rfl | cases hv
  rw [storeAt_eq (hn w) (by rw [hc]; rfl), hc]
  simp [storeCells, add_off]
  exact store_eq
theorem run_storeN' {P : Program} {t : TypeId} {n : Nat} (hn : ∀ w, (sizeOf t).run P w = .ok n w) (b o : Nat) (vs : List Value) (w : World) (hl : vs.length = n) :
    (Instr.storeAt t (.pointer (some ⟨b, o, none⟩)) (.agg vs.toArray)).run P w = snX P w b o vs w.heap[b]? := by
  rw [storeAt_eq (hn w) (by simpa [Value.cells] using hl)]
  exact storeCells_eq
theorem run_convert_int {P : Program} {s d : TypeId} {sd : TypeDesc} {k : IntKind} (h1 : P.underlying s = some sd) (h2 : P.underlying d = some (.int k)) (k0 : IntKind) (a : Int) (w : World) :
    (convert s d (.int k0 a)).run P w = .ok (.int k (k.wrap a)) w := by
  unfold convert
  simp only [Sem.run_bind, run_underlying h1, run_underlying h2, Result.andThen_ok, Conv.intToInt, Sem.run_pure]
theorem kN_callf {P : Program} {f : FuncId} (hc : ∀ args w, (callFunc f args).run P w = .ok (.enter f args) w) (first cap args : List Value) (w : World) (K : Value -> World -> Prop) :
    kN P (callN (.func (.func f) first.toArray cap.toArray) args.toArray) w K = callsK P f (first ++ args ++ cap).toArray w K := by
  rw [kN_call, hc]
  simp [resK, resKF, callsK]
/-- a call that leaves the world as it is. -/
def callsS (P : Program) (f : FuncId) (args : Array Value) (w : World) (K : Value -> Prop) (_ : Tag K := ()) : Prop := ∃ v, callsK P f args w (fun v' w' => v' = v /\ w' = w) /\ K v
theorem callsS.of {P : Program} {f : FuncId} {args : Array Value} {w : World} {K : Value -> Prop} (v : Value) (h : callsK P f args w (fun v' w' => v' = v /\ w' = w)) (hk : K v) : callsS P f args w K := ⟨v, h, hk⟩
theorem sN_callf {P : Program} {f : FuncId} (hc : ∀ args w, (callFunc f args).run P w = .ok (.enter f args) w) (first cap args : List Value) (w : World) (K : Value -> Prop) :
    sN P (callN (.func (.func f) first.toArray cap.toArray) args.toArray) w K = callsS P f (first ++ args ++ cap).toArray w K := by
  have e : (callN (.func (.func f) first.toArray cap.toArray) args.toArray).run P w = (callFunc f (first.toArray ++ args.toArray ++ cap.toArray)).run P w := by
    unfold callN Deferred.ofValue
    rfl
  rw [hc, List.append_toArray, List.append_toArray] at e
  unfold sN resS
  rw [e]
  unfold resSF
  apply propext
  constructor
  · rintro ⟨_, v, h, hk⟩
    exact ⟨v, Calls.mono h fun e w' he => ⟨v, he.1, rfl, he.2⟩, hk⟩
  · rintro ⟨v, h, hk⟩
    exact ⟨rfl, v, Calls.mono h fun e w' he => by obtain ⟨v', h1, h2, h3⟩ := he; subst h2; exact ⟨h1, h3⟩, hk⟩
theorem cells_agg (c : Array Value) : (Value.agg c).cells = c := rfl
theorem cells_int (k : IntKind) (n : Int) : (Value.int k n).cells = [Value.int k n].toArray := rfl
theorem cells_bool (b : Bool) : (Value.bool b).cells = [Value.bool b].toArray := rfl
theorem cells_ptr (a : Option Addr) : (Value.pointer a).cells = [Value.pointer a].toArray := rfl
theorem cells_slice (a : Option Addr) (n c : Nat) : (Value.slice a n c).cells = [Value.slice a n c].toArray := rfl
theorem cells_func (f : Fn) (a b : Array Value) : (Value.func f a b).cells = [Value.func f a b].toArray := rfl
theorem cells_map (r : Option Nat) : (Value.map r).cells = [Value.map r].toArray := rfl
theorem cells_str (s : ByteArray) : (Value.string s).cells = [Value.string s].toArray := rfl
theorem one_int (k : IntKind) (n : Int) : (Value.int k n).oneCell' = true := rfl
theorem one_bool (b : Bool) : (Value.bool b).oneCell' = true := rfl
theorem one_ptr (a : Option Addr) : (Value.pointer a).oneCell' = true := rfl
theorem one_slice (a : Option Addr) (n c : Nat) : (Value.slice a n c).oneCell' = true := rfl
theorem one_func (f : Fn) (a b : Array Value) : (Value.func f a b).oneCell' = true := rfl
theorem one_map (r : Option Nat) : (Value.map r).oneCell' = true := rfl
theorem one_str (s : ByteArray) : (Value.string s).oneCell' = true := rfl
/-- the walk's own rules, as one. -/
theorem gen1 {P : Program} :
    (∀ (s : Sem Value) (w : World) (K : Value -> World -> Prop), kV P s w K = resV K (s.run P w)) /\ (∀ (s : Sem Unit) (w : World) (K : Value -> World -> Prop), kU P s w K = resV (fun _ w' => K undef w') (s.run P w)) /\
    (∀ (s : Sem Value) (w : World) (K : Value -> Prop), sV P s w K = resQ w K (s.run P w)) /\ (∀ (s : Sem Unit) (w : World) (K : Value -> Prop), sU P s w K = resQ w (fun _ => K undef) (s.run P w)) /\
    (∀ (s : Sem Value) (K : Value -> Prop), pV P s K = resPV K (fun w => s.run P w)) /\
    (∀ (c : Bool) (a b : Value) (w : World) (K : Value -> World -> Prop), kN P (pickN (.bool c) a b) w K = K (if c then a else b) w) /\ (∀ (c : Bool) (a b : Value) (w : World) (K : Value -> Prop), sN P (pickN (.bool c) a b) w K = K (if c then a else b)) /\
    (∀ (a : Addr) (w : World) (K : Value -> World -> Prop), kN P (nilN (.pointer (some a))) w K = K (.pointer (some a)) w) /\ (∀ (a : Addr) (w : World) (K : Value -> Prop), sN P (nilN (.pointer (some a))) w K = K (.pointer (some a))) :=
  ⟨fun _ _ _ => kV_eq, fun _ _ _ => kU_eq, fun _ _ _ => sV_eq, fun _ _ _ => sU_eq, fun _ _ => pV_eq, fun _ _ _ _ _ => kN_pick, fun _ _ _ _ _ => sN_pick,
   fun _ _ _ => kN_nil, fun _ _ _ => sN_nil⟩
theorem gen0 :
    (∀ (K : Value -> World -> Prop) (v : Value) (w : World), resV K (.ok v w) = K v w) /\ (∀ (K : Unit -> World -> Prop) (v : Unit) (w : World), resV K (.ok v w) = K v w) /\
    (∀ (K : Value -> Prop) (v : Value) (w : World), resQ w K (.ok v w) = K v) /\ (∀ (K : Unit -> Prop) (v : Unit) (w : World), resQ w K (.ok v w) = K v) /\ (∀ (K : Value -> Prop) (v : Value), resPV K (fun w => .ok v w) = K v) /\ (∀ (G : World -> Prop) (w : World), drewK G w = G w.drew) :=
  ⟨fun _ _ _ => rfl, fun _ _ _ => rfl, fun _ _ _ => resQ_ok, fun _ _ _ => resQ_ok, fun _ _ => resPV_ok, fun _ _ => rfl⟩
theorem gen2 : (∀ (A B : Prop), condK (.bool true) A B = A) /\ (∀ (A B : Prop), condK (.bool false) A B = B) /\
    (∀ (A : (Value -> World -> Prop) -> Prop) (w : World) (K : Value -> World -> Prop), gdK (yb (.bool true)) true A w K = A K) /\ (∀ (A : (Value -> World -> Prop) -> Prop) (w : World) (K : Value -> World -> Prop), gdK (yb (.bool false)) false A w K = A K) /\
    (∀ (A : (Value -> World -> Prop) -> Prop) (w : World) (K : Value -> World -> Prop), gdK (yb (.bool false)) true A w K = K undef w) /\ (∀ (A : (Value -> World -> Prop) -> Prop) (w : World) (K : Value -> World -> Prop), gdK (yb (.bool true)) false A w K = K undef w) /\
    (∀ (want : Bool) (A : (Value -> World -> Prop) -> Prop) (w : World) (K : Value -> World -> Prop), gdK (yb undef) want A w K = K undef w) /\
    (∀ (A : (Value -> Prop) -> Prop) (K : Value -> Prop), gdS (yb (.bool true)) true A K = A K) /\ (∀ (A : (Value -> Prop) -> Prop) (K : Value -> Prop), gdS (yb (.bool false)) false A K = A K) /\
    (∀ (A : (Value -> Prop) -> Prop) (K : Value -> Prop), gdS (yb (.bool false)) true A K = K undef) /\ (∀ (A : (Value -> Prop) -> Prop) (K : Value -> Prop), gdS (yb (.bool true)) false A K = K undef) /\
    (∀ (want : Bool) (A : (Value -> Prop) -> Prop) (K : Value -> Prop), gdS (yb undef) want A K = K undef) :=
  ⟨fun _ _ => condK_true, fun _ _ => condK_false, fun _ _ _ => gdK_yes, fun _ _ _ => gdK_yes, fun _ _ _ => gdK_no1, fun _ _ _ => gdK_no2, fun _ _ _ _ => gdK_no3, fun _ _ => gdS_yes, fun _ _ => gdS_yes, fun _ _ => gdS_no1, fun _ _ => gdS_no2, fun _ _ _ => gdS_no3⟩
theorem numR {P : Program} :
    (∀ (w : World) (t : TypeId) (x y : Operand) (k : IntKind) (a b : Int), (binV .add t x y (.int k a) (.int k b)).run P w = .ok (.int k (k.wrap (a + b))) w) /\ (∀ (w : World) (t : TypeId) (x y : Operand) (k : IntKind) (a b : Int), (binV .sub t x y (.int k a) (.int k b)).run P w = .ok (.int k (k.wrap (a - b))) w) /\
    (∀ (w : World) (t : TypeId) (x y : Operand) (k : IntKind) (a b : Int), (binV .mul t x y (.int k a) (.int k b)).run P w = .ok (.int k (k.wrap (a * b))) w) /\
    (∀ (w : World) (t : TypeId) (x y : Operand) (k : IntKind) (a b : Int), b ≠ 0 -> (binV .quo t x y (.int k a) (.int k b)).run P w = .ok (.int k (k.wrap (a.tdiv b))) w) /\ (∀ (w : World) (t : TypeId) (x y : Operand) (k : IntKind) (a b : Int), b ≠ 0 -> (binV .rem t x y (.int k a) (.int k b)).run P w = .ok (.int k (a.tmod b)) w) /\
    (∀ (w : World) (t : TypeId) (x y : Operand) (k : IntKind) (a b : Int), (binV .and t x y (.int k a) (.int k b)).run P w = .ok (.int k (bitI .and k a b)) w) /\ (∀ (w : World) (t : TypeId) (x y : Operand) (k : IntKind) (a b : Int), (binV .or t x y (.int k a) (.int k b)).run P w = .ok (.int k (bitI .or k a b)) w) /\
    (∀ (w : World) (t : TypeId) (x y : Operand) (k : IntKind) (a b : Int), (binV .xor t x y (.int k a) (.int k b)).run P w = .ok (.int k (bitI .xor k a b)) w) /\ (∀ (w : World) (t : TypeId) (x y : Operand) (k : IntKind) (a b : Int), (binV .andNot t x y (.int k a) (.int k b)).run P w = .ok (.int k (bitI .andNot k a b)) w) /\
    (∀ (w : World) (t : TypeId) (x y : Operand) (k k' : IntKind) (a b : Int), 0 <= b -> (binV .shl t x y (.int k a) (.int k' b)).run P w = .ok (.int k (k.wrap (a * 2 ^ min b.toNat k.bits))) w) /\ (∀ (w : World) (t : TypeId) (x y : Operand) (k k' : IntKind) (a b : Int), 0 <= b -> (binV .shr t x y (.int k a) (.int k' b)).run P w = .ok (.int k (a.fdiv (2 ^ min b.toNat k.bits))) w) /\
    (∀ (w : World) (t : TypeId) (x y : Operand) (k : IntKind) (a b : Int), (binV .eql t x y (.int k a) (.int k b)).run P w = .ok (.bool (decide (a = b))) w) /\ (∀ (w : World) (t : TypeId) (x y : Operand) (k : IntKind) (a b : Int), (binV .neq t x y (.int k a) (.int k b)).run P w = .ok (.bool (decide (a ≠ b))) w) /\
    (∀ (w : World) (t : TypeId) (x y : Operand) (k : IntKind) (a b : Int), (binV .lss t x y (.int k a) (.int k b)).run P w = .ok (.bool (decide (a < b))) w) /\ (∀ (w : World) (t : TypeId) (x y : Operand) (k : IntKind) (a b : Int), (binV .leq t x y (.int k a) (.int k b)).run P w = .ok (.bool (decide (a <= b))) w) /\
    (∀ (w : World) (t : TypeId) (x y : Operand) (k : IntKind) (a b : Int), (binV .gtr t x y (.int k a) (.int k b)).run P w = .ok (.bool (decide (b < a))) w) /\ (∀ (w : World) (t : TypeId) (x y : Operand) (k : IntKind) (a b : Int), (binV .geq t x y (.int k a) (.int k b)).run P w = .ok (.bool (decide (b <= a))) w) /\
    (∀ (w : World) (b : Bool), (Op.unary .not (.bool b)).run P w = .ok (.bool !b) w) /\ (∀ (w : World) (k : IntKind) (a : Int), (Op.unary .neg (.int k a)).run P w = .ok (.int k (k.wrap (0 - a))) w) :=
  ⟨fun _ _ _ _ _ _ _ => run_add, fun _ _ _ _ _ _ _ => run_sub, fun _ _ _ _ _ _ _ => run_mul, fun _ _ _ _ _ _ _ => run_quo, fun _ _ _ _ _ _ _ => run_rem, fun _ _ _ _ _ _ _ => run_and, fun _ _ _ _ _ _ _ => run_or, fun _ _ _ _ _ _ _ => run_xor, fun _ _ _ _ _ _ _ => run_andNot,
   fun _ _ _ _ _ _ _ _ => run_shl, fun _ _ _ _ _ _ _ _ => run_shr, fun _ _ _ _ _ _ _ => run_eql, fun _ _ _ _ _ _ _ => run_neq, fun _ _ _ _ _ _ _ => run_lss, fun _ _ _ _ _ _ _ => run_leq, fun _ _ _ _ _ _ _ => run_gtr, fun _ _ _ _ _ _ _ => run_geq, fun _ _ => run_not, fun _ _ _ => run_neg⟩
theorem memR {P : Program} :
    (∀ (w : World) (b o n : Nat) (l : List Value) (e : TypeId) (f : Nat × Nat), o + n <= l.length -> lnX P w b o n (some (.cells l.toArray e f)) = .ok (sub l o n).toArray w) /\
    (∀ (t : TypeId) (v : Value) (w : World), (Instr.box t v).run P w = .ok (.pointer (some ⟨w.heap.size, 0, none⟩)) (w.alloc (.cells v.cells t))) /\
    (∀ (w : World) (b o : Nat) (l : List Value) (e : TypeId) (f : Nat × Nat), ldX P w b o (some (.cells l.toArray e f)) = ldY P w b o l[o]?) /\ (∀ (w : World) (b o : Nat) (v : Value), ldY P w b o (some v) = .ok v w) /\
    (∀ (w : World) (b o n : Nat) (l : List Value) (e : TypeId) (f : Nat × Nat), o + n <= l.length -> lnV P w b o n (some (.cells l.toArray e f)) = .ok (.agg (sub l o n).toArray) w) /\
    (∀ (w : World) (b o : Nat) (v : Value) (l : List Value) (e : TypeId), v.oneCell' = true -> o < l.length -> s1X P w b o v (some (.cells l.toArray e (0, 0))) = .ok () (World.upd w b (l.set o v))) /\
    (∀ (w : World) (b o : Nat) (vs : List Value) (l : List Value) (e : TypeId), vs.all (fun v => v.oneCell') = true -> o + vs.length <= l.length -> snX P w b o vs (some (.cells l.toArray e (0, 0))) = .ok () (World.upd w b (splice l o vs))) :=
  ⟨fun _ _ _ _ _ _ _ h => lnX_cells h, fun _ _ w => run_box w, fun _ _ _ _ _ _ => ldX_cells, fun _ _ _ _ => ldY_some, fun _ _ _ _ _ _ _ h => lnV_cells h, fun _ _ _ _ _ _ h1 h2 => s1X_cells h1 h2, fun _ _ _ _ _ _ h1 h2 => snX_cells (List.all_eq_true.1 h1) h2⟩
theorem valR : (∀ c : Array Value, (Value.agg c).cells = c) /\ (∀ (k : IntKind) (n : Int), (Value.int k n).cells = [Value.int k n].toArray) /\ (∀ b : Bool, (Value.bool b).cells = [Value.bool b].toArray) /\ (∀ a : Option Addr, (Value.pointer a).cells = [Value.pointer a].toArray) /\
    (∀ (a : Option Addr) (n c : Nat), (Value.slice a n c).cells = [Value.slice a n c].toArray) /\ (∀ (f : Fn) (a b : Array Value), (Value.func f a b).cells = [Value.func f a b].toArray) /\ (∀ r : Option Nat, (Value.map r).cells = [Value.map r].toArray) /\ (∀ s : ByteArray, (Value.string s).cells = [Value.string s].toArray) /\
    (∀ (k : IntKind) (n : Int), (Value.int k n).oneCell' = true) /\ (∀ b : Bool, (Value.bool b).oneCell' = true) /\ (∀ a : Option Addr, (Value.pointer a).oneCell' = true) /\ (∀ (a : Option Addr) (n c : Nat), (Value.slice a n c).oneCell' = true) /\
    (∀ (f : Fn) (a b : Array Value), (Value.func f a b).oneCell' = true) /\ (∀ r : Option Nat, (Value.map r).oneCell' = true) /\ (∀ s : ByteArray, (Value.string s).oneCell' = true) :=
  ⟨cells_agg, cells_int, cells_bool, cells_ptr, cells_slice, cells_func, cells_map, cells_str, one_int, one_bool, one_ptr, one_slice, one_func, one_map, one_str⟩
theorem heapR : (∀ (w : World) (o : Obj), (w.alloc o).heap.size = w.heap.size + 1) /\ (∀ (w : World) (b : Nat) (l : List Value), (World.upd w b l).heap.size = w.heap.size) /\ (∀ w : World, w.drew.heap = w.heap) /\
    (∀ (w : World) (o : Obj) (k : Nat), k = w.heap.size -> (w.alloc o).heap[k]? = some o) /\ (∀ (w : World) (o : Obj) (k : Nat), k ≠ w.heap.size -> (w.alloc o).heap[k]? = w.heap[k]?) /\
    (∀ (w : World) (b k : Nat) (l : List Value), k ≠ b -> (World.upd w b l).heap[k]? = w.heap[k]?) /\ (∀ (w : World) (b : Nat) (l l' : List Value), World.upd (World.upd w b l) b l' = World.upd w b l') /\
    (∀ (w : World) (l l' : List Value) (e : TypeId) (f : Nat × Nat) (k : Nat), k = w.heap.size -> World.upd (w.alloc (.cells l.toArray e f)) k l' = w.alloc (.cells l'.toArray e f)) :=
  ⟨fun w o => by simp, upd_size, fun _ => rfl, fun _ _ _ h => alloc_at h, fun _ _ _ h => alloc_ne h, fun _ _ _ _ h => upd_ne h, fun _ _ _ _ => upd_upd, fun _ _ _ _ _ _ h => upd_alloc h⟩
theorem intR : (∀ n : Int, 0 <= n /\ n < 18446744073709551616 -> IntKind.u64.wrap n = n) /\ (∀ n : Int, 0 <= n /\ n < 4294967296 -> IntKind.u32.wrap n = n) /\ (∀ n : Int, 0 <= n /\ n < 256 -> IntKind.u8.wrap n = n) /\ (∀ n : Int, -9223372036854775808 <= n /\ n < 9223372036854775808 -> IntKind.i64.wrap n = n) /\
    (∀ n : Int, -2147483648 <= n /\ n < 2147483648 -> IntKind.i32.wrap n = n) /\ (∀ a b : Int, 0 <= a -> a.tmod b = a % b) /\ (∀ a b : Int, 0 <= a -> a.tdiv b = a / b) :=
  ⟨fun _ => wrap_u64, fun _ => wrap_u32, fun _ => wrap_u8, fun _ => wrap_i64, fun _ => wrap_i32, fun _ _ h => Int.tmod_eq_emod_of_nonneg h, fun _ _ h => Int.tdiv_eq_ediv_of_nonneg h⟩
theorem decR : (∀ (p : Prop) [Decidable p], p -> decide p = true) /\ (∀ (p : Prop) [Decidable p], ¬ p -> decide p = false) := ⟨fun _ _ h => dec_true h, fun _ _ h => dec_false h⟩
theorem retV_load {P : Program} {t : TypeId} {a : Addr} {w : World} {K : Value -> Prop} : retV P t (.pointer (some a)) w K = resQ w K ((Instr.loadAt t (.pointer (some a))).run P w) := by
  rw [retV_eq]; simp [Instr.loadAt, Instr.sureAddr]
theorem ext0 {P : Program} {w : World} {a : Value} {l : List Value} : (Instr.extract (.tuple (a :: l).toArray) 0).run P w = .ok a w := rfl
theorem ext1 {P : Program} {w : World} {a b : Value} {l : List Value} : (Instr.extract (.tuple (a :: b :: l).toArray) 1).run P w = .ok b w := rfl
theorem ext2 {P : Program} {w : World} {a b c : Value} {l : List Value} : (Instr.extract (.tuple (a :: b :: c :: l).toArray) 2).run P w = .ok c w := rfl
theorem ext3 {P : Program} {w : World} {a b c d : Value} {l : List Value} : (Instr.extract (.tuple (a :: b :: c :: d :: l).toArray) 3).run P w = .ok d w := rfl
theorem ext4 {P : Program} {w : World} {a b c d e : Value} {l : List Value} : (Instr.extract (.tuple (a :: b :: c :: d :: e :: l).toArray) 4).run P w = .ok e w := rfl
/-- results. -/
theorem extR {P : Program} : (∀ (w : World) (a : Value) (l : List Value), (Instr.extract (.tuple (a :: l).toArray) 0).run P w = .ok a w) /\ (∀ (w : World) (a b : Value) (l : List Value), (Instr.extract (.tuple (a :: b :: l).toArray) 1).run P w = .ok b w) /\
    (∀ (w : World) (a b c : Value) (l : List Value), (Instr.extract (.tuple (a :: b :: c :: l).toArray) 2).run P w = .ok c w) /\ (∀ (w : World) (a b c d : Value) (l : List Value), (Instr.extract (.tuple (a :: b :: c :: d :: l).toArray) 3).run P w = .ok d w) /\
    (∀ (w : World) (a b c d e : Value) (l : List Value), (Instr.extract (.tuple (a :: b :: c :: d :: e :: l).toArray) 4).run P w = .ok e w) /\
    (∀ (t : TypeId) (a : Addr) (w : World) (K : Value -> Prop), retV P t (.pointer (some a)) w K = resQ w K ((Instr.loadAt t (.pointer (some a))).run P w)) :=
  ⟨fun _ _ _ => ext0, fun _ _ _ _ => ext1, fun _ _ _ _ _ => ext2, fun _ _ _ _ _ _ => ext3, fun _ _ _ _ _ _ _ => ext4, fun _ _ _ _ => retV_load⟩
theorem part1 {P : Program} {t : TypeId} {xs : Array Value} {o : Nat} {v : Value} {w : World} (ht : ∀ w, (isAgg t).run P w = .ok false w) (hv : xs[o]? = some v) : (part t xs o).run P w = .ok v w := by
  simp [part, ht, hv]
theorem partN {P : Program} {t : TypeId} {xs : Array Value} {o n : Nat} {w : World} (ht : ∀ w, (isAgg t).run P w = .ok true w) (hs : ∀ w, (sizeOf t).run P w = .ok n w) : (part t xs o).run P w = .ok (.agg (xs.extract o (o + n))) w := by
  simp [part, ht, hs]
theorem run_indexV {P : Program} {t e : TypeId} {n : Nat} (h : P.underlying t = some (.array n e)) (ha : ∀ w, (isAgg e).run P w = .ok false w) (hs : ∀ w, (sizeOf e).run P w = .ok 1 w) (vs : List Value) (k : IntKind) (i : Int) (w : World) (hi : 0 <= i /\ i < n) (hl : vs.length = n) :
    (Instr.index t (.agg vs.toArray) (.int k i)).run P w = ldY P w 0 0 vs[i.toNat]? := by
  obtain ⟨v, hv⟩ : ∃ v, vs[i.toNat]? = some v := ⟨_, List.getElem?_eq_getElem (by omega)⟩
  rw [hv, ldY_some]
  have hp := part1 (P := P) (t := e) (xs := vs.toArray) (o := i.toNat * 1) (w := w) ha (by rw [Nat.mul_one, List.getElem?_toArray]; exact hv)
  simp only [Instr.index, asIntOf, Sem.run_bind, Sem.run_pure, Result.andThen_ok, run_underlying h, hi, and_self, if_true, hs, hp]
def eqQ (d : Nat) (xs ys : Array Value) : List (TypeId × Nat) -> Sem Bool
  | [] => pure true
  | (t, o) :: q => do
    let a <- part t xs o
    let b <- part t ys o
    let r <- Op.equalIn d t a b
    if (!r) = true then pure false else eqQ d xs ys q
theorem eqFields_q {d : Nat} {xs ys : Array Value} : ∀ {fs : List Field} {q : List (TypeId × Nat)}, fs.map (fun f => (f.type, f.offset)) = q -> fs.all (fun f => decide (f.name ≠ "_")) = true -> Op.eqFields d xs ys fs = eqQ d xs ys q
  | [], q, h, _ => by subst h; rfl
  | f :: fs, q, h, hn => by
    subst h
    simp only [List.all_cons, Bool.and_eq_true, decide_eq_true_eq] at hn
    simp only [Op.eqFields, eqQ, List.map_cons]
    rw [if_pos hn.1, eqFields_q rfl hn.2]
theorem eqQ_nil {P : Program} {d : Nat} {xs ys : Array Value} {w : World} : (eqQ d xs ys []).run P w = .ok true w := by simp [eqQ]
theorem eqQ_cons {P : Program} {d o : Nat} {xs ys : Array Value} {t : TypeId} {q : List (TypeId × Nat)} {a b : Value} {r s : Bool} {w : World} (ha : (part t xs o).run P w = .ok a w) (hb : (part t ys o).run P w = .ok b w)
    (he : (Op.equalIn d t a b).run P w = .ok r w) (hr : (eqQ d xs ys q).run P w = .ok s w) : (eqQ d xs ys ((t, o) :: q)).run P w = .ok (r && s) w := by
  simp only [eqQ, Sem.run_bind, ha, hb, he, Result.andThen_ok]
  cases r
  · simp
  · simp [hr]
theorem equalIn_struct {P : Program} {d : Nat} {t : TypeId} {xs ys : Array Value} {q : List (TypeId × Nat)} {r : Bool} {w : World} (h2 : P.underlying t = some (.struct (P.fieldsOf t))) (h3 : P.stoodInHeld t = false)
    (hq : (P.fieldsOf t).toList.map (fun f => (f.type, f.offset)) = q) (hn : (P.fieldsOf t).toList.all (fun f => decide (f.name ≠ "_")) = true) (h : (eqQ d xs ys q).run P w = .ok r w) : (Op.equalIn (d + 1) t (.agg xs) (.agg ys)).run P w = .ok r w := by
  rw [run_equalIn_agg w d t xs ys h2 h3, eqFields_q hq hn, h]
theorem eql_agg {P : Program} {t : TypeId} (h1 : P.eqGuardType P.depth t = false) (xs ys : Array Value) (r : Bool) (x y : Operand) (w : World)
    (h : (Op.equalIn 10000 t (.agg xs) (.agg ys)).run P w = .ok r w) : (binV .eql t x y (.agg xs) (.agg ys)).run P w = .ok (.bool r) w := by
  unfold binV
  rw [Sem.run_bind, run_eqGuard_agg w .eql t x y xs ys h1]
  simp only [Result.andThen_ok]
  rw [run_eql_struct, h]
  rfl
theorem neq_agg {P : Program} {t : TypeId} (h1 : P.eqGuardType P.depth t = false) (xs ys : Array Value) (r : Bool) (x y : Operand) (w : World)
    (h : (Op.equalIn 10000 t (.agg xs) (.agg ys)).run P w = .ok r w) : (binV .neq t x y (.agg xs) (.agg ys)).run P w = .ok (.bool !r) w := by
  unfold binV
  rw [Sem.run_bind, run_eqGuard_agg w .neq t x y xs ys h1]
  simp only [Result.andThen_ok]
  rw [run_neq_struct, h]
  rfl
/-- the world w' is w but for the blocks in S and new blocks (none of them frozen). -/
structure Ext (S : List Nat) (w w' : World) : Prop where
  os : w'.os = w.os
  tape : w'.tape = w.tape
  output : w'.output = w.output
  size : w.heap.size <= w'.heap.size
  kept : ∀ k, k < w.heap.size -> k ∉ S -> w'.heap[k]? = w.heap[k]?
theorem Ext.refl {S : List Nat} {w : World} : Ext S w w := ⟨rfl, rfl, rfl, Nat.le_refl _, fun _ _ _ => rfl⟩
theorem lt_of_at {w : World} {b : Nat} {o : Obj} (h : w.heap[b]? = some o) : b < w.heap.size := (Array.getElem?_eq_some_iff.1 h).1
theorem Ext.at {S : List Nat} {w w' : World} {b : Nat} {o : Obj} (h : Ext S w w') (hb : w.heap[b]? = some o) (hn : b ∉ S) : w'.heap[b]? = some o := (h.kept b (lt_of_at hb) hn).trans hb
theorem Ext.mono {S T : List Nat} {w w' : World} (h : Ext S w w') (hs : ∀ k, k ∈ S -> k ∈ T) : Ext T w w' := ⟨h.os, h.tape, h.output, h.size, fun k hk hn => h.kept k hk fun hc => hn (hs k hc)⟩
theorem Ext.trans {S T : List Nat} {w w' w'' : World} (h : Ext S w w') (h2 : Ext T w' w'') (hs : ∀ k, k ∈ T -> k ∈ S ∨ w.heap.size <= k) : Ext S w w'' :=
  ⟨h2.os.trans h.os, h2.tape.trans h.tape, h2.output.trans h.output, Nat.le_trans h.size h2.size,
   fun k hk hn => (h2.kept k (Nat.lt_of_lt_of_le hk h.size) fun hc => (hs k hc).elim hn (fun h => absurd hk (by omega))).trans (h.kept k hk hn)⟩
theorem Ext.drew {S : List Nat} {w w' : World} (h : Ext S w w') : Ext S w w'.drew := ⟨h.os, h.tape, h.output, h.size, h.kept⟩
theorem Ext.alloc {S : List Nat} {w w' : World} (h : Ext S w w') (c : Array Value) (t : TypeId) : Ext S w (w'.alloc (.cells c t)) := by
  refine ⟨h.os, h.tape, h.output, Nat.le_trans h.size (by show w'.heap.size <= (w'.heap.push _).size; simp), fun k hk hn => ?_⟩
  rw [alloc_ne (by have := h.size; omega)]; exact h.kept k hk hn
theorem Ext.upd {S : List Nat} {w w' : World} (h : Ext S w w') {b : Nat} (l : List Value) (hb : b ∈ S ∨ w.heap.size <= b) : Ext S w (World.upd w' b l) := by
  refine ⟨h.os, h.tape, h.output, by rw [upd_size]; exact h.size, fun k hk hn => ?_⟩
  rw [upd_ne]
  · exact h.kept k hk hn
  · rintro rfl
    rcases hb with hb | hb
    · exact hn hb
    · omega
theorem Ext.updN {S : List Nat} {w w' : World} {b : Nat} {l : List Value} (hb : w.heap.size <= b) (h : Ext S w w') : Ext S w (World.upd w' b l) := h.upd l (.inr hb)
theorem Ext.updI {S : List Nat} {w w' : World} {b : Nat} {l : List Value} (hb : b ∈ S) (h : Ext S w w') : Ext S w (World.upd w' b l) := h.upd l (.inl hb)
theorem Ext.keptBut {w w' : World} (h : Ext [] w w') : w.keptBut w' (fun _ => False) :=
  ⟨h.os, h.output, fun i hi => by rw [h.kept i hi (by simp)]; exact (World.keptBut_refl w (fun _ => False)).2.2 i hi⟩
/-- joins gone through at once (where one leaf alone is reached). -/
theorem joinR : (∀ (G : (List Value -> World -> Prop) -> Prop) (rest : List Value -> World -> Prop), joinL G rest = G rest) /\ (∀ (G : (Value -> World -> Prop) -> Prop) (rest : Value -> World -> Prop), joinK G rest = G rest) /\
    (∀ (G : (Value -> Prop) -> Prop) (rest : Value -> Prop), joinK G rest = G rest) /\ (∀ (G : (World -> Prop) -> Prop) (rest : World -> Prop), joinK G rest = G rest) := ⟨fun _ _ => rfl, fun _ _ => rfl, fun _ _ => rfl, fun _ _ => rfl⟩
/-- joins of truth values alone. -/
theorem joinBR : (∀ (G : (Value -> World -> Prop) -> Prop) (rest : Value -> World -> Prop), joinK G rest = G rest) /\
    (∀ (G : (Value -> Prop) -> Prop) (rest : Value -> Prop), joinK G rest = G rest) /\ (∀ (G : (World -> Prop) -> Prop) (rest : World -> Prop), joinK G rest = G rest) := ⟨fun _ _ => rfl, fun _ _ => rfl, fun _ _ => rfl⟩
/-- lists that stand written out. -/
theorem litR : (∀ (a : Value) (l v : List Value) (n : Nat), splice (a :: l) (n + 1) v = a :: splice l n v) /\ (∀ (l v : List Value), splice l 0 v = v ++ l.drop v.length) /\ (∀ (a : Value) (l : List Value) (o n : Nat), sub (a :: l) (o + 1) n = sub l o n) /\
    (∀ (a : Value) (l : List Value) (n : Nat), sub (a :: l) 0 (n + 1) = a :: sub l 0 n) /\ (∀ (l : List Value) (o : Nat), sub l o 0 = []) /\ (∀ (a : Value) (l : List Value) (n : Nat), (a :: l).drop (n + 1) = l.drop n) /\ (∀ (l : List Value), l.drop 0 = l) /\ (∀ n : Nat, ([] : List Value).drop n = []) /\
    (∀ (a : Value) (l k : List Value), a :: l ++ k = a :: (l ++ k)) /\ (∀ l : List Value, [] ++ l = l) /\ (∀ l : List Value, l ++ [] = l) /\ (∀ (a : Value) (l : List Value), (a :: l).length = l.length + 1) /\ (([] : List Value).length = 0) /\
    (∀ (a v : Value) (l : List Value) (n : Nat), (a :: l).set (n + 1) v = a :: l.set n v) /\ (∀ (a v : Value) (l : List Value), (a :: l).set 0 v = v :: l) /\ (∀ (a : Value) (l : List Value) (n : Nat), (a :: l)[n + 1]? = l[n]?) /\ (∀ (a : Value) (l : List Value), (a :: l)[0]? = some a) /\
    (∀ (a d : Value) (l : List Value) (n : Nat), (a :: l).getD (n + 1) d = l.getD n d) /\ (∀ (a d : Value) (l : List Value), (a :: l).getD 0 d = a) /\ (∀ a : Nat, 0 + a = a) /\ (∀ a : Nat, a + 0 = a) := by
  refine ⟨fun a l v n => ?_, fun l v => ?_, fun a l o n => ?_, fun a l n => ?_, fun l o => ?_, fun _ _ _ => rfl, fun _ => rfl, fun n => ?_, fun _ _ _ => rfl, fun _ => rfl, fun l => ?_, fun _ _ => rfl, rfl, fun _ _ _ _ => rfl, fun _ _ _ => rfl, fun _ _ _ => rfl, fun _ _ => rfl, fun _ _ _ _ => rfl, fun _ _ _ => rfl, fun _ => Nat.zero_add _, fun _ => rfl⟩
  · unfold splice
    rw [show n + 1 + v.length = (n + v.length) + 1 by omega]
    rfl
  · simp [splice]
  · rfl
  · rfl
  · simp [sub]
  · simp
  · simp
def seg (A M B : List Value) : List Value := A ++ (M ++ B)
theorem seg_length {A M B : List Value} : (seg A M B).length = A.length + (M.length + B.length) := by simp [seg]
def updO (l : List Value) : Option Obj -> Option Obj
  | some (.cells _ e f) => some (.cells l.toArray e f)
  | o => o
theorem upd_atO {w : World} {b k : Nat} {l : List Value} (h : k = b) : (World.upd w b l).heap[k]? = updO l w.heap[b]? := by
  subst h
  simp only [World.upd, Array.getElem?_modify, if_true]
  cases w.heap[k]? with
  | none => rfl
  | some o => cases o <;> rfl
/-- what a block holds that was written as a whole. -/
theorem updR : (∀ (w : World) (b k : Nat) (l : List Value), k = b -> (World.upd w b l).heap[k]? = updO l w.heap[b]?) /\ (∀ (c : Array Value) (l : List Value) (e : TypeId) (f : Nat × Nat), updO l (some (.cells c e f)) = some (.cells l.toArray e f)) := ⟨fun _ _ _ _ h => upd_atO h, fun _ _ _ _ => rfl⟩
/-- sizes. -/
theorem szR : (∀ (w : World) (o : Obj), (w.alloc o).heap.size = w.heap.size + 1) /\ (∀ (w : World) (b : Nat) (l : List Value), (World.upd w b l).heap.size = w.heap.size) /\ (∀ w : World, w.drew.heap = w.heap) /\
    (∀ (a : Value) (l : List Value), (a :: l).length = l.length + 1) /\ (([] : List Value).length = 0) /\ (∀ (l k : List Value), (l ++ k).length = l.length + k.length) /\ (∀ (l : List Value) (i : Nat) (v : Value), (l.set i v).length = l.length) /\ (∀ A M B : List Value, (seg A M B).length = A.length + (M.length + B.length)) /\
    (∀ f : Value -> Bool, ([] : List Value).all f = true) /\ (∀ (a : Value) (l : List Value) (f : Value -> Bool), (a :: l).all f = (f a && l.all f)) /\ (∀ (l k : List Value) (f : Value -> Bool), (l ++ k).all f = (l.all f && k.all f)) /\ (∀ b : Bool, (true && b) = b) /\
    (∀ (k : IntKind) (n : Int), (Value.int k n).oneCell' = true) /\ (∀ b : Bool, (Value.bool b).oneCell' = true) /\ (∀ a : Option Addr, (Value.pointer a).oneCell' = true) /\ (∀ (a : Option Addr) (n c : Nat), (Value.slice a n c).oneCell' = true) /\
    (∀ (f : Fn) (a b : Array Value), (Value.func f a b).oneCell' = true) /\ (∀ r : Option Nat, (Value.map r).oneCell' = true) /\ (∀ s : ByteArray, (Value.string s).oneCell' = true) :=
  ⟨fun w o => by simp, upd_size, fun _ => rfl, fun _ _ => rfl, rfl, fun _ _ => List.length_append, fun _ _ _ => List.length_set, fun _ _ _ => seg_length, fun _ => rfl, fun _ _ _ => rfl, fun _ _ _ => List.all_append, fun _ => rfl,
   one_int, one_bool, one_ptr, one_slice, one_func, one_map, one_str⟩
/-- truth values that stand written out. -/
theorem bolR : ((true == true) = true) /\ ((true == false) = false) /\ ((false == true) = false) /\ ((false == false) = true) /\ (∀ b : Bool, (true && b) = b) /\ (∀ b : Bool, (false && b) = false) /\ (∀ b : Bool, (b && true) = b) /\ ((!true) = false) /\ ((!false) = true) /\ (∀ a b : Int, (a == b) = decide (a = b)) /\
    (∀ b : Bool, (b && false) = false) /\ (∀ b : Bool, (true || b) = true) /\ (∀ b : Bool, (false || b) = b) /\ (∀ (h : Decidable True) (a b : Value), @ite _ True h a b = a) /\ (∀ (h : Decidable False) (a b : Value), @ite _ False h a b = b) /\ ((false = true) = False) :=
  ⟨rfl, rfl, rfl, rfl, fun _ => rfl, fun _ => rfl, fun b => by simp, rfl, rfl, fun _ _ => rfl, fun b => by simp, fun _ => rfl, fun _ => rfl, fun _ _ _ => if_pos trivial, fun _ _ _ => if_neg not_false, by simp⟩
theorem run_sbound {P : Program} {k : IntKind} {i : Int} {y : Nat} {c : BoundsCode} {w : World} (h : 0 <= i /\ i <= y) : (Instr.sliceBound (.int k i) y c).run P w = .ok i.toNat w := run_sliceBound w k i y c h.1 h.2
/-- the place where a slice begins. -/
def sAt (b o : Nat) (m l size : Nat) : Addr := if m = l then ⟨b, o, none⟩ else ⟨b, o + l * size, none⟩
theorem sAt_zero {b o m size : Nat} : sAt b o m 0 size = ⟨b, o, none⟩ := by unfold sAt; split <;> simp
theorem sAt_ne {b o m l size : Nat} (h : m ≠ l) : sAt b o m l size = ⟨b, o + l * size, none⟩ := if_neg h
theorem sAt_end {b o m l size : Nat} (h : m = l) : sAt b o m l size = ⟨b, o, none⟩ := if_pos h
theorem slR {P : Program} :
    (∀ (s : Bool) (n c : Nat) (w : World), (Instr.sliceBounds s n c none none none).run P w = .ok (0, n, c) w) /\
    (∀ (s : Bool) (n c : Nat) (k : IntKind) (h : Int) (w : World), 0 <= h /\ h <= c -> (Instr.sliceBounds s n c none (some (.int k h)) none).run P w = .ok (0, h.toNat, c) w) /\
    (∀ (s : Bool) (n c : Nat) (k : IntKind) (l : Int) (w : World), 0 <= l /\ l <= n -> (Instr.sliceBounds s n c (some (.int k l)) none none).run P w = .ok (l.toNat, n, c) w) /\
    (∀ (s : Bool) (n c : Nat) (k k' : IntKind) (l h : Int) (w : World), 0 <= l /\ l <= h /\ h <= c -> (Instr.sliceBounds s n c (some (.int k l)) (some (.int k' h)) none).run P w = .ok (l.toNat, h.toNat, c) w) /\
    (∀ (s : Bool) (n c : Nat) (k k' : IntKind) (h m : Int) (w : World), 0 <= h /\ h <= m /\ m <= c -> (Instr.sliceBounds s n c none (some (.int k h)) (some (.int k' m))).run P w = .ok (0, h.toNat, m.toNat) w) /\
    (∀ (s : Bool) (n c : Nat) (k k' k2 : IntKind) (l h m : Int) (w : World), 0 <= l /\ l <= h /\ h <= m /\ m <= c -> (Instr.sliceBounds s n c (some (.int k l)) (some (.int k' h)) (some (.int k2 m))).run P w = .ok (l.toNat, h.toNat, m.toNat) w) /\
 True := by
  refine ⟨fun s n c w => ?_, fun s n c k h w hh => ?_, fun s n c k l w hh => ?_, fun s n c k k' l h w hh => ?_, fun s n c k k' h m w hh => ?_, fun s n c k k' k2 l h m w hh => ?_, trivial⟩
  · simp [Instr.sliceBounds]
  · simp [Instr.sliceBounds, run_sbound hh]
  · simp [Instr.sliceBounds, run_sbound hh]
  · have h1 : 0 <= l /\ l <= (h.toNat : Int) := by omega
    have h2 : 0 <= h /\ h <= (c : Int) := by omega
    simp only [Instr.sliceBounds, Sem.run_bind, Sem.run_pure, Result.andThen_ok, run_sbound h2, run_sbound h1]
  · have h1 : 0 <= h /\ h <= (m.toNat : Int) := by omega
    have h2 : 0 <= m /\ m <= (c : Int) := by omega
    simp only [Instr.sliceBounds, Sem.run_bind, Sem.run_pure, Result.andThen_ok, run_sbound h2, run_sbound h1]
  · have h1 : 0 <= h /\ h <= (m.toNat : Int) := by omega
    have h2 : 0 <= m /\ m <= (c : Int) := by omega
    have h3 : 0 <= l /\ l <= (h.toNat : Int) := by omega
    simp only [Instr.sliceBounds, Sem.run_bind, Sem.run_pure, Result.andThen_ok, run_sbound h2, run_sbound h1, run_sbound h3]
/-- what follows a result; where a slice begins; small numbers. -/
theorem thenR : (∀ (α β : Type) (v : α) (w : World) (f : α -> World -> Result β), (Result.ok v w).andThen f = f v w) /\ (∀ (b o m size : Nat), sAt b o m 0 size = ⟨b, o, none⟩) /\ (∀ (b o m l size : Nat), m ≠ l -> sAt b o m l size = ⟨b, o + l * size, none⟩) /\ (∀ (b o m l size : Nat), m = l -> sAt b o m l size = ⟨b, o, none⟩) /\
    (∀ l : List Value, l.toArray.toList = l) /\ (∀ n : Nat, (n : Int).toNat = n) /\ (((0 : Nat) : Int) = 0) /\ (((1 : Nat) : Int) = 1) /\ (((2 : Nat) : Int) = 2) /\ (((3 : Nat) : Int) = 3) /\ (((4 : Nat) : Int) = 4) /\ (((8 : Nat) : Int) = 8) /\ (∀ n : Nat, 0 * n = 0) /\ (∀ n : Nat, 1 * n = n) /\ (∀ n : Nat, n * 1 = n) /\ (IntKind.u64.bits = 64) /\ (IntKind.u32.bits = 32) /\ (IntKind.u8.bits = 8) /\ (IntKind.i64.bits = 64) /\ (IntKind.i32.bits = 32) /\ (∀ n : Nat, min 0 n = 0) /\ (∀ n : Nat, min n 0 = 0) /\ (∀ n : Nat, min n n = n) /\ (∀ n : Nat, n - 0 = n) /\ (∀ n m : Nat, n <= m -> min n m = n) /\ (∀ n m : Nat, m <= n -> min n m = m) :=
  ⟨fun _ _ _ _ _ => rfl, fun _ _ _ _ => sAt_zero, fun _ _ _ _ _ h => sAt_ne h, fun _ _ _ _ _ h => sAt_end h, fun _ => rfl, fun n => Int.toNat_natCast n, rfl, rfl, rfl, rfl, rfl, rfl, fun n => Nat.zero_mul n, fun n => Nat.one_mul n, fun n => Nat.mul_one n, rfl, rfl, rfl, rfl, rfl, fun n => Nat.zero_min n, fun n => Nat.min_zero n, fun n => Nat.min_self n, fun _ => rfl, fun _ _ h => Nat.min_eq_left h, fun _ _ h => Nat.min_eq_right h⟩
/-- pointers held against nil. -/
theorem run_eqlP {P : Program} {t e : TypeId} (h : P.underlying t = some (.pointer e)) (x y : Operand) (a : Option Addr) (w : World) : (binV .eql t x y (.pointer a) (.pointer none)).run P w = .ok (.bool a.isNone) w := by
  have hp : P.underlying t = some (.pointer (P.pointee t)) := by unfold Program.pointee; simp [h]
  simp [binV, eqGuard, binOp, run_equal_pointer_nil w t a hp]
theorem seg_get {A M B : List Value} {p : Nat} (h : A.length <= p) (h2 : p < A.length + M.length) : (seg A M B)[p]? = M[p - A.length]? := by
  unfold seg
  rw [List.getElem?_append_right h, List.getElem?_append_left (by omega)]
theorem seg_sub {A M B : List Value} {p n : Nat} (h : A.length <= p) (h2 : p + n <= A.length + M.length) : sub (seg A M B) p n = sub M (p - A.length) n := by
  unfold sub seg
  rw [List.drop_append, List.drop_eq_nil_of_le h, List.nil_append, List.drop_append_of_le_length (by omega), List.take_append_of_le_length (by rw [List.length_drop]; omega)]
theorem seg_splice {A M B v : List Value} {p : Nat} (h : A.length <= p) (h2 : p + v.length <= A.length + M.length) : splice (seg A M B) p v = seg A (splice M (p - A.length) v) B := by
  apply List.ext_getElem?
  intro i
  have hl : (splice M (p - A.length) v).length = M.length := splice_length (by omega)
  rw [splice_get (by rw [seg_length]; omega)]
  unfold seg
  by_cases h1 : i < A.length
  · rw [if_pos (by omega), List.getElem?_append_left h1, List.getElem?_append_left h1]
  · have e1 : (A ++ (M ++ B))[i]? = (M ++ B)[i - A.length]? := List.getElem?_append_right (by omega)
    have e2 : (A ++ (splice M (p - A.length) v ++ B))[i]? = (splice M (p - A.length) v ++ B)[i - A.length]? := List.getElem?_append_right (by omega)
    rw [e1, e2]
    by_cases h3 : i - A.length < M.length
    · have f1 : (M ++ B)[i - A.length]? = M[i - A.length]? := List.getElem?_append_left h3
      have f2 : (splice M (p - A.length) v ++ B)[i - A.length]? = (splice M (p - A.length) v)[i - A.length]? := List.getElem?_append_left (by rw [hl]; exact h3)
      rw [f1, f2, splice_get (by omega)]
      by_cases c1 : i < p
      · rw [if_pos c1, if_pos (show i - A.length < p - A.length by omega)]
      · rw [if_neg c1, if_neg (show ¬ (i - A.length < p - A.length) by omega)]
        by_cases c2 : i < p + v.length
        · rw [if_pos c2, if_pos (show i - A.length < p - A.length + v.length by omega), show i - A.length - (p - A.length) = i - p by omega]
        · rw [if_neg c2, if_neg (show ¬ (i - A.length < p - A.length + v.length) by omega)]
    · have f1 : (M ++ B)[i - A.length]? = B[i - A.length - M.length]? := List.getElem?_append_right (by omega)
      have f2 : (splice M (p - A.length) v ++ B)[i - A.length]? = B[i - A.length - (splice M (p - A.length) v).length]? := List.getElem?_append_right (by rw [hl]; omega)
      rw [f1, f2, hl, if_neg (by omega), if_neg (by omega)]
theorem seg_set {A M B : List Value} {v : Value} {p : Nat} (h : A.length <= p) (h2 : p < A.length + M.length) : (seg A M B).set p v = seg A (M.set (p - A.length) v) B := by
  unfold seg
  rw [List.set_append_right _ _ h, List.set_append_left _ _ (by omega)]
/-- a part of a block, as a whole. -/
theorem segR : (∀ A M B : List Value, (seg A M B).length = A.length + (M.length + B.length)) /\ (∀ (A M B : List Value) (p : Nat), A.length <= p -> p < A.length + M.length -> (seg A M B)[p]? = M[p - A.length]?) /\
    (∀ (A M B : List Value) (p n : Nat), A.length <= p -> p + n <= A.length + M.length -> sub (seg A M B) p n = sub M (p - A.length) n) /\ (∀ (A M B v : List Value) (p : Nat), A.length <= p -> p + v.length <= A.length + M.length -> splice (seg A M B) p v = seg A (splice M (p - A.length) v) B) /\
    (∀ (A M B : List Value) (v : Value) (p : Nat), A.length <= p -> p < A.length + M.length -> (seg A M B).set p v = seg A (M.set (p - A.length) v) B) /\ (∀ n m : Nat, n + m - n = m) /\ (∀ n : Nat, n - n = 0) :=
  ⟨fun _ _ _ => seg_length, fun _ _ _ _ h h2 => seg_get h h2, fun _ _ _ _ _ h h2 => seg_sub h h2, fun _ _ _ _ _ h h2 => seg_splice h h2, fun _ _ _ _ _ h h2 => seg_set h h2, fun n m => Nat.add_sub_cancel_left n m, fun n => Nat.sub_self n⟩
/-- the block in which a slice lies. -/
def blockOf : Value -> Option Nat
  | .slice (some a) _ _ => some a.block
  | _ => none
/-- v is a slice of n elements of the given cells, alone in its block (from base on), or nil. -/
def Own (w : World) (base : Nat) (e : TypeId) (size : Nat) (v : Value) (n : Nat) (xs : List Value) : Prop :=
  xs.length = n * size /\ ((v = .slice none 0 0 /\ n = 0) ∨ ∃ (g cap : Nat) (cur : List Value), v = .slice (some ⟨g, 0, none⟩) n cap /\ base <= g /\ w.heap[g]? = some (.cells cur.toArray e (0, 0)) /\ n <= cap /\ cap <= maxLen /\ cur.length = cap * size /\ cur.take (n * size) = xs)
theorem Own.nil {w : World} {base : Nat} {e : TypeId} {size : Nat} : Own w base e size (.slice none 0 0) 0 [] := ⟨by simp, .inl ⟨rfl, rfl⟩⟩
/-- what an append does besides. -/
structure App (base : Nat) (v : Value) (w w' : World) : Prop where
  ext : ∀ (w0 : World) (S : List Nat), w0.heap.size <= base -> Ext S w0 w -> Ext S w0 w'
  kept : ∀ k, k < w.heap.size -> blockOf v ≠ some k -> w'.heap[k]? = w.heap[k]?
  step : Ext (blockOf v).toList w w'
theorem App.refl {base : Nat} {v : Value} {w : World} : App base v w w := ⟨fun _ _ _ h => h, fun _ _ _ => rfl, Ext.refl⟩
theorem App.upd {base g : Nat} {a : Addr} {n c : Nat} {w : World} {l : List Value} (hg : base <= g) (ha : a.block = g) : App base (.slice (some a) n c) w (World.upd w g l) :=
  ⟨fun w0 S hs h => h.updN (by omega), fun k _ hne => upd_ne fun e => hne (by simp [blockOf, ha, e]), Ext.updI (by simp [blockOf, ha]) Ext.refl⟩
theorem App.alloc {base : Nat} {v : Value} {w : World} {c : Array Value} {t : TypeId} : App base v w (w.drew.alloc (.cells c t)) :=
  ⟨fun w0 S hs h => h.drew.alloc c t, fun k hk _ => (alloc_ne (by show k ≠ w.heap.size; omega)).trans rfl, Ext.refl.drew.alloc c t⟩
theorem cell_list {w : World} {b o : Nat} {l : List Value} {E : TypeId} {f : Nat × Nat} {n : Nat} (h : w.heap[b]? = some (.cells l.toArray E f)) (j : Nat) (u : Value) (hu : (sub l o n)[j]? = some u) : w.cell? (Addr.add ⟨b, o, none⟩ j) = some u := by
  rw [add_off, cell_of_block h]
  unfold sub at hu
  rw [List.getElem?_take] at hu
  split at hu
  · rw [List.getElem?_drop] at hu; exact hu
  · cases hu
theorem setRow_upd {w : World} {g : Nat} {l : List Value} : w.setRow g l.toArray = World.upd w g l := rfl
theorem kV_append {P : Program} {t ty e : TypeId} {i : TypeInfo} {z : Value} {size bytes : Nat} (ht : P.underlying t = some (.slice e)) (hi : P.info? e = some i) (hz : i.zero = some z) (hsize : i.size = size) (hby : i.bytes = bytes) (hzs : z.cells.size = size) (hsz : 0 < size)
    {base n m c b o : Nat} {v : Value} {xs l : List Value} {E : TypeId} {f : Nat × Nat} {w : World} {K : Value -> World -> Prop} (hown : Own w base e size v n xs) (hb : w.heap[b]? = some (.cells l.toArray E f)) (ho : o + m * size <= l.length)
    (h1 : (sub l o (m * size)).all (fun v => v.oneCell') = true) (h63 : n + m <= maxLen) (hbytes : (n + m) * bytes <= 140737488355328) (hbase : base <= w.heap.size)
    (hK : ∀ v' w', Own w' base e size v' (n + m) (xs ++ sub l o (m * size)) -> App base v w w' -> K v' w') :
    resV K ((Builtin.append_ #[t, t] ty #[v, .slice (some ⟨b, o, none⟩) m c]).run P w) := by
  subst hsize
  subst hby
  have hsmall : n + m <= 9223372036854775807 := by simp only [maxLen] at h63; omega
  have hln : (sub l o (m * i.size)).length = m * i.size := by unfold sub; simp; omega
  have hnews := cell_list (o := o) (n := m * i.size) hb
  have hone : ∀ u ∈ sub l o (m * i.size), u.oneCell' = true := List.all_eq_true.1 h1
  have hlen : (xs ++ sub l o (m * i.size)).length = (n + m) * i.size := by rw [List.length_append, hown.1, hln, Nat.add_mul]
  have grown : ∀ (old : Nat), Own (w.drew.alloc (.cells (xs.toArray ++ (sub l o (m * i.size)).toArray ++ Builtin.zeroCells z.cells (grownCap w (n + m) old e - (n + m))) e)) base e i.size (.slice (some ⟨w.heap.size, 0, none⟩) (n + m) (grownCap w (n + m) old e)) (n + m) (xs ++ sub l o (m * i.size)) := by
    intro old
    have hge := grownCap_ge w (n + m) old e
    have hcm := grownCap_le_maxLen w (n + m) old e h63
    refine ⟨hlen, .inr ⟨w.heap.size, _, xs ++ sub l o (m * i.size) ++ (Builtin.zeroCells z.cells (grownCap w (n + m) old e - (n + m))).toList, rfl, hbase, ?_, hge, hcm, ?_, ?_⟩⟩
    · have := heap_alloc_new w.drew (.cells (xs.toArray ++ (sub l o (m * i.size)).toArray ++ Builtin.zeroCells z.cells (grownCap w (n + m) old e - (n + m))) e)
      refine this.trans ?_
      simp
    · rw [List.length_append, hlen, Array.length_toList, size_zeroCells, hzs, <- Nat.add_mul]
      congr 1; omega
    · rw [<- hlen]; exact List.take_left
  rcases hown.2 with ⟨rfl, rfl⟩ | ⟨g, cap, cur, rfl, hbg, hg, hnc, hcm, hcs, htake⟩
  · have hx : xs = [] := List.eq_nil_of_length_eq_zero (by simpa using hown.1)
    subst hx
    by_cases hm : m = 0
    · subst hm
      have hr : (Builtin.append_ #[t, t] ty #[.slice none 0 0, .slice (some ⟨b, o, none⟩) 0 c]).run P w = .ok (.slice none 0 0) w := by
        simp [Builtin.append_, run_underlying ht, sizeOf, typeInfo, hi, Builtin.lenOf, Builtin.firstCells, loadCells, loadCellsFrom]
      rw [hr]
      refine hK _ _ ⟨by simpa using hlen, .inl ⟨rfl, rfl⟩⟩ App.refl
    · have hr := run_append_nil (P := P) w t ty e i z ht hi hz ⟨b, o, none⟩ m c _ hln hnews (by omega) (by omega) (by have hb := hbytes; simp only [Nat.zero_add] at hb; omega)
      rw [hr]
      have hgr := grown 0
      simp only [Nat.zero_add, List.nil_append, Array.empty_append] at hgr ⊢
      exact hK _ _ (by simpa using hgr) App.alloc
  · by_cases hroom : n + m <= cap
    · have hfit : n * i.size + (sub l o (m * i.size)).length <= cur.toArray.size := by rw [hln, List.size_toArray, hcs, <- Nat.add_mul]; exact Nat.mul_le_mul_right _ hroom
      have hr := run_append_room (P := P) w t ty e i ht hi g n cap cur.toArray hg ⟨b, o, none⟩ m c _ hln hnews hone hroom hfit
      rw [hr]
      have hspl : (List.take (n * i.size) cur.toArray.toList ++ sub l o (m * i.size) ++ List.drop (n * i.size + (sub l o (m * i.size)).length) cur.toArray.toList) = splice cur (n * i.size) (sub l o (m * i.size)) := rfl
      rw [hspl, setRow_upd]
      refine hK _ _ ⟨hlen, .inr ⟨g, cap, _, rfl, hbg, upd_at hg, hroom, hcm, ?_, ?_⟩⟩ (App.upd hbg rfl)
      · rw [splice_length (by simpa using hfit)]; exact hcs
      · unfold splice
        rw [htake, <- hlen]
        exact List.take_left
    · have holds : ∀ j u, xs[j]? = some u -> w.cell? ((⟨g, 0, none⟩ : Addr).add j) = some u := by
        intro j u hu
        refine cell_list (o := 0) (n := n * i.size) hg j u ?_
        unfold sub
        rw [List.drop_zero, htake]; exact hu
      have hr := run_append_grow (P := P) w t ty e i z ht hi hz ⟨g, 0, none⟩ n cap xs hown.1 holds ⟨b, o, none⟩ m c _ hln hnews (by omega) (by omega) (growslice_fits (by omega) hbytes)
      rw [hr]
      exact hK _ _ (grown cap) App.alloc
theorem kV_appendO {P : Program} {t ty e : TypeId} {size bytes : Nat} (ht : P.underlying t = some (.slice e)) (hi : (P.info? e).map (fun i => (i.size, i.bytes, i.zero.map (fun z => z.cells.size))) = some (size, bytes, some size)) (hsz : 0 < size)
    {base n m c b o : Nat} {v : Value} {xs l : List Value} {E : TypeId} {f : Nat × Nat} {w : World} {K : Value -> World -> Prop} (hown : Own w base e size v n xs) (hb : w.heap[b]? = some (.cells l.toArray E f)) (ho : o + m * size <= l.length)
    (h1 : (sub l o (m * size)).all (fun v => v.oneCell') = true) (h63 : n + m <= maxLen) (hbytes : (n + m) * bytes <= 140737488355328) (hbase : base <= w.heap.size)
    (hK : ∀ v' w', Own w' base e size v' (n + m) (xs ++ sub l o (m * size)) -> App base v w w' -> K v' w') :
    resV K ((Builtin.append_ #[t, t] ty #[v, .slice (some ⟨b, o, none⟩) m c]).run P w) := by
  obtain ⟨i, h2, h3⟩ := Option.map_eq_some_iff.1 hi
  simp only [Prod.mk.injEq] at h3
  obtain ⟨h4, h5, h6⟩ := h3
  obtain ⟨z, h7, h8⟩ := Option.map_eq_some_iff.1 h6
  exact kV_append ht h2 h7 h4 h5 h8 hsz hown hb ho h1 h63 hbytes hbase hK
end Go.Fx
namespace Go.Fx
open Go.ChangeShapes Go.WideShapes
theorem Ext.below {w w' : World} (h : Ext [] w w') : RowKit.Below w.heap.size w w' := ⟨h.os, h.tape, h.output, h.size, fun k hk => h.kept k hk (by simp)⟩
theorem callsK.law2 {P : Program} {f : FuncId} {args : Array Value} {w : World} (h : callsK P f args w fun v w' => v = .bool true /\ Ext [] w w') :
    Calls P f args w fun e w' => e = .returned (.bool true) /\ w.keptBut w' (fun _ => False) /\ RowKit.Below w.heap.size w w' := by
  refine Calls.mono h ?_
  rintro e w' ⟨v, rfl, rfl, hx⟩
  exact ⟨rfl, hx.keptBut, hx.below⟩
/-- a slice's rows: each n cells, and as the list says. -/
def RowsAt (w : World) (v : Value) (n : Nat) (rows : List (List Value)) : Prop :=
  ∃ (a : Option Addr) (cap : Nat), v = .slice a rows.length cap /\ (rows.length <= cap /\ cap <= maxLen) /\ (rows = [] ∨ ∃ (b o : Nat) (l : List Value) (E : TypeId) (f : Nat × Nat), a = some ⟨b, o, none⟩ /\ w.heap[b]? = some (.cells l.toArray E f) /\ o + rows.length * n <= l.length /\
    ∀ i r, rows[i]? = some r -> sub l (o + i * n) n = r)
theorem RowsAt.ext {w w' : World} {v : Value} {n : Nat} {rows : List (List Value)} {S : List Nat} (h : RowsAt w v n rows) (hx : Ext S w w') (hs : ∀ k ∈ S, w.heap.size <= k) : RowsAt w' v n rows := by
  obtain ⟨a, cap, rfl, hm, h⟩ := h
  refine ⟨a, cap, rfl, hm, h.imp id ?_⟩
  rintro ⟨b, o, l, E, f, rfl, hb, h2, h3⟩
  refine ⟨b, o, l, E, f, rfl, hx.at hb (fun hc => ?_), h2, h3⟩
  have := hs b hc
  have := lt_of_at hb
  omega
/-- a row, where it lies. -/
theorem RowsAt.row {w : World} {v : Value} {n k : Nat} {rows : List (List Value)} {r : List Value} (h : RowsAt w v n rows) (hk : rows[k]? = some r) :
    ∃ (b o cap : Nat) (l : List Value) (E : TypeId) (f : Nat × Nat), v = .slice (some ⟨b, o, none⟩) rows.length cap /\ w.heap[b]? = some (.cells l.toArray E f) /\ o + k * n + n <= l.length /\ (∀ p, p = o + k * n -> sub l p n = r) /\
      (∀ p, o + k * n <= p -> p < o + k * n + n -> l[p]? = r[p - (o + k * n)]?) := by
  obtain ⟨a, cap, rfl, hm, h⟩ := h
  obtain ⟨hk1, hk2⟩ := List.getElem?_eq_some_iff.1 hk
  rcases h with rfl | ⟨b, o, l, E, f, rfl, hb, h2, h3⟩
  · simp at hk
  · have h4 := h3 k r hk
    have h5 : k * n + n <= rows.length * n := by rw [<- Nat.succ_mul]; exact Nat.mul_le_mul_right _ hk1
    refine ⟨b, o, cap, l, E, f, rfl, hb, by omega, fun p hp => by rw [hp]; exact h4, fun p h6 h7 => ?_⟩
    rw [<- h4]
    unfold sub
    rw [List.getElem?_take_of_lt (by omega), List.getElem?_drop]
    congr 1
    omega
/-- a slice that was made by appending, row by row. -/
theorem Own.rows {w : World} {base : Nat} {e : TypeId} {size : Nat} {v : Value} {rows : List (List Value)} {xs : List Value} (h : Own w base e size v rows.length xs) (hx : xs = rows.flatten) (hs : ∀ r ∈ rows, r.length = size) : RowsAt w v size rows := by
  obtain ⟨hl, h⟩ := h
  have hrow : ∀ (rows : List (List Value)), (∀ r ∈ rows, r.length = size) -> ∀ (i : Nat) (r : List Value), rows[i]? = some r -> sub rows.flatten (i * size) size = r := by
    intro rows
    induction rows with
    | nil => intro _ i r h; simp at h
    | cons x rows ih =>
      intro hs i r h
      have hx := hs x (List.mem_cons_self ..)
      unfold sub
      cases i with
      | zero =>
        simp only [List.getElem?_cons_zero, Option.some.injEq] at h
        rw [Nat.zero_mul, List.drop_zero, List.flatten_cons, <- hx, List.take_left, h]
      | succ i =>
        simp only [List.getElem?_cons_succ] at h
        have := ih (fun r hr => hs r (List.mem_cons_of_mem _ hr)) i r h
        unfold sub at this
        rw [List.flatten_cons, Nat.succ_mul, Nat.add_comm, <- hx, <- List.drop_drop, List.drop_left, hx]
        exact this
  rcases h with ⟨rfl, h0⟩ | ⟨g, cap, cur, rfl, -, hg, hn, hcm, hcl, ht⟩
  · exact ⟨none, 0, by rw [h0], by simp only [maxLen]; omega, .inl (List.eq_nil_of_length_eq_zero h0)⟩
  · refine ⟨_, cap, rfl, ⟨hn, hcm⟩, .inr ⟨g, 0, cur, e, (0, 0), rfl, hg, ?_, ?_⟩⟩
    · rw [hcl, Nat.zero_add]; exact Nat.mul_le_mul_right _ hn
    · intro i r hi
      have h1 := hrow rows hs i r hi
      rw [<- hx, <- ht] at h1
      rw [Nat.zero_add]
      obtain ⟨hi1, -⟩ := List.getElem?_eq_some_iff.1 hi
      have h5 : i * size + size <= rows.length * size := by rw [<- Nat.succ_mul]; exact Nat.mul_le_mul_right _ hi1
      rw [<- h1]
      unfold sub
      rw [List.drop_take, List.take_take, Nat.min_eq_left (by omega)]
theorem RowsAt.at {w w' : World} {v : Value} {n : Nat} {rows : List (List Value)} {S : List Nat} (h : RowsAt w v n rows) (hx : Ext S w w') (hs : ∀ b, blockOf v = some b -> b ∉ S) : RowsAt w' v n rows := by
  obtain ⟨a, cap, rfl, hm, h⟩ := h
  refine ⟨a, cap, rfl, hm, h.imp id ?_⟩
  rintro ⟨b, o, l, E, f, rfl, hb, h2, h3⟩
  exact ⟨b, o, l, E, f, rfl, hx.at hb (hs b rfl), h2, h3⟩
theorem Own.block {w : World} {base : Nat} {e : TypeId} {size : Nat} {v : Value} {n : Nat} {xs : List Value} (h : Own w base e size v n xs) : ∀ b, blockOf v = some b -> base <= b := by
  intro b hb
  rcases h.2 with ⟨rfl, -⟩ | ⟨g, cap, cur, rfl, hg, -⟩
  · cases hb
  · cases hb; exact hg
section
variable {H : Type} {enc : TypeId × Value -> H} {P : Program} {w : World} {base : Nat} {spare : Nat -> Bool} {held : Bool}
end
section
variable {H : Type} {enc : TypeId × Value -> H} {P : Program}
/-- the law's end: the world may have new blocks, frozen or not. -/
theorem post_own {f : Func} {s : ChangeSpec} {apart fresh handsOn : Bool} {W W' : World} {args : Array Value} {v : Value} {ds gs : List (DataW H)} {before pa pv : List MemPlace} (hW : DataW.Whole enc P f.params.toList s.vars apart W args.toList ds gs before)
    (hres : ∀ (b : Nat) (sp : Nat -> Bool) (hd : Bool), DataW.TrodAll enc P W' b sp hd f.resultTypes.toList (v.resultList f.resultTypes.size) (s.fn H (ds ++ gs)).results [])
    (hargs : ∀ sp : Nat -> Bool, (∀ p ∈ before, sp p.block = true) -> DataW.TrodAll enc P W' 0 sp true f.params.toList args.toList (s.fn H (ds ++ gs)).args pa)
    (hvars : ∀ sp : Nat -> Bool, (∀ p ∈ before, sp p.block = true) -> DataW.TrodVars enc P W' sp s.vars (s.fn H (ds ++ gs)).vars pv) (hk : W.keptBut W' (fun _ => False)) :
    s.post enc P f apart fresh handsOn false W args v W' := by
  have hold : ∀ p ∈ before, (fun b => decide (b < W.heap.size)) p.block = true := fun p hp => by simpa using hW.lt p hp
  exact ⟨ds, gs, before, [], pa, pv, hW, hres _ _ _, hargs _ hold, hvars _ hold, World.keptBut_mono (fun _ f => f.elim) hk, fun h => by cases h⟩
/-- the arguments read as they did. -/
theorem stayAll (hl : laidOutB P = true) {W W' : World} {sp : Nat -> Bool} (hb : RowKit.Below W.heap.size W W') : ∀ {ts : List TypeId} {vs : List Value} {ds : List (DataW H)} {ps : List MemPlace}, (∀ t ∈ ts, P.readableRec t = true /\ t < P.types.size) ->
    DataW.TrodAll enc P W 0 (fun _ => true) true ts vs ds ps -> (∀ x ∈ ps, x.block < W.heap.size) -> (∀ x ∈ ps, sp x.block = true) -> DataW.TrodAll enc P W' 0 sp true ts vs ds ps
  | [], vs, ds, ps, _, h, _, _ => by
    obtain ⟨rfl, rfl, rfl⟩ := trodAll_nil h
    exact trodAll_mk0
  | t :: ts, vs, ds, ps, hr, h, hlt, hsp => by
    obtain ⟨v, vs, d, ds, p, q, rfl, rfl, rfl, h1, h2⟩ := trodAll_cons h
    obtain ⟨r1, r2⟩ := hr t (List.mem_cons_self ..)
    refine trodAll_cons_mk (WideElems.Trod_stays hl r1 r2 h1 (fun x hx => hb.same (hlt x (List.mem_append_left _ hx))) (fun x hx => hsp x (List.mem_append_left _ hx))) ?_
    exact stayAll hl hb (fun t ht => hr t (List.mem_cons_of_mem _ ht)) h2 (fun x hx => hlt x (List.mem_append_right _ hx)) (fun x hx => hsp x (List.mem_append_right _ hx))
end
end Go.Fx
namespace Go.Fx
open Go.Builtin
/-- v is a slice of these rows, alone in its block (from base on), or nil. -/
structure OwnR (w : World) (base : Nat) (e : TypeId) (size : Nat) (v : Value) (rows : List (List Value)) : Prop where
  own : Own w base e size v rows.length rows.flatten
  size : ∀ r ∈ rows, r.length = size
  one : ∀ r ∈ rows, r.all (fun v => v.oneCell') = true
theorem OwnR.nil {w : World} {base : Nat} {e : TypeId} {size : Nat} : OwnR w base e size (.slice none 0 0) [] := ⟨Own.nil, by simp, by simp⟩
theorem OwnR.rows {w : World} {base : Nat} {e : TypeId} {size : Nat} {v : Value} {rows : List (List Value)} (h : OwnR w base e size v rows) : RowsAt w v size rows := h.own.rows rfl h.size
theorem OwnR.block {w : World} {base : Nat} {e : TypeId} {size : Nat} {v : Value} {rows : List (List Value)} (h : OwnR w base e size v rows) : ∀ b, blockOf v = some b -> base <= b := h.own.block
theorem Own.ext {w w' : World} {base : Nat} {e : TypeId} {size n : Nat} {v : Value} {xs : List Value} {S : List Nat} (h : Own w base e size v n xs) (hx : Ext S w w') (hs : ∀ b, blockOf v = some b -> b ∉ S) : Own w' base e size v n xs := by
  refine ⟨h.1, h.2.imp id ?_⟩
  rintro ⟨g, cap, cur, rfl, h1, h2, h3⟩
  exact ⟨g, cap, cur, rfl, h1, hx.at h2 (hs g rfl), h3⟩
theorem OwnR.ext {w w' : World} {base : Nat} {e : TypeId} {size : Nat} {v : Value} {rows : List (List Value)} {S : List Nat} (h : OwnR w base e size v rows) (hx : Ext S w w') (hs : ∀ b, blockOf v = some b -> b ∉ S) : OwnR w' base e size v rows :=
  ⟨h.own.ext hx hs, h.size, h.one⟩
theorem RowsAt.len {w : World} {v : Value} {n : Nat} {rows : List (List Value)} (h : RowsAt w v n rows) : ∃ (a : Option Addr) (cap : Nat), v = .slice a rows.length cap := ⟨h.choose, h.choose_spec.choose, h.choose_spec.choose_spec.1⟩
theorem flatten_all {rows : List (List Value)} {f : Value -> Bool} (h : ∀ r ∈ rows, r.all f = true) : rows.flatten.all f = true := by
  rw [List.all_eq_true]
  intro x hx
  obtain ⟨r, hr, hxr⟩ := List.mem_flatten.1 hx
  exact List.all_eq_true.1 (h r hr) x hxr
theorem rows_sub {l : List Value} {size : Nat} : ∀ {rows : List (List Value)} {o : Nat}, o + rows.length * size <= l.length -> (∀ i r, rows[i]? = some r -> sub l (o + i * size) size = r) -> sub l o (rows.length * size) = rows.flatten
  | [], o, _, _ => by simp [sub]
  | r :: rows, o, hl, h => by
    have h0 := h 0 r rfl
    rw [Nat.zero_mul, Nat.add_zero] at h0
    have hm : (r :: rows).length * size = size + rows.length * size := by simp [Nat.succ_mul, Nat.add_comm]
    have ih := rows_sub (size := size) (rows := rows) (o := o + size) (l := l) (by omega) (fun i r hi => by
      have := h (i + 1) r hi
      rw [show o + size + i * size = o + (i + 1) * size by rw [Nat.succ_mul]; omega]
      exact this)
    rw [hm, List.flatten_cons, <- ih, <- h0]
    unfold sub
    rw [List.take_add, List.drop_drop]
theorem run_append_none {P : Program} {t ty e : TypeId} {size : Nat} (ht : P.underlying t = some (.slice e)) (hs : ∀ w, (sizeOf e).run P w = .ok size w) (base a : Option Addr) (n cap c : Nat) (hn : n <= cap) (w : World) :
    (append_ #[t, t] ty #[.slice base n cap, .slice a 0 c]).run P w = .ok (.slice base n cap) w := by
  cases base <;> cases a <;> simp [append_, run_underlying ht, hs, lenOf, firstCells, loadCells, loadCellsFrom, hn, storeCells]
theorem RowsAt.rowlen {w : World} {v : Value} {n : Nat} {rows : List (List Value)} (h : RowsAt w v n rows) : ∀ r ∈ rows, r.length = n := by
  intro r hr
  obtain ⟨k, hk, rfl⟩ := List.getElem_of_mem hr
  obtain ⟨b, o, cap, l, E, f, rfl, hb, hfit, hsub, -⟩ := h.row (k := k) (r := rows[k]) (by simp)
  rw [<- hsub _ rfl]
  unfold sub
  simp
  omega
theorem kV_appR {P : Program} {t ty e : TypeId} {size bytes : Nat} (ht : P.underlying t = some (.slice e)) (hi : (P.info? e).map (fun i => (i.size, i.bytes, i.zero.map (fun z => z.cells.size))) = some (size, bytes, some size)) (hsz : 0 < size)
    {base : Nat} {v x : Value} {rows rows2 : List (List Value)} {w : World} {K : Value -> World -> Prop} (hown : OwnR w base e size v rows) (hx : RowsAt w x size rows2) (h1 : ∀ r ∈ rows2, r.all (fun v => v.oneCell') = true)
    (h63 : rows.length + rows2.length <= maxLen) (hbytes : (rows.length + rows2.length) * bytes <= 140737488355328) (hbase : base <= w.heap.size)
    (hK : ∀ v' w', OwnR w' base e size v' (rows ++ rows2) -> App base v w w' -> K v' w') : resV K ((append_ #[t, t] ty #[v, x]).run P w) := by
  have hrl := hx.rowlen
  obtain ⟨a, c, rfl, hc, h⟩ := hx
  rcases h with rfl | ⟨b, o, l, E, f, rfl, hb, hfit, hsub⟩
  · have hs : ∀ w, (sizeOf e).run P w = .ok size w := by
      obtain ⟨i, h2, h3⟩ := Option.map_eq_some_iff.1 hi
      simp only [Prod.mk.injEq] at h3
      intro w
      simp [sizeOf, typeInfo, h2, h3.1]
    have : ∃ a n c, v = .slice a n c /\ n <= c := by
      rcases hown.own.2 with ⟨rfl, -⟩ | ⟨g, cap, cur, rfl, -, -, h, -⟩
      · exact ⟨_, _, _, rfl, Nat.le_refl _⟩
      · exact ⟨_, _, _, rfl, h⟩
    obtain ⟨a', n', c', rfl, hn⟩ := this
    rw [show ([] : List (List Value)).length = 0 from rfl, run_append_none ht hs _ _ _ _ _ hn]
    exact hK _ _ (by simpa using hown) App.refl
  · have hrs := rows_sub hfit hsub
    refine kV_appendO ht hi hsz hown.own hb hfit (by rw [hrs]; exact flatten_all h1) h63 hbytes hbase fun v' w' ho ha => hK v' w' ⟨?_, ?_, ?_⟩ ha
    · rw [List.length_append, List.flatten_append, <- hrs]; exact ho
    · intro r hr
      rcases List.mem_append.1 hr with h | h
      · exact hown.size r h
      · exact hrl r h
    · intro r hr
      rcases List.mem_append.1 hr with h | h
      · exact hown.one r h
      · exact h1 r h
theorem fill_set : ∀ (vs : List Value) (k off : Nat) (cells : Array Value), off + k + vs.length <= cells.size -> ((vs.zipIdx k).foldl (fun (cs : Array Value) (x : Value × Nat) => cs.setIfInBounds (off + x.2) x.1) cells).toList = splice cells.toList (off + k) vs
  | [], k, off, cells, h => by simp [splice]
  | c :: vs, k, off, cells, h => by
    simp only [List.length_cons] at h
    rw [List.zipIdx_cons, List.foldl_cons, fill_set vs (k + 1) off _ (by simp; omega)]
    apply List.ext_getElem?
    intro i
    rw [splice_get (by simp; omega), splice_get (by simp; omega)]
    simp only [Array.toList_setIfInBounds, List.getElem?_set, List.length_cons]
    by_cases h1 : i < off + k
    · simp only [h1, show i < off + (k + 1) by omega, if_true, show ¬ off + k = i by omega, if_false]
    · by_cases h2 : i = off + k
      · subst h2
        simp only [show off + k < off + (k + 1) by omega, if_true, show ¬ off + k < off + k by omega, if_false, show off + k < off + k + (vs.length + 1) by omega, Nat.sub_self, List.getElem?_cons_zero]
        simp; omega
      · by_cases h3 : i < off + (k + 1) + vs.length
        · simp only [show ¬ i < off + (k + 1) by omega, if_false, h3, if_true, h1, show i < off + k + (vs.length + 1) by omega, show i - (off + k) = (i - (off + (k + 1))) + 1 by omega, List.getElem?_cons_succ]
        · simp only [show ¬ i < off + (k + 1) by omega, if_false, h3, h1, show ¬ i < off + k + (vs.length + 1) by omega, show ¬ off + k = i by omega]
def partsFrom : Nat -> List Value -> List (Nat × Value)
  | _, [] => []
  | k, v :: vs => (k, v) :: partsFrom (k + 1) vs
theorem splice_app {v B : List Value} {l : List Value} {o : Nat} (h : o + v.length + B.length <= l.length) : splice (splice l o v) (o + v.length) B = splice l o (v ++ B) := by
  apply List.ext_getElem?
  intro i
  have e1 : (splice l o v).length = l.length := splice_length (by omega)
  rw [splice_get (by omega), splice_get (by omega), splice_get (by simp; omega), List.length_append]
  by_cases h1 : i < o
  · simp only [h1, show i < o + v.length by omega, if_true]
  · by_cases h2 : i < o + v.length
    · simp only [h1, h2, if_true, if_false, show i < o + (v.length + B.length) by omega]
      rw [List.getElem?_append_left (by omega)]
    · by_cases h3 : i < o + v.length + B.length
      · simp only [h1, h2, h3, if_true, if_false, show i < o + (v.length + B.length) by omega]
        rw [List.getElem?_append_right (by omega)]
        congr 1; omega
      · simp only [h1, h2, h3, if_false, show ¬ i < o + (v.length + B.length) by omega]
theorem fill_parts {size : Nat} : ∀ (vs : List Value) (k : Nat) (cells : Array Value), (∀ v ∈ vs, v.cells.size = size) -> k * size + vs.length * size <= cells.size ->
    ∃ c, Instr.fill (fun i => some (i * size, size)) cells (partsFrom k vs) = some c /\ c.toList = splice cells.toList (k * size) (vs.flatMap fun v => v.cells.toList)
  | [], k, cells, _, _ => ⟨cells, rfl, by simp [splice]⟩
  | v :: vs, k, cells, hv, hk => by
    have h0 := hv v (List.mem_cons_self ..)
    have hm : (v :: vs).length * size = size + vs.length * size := by simp [Nat.succ_mul, Nat.add_comm]
    have hfs := fill_set v.cells.toList 0 (k * size) cells (by simp; omega)
    have hlen : ∀ vs : List Value, (∀ v ∈ vs, v.cells.size = size) -> (vs.flatMap fun v => v.cells.toList).length = vs.length * size := by
      intro vs hv
      induction vs with
      | nil => simp
      | cons x vs ih =>
        rw [List.flatMap_cons, List.length_append, ih fun v h => hv v (List.mem_cons_of_mem _ h)]
        have := hv x (List.mem_cons_self ..)
        simp [Nat.succ_mul, this]; omega
    have hsz : ∀ c : Array Value, c.toList = splice cells.toList (k * size + 0) v.cells.toList -> c.size = cells.size := by
      intro c hc
      have := congrArg List.length hc
      rw [splice_length (by simp; omega)] at this
      simpa using this
    obtain ⟨c, h1, h2⟩ := fill_parts (size := size) vs (k + 1) _ (fun v h => hv v (List.mem_cons_of_mem _ h)) (by rw [hsz _ hfs, Nat.succ_mul]; omega)
    refine ⟨c, ?_, ?_⟩
    · unfold partsFrom Instr.fill
      simp only
      rw [if_neg (by simp; omega)]
      rw [<- h1]
      congr 1
      rw [<- Array.foldl_toList]
      simp
    · rw [h2, hfs, List.flatMap_cons, <- splice_app (by rw [hlen vs fun v h => hv v (List.mem_cons_of_mem _ h)]; simp; omega)]
      congr 1
      simp [Nat.succ_mul, h0]
theorem run_bs {P : Program} {t e : TypeId} {size : Nat} (ht : P.underlying t = some (.slice e)) (hi : (P.info? e).map (fun i => (i.size, i.zero.isSome)) = some (size, true)) (vs : List Value) (hv : ∀ v ∈ vs, v.cells.size = size) (hsm : vs.length * size <= 16777216) (w : World) :
    (Instr.buildSlice t vs.length (partsFrom 0 vs).toArray).run P w = .ok (.slice (some ⟨w.heap.size, 0, none⟩) vs.length vs.length) (w.alloc (.cells (vs.flatMap fun v => v.cells.toList).toArray e)) := by
  obtain ⟨i, h2, h3⟩ := Option.map_eq_some_iff.1 hi
  simp only [Prod.mk.injEq] at h3
  obtain ⟨h4, h5⟩ := h3
  obtain ⟨z, h6⟩ := Option.isSome_iff_exists.1 h5
  have hs : ∀ w, (sizeOf e).run P w = .ok size w := fun w => by simp [sizeOf, typeInfo, h2, h4]
  have hz : ∀ w, (zeroValue e).run P w = .ok z w := fun w => by simp [zeroValue, typeInfo, h2, h6]
  have hn : ∀ c w, (newRow e c).run P w = .ok ⟨w.heap.size, 0, none⟩ (w.alloc (.cells c e)) := fun _ _ => rfl
  have key : ∀ cells : Array Value, cells.size = vs.length * size -> ∃ c, Instr.fill (fun i => some (i * size, size)) cells (partsFrom 0 vs) = some c /\ c = (vs.flatMap fun v => v.cells.toList).toArray := by
    intro cells hc
    obtain ⟨c, h1, h2⟩ := fill_parts (size := size) vs 0 cells hv (by omega)
    refine ⟨c, h1, ?_⟩
    have hlen : ∀ vs : List Value, (∀ v ∈ vs, v.cells.size = size) -> (vs.flatMap fun v => v.cells.toList).length = vs.length * size := by
      intro vs hv
      induction vs with
      | nil => simp
      | cons x vs ih =>
        rw [List.flatMap_cons, List.length_append, ih fun v h => hv v (List.mem_cons_of_mem _ h)]
        have := hv x (List.mem_cons_self ..)
        simp [Nat.succ_mul, this]; omega
    apply Array.ext'
    rw [h2]
    unfold splice
    rw [Nat.zero_mul, List.take_zero, hlen vs hv, List.nil_append, List.drop_eq_nil_of_le (by simp; omega), List.append_nil]
  by_cases h0 : vs.length * size = 0
  · obtain ⟨c, h1, rfl⟩ := key ((Array.range (vs.length * size)).map fun i => (#[] : Array Value)[i % (#[] : Array Value).size]!) (by simp)
    simp [Instr.buildSlice, run_underlying ht, hs, h0] at h1 ⊢
    simp [h1, hn]
  · obtain ⟨c, h1, rfl⟩ := key ((Array.range (vs.length * size)).map fun i => z.cells[i % z.cells.size]!) (by simp)
    have h7 : ¬ vs.length * size > 2 ^ 24 := by omega
    simp [Instr.buildSlice, run_underlying ht, hs, hz, h0, h7, h1, hn]
theorem run_bs0 {P : Program} {t e : TypeId} {size : Nat} (ht : P.underlying t = some (.slice e)) (hi : (P.info? e).map (fun i => (i.size, i.zero.isSome)) = some (size, true)) (w : World) :
    (Instr.buildSlice t 0 #[]).run P w = .ok (.slice (some ⟨w.heap.size, 0, none⟩) 0 0) (w.alloc (.cells [].toArray e)) := run_bs ht hi [] (by simp) (by simp) w
theorem run_bs1 {P : Program} {t e : TypeId} {size : Nat} (ht : P.underlying t = some (.slice e)) (hi : (P.info? e).map (fun i => (i.size, i.zero.isSome)) = some (size, true)) (hs : size <= 16777216) (vs : List Value) (hv : vs.length = size) (w : World) :
    (Instr.buildSlice t 1 [(0, .agg vs.toArray)].toArray).run P w = .ok (.slice (some ⟨w.heap.size, 0, none⟩) 1 1) (w.alloc (.cells vs.toArray e)) := by
  have := run_bs ht hi [.agg vs.toArray] (by simp [Value.cells, hv]) (by simp; omega) w
  simpa [Value.cells, partsFrom] using this
theorem run_bsS {P : Program} {t e : TypeId} (ht : P.underlying t = some (.slice e)) (hi : (P.info? e).map (fun i => (i.size, i.zero.isSome)) = some (1, true)) (vs : List Value) (hv : ∀ v ∈ vs, v.oneCell' = true) (hs : vs.length <= 16777216) (w : World) :
    (Instr.buildSlice t vs.length (partsFrom 0 vs).toArray).run P w = .ok (.slice (some ⟨w.heap.size, 0, none⟩) vs.length vs.length) (w.alloc (.cells vs.toArray e)) := by
  have h1 : ∀ v : Value, v.oneCell' = true -> v.cells = #[v] := by
    intro v h
    cases v <;> first | rfl | (simp [Value.oneCell'] at h)
  have h2 : (vs.flatMap fun v => v.cells.toList) = vs := by
    clear hs
    induction vs with
    | nil => rfl
    | cons x vs ih =>
      rw [List.flatMap_cons, ih fun v h => hv v (List.mem_cons_of_mem _ h), h1 x (hv x (List.mem_cons_self ..))]; rfl
  have := run_bs ht hi vs (fun v h => by rw [h1 v (hv v h)]; rfl) (by omega) w
  rw [h2] at this
  exact this
/-- a row that was just laid. -/
theorem OwnR.fresh {w : World} {e : TypeId} {size base : Nat} {vs : List Value} (hs : vs.length = size) (h1 : vs.all (fun v => v.oneCell') = true) (hb : base <= w.heap.size) :
    OwnR (w.alloc (.cells vs.toArray e)) base e size (.slice (some ⟨w.heap.size, 0, none⟩) 1 1) [vs] :=
  ⟨⟨by simp [hs], .inr ⟨w.heap.size, 1, vs, rfl, hb, alloc_at rfl, Nat.le_refl _, by simp [maxLen], by simp [hs], by simp [hs, List.take_of_length_le]⟩⟩, by simp [hs], by simpa using h1⟩
theorem OwnR.empty {w : World} {e : TypeId} {size base g : Nat} (h : w.heap[g]? = some (.cells [].toArray e (0, 0))) (hb : base <= g) : OwnR w base e size (.slice (some ⟨g, 0, none⟩) 0 0) [] :=
  ⟨⟨by simp, .inr ⟨g, 0, [], rfl, hb, h, Nat.le_refl _, by simp, by simp, by simp⟩⟩, by simp, by simp⟩
theorem RowsAt.one {w : World} {E : TypeId} {f : Nat × Nat} {n g : Nat} {l : List Value} (h : w.heap[g]? = some (.cells l.toArray E f)) (hl : l.length = n) : RowsAt w (.slice (some ⟨g, 0, none⟩) 1 1) n [l] :=
  ⟨_, 1, rfl, ⟨Nat.le_refl _, by simp [maxLen]⟩, .inr ⟨g, 0, l, E, f, rfl, h, by simp [hl], fun i r hi => by
    match i, hi with
    | 0, hi => simp at hi; subst hi; simp [sub, <- hl]⟩⟩
theorem RowsAt.lt {w : World} {v : Value} {n : Nat} {rows : List (List Value)} (h : RowsAt w v n rows) (h0 : rows ≠ []) : ∃ b, blockOf v = some b /\ b < w.heap.size := by
  obtain ⟨a, cap, rfl, -, h | ⟨b, o, l, E, f, rfl, hb, -⟩⟩ := h
  · exact absurd h h0
  · exact ⟨b, rfl, lt_of_at hb⟩
theorem OwnR.blt {w : World} {base : Nat} {e : TypeId} {size : Nat} {v : Value} {rows : List (List Value)} (h : OwnR w base e size v rows) : ∀ b, blockOf v = some b -> b < w.heap.size := by
  intro b hb
  rcases h.own.2 with ⟨rfl, -⟩ | ⟨g, cap, cur, rfl, -, hg, -⟩
  · cases hb
  · cases hb; exact lt_of_at hg
theorem RowsAt.lenR {P : Program} {t e ty : TypeId} (ht : P.underlying t = some (.slice e)) {w0 : World} {v : Value} {n : Nat} {rows : List (List Value)} (h : RowsAt w0 v n rows) (w : World) : (len_ #[t] ty #[v]).run P w = .ok (.int .i64 rows.length) w := by
  obtain ⟨a, cap, rfl⟩ := h.len
  exact Fx.run_len_slice ht a _ cap w
/-- where a row lies, by its number. -/
theorem RowsAt.ixR {P : Program} {t e : TypeId} {n : Nat} (ht : P.underlying t = some (.slice e)) (hs : ∀ w, (sizeOf e).run P w = .ok n w) {w0 : World} {v : Value} {rows : List (List Value)} {k : Nat} {r : List Value} (h : RowsAt w0 v n rows) (hk : rows[k]? = some r) :
    ∃ (b o : Nat) (l : List Value) (E : TypeId) (f : Nat × Nat), (∀ (w : World) (kd : IntKind) (z : Int), z = k -> (Instr.indexAt t v (.int kd z)).run P w = .ok (.pointer (some ⟨b, o, none⟩)) w) /\ w0.heap[b]? = some (.cells l.toArray E f) /\ o + n <= l.length /\ b < w0.heap.size /\ blockOf v = some b /\
      (∀ p, p = o -> sub l p n = r) /\ (∀ p j, p = o + j -> j < n -> l[p]? = r[j]?) := by
  obtain ⟨b, o, cap, l, E, f, rfl, hb, hfit, hsub, hget⟩ := h.row hk
  have hkl : k < rows.length := (List.getElem?_eq_some_iff.1 hk).1
  refine ⟨b, o + k * n, l, E, f, fun w kd z hz => ?_, hb, hfit, lt_of_at hb, rfl, hsub, fun p j hp hj => ?_⟩
  · subst hz
    rw [Fx.run_index_slice ht hs b o rows.length cap kd k w (by omega)]
    simp
  · rw [hget p (by omega) (by omega)]
    congr 1
    omega
theorem RowsAt.at' {w w' : World} {v : Value} {n : Nat} {rows : List (List Value)} {S : List Nat} (h : RowsAt w v n rows) (hx : Ext S w w') (hs : rows ≠ [] -> ∀ b, blockOf v = some b -> b ∉ S) : RowsAt w' v n rows := by
  obtain ⟨a, cap, rfl, hm, h⟩ := h
  refine ⟨a, cap, rfl, hm, ?_⟩
  rcases h with h | ⟨b, o, l, E, f, rfl, hb, h2, h3⟩
  · exact .inl h
  · by_cases h0 : rows = []
    · exact .inl h0
    · exact .inr ⟨b, o, l, E, f, rfl, hx.at hb (hs h0 b rfl), h2, h3⟩
theorem RowsAt.blt {w : World} {v : Value} {n : Nat} {rows : List (List Value)} (h : RowsAt w v n rows) (h0 : rows ≠ []) : ∀ b, blockOf v = some b -> b < w.heap.size := by
  intro b hb
  obtain ⟨b', h1, h2⟩ := h.lt h0
  rw [h1] at hb
  cases hb
  exact h2
theorem pN_nilE {P : Program} {a : Addr} {K : Value -> Prop} : pN P (nilN (.pointer (some a))) K = K (.pointer (some a)) := by
  apply propext
  constructor
  · rintro ⟨v, h, hk⟩
    have h1 := h default
    have h2 : (nilN (.pointer (some a))).run P default = .ok (.value (.pointer (some a))) default := rfl
    have h3 := h1.symm.trans h2
    cases h3
    exact hk
  · exact pN_nil
theorem pnR {P : Program} : ∀ (a : Addr) (K : Value -> Prop), pN P (nilN (.pointer (some a))) K = K (.pointer (some a)) := fun _ _ => pN_nilE
def madeL (zs : List Value) (n : Nat) : List Value := (List.range n).map fun x => zs.getD (x % zs.length) undef
theorem madeL_length (zs : List Value) (n : Nat) : (madeL zs n).length = n := by simp [madeL]
theorem madeL_get {zs : List Value} {n x : Nat} (h : x < n) : (madeL zs n)[x]? = some (zs.getD (x % zs.length) undef) := by simp [madeL, h]
theorem run_mk {P : Program} {t e : TypeId} {size bytes : Nat} {zs : List Value} (ht : P.underlying t = some (.slice e)) (hi : (P.info? e).map (fun i => (i.size, i.bytes, i.zero.map fun z => z.cells.toList)) = some (size, bytes, some zs)) (kl kc : IntKind) (n : Nat) (hz : zs ≠ []) (hs : n * size <= 16777216) (hb : bytes * n <= 140737488355328) (hn : n <= 1000000) (w : World) :
    (Instr.makeSlice t (.int kl n) (.int kc n)).run P w = .ok (.slice (some ⟨w.heap.size, 0, none⟩) n n) (w.alloc (.cells (madeL zs (n * size)).toArray e)) := by
  obtain ⟨i, h2, h3⟩ := Option.map_eq_some_iff.1 hi
  simp only [Prod.mk.injEq] at h3
  obtain ⟨h4, h5, h6⟩ := h3
  obtain ⟨z, h7, h8⟩ := Option.map_eq_some_iff.1 h6
  subst h4 h5 h8
  have := run_makeSlice (P := P) w t e i z ht h2 h7 kl kc n n (by omega) (Int.le_refl _) (by simpa using hs) (by have h := Int.ofNat_le.2 hb; rw [Int.natCast_mul] at h; exact Int.le_trans h (by decide)) (by omega)
  rw [this]
  have e1 : madeCells z.cells ((n : Int).toNat * i.size) = (madeL z.cells.toList (n * i.size)).toArray := by
    apply Array.ext'
    unfold madeL madeCells
    simp only [Int.toNat_natCast]
    simp only [Array.toList_map, Array.toList_range]
    apply List.map_congr_left
    intro x hx
    have hp : 0 < z.cells.size := by
      rcases Nat.eq_zero_or_pos z.cells.size with h | h
      · exact absurd (List.eq_nil_of_length_eq_zero (by simpa using h)) hz
      · exact h
    have hlt : x % z.cells.size < z.cells.size := Nat.mod_lt _ hp
    simp [hlt]
  rw [e1]
  simp
end Go.Fx
namespace Go.Proofs.YtldkfbelnndaoaaGreatDoor
open Go.Fx
set_option maxRecDepth 100000
theorem mixedA : Tryz.prog.follows .mixedOrders = true := by kernel_rfl
section
variable (P : Program) (w : World) (K : Value -> World -> Prop)
def F4 (t0 : Value) : Prop :=
 kV P (Builtin.len_ #[9] 3 #[t0]) w fun v20 w =>
 kV P (binV .gtr 3 (.tmp 20) (.const (.int .i64 16384)) v20 (.int .i64 16384)) w fun v21 w =>
 condK v21
 (K (.tuple #[(.slice none 0 0), (.int .i64 0), (.int .i64 3)]) w)
 (kN P (callN (.func (.func 12) #[] #[]) #[t0]) w fun v23 w =>
 kN P (callN (.func (.func 13) #[] #[]) #[v23]) w fun v26 w =>
 kV P (Instr.extract v26 0) w fun v27 w =>
 kV P (Instr.extract v26 1) w fun v28 w =>
 kV P (Instr.alloc 60 true (.tuple #[])) w fun v6 w =>
 kU P (Instr.storeAt 60 v6 v27) w fun _ w =>
 kV P (binV .gtr 3 (.tmp 29) (.const (.int .i64 1024)) v28 (.int .i64 1024)) w fun v30 w =>
 condK v30
 (K (.tuple #[(.slice none 0 0), (.int .i64 0), (.int .i64 3)]) w)
 (kV P (Instr.makeMap 63 none) w fun v31 w =>
 joinL (fun J0 =>
 kV P (Builtin.len_ #[56] 3 #[v23]) w fun v33 w =>
 loopT (fun R2 s2 w => ∀ _ : Nat -> Value,
 kV P (binV .lss 3 (.tmp 34) (.tmp 33) (s2.getD 2 undef) v33) w fun v35 w =>
 condK v35
 (joinL (fun J4 =>
 kV P (Instr.indexAt 56 v23 (s2.getD 2 undef)) w fun v36 w =>
 kV P (Instr.loadAt 65 v36) w fun v37 w =>
 kV P (Instr.alloc 65 true (.tuple #[])) w fun v12 w =>
 kU P (Instr.storeAt 65 v12 v37) w fun _ w =>
 kV P (Instr.fieldAt 65 v12 2) w fun v74 w =>
 kV P (Instr.loadAt 4 v74) w fun v75 w =>
 joinK (fun J6 : Value -> World -> Prop => gdK (yb v75) true (fun k => k v31 w) w fun v77 w =>
 gdK (yb v75) true (fun k => kV P (Instr.fieldAt 65 v12 1) w k) w fun v78 w =>
 gdK (yb v75) true (fun k => kV P (Instr.loadAt 9 v78) w k) w fun v79 w =>
 gdK (yb v75) true (fun k => kV P (Instr.lookup 63 v77 v79 false) w k) w fun v80 w =>
 kN P (pickN v75 v80 (.bool false)) w fun v81_1 w =>
 J6 v81_1 w) fun v81 w =>
 condK v81
 (kV P (Instr.fieldAt 65 v12 0) w fun v82 w =>
 kV P (Instr.loadAt 3 v82) w fun v83 w =>
 J0 [v83, (s2.getD 1 undef)] w)
 (kV P (Instr.fieldAt 65 v12 2) w fun v85 w =>
 kV P (Instr.loadAt 4 v85) w fun v86 w =>
 condK v86
 (kV P (Instr.fieldAt 65 v12 1) w fun v88 w =>
 kV P (Instr.loadAt 9 v88) w fun v89 w =>
 kU P (Instr.mapUpdate 63 v31 v89 (.bool true)) w fun _ w =>
 J4 [(s2.getD 0 undef), (s2.getD 1 undef)] w)
 (kV P (Instr.fieldAt 65 v12 1) w fun v38 w =>
 kV P (Instr.loadAt 9 v38) w fun v39 w =>
 kN P (callN (.func (.func 14) #[] #[]) #[v39]) w fun v40 w =>
 kV P (Builtin.len_ #[66] 3 #[v40]) w fun v41 w =>
 loopT (fun R7 s7 w => ∀ _ : Nat -> Value,
 kV P (binV .lss 3 (.tmp 42) (.tmp 41) (s7.getD 2 undef) v41) w fun v43 w =>
 condK v43
 (kV P (Instr.indexAt 66 v40 (s7.getD 2 undef)) w fun v44 w =>
 kV P (Instr.loadAt 9 v44) w fun v45 w =>
 kV P (Instr.loadAt 60 v6) w fun v47 w =>
 kV P (Builtin.len_ #[22] 3 #[(s7.getD 1 undef)]) w fun v50 w =>
 kN P (callN (.func (.func 16) #[] #[]) #[v47, v45, v50]) w fun v51 w =>
 kN P (callN (.func (.func 15) #[] #[]) #[v51]) w fun v52 w =>
 kV P (Instr.extract v52 0) w fun v53 w =>
 kV P (Instr.extract v52 1) w fun v54 w =>
 kV P (Instr.alloc 46 true (.tuple #[])) w fun v15 w =>
 kU P (Instr.storeAt 46 v15 v53) w fun _ w =>
 kV P (Instr.loadAt 46 v15) w fun v56 w =>
 kN P (callN (.func (.func 17) #[] #[]) #[v56]) w fun v57 w =>
 kV P (Instr.extract v57 0) w fun v58 w =>
 kV P (Instr.extract v57 1) w fun v59 w =>
 kV P (Op.unary .not v54) w fun v61 w =>
 joinK (fun J9 : Value -> World -> Prop => gdK (yb v61) false (fun k => k v59 w) w fun v63 w =>
 gdK (yb v61) false (fun k => kV P (Op.unary .not v63) w k) w fun v64 w =>
 kN P (pickN v61 (.bool true) v64) w fun v65_1 w =>
 J9 v65_1 w) fun v65 w =>
 condK v65
 (kV P (Instr.fieldAt 65 v12 0) w fun v66 w =>
 kV P (Instr.loadAt 3 v66) w fun v67 w =>
 J0 [v67, (s7.getD 1 undef)] w)
 (kV P (Instr.buildSlice 22 1 #[(0, v58)]) w fun v70 w =>
 kV P (Builtin.append_ #[22, 22] 22 #[(s7.getD 1 undef), v70]) w fun v71 w =>
 kV P (binV .add 3 (.tmp 42) (.const (.int .i64 1)) (s7.getD 2 undef) (.int .i64 1)) w fun v72 w =>
 R7 [(s7.getD 0 undef), v71, v72] w))
 (J4 [(s7.getD 0 undef), (s7.getD 1 undef)] w)) [(s2.getD 0 undef), (s2.getD 1 undef), (.int .i64 0)] w))) fun s4 w => ∀ _ : Nat -> Value,
 kV P (binV .add 3 (.tmp 34) (.const (.int .i64 1)) (s2.getD 2 undef) (.int .i64 1)) w fun v90 w =>
 R2 [(s4.getD 0 undef), (s4.getD 1 undef), v90] w)
 (J0 [(s2.getD 0 undef), (s2.getD 1 undef)] w)) [(.int .i64 0), (.slice none 0 0), (.int .i64 0)] w) fun s0 w => ∀ _ : Nat -> Value,
 kV P (binV .gtr 3 (.tmp 91) (.const (.int .i64 0)) (s0.getD 0 undef) (.int .i64 0)) w fun v92 w =>
 condK v92
 (K (.tuple #[(.slice none 0 0), (s0.getD 0 undef), (.int .i64 11)]) w)
 (K (.tuple #[(s0.getD 1 undef), (.int .i64 0), (.int .i64 0)]) w)))
theorem F4_eq (t0 : Value) : funE P ⟨[], [(11, [10, 8, 34]), (14, [10, 8, 42])], [(27, [10, 8]), (26, [10, 8])]⟩ Tryz.f4 [t0] w K = F4 P w K t0 := by kernel_rfl
theorem F4_ok (t0 : Value) (h : F4 Tryz.prog w K t0) : callsK Tryz.prog 4 #[t0] w K := calls_of_eq mixedA Tryz.func4 (F4_eq _ w K t0) h
def F12 (t0 : Value) : Prop :=
 kN P (callN (.func (.func 30) #[] #[]) #[t0, (.string ⟨#[10]⟩)]) w fun v9 w =>
 kV P (Builtin.len_ #[66] 3 #[v9]) w fun v10 w =>
 loopT (fun R0 s0 w => ∀ _ : Nat -> Value,
 kV P (binV .lss 3 (.tmp 11) (.tmp 10) (s0.getD 1 undef) v10) w fun v12 w =>
 condK v12
 (joinL (fun J2 =>
 kV P (Instr.indexAt 66 v9 (s0.getD 1 undef)) w fun v14 w =>
 kV P (Instr.loadAt 9 v14) w fun v15 w =>
 kN P (callN (.func (.func 31) #[] #[]) #[v15, (.string ⟨#[32]⟩)]) w fun v17 w =>
 kV P (binV .eql 9 (.tmp 18) (.const (.string ⟨#[]⟩)) v17 (.string ⟨#[]⟩)) w fun v19 w =>
 joinK (fun J4 : Value -> World -> Prop => gdK (yb v19) false (fun k => k v17 w) w fun v21 w =>
 gdK (yb v19) false (fun k => kN P (callN (.func (.func 32) #[] #[]) #[v21, (.string ⟨#[35]⟩)]) w k) w fun v22 w =>
 kN P (pickN v19 (.bool true) v22) w fun v23_1 w =>
 J4 v23_1 w) fun v23 w =>
 condK v23
 (J2 [(s0.getD 0 undef)] w)
 (kN P (callN (.func (.func 33) #[] #[]) #[v17, (.string ⟨#[58]⟩)]) w fun v26 w =>
 kV P (Instr.extract v26 0) w fun v27 w =>
 kV P (Instr.extract v26 1) w fun v28 w =>
 joinL (fun J5 =>
 joinK (fun J7 : Value -> World -> Prop => gdK (yb v28) true (fun k => k v27 w) w fun v31 w =>
 gdK (yb v28) true (fun k => kN P (callN (.func (.func 34) #[] #[]) #[v31]) w k) w fun v32 w =>
 kN P (pickN v28 v32 (.bool false)) w fun v33_1 w =>
 J7 v33_1 w) fun v33 w =>
 condK v33
 (J5 [v33, v27] w)
 (J5 [v33, v17] w)) fun s5 w => ∀ _ : Nat -> Value,
 kV P (binV .add 3 (.tmp 37) (.const (.int .i64 1)) (s0.getD 1 undef) (.int .i64 1)) w fun v38 w =>
 kV P (Instr.build 65 #[(0, v38), (1, (s5.getD 1 undef)), (2, (s5.getD 0 undef))]) w fun v41 w =>
 kV P (Instr.buildSlice 56 1 #[(0, v41)]) w fun v42 w =>
 kV P (Builtin.append_ #[56, 56] 56 #[(s0.getD 0 undef), v42]) w fun v43 w =>
 J2 [v43] w)) fun s2 w => ∀ _ : Nat -> Value,
 kV P (binV .add 3 (.tmp 11) (.const (.int .i64 1)) (s0.getD 1 undef) (.int .i64 1)) w fun v44 w =>
 R0 [(s2.getD 0 undef), v44] w)
 (K (s0.getD 0 undef) w)) [(.slice none 0 0), (.int .i64 0)] w
theorem F12_eq (t0 : Value) : funE P ⟨[], [(3, [3, 11])], [(12, [3]), (11, [7, 5])]⟩ Tryz.f12 [t0] w K = F12 P w K t0 := by kernel_rfl
theorem F12_ok (t0 : Value) (h : F12 Tryz.prog w K t0) : callsK Tryz.prog 12 #[t0] w K := calls_of_eq mixedA Tryz.func12 (F12_eq _ w K t0) h
def F13 (t0 : Value) : Prop :=
 kV P (Instr.alloc 60 true (.tuple #[])) w fun v2 w =>
 kV P (Instr.makeMap 58 none) w fun v8 w =>
 kV P (Instr.makeMap 58 none) w fun v9 w =>
 kV P (Instr.build 60 #[(0, v8), (1, v9)]) w fun v10 w =>
 kV P (Instr.alloc 60 true (.tuple #[])) w fun v4 w =>
 kU P (Instr.storeAt 60 v4 v10) w fun _ w =>
 kV P (Builtin.len_ #[56] 3 #[t0]) w fun v12 w =>
 loopT (fun R0 s0 w => ∀ _ : Nat -> Value,
 kV P (binV .lss 3 (.tmp 13) (.tmp 12) (s0.getD 1 undef) v12) w fun v14 w =>
 condK v14
 (joinL (fun J2 =>
 kV P (Instr.indexAt 56 t0 (s0.getD 1 undef)) w fun v15 w =>
 kV P (Instr.loadAt 65 v15) w fun v16 w =>
 kV P (Instr.alloc 65 true (.tuple #[])) w fun v7 w =>
 kU P (Instr.storeAt 65 v7 v16) w fun _ w =>
 kV P (Instr.fieldAt 65 v7 2) w fun v17 w =>
 kV P (Instr.loadAt 4 v17) w fun v18 w =>
 kV P (Op.unary .not v18) w fun v19 w =>
 condK v19
 (kV P (Instr.fieldAt 65 v7 1) w fun v21 w =>
 kV P (Instr.loadAt 9 v21) w fun v22 w =>
 kN P (callN (.func (.func 14) #[] #[]) #[v22]) w fun v23 w =>
 kV P (Builtin.len_ #[66] 3 #[v23]) w fun v24 w =>
 kV P (binV .add 3 (.tmp 20) (.tmp 24) (s0.getD 0 undef) v24) w fun v25 w =>
 J2 [v25] w)
 (kV P (Instr.fieldAt 60 v4 0) w fun v26 w =>
 kV P (Instr.loadAt 58 v26) w fun v27 w =>
 kV P (Instr.fieldAt 65 v7 1) w fun v28 w =>
 kV P (Instr.loadAt 9 v28) w fun v29 w =>
 kU P (Instr.mapUpdate 58 v27 v29 (s0.getD 0 undef)) w fun _ w =>
 kV P (Instr.fieldAt 60 v4 1) w fun v31 w =>
 kV P (Instr.loadAt 58 v31) w fun v32 w =>
 kV P (Instr.fieldAt 65 v7 1) w fun v33 w =>
 kV P (Instr.loadAt 9 v33) w fun v34 w =>
 kV P (Instr.lookup 58 v32 v34 false) w fun v35 w =>
 kV P (binV .add 3 (.tmp 35) (.const (.int .i64 1)) v35 (.int .i64 1)) w fun v36 w =>
 kU P (Instr.mapUpdate 58 v32 v34 v36) w fun _ w =>
 J2 [(s0.getD 0 undef)] w)) fun s2 w => ∀ _ : Nat -> Value,
 kV P (binV .add 3 (.tmp 13) (.const (.int .i64 1)) (s0.getD 1 undef) (.int .i64 1)) w fun v37 w =>
 R0 [(s2.getD 0 undef), v37] w)
 (kV P (Instr.loadAt 60 v4) w fun v38 w =>
 kU P (Instr.storeAt 60 v2 v38) w fun _ w =>
 retV P 60 v2 w fun r4 =>
 K (.tuple #[r4, (s0.getD 0 undef)]) w)) [(.int .i64 0), (.int .i64 0)] w
theorem F13_eq (t0 : Value) : funE P ⟨[], [(4, [5, 13])], [(10, [5])]⟩ Tryz.f13 [t0] w K = F13 P w K t0 := by kernel_rfl
theorem F13_ok (t0 : Value) (h : F13 Tryz.prog w K t0) : callsK Tryz.prog 13 #[t0] w K := calls_of_eq mixedA Tryz.func13 (F13_eq _ w K t0) h
def F14 (t0 : Value) : Prop :=
 kN P (callN (.func (.func 35) #[] #[]) #[t0, (.string ⟨#[32]⟩)]) w fun v10 w =>
 kV P (Instr.extract v10 0) w fun v11 w =>
 kV P (Instr.extract v10 1) w fun v12 w =>
 kV P (Instr.extract v10 2) w fun v13 w =>
 joinL (fun J0 =>
 kV P (binV .eql 9 (.tmp 15) (.const (.string ⟨#[110, 111, 112]⟩)) t0 (.string ⟨#[110, 111, 112]⟩)) w fun v16 w =>
 condK v16
 (kV P (Instr.buildSlice 66 1 #[(0, (.string ⟨#[97, 100, 100, 105, 32, 99, 48, 44, 32, 99, 48, 44, 32, 48]⟩))]) w fun v17 w =>
 K v17 w)
 (kV P (binV .eql 9 (.tmp 19) (.const (.string ⟨#[114, 101, 116]⟩)) t0 (.string ⟨#[114, 101, 116]⟩)) w fun v20 w =>
 condK v20
 (kV P (Instr.buildSlice 66 1 #[(0, (.string ⟨#[106, 97, 108, 114, 32, 99, 48, 44, 32, 99, 49, 44, 32, 48]⟩))]) w fun v21 w =>
 K v21 w)
 (kV P (Op.unary .not v13) w fun v24 w =>
 condK v24
 (J0 [] w)
 (kV P (binV .eql 9 (.tmp 26) (.const (.string ⟨#[106]⟩)) v11 (.string ⟨#[106]⟩)) w fun v27 w =>
 condK v27
 (kV P (binV .add 9 (.const (.string ⟨#[106, 97, 108, 32, 99, 48, 44, 32]⟩)) (.tmp 28) (.string ⟨#[106, 97, 108, 32, 99, 48, 44, 32]⟩) v12) w fun v29 w =>
 kV P (Instr.buildSlice 66 1 #[(0, v29)]) w fun v30 w =>
 K v30 w)
 (kV P (binV .eql 9 (.tmp 32) (.const (.string ⟨#[109, 118]⟩)) v11 (.string ⟨#[109, 118]⟩)) w fun v33 w =>
 condK v33
 (kV P (binV .add 9 (.const (.string ⟨#[99, 109, 111, 118, 101, 32]⟩)) (.tmp 34) (.string ⟨#[99, 109, 111, 118, 101, 32]⟩) v12) w fun v35 w =>
 kV P (Instr.buildSlice 66 1 #[(0, v35)]) w fun v36 w =>
 K v36 w)
 (kV P (binV .eql 9 (.tmp 38) (.const (.string ⟨#[108, 105]⟩)) v11 (.string ⟨#[108, 105]⟩)) w fun v39 w =>
 condK v39
 (kN P (callN (.func (.func 36) #[] #[]) #[v12]) w fun v42 w =>
 kV P (Instr.extract v42 0) w fun v43 w =>
 kV P (Instr.extract v42 1) w fun v44 w =>
 condK v44
 (K v43 w)
 (J0 [] w))
 (J0 [] w))))))) fun s0 w => ∀ _ : Nat -> Value,
 kV P (Instr.buildSlice 66 1 #[(0, t0)]) w fun v48 w =>
 K v48 w
theorem F14_eq (t0 : Value) : funE P ⟨[], [], [(15, [])]⟩ Tryz.f14 [t0] w K = F14 P w K t0 := by kernel_rfl
theorem F14_ok (t0 : Value) (h : F14 Tryz.prog w K t0) : callsK Tryz.prog 14 #[t0] w K := calls_of_eq mixedA Tryz.func14 (F14_eq _ w K t0) h
def F15 (t0 : Value) : Prop :=
 kV P (Instr.alloc 46 true (.tuple #[])) w fun v2 w =>
 kN P (callN (.func (.func 35) #[] #[]) #[t0, (.string ⟨#[32]⟩)]) w fun v19 w =>
 kV P (Instr.extract v19 0) w fun v20 w =>
 kV P (Instr.extract v19 1) w fun v21 w =>
 kV P (Instr.extract v19 2) w fun v22 w =>
 kN P (callN (.func (.func 37) #[] #[]) #[v20]) w fun v24 w =>
 kV P (Instr.build 46 #[(0, v24)]) w fun v25 w =>
 kV P (Instr.alloc 46 true (.tuple #[])) w fun v7 w =>
 kU P (Instr.storeAt 46 v7 v25) w fun _ w =>
 kV P (Instr.fieldAt 46 v7 0) w fun v26 w =>
 kV P (Instr.loadAt 3 v26) w fun v27 w =>
 kN P (callN (.func (.func 39) #[] #[]) #[v27]) w fun v28 w =>
 kN P (callN (.func (.func 38) #[] #[]) #[v28]) w fun v29 w =>
 joinL (fun J0 =>
 condK v22
 (kN P (callN (.func (.func 30) #[] #[]) #[v21, (.string ⟨#[44, 32]⟩)]) w fun v32 w =>
 J0 [v32] w)
 (J0 [(.slice none 0 0)] w)) fun s0 w => ∀ _ : Nat -> Value,
 kV P (Instr.fieldAt 46 v7 0) w fun v33 w =>
 kV P (Instr.loadAt 3 v33) w fun v34 w =>
 kV P (binV .eql 3 (.tmp 34) (.const (.int .i64 0)) v34 (.int .i64 0)) w fun v35 w =>
 joinK (fun J2 : Value -> World -> Prop => gdK (yb v35) false (fun k => k (s0.getD 0 undef) w) w fun v37 w =>
 gdK (yb v35) false (fun k => kV P (Builtin.len_ #[66] 3 #[v37]) w k) w fun v38 w =>
 gdK (yb v35) false (fun k => k v29 w) w fun v39 w =>
 gdK (yb v35) false (fun k => kV P (Builtin.len_ #[9] 3 #[v39]) w k) w fun v40 w =>
 gdK (yb v35) false (fun k => kV P (binV .neq 3 (.tmp 38) (.tmp 40) v38 v40) w k) w fun v41 w =>
 kN P (pickN v35 (.bool true) v41) w fun v42_1 w =>
 J2 v42_1 w) fun v42 w =>
 condK v42
 (kV P (Instr.build 46 #[]) w fun v43 w =>
 kU P (Instr.storeAt 46 v2 v43) w fun _ w =>
 retV P 46 v2 w fun r3 =>
 K (.tuple #[r3, (.bool false)]) w)
 (kV P (Instr.alloc 4 true (.tuple #[])) w fun v10 w =>
 kU P (Instr.storeAt 4 v10 (.bool true)) w fun _ w =>
 kV P (Builtin.len_ #[9] 3 #[v29]) w fun v46 w =>
 loopT (fun R4 s4 w => ∀ _ : Nat -> Value,
 kV P (binV .lss 3 (.tmp 47) (.tmp 46) (s4.getD 0 undef) v46) w fun v48 w =>
 condK v48
 (joinL (fun J6 =>
 kV P (Instr.index 9 v29 (s4.getD 0 undef)) w fun v52 w =>
 kV P (binV .eql 5 (.tmp 52) (.const (.int .u8 100)) v52 (.int .u8 100)) w fun v68 w =>
 condK v68
 (kV P (Instr.indexAt 66 (s0.getD 0 undef) (s4.getD 0 undef)) w fun v72 w =>
 kV P (Instr.loadAt 9 v72) w fun v73 w =>
 kN P (callN (.func (.func 40) #[] #[v10]) #[v73]) w fun v74 w =>
 kV P (Instr.fieldAt 46 v7 1) w fun v75 w =>
 kU P (Instr.storeAt 3 v75 v74) w fun _ w =>
 J6 [] w)
 (kV P (binV .eql 5 (.tmp 52) (.const (.int .u8 97)) v52 (.int .u8 97)) w fun v77 w =>
 condK v77
 (kV P (Instr.indexAt 66 (s0.getD 0 undef) (s4.getD 0 undef)) w fun v81 w =>
 kV P (Instr.loadAt 9 v81) w fun v82 w =>
 kN P (callN (.func (.func 40) #[] #[v10]) #[v82]) w fun v83 w =>
 kV P (Instr.fieldAt 46 v7 2) w fun v84 w =>
 kU P (Instr.storeAt 3 v84 v83) w fun _ w =>
 J6 [] w)
 (kV P (binV .eql 5 (.tmp 52) (.const (.int .u8 98)) v52 (.int .u8 98)) w fun v86 w =>
 condK v86
 (kV P (Instr.indexAt 66 (s0.getD 0 undef) (s4.getD 0 undef)) w fun v90 w =>
 kV P (Instr.loadAt 9 v90) w fun v91 w =>
 kN P (callN (.func (.func 40) #[] #[v10]) #[v91]) w fun v92 w =>
 kV P (Instr.fieldAt 46 v7 3) w fun v93 w =>
 kU P (Instr.storeAt 3 v93 v92) w fun _ w =>
 J6 [] w)
 (kV P (Instr.indexAt 66 (s0.getD 0 undef) (s4.getD 0 undef)) w fun v56 w =>
 kV P (Instr.loadAt 9 v56) w fun v57 w =>
 kN P (callN (.func (.func 42) #[] #[]) #[v57]) w fun v58 w =>
 kV P (Instr.extract v58 0) w fun v59 w =>
 kV P (Instr.extract v58 1) w fun v60 w =>
 kV P (Instr.loadAt 4 v10) w fun v62 w =>
 joinK (fun J8 : Value -> World -> Prop => gdK (yb v62) true (fun k => k v60 w) w fun v64 w =>
 kN P (pickN v62 v64 (.bool false)) w fun v65_1 w =>
 J8 v65_1 w) fun v65 w =>
 kV P (Instr.fieldAt 46 v7 4) w fun v66 w =>
 kU P (Instr.storeAt 2 v66 v59) w fun _ w =>
 kU P (Instr.storeAt 4 v10 v65) w fun _ w =>
 J6 [] w)))) fun s6 w => ∀ _ : Nat -> Value,
 kV P (binV .add 3 (.tmp 47) (.const (.int .i64 1)) (s4.getD 0 undef) (.int .i64 1)) w fun v94 w =>
 R4 [v94] w)
 (kV P (Instr.loadAt 46 v7) w fun v96 w =>
 kN P (callN (.func (.func 17) #[] #[]) #[v96]) w fun v97 w =>
 kV P (Instr.extract v97 0) w fun v98 w =>
 kV P (Instr.extract v97 1) w fun v99 w =>
 kV P (Instr.loadAt 4 v10) w fun v100 w =>
 kV P (Op.unary .not v100) w fun v101 w =>
 joinK (fun J9 : Value -> World -> Prop => gdK (yb v101) false (fun k => k v99 w) w fun v103 w =>
 gdK (yb v101) false (fun k => kV P (Op.unary .not v103) w k) w fun v104 w =>
 kN P (pickN v101 (.bool true) v104) w fun v105_1 w =>
 J9 v105_1 w) fun v105 w =>
 condK v105
 (kV P (Instr.build 46 #[]) w fun v106 w =>
 kU P (Instr.storeAt 46 v2 v106) w fun _ w =>
 retV P 46 v2 w fun r10 =>
 K (.tuple #[r10, (.bool false)]) w)
 (kV P (Instr.loadAt 46 v7) w fun v107 w =>
 kU P (Instr.storeAt 46 v2 v107) w fun _ w =>
 retV P 46 v2 w fun r11 =>
 K (.tuple #[r11, (.bool true)]) w))) [(.int .i64 0)] w)
theorem F15_eq (t0 : Value) : funE P ⟨[], [(12, [47])], [(7, [9]), (23, [])]⟩ Tryz.f15 [t0] w K = F15 P w K t0 := by kernel_rfl
theorem F15_ok (t0 : Value) (h : F15 Tryz.prog w K t0) : callsK Tryz.prog 15 #[t0] w K := calls_of_eq mixedA Tryz.func15 (F15_eq _ w K t0) h
def F16 (t0 t1 t2 : Value) : Prop :=
 kV P (Instr.box 60 t0) w fun v3 w =>
 kN P (callN (.func (.func 43) #[] #[]) #[t1, (.string ⟨#[32]⟩)]) w fun v13 w =>
 kV P (binV .lss 3 (.tmp 14) (.const (.int .i64 0)) v13 (.int .i64 0)) w fun v15 w =>
 condK v15
 (K t1 w)
 (kN P (callN (.func (.func 35) #[] #[]) #[t1, (.string ⟨#[32]⟩)]) w fun v19 w =>
 kV P (Instr.extract v19 0) w fun v20 w =>
 kV P (Instr.extract v19 1) w fun v21 w =>
 kV P (Instr.extract v19 2) w fun v22 w =>
 kN P (callN (.func (.func 37) #[] #[]) #[v20]) w fun v24 w =>
 kN P (callN (.func (.func 39) #[] #[]) #[v24]) w fun v25 w =>
 drewK (fun w =>
 sV P (Instr.fieldAt 60 v3 1) w fun v26 =>
 sV P (Instr.loadAt 58 v26) w fun v27 =>
 sV P (binV .add 3 (.tmp 29) (.const (.int .i64 1)) v13 (.int .i64 1)) w fun v30 =>
 sV P (Instr.sliceAt 9 t1 (some v30) none none) w fun v31 =>
 sV P (Instr.lookup 58 v27 v31 false) w fun v32 =>
 sV P (binV .neq 3 (.tmp 32) (.const (.int .i64 1)) v32 (.int .i64 1)) w fun v33 =>
 joinK (fun J0 : Value -> Prop => gdS (yb v33) false (fun k => k v25) fun v35 =>
 gdS (yb v33) false (fun k => sV P (binV .neq 5 (.tmp 35) (.const (.int .u8 66)) v35 (.int .u8 66)) w k) fun v36 =>
 gdS (yb v33) false (fun k => k v36) fun v37 =>
 gdS (yb v37) true (fun k => k v25) fun v38 =>
 gdS (yb v37) true (fun k => sV P (binV .neq 5 (.tmp 38) (.const (.int .u8 74)) v38 (.int .u8 74)) w k) fun v39 =>
 gdS (yb v33) false (fun k => sN P (pickN v37 v39 (.bool false)) w k) fun v40 =>
 sN P (pickN v33 (.bool true) v40) w fun v41_1 =>
 J0 v41_1) fun v41 =>
 condK v41
 (K t1 w)
 (drewK (fun w =>
 pV P (binV .add 3 (.tmp 44) (.const (.int .i64 1)) v13 (.int .i64 1)) fun v45 =>
 pV P (Instr.sliceAt 9 t1 none (some v45) none) fun v46 =>
 pV P (Instr.fieldAt 60 v3 0) fun v47 =>
 pV P (binV .add 3 (.tmp 50) (.const (.int .i64 1)) v13 (.int .i64 1)) fun v51 =>
 pV P (Instr.sliceAt 9 t1 (some v51) none none) fun v52 =>
 kV P (Instr.loadAt 58 v47) w fun v48 w =>
 kV P (Instr.lookup 58 v48 v52 false) w fun v53 w =>
 pV P (binV .sub 3 (.tmp 53) (.tmp 54) v53 t2) fun v55 =>
 pV P (binV .mul 2 (.tmp 55) (.const (.int .i64 4)) v55 (.int .i64 4)) fun v56 =>
 kN P (callN (.func (.func 44) #[] #[]) #[v56]) w fun v57 w =>
 pV P (binV .add 9 (.tmp 46) (.tmp 57) v46 v57) fun v58 =>
 K v58 w) w)) w)
theorem F16_eq (t0 t1 t2 : Value) : funE P ⟨[(8, 999)], [], []⟩ Tryz.f16 [t0, t1, t2] w K = F16 P w K t0 t1 t2 := by kernel_rfl
theorem F16_ok (t0 t1 t2 : Value) (h : F16 Tryz.prog w K t0 t1 t2) : callsK Tryz.prog 16 #[t0, t1, t2] w K := calls_of_eq mixedA Tryz.func16 (F16_eq _ w K t0 t1 t2) h
def F34 (t0 : Value) : Prop :=
 kV P (binV .eql 9 (.tmp 5) (.const (.string ⟨#[]⟩)) t0 (.string ⟨#[]⟩)) w fun v6 w =>
 joinK (fun J0 : Value -> World -> Prop => gdK (yb v6) false (fun k => k t0 w) w fun v8 w =>
 gdK (yb v6) false (fun k => kV P (Builtin.len_ #[9] 3 #[v8]) w k) w fun v9 w =>
 gdK (yb v6) false (fun k => kV P (binV .gtr 3 (.tmp 9) (.const (.int .i64 64)) v9 (.int .i64 64)) w k) w fun v10 w =>
 kN P (pickN v6 (.bool true) v10) w fun v11_1 w =>
 J0 v11_1 w) fun v11 w =>
 joinK (fun J1 : Value -> World -> Prop => gdK (yb v11) false (fun k => k t0 w) w fun v13 w =>
 gdK (yb v11) false (fun k => kV P (Instr.index 9 v13 (.int .i64 0)) w k) w fun v14 w =>
 gdK (yb v11) false (fun k => kV P (binV .lss 5 (.tmp 14) (.const (.int .u8 97)) v14 (.int .u8 97)) w k) w fun v15 w =>
 kN P (pickN v11 (.bool true) v15) w fun v16_1 w =>
 J1 v16_1 w) fun v16 w =>
 joinK (fun J2 : Value -> World -> Prop => gdK (yb v16) false (fun k => k t0 w) w fun v18 w =>
 gdK (yb v16) false (fun k => kV P (Instr.index 9 v18 (.int .i64 0)) w k) w fun v19 w =>
 gdK (yb v16) false (fun k => kV P (binV .gtr 5 (.tmp 19) (.const (.int .u8 122)) v19 (.int .u8 122)) w k) w fun v20 w =>
 kN P (pickN v16 (.bool true) v20) w fun v21_1 w =>
 J2 v21_1 w) fun v21 w =>
 condK v21
 (K (.bool false) w)
 (kV P (Builtin.len_ #[9] 3 #[t0]) w fun v23 w =>
 loopT (fun R3 s3 w => ∀ _ : Nat -> Value,
 kV P (binV .lss 3 (.tmp 24) (.tmp 23) (s3.getD 0 undef) v23) w fun v25 w =>
 condK v25
 (kV P (Instr.index 9 t0 (s3.getD 0 undef)) w fun v29 w =>
 kV P (binV .lss 5 (.tmp 30) (.const (.int .u8 97)) v29 (.int .u8 97)) w fun v31 w =>
 joinK (fun J5 : Value -> World -> Prop => gdK (yb v31) false (fun k => k v29 w) w fun v33 w =>
 gdK (yb v31) false (fun k => kV P (binV .gtr 5 (.tmp 33) (.const (.int .u8 122)) v33 (.int .u8 122)) w k) w fun v34 w =>
 kN P (pickN v31 (.bool true) v34) w fun v35_1 w =>
 J5 v35_1 w) fun v35 w =>
 joinK (fun J6 : Value -> World -> Prop => gdK (yb v35) true (fun k => k v29 w) w fun v37 w =>
 gdK (yb v35) true (fun k => kV P (binV .lss 5 (.tmp 37) (.const (.int .u8 48)) v37 (.int .u8 48)) w k) w fun v38 w =>
 gdK (yb v35) true (fun k => k v38 w) w fun v39 w =>
 gdK (yb v39) false (fun k => k v29 w) w fun v40 w =>
 gdK (yb v39) false (fun k => kV P (binV .gtr 5 (.tmp 40) (.const (.int .u8 57)) v40 (.int .u8 57)) w k) w fun v41 w =>
 gdK (yb v35) true (fun k => kN P (pickN v39 (.bool true) v41) w k) w fun v42 w =>
 kN P (pickN v35 v42 (.bool false)) w fun v43_1 w =>
 J6 v43_1 w) fun v43 w =>
 joinK (fun J7 : Value -> World -> Prop => gdK (yb v43) true (fun k => k v29 w) w fun v45 w =>
 gdK (yb v43) true (fun k => kV P (binV .neq 5 (.tmp 45) (.const (.int .u8 95)) v45 (.int .u8 95)) w k) w fun v46 w =>
 kN P (pickN v43 v46 (.bool false)) w fun v47_1 w =>
 J7 v47_1 w) fun v47 w =>
 condK v47
 (K (.bool false) w)
 (kV P (binV .add 3 (.tmp 24) (.const (.int .i64 1)) (s3.getD 0 undef) (.int .i64 1)) w fun v48 w =>
 R3 [v48] w))
 (K (.bool true) w)) [(.int .i64 0)] w)
theorem F34_eq (t0 : Value) : funE P ⟨[], [(4, [24])], []⟩ Tryz.f34 [t0] w K = F34 P w K t0 := by kernel_rfl
theorem F34_ok (t0 : Value) (h : F34 Tryz.prog w K t0) : callsK Tryz.prog 34 #[t0] w K := calls_of_eq mixedA Tryz.func34 (F34_eq _ w K t0) h
def F36 (t0 : Value) : Prop :=
 kN P (callN (.func (.func 35) #[] #[]) #[t0, (.string ⟨#[44, 32]⟩)]) w fun v11 w =>
 kV P (Instr.extract v11 0) w fun v12 w =>
 kV P (Instr.extract v11 1) w fun v13 w =>
 kV P (Instr.extract v11 2) w fun v14 w =>
 kN P (callN (.func (.func 42) #[] #[]) #[v13]) w fun v17 w =>
 kV P (Instr.extract v17 0) w fun v18 w =>
 kV P (Instr.extract v17 1) w fun v19 w =>
 kV P (Op.unary .not v14) w fun v21 w =>
 joinK (fun J0 : Value -> World -> Prop => gdK (yb v21) false (fun k => k v19 w) w fun v23 w =>
 gdK (yb v21) false (fun k => kV P (Op.unary .not v23) w k) w fun v24 w =>
 kN P (pickN v21 (.bool true) v24) w fun v25_1 w =>
 J0 v25_1 w) fun v25 w =>
 joinK (fun J1 : Value -> World -> Prop => gdK (yb v25) false (fun k => k v18 w) w fun v27 w =>
 gdK (yb v25) false (fun k => kN P (callN (.func (.func 51) #[] #[]) #[v27, (.int .i64 32), (.bool true)]) w k) w fun v28 w =>
 gdK (yb v25) false (fun k => kV P (Op.unary .not v28) w k) w fun v29 w =>
 kN P (pickN v25 (.bool true) v29) w fun v30_1 w =>
 J1 v30_1 w) fun v30 w =>
 condK v30
 (K (.tuple #[(.slice none 0 0), (.bool false)]) w)
 (kN P (callN (.func (.func 93) #[] #[]) #[v12, v18]) w fun v33 w =>
 K (.tuple #[v33, (.bool true)]) w)
theorem F36_eq (t0 : Value) : funE P ⟨[], [], []⟩ Tryz.f36 [t0] w K = F36 P w K t0 := by kernel_rfl
theorem F36_ok (t0 : Value) (h : F36 Tryz.prog w K t0) : callsK Tryz.prog 36 #[t0] w K := calls_of_eq mixedA Tryz.func36 (F36_eq _ w K t0) h
def F40 (t0 t1 : Value) : Prop :=
 kN P (callN (.func (.func 41) #[] #[]) #[t0, (.string ⟨#[99]⟩)]) w fun v10 w =>
 kV P (Instr.extract v10 0) w fun v11 w =>
 kV P (Instr.extract v10 1) w fun v12 w =>
 kN P (callN (.func (.func 42) #[] #[]) #[v11]) w fun v15 w =>
 kV P (Instr.extract v15 0) w fun v16 w =>
 kV P (Instr.extract v15 1) w fun v17 w =>
 kV P (Instr.loadAt 4 t1) w fun v18 w =>
 joinK (fun J0 : Value -> World -> Prop => gdK (yb v18) true (fun k => k v12 w) w fun v20 w =>
 kN P (pickN v18 v20 (.bool false)) w fun v21_1 w =>
 J0 v21_1 w) fun v21 w =>
 joinK (fun J1 : Value -> World -> Prop => gdK (yb v21) true (fun k => k v17 w) w fun v23 w =>
 kN P (pickN v21 v23 (.bool false)) w fun v24_1 w =>
 J1 v24_1 w) fun v24 w =>
 joinK (fun J2 : Value -> World -> Prop => gdK (yb v24) true (fun k => k v16 w) w fun v26 w =>
 gdK (yb v24) true (fun k => kV P (binV .geq 2 (.tmp 26) (.const (.int .i64 0)) v26 (.int .i64 0)) w k) w fun v27 w =>
 kN P (pickN v24 v27 (.bool false)) w fun v28_1 w =>
 J2 v28_1 w) fun v28 w =>
 joinK (fun J3 : Value -> World -> Prop => gdK (yb v28) true (fun k => k v16 w) w fun v30 w =>
 gdK (yb v28) true (fun k => kV P (binV .leq 2 (.tmp 30) (.const (.int .i64 31)) v30 (.int .i64 31)) w k) w fun v31 w =>
 kN P (pickN v28 v31 (.bool false)) w fun v32_1 w =>
 J3 v32_1 w) fun v32 w =>
 kU P (Instr.storeAt 4 t1 v32) w fun _ w =>
 K v16 w
theorem F40_eq (t0 t1 : Value) : funE P ⟨[], [], []⟩ Tryz.f40 [t0, t1] w K = F40 P w K t0 t1 := by kernel_rfl
theorem F40_ok (t0 t1 : Value) (h : F40 Tryz.prog w K t0 t1) : callsK Tryz.prog 40 #[t0, t1] w K := calls_of_eq mixedA Tryz.func40 (F40_eq _ w K t0 t1) h
def F42 (t0 : Value) : Prop :=
 kN P (callN (.func (.func 41) #[] #[]) #[t0, (.string ⟨#[45]⟩)]) w fun v10 w =>
 kV P (Instr.extract v10 0) w fun v11 w =>
 kV P (Instr.extract v10 1) w fun v12 w =>
 kV P (binV .eql 9 (.tmp 13) (.const (.string ⟨#[]⟩)) v11 (.string ⟨#[]⟩)) w fun v14 w =>
 joinK (fun J0 : Value -> World -> Prop => gdK (yb v14) false (fun k => k v11 w) w fun v16 w =>
 gdK (yb v14) false (fun k => kV P (Builtin.len_ #[9] 3 #[v16]) w k) w fun v17 w =>
 gdK (yb v14) false (fun k => kV P (binV .gtr 3 (.tmp 17) (.const (.int .i64 10)) v17 (.int .i64 10)) w k) w fun v18 w =>
 kN P (pickN v14 (.bool true) v18) w fun v19_1 w =>
 J0 v19_1 w) fun v19 w =>
 joinK (fun J1 : Value -> World -> Prop => gdK (yb v19) false (fun k => k v11 w) w fun v21 w =>
 gdK (yb v19) false (fun k => kV P (Builtin.len_ #[9] 3 #[v21]) w k) w fun v22 w =>
 gdK (yb v19) false (fun k => kV P (binV .gtr 3 (.tmp 22) (.const (.int .i64 1)) v22 (.int .i64 1)) w k) w fun v23 w =>
 gdK (yb v19) false (fun k => k v23 w) w fun v24 w =>
 gdK (yb v24) true (fun k => k v11 w) w fun v25 w =>
 gdK (yb v24) true (fun k => kV P (Instr.index 9 v25 (.int .i64 0)) w k) w fun v26 w =>
 gdK (yb v24) true (fun k => kV P (binV .eql 5 (.tmp 26) (.const (.int .u8 48)) v26 (.int .u8 48)) w k) w fun v27 w =>
 gdK (yb v19) false (fun k => kN P (pickN v24 v27 (.bool false)) w k) w fun v28 w =>
 kN P (pickN v19 (.bool true) v28) w fun v29_1 w =>
 J1 v29_1 w) fun v29 w =>
 joinK (fun J2 : Value -> World -> Prop => gdK (yb v29) false (fun k => k v12 w) w fun v31 w =>
 gdK (yb v29) false (fun k => k v31 w) w fun v32 w =>
 gdK (yb v32) true (fun k => k v11 w) w fun v33 w =>
 gdK (yb v32) true (fun k => kV P (binV .eql 9 (.tmp 33) (.const (.string ⟨#[48]⟩)) v33 (.string ⟨#[48]⟩)) w k) w fun v34 w =>
 gdK (yb v29) false (fun k => kN P (pickN v32 v34 (.bool false)) w k) w fun v35 w =>
 kN P (pickN v29 (.bool true) v35) w fun v36_1 w =>
 J2 v36_1 w) fun v36 w =>
 condK v36
 (K (.tuple #[(.int .i64 0), (.bool false)]) w)
 (kV P (Builtin.len_ #[9] 3 #[v11]) w fun v38 w =>
 loopT (fun R3 s3 w => ∀ _ : Nat -> Value,
 kV P (binV .lss 3 (.tmp 39) (.tmp 38) (s3.getD 1 undef) v38) w fun v40 w =>
 condK v40
 (kV P (Instr.index 9 v11 (s3.getD 1 undef)) w fun v44 w =>
 kV P (binV .lss 5 (.tmp 44) (.const (.int .u8 48)) v44 (.int .u8 48)) w fun v45 w =>
 joinK (fun J5 : Value -> World -> Prop => gdK (yb v45) false (fun k => k v11 w) w fun v47 w =>
 gdK (yb v45) false (fun k => k (s3.getD 1 undef) w) w fun v48 w =>
 gdK (yb v45) false (fun k => kV P (Instr.index 9 v47 v48) w k) w fun v49 w =>
 gdK (yb v45) false (fun k => kV P (binV .gtr 5 (.tmp 49) (.const (.int .u8 57)) v49 (.int .u8 57)) w k) w fun v50 w =>
 kN P (pickN v45 (.bool true) v50) w fun v51_1 w =>
 J5 v51_1 w) fun v51 w =>
 condK v51
 (K (.tuple #[(.int .i64 0), (.bool false)]) w)
 (kV P (binV .mul 2 (.tmp 52) (.const (.int .i64 10)) (s3.getD 0 undef) (.int .i64 10)) w fun v53 w =>
 kV P (Instr.index 9 v11 (s3.getD 1 undef)) w fun v56 w =>
 kV P (binV .sub 5 (.tmp 56) (.const (.int .u8 48)) v56 (.int .u8 48)) w fun v57 w =>
 kV P (convert 5 2 v57) w fun v58 w =>
 kV P (binV .add 2 (.tmp 53) (.tmp 58) v53 v58) w fun v59 w =>
 kV P (binV .add 3 (.tmp 39) (.const (.int .i64 1)) (s3.getD 1 undef) (.int .i64 1)) w fun v60 w =>
 R3 [v59, v60] w))
 (joinL (fun J6 =>
 condK v12
 (kV P (Op.unary .neg (s3.getD 0 undef)) w fun v63 w =>
 J6 [v63] w)
 (J6 [(s3.getD 0 undef)] w)) fun s6 w => ∀ _ : Nat -> Value,
 K (.tuple #[(s6.getD 0 undef), (.bool true)]) w)) [(.int .i64 0), (.int .i64 0)] w)
theorem F42_eq (t0 : Value) : funE P ⟨[], [(6, [6, 39])], [(14, [6])]⟩ Tryz.f42 [t0] w K = F42 P w K t0 := by kernel_rfl
theorem F42_ok (t0 : Value) (h : F42 Tryz.prog w K t0) : callsK Tryz.prog 42 #[t0] w K := calls_of_eq mixedA Tryz.func42 (F42_eq _ w K t0) h
def F44 (t0 : Value) : Prop :=
 kV P (convert 2 35 t0) w fun v6 w =>
 joinL (fun J0 =>
 kV P (binV .lss 2 (.tmp 7) (.const (.int .i64 0)) t0 (.int .i64 0)) w fun v8 w =>
 condK v8
 (kV P (Op.unary .neg v6) w fun v10 w =>
 J0 [v10] w)
 (J0 [v6] w)) fun s0 w => ∀ _ : Nat -> Value,
 loopT (fun R2 s2 w => ∀ _ : Nat -> Value,
 kV P (binV .rem 35 (.tmp 11) (.const (.int .u64 10)) (s2.getD 1 undef) (.int .u64 10)) w fun v12 w =>
 kV P (binV .add 35 (.const (.int .u64 48)) (.tmp 12) (.int .u64 48) v12) w fun v13 w =>
 kV P (convert 35 5 v13) w fun v14 w =>
 kV P (Instr.buildSlice 30 1 #[(0, v14)]) w fun v15 w =>
 kV P (Builtin.append_ #[30, 30] 30 #[v15, (s2.getD 0 undef)]) w fun v17 w =>
 kV P (binV .quo 35 (.tmp 18) (.const (.int .u64 10)) (s2.getD 1 undef) (.int .u64 10)) w fun v19 w =>
 kV P (binV .eql 35 (.tmp 20) (.const (.int .u64 0)) v19 (.int .u64 0)) w fun v21 w =>
 condK v21
 (kV P (binV .lss 2 (.tmp 22) (.const (.int .i64 0)) t0 (.int .i64 0)) w fun v23 w =>
 condK v23
 (kV P (convert 30 9 v17) w fun v25 w =>
 kV P (binV .add 9 (.const (.string ⟨#[45]⟩)) (.tmp 25) (.string ⟨#[45]⟩) v25) w fun v26 w =>
 K v26 w)
 (kV P (convert 30 9 v17) w fun v28 w =>
 K v28 w))
 (R2 [v17, v19] w)) [(.slice none 0 0), (s0.getD 0 undef)] w
theorem F44_eq (t0 : Value) : funE P ⟨[], [(5, [4, 3])], [(4, [3])]⟩ Tryz.f44 [t0] w K = F44 P w K t0 := by kernel_rfl
theorem F44_ok (t0 : Value) (h : F44 Tryz.prog w K t0) : callsK Tryz.prog 44 #[t0] w K := calls_of_eq mixedA Tryz.func44 (F44_eq _ w K t0) h
def F93 (t0 t1 : Value) : Prop :=
 kN P (callN (.func (.func 51) #[] #[]) #[t1, (.int .i64 12), (.bool true)]) w fun v7 w =>
 condK v7
 (kN P (callN (.func (.func 44) #[] #[]) #[t1]) w fun v10 w =>
 kV P (Instr.buildSlice 66 3 #[(0, t0), (1, (.string ⟨#[99, 48]⟩)), (2, v10)]) w fun v11 w =>
 kN P (callN (.func (.func 134) #[] #[]) #[v11, (.string ⟨#[44, 32]⟩)]) w fun v12 w =>
 kV P (binV .add 9 (.const (.string ⟨#[97, 100, 100, 105, 32]⟩)) (.tmp 12) (.string ⟨#[97, 100, 100, 105, 32]⟩) v12) w fun v13 w =>
 kV P (Instr.buildSlice 66 1 #[(0, v13)]) w fun v14 w =>
 K v14 w)
 (kV P (convert 2 35 t1) w fun v16 w =>
 kN P (callN (.func (.func 99) #[] #[]) #[v16, (.int .i64 12)]) w fun v17 w =>
 kV P (convert 35 2 v17) w fun v18 w =>
 kV P (binV .add 9 (.const (.string ⟨#[108, 117, 105, 32]⟩)) (.tmp 19) (.string ⟨#[108, 117, 105, 32]⟩) t0) w fun v20 w =>
 kV P (binV .add 9 (.tmp 20) (.const (.string ⟨#[44, 32]⟩)) v20 (.string ⟨#[44, 32]⟩)) w fun v21 w =>
 kV P (binV .sub 2 (.tmp 22) (.tmp 23) t1 v18) w fun v24 w =>
 kN P (callN (.func (.func 44) #[] #[]) #[v24]) w fun v25 w =>
 kV P (binV .add 9 (.tmp 21) (.tmp 25) v21 v25) w fun v26 w =>
 kN P (callN (.func (.func 44) #[] #[]) #[v18]) w fun v30 w =>
 kV P (Instr.buildSlice 66 3 #[(0, t0), (1, t0), (2, v30)]) w fun v31 w =>
 kN P (callN (.func (.func 134) #[] #[]) #[v31, (.string ⟨#[44, 32]⟩)]) w fun v32 w =>
 kV P (binV .add 9 (.const (.string ⟨#[97, 100, 100, 105, 32]⟩)) (.tmp 32) (.string ⟨#[97, 100, 100, 105, 32]⟩) v32) w fun v33 w =>
 kV P (Instr.buildSlice 66 2 #[(0, v26), (1, v33)]) w fun v34 w =>
 K v34 w)
theorem F93_eq (t0 t1 : Value) : funE P ⟨[], [], []⟩ Tryz.f93 [t0, t1] w K = F93 P w K t0 t1 := by kernel_rfl
theorem F93_ok (t0 t1 : Value) (h : F93 Tryz.prog w K t0 t1) : callsK Tryz.prog 93 #[t0, t1] w K := calls_of_eq mixedA Tryz.func93 (F93_eq _ w K t0 t1) h
end
open Go.Fx
set_option maxRecDepth 100000
set_option maxHeartbeats 4000000
theorem RA_call_4 : type_of% (Fx.kN_callf Tryz.call4) := Fx.kN_callf Tryz.call4
theorem RA_call_12 : type_of% (Fx.kN_callf Tryz.call12) := Fx.kN_callf Tryz.call12
theorem RA_call_13 : type_of% (Fx.kN_callf Tryz.call13) := Fx.kN_callf Tryz.call13
theorem RA_al_60 : type_of% (Fx.run_alloc Tryz.zeroValue60) := Fx.run_alloc Tryz.zeroValue60
theorem RA_st_60 : type_of% (Fx.run_storeN' Tryz.sizeOf60) := Fx.run_storeN' Tryz.sizeOf60
theorem RA_len_56 : ∀ (a : Option Addr) (len cap : Nat) (w : World), (Builtin.len_ #[56] 3 #[.slice a len cap]).run Tryz.prog w = .ok (.int .i64 len) w := Fx.run_len_slice Tryz.underlying56
theorem RA_ix_56 : type_of% (Fx.run_index_slice Tryz.underlying56 Tryz.sizeOf65) := Fx.run_index_slice Tryz.underlying56 Tryz.sizeOf65
theorem RA_ld_65 : type_of% (Fx.run_loadN' Tryz.isAgg65 Tryz.sizeOf65) := Fx.run_loadN' Tryz.isAgg65 Tryz.sizeOf65
theorem RA_al_65 : type_of% (Fx.run_alloc Tryz.zeroValue65) := Fx.run_alloc Tryz.zeroValue65
theorem RA_st_65 : type_of% (Fx.run_storeN' Tryz.sizeOf65) := Fx.run_storeN' Tryz.sizeOf65
theorem RA_fld_65_2 : ∀ (b o : Nat) (w : World), (Instr.fieldAt 65 (.pointer (some ⟨b, o, none⟩)) 2).run Tryz.prog w = .ok (.pointer (some ⟨b, o + 2, none⟩)) w := Fx.run_fieldO 2 2 1 Tryz.underlying65 rfl Tryz.sizeOf4 (by decide)
theorem RA_ld_4 : type_of% (Fx.run_load1' Tryz.isAgg4) := Fx.run_load1' Tryz.isAgg4
theorem RA_fld_65_1 : ∀ (b o : Nat) (w : World), (Instr.fieldAt 65 (.pointer (some ⟨b, o, none⟩)) 1).run Tryz.prog w = .ok (.pointer (some ⟨b, o + 1, none⟩)) w := Fx.run_fieldO 1 1 1 Tryz.underlying65 rfl Tryz.sizeOf9 (by decide)
theorem RA_ld_9 : type_of% (Fx.run_load1' Tryz.isAgg9) := Fx.run_load1' Tryz.isAgg9
theorem RA_fld_65_0 : ∀ (b o : Nat) (w : World), (Instr.fieldAt 65 (.pointer (some ⟨b, o, none⟩)) 0).run Tryz.prog w = .ok (.pointer (some ⟨b, o, none⟩)) w := Fx.run_fieldO 0 0 1 Tryz.underlying65 rfl Tryz.sizeOf3 (by decide)
theorem RA_ld_3 : type_of% (Fx.run_load1' Tryz.isAgg3) := Fx.run_load1' Tryz.isAgg3
theorem RA_call_14 : type_of% (Fx.kN_callf Tryz.call14) := Fx.kN_callf Tryz.call14
theorem RA_len_66 : ∀ (a : Option Addr) (len cap : Nat) (w : World), (Builtin.len_ #[66] 3 #[.slice a len cap]).run Tryz.prog w = .ok (.int .i64 len) w := Fx.run_len_slice Tryz.underlying66
theorem RA_ix_66 : type_of% (Fx.run_index_slice Tryz.underlying66 Tryz.sizeOf9) := Fx.run_index_slice Tryz.underlying66 Tryz.sizeOf9
theorem RA_ld_60 : type_of% (Fx.run_loadN' Tryz.isAgg60 Tryz.sizeOf60) := Fx.run_loadN' Tryz.isAgg60 Tryz.sizeOf60
theorem RA_len_22 : ∀ (a : Option Addr) (len cap : Nat) (w : World), (Builtin.len_ #[22] 3 #[.slice a len cap]).run Tryz.prog w = .ok (.int .i64 len) w := Fx.run_len_slice Tryz.underlying22
theorem RA_call_16 : type_of% (Fx.kN_callf Tryz.call16) := Fx.kN_callf Tryz.call16
theorem RA_call_15 : type_of% (Fx.kN_callf Tryz.call15) := Fx.kN_callf Tryz.call15
theorem RA_al_46 : type_of% (Fx.run_alloc Tryz.zeroValue46) := Fx.run_alloc Tryz.zeroValue46
theorem RA_st_46 : type_of% (Fx.run_storeN' Tryz.sizeOf46) := Fx.run_storeN' Tryz.sizeOf46
theorem RA_ld_46 : type_of% (Fx.run_loadN' Tryz.isAgg46 Tryz.sizeOf46) := Fx.run_loadN' Tryz.isAgg46 Tryz.sizeOf46
theorem RA_call_17 : type_of% (Fx.kN_callf Tryz.call17) := Fx.kN_callf Tryz.call17
theorem RA_bs_22_1 : ∀ (v0 : Value) (w : World), [v0].all (fun v => v.oneCell') = true -> (Instr.buildSlice 22 1 [(0, v0)].toArray).run Tryz.prog w = .ok (.slice (some ⟨w.heap.size, 0, none⟩) 1 1) (w.alloc (.cells [v0].toArray 71)) := fun v0 w h => Fx.run_bsS Tryz.underlying22 (by kernel_rfl) [v0] (List.all_eq_true.1 h) (by simp) w
theorem RA_call_30 : type_of% (Fx.kN_callf Tryz.call30) := Fx.kN_callf Tryz.call30
theorem RA_call_31 : type_of% (Fx.kN_callf Tryz.call31) := Fx.kN_callf Tryz.call31
theorem RA_scall_31 : type_of% (Fx.sN_callf Tryz.call31) := Fx.sN_callf Tryz.call31
theorem RA_call_32 : type_of% (Fx.kN_callf Tryz.call32) := Fx.kN_callf Tryz.call32
theorem RA_scall_32 : type_of% (Fx.sN_callf Tryz.call32) := Fx.sN_callf Tryz.call32
theorem RA_call_33 : type_of% (Fx.kN_callf Tryz.call33) := Fx.kN_callf Tryz.call33
theorem RA_scall_33 : type_of% (Fx.sN_callf Tryz.call33) := Fx.sN_callf Tryz.call33
theorem RA_call_34 : type_of% (Fx.kN_callf Tryz.call34) := Fx.kN_callf Tryz.call34
theorem RA_scall_34 : type_of% (Fx.sN_callf Tryz.call34) := Fx.sN_callf Tryz.call34
theorem RA_bl_65_0_1_2 : ∀ (a0x0 : Int) (a1x0 : ByteArray) (a2x0 : Bool) (w : World), (Instr.build 65 [(0, .int .i64 a0x0), (1, .string a1x0), (2, .bool a2x0)].toArray).run Tryz.prog w = .ok (.agg [.int .i64 a0x0, .string a1x0, .bool a2x0].toArray) w := fun a0x0 a1x0 a2x0 w => run_build w 65 _ _ (by kernel_rfl)
theorem RA_bs_56_1 : ∀ (vs : List Value) (w : World), vs.length = 3 -> (Instr.buildSlice 56 1 [(0, .agg vs.toArray)].toArray).run Tryz.prog w = .ok (.slice (some ⟨w.heap.size, 0, none⟩) 1 1) (w.alloc (.cells vs.toArray 65)) := fun vs w h => Fx.run_bs1 Tryz.underlying56 (by kernel_rfl) (by decide) vs h w
theorem RA_bl_60_0_1 : ∀ (a0x0 : Option Nat) (a1x0 : Option Nat) (w : World), (Instr.build 60 [(0, .map a0x0), (1, .map a1x0)].toArray).run Tryz.prog w = .ok (.agg [.map a0x0, .map a1x0].toArray) w := fun a0x0 a1x0 w => run_build w 60 _ _ (by kernel_rfl)
theorem RA_fld_60_0 : ∀ (b o : Nat) (w : World), (Instr.fieldAt 60 (.pointer (some ⟨b, o, none⟩)) 0).run Tryz.prog w = .ok (.pointer (some ⟨b, o, none⟩)) w := Fx.run_fieldO 0 0 1 Tryz.underlying60 rfl Tryz.sizeOf58 (by decide)
theorem RA_ld_58 : type_of% (Fx.run_load1' Tryz.isAgg58) := Fx.run_load1' Tryz.isAgg58
theorem RA_fld_60_1 : ∀ (b o : Nat) (w : World), (Instr.fieldAt 60 (.pointer (some ⟨b, o, none⟩)) 1).run Tryz.prog w = .ok (.pointer (some ⟨b, o + 1, none⟩)) w := Fx.run_fieldO 1 1 1 Tryz.underlying60 rfl Tryz.sizeOf58 (by decide)
theorem RA_call_35 : type_of% (Fx.kN_callf Tryz.call35) := Fx.kN_callf Tryz.call35
theorem RA_scall_35 : type_of% (Fx.sN_callf Tryz.call35) := Fx.sN_callf Tryz.call35
theorem RA_bs_66_1 : ∀ (v0 : Value) (w : World), [v0].all (fun v => v.oneCell') = true -> (Instr.buildSlice 66 1 [(0, v0)].toArray).run Tryz.prog w = .ok (.slice (some ⟨w.heap.size, 0, none⟩) 1 1) (w.alloc (.cells [v0].toArray 9)) := fun v0 w h => Fx.run_bsS Tryz.underlying66 (by kernel_rfl) [v0] (List.all_eq_true.1 h) (by simp) w
theorem RA_call_36 : type_of% (Fx.kN_callf Tryz.call36) := Fx.kN_callf Tryz.call36
theorem RA_call_37 : type_of% (Fx.kN_callf Tryz.call37) := Fx.kN_callf Tryz.call37
theorem RA_bl_46_0 : ∀ (a0x0 : Int) (w : World), (Instr.build 46 [(0, .int .i64 a0x0)].toArray).run Tryz.prog w = .ok (.agg [.int .i64 a0x0, (.int .i64 0), (.int .i64 0), (.int .i64 0), (.int .i64 0)].toArray) w := fun a0x0 w => run_build w 46 _ _ (by kernel_rfl)
theorem RA_fld_46_0 : ∀ (b o : Nat) (w : World), (Instr.fieldAt 46 (.pointer (some ⟨b, o, none⟩)) 0).run Tryz.prog w = .ok (.pointer (some ⟨b, o, none⟩)) w := Fx.run_fieldO 0 0 1 Tryz.underlying46 rfl Tryz.sizeOf3 (by decide)
theorem RA_call_39 : type_of% (Fx.kN_callf Tryz.call39) := Fx.kN_callf Tryz.call39
theorem RA_call_38 : type_of% (Fx.kN_callf Tryz.call38) := Fx.kN_callf Tryz.call38
theorem RA_scall_38 : type_of% (Fx.sN_callf Tryz.call38) := Fx.sN_callf Tryz.call38
theorem RA_bl_46_ : ∀  (w : World), (Instr.build 46 [].toArray).run Tryz.prog w = .ok (.agg [(.int .i64 0), (.int .i64 0), (.int .i64 0), (.int .i64 0), (.int .i64 0)].toArray) w := fun w => run_build w 46 _ _ (by kernel_rfl)
theorem RA_al_4 : type_of% (Fx.run_alloc Tryz.zeroValue4) := Fx.run_alloc Tryz.zeroValue4
theorem RA_st_4 : type_of% (Fx.run_store1' Tryz.sizeOf4) := Fx.run_store1' Tryz.sizeOf4
theorem RA_call_40 : type_of% (Fx.kN_callf Tryz.call40) := Fx.kN_callf Tryz.call40
theorem RA_fld_46_1 : ∀ (b o : Nat) (w : World), (Instr.fieldAt 46 (.pointer (some ⟨b, o, none⟩)) 1).run Tryz.prog w = .ok (.pointer (some ⟨b, o + 1, none⟩)) w := Fx.run_fieldO 1 1 1 Tryz.underlying46 rfl Tryz.sizeOf3 (by decide)
theorem RA_st_3 : type_of% (Fx.run_store1' Tryz.sizeOf3) := Fx.run_store1' Tryz.sizeOf3
theorem RA_fld_46_2 : ∀ (b o : Nat) (w : World), (Instr.fieldAt 46 (.pointer (some ⟨b, o, none⟩)) 2).run Tryz.prog w = .ok (.pointer (some ⟨b, o + 2, none⟩)) w := Fx.run_fieldO 2 2 1 Tryz.underlying46 rfl Tryz.sizeOf3 (by decide)
theorem RA_fld_46_3 : ∀ (b o : Nat) (w : World), (Instr.fieldAt 46 (.pointer (some ⟨b, o, none⟩)) 3).run Tryz.prog w = .ok (.pointer (some ⟨b, o + 3, none⟩)) w := Fx.run_fieldO 3 3 1 Tryz.underlying46 rfl Tryz.sizeOf3 (by decide)
theorem RA_call_42 : type_of% (Fx.kN_callf Tryz.call42) := Fx.kN_callf Tryz.call42
theorem RA_scall_42 : type_of% (Fx.sN_callf Tryz.call42) := Fx.sN_callf Tryz.call42
theorem RA_fld_46_4 : ∀ (b o : Nat) (w : World), (Instr.fieldAt 46 (.pointer (some ⟨b, o, none⟩)) 4).run Tryz.prog w = .ok (.pointer (some ⟨b, o + 4, none⟩)) w := Fx.run_fieldO 4 4 1 Tryz.underlying46 rfl Tryz.sizeOf2 (by decide)
theorem RA_st_2 : type_of% (Fx.run_store1' Tryz.sizeOf2) := Fx.run_store1' Tryz.sizeOf2
theorem RA_call_43 : type_of% (Fx.kN_callf Tryz.call43) := Fx.kN_callf Tryz.call43
theorem RA_scall_43 : type_of% (Fx.sN_callf Tryz.call43) := Fx.sN_callf Tryz.call43
theorem RA_call_44 : type_of% (Fx.kN_callf Tryz.call44) := Fx.kN_callf Tryz.call44
theorem RA_call_51 : type_of% (Fx.kN_callf Tryz.call51) := Fx.kN_callf Tryz.call51
theorem RA_call_93 : type_of% (Fx.kN_callf Tryz.call93) := Fx.kN_callf Tryz.call93
theorem RA_call_41 : type_of% (Fx.kN_callf Tryz.call41) := Fx.kN_callf Tryz.call41
theorem RA_scall_41 : type_of% (Fx.sN_callf Tryz.call41) := Fx.sN_callf Tryz.call41
theorem RA_cv_5_2 : type_of% (Fx.run_convert_int Tryz.underlying5 Tryz.underlying2) := Fx.run_convert_int Tryz.underlying5 Tryz.underlying2
theorem RA_cv_2_35 : type_of% (Fx.run_convert_int Tryz.underlying2 Tryz.underlying35) := Fx.run_convert_int Tryz.underlying2 Tryz.underlying35
theorem RA_cv_35_5 : type_of% (Fx.run_convert_int Tryz.underlying35 Tryz.underlying5) := Fx.run_convert_int Tryz.underlying35 Tryz.underlying5
theorem RA_bs_30_1 : ∀ (v0 : Value) (w : World), [v0].all (fun v => v.oneCell') = true -> (Instr.buildSlice 30 1 [(0, v0)].toArray).run Tryz.prog w = .ok (.slice (some ⟨w.heap.size, 0, none⟩) 1 1) (w.alloc (.cells [v0].toArray 5)) := fun v0 w h => Fx.run_bsS Tryz.underlying30 (by kernel_rfl) [v0] (List.all_eq_true.1 h) (by simp) w
theorem RA_bs_66_3 : ∀ (v0 v1 v2 : Value) (w : World), [v0, v1, v2].all (fun v => v.oneCell') = true -> (Instr.buildSlice 66 3 [(0, v0), (1, v1), (2, v2)].toArray).run Tryz.prog w = .ok (.slice (some ⟨w.heap.size, 0, none⟩) 3 3) (w.alloc (.cells [v0, v1, v2].toArray 9)) := fun v0 v1 v2 w h => Fx.run_bsS Tryz.underlying66 (by kernel_rfl) [v0, v1, v2] (List.all_eq_true.1 h) (by simp) w
theorem RA_call_134 : type_of% (Fx.kN_callf Tryz.call134) := Fx.kN_callf Tryz.call134
theorem RA_call_99 : type_of% (Fx.kN_callf Tryz.call99) := Fx.kN_callf Tryz.call99
theorem RA_cv_35_2 : type_of% (Fx.run_convert_int Tryz.underlying35 Tryz.underlying2) := Fx.run_convert_int Tryz.underlying35 Tryz.underlying2
theorem RA_bs_66_2 : ∀ (v0 v1 : Value) (w : World), [v0, v1].all (fun v => v.oneCell') = true -> (Instr.buildSlice 66 2 [(0, v0), (1, v1)].toArray).run Tryz.prog w = .ok (.slice (some ⟨w.heap.size, 0, none⟩) 2 2) (w.alloc (.cells [v0, v1].toArray 9)) := fun v0 v1 w h => Fx.run_bsS Tryz.underlying66 (by kernel_rfl) [v0, v1] (List.all_eq_true.1 h) (by simp) w
theorem rulesA : type_of% (And.intro @RA_call_4 (And.intro @RA_call_12 (And.intro @RA_call_13 (And.intro @RA_al_60 (And.intro @RA_st_60 (And.intro @RA_len_56 (And.intro @RA_ix_56 (And.intro @RA_ld_65 (And.intro @RA_al_65 (And.intro @RA_st_65 (And.intro @RA_fld_65_2 (And.intro @RA_ld_4 (And.intro @RA_fld_65_1 (And.intro @RA_ld_9 (And.intro @RA_fld_65_0 (And.intro @RA_ld_3 (And.intro @RA_call_14 (And.intro @RA_len_66 (And.intro @RA_ix_66 (And.intro @RA_ld_60 (And.intro @RA_len_22 (And.intro @RA_call_16 (And.intro @RA_call_15 (And.intro @RA_al_46 (And.intro @RA_st_46 (And.intro @RA_ld_46 (And.intro @RA_call_17 (And.intro @RA_bs_22_1 (And.intro @RA_call_30 (And.intro @RA_call_31 (And.intro @RA_scall_31 (And.intro @RA_call_32 (And.intro @RA_scall_32 (And.intro @RA_call_33 (And.intro @RA_scall_33 (And.intro @RA_call_34 (And.intro @RA_scall_34 (And.intro @RA_bl_65_0_1_2 (And.intro @RA_bs_56_1 (And.intro @RA_bl_60_0_1 (And.intro @RA_fld_60_0 (And.intro @RA_ld_58 (And.intro @RA_fld_60_1 (And.intro @RA_call_35 (And.intro @RA_scall_35 (And.intro @RA_bs_66_1 (And.intro @RA_call_36 (And.intro @RA_call_37 (And.intro @RA_bl_46_0 (And.intro @RA_fld_46_0 (And.intro @RA_call_39 (And.intro @RA_call_38 (And.intro @RA_scall_38 (And.intro @RA_bl_46_ (And.intro @RA_al_4 (And.intro @RA_st_4 (And.intro @RA_call_40 (And.intro @RA_fld_46_1 (And.intro @RA_st_3 (And.intro @RA_fld_46_2 (And.intro @RA_fld_46_3 (And.intro @RA_call_42 (And.intro @RA_scall_42 (And.intro @RA_fld_46_4 (And.intro @RA_st_2 (And.intro @RA_call_43 (And.intro @RA_scall_43 (And.intro @RA_call_44 (And.intro @RA_call_51 (And.intro @RA_call_93 (And.intro @RA_call_41 (And.intro @RA_scall_41 (And.intro @RA_cv_5_2 (And.intro @RA_cv_2_35 (And.intro @RA_cv_35_5 (And.intro @RA_bs_30_1 (And.intro @RA_bs_66_3 (And.intro @RA_call_134 (And.intro @RA_call_99 (And.intro @RA_cv_35_2 (@RA_bs_66_2))))))))))))))))))))))))))))))))))))))))))))))))))))))))))))))))))))))))))))))))) := ⟨@RA_call_4, @RA_call_12, @RA_call_13, @RA_al_60, @RA_st_60, @RA_len_56, @RA_ix_56, @RA_ld_65, @RA_al_65, @RA_st_65, @RA_fld_65_2, @RA_ld_4, @RA_fld_65_1, @RA_ld_9, @RA_fld_65_0, @RA_ld_3, @RA_call_14, @RA_len_66, @RA_ix_66, @RA_ld_60, @RA_len_22, @RA_call_16, @RA_call_15, @RA_al_46, @RA_st_46, @RA_ld_46, @RA_call_17, @RA_bs_22_1, @RA_call_30, @RA_call_31, @RA_scall_31, @RA_call_32, @RA_scall_32, @RA_call_33, @RA_scall_33, @RA_call_34, @RA_scall_34, @RA_bl_65_0_1_2, @RA_bs_56_1, @RA_bl_60_0_1, @RA_fld_60_0, @RA_ld_58, @RA_fld_60_1, @RA_call_35, @RA_scall_35, @RA_bs_66_1, @RA_call_36, @RA_call_37, @RA_bl_46_0, @RA_fld_46_0, @RA_call_39, @RA_call_38, @RA_scall_38, @RA_bl_46_, @RA_al_4, @RA_st_4, @RA_call_40, @RA_fld_46_1, @RA_st_3, @RA_fld_46_2, @RA_fld_46_3, @RA_call_42, @RA_scall_42, @RA_fld_46_4, @RA_st_2, @RA_call_43, @RA_scall_43, @RA_call_44, @RA_call_51, @RA_call_93, @RA_call_41, @RA_scall_41, @RA_cv_5_2, @RA_cv_2_35, @RA_cv_35_5, @RA_bs_30_1, @RA_bs_66_3, @RA_call_134, @RA_call_99, @RA_cv_35_2, @RA_bs_66_2⟩
end Go.Proofs.YtldkfbelnndaoaaGreatDoor
