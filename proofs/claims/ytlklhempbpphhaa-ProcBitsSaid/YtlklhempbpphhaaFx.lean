/-
  A weakest precondition that is computed from a function's code, at the level of values: 'codeK', 'funK'. What it says of a body holds of the call ('calls_of_funK').
  Conditions: the program follows the mixed orders; a region that draws its order passes the kit's test (Region.lexB, Region.lexTailB).
-/
import Derived.WalkKit
import Derived.StillTail
import Derived.Scope
namespace Go.Fx

/-- a mark beside what simp must not enter (its type hangs on it). -/
def Tag {β : Sort _} (_x : β) : Type := Unit
/-! ### results of one operation -/
def resKF (P : Program) : Result Next → (Value → World → Prop) → Prop
  | .ok (.value v) w' => fun K => K v w'
  | .ok .skip w' => fun K => K undef w'
  | .ok (.enter f args) w' => fun K => Calls P f args w' fun e w'' => ∃ v, e = .returned v ∧ K v w''
  | _ => fun _ => False
def resK (P : Program) (K : Value → World → Prop) (r : Result Next) : Prop := resKF P r K
def resSF (P : Program) (w : World) : Result Next → (Value → Prop) → Prop
  | .ok (.value v) w' => fun K => w' = w ∧ K v
  | .ok .skip w' => fun K => w' = w ∧ K undef
  | .ok (.enter f args) w' => fun K => w' = w ∧ ∃ v, Calls P f args w (fun e w'' => e = .returned v ∧ w'' = w) ∧ K v
  | _ => fun _ => False
def resS (P : Program) (w : World) (K : Value → Prop) (r : Result Next) : Prop := resSF P w r K
theorem resK_mono {P : Program} {K K' : Value → World → Prop} (h : ∀ v w, K v w → K' v w) : ∀ {r : Result Next}, resK P K r → resK P K' r := by
  intro r hr
  cases r with
  | halt _ _ => exact hr
  | ok n w =>
    cases n <;> first | exact h _ _ hr | exact hr | skip
    case enter f args => exact Calls.mono hr fun e w' ⟨v, he, hk⟩ => ⟨v, he, h _ _ hk⟩
theorem resS_mono {P : Program} {w : World} {K K' : Value → Prop} (h : ∀ v, K v → K' v) : ∀ {r : Result Next}, resS P w K r → resS P w K' r := by
  intro r hr
  cases r with
  | halt _ _ => exact hr
  | ok n w =>
    cases n <;> first | exact ⟨hr.1, h _ hr.2⟩ | exact hr | skip
    case enter f args => exact ⟨hr.1, hr.2.choose, hr.2.choose_spec.1, h _ hr.2.choose_spec.2⟩

/-! ### operations of a region -/
/-- an operation that only names a value again. -/
def aliasOf (ρ : Operand → Value) : Op → Option Value
  | .move x | .assign x => some (ρ x)
  | .makeFunc fn f c => some (.func fn (f.map ρ) (c.map ρ))
  | _ => none
theorem alias_run {P : Program} {ρ : Operand → Value} {o : Oper} {v : Value} (h : aliasOf ρ o.op = some v) (w : World) : (execOp ρ o).run P w = .ok (.value v) w := by
  unfold execOp
  cases ho : o.op <;> simp only [ho, aliasOf, Option.some.injEq, reduceCtorEq] at h <;> subst h <;> rfl
/-- in every world the operation gives one and the same value, and changes nothing. -/
def resW (K : Value → Prop) (r : World → Result Next) : Prop := ∃ v, (∀ w, r w = .ok (.value v) w) ∧ K v
def resP (P : Program) (K : Value → Prop) (ρ : Operand → Value) (o : Oper) : Prop := resW K (fun w => (execOp ρ o).run P w)
def stK (P : Program) (w : World) (K : Value → Prop) (ρ : Operand → Value) (o : Oper) : Prop :=
  match aliasOf ρ o.op with
  | some v => K v
  | none => resS P w K ((execOp ρ o).run P w)
def puK (P : Program) (K : Value → Prop) (ρ : Operand → Value) (o : Oper) : Prop :=
  match aliasOf ρ o.op with
  | some v => K v
  | none => resP P K ρ o
def yb : Value → Option Bool
  | .bool b => some b
  | _ => none
def gdK (y : Option Bool) (want : Bool) (A : (Value → World → Prop) → Prop) (w : World) (K : Value → World → Prop) (_ : Tag (A K) := ()) : Prop := if y == some want then A K else K undef w
def gdS (y : Option Bool) (want : Bool) (A : (Value → Prop) → Prop) (K : Value → Prop) (_ : Tag (A K) := ()) : Prop := if y == some want then A K else K undef
def opsK (P : Program) (ops : Array Oper) (Q : Act → World → Prop) : List Oper → Act → World → Prop
  | [], a, w => Q a w
  | o :: rest, a, w => match o.guard with
    | none => resK P (fun v w' => opsK P ops Q rest (a.put o.dst v) w') ((execOp a.eval o).run P w)
    | some (j, want) => gdK (yielded ops a.tmps j) want (fun K => resK P K ((execOp a.eval o).run P w)) w (fun v w' => opsK P ops Q rest (a.put o.dst v) w')
def opsS (P : Program) (ops : Array Oper) (w : World) (Q : Act → Prop) : List Oper → Act → Prop
  | [], a => Q a
  | o :: rest, a => match o.guard with
    | none => stK P w (fun v => opsS P ops w Q rest (a.put o.dst v)) a.eval o
    | some (j, want) => gdS (yielded ops a.tmps j) want (fun K => stK P w K a.eval o) (fun v => opsS P ops w Q rest (a.put o.dst v))

theorem stK_mono {P : Program} {w : World} {K K' : Value → Prop} {ρ : Operand → Value} {o : Oper} (h : ∀ v, K v → K' v) : stK P w K ρ o → stK P w K' ρ o := by
  unfold stK
  split
  · exact h _
  · exact resS_mono h
theorem puK_mono {P : Program} {K K' : Value → Prop} {ρ : Operand → Value} {o : Oper} (h : ∀ v, K v → K' v) : puK P K ρ o → puK P K' ρ o := by
  unfold puK
  split
  · exact h _
  · rintro ⟨v, hr, hk⟩; exact ⟨v, hr, h _ hk⟩
theorem resS_of_stK {P : Program} {w : World} {K : Value → Prop} {ρ : Operand → Value} {o : Oper} (h : stK P w K ρ o) : resS P w K ((execOp ρ o).run P w) := by
  unfold stK at h
  split at h
  · rename_i v hv; rw [alias_run hv]; exact ⟨rfl, h⟩
  · exact h
theorem resW_of_puK {P : Program} {K : Value → Prop} {ρ : Operand → Value} {o : Oper} (h : puK P K ρ o) : ∃ v, (∀ w, (execOp ρ o).run P w = .ok (.value v) w) ∧ K v := by
  unfold puK at h
  split at h
  · rename_i v hv; exact ⟨v, alias_run hv, h⟩
  · exact h
/-! ### loops: a tuple of values -/
def live (ls : List Nat) (a : Act) : List Value := ls.map fun i => a.tmps.getD i undef
def fillAt (W ls : List Nat) (s : List Value) (d : Nat → Value) : Nat → List Value → List Value
  | _, [] => []
  | i, v :: rest => (if W.contains i then (if ls.contains i then s.getD (ls.idxOf i) undef else d i) else v) :: fillAt W ls s d (i + 1) rest
def refill (a : Act) (W ls : List Nat) (s : List Value) (d : Nat → Value) : Act := ⟨(fillAt W ls s d 0 a.tmps.toList).toArray, a.defers⟩
def loopT (B : (List Value → World → Prop) → List Value → World → Prop) (s : List Value) (w : World) (_ : Tag B := ()) : Prop :=
  ∃ (I : List Value → World → Prop) (μ : List Value → World → Nat), I s w ∧ ∀ s w, I s w → B (fun s' w' => I s' w' ∧ μ s' w' < μ s w) s w
theorem loopT.intro {B : (List Value → World → Prop) → List Value → World → Prop} {s : List Value} {w : World} (I : List Value → World → Prop) (μ : List Value → World → Nat)
    (h0 : I s w) (h : ∀ s w, I s w → B (fun s' w' => I s' w' ∧ μ s' w' < μ s w) s w) : loopT B s w := ⟨I, μ, h0, h⟩
def dsts : Code → List Nat
  | .region _ ops _ => ops.toList.filterMap (·.dst)
  | .seq a b => dsts a ++ dsts b
  | .cond _ a b => dsts a ++ dsts b
  | .block _ c | .loop c | .scope c => dsts c
  | _ => []
def firstRegion : Code → Nat
  | .region id _ _ => id
  | .seq a b => match firstRegion a with | 0 => firstRegion b | n => n
  | .cond _ a b => match firstRegion a with | 0 => firstRegion b | n => n
  | .block _ c | .loop c | .scope c => firstRegion c
  | _ => 0

def condK (v : Value) (A B : Prop) (_ : Tag (A ∧ B) := ()) : Prop := (v = .bool true ∧ A) ∨ (v = .bool false ∧ B)

/-- what the text needs besides the code: for a region that draws its order where its tail begins (nothing: all of it is still); for a loop (by the first region in it) the slots that live. -/
structure Hints where
  tails : List (Nat × Nat) := []
  lives : List (Nat × List Nat) := []
  joins : List (Nat × List Nat) := []
def Hints.jn (h : Hints) (id : Nat) : Option (List Nat) := (h.joins.find? (fun x => x.1 == id)).map (·.2)
def joinL (G : (List Value → World → Prop) → Prop) (rest : List Value → World → Prop) (_ : Tag (G rest) := ()) : Prop := G rest
theorem joinL.to {G : (List Value → World → Prop) → Prop} {rest : List Value → World → Prop} (s : List Value) (w : World) (hG : ∀ J : List Value → World → Prop, J s w → G J) (h : rest s w) : joinL G rest := hG _ h
theorem joinL.intro {G : (List Value → World → Prop) → Prop} {rest : List Value → World → Prop} (hG : ∀ J : List Value → World → Prop, (∀ s w, rest s w → J s w) → G J) : joinL G rest := hG _ fun _ _ h => h
def Hints.tail (h : Hints) (id : Nat) : Option Nat := (h.tails.find? (fun x => x.1 == id)).map (·.2)
def Hints.lv (h : Hints) (id : Nat) : List Nat := ((h.lives.find? (fun x => x.1 == id)).map (·.2)).getD []

/-! ### a region whose orders are gone over: what hangs on no memory goes first -/
def pureOp : Op → Bool
  | .move _ | .assign _ | .pick .. | .build .. | .nilCheck _ | .binOp .. | .unOp .. | .convert .. | .fieldAddr .. | .field .. | .indexAddr .. | .index .. | .slice .. | .extract .. | .makeInterface .. | .makeFunc .. | .sliceToArrayPointer .. => true
  | .call { callee := .builtin .len, argTypes := _, args := _ } => true
  | _ => false
def pureAt (ops : Array Oper) (listed : Array Bool) (i : Nat) : Bool := ((ops[i]?).map fun o => pureOp o.op).getD false && Region.free .any ops listed i
def gdP (y : Option Bool) (want : Bool) (A : (Value → Prop) → Prop) (K : Value → Prop) (_ : Tag (A K) := ()) : Prop := if y == some want then A K else K undef
def allK : List Nat → (Nat → Prop) → Prop
  | [], _ => True
  | [i], f => f i
  | i :: j :: r, f => f i ∧ allK (j :: r) f
def opAt (P : Program) (ops : Array Oper) (i : Nat) (K : Act → World → Prop) (a : Act) (w : World) : Prop :=
  match ops[i]? with
  | none => False
  | some o => match o.guard with
    | none => resK P (fun v w' => K (a.put o.dst v) w') ((execOp a.eval o).run P w)
    | some (j, want) => gdK (yielded ops a.tmps j) want (fun K => resK P K ((execOp a.eval o).run P w)) w (fun v w' => K (a.put o.dst v) w')
def opPAt (P : Program) (ops : Array Oper) (i : Nat) (K : Act → Prop) (a : Act) : Prop :=
  match ops[i]? with
  | none => False
  | some o => match o.guard with
    | none => puK P (fun v => K (a.put o.dst v)) a.eval o
    | some (j, want) => gdP (yielded ops a.tmps j) want (fun K => puK P K a.eval o) (fun v => K (a.put o.dst v))
def anyK (P : Program) (ops : Array Oper) (Q : Act → World → Prop) : Nat → Array Bool → Act → World → Prop
  | 0, listed, a, w => match Region.ready .any ops listed with
    | [] => Q a w
    | _ => False
  | fuel + 1, listed, a, w => match Region.ready .any ops listed with
    | [] => Q a w
    | i :: rest => match (i :: rest).find? (pureAt ops listed) with
      | some i => opPAt P ops i (fun a' => anyK P ops Q fuel (listed.setIfInBounds i true) a' w) a
      | none => allK (i :: rest) fun i => opAt P ops i (anyK P ops Q fuel (listed.setIfInBounds i true)) a w

def drawK (P : Program) (t : Option Nat) (ops : Array Oper) (Q : Act → World → Prop) (a : Act) (w : World) : Prop :=
  match t with
  | some 999 => if Region.noSelect ops then anyK P ops Q ops.size (Array.replicate ops.size false) a w else False
  | some n => if Region.lexTailB .any ops n then opsS P ops w (fun a' => opsK P ops Q (ops.toList.drop n) a' w) (ops.toList.take n) a else False
  | none => if Region.lexB .any ops then opsS P ops w (fun a' => Q a' w) ops.toList a else False
def codeK (P : Program) (hs : Hints) : Code → (Exit → Act → World → Prop) → Act → World → Prop
  | .skip, Q, a, w => Q .normal a w
  | .region _ ops false, Q, a, w => opsK P ops (Q .normal) ops.toList a w
  | .region id ops true, Q, a, w => drawK P (hs.tail id) ops (Q .normal) a w.drew
  | .seq x y, Q, a, w => codeK P hs x (Exit.then (codeK P hs y Q) Q) a w
  | .cond c x y, Q, a, w => condK (a.eval c) (codeK P hs x Q a w) (codeK P hs y Q a w)
  | .block id c, Q, a, w => codeK P hs c (Exit.inBlock id Q) a w
  | .loop c, Q, a, w => loopT (fun R s w' => ∀ d : Nat → Value, codeK P hs c (Exit.then (fun a'' w'' => R (live (hs.lv (firstRegion c)) a'') w'') Q) (refill a (dsts c) (hs.lv (firstRegion c)) s d) w') (live (hs.lv (firstRegion c)) a) w
  | .exit id, Q, a, w => Q (.exit id) a w
  | .scope c, Q, a, w => codeK P hs c (Exit.noGoto Q) a w
  | .label _, Q, a, w => Q .normal a w
  | .goto l, Q, a, w => Q (.goto l) a w
  | .ret, Q, a, w => Q .ret a w
  | _, _, _, _ => False

/-! ### what a code leaves alone -/
structure Agree (W : List Nat) (a a' : Act) : Prop where
  size : a'.tmps.size = a.tmps.size
  defers : a'.defers = a.defers
  same : ∀ i, i ∉ W → a'.tmps[i]? = a.tmps[i]?
theorem Agree.refl (W : List Nat) (a : Act) : Agree W a a := ⟨rfl, rfl, fun _ _ => rfl⟩
theorem Agree.trans {W : List Nat} {a b c : Act} (h : Agree W a b) (k : Agree W b c) : Agree W a c :=
  ⟨k.size.trans h.size, k.defers.trans h.defers, fun i hi => (k.same i hi).trans (h.same i hi)⟩
theorem Agree.mono {W W' : List Nat} {a b : Act} (h : Agree W a b) (hW : ∀ i, i ∈ W → i ∈ W') : Agree W' a b :=
  ⟨h.size, h.defers, fun i hi => h.same i fun hc => hi (hW i hc)⟩
theorem Agree.put {W : List Nat} {a : Act} {d : Option Tmp} (v : Value) (h : ∀ x, d = some x → x ∈ W) : Agree W a (a.put d v) := by
  cases d with
  | none => exact Agree.refl _ _
  | some x =>
    refine ⟨by simp [Act.put], rfl, fun i hi => ?_⟩
    have hx := h x rfl
    have : x ≠ i := fun e => hi (e ▸ hx)
    simp [Act.put, this]
theorem opsK_mono {P : Program} {ops : Array Oper} {Q Q' : Act → World → Prop} (h : ∀ a w, Q a w → Q' a w) : ∀ (l : List Oper) (a : Act) (w : World), opsK P ops Q l a w → opsK P ops Q' l a w := by
  intro l
  induction l with
  | nil => intro a w hq; exact h _ _ hq
  | cons o rest ih =>
    intro a w hq
    unfold opsK at hq ⊢
    cases hg : o.guard with
    | none => rw [hg] at hq; exact resK_mono (fun v w' => ih _ _) hq
    | some x =>
      obtain ⟨j, want⟩ := x
      rw [hg] at hq
      simp only [gdK] at hq ⊢
      split at hq
      · rename_i hc; rw [if_pos hc]; exact resK_mono (fun v w' => ih _ _) hq
      · rename_i hc; rw [if_neg hc]; exact ih _ _ hq
theorem opsK_agree {P : Program} {ops : Array Oper} {Q : Act → World → Prop} {W : List Nat} (a0 : Act) : ∀ (l : List Oper) (_hl : ∀ o x, o ∈ l → o.dst = some x → x ∈ W) (a : Act) (w : World),
    Agree W a0 a → opsK P ops Q l a w → opsK P ops (fun a' w' => Q a' w' ∧ Agree W a0 a') l a w := by
  intro l
  induction l with
  | nil => intro _ a w ha hq; exact ⟨hq, ha⟩
  | cons o rest ih =>
    intro hl a w ha hq
    have ih' := ih (fun o' x ho => hl o' x (List.mem_cons_of_mem _ ho))
    have hp : ∀ v, Agree W a0 (a.put o.dst v) := fun v => ha.trans (Agree.put v fun x hx => hl o x (List.mem_cons_self ..) hx)
    unfold opsK at hq ⊢
    cases hg : o.guard with
    | none => rw [hg] at hq; exact resK_mono (fun v w' => ih' _ _ (hp v)) hq
    | some x =>
      obtain ⟨j, want⟩ := x
      rw [hg] at hq
      simp only [gdK] at hq ⊢
      split at hq
      · rename_i hc; rw [if_pos hc]; exact resK_mono (fun v w' => ih' _ _ (hp v)) hq
      · rename_i hc; rw [if_neg hc]; exact ih' _ _ (hp _) hq
theorem opsS_mono {P : Program} {ops : Array Oper} {w : World} {Q Q' : Act → Prop} (h : ∀ a, Q a → Q' a) : ∀ (l : List Oper) (a : Act), opsS P ops w Q l a → opsS P ops w Q' l a := by
  intro l
  induction l with
  | nil => intro a hq; exact h _ hq
  | cons o rest ih =>
    intro a hq
    unfold opsS at hq ⊢
    cases hg : o.guard with
    | none => rw [hg] at hq; exact stK_mono (fun v => ih _) hq
    | some x =>
      obtain ⟨j, want⟩ := x
      rw [hg] at hq
      simp only [gdS] at hq ⊢
      split at hq
      · rename_i hc; rw [if_pos hc]; exact stK_mono (fun v => ih _) hq
      · rename_i hc; rw [if_neg hc]; exact ih _ hq
theorem opsS_agree {P : Program} {ops : Array Oper} {w : World} {Q : Act → Prop} {W : List Nat} (a0 : Act) : ∀ (l : List Oper) (_hl : ∀ o x, o ∈ l → o.dst = some x → x ∈ W) (a : Act),
    Agree W a0 a → opsS P ops w Q l a → opsS P ops w (fun a' => Q a' ∧ Agree W a0 a') l a := by
  intro l
  induction l with
  | nil => intro _ a ha hq; exact ⟨hq, ha⟩
  | cons o rest ih =>
    intro hl a ha hq
    have ih' := ih (fun o' x ho => hl o' x (List.mem_cons_of_mem _ ho))
    have hp : ∀ v, Agree W a0 (a.put o.dst v) := fun v => ha.trans (Agree.put v fun x hx => hl o x (List.mem_cons_self ..) hx)
    unfold opsS at hq ⊢
    cases hg : o.guard with
    | none => rw [hg] at hq; exact stK_mono (fun v => ih' _ (hp v)) hq
    | some x =>
      obtain ⟨j, want⟩ := x
      rw [hg] at hq
      simp only [gdS] at hq ⊢
      split at hq
      · rename_i hc; rw [if_pos hc]; exact stK_mono (fun v => ih' _ (hp v)) hq
      · rename_i hc; rw [if_neg hc]; exact ih' _ (hp _) hq
theorem opAt_mono {P : Program} {ops : Array Oper} {i : Nat} {K K' : Act → World → Prop} {a : Act} {w : World} (h : ∀ v w', K (a.put ((ops[i]?).bind (·.dst)) v) w' → K' (a.put ((ops[i]?).bind (·.dst)) v) w') (hk : opAt P ops i K a w) : opAt P ops i K' a w := by
  unfold opAt at hk ⊢
  cases ho : ops[i]? with
  | none => rw [ho] at hk; exact hk
  | some o =>
    rw [ho] at hk h
    dsimp only [Option.bind_some] at hk h ⊢
    cases hg : o.guard with
    | none => rw [hg] at hk; exact resK_mono h hk
    | some x =>
      obtain ⟨j, want⟩ := x
      rw [hg] at hk
      simp only [gdK] at hk ⊢
      split at hk
      · rename_i hc; rw [if_pos hc]; exact resK_mono h hk
      · rename_i hc; rw [if_neg hc]; exact h _ _ hk
theorem opPAt_mono {P : Program} {ops : Array Oper} {i : Nat} {K K' : Act → Prop} {a : Act} (h : ∀ v, K (a.put ((ops[i]?).bind (·.dst)) v) → K' (a.put ((ops[i]?).bind (·.dst)) v)) (hk : opPAt P ops i K a) : opPAt P ops i K' a := by
  unfold opPAt at hk ⊢
  cases ho : ops[i]? with
  | none => rw [ho] at hk; exact hk
  | some o =>
    rw [ho] at hk h
    dsimp only [Option.bind_some] at hk h ⊢
    cases hg : o.guard with
    | none => rw [hg] at hk; exact puK_mono h hk
    | some x =>
      obtain ⟨j, want⟩ := x
      rw [hg] at hk
      simp only [gdP] at hk ⊢
      split at hk
      · rename_i hc; rw [if_pos hc]; exact puK_mono h hk
      · rename_i hc; rw [if_neg hc]; exact h _ hk
theorem allK_all : ∀ {l : List Nat} {f : Nat → Prop}, allK l f → ∀ i ∈ l, f i
  | [], _, _, i, hi => by cases hi
  | [j], _, h, i, hi => by rw [List.mem_singleton] at hi; subst hi; exact h
  | j :: k :: r, f, h, i, hi => by
    rcases List.mem_cons.1 hi with rfl | hi
    · exact h.1
    · exact allK_all h.2 i hi
theorem allK_of : ∀ {l : List Nat} {f : Nat → Prop}, (∀ i ∈ l, f i) → allK l f
  | [], _, _ => trivial
  | [j], _, h => h j (by simp)
  | j :: k :: r, f, h => ⟨h j (by simp), allK_of fun i hi => h i (List.mem_cons_of_mem _ hi)⟩
theorem anyK_agree {P : Program} {ops : Array Oper} {Q Q' : Act → World → Prop} {W : List Nat} (a0 : Act) (hl : ∀ o x, o ∈ ops.toList → o.dst = some x → x ∈ W) (h : ∀ a w, Agree W a0 a → Q a w → Q' a w) :
    ∀ (fuel : Nat) (listed : Array Bool) (a : Act) (w : World), Agree W a0 a → anyK P ops Q fuel listed a w → anyK P ops Q' fuel listed a w := by
  have hput : ∀ (i : Nat) (a : Act) (v : Value), Agree W a0 a → Agree W a0 (a.put ((ops[i]?).bind (·.dst)) v) := fun i a v ha => by
    cases ho : ops[i]? with
    | none => exact ha
    | some o => exact ha.trans (Agree.put v fun x hx => hl o x (by obtain ⟨hi, he⟩ := Array.getElem?_eq_some_iff.1 ho; rw [← he]; simp) hx)
  intro fuel
  induction fuel with
  | zero =>
    intro listed a w ha hq
    unfold anyK at hq ⊢
    split at hq
    · exact h _ _ ha hq
    · exact hq.elim
  | succ fuel ih =>
    intro listed a w ha hq
    unfold anyK at hq ⊢
    split at hq
    · exact h _ _ ha hq
    · split at hq
      · rename_i i hf
        exact opPAt_mono (fun v hk => ih _ _ _ (hput i a v ha) hk) hq
      · exact allK_of fun i hi => opAt_mono (fun v w' hk => ih _ _ _ (hput i a v ha) hk) (allK_all hq i hi)
theorem codeK_mono {P : Program} {hs : Hints} : ∀ (c : Code) (Q Q' : Exit → Act → World → Prop) (_h : ∀ e a w, Q e a w → Q' e a w) (a : Act) (w : World), codeK P hs c Q a w → codeK P hs c Q' a w := by
  intro c
  induction c with
  | skip => intro Q Q' h a w hq; exact h _ _ _ hq
  | region id ops draw =>
    intro Q Q' h a w hq
    cases draw with
    | false => exact opsK_mono (h _) _ _ _ hq
    | true =>
      simp only [codeK, drawK] at hq ⊢
      split at hq
      · split at hq
        · rename_i hc
          rw [if_pos hc]
          exact anyK_agree (W := dsts (.region id ops true)) a (fun o x ho hx => by simp only [dsts, List.mem_filterMap]; exact ⟨o, ho, hx⟩) (fun a w _ => h _ a w) _ _ _ _ (Agree.refl _ _) hq
        · exact hq.elim
      · split at hq
        · rename_i hc
          rw [if_pos hc]
          exact opsS_mono (fun a' hq => opsK_mono (h _) _ _ _ hq) _ _ hq
        · exact hq.elim
      · split at hq
        · rename_i hc
          rw [if_pos hc]
          exact opsS_mono (fun a' hq => h _ _ _ hq) _ _ hq
        · exact hq.elim
  | seq x y ihx ihy =>
    intro Q Q' h a w hq
    refine ihx _ _ (fun e a w hq => ?_) _ _ hq
    cases e <;> first | exact ihy _ _ h _ _ hq | exact h _ _ _ hq
  | cond v x y ihx ihy =>
    intro Q Q' h a w hq
    rcases hq with ⟨hv, hq⟩ | ⟨hv, hq⟩
    · exact .inl ⟨hv, ihx _ _ h _ _ hq⟩
    · exact .inr ⟨hv, ihy _ _ h _ _ hq⟩
  | block id c ih =>
    intro Q Q' h a w hq
    refine ih _ _ (fun e a w hq => ?_) _ _ hq
    cases e <;> first | exact h _ _ _ hq | skip
    simp only [Exit.inBlock] at hq ⊢
    split at hq <;> rename_i hc
    · rw [if_pos hc]; exact h _ _ _ hq
    · rw [if_neg hc]; exact h _ _ _ hq
  | loop c ih =>
    intro Q Q' h a w hq
    obtain ⟨I, μ, h0, hr⟩ := hq
    refine ⟨I, μ, h0, fun s w' hI d => ?_⟩
    refine ih _ _ (fun e a w hq => ?_) _ _ (hr s w' hI d)
    cases e <;> first | exact hq | exact h _ _ _ hq
  | rangeFunc f params x y _ _ => intro Q Q' h a w hq; exact hq.elim
  | exit id => intro Q Q' h a w hq; exact h _ _ _ hq
  | scope c ih =>
    intro Q Q' h a w hq
    refine ih _ _ (fun e a w hq => ?_) _ _ hq
    cases e <;> first | exact h _ _ _ hq | exact hq
  | label l => intro Q Q' h a w hq; exact h _ _ _ hq
  | goto l => intro Q Q' h a w hq; exact h _ _ _ hq
  | ret => intro Q Q' h a w hq; exact h _ _ _ hq
  | refuse s => intro Q Q' h a w hq; exact hq.elim
theorem fillAt_get (W ls : List Nat) (s : List Value) (d : Nat → Value) : ∀ (l : List Value) (i k : Nat), k + i ∉ W → (fillAt W ls s d k l)[i]? = l[i]? := by
  intro l
  induction l with
  | nil => intro i k _; simp [fillAt]
  | cons v rest ih =>
    intro i k hi
    cases i with
    | zero => have hk : k ∉ W := by simpa using hi
              simp [fillAt, hk]
    | succ i => simpa [fillAt] using ih i (k + 1) (by rw [show k + 1 + i = k + (i + 1) by omega]; exact hi)
theorem fillAt_length (W ls : List Nat) (s : List Value) (d : Nat → Value) : ∀ (l : List Value) (k : Nat), (fillAt W ls s d k l).length = l.length := by
  intro l
  induction l with
  | nil => intro k; rfl
  | cons v rest ih => intro k; simp [fillAt, ih]
theorem Agree.refill (a : Act) (W ls : List Nat) (s : List Value) (d : Nat → Value) : Agree W a (refill a W ls s d) :=
  ⟨by simp [Fx.refill, fillAt_length], rfl, fun i hi => by
    have := fillAt_get W ls s d a.tmps.toList i 0 (by simpa using hi)
    simpa [Fx.refill] using this⟩
theorem codeK_agree {P : Program} {hs : Hints} : ∀ (c : Code) (W : List Nat) (a0 : Act) (Q : Exit → Act → World → Prop) (a : Act) (w : World), (∀ i, i ∈ dsts c → i ∈ W) →
    Agree W a0 a → codeK P hs c Q a w → codeK P hs c (fun e a' w' => Q e a' w' ∧ Agree W a0 a') a w := by
  intro c
  induction c with
  | skip => intro W a0 Q a w _ ha h; exact ⟨h, ha⟩
  | region id ops draw =>
    intro W a0 Q a w hW ha h
    have hl : ∀ o x, o ∈ ops.toList → o.dst = some x → x ∈ W := fun o x ho hx => hW x (by simp only [dsts, List.mem_filterMap]; exact ⟨o, ho, hx⟩)
    cases draw with
    | false => exact opsK_agree a0 _ hl a w ha h
    | true =>
      simp only [codeK, drawK] at h ⊢
      split at h
      · split at h
        · rename_i hc
          rw [if_pos hc]
          exact anyK_agree a0 hl (fun a w ha h => ⟨h, ha⟩) _ _ _ _ ha h
        · exact h.elim
      · split at h
        · rename_i hc
          rw [if_pos hc]
          refine opsS_mono (fun a' hq => ?_) _ _ (opsS_agree a0 _ (fun o x ho => hl o x (List.mem_of_mem_take ho)) a ha h)
          exact opsK_agree a0 _ (fun o x ho => hl o x (List.mem_of_mem_drop ho)) _ _ hq.2 hq.1
        · exact h.elim
      · split at h
        · rename_i hc
          rw [if_pos hc]
          exact opsS_agree a0 _ hl a ha h
        · exact h.elim
  | seq x y ihx ihy =>
    intro W a0 Q a w hW ha h
    refine codeK_mono x _ _ (fun e a' w' hq => ?_) a w (ihx W a0 _ a w (fun i hi => hW i (by simp [dsts, hi])) ha h)
    cases e <;> first | exact ihy W a0 _ _ _ (fun i hi => hW i (by simp [dsts, hi])) hq.2 hq.1 | exact hq
  | cond v x y ihx ihy =>
    intro W a0 Q a w hW ha h
    rcases h with ⟨hv, h⟩ | ⟨hv, h⟩
    · exact .inl ⟨hv, ihx W a0 _ a w (fun i hi => hW i (by simp [dsts, hi])) ha h⟩
    · exact .inr ⟨hv, ihy W a0 _ a w (fun i hi => hW i (by simp [dsts, hi])) ha h⟩
  | block id c ih =>
    intro W a0 Q a w hW ha h
    refine codeK_mono c _ _ (fun e a' w' hq => ?_) a w (ih W a0 _ a w hW ha h)
    cases e <;> first | exact hq | skip
    case exit id' =>
      simp only [Exit.inBlock] at hq ⊢
      split
      · rename_i hc; rw [if_pos hc] at hq; exact hq
      · rename_i hc; rw [if_neg hc] at hq; exact hq
  | loop c ih =>
    intro W a0 Q a w hW ha h
    obtain ⟨I, μ, h0, hr⟩ := h
    refine ⟨I, μ, h0, fun s w' hI d => ?_⟩
    refine codeK_mono c _ _ (fun e a' w' hq => ?_) _ w' (ih W a0 _ _ w' hW (ha.trans ((Agree.refill a (dsts c) _ s d).mono hW)) (hr s w' hI d))
    cases e <;> first | exact hq.1 | exact hq
  | rangeFunc f params x y _ _ => intro W a0 Q a w _ _ h; exact h.elim
  | exit id => intro W a0 Q a w _ ha h; exact ⟨h, ha⟩
  | scope c ih =>
    intro W a0 Q a w hW ha h
    refine codeK_mono c _ _ (fun e a' w' hq => ?_) a w (ih W a0 _ a w hW ha h)
    cases e <;> first | exact hq | exact hq.1
  | label l => intro W a0 Q a w _ ha h; exact ⟨h, ha⟩
  | goto l => intro W a0 Q a w _ ha h; exact ⟨h, ha⟩
  | ret => intro W a0 Q a w _ ha h; exact ⟨h, ha⟩
  | refuse s => intro W a0 Q a w _ _ h; exact h.elim

/-! ### what it says holds of the code -/
theorem wp_of_resK {P : Program} {o : Oper} {a : Act} {w : World} {K : Value → World → Prop} {next : Act → World → Prop} {Q : Exit → Act → World → Prop}
    (hn : ∀ v w, K v w → next (a.put o.dst v) w) (h : resK P K ((execOp a.eval o).run P w)) : o.wp P a w next Q := by
  unfold Oper.wp
  generalize (execOp a.eval o).run P w = r at h
  cases r with
  | halt _ _ => exact h.elim
  | ok n w' =>
    cases n <;> first | exact hn _ _ h | exact h.elim | skip
    case enter f args => exact Calls.mono h fun e w'' ⟨v, he, hk⟩ => by subst he; exact hn _ _ hk
theorem wpList_of_opsK {P : Program} {ops : Array Oper} {Q : Act → World → Prop} {Q' : Exit → Act → World → Prop} (hQ : ∀ a w, Q a w → Q' .normal a w) :
    ∀ (l : List Oper) (a : Act) (w : World), opsK P ops Q l a w → wpList P ops Q' l a w := by
  intro l
  induction l with
  | nil => intro a w h; exact hQ _ _ h
  | cons o rest ih =>
    intro a w h
    refine wpList_step fun K hK => ?_
    unfold opsK at h
    cases hg : o.guard with
    | none =>
      rw [hg] at h
      rw [if_pos (by simp [Region.wanted, hg])]
      exact wp_of_resK (fun v w' hk => hK _ _ (ih _ _ hk)) h
    | some x =>
      obtain ⟨j, want⟩ := x
      rw [hg] at h
      simp only [gdK] at h
      split at h
      · rename_i hc
        rw [if_pos (by simpa [Region.wanted, hg] using hc)]
        exact wp_of_resK (fun v w' hk => hK _ _ (ih _ _ hk)) h
      · rename_i hc
        rw [if_neg (by simpa [Region.wanted, hg] using hc)]
        exact hK _ _ (ih _ _ h)
theorem still_of_resS {P : Program} {o : Oper} {a : Act} {w : World} {K : Value → Prop} {next : Act → Prop}
    (hn : ∀ v, K v → next (a.put o.dst v)) (h : resS P w K ((execOp a.eval o).run P w)) : o.still P a w next := by
  unfold Oper.still
  generalize (execOp a.eval o).run P w = r at h
  cases r with
  | halt _ _ => exact h.elim
  | ok n w' =>
    cases n <;> first | exact ⟨h.1, hn _ h.2⟩ | exact h.elim | skip
    case enter f args => exact ⟨h.1, h.2.choose, h.2.choose_spec.1, hn _ h.2.choose_spec.2⟩
theorem wpStill_of_opsS {P : Program} {ops : Array Oper} {w : World} {Q Q' : Act → Prop} (hQ : ∀ a, Q a → Q' a) :
    ∀ (l : List Oper) (a : Act), opsS P ops w Q l a → wpStill P ops w Q' l a := by
  intro l
  induction l with
  | nil => intro a h; exact hQ _ h
  | cons o rest ih =>
    intro a h
    refine wpStill_step fun K hK => ?_
    unfold opsS at h
    cases hg : o.guard with
    | none =>
      rw [hg] at h
      rw [if_pos (by simp [Region.wanted, hg])]
      exact still_of_resS (fun v hk => hK _ (ih _ hk)) (resS_of_stK h)
    | some x =>
      obtain ⟨j, want⟩ := x
      rw [hg] at h
      simp only [gdS] at h
      split at h
      · rename_i hc
        rw [if_pos (by simpa [Region.wanted, hg] using hc)]
        exact still_of_resS (fun v hk => hK _ (ih _ hk)) (resS_of_stK h)
      · rename_i hc
        rw [if_neg (by simpa [Region.wanted, hg] using hc)]
        exact hK _ (ih _ h)
def yieldsAll (P : Program) (ops : Array Oper) (o : Oper) (v : Value) (a : Act) : Prop :=
  (Region.wanted o (yielded ops a.tmps) = true ∧ ∀ w, (execOp a.eval o).run P w = .ok (.value v) w) ∨ (Region.wanted o (yielded ops a.tmps) = false ∧ v = undef)
theorem opAt_iff {P : Program} {ops : Array Oper} {i : Nat} {o : Oper} (hi : ops[i]? = some o) {K : Act → World → Prop} {a : Act} {w : World} :
    opAt P ops i K a w ↔ if Region.wanted o (yielded ops a.tmps) then resK P (fun v w' => K (a.put o.dst v) w') ((execOp a.eval o).run P w) else K (a.put o.dst undef) w := by
  unfold opAt
  rw [hi]
  dsimp only
  cases hg : o.guard with
  | none => simp [Region.wanted, hg]
  | some x => obtain ⟨j, want⟩ := x; simp [Region.wanted, hg, gdK]
theorem yieldsAll.opAt {P : Program} {ops : Array Oper} {i : Nat} {o : Oper} {v : Value} {a : Act} {w : World} (hi : ops[i]? = some o) (hy : yieldsAll P ops o v a) {K : Act → World → Prop} (h : K (a.put o.dst v) w) : opAt P ops i K a w := by
  rw [opAt_iff hi]
  rcases hy with ⟨hw, hr⟩ | ⟨hw, rfl⟩
  · rw [if_pos hw, hr]; exact h
  · rw [if_neg (by simp [hw])]; exact h
theorem yieldsAll.of_same {P : Program} {ops : Array Oper} {o : Oper} {v : Value} {a a' : Act} (hy : yieldsAll P ops o v a) (he : execOp a'.eval o = execOp a.eval o)
    (hw : Region.wanted o (yielded ops a'.tmps) = Region.wanted o (yielded ops a.tmps)) : yieldsAll P ops o v a' := by
  unfold yieldsAll at *
  rw [he, hw]
  exact hy
theorem opAt_put {P : Program} {ops : Array Oper} {j : Nat} {oi oj : Oper} {v : Value} (hj : ops[j]? = some oj) (hap : oi.apart ops oj = true)
    (hsi : ∀ cs b, oi.op ≠ .select cs b) (hsj : ∀ cs b, oj.op ≠ .select cs b) {K : Act → World → Prop} {a : Act} {w : World}
    (hy : yieldsAll P ops oi v a) (h : opAt P ops j K (a.put oi.dst v) w) :
    opAt P ops j (fun a' w' => yieldsAll P ops oi v a' ∧ K (a'.put oi.dst v) w') a w := by
  obtain ⟨h1, h2, h3⟩ := Oper.apart_spec hap
  have keep : ∀ u, yieldsAll P ops oi v (a.put oj.dst u) := fun u =>
    hy.of_same (execOp_put oi hsi a oj.dst u h3) (wanted_put oi a oj.dst u h3)
  rw [opAt_iff hj] at h ⊢
  rw [wanted_put oj a oi.dst v h1, execOp_put oj hsj a oi.dst v h1] at h
  split at h
  · rename_i hw
    rw [if_pos hw]
    exact resK_mono (fun u w' hk => ⟨keep u, by rw [← Act.put_comm a v u h2]; exact hk⟩) h
  · rename_i hw
    rw [if_neg hw]
    exact ⟨keep _, by rw [← Act.put_comm a v undef h2]; exact h⟩
def anyAll (P : Program) (ops : Array Oper) (Q : Act → World → Prop) : Nat → Array Bool → Act → World → Prop
  | 0, listed, a, w => Region.ready .any ops listed = [] ∧ Q a w
  | fuel + 1, listed, a, w => (Region.ready .any ops listed = [] → Q a w) ∧ ∀ i ∈ Region.ready .any ops listed, opAt P ops i (anyAll P ops Q fuel (listed.setIfInBounds i true)) a w
theorem wpAny_of_anyAll {P : Program} {ops : Array Oper} {Q : Act → World → Prop} {Q' : Exit → Act → World → Prop} (hQ : ∀ a w, Q a w → Q' .normal a w) :
    ∀ (fuel : Nat) (listed : Array Bool) (a : Act) (w : World), anyAll P ops Q fuel listed a w → wpAny P .any ops Q' fuel listed a w
  | 0, _, _, _, h => ⟨h.1, hQ _ _ h.2⟩
  | fuel + 1, listed, a, w, h => ⟨fun h0 => hQ _ _ (h.1 h0), fun i hi => by
      have hh := h.2 i hi
      unfold wpOp
      cases ho : ops[i]? with
      | none => unfold opAt at hh; rw [ho] at hh; exact hh.elim
      | some o =>
        rw [opAt_iff ho] at hh
        dsimp only
        split
        · rename_i hw
          rw [if_pos hw] at hh
          exact .inl (wp_of_resK (fun v w' hk => wpAny_of_anyAll hQ fuel _ _ _ hk) hh)
        · rename_i hw
          rw [if_neg hw] at hh
          exact wpAny_of_anyAll hQ fuel _ _ _ hh⟩
theorem anyAll_first {P : Program} {ops : Array Oper} {Q : Act → World → Prop} {i : Nat} {oi : Oper} {v : Value} (hi : ops[i]? = some oi) (hsel : ∀ (j : Nat) (o : Oper) cs b, ops[j]? = some o → o.op ≠ .select cs b) :
    ∀ (fuel : Nat) (listed : Array Bool) (a : Act) (w : World),
      (∀ j oj, ops[j]? = some oj → j ≠ i → listed.getD j true = false → (∀ e ∈ oj.after, Region.binds .any e = true → e.on ≠ i) → oi.apart ops oj = true) →
      i ∈ Region.ready .any ops listed → yieldsAll P ops oi v a →
      anyAll P ops Q fuel (listed.setIfInBounds i true) (a.put oi.dst v) w → anyAll P ops Q (fuel + 1) listed a w := by
  intro fuel
  induction fuel with
  | zero =>
    intro listed a w _ hr hy H
    refine ⟨fun h => (by rw [h] at hr; cases hr), fun j hj => ?_⟩
    by_cases hji : j = i
    · subst hji; exact hy.opAt hi H
    · have := ready_mono hj hji
      rw [H.1] at this
      cases this
  | succ fuel ih =>
    intro listed a w hfree hr hy H
    refine ⟨fun h => (by rw [h] at hr; cases hr), fun j hj => ?_⟩
    by_cases hji : j = i
    · subst hji; exact hy.opAt hi H
    · have h1 := H.2 j (ready_mono hj hji)
      obtain ⟨hjun, oj, hoj, hall⟩ := mem_ready.1 hj
      have hnot : ∀ e ∈ oj.after, Region.binds .any e = true → e.on ≠ i := fun e he hb heq => by
        have h1 := hall e he hb
        have h0 := (mem_ready.1 hr).1
        rw [heq] at h1
        rcases Nat.lt_or_ge i listed.size with h' | h'
        · simp [h'] at h0 h1; rw [h0] at h1; cases h1
        · simp [Array.getElem?_eq_none h'] at h1
      have h2 := opAt_put hoj (hfree j oj hoj hji hjun hnot) (fun cs b => hsel i oi cs b hi) (fun cs b => hsel j oj cs b hoj) hy h1
      have hfree' : ∀ k ok, ops[k]? = some ok → k ≠ i → (listed.setIfInBounds j true).getD k true = false →
          (∀ e ∈ ok.after, Region.binds .any e = true → e.on ≠ i) → oi.apart ops ok = true := fun k ok hk hki hun hno => by
        refine hfree k ok hk hki ?_ hno
        by_cases hjk : j = k
        · subst hjk; exact hjun
        · rw [getD_set_ne true hjk] at hun; exact hun
      refine opAt_mono (fun v' w' h3 => ih (listed.setIfInBounds j true) _ _ hfree' (ready_mono hr (Ne.symm hji)) h3.1 ?_) h2
      rw [Array.setIfInBounds_comm _ _ hji]
      exact h3.2
theorem anyAll_of_anyK {P : Program} {ops : Array Oper} {Q : Act → World → Prop} (hs : Region.noSelect ops = true) : ∀ (fuel : Nat) (listed : Array Bool) (a : Act) (w : World), anyK P ops Q fuel listed a w → anyAll P ops Q fuel listed a w := by
  intro fuel
  induction fuel with
  | zero =>
    intro listed a w h
    unfold anyK at h
    split at h
    · rename_i hr; exact ⟨hr, h⟩
    · exact h.elim
  | succ fuel ih =>
    intro listed a w h
    unfold anyK at h
    split at h
    · rename_i hr; refine ⟨fun _ => h, fun i hi => ?_⟩
      rw [hr] at hi
      cases hi
    · rename_i i0 rest hr
      split at h
      · rename_i i hf
        have hmem : i ∈ Region.ready .any ops listed := by rw [hr]; exact List.mem_of_find?_eq_some hf
        have hp := List.find?_some hf
        simp only [pureAt, Bool.and_eq_true] at hp
        cases ho : ops[i]? with
        | none => unfold opPAt at h; rw [ho] at h; exact h.elim
        | some o =>
          have hfree := Region.free_spec ho hp.2
          have key : ∃ v, yieldsAll P ops o v a ∧ anyK P ops Q fuel (listed.setIfInBounds i true) (a.put o.dst v) w := by
            unfold opPAt at h
            rw [ho] at h
            dsimp only at h
            cases hg : o.guard with
            | none =>
              rw [hg] at h
              obtain ⟨v, hv, hk⟩ := resW_of_puK h
              exact ⟨v, .inl ⟨by simp [Region.wanted, hg], hv⟩, hk⟩
            | some x =>
              obtain ⟨j, want⟩ := x
              rw [hg] at h
              simp only [gdP] at h
              split at h
              · rename_i hc
                obtain ⟨v, hv, hk⟩ := resW_of_puK h
                exact ⟨v, .inl ⟨by simpa [Region.wanted, hg] using hc, hv⟩, hk⟩
              · rename_i hc
                exact ⟨undef, .inr ⟨by simpa [Region.wanted, hg] using hc, rfl⟩, h⟩
          obtain ⟨v, hy, hk⟩ := key
          exact anyAll_first ho (Region.noSelect_spec hs) fuel listed a w hfree hmem hy (ih _ _ _ hk)
      · refine ⟨fun h0 => (by rw [hr] at h0; cases h0), fun i hi => ?_⟩
        rw [hr] at hi
        exact opAt_mono (fun v w' hk => ih _ _ _ hk) (allK_all h i hi)
theorem refill_self {a a' : Act} {W ls : List Nat} (h : Agree W a a') : refill a W ls (live ls a') (fun i => a'.tmps.getD i undef) = a' := by
  have key : ∀ (l : List Value) (k : Nat), (∀ i, i < l.length → (k + i ∉ W → a'.tmps[k + i]? = l[i]?)) → (∀ i, i < l.length → k + i < a'.tmps.size) →
      fillAt W ls (live ls a') (fun i => a'.tmps.getD i undef) k l = (List.range l.length).map (fun i => a'.tmps.getD (k + i) undef) := by
    intro l
    induction l with
    | nil => intro k _ _; rfl
    | cons v rest ih =>
      intro k h1 h2
      simp only [fillAt, List.length_cons, List.range_succ_eq_map, List.map_cons, List.map_map, Nat.add_zero]
      congr 1
      · by_cases hk : k ∈ W
        · rw [if_pos (by simpa using hk)]
          by_cases hl : k ∈ ls
          · rw [if_pos (by simpa using hl)]
            have hi : ls.idxOf k < ls.length := List.idxOf_lt_length_of_mem hl
            simp only [live, List.getD_eq_getElem?_getD, List.getElem?_map]
            rw [List.getElem?_eq_getElem hi, List.getElem_idxOf hi]
            rfl
          · rw [if_neg (by simpa using hl)]
        · rw [if_neg (by simpa using hk)]
          have := h1 0 (by simp) (by simpa using hk)
          simp only [Nat.add_zero, List.getElem?_cons_zero] at this
          simp [Array.getD_eq_getD_getElem?, this]
      · rw [ih (k + 1)]
        · apply List.map_congr_left
          intro i _
          show a'.tmps.getD (k + 1 + i) undef = a'.tmps.getD (k + (i + 1)) undef
          rw [show k + 1 + i = k + (i + 1) by omega]
        · intro i hi hW
          have := h1 (i + 1) (by simpa using hi) (by rw [show k + (i + 1) = k + 1 + i by omega]; exact hW)
          rw [show k + 1 + i = k + (i + 1) by omega, this]
          simp
        · intro i hi
          have := h2 (i + 1) (by simpa using hi)
          omega
  have hk := key a.tmps.toList 0 (fun i _ hW => by rw [Nat.zero_add] at hW ⊢; rw [h.same i hW]; simp) (fun i hi => by rw [h.size]; simpa using hi)
  have hsz := h.size
  cases a' with
  | mk t d =>
    simp only [refill]
    rw [hk]
    congr 1
    · apply Array.ext
      · simpa using hsz.symm
      · intro i h1 h2
        simp [Array.getD, h2]
    · exact h.defers.symm
theorem code_wp {P : Program} {hs : Hints} (hm : P.follows .mixedOrders = true) : ∀ (c : Code) (Q : Exit → Act → World → Prop) (a : Act) (w : World), codeK P hs c Q a w → c.wp P Q a w := by
  intro c
  induction c with
  | skip => intro Q a w h; exact wp_skip h
  | region id ops draw =>
    intro Q a w h
    cases draw with
    | false => exact wp_region_list (wpList_of_opsK (fun _ _ h => h) _ _ _ h)
    | true =>
      simp only [codeK, drawK] at h
      split at h
      · split at h
        · rename_i hc
          exact wp_region_any hm (wpAny_of_anyAll (fun _ _ h => h) _ _ _ _ (anyAll_of_anyK hc _ _ _ _ h))
        · exact h.elim
      · rename_i t n _ _
        split at h
        · rename_i hc
          have := wp_region_still_tail (P := P) (id := id) (Q := Q) (a := a) (w := w) (l := ops.toList) n hm (by simpa using hc)
            (by
              have h2 := wpStill_of_opsS (Q' := fun a' => wpList P ops Q (ops.toList.drop n) a' w.drew) (fun a' hq => wpList_of_opsK (fun _ _ h => h) _ _ _ hq) _ _ h
              simpa using h2)
          simpa using this
        · exact h.elim
      · split at h
        · rename_i hc
          exact wp_region_still hm hc (wpStill_of_opsS (fun _ h => h) _ _ h)
        · exact h.elim
  | seq x y ihx ihy =>
    intro Q a w h
    refine wp_seq (ihx _ a w (codeK_mono x _ _ (fun e a' w' hq => ?_) a w h))
    cases e <;> first | exact ihy _ _ _ hq | exact hq
  | cond v x y ihx ihy =>
    intro Q a w h
    rcases h with ⟨hv, h⟩ | ⟨hv, h⟩
    · exact wp_cond_true hv (ihx _ _ _ h)
    · exact wp_cond_false hv (ihy _ _ _ h)
  | block id c ih => intro Q a w h; exact wp_block (ih _ _ _ h)
  | loop c ih =>
    intro Q a w h
    obtain ⟨I, μ, h0, hr⟩ := h
    refine wp_loop (fun a' w' => I (live (hs.lv (firstRegion c)) a') w' ∧ Agree (dsts c) a a') (fun a' w' => μ (live (hs.lv (firstRegion c)) a') w') ⟨h0, Agree.refl _ _⟩ ?_
    rintro a' w' ⟨hI, hA⟩
    have hb := hr _ w' hI (fun i => a'.tmps.getD i undef)
    rw [refill_self hA] at hb
    have hb2 := codeK_agree c (dsts c) a _ a' w' (fun _ h => h) hA hb
    refine ih _ _ _ (codeK_mono c _ _ (fun e a'' w'' hq => ?_) _ _ hb2)
    cases e <;> first | exact ⟨⟨hq.1.1, hq.2⟩, hq.1.2⟩ | exact hq.1
  | rangeFunc f params x y _ _ => intro Q a w h; exact h.elim
  | exit id => intro Q a w h; exact wp_exit h
  | scope c ih => intro Q a w h; exact wp_scope_straight (ih _ _ _ h)
  | label l => intro Q a w h; exact wp_label h
  | goto l => intro Q a w h; exact wp_goto h
  | ret => intro Q a w h; exact wp_ret h
  | refuse s => intro Q a w h; exact h.elim

/-! ### the same over lists of pairs: what the kernel reckons with -/
/-- 'hi p' is p; its height is above that of what an operation's run is made of: the kernel unfolds it first. -/
def hi0 (p : Prop) : Prop := (fun (_ : Program → (Value → World → Prop) → Result Next → Prop) (_ : (Operand → Value) → Oper → Sem Next) (_ : Program → Sem Next → World → Result Next) (_ : Program → World → (Value → Prop) → (Operand → Value) → Oper → Prop)
  (_ : Program → (Value → Prop) → (Operand → Value) → Oper → Prop) => p) resK execOp Sem.run stK puK
def hi1 (p : Prop) : Prop := hi0 p
def hi2 (p : Prop) : Prop := hi1 p
def hi (p : Prop) : Prop := hi2 p
theorem beq_ne {a b : Nat} (h : a ≠ b) : Nat.beq a b = false := by
  cases hx : Nat.beq a b with
  | false => rfl
  | true => exact absurd (Nat.eq_of_beq_eq_true hx) h
def look : List (Nat × Value) → Nat → Value
  | [], _ => undef
  | (k, v) :: r, t => bif Nat.beq k t then v else look r t
def evE (e : List (Nat × Value)) : Operand → Value
  | .tmp t => look e t
  | .const v => v
  | .global g => .pointer (some ⟨g, 0, none⟩)
  | .func f => .func (.func f) #[] #[]
def putE (n : Nat) (e : List (Nat × Value)) (d : Option Tmp) (v : Value) : List (Nat × Value) :=
  match d with
  | some d => bif Nat.blt d n then (d, v) :: e else e
  | none => e
def yieldedE (ops : Array Oper) (e : List (Nat × Value)) (j : Nat) : Option Bool :=
  match (ops[j]?).bind (·.dst) with
  | some d => yb (look e d)
  | none => none
structure Rep (n : Nat) (e : List (Nat × Value)) (a : Act) : Prop where
  size : a.tmps.size = n
  get : ∀ t, a.tmps.getD t undef = look e t
theorem Rep.eval {n : Nat} {e : List (Nat × Value)} {a : Act} (h : Rep n e a) : a.eval = evE e := by
  funext x
  cases x <;> first | rfl | exact h.get _
theorem Rep.yielded {n : Nat} {e : List (Nat × Value)} {a : Act} (h : Rep n e a) (ops : Array Oper) : yielded ops a.tmps = yieldedE ops e := by
  funext j
  unfold Go.yielded yieldedE
  cases (ops[j]?).bind (·.dst) with
  | none => rfl
  | some d =>
    rw [Option.bind_some]
    dsimp only
    have hg := h.get d
    rw [← hg]
    cases hd : a.tmps[d]? with
    | none => simp [Array.getD_eq_getD_getElem?, hd, yb, undef]
    | some v =>
      rw [Array.getD_eq_getD_getElem?, hd]
      cases v <;> rfl
theorem Rep.put {n : Nat} {e : List (Nat × Value)} {a : Act} (h : Rep n e a) (d : Option Tmp) (v : Value) : Rep n (putE n e d v) (a.put d v) := by
  cases d with
  | none => exact h
  | some d =>
    refine ⟨by simp [Act.put, h.size], fun t => ?_⟩
    simp only [Act.put, putE]
    by_cases hd : d < n
    · rw [show Nat.blt d n = true from by simpa [Nat.blt_eq] using hd]
      simp only [cond_true, look]
      by_cases ht : d = t
      · subst ht
        have : d < a.tmps.size := by rw [h.size]; exact hd
        simp [Array.getD_eq_getD_getElem?, this]
      · have hb : Nat.beq d t = false := beq_ne ht
        rw [hb]
        simp only [cond_false]
        rw [← h.get t]
        simp [Array.getD_eq_getD_getElem?, ht]
    · have hb : Nat.blt d n = false := by
        cases hx : Nat.blt d n with
        | false => rfl
        | true => exact absurd (Nat.blt_eq.mp hx) hd
      rw [hb]
      simp only [cond_false]
      rw [← h.get t]
      have : a.tmps.setIfInBounds d v = a.tmps := by
        have hs := h.size
        have hd' : ¬ d < a.tmps.size := by rw [hs]; exact hd
        unfold Array.setIfInBounds
        rw [dif_neg hd']
      rw [this]
def opsE (P : Program) (n : Nat) (ops : Array Oper) (Q : List (Nat × Value) → World → Prop) : List Oper → List (Nat × Value) → World → Prop
  | [], e, w => Q e w
  | o :: rest, e, w => match o.guard with
    | none => resK P (fun v w' => opsE P n ops Q rest (putE n e o.dst v) w') ((execOp (evE e) o).run P w)
    | some (j, want) => gdK (yieldedE ops e j) want (fun K => resK P K ((execOp (evE e) o).run P w)) w (fun v w' => opsE P n ops Q rest (putE n e o.dst v) w')
def opsES (P : Program) (n : Nat) (ops : Array Oper) (w : World) (Q : List (Nat × Value) → Prop) : List Oper → List (Nat × Value) → Prop
  | [], e => Q e
  | o :: rest, e => match o.guard with
    | none => stK P w (fun v => opsES P n ops w Q rest (putE n e o.dst v)) (evE e) o
    | some (j, want) => gdS (yieldedE ops e j) want (fun K => stK P w K (evE e) o) (fun v => opsES P n ops w Q rest (putE n e o.dst v))
def opAtE (P : Program) (n : Nat) (ops : Array Oper) (i : Nat) (K : List (Nat × Value) → World → Prop) (e : List (Nat × Value)) (w : World) : Prop :=
  match ops[i]? with
  | none => False
  | some o => match o.guard with
    | none => resK P (fun v w' => K (putE n e o.dst v) w') ((execOp (evE e) o).run P w)
    | some (j, want) => gdK (yieldedE ops e j) want (fun K => resK P K ((execOp (evE e) o).run P w)) w (fun v w' => K (putE n e o.dst v) w')
def opPAtE (P : Program) (n : Nat) (ops : Array Oper) (i : Nat) (K : List (Nat × Value) → Prop) (e : List (Nat × Value)) : Prop :=
  match ops[i]? with
  | none => False
  | some o => match o.guard with
    | none => puK P (fun v => K (putE n e o.dst v)) (evE e) o
    | some (j, want) => gdP (yieldedE ops e j) want (fun K => puK P K (evE e) o) (fun v => K (putE n e o.dst v))
def anyE (P : Program) (n : Nat) (ops : Array Oper) (Q : List (Nat × Value) → World → Prop) : Nat → Array Bool → List (Nat × Value) → World → Prop
  | 0, listed, e, w => match Region.ready .any ops listed with
    | [] => Q e w
    | _ => False
  | fuel + 1, listed, e, w => match Region.ready .any ops listed with
    | [] => Q e w
    | i :: rest => match (i :: rest).find? (pureAt ops listed) with
      | some i => opPAtE P n ops i (fun e' => anyE P n ops Q fuel (listed.setIfInBounds i true) e' w) e
      | none => allK (i :: rest) fun i => opAtE P n ops i (anyE P n ops Q fuel (listed.setIfInBounds i true)) e w
def drawE (P : Program) (n : Nat) (t : Option Nat) (ops : Array Oper) (Q : List (Nat × Value) → World → Prop) (e : List (Nat × Value)) (w : World) : Prop :=
  match t with
  | some 999 => if Region.noSelect ops then anyE P n ops Q ops.size (Array.replicate ops.size false) e w else False
  | some m => if Region.lexTailB .any ops m then opsES P n ops w (fun e' => opsE P n ops Q (ops.toList.drop m) e' w) (ops.toList.take m) e else False
  | none => if Region.lexB .any ops then opsES P n ops w (fun e' => Q e' w) ops.toList e else False
def liveE (ls : List Nat) (e : List (Nat × Value)) : List Value := ls.map (look e)
def refillE (n : Nat) (W ls : List Nat) (s : List Value) (d : Nat → Value) (e : List (Nat × Value)) : List (Nat × Value) :=
  (W.filter (fun i => Nat.blt i n)).map (fun i => (i, if ls.contains i then s.getD (ls.idxOf i) undef else d i)) ++ e
def thenE (next : List (Nat × Value) → World → Prop) (Q : Exit → List (Nat × Value) → World → Prop) : Exit → List (Nat × Value) → World → Prop
  | .normal, e, w => hi (next e w)
  | x, e, w => hi (Q x e w)
def inBlockE (id : Nat) (Q : Exit → List (Nat × Value) → World → Prop) : Exit → List (Nat × Value) → World → Prop
  | .exit id', e, w => hi (bif Nat.beq id' id then Q .normal e w else Q (.exit id') e w)
  | x, e, w => hi (Q x e w)
def noGotoE (Q : Exit → List (Nat × Value) → World → Prop) : Exit → List (Nat × Value) → World → Prop
  | .goto _, _, _ => False
  | x, e, w => hi (Q x e w)
def codeE (P : Program) (hs : Hints) (n : Nat) : Code → (Exit → List (Nat × Value) → World → Prop) → List (Nat × Value) → World → Prop
  | .skip, Q, e, w => Q .normal e w
  | .region _ ops false, Q, e, w => opsE P n ops (Q .normal) ops.toList e w
  | .region id ops true, Q, e, w => drawE P n (hs.tail id) ops (Q .normal) e w.drew
  | .seq x y, Q, e, w => match hs.jn (firstRegion y) with
    | none => codeE P hs n x (thenE (codeE P hs n y Q) Q) e w
    | some ls => joinL (fun J => codeE P hs n x (thenE (fun e' w' => J (liveE ls e') w') Q) e w) (fun s w' => ∀ d : Nat → Value, codeE P hs n y Q (refillE n (dsts x) ls s d e) w')
  | .cond c x y, Q, e, w => condK (evE e c) (codeE P hs n x Q e w) (codeE P hs n y Q e w)
  | .block id c, Q, e, w => codeE P hs n c (inBlockE id Q) e w
  | .loop c, Q, e, w => loopT (fun R s w' => ∀ d : Nat → Value, codeE P hs n c (thenE (fun e'' w'' => R (liveE (hs.lv (firstRegion c)) e'') w'') Q) (refillE n (dsts c) (hs.lv (firstRegion c)) s d e) w') (liveE (hs.lv (firstRegion c)) e) w
  | .exit id, Q, e, w => Q (.exit id) e w
  | .scope c, Q, e, w => codeE P hs n c (noGotoE Q) e w
  | .label _, Q, e, w => Q .normal e w
  | .goto l, Q, e, w => Q (.goto l) e w
  | .ret, Q, e, w => Q .ret e w
  | _, _, _, _ => False
theorem opsK_of_E {P : Program} {n : Nat} {ops : Array Oper} {Q : Act → World → Prop} {QE : List (Nat × Value) → World → Prop} (hQ : ∀ e a w, Rep n e a → QE e w → Q a w) :
    ∀ (l : List Oper) (e : List (Nat × Value)) (a : Act) (w : World), Rep n e a → opsE P n ops QE l e w → opsK P ops Q l a w := by
  intro l
  induction l with
  | nil => intro e a w hr h; exact hQ _ _ _ hr h
  | cons o rest ih =>
    intro e a w hr h
    unfold opsE at h
    unfold opsK
    rw [hr.eval, hr.yielded]
    cases hg : o.guard with
    | none => rw [hg] at h; exact resK_mono (fun v w' hk => ih _ _ _ (hr.put _ v) hk) h
    | some x =>
      obtain ⟨j, want⟩ := x
      rw [hg] at h
      simp only [gdK] at h ⊢
      split at h
      · rename_i hc; rw [if_pos hc]; exact resK_mono (fun v w' hk => ih _ _ _ (hr.put _ v) hk) h
      · rename_i hc; rw [if_neg hc]; exact ih _ _ _ (hr.put _ _) h
theorem opsS_of_E {P : Program} {n : Nat} {ops : Array Oper} {w : World} {Q : Act → Prop} {QE : List (Nat × Value) → Prop} (hQ : ∀ e a, Rep n e a → QE e → Q a) :
    ∀ (l : List Oper) (e : List (Nat × Value)) (a : Act), Rep n e a → opsES P n ops w QE l e → opsS P ops w Q l a := by
  intro l
  induction l with
  | nil => intro e a hr h; exact hQ _ _ hr h
  | cons o rest ih =>
    intro e a hr h
    unfold opsES at h
    unfold opsS
    rw [hr.eval, hr.yielded]
    cases hg : o.guard with
    | none => rw [hg] at h; exact stK_mono (fun v hk => ih _ _ (hr.put _ v) hk) h
    | some x =>
      obtain ⟨j, want⟩ := x
      rw [hg] at h
      simp only [gdS] at h ⊢
      split at h
      · rename_i hc; rw [if_pos hc]; exact stK_mono (fun v hk => ih _ _ (hr.put _ v) hk) h
      · rename_i hc; rw [if_neg hc]; exact ih _ _ (hr.put _ _) h
theorem opAt_of_E {P : Program} {n : Nat} {ops : Array Oper} {i : Nat} {K : Act → World → Prop} {KE : List (Nat × Value) → World → Prop} (hK : ∀ e a w, Rep n e a → KE e w → K a w)
    {e : List (Nat × Value)} {a : Act} {w : World} (hr : Rep n e a) (h : opAtE P n ops i KE e w) : opAt P ops i K a w := by
  unfold opAtE at h
  unfold opAt
  rw [hr.eval, hr.yielded]
  cases ho : ops[i]? with
  | none => rw [ho] at h; exact h
  | some o =>
    rw [ho] at h
    dsimp only at h ⊢
    cases hg : o.guard with
    | none => rw [hg] at h; exact resK_mono (fun v w' hk => hK _ _ _ (hr.put _ v) hk) h
    | some x =>
      obtain ⟨j, want⟩ := x
      rw [hg] at h
      simp only [gdK] at h ⊢
      split at h
      · rename_i hc; rw [if_pos hc]; exact resK_mono (fun v w' hk => hK _ _ _ (hr.put _ v) hk) h
      · rename_i hc; rw [if_neg hc]; exact hK _ _ _ (hr.put _ _) h
theorem opPAt_of_E {P : Program} {n : Nat} {ops : Array Oper} {i : Nat} {K : Act → Prop} {KE : List (Nat × Value) → Prop} (hK : ∀ e a, Rep n e a → KE e → K a)
    {e : List (Nat × Value)} {a : Act} (hr : Rep n e a) (h : opPAtE P n ops i KE e) : opPAt P ops i K a := by
  unfold opPAtE at h
  unfold opPAt
  rw [hr.eval, hr.yielded]
  cases ho : ops[i]? with
  | none => rw [ho] at h; exact h
  | some o =>
    rw [ho] at h
    dsimp only at h ⊢
    cases hg : o.guard with
    | none => rw [hg] at h; exact puK_mono (fun v hk => hK _ _ (hr.put _ v) hk) h
    | some x =>
      obtain ⟨j, want⟩ := x
      rw [hg] at h
      simp only [gdP] at h ⊢
      split at h
      · rename_i hc; rw [if_pos hc]; exact puK_mono (fun v hk => hK _ _ (hr.put _ v) hk) h
      · rename_i hc; rw [if_neg hc]; exact hK _ _ (hr.put _ _) h
theorem anyK_of_E {P : Program} {n : Nat} {ops : Array Oper} {Q : Act → World → Prop} {QE : List (Nat × Value) → World → Prop} (hQ : ∀ e a w, Rep n e a → QE e w → Q a w) :
    ∀ (fuel : Nat) (listed : Array Bool) (e : List (Nat × Value)) (a : Act) (w : World), Rep n e a → anyE P n ops QE fuel listed e w → anyK P ops Q fuel listed a w := by
  intro fuel
  induction fuel with
  | zero =>
    intro listed e a w hr h
    unfold anyE at h
    unfold anyK
    split at h
    · exact hQ _ _ _ hr h
    · exact h.elim
  | succ fuel ih =>
    intro listed e a w hr h
    unfold anyE at h
    unfold anyK
    split at h
    · exact hQ _ _ _ hr h
    · split at h
      · exact opPAt_of_E (fun e a hr hk => ih _ _ _ _ hr hk) hr h
      · exact allK_of fun i hi => opAt_of_E (K := anyK P ops Q fuel (listed.setIfInBounds i true)) (fun e a w hr hk => ih _ e a w hr hk) hr (allK_all h i hi)
theorem fillAt_getD (W ls : List Nat) (s : List Value) (d : Nat → Value) : ∀ (l : List Value) (i k : Nat), i < l.length → (fillAt W ls s d k l)[i]? =
    some (if W.contains (k + i) then (if ls.contains (k + i) then s.getD (ls.idxOf (k + i)) undef else d (k + i)) else (l[i]?).getD undef) := by
  intro l
  induction l with
  | nil => intro i k hi; simp at hi
  | cons v rest ih =>
    intro i k hi
    cases i with
    | zero => simp [fillAt]
    | succ i =>
      have := ih i (k + 1) (by simpa using hi)
      rw [show k + 1 + i = k + (i + 1) by omega] at this
      simpa [fillAt] using this
theorem look_refill (f : Nat → Value) : ∀ (W : List Nat) (e : List (Nat × Value)) (t : Nat), look (W.map (fun i => (i, f i)) ++ e) t = if t ∈ W then f t else look e t := by
  intro W
  induction W with
  | nil => intro e t; simp
  | cons i W ih =>
    intro e t
    simp only [List.map_cons, List.cons_append, look]
    by_cases h : i = t
    · subst h; simp
    · have hb : Nat.beq i t = false := beq_ne h
      rw [hb, cond_false, ih]
      have : (t ∈ i :: W) ↔ t ∈ W := by simp [Ne.symm h]
      simp only [this]
theorem Rep.refill {n : Nat} {e : List (Nat × Value)} {a : Act} (h : Rep n e a) (W ls : List Nat) (s : List Value) (d : Nat → Value) : Rep n (refillE n W ls s d e) (Fx.refill a W ls s d) := by
  refine ⟨by simp [Fx.refill, fillAt_length, h.size], fun t => ?_⟩
  unfold refillE
  rw [look_refill (fun i => if ls.contains i then s.getD (ls.idxOf i) undef else d i)]
  simp only [Fx.refill, Array.getD_eq_getD_getElem?, List.getElem?_toArray]
  by_cases ht : t < n
  · rw [fillAt_getD W ls s d a.tmps.toList t 0 (by simpa [h.size] using ht)]
    simp only [Nat.zero_add, Option.getD_some]
    by_cases hW : t ∈ W
    · rw [if_pos (by simpa using hW)]
      have hm : t ∈ List.filter (fun i => Nat.blt i n) W := List.mem_filter.2 ⟨hW, Nat.blt_eq.mpr ht⟩
      rw [if_pos hm]
    · have hm : ¬ t ∈ List.filter (fun i => Nat.blt i n) W := fun hc => hW (List.mem_filter.1 hc).1
      rw [if_neg (by simpa using hW), if_neg hm]
      rw [← h.get t, Array.getD_eq_getD_getElem?]
      simp
  · have h1 : (fillAt W ls s d 0 a.tmps.toList)[t]? = none := by
      apply List.getElem?_eq_none
      rw [fillAt_length]
      simp [h.size]; omega
    have hm : ¬ t ∈ List.filter (fun i => Nat.blt i n) W := fun hc => ht (Nat.blt_eq.mp (List.mem_filter.1 hc).2)
    rw [h1, if_neg hm, ← h.get t, Array.getD_eq_getD_getElem?, Array.getElem?_eq_none (by rw [h.size]; omega)]
theorem Rep.live {n : Nat} {e : List (Nat × Value)} {a : Act} (h : Rep n e a) (ls : List Nat) : Fx.live ls a = liveE ls e := by
  unfold Fx.live liveE
  exact List.map_congr_left fun i _ => h.get i
theorem Rep.again {n : Nat} {e e' : List (Nat × Value)} {a a' : Act} {W ls : List Nat} (h : Rep n e a) (h' : Rep n e' a') (hA : Agree W a a') : Rep n (refillE n W ls (liveE ls e') (look e') e) a' := by
  have h1 := h.refill W ls (liveE ls e') (look e')
  have h2 : look e' = fun i => a'.tmps.getD i undef := funext fun i => (h'.get i).symm
  rw [← h'.live ls, h2, refill_self hA] at h1
  rw [← h'.live ls, h2]
  exact h1
theorem codeK_of_E {P : Program} {hs : Hints} {n : Nat} : ∀ (c : Code) (Q : Exit → Act → World → Prop) (QE : Exit → List (Nat × Value) → World → Prop) (_hQ : ∀ x e a w, Rep n e a → QE x e w → Q x a w)
    (e : List (Nat × Value)) (a : Act) (w : World), Rep n e a → codeE P hs n c QE e w → codeK P hs c Q a w := by
  intro c
  induction c with
  | skip => intro Q QE hQ e a w hr h; exact hQ _ _ _ _ hr h
  | region id ops draw =>
    intro Q QE hQ e a w hr h
    cases draw with
    | false => exact opsK_of_E (hQ _) _ _ _ _ hr h
    | true =>
      simp only [codeE, drawE] at h
      simp only [codeK, drawK]
      split at h
      · split at h
        · rename_i hc; rw [if_pos hc]; exact anyK_of_E (hQ _) _ _ _ _ _ hr h
        · exact h.elim
      · split at h
        · rename_i hc; rw [if_pos hc]; exact opsS_of_E (fun e a hr h => opsK_of_E (hQ _) _ _ _ _ hr h) _ _ _ hr h
        · exact h.elim
      · split at h
        · rename_i hc; rw [if_pos hc]; exact opsS_of_E (fun e a hr h => hQ _ _ _ _ hr h) _ _ _ hr h
        · exact h.elim
  | seq x y ihx ihy =>
    intro Q QE hQ e a w hr h
    simp only [codeE] at h
    split at h
    · refine ihx _ _ (fun x e a w hr h => ?_) _ _ _ hr h
      cases x <;> first | exact ihy _ _ hQ _ _ _ hr h | exact hQ _ _ _ _ hr h
    · rename_i ls _
      have h1 := ihx (fun x' a' w' => ∃ e', Rep n e' a' ∧ thenE (fun e' w' => ∀ d : Nat → Value, codeE P hs n y QE (refillE n (dsts x) ls (liveE ls e') d e) w') QE x' e' w') _ (fun x' e' a' w' hr' h' => ⟨e', hr', h'⟩) e a w hr h
      refine codeK_mono x _ _ ?_ _ _ (codeK_agree x (dsts x) a _ a w (fun _ h => h) (Agree.refl _ _) h1)
      rintro x' a' w' ⟨⟨e', hr', h'⟩, hA⟩
      cases x' <;> first | exact ihy _ _ hQ _ _ _ (hr.again hr' hA) (h' (look e')) | exact hQ _ _ _ _ hr' h'
  | cond v x y ihx ihy =>
    intro Q QE hQ e a w hr h
    simp only [codeE, condK] at h
    simp only [codeK, condK, hr.eval]
    rcases h with ⟨hv, h⟩ | ⟨hv, h⟩
    · exact .inl ⟨hv, ihx _ _ hQ _ _ _ hr h⟩
    · exact .inr ⟨hv, ihy _ _ hQ _ _ _ hr h⟩
  | block id c ih =>
    intro Q QE hQ e a w hr h
    refine ih _ _ (fun x e a w hr h => ?_) _ _ _ hr h
    cases x <;> first | exact hQ _ _ _ _ hr h | skip
    case exit id' =>
      simp only [Exit.inBlock]
      simp only [inBlockE] at h
      by_cases hc : id' = id
      · rw [if_pos hc]; subst hc; simp at h; exact hQ _ _ _ _ hr h
      · have hb : Nat.beq id' id = false := beq_ne hc
        rw [if_neg hc]; rw [hb] at h; exact hQ _ _ _ _ hr h
  | loop c ih =>
    intro Q QE hQ e a w hr h
    obtain ⟨I, μ, h0, hrd⟩ := h
    refine ⟨I, μ, by rw [hr.live]; exact h0, fun s w' hI d => ?_⟩
    refine ih _ _ (fun x e a w hr h => ?_) _ _ _ (hr.refill _ _ s d) (hrd s w' hI d)
    cases x <;> first | (simp only [Exit.then, hr.live]; exact h) | exact hQ _ _ _ _ hr h
  | rangeFunc f params x y _ _ => intro Q QE hQ e a w hr h; exact h.elim
  | exit id => intro Q QE hQ e a w hr h; exact hQ _ _ _ _ hr h
  | scope c ih =>
    intro Q QE hQ e a w hr h
    refine ih _ _ (fun x e a w hr h => ?_) _ _ _ hr h
    cases x <;> first | exact hQ _ _ _ _ hr h | exact h
  | label l => intro Q QE hQ e a w hr h; exact hQ _ _ _ _ hr h
  | goto l => intro Q QE hQ e a w hr h; exact hQ _ _ _ _ hr h
  | ret => intro Q QE hQ e a w hr h; exact hQ _ _ _ _ hr h
  | refuse s => intro Q QE hQ e a w hr h; exact h.elim

/-! ### a function -/
def resV {α : Type} (K : α → World → Prop) (r : Result α) (_ : Tag K := ()) : Prop :=
  match r with
  | .ok v w' => K v w'
  | _ => False
def resQ {α : Type} (w : World) (K : α → Prop) (r : Result α) (_ : Tag K := ()) : Prop :=
  match r with
  | .ok v w' => w' = w ∧ K v
  | _ => False
def tupleK (K : Value → World → Prop) (w : World) : List Value → Prop
  | [v] => K v w
  | vs => K (.tuple vs.toArray) w
def retsK (P : Program) (tmps : Array Value) (w : World) (K : Value → World → Prop) : List ResultVar → List Value → Prop
  | [], acc => tupleK K w acc
  | .tmp t :: rs, acc => retsK P tmps w K rs (acc ++ [tmps.getD t undef])
  | .cell t ty :: rs, acc => resQ w (fun v => retsK P tmps w K rs (acc ++ [v])) ((do loadVar ty (← asAddr (tmps.getD t undef)) : Sem Value).run P w)
def retQ (P : Program) (fn : Func) (K : Value → World → Prop) : Exit → Act → World → Prop
  | .normal, a, w | .ret, a, w => retsK P a.tmps w K fn.results.toList []
  | _, _, _ => False
def funK (P : Program) (hs : Hints) (fn : Func) (args : List Value) (w : World) (K : Value → World → Prop) : Prop :=
  match fn.body with
  | some c => codeK P hs c (retQ P fn K) ⟨(args ++ List.replicate (fn.ntmps - args.length) undef).toArray, []⟩ w
  | none => False
/-- a call: it returns, and what it returns is so. -/
def callsK (P : Program) (f : FuncId) (args : Array Value) (w : World) (K : Value → World → Prop) (_ : Tag K := ()) : Prop :=
  Calls P f args w fun e w' => ∃ v, e = .returned v ∧ K v w'
def resVar (tmps : Array Value) : ResultVar → Sem Value
  | .tmp t => pure (tmps.getD t undef)
  | .cell a t => do loadVar t (← asAddr (tmps.getD a undef))
theorem results_eq (fn : Func) (tmps : Array Value) : results fn tmps = (do let vs ← fn.results.mapM (resVar tmps); pure (if h : vs.size = 1 then vs[0] else .tuple vs)) := by
  unfold results
  congr 1
theorem rets_run {P : Program} {tmps : Array Value} {w : World} {K : Value → World → Prop} : ∀ (rs : List ResultVar) (acc : List Value), retsK P tmps w K rs acc →
    ∃ vs : List Value, (rs.mapM (resVar tmps)).run P w = .ok vs w ∧ tupleK K w (acc ++ vs) := by
  intro rs
  induction rs with
  | nil => intro acc h; exact ⟨[], by simp, by simpa [retsK] using h⟩
  | cons r rs ih =>
    intro acc h
    cases r with
    | tmp t =>
      obtain ⟨vs, h1, h2⟩ := ih _ h
      refine ⟨tmps.getD t undef :: vs, ?_, by simpa using h2⟩
      rw [List.mapM_cons, Sem.run_bind]
      simp only [resVar, Sem.run_pure, Result.andThen_ok, Sem.run_bind, h1]
    | cell a t =>
      simp only [retsK] at h
      generalize hr : ((do loadVar t (← asAddr (tmps.getD a undef)) : Sem Value).run P w) = r at h
      cases r with
      | halt _ _ => exact h.elim
      | ok v w' =>
        obtain ⟨hw, hk⟩ := h
        rw [hw] at hr
        obtain ⟨vs, h1, h2⟩ := ih _ hk
        refine ⟨v :: vs, ?_, by simpa using h2⟩
        rw [List.mapM_cons, Sem.run_bind]
        simp only [resVar]
        rw [hr]
        simp only [Sem.run_pure, Result.andThen_ok, Sem.run_bind, h1]
theorem results_run {P : Program} {fn : Func} {tmps : Array Value} {w : World} {K : Value → World → Prop} (h : retsK P tmps w K fn.results.toList []) :
    ∃ v, (results fn tmps).run P w = .ok v w ∧ K v w := by
  obtain ⟨vs, h1, h2⟩ := rets_run _ _ h
  rw [List.nil_append] at h2
  refine ⟨if h : vs.toArray.size = 1 then vs.toArray[0] else .tuple vs.toArray, ?_, ?_⟩
  · rw [results_eq, Array.mapM_eq_mapM_toList]
    rw [Sem.run_bind, Sem.run_map, h1]
    rfl
  · match vs, h2 with
    | [], h2 => exact h2
    | [v], h2 => exact h2
    | v :: u :: r, h2 =>
      have : ¬ (v :: u :: r).toArray.size = 1 := by simp
      rw [dif_neg this]; exact h2
theorem calls_of_funK {P : Program} {hs : Hints} {f : FuncId} {fn : Func} {args : List Value} {w : World} {K : Value → World → Prop} (hm : P.follows .mixedOrders = true)
    (hf : P.funcs[f]? = some fn) (h : funK P hs fn args w K) : callsK P f args.toArray w K := by
  unfold funK at h
  split at h
  · rename_i c hb
    refine calls_of_wp hf hb ?_
    have e : (⟨args.toArray ++ Array.replicate (fn.ntmps - args.toArray.size) undef, []⟩ : Act) = ⟨(args ++ List.replicate (fn.ntmps - args.length) undef).toArray, []⟩ := by simp
    rw [e]
    refine wp_mono (code_wp hm _ _ _ _ (codeK_agree c (dsts c) _ _ _ w (fun _ h => h) (Agree.refl _ _) h)) ?_
    rintro e a' w' ⟨hq, hA⟩
    have hd : a'.defers = [] := hA.defers
    cases e <;> first | exact hq.elim | skip
    all_goals
      obtain ⟨v, hr, hk⟩ := results_run hq
      exact ⟨hd, v, hr, v, rfl, hk⟩
  · exact h.elim
def retsE (P : Program) (e : List (Nat × Value)) (w : World) (K : Value → World → Prop) : List ResultVar → List Value → Prop
  | [], acc => tupleK K w acc
  | .tmp t :: rs, acc => retsE P e w K rs (acc ++ [look e t])
  | .cell t ty :: rs, acc => resQ w (fun v => retsE P e w K rs (acc ++ [v])) ((do loadVar ty (← asAddr (look e t)) : Sem Value).run P w)
def retE (P : Program) (fn : Func) (K : Value → World → Prop) : Exit → List (Nat × Value) → World → Prop
  | .normal, e, w | .ret, e, w => retsE P e w K fn.results.toList []
  | _, _, _ => False
def argsE : Nat → List Value → List (Nat × Value)
  | _, [] => []
  | i, v :: r => (i, v) :: argsE (i + 1) r
/-- what a call of a function comes to. -/
def funE (P : Program) (hs : Hints) (fn : Func) (args : List Value) (w : World) (K : Value → World → Prop) : Prop :=
  match fn.body with
  | some c => if args.length ≤ fn.ntmps then codeE P hs fn.ntmps c (retE P fn K) (argsE 0 args) w else False
  | none => False
theorem rets_of_E {P : Program} {n : Nat} {e : List (Nat × Value)} {a : Act} {w : World} {K : Value → World → Prop} (hr : Rep n e a) : ∀ (rs : List ResultVar) (acc : List Value), retsE P e w K rs acc → retsK P a.tmps w K rs acc := by
  intro rs
  induction rs with
  | nil => intro acc h; exact h
  | cons r rs ih =>
    intro acc h
    cases r with
    | tmp t => simp only [retsE] at h; simp only [retsK, hr.get]; exact ih _ h
    | cell t ty =>
      simp only [retsE] at h
      simp only [retsK, hr.get]
      generalize (do loadVar ty (← asAddr (look e t)) : Sem Value).run P w = r at h
      cases r with
      | ok v w' => exact ⟨h.1, ih _ h.2⟩
      | halt x w' => exact h.elim
theorem look_args : ∀ (l : List Value) (k t : Nat), look (argsE k l) t = if k ≤ t then (l[t - k]?).getD undef else undef := by
  intro l
  induction l with
  | nil => intro k t; simp [argsE, look]
  | cons v r ih =>
    intro k t
    simp only [argsE, look]
    by_cases h : k = t
    · subst h; simp
    · have hb : Nat.beq k t = false := beq_ne h
      rw [hb, cond_false, ih]
      by_cases h2 : k ≤ t
      · rw [if_pos (by omega), if_pos h2, show t - k = (t - (k + 1)) + 1 by omega]; simp
      · rw [if_neg (by omega), if_neg h2]
theorem funK_of_E {P : Program} {hs : Hints} {fn : Func} {args : List Value} {w : World} {K : Value → World → Prop} (h : funE P hs fn args w K) : funK P hs fn args w K := by
  unfold funE at h
  unfold funK
  split at h
  · split at h
    · rename_i hn
      refine codeK_of_E _ _ _ (fun x e a w hr h => ?_) _ _ _ ⟨?_, fun t => ?_⟩ h
      · cases x <;> first | exact rets_of_E hr _ _ h | exact h.elim
      · simp; omega
      · rw [look_args, if_pos (Nat.zero_le _)]
        simp only [Array.getD_eq_getD_getElem?, List.getElem?_toArray, Nat.sub_zero]
        by_cases ht : t < args.length
        · rw [List.getElem?_append_left ht]
        · rw [List.getElem?_append_right (by omega), List.getElem?_eq_none (l := args) (by omega)]
          simp only [List.getElem?_replicate]
          split <;> rfl
    · exact h.elim
  · exact h.elim
theorem calls_of_eq {P : Program} {hs : Hints} {f : FuncId} {fn : Func} {args : List Value} {w : World} {K : Value → World → Prop} {F : Prop} (hm : P.follows .mixedOrders = true)
    (hf : P.funcs[f]? = some fn) (he : funE P hs fn args w K = F) (h : F) : callsK P f args.toArray w K := calls_of_funK hm hf (funK_of_E (he.mpr h))
theorem callsK_mono {P : Program} {f : FuncId} {args : Array Value} {w : World} {K K' : Value → World → Prop} (h : callsK P f args w K) (hk : ∀ v w', K v w' → K' v w') : callsK P f args w K' :=
  Calls.mono h fun _ _ ⟨v, he, h⟩ => ⟨v, he, hk _ _ h⟩
end Go.Fx
namespace Go.Fx
/-! ### one operation, by its values -/
def vN (s : Sem Value) : Sem Next := do pure (.value (← s))
def uN (s : Sem Unit) : Sem Next := do s; pure .skip
def kV (P : Program) (s : Sem Value) (w : World) (K : Value → World → Prop) (_ : Tag K := ()) : Prop := resK P K ((vN s).run P w)
def kU (P : Program) (s : Sem Unit) (w : World) (K : Value → World → Prop) (_ : Tag K := ()) : Prop := resK P K ((uN s).run P w)
def kN (P : Program) (s : Sem Next) (w : World) (K : Value → World → Prop) (_ : Tag K := ()) : Prop := resK P K (s.run P w)
def sV (P : Program) (s : Sem Value) (w : World) (K : Value → Prop) (_ : Tag K := ()) : Prop := resS P w K ((vN s).run P w)
def sU (P : Program) (s : Sem Unit) (w : World) (K : Value → Prop) (_ : Tag K := ()) : Prop := resS P w K ((uN s).run P w)
def sN (P : Program) (s : Sem Next) (w : World) (K : Value → Prop) (_ : Tag K := ()) : Prop := resS P w K (s.run P w)
def callN (f : Value) (args : Array Value) : Sem Next := do let d ← Deferred.ofValue f args; invoke d.target d.args
def nilN (v : Value) : Sem Next := execOp (fun _ => v) ⟨none, .nilCheck (.tmp 0), 0, "", #[], none⟩
def pickN (c a b : Value) : Sem Next := do pure (.value (if ← asBool c then a else b))
def binV (op : BinOp) (t : TypeId) (x y : Operand) (a b : Value) : Sem Value := do eqGuard op t x y a b; binOp op t a b
def drewK (G : World → Prop) (w : World) (_ : Tag G := ()) : Prop := hi (G w.drew)
theorem drewK_eq {G : World → Prop} {w : World} : drewK G w = G w.drew := rfl
def retV (P : Program) (t : TypeId) (a : Value) (w : World) (K : Value → Prop) (_ : Tag K := ()) : Prop := resQ w K ((do loadVar t (← asAddr a) : Sem Value).run P w)
theorem retV_eq {P : Program} {t : TypeId} {a : Addr} {w : World} {K : Value → Prop} : retV P t (.pointer (some a)) w K = resQ w K ((loadVar t a).run P w) := rfl
def joinK {ρ : Type} (G : ρ → Prop) (rest : ρ) (_ : Tag (G rest) := ()) : Prop := hi (G rest)
theorem joinK.intro {ρ : Type} {G : ρ → Prop} {rest : ρ} (h : G rest) : joinK G rest := h
theorem joinK.to0 {G : (World → Prop) → Prop} {rest : World → Prop} (w : World) (hG : ∀ J : World → Prop, J w → G J) (h : rest w) : joinK G rest := hG _ h
theorem joinK.to1 {G : (Value → World → Prop) → Prop} {rest : Value → World → Prop} (a : Value) (w : World) (hG : ∀ J : Value → World → Prop, J a w → G J) (h : rest a w) : joinK G rest := hG _ h
theorem joinK.to2 {G : (Value → Value → World → Prop) → Prop} {rest : Value → Value → World → Prop} (a b : Value) (w : World) (hG : ∀ J : Value → Value → World → Prop, J a b w → G J) (h : rest a b w) : joinK G rest := hG _ h
theorem joinK.to3 {G : (Value → Value → Value → World → Prop) → Prop} {rest : Value → Value → Value → World → Prop} (a b c : Value) (w : World) (hG : ∀ J : Value → Value → Value → World → Prop, J a b c w → G J) (h : rest a b c w) : joinK G rest := hG _ h
theorem joinK.to1s {G : (Value → Prop) → Prop} {rest : Value → Prop} (a : Value) (hG : ∀ J : Value → Prop, J a → G J) (h : rest a) : joinK G rest := hG _ h

def pV (P : Program) (s : Sem Value) (K : Value → Prop) (_ : Tag K := ()) : Prop := resW K (fun w => (vN s).run P w)
def pN (P : Program) (s : Sem Next) (K : Value → Prop) (_ : Tag K := ()) : Prop := resW K (fun w => s.run P w)
theorem pV_intro {P : Program} {s : Sem Value} {K : Value → Prop} (v : Value) (h : ∀ w, s.run P w = .ok v w) (hk : K v) : pV P s K := ⟨v, fun w => (by show (vN s).run P w = _; unfold vN; rw [Sem.run_bind, h]; rfl), hk⟩
def resPV (K : Value → Prop) (r : World → Result Value) (_ : Tag K := ()) : Prop := ∃ v, (∀ w, r w = .ok v w) ∧ K v
theorem pV_eq {P : Program} {s : Sem Value} {K : Value → Prop} : pV P s K = resPV K (fun w => s.run P w) := by
  apply propext
  constructor
  · rintro ⟨v, h, hk⟩
    refine ⟨v, fun w => ?_, hk⟩
    have this : (vN s).run P w = _ := h w
    unfold vN at this
    rw [Sem.run_bind] at this
    cases hr : s.run P w with
    | ok u w' =>
      rw [hr] at this
      simp only [Result.andThen_ok, Sem.run_pure, Result.ok.injEq, Next.value.injEq] at this
      show s.run P w = _
      rw [hr, this.1, this.2]
    | halt x w' => rw [hr] at this; cases this
  · rintro ⟨v, h, hk⟩
    exact pV_intro v h hk
theorem resPV_ok {K : Value → Prop} {v : Value} : resPV K (fun w => .ok v w) = K v := by
  apply propext
  constructor
  · rintro ⟨u, h, hk⟩
    have := h default
    simp only [Result.ok.injEq, and_true] at this
    rw [this]; exact hk
  · intro h; exact ⟨v, fun _ => rfl, h⟩
theorem pN_pick {P : Program} {c : Bool} {a b : Value} {K : Value → Prop} (h : K (if c then a else b)) : pN P (pickN (.bool c) a b) K := by
  cases c
  · exact ⟨_, fun _ => rfl, h⟩
  · exact ⟨_, fun _ => rfl, h⟩
theorem pN_nil {P : Program} {a : Addr} {K : Value → Prop} (h : K (.pointer (some a))) : pN P (nilN (.pointer (some a))) K := ⟨_, fun _ => rfl, h⟩
theorem gdP_yes {want : Bool} {A : (Value → Prop) → Prop} {K : Value → Prop} : gdP (yb (.bool want)) want A K = A K := by simp [gdP, yb]
theorem gdP_no1 {A : (Value → Prop) → Prop} {K : Value → Prop} : gdP (yb (.bool false)) true A K = K undef := by simp [gdP, yb]
theorem gdP_no2 {A : (Value → Prop) → Prop} {K : Value → Prop} : gdP (yb (.bool true)) false A K = K undef := by simp [gdP, yb]
theorem kV_eq {P : Program} {s : Sem Value} {w : World} {K : Value → World → Prop} : kV P s w K = resV K (s.run P w) := by
  unfold kV vN
  rw [Sem.run_bind]
  generalize s.run P w = r
  cases r <;> rfl
theorem kU_eq {P : Program} {s : Sem Unit} {w : World} {K : Value → World → Prop} : kU P s w K = resV (fun _ w' => K undef w') (s.run P w) := by
  unfold kU uN
  rw [Sem.run_bind]
  generalize s.run P w = r
  cases r <;> rfl
theorem sV_eq {P : Program} {s : Sem Value} {w : World} {K : Value → Prop} : sV P s w K = resQ w K (s.run P w) := by
  unfold sV vN
  rw [Sem.run_bind]
  generalize s.run P w = r
  cases r <;> rfl
theorem sU_eq {P : Program} {s : Sem Unit} {w : World} {K : Value → Prop} : sU P s w K = resQ w (fun _ => K undef) (s.run P w) := by
  unfold sU uN
  rw [Sem.run_bind]
  generalize s.run P w = r
  cases r <;> rfl
theorem resV_ok {α : Type} {K : α → World → Prop} {v : α} {w : World} : resV K (.ok v w) = K v w := rfl
theorem resQ_ok {α : Type} {K : α → Prop} {v : α} {w : World} : resQ w K (.ok v w) = K v := by simp [resQ]
theorem resK_enter {P : Program} {K : Value → World → Prop} {f : FuncId} {args : Array Value} {w : World} : resK P K (.ok (.enter f args) w) = callsK P f args w K := rfl
theorem resK_value {P : Program} {K : Value → World → Prop} {v : Value} {w : World} : resK P K (.ok (.value v) w) = K v w := rfl
theorem kN_call {P : Program} {f : FuncId} {first cap args : Array Value} {w : World} {K : Value → World → Prop} :
    kN P (callN (.func (.func f) first cap) args) w K = resK P K ((callFunc f (first ++ args ++ cap)).run P w) := by
  unfold kN callN Deferred.ofValue
  rfl
theorem kN_pick_true {P : Program} {a b : Value} {w : World} {K : Value → World → Prop} : kN P (pickN (.bool true) a b) w K = K a w := rfl
theorem kN_pick_false {P : Program} {a b : Value} {w : World} {K : Value → World → Prop} : kN P (pickN (.bool false) a b) w K = K b w := rfl
theorem kN_pick {P : Program} {c : Bool} {a b : Value} {w : World} {K : Value → World → Prop} : kN P (pickN (.bool c) a b) w K = K (if c then a else b) w := by cases c <;> rfl
theorem sN_pick {P : Program} {c : Bool} {a b : Value} {w : World} {K : Value → Prop} : sN P (pickN (.bool c) a b) w K = K (if c then a else b) := by
  cases c <;> simp [sN, resS, resSF, pickN, asBool]
theorem kN_nil {P : Program} {a : Addr} {w : World} {K : Value → World → Prop} : kN P (nilN (.pointer (some a))) w K = K (.pointer (some a)) w := rfl
theorem sN_nil {P : Program} {a : Addr} {w : World} {K : Value → Prop} : sN P (nilN (.pointer (some a))) w K = K (.pointer (some a)) := by
  simp [sN, nilN, execOp, resS, resSF]
theorem condK_true {A B : Prop} : condK (.bool true) A B = A := by simp [condK]
theorem condK_false {A B : Prop} : condK (.bool false) A B = B := by simp [condK]
theorem condK_bool {c : Bool} {A B : Prop} (h1 : c = true → A) (h2 : c = false → B) : condK (.bool c) A B := by
  cases c
  · exact .inr ⟨rfl, h2 rfl⟩
  · exact .inl ⟨rfl, h1 rfl⟩
theorem gdK_yes {want : Bool} {A : (Value → World → Prop) → Prop} {w : World} {K : Value → World → Prop} : gdK (yb (.bool want)) want A w K = A K := by simp [gdK, yb]
theorem gdK_no1 {A : (Value → World → Prop) → Prop} {w : World} {K : Value → World → Prop} : gdK (yb (.bool false)) true A w K = K undef w := by simp [gdK, yb]
theorem gdK_no2 {A : (Value → World → Prop) → Prop} {w : World} {K : Value → World → Prop} : gdK (yb (.bool true)) false A w K = K undef w := by simp [gdK, yb]
theorem gdK_no3 {want : Bool} {A : (Value → World → Prop) → Prop} {w : World} {K : Value → World → Prop} : gdK (yb undef) want A w K = K undef w := by simp [gdK, yb, undef]
theorem gdS_yes {want : Bool} {A : (Value → Prop) → Prop} {K : Value → Prop} : gdS (yb (.bool want)) want A K = A K := by simp [gdS, yb]
theorem gdS_no1 {A : (Value → Prop) → Prop} {K : Value → Prop} : gdS (yb (.bool false)) true A K = K undef := by simp [gdS, yb]
theorem gdS_no2 {A : (Value → Prop) → Prop} {K : Value → Prop} : gdS (yb (.bool true)) false A K = K undef := by simp [gdS, yb]
theorem gdS_no3 {want : Bool} {A : (Value → Prop) → Prop} {K : Value → Prop} : gdS (yb undef) want A K = K undef := by simp [gdS, yb, undef]
end Go.Fx
