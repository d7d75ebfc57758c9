/- Part 0 of what the law ExecLays stands on: formulas of the functions that it reaches, and what each of them does; conditions: those of each theorem. -/
import Derived.WalkKit
import Derived.StillTail
import Derived.Scope
import Derived.MapKept
import Derived.Test.YtldkfbelnndaoaaGreatDoorProg
import Derived.KernelRfl
import Derived.WalkSpells
import Derived.WalkLawsBesides
import Derived.RowKit3
import Derived.Deep.Slices
import Derived.Carry
import Derived.OpenShut
import Derived.Shelf.Strings.Builder1
import Derived.Shelf.Strings.Builder2
import Derived.Shelf.Strings.OnBuilder
import Derived.Shelf.Strings.Trim
import Derived.Shelf.Small.Utf8
import Derived.Shelf.Small.Strs
import Derived.Shelf.Small.Wraps
import Derived.Shelf.Strings.BuilderF
import Derived.Shelf.Strings.BuilderK
import Derived.Shelf.Utf8.RuneCount
import Derived.Shelf.Strings.Builder2Cap
import Derived.Shelf.Strconv.Itoa0
import Derived.Shelf.Strings.Search1
import Derived.Shelf.Strings.Search2
import Derived.Shelf.Strings.Search3
import Derived.Shelf.Strings.Cut
import Derived.Shelf.Strings.Count
import Derived.Shelf.LaysM
import Derived.Shelf.Strings.Shaped
import Derived.Shelf.Strings.LastIndex
import Derived.Shelf.Strings.LastIndexAll
import Derived.Shelf.Strings.Prefix
import Derived.Shelf.Strings.Split
import Derived.Shelf.Strings.SplitShaped
import Derived.Shelf.Unicode.Decode
import Derived.Shelf.Strings.Runes
import Derived.Shelf.Strings.RuneCount
import Derived.Shelf.Strings.AsciiSet
import Derived.Shelf.Strings.Explode
import Derived.Shelf.Unicode.DecodeSlow
import Derived.Shelf.Unicode.DecodeAny
import Derived.Shelf.Strings.BuilderCap
import Derived.Ground.PaProg
import Derived.Shelf.Path.Small
import Derived.Laws.BytesArg
import Derived.Laws.IdiomStrings
import Derived.Maps.AppendAt
import Derived.ArgAppend
import Derived.Laws.Externs
import GoSem.Extern.MathBitsCarry
import Derived.HandedShaped
import Derived.LaidLaws
import Derived.Shelf.Vars
set_option linter.unusedVariables false
set_option linter.unusedSimpArgs false
namespace Go.Fx
/-- a mark beside what simp must not enter (its type hangs on it). -/
def Tag {β : Sort _} (_x : β) : Type := Unit
def resKF (P : Program) : Result Next -> (Value -> World -> Prop) -> Prop
  | .ok (.value v) w' => fun K => K v w'
  | .ok .skip w' => fun K => K undef w'
  | .ok (.enter f args) w' => fun K => Calls P f args w' fun e w'' => ∃ v, e = .returned v /\ K v w''
  | _ => fun _ => False
def resK (P : Program) (K : Value -> World -> Prop) (r : Result Next) : Prop := resKF P r K
def resSF (P : Program) (w : World) : Result Next -> (Value -> Prop) -> Prop
  | .ok (.value v) w' => fun K => w' = w /\ K v
  | .ok .skip w' => fun K => w' = w /\ K undef
  | .ok (.enter f args) w' => fun K => w' = w /\ ∃ v, Calls P f args w (fun e w'' => e = .returned v /\ w'' = w) /\ K v
  | _ => fun _ => False
def resS (P : Program) (w : World) (K : Value -> Prop) (r : Result Next) : Prop := resSF P w r K
theorem resK_mono {P : Program} {K K' : Value -> World -> Prop} (h : ∀ v w, K v w -> K' v w) : ∀ {r : Result Next}, resK P K r -> resK P K' r := by
  intro r hr
  cases r with
  | halt _ _ => exact hr
  | ok n w =>
    cases n <;> first | exact h _ _ hr | exact hr | skip
    case enter f args => exact Calls.mono hr fun e w' ⟨v, he, hk⟩ => ⟨v, he, h _ _ hk⟩
theorem resS_mono {P : Program} {w : World} {K K' : Value -> Prop} (h : ∀ v, K v -> K' v) : ∀ {r : Result Next}, resS P w K r -> resS P w K' r := by
  intro r hr
  cases r with
  | halt _ _ => exact hr
  | ok n w =>
    cases n <;> first | exact ⟨hr.1, h _ hr.2⟩ | exact hr | skip
    case enter f args => exact ⟨hr.1, hr.2.choose, hr.2.choose_spec.1, h _ hr.2.choose_spec.2⟩
/-- an operation that only names a value again. -/
def aliasOf (ρ : Operand -> Value) : Op -> Option Value
  | .move x | .assign x => some (ρ x)
  | .makeFunc fn f c => some (.func fn (f.map ρ) (c.map ρ))
  | _ => none
theorem alias_run {P : Program} {ρ : Operand -> Value} {o : Oper} {v : Value} (h : aliasOf ρ o.op = some v) (w : World) : (execOp ρ o).run P w = .ok (.value v) w := by
  unfold execOp
  cases ho : o.op <;> simp only [ho, aliasOf, Option.some.injEq, reduceCtorEq] at h <;> subst h <;> rfl
/-- in every world the operation gives one and the same value, and changes nothing. -/
def resW (K : Value -> Prop) (r : World -> Result Next) : Prop := ∃ v, (∀ w, r w = .ok (.value v) w) /\ K v
def resP (P : Program) (K : Value -> Prop) (ρ : Operand -> Value) (o : Oper) : Prop := resW K (fun w => (execOp ρ o).run P w)
def stK (P : Program) (w : World) (K : Value -> Prop) (ρ : Operand -> Value) (o : Oper) : Prop :=
  match aliasOf ρ o.op with
  | some v => K v
  | none => resS P w K ((execOp ρ o).run P w)
def puK (P : Program) (K : Value -> Prop) (ρ : Operand -> Value) (o : Oper) : Prop :=
  match aliasOf ρ o.op with
  | some v => K v
  | none => resP P K ρ o
def yb : Value -> Option Bool
  | .bool b => some b
  | _ => none
def gdK (y : Option Bool) (want : Bool) (A : (Value -> World -> Prop) -> Prop) (w : World) (K : Value -> World -> Prop) (_ : Tag (A K) := ()) : Prop := if y == some want then A K else K undef w
def gdS (y : Option Bool) (want : Bool) (A : (Value -> Prop) -> Prop) (K : Value -> Prop) (_ : Tag (A K) := ()) : Prop := if y == some want then A K else K undef
def opsK (P : Program) (ops : Array Oper) (Q : Act -> World -> Prop) : List Oper -> Act -> World -> Prop
  | [], a, w => Q a w
  | o :: rest, a, w => match o.guard with
    | none => resK P (fun v w' => opsK P ops Q rest (a.put o.dst v) w') ((execOp a.eval o).run P w)
    | some (j, want) => gdK (yielded ops a.tmps j) want (fun K => resK P K ((execOp a.eval o).run P w)) w (fun v w' => opsK P ops Q rest (a.put o.dst v) w')
def opsS (P : Program) (ops : Array Oper) (w : World) (Q : Act -> Prop) : List Oper -> Act -> Prop
  | [], a => Q a
  | o :: rest, a => match o.guard with
    | none => stK P w (fun v => opsS P ops w Q rest (a.put o.dst v)) a.eval o
    | some (j, want) => gdS (yielded ops a.tmps j) want (fun K => stK P w K a.eval o) (fun v => opsS P ops w Q rest (a.put o.dst v))
theorem stK_mono {P : Program} {w : World} {K K' : Value -> Prop} {ρ : Operand -> Value} {o : Oper} (h : ∀ v, K v -> K' v) : stK P w K ρ o -> stK P w K' ρ o := by
  unfold stK
  split
  · exact h _
  · exact resS_mono h
theorem puK_mono {P : Program} {K K' : Value -> Prop} {ρ : Operand -> Value} {o : Oper} (h : ∀ v, K v -> K' v) : puK P K ρ o -> puK P K' ρ o := by
  unfold puK
  split
  · exact h _
  · rintro ⟨v, hr, hk⟩; exact ⟨v, hr, h _ hk⟩
theorem resS_of_stK {P : Program} {w : World} {K : Value -> Prop} {ρ : Operand -> Value} {o : Oper} (h : stK P w K ρ o) : resS P w K ((execOp ρ o).run P w) := by
  unfold stK at h
  split at h
  · rename_i v hv; rw [alias_run hv]; exact ⟨rfl, h⟩
  · exact h
theorem resW_of_puK {P : Program} {K : Value -> Prop} {ρ : Operand -> Value} {o : Oper} (h : puK P K ρ o) : ∃ v, (∀ w, (execOp ρ o).run P w = .ok (.value v) w) /\ K v := by
  unfold puK at h
  split at h
  · rename_i v hv; exact ⟨v, alias_run hv, h⟩
  · exact h
def live (ls : List Nat) (a : Act) : List Value := ls.map fun i => a.tmps.getD i undef
def fillAt (W ls : List Nat) (s : List Value) (d : Nat -> Value) : Nat -> List Value -> List Value
  | _, [] => []
  | i, v :: rest => (if W.contains i then (if ls.contains i then s.getD (ls.idxOf i) undef else d i) else v) :: fillAt W ls s d (i + 1) rest
def refill (a : Act) (W ls : List Nat) (s : List Value) (d : Nat -> Value) : Act := ⟨(fillAt W ls s d 0 a.tmps.toList).toArray, a.defers⟩
def loopT (B : (List Value -> World -> Prop) -> List Value -> World -> Prop) (s : List Value) (w : World) (_ : Tag B := ()) : Prop :=
  ∃ (I : List Value -> World -> Prop) (μ : List Value -> World -> Nat), I s w /\ ∀ s w, I s w -> B (fun s' w' => I s' w' /\ μ s' w' < μ s w) s w
theorem loopT.intro {B : (List Value -> World -> Prop) -> List Value -> World -> Prop} {s : List Value} {w : World} (I : List Value -> World -> Prop) (μ : List Value -> World -> Nat)
    (h0 : I s w) (h : ∀ s w, I s w -> B (fun s' w' => I s' w' /\ μ s' w' < μ s w) s w) : loopT B s w := ⟨I, μ, h0, h⟩
def dsts : Code -> List Nat
  | .region _ ops _ => ops.toList.filterMap (·.dst)
  | .seq a b => dsts a ++ dsts b
  | .cond _ a b => dsts a ++ dsts b
  | .block _ c | .loop c | .scope c => dsts c
  | _ => []
def firstRegion : Code -> Nat
  | .region id _ _ => id
  | .seq a b => match firstRegion a with | 0 => firstRegion b | n => n
  | .cond _ a b => match firstRegion a with | 0 => firstRegion b | n => n
  | .block _ c | .loop c | .scope c => firstRegion c
  | _ => 0
def condK (v : Value) (A B : Prop) (_ : Tag (A /\ B) := ()) : Prop := (v = .bool true /\ A) ∨ (v = .bool false /\ B)
/-- what the text needs besides the code: for a region that draws its order where its tail begins (nothing: all of it is still); for a loop (by the first region in it) the slots that live. -/
structure Hints where
  tails : List (Nat × Nat) := []
  lives : List (Nat × List Nat) := []
  joins : List (Nat × List Nat) := []
def Hints.jn (h : Hints) (id : Nat) : Option (List Nat) := (h.joins.find? (fun x => x.1 == id)).map (·.2)
def joinL (G : (List Value -> World -> Prop) -> Prop) (rest : List Value -> World -> Prop) (_ : Tag (G rest) := ()) : Prop := G rest
theorem joinL.intro {G : (List Value -> World -> Prop) -> Prop} {rest : List Value -> World -> Prop} (hG : ∀ J : List Value -> World -> Prop, (∀ s w, rest s w -> J s w) -> G J) : joinL G rest := hG _ fun _ _ h => h
def Hints.tail (h : Hints) (id : Nat) : Option Nat := (h.tails.find? (fun x => x.1 == id)).map (·.2)
def Hints.lv (h : Hints) (id : Nat) : List Nat := ((h.lives.find? (fun x => x.1 == id)).map (·.2)).getD []
def pureOp : Op -> Bool
  | .move _ | .assign _ | .pick .. | .build .. | .nilCheck _ | .binOp .. | .unOp .. | .convert .. | .fieldAddr .. | .field .. | .indexAddr .. | .index .. | .slice .. | .extract .. | .makeInterface .. | .makeFunc .. | .sliceToArrayPointer .. => true
  | .call { callee := .builtin .len, argTypes := _, args := _ } => true
  | _ => false
def pureAt (ops : Array Oper) (listed : Array Bool) (i : Nat) : Bool := ((ops[i]?).map fun o => pureOp o.op).getD false && Region.free .any ops listed i
def gdP (y : Option Bool) (want : Bool) (A : (Value -> Prop) -> Prop) (K : Value -> Prop) (_ : Tag (A K) := ()) : Prop := if y == some want then A K else K undef
def allK : List Nat -> (Nat -> Prop) -> Prop
  | [], _ => True
  | [i], f => f i
  | i :: j :: r, f => f i /\ allK (j :: r) f
def opAt (P : Program) (ops : Array Oper) (i : Nat) (K : Act -> World -> Prop) (a : Act) (w : World) : Prop :=
  match ops[i]? with
  | none => False
  | some o => match o.guard with
    | none => resK P (fun v w' => K (a.put o.dst v) w') ((execOp a.eval o).run P w)
    | some (j, want) => gdK (yielded ops a.tmps j) want (fun K => resK P K ((execOp a.eval o).run P w)) w (fun v w' => K (a.put o.dst v) w')
def opPAt (P : Program) (ops : Array Oper) (i : Nat) (K : Act -> Prop) (a : Act) : Prop :=
  match ops[i]? with
  | none => False
  | some o => match o.guard with
    | none => puK P (fun v => K (a.put o.dst v)) a.eval o
    | some (j, want) => gdP (yielded ops a.tmps j) want (fun K => puK P K a.eval o) (fun v => K (a.put o.dst v))
def anyK (P : Program) (ops : Array Oper) (Q : Act -> World -> Prop) : Nat -> Array Bool -> Act -> World -> Prop
  | 0, listed, a, w => match Region.ready .any ops listed with
    | [] => Q a w
    | _ => False
  | fuel + 1, listed, a, w => match Region.ready .any ops listed with
    | [] => Q a w
    | i :: rest => match (i :: rest).find? (pureAt ops listed) with
      | some i => opPAt P ops i (fun a' => anyK P ops Q fuel (listed.setIfInBounds i true) a' w) a
      | none => allK (i :: rest) fun i => opAt P ops i (anyK P ops Q fuel (listed.setIfInBounds i true)) a w
def parR (G : (World -> Prop) -> Prop) (w : World) (_ : Tag G := ()) : Prop := ∃ I : World -> Prop, I w /\ G I
def allI (I : World -> Prop) (G : World -> Prop) (_ : Tag G := ()) : Prop := ∀ w, I w -> G w
def resI (P : Program) (I : World -> Prop) (K : Value -> Prop) (r : World -> Result Next) (_ : Tag K := ()) : Prop := ∃ v, (∀ w, I w -> resK P (fun v' w' => v' = v /\ I w') (r w)) /\ K v
def inK (P : Program) (I : World -> Prop) (K : Value -> Prop) (ρ : Operand -> Value) (o : Oper) : Prop := bif pureOp o.op then puK P K ρ o else resI P I K (fun w => (execOp ρ o).run P w)
def parStep (P : Program) (ops : Array Oper) (I : World -> Prop) (o : Oper) (v : Value) (a : Act) : Prop :=
  ∀ w, I w -> if Region.wanted o (yielded ops a.tmps) then resK P (fun v' w' => v' = v /\ I w') ((execOp a.eval o).run P w) else v = undef
def parK (P : Program) (ops : Array Oper) (I : World -> Prop) (Q : Act -> Prop) : List Nat -> Act -> Prop
  | [], a => Q a
  | i :: rest, a => match ops[i]? with
    | none => False
    | some o => ∃ v, parStep P ops I o v a /\ parK P ops I Q rest (a.put o.dst v)
def parB (ops : Array Oper) : Bool := Region.noSelect ops && (List.range ops.size).all fun i => match ops[i]? with
  | none => true
  | some oi => oi.after.all (fun e => !Region.binds .any e || Nat.blt e.on i) && (List.range i).all fun j => match ops[j]? with
    | none => true
    | some oj => oi.after.any (fun e => Region.binds .any e && e.on == j) || oj.apart ops oi
def xW (ops : Array Oper) (n : Nat) : List Nat := (ops.toList.take n).filterMap (·.dst)
def xOn (o : Oper) : List Nat := (o.after.toList.filter fun e => Region.binds .any e).map (·.on)
def xDeps (on : List Nat) (d : Nat -> Value) (w : World) : List (Nat × Nat × (Value -> World -> Prop)) -> Prop
  | [] => True
  | (j, x, p) :: r => bif on.contains j then p (d x) w /\ xDeps on d w r else xDeps on d w r
def xAll (d : Nat -> Value) (w : World) : List (Nat × Nat × (Value -> World -> Prop)) -> Prop
  | [] => True
  | (_, x, p) :: r => p (d x) w /\ xAll d w r
def postX (R : World -> World -> Prop) (G rest : (Value -> World -> Prop) -> Prop) (_ : Tag G := ()) (_ : Tag rest := ()) : Prop := ∃ p : Value -> World -> Prop, (∀ v w w', R w w' -> p v w -> p v w') /\ G p /\ rest p
theorem postX.intro {R : World -> World -> Prop} {G rest : (Value -> World -> Prop) -> Prop} (p : Value -> World -> Prop) (h0 : ∀ v w w', R w w' -> p v w -> p v w') (h1 : G p) (h2 : rest p) : postX R G rest := ⟨p, h0, h1, h2⟩
def okX (R : World -> World -> Prop) (w : World) (p : Value -> World -> Prop) (v : Value) (w' : World) : Prop := R w w' /\ p v w'
def allX (R : World -> World -> Prop) (w0 : World) (G : (Nat -> Value) -> World -> Prop) (_ : Tag G := ()) : Prop := ∀ d w, R w0 w -> G d w
def relX (G : (World -> World -> Prop) -> Prop) (_ : Tag G := ()) : Prop := ∃ R : World -> World -> Prop, (∀ w, R w w) /\ (∀ a b c, R a b -> R b c -> R a c) /\ (∀ a b, R a b -> a.heap.size <= b.heap.size) /\ G R
def xStep (P : Program) (ops : Array Oper) (o : Oper) (K : Value -> World -> Prop) (a : Act) (w : World) : Prop := if Region.wanted o (yielded ops a.tmps) then resK P K ((execOp a.eval o).run P w) else K undef w
/-- the variable that an operation stores to, where the operation that it is bound behind makes its address. -/
def xAdr (ops : Array Oper) (o : Oper) : Option Nat := match o.dst, o.op with
  | none, .store _ (.tmp x) _ => if (xOn o).any (fun j => match ops[j]? with | some oj => oj.dst == some x | none => false) then some x else none
  | _, _ => none
/-- the word of an operation, of its value, or of the address that it stores to. -/
def xPo (ops : Array Oper) (o : Oper) (d : Nat -> Value) (p : Value -> World -> Prop) : Value -> World -> Prop := match xAdr ops o with
  | some x => fun _ => p (d x)
  | none => p
def xPut (ops : Array Oper) (i : Nat) (p : Value -> World -> Prop) (o : Oper) (ps : List (Nat × Nat × (Value -> World -> Prop))) : List (Nat × Nat × (Value -> World -> Prop)) := match o.dst with
  | some x => ps ++ [(i, x, p)]
  | none => match xAdr ops o with
    | some x => ps ++ [(i, x, p)]
    | none => ps ++ [(i, 0, fun _ w => ∃ v, p v w)]
def xHas (ops : Array Oper) (i : Nat) (x : Nat) (p : Value -> World -> Prop) : Prop := ∃ o, ops[i]? = some o /\ (o.dst = some x ∨ (o.dst = none /\ (xAdr ops o = some x ∨ ∀ u v w, p u w -> p v w)))
theorem xAdr_some {ops : Array Oper} {o : Oper} {x : Nat} (h : o.dst = some x) : xAdr ops o = none := by
  unfold xAdr
  rw [h]
theorem xAdr_has {ops : Array Oper} {o : Oper} {x : Nat} (h : xAdr ops o = some x) : ∃ j oj, j ∈ xOn o /\ ops[j]? = some oj /\ oj.dst = some x := by
  unfold xAdr at h
  split at h
  · split at h
    · rename_i hc
      cases h
      obtain ⟨j, hj, hc⟩ := List.any_eq_true.1 hc
      cases ho : ops[j]? with
      | none => rw [ho] at hc; cases hc
      | some oj =>
        rw [ho] at hc
        exact ⟨j, oj, hj, ho, by simpa using hc⟩
    · cases h
  · cases h
/-- an operation that makes a variable. -/
def xNew (o : Oper) : Option Tmp := match o.op, o.guard with
  | .alloc _, none => o.dst
  | _, _ => none
def xFresh (ops : Array Oper) (n : Nat) : List Nat := (ops.toList.take n).filterMap xNew
/-- no two of them are alike. -/
def xDist (d : Nat -> Value) (l : List Nat) : Prop := l.Pairwise fun x y => d x ≠ d y
def xK (P : Program) (ops : Array Oper) (R : World -> World -> Prop) (w0 : World) (a0 : Act) (W F : List Nat) (Q : Act -> World -> Prop) : List Nat -> List (Nat × Nat × (Value -> World -> Prop)) -> Prop
  | [], ps => allX R w0 fun d w => xAll d w ps -> xDist d F -> Q (refill a0 W [] [] d) w
  | i :: rest, ps => match ops[i]? with
    | none => False
    | some o => postX R (fun p => allX R w0 fun d w => xDeps (xOn o) d w ps -> xStep P ops o (okX R w (xPo ops o d p)) (refill a0 W [] [] d) w) (fun p => xK P ops R w0 a0 W F Q rest (xPut ops i p o ps))
def nodupB : List Nat -> Bool
  | [] => true
  | x :: r => !r.contains x && nodupB r
theorem nodupB_spec : ∀ {l : List Nat}, nodupB l = true -> l.Nodup
  | [], _ => List.nodup_nil
  | x :: r, h => by
    simp only [nodupB, Bool.and_eq_true, Bool.not_eq_true', List.contains_eq_mem, decide_eq_false_iff_not] at h
    exact List.nodup_cons.2 ⟨h.1, nodupB_spec h.2⟩
/-- is operation j bound ahead of i, directly or through others? -/
def xBound (ops : Array Oper) : Nat -> Nat -> Nat -> Bool
  | 0, _, _ => false
  | f + 1, i, j => match ops[i]? with
    | none => false
    | some o => (o.after.any fun e => Region.binds .any e && e.on == j) || o.after.any fun e => Region.binds .any e && xBound ops f e.on j
def xB (ops : Array Oper) (n : Nat) : Bool := Nat.ble n ops.size && nodupB (xW ops n) && (List.range ops.size).all fun i => match ops[i]? with
  | none => true
  | some oi => oi.after.all (fun e => !Region.binds .any e || Nat.blt e.on i) && (Nat.blt i n || (List.range i).all fun j => xBound ops 4 i j)
def xN (n : Nat) : Nat := n - 1000
def xBig (n : Nat) : Bool := Nat.ble 1000 n
/-- a region told by words of its first n operations; the others, in order, behind them. -/
def xR (P : Program) (n : Nat) (ops : Array Oper) (Q : Act -> World -> Prop) (a : Act) (w : World) : Prop :=
  if xB ops n && (xW ops n).all (fun x => Nat.blt x a.tmps.size) then relX (fun R => xK P ops R w a (xW ops n) (xFresh ops n) (fun a' w' => opsK P ops Q (ops.toList.drop n) a' w') (List.range n) []) else False
def drawK (P : Program) (t : Option Nat) (ops : Array Oper) (Q : Act -> World -> Prop) (a : Act) (w : World) : Prop :=
  match t with
  | some 999 => if Region.noSelect ops then anyK P ops Q ops.size (Array.replicate ops.size false) a w else False
  | some 998 => if parB ops then parR (fun I => parK P ops I (fun a' => ∀ w', I w' -> Q a' w') (List.range ops.size) a) w else False
  | some n => bif xBig n then xR P (xN n) ops Q a w else if Region.lexTailB .any ops n then opsS P ops w (fun a' => opsK P ops Q (ops.toList.drop n) a' w) (ops.toList.take n) a else False
  | none => if Region.lexB .any ops then opsS P ops w (fun a' => Q a' w) ops.toList a else False
def codeK (P : Program) (hs : Hints) : Code -> (Exit -> Act -> World -> Prop) -> Act -> World -> Prop
  | .skip, Q, a, w => Q .normal a w
  | .region _ ops false, Q, a, w => opsK P ops (Q .normal) ops.toList a w
  | .region id ops true, Q, a, w => drawK P (hs.tail id) ops (Q .normal) a w.drew
  | .seq x y, Q, a, w => codeK P hs x (Exit.then (codeK P hs y Q) Q) a w
  | .cond c x y, Q, a, w => condK (a.eval c) (codeK P hs x Q a w) (codeK P hs y Q a w)
  | .block id c, Q, a, w => codeK P hs c (Exit.inBlock id Q) a w
  | .loop c, Q, a, w => loopT (fun R s w' => ∀ d : Nat -> Value, codeK P hs c (Exit.then (fun a'' w'' => R (live (hs.lv (firstRegion c)) a'') w'') Q) (refill a (dsts c) (hs.lv (firstRegion c)) s d) w') (live (hs.lv (firstRegion c)) a) w
  | .exit id, Q, a, w => Q (.exit id) a w
  | .scope c, Q, a, w => codeK P hs c (Exit.noGoto Q) a w
  | .label _, Q, a, w => Q .normal a w
  | .goto l, Q, a, w => Q (.goto l) a w
  | .ret, Q, a, w => Q .ret a w
  | _, _, _, _ => False
structure Agree (W : List Nat) (a a' : Act) : Prop where
  size : a'.tmps.size = a.tmps.size
  defers : a'.defers = a.defers
  same : ∀ i, i ∉ W -> a'.tmps[i]? = a.tmps[i]?
theorem Agree.refl (W : List Nat) (a : Act) : Agree W a a := ⟨rfl, rfl, fun _ _ => rfl⟩
theorem Agree.trans {W : List Nat} {a b c : Act} (h : Agree W a b) (k : Agree W b c) : Agree W a c :=
  ⟨k.size.trans h.size, k.defers.trans h.defers, fun i hi => (k.same i hi).trans (h.same i hi)⟩
theorem Agree.mono {W W' : List Nat} {a b : Act} (h : Agree W a b) (hW : ∀ i, i ∈ W -> i ∈ W') : Agree W' a b :=
  ⟨h.size, h.defers, fun i hi => h.same i fun hc => hi (hW i hc)⟩
theorem Agree.put {W : List Nat} {a : Act} {d : Option Tmp} (v : Value) (h : ∀ x, d = some x -> x ∈ W) : Agree W a (a.put d v) := by
  cases d with
  | none => exact Agree.refl _ _
  | some x =>
    refine ⟨by simp [Act.put], rfl, fun i hi => ?_⟩
    have hx := h x rfl
    have : x ≠ i := fun e => hi (e ▸ hx)
    simp [Act.put, this]
theorem opsK_mono {P : Program} {ops : Array Oper} {Q Q' : Act -> World -> Prop} (h : ∀ a w, Q a w -> Q' a w) : ∀ (l : List Oper) (a : Act) (w : World), opsK P ops Q l a w -> opsK P ops Q' l a w := by
  intro l
  induction l with
  | nil => intro a w hq; exact h _ _ hq
  | cons o rest ih =>
    intro a w hq
    unfold opsK at hq ⊢
    cases hg : o.guard with
    | none => rw [hg] at hq; exact resK_mono (fun v w' => ih _ _) hq
    | some x =>
      obtain ⟨j, want⟩ := x
      rw [hg] at hq
      simp only [gdK] at hq ⊢
      split at hq
      · rename_i hc; rw [if_pos hc]; exact resK_mono (fun v w' => ih _ _) hq
      · rename_i hc; rw [if_neg hc]; exact ih _ _ hq
theorem opsK_agree {P : Program} {ops : Array Oper} {Q : Act -> World -> Prop} {W : List Nat} (a0 : Act) : ∀ (l : List Oper) (_hl : ∀ o x, o ∈ l -> o.dst = some x -> x ∈ W) (a : Act) (w : World),
    Agree W a0 a -> opsK P ops Q l a w -> opsK P ops (fun a' w' => Q a' w' /\ Agree W a0 a') l a w := by
  intro l
  induction l with
  | nil => intro _ a w ha hq; exact ⟨hq, ha⟩
  | cons o rest ih =>
    intro hl a w ha hq
    have ih' := ih (fun o' x ho => hl o' x (List.mem_cons_of_mem _ ho))
    have hp : ∀ v, Agree W a0 (a.put o.dst v) := fun v => ha.trans (Agree.put v fun x hx => hl o x (List.mem_cons_self ..) hx)
    unfold opsK at hq ⊢
    cases hg : o.guard with
    | none => rw [hg] at hq; exact resK_mono (fun v w' => ih' _ _ (hp v)) hq
    | some x =>
      obtain ⟨j, want⟩ := x
      rw [hg] at hq
      simp only [gdK] at hq ⊢
      split at hq
      · rename_i hc; rw [if_pos hc]; exact resK_mono (fun v w' => ih' _ _ (hp v)) hq
      · rename_i hc; rw [if_neg hc]; exact ih' _ _ (hp _) hq
theorem opsS_mono {P : Program} {ops : Array Oper} {w : World} {Q Q' : Act -> Prop} (h : ∀ a, Q a -> Q' a) : ∀ (l : List Oper) (a : Act), opsS P ops w Q l a -> opsS P ops w Q' l a := by
  intro l
  induction l with
  | nil => intro a hq; exact h _ hq
  | cons o rest ih =>
    intro a hq
    unfold opsS at hq ⊢
    cases hg : o.guard with
    | none => rw [hg] at hq; exact stK_mono (fun v => ih _) hq
    | some x =>
      obtain ⟨j, want⟩ := x
      rw [hg] at hq
      simp only [gdS] at hq ⊢
      split at hq
      · rename_i hc; rw [if_pos hc]; exact stK_mono (fun v => ih _) hq
      · rename_i hc; rw [if_neg hc]; exact ih _ hq
theorem opsS_agree {P : Program} {ops : Array Oper} {w : World} {Q : Act -> Prop} {W : List Nat} (a0 : Act) : ∀ (l : List Oper) (_hl : ∀ o x, o ∈ l -> o.dst = some x -> x ∈ W) (a : Act),
    Agree W a0 a -> opsS P ops w Q l a -> opsS P ops w (fun a' => Q a' /\ Agree W a0 a') l a := by
  intro l
  induction l with
  | nil => intro _ a ha hq; exact ⟨hq, ha⟩
  | cons o rest ih =>
    intro hl a ha hq
    have ih' := ih (fun o' x ho => hl o' x (List.mem_cons_of_mem _ ho))
    have hp : ∀ v, Agree W a0 (a.put o.dst v) := fun v => ha.trans (Agree.put v fun x hx => hl o x (List.mem_cons_self ..) hx)
    unfold opsS at hq ⊢
    cases hg : o.guard with
    | none => rw [hg] at hq; exact stK_mono (fun v => ih' _ (hp v)) hq
    | some x =>
      obtain ⟨j, want⟩ := x
      rw [hg] at hq
      simp only [gdS] at hq ⊢
      split at hq
      · rename_i hc; rw [if_pos hc]; exact stK_mono (fun v => ih' _ (hp v)) hq
      · rename_i hc; rw [if_neg hc]; exact ih' _ (hp _) hq
theorem opAt_mono {P : Program} {ops : Array Oper} {i : Nat} {K K' : Act -> World -> Prop} {a : Act} {w : World} (h : ∀ v w', K (a.put ((ops[i]?).bind (·.dst)) v) w' -> K' (a.put ((ops[i]?).bind (·.dst)) v) w') (hk : opAt P ops i K a w) : opAt P ops i K' a w := by
  unfold opAt at hk ⊢
  cases ho : ops[i]? with
  | none => rw [ho] at hk; exact hk
  | some o =>
    rw [ho] at hk h
    dsimp only [Option.bind_some] at hk h ⊢
    cases hg : o.guard with
    | none => rw [hg] at hk; exact resK_mono h hk
    | some x =>
      obtain ⟨j, want⟩ := x
      rw [hg] at hk
      simp only [gdK] at hk ⊢
      split at hk
      · rename_i hc; rw [if_pos hc]; exact resK_mono h hk
      · rename_i hc; rw [if_neg hc]; exact h _ _ hk
theorem opPAt_mono {P : Program} {ops : Array Oper} {i : Nat} {K K' : Act -> Prop} {a : Act} (h : ∀ v, K (a.put ((ops[i]?).bind (·.dst)) v) -> K' (a.put ((ops[i]?).bind (·.dst)) v)) (hk : opPAt P ops i K a) : opPAt P ops i K' a := by
  unfold opPAt at hk ⊢
  cases ho : ops[i]? with
  | none => rw [ho] at hk; exact hk
  | some o =>
    rw [ho] at hk h
    dsimp only [Option.bind_some] at hk h ⊢
    cases hg : o.guard with
    | none => rw [hg] at hk; exact puK_mono h hk
    | some x =>
      obtain ⟨j, want⟩ := x
      rw [hg] at hk
      simp only [gdP] at hk ⊢
      split at hk
      · rename_i hc; rw [if_pos hc]; exact puK_mono h hk
      · rename_i hc; rw [if_neg hc]; exact h _ hk
theorem allK_all : ∀ {l : List Nat} {f : Nat -> Prop}, allK l f -> ∀ i ∈ l, f i
  | [], _, _, i, hi => by cases hi
  | [j], _, h, i, hi => by rw [List.mem_singleton] at hi; subst hi; exact h
  | j :: k :: r, f, h, i, hi => by
    rcases List.mem_cons.1 hi with rfl | hi
    · exact h.1
    · exact allK_all h.2 i hi
theorem allK_of : ∀ {l : List Nat} {f : Nat -> Prop}, (∀ i ∈ l, f i) -> allK l f
  | [], _, _ => trivial
  | [j], _, h => h j (by simp)
  | j :: k :: r, f, h => ⟨h j (by simp), allK_of fun i hi => h i (List.mem_cons_of_mem _ hi)⟩
theorem anyK_agree {P : Program} {ops : Array Oper} {Q Q' : Act -> World -> Prop} {W : List Nat} (a0 : Act) (hl : ∀ o x, o ∈ ops.toList -> o.dst = some x -> x ∈ W) (h : ∀ a w, Agree W a0 a -> Q a w -> Q' a w) :
    ∀ (fuel : Nat) (listed : Array Bool) (a : Act) (w : World), Agree W a0 a -> anyK P ops Q fuel listed a w -> anyK P ops Q' fuel listed a w := by
  have hput : ∀ (i : Nat) (a : Act) (v : Value), Agree W a0 a -> Agree W a0 (a.put ((ops[i]?).bind (·.dst)) v) := fun i a v ha => by
    cases ho : ops[i]? with
    | none => exact ha
    | some o => exact ha.trans (Agree.put v fun x hx => hl o x (by obtain ⟨hi, he⟩ := Array.getElem?_eq_some_iff.1 ho; rw [<- he]; simp) hx)
  intro fuel
  induction fuel with
  | zero =>
    intro listed a w ha hq
    unfold anyK at hq ⊢
    split at hq
    · exact h _ _ ha hq
    · exact hq.elim
  | succ fuel ih =>
    intro listed a w ha hq
    unfold anyK at hq ⊢
    split at hq
    · exact h _ _ ha hq
    · split at hq
      · rename_i i hf
        exact opPAt_mono (fun v hk => ih _ _ _ (hput i a v ha) hk) hq
      · exact allK_of fun i hi => opAt_mono (fun v w' hk => ih _ _ _ (hput i a v ha) hk) (allK_all hq i hi)
theorem parK_agree {P : Program} {ops : Array Oper} {I : World -> Prop} {Q Q' : Act -> Prop} {W : List Nat} (a0 : Act) (hl : ∀ o x, o ∈ ops.toList -> o.dst = some x -> x ∈ W) (h : ∀ a, Agree W a0 a -> Q a -> Q' a) :
    ∀ (l : List Nat) (a : Act), Agree W a0 a -> parK P ops I Q l a -> parK P ops I Q' l a := by
  intro l
  induction l with
  | nil => intro a ha hq; exact h _ ha hq
  | cons i rest ih =>
    intro a ha hq
    unfold parK at hq ⊢
    cases ho : ops[i]? with
    | none => rw [ho] at hq; exact hq.elim
    | some o =>
      rw [ho] at hq
      obtain ⟨v, h1, h2⟩ := hq
      refine ⟨v, h1, ih _ (ha.trans (Agree.put v fun x hx => hl o x ?_ hx)) h2⟩
      obtain ⟨hi, he⟩ := Array.getElem?_eq_some_iff.1 ho
      rw [<- he]; simp
theorem xK_mono {P : Program} {ops : Array Oper} {R : World -> World -> Prop} {w0 : World} {a0 : Act} {W F : List Nat} {Q Q' : Act -> World -> Prop} (h : ∀ d w, Q (refill a0 W [] [] d) w -> Q' (refill a0 W [] [] d) w) :
    ∀ (l : List Nat) (ps : List (Nat × Nat × (Value -> World -> Prop))), xK P ops R w0 a0 W F Q l ps -> xK P ops R w0 a0 W F Q' l ps := by
  intro l
  induction l with
  | nil => intro ps hq d w hr ha hf; exact h _ _ (hq d w hr ha hf)
  | cons i rest ih =>
    intro ps hq
    unfold xK at hq ⊢
    cases ho : ops[i]? with
    | none => rw [ho] at hq; exact hq.elim
    | some o =>
      rw [ho] at hq
      obtain ⟨p, h1, h2, h3⟩ := hq
      exact ⟨p, h1, h2, ih _ h3⟩
theorem xR_mono {P : Program} {n : Nat} {ops : Array Oper} {Q Q' : Act -> World -> Prop} (h : ∀ a w, Q a w -> Q' a w) {a : Act} {w : World} (hq : xR P n ops Q a w) : xR P n ops Q' a w := by
  unfold xR at hq ⊢
  split at hq
  · rename_i hc
    rw [if_pos hc]
    obtain ⟨R, h1, h2, hs, h3⟩ := hq
    exact ⟨R, h1, h2, hs, xK_mono (fun d w hq => opsK_mono h _ _ _ hq) _ _ h3⟩
  · exact hq.elim
theorem codeK_mono {P : Program} {hs : Hints} : ∀ (c : Code) (Q Q' : Exit -> Act -> World -> Prop) (_h : ∀ e a w, Q e a w -> Q' e a w) (a : Act) (w : World), codeK P hs c Q a w -> codeK P hs c Q' a w := by
  intro c
  induction c with
  | skip => intro Q Q' h a w hq; exact h _ _ _ hq
  | region id ops draw =>
    intro Q Q' h a w hq
    cases draw with
    | false => exact opsK_mono (h _) _ _ _ hq
    | true =>
      simp only [codeK, drawK] at hq ⊢
      split at hq
      · split at hq
        · rename_i hc
          rw [if_pos hc]
          exact anyK_agree (W := dsts (.region id ops true)) a (fun o x ho hx => by simp only [dsts, List.mem_filterMap]; exact ⟨o, ho, hx⟩) (fun a w _ => h _ a w) _ _ _ _ (Agree.refl _ _) hq
        · exact hq.elim
      · split at hq
        · rename_i hc
          rw [if_pos hc]
          obtain ⟨I, h0, hp⟩ := hq
          exact ⟨I, h0, parK_agree (W := dsts (.region id ops true)) a (fun o x ho hx => by simp only [dsts, List.mem_filterMap]; exact ⟨o, ho, hx⟩) (fun a _ hk w' hw => h _ a w' (hk w' hw)) _ _ (Agree.refl _ _) hp⟩
        · exact hq.elim
      · rename_i n _ _ _
        cases hb : xBig n with
        | true => simp only [hb, cond_true] at hq ⊢; generalize xN n = k at *; exact xR_mono (h _) hq
        | false =>
          simp only [hb, cond_false] at hq ⊢
          split at hq
          · rename_i hc
            rw [if_pos hc]
            exact opsS_mono (fun a' hq => opsK_mono (h _) _ _ _ hq) _ _ hq
          · exact hq.elim
      · split at hq
        · rename_i hc
          rw [if_pos hc]
          exact opsS_mono (fun a' hq => h _ _ _ hq) _ _ hq
        · exact hq.elim
  | seq x y ihx ihy =>
    intro Q Q' h a w hq
    refine ihx _ _ (fun e a w hq => ?_) _ _ hq
    cases e <;> first | exact ihy _ _ h _ _ hq | exact h _ _ _ hq
  | cond v x y ihx ihy =>
    intro Q Q' h a w hq
    rcases hq with ⟨hv, hq⟩ | ⟨hv, hq⟩
    · exact .inl ⟨hv, ihx _ _ h _ _ hq⟩
    · exact .inr ⟨hv, ihy _ _ h _ _ hq⟩
  | block id c ih =>
    intro Q Q' h a w hq
    refine ih _ _ (fun e a w hq => ?_) _ _ hq
    cases e <;> first | exact h _ _ _ hq | skip
    simp only [Exit.inBlock] at hq ⊢
    split at hq <;> rename_i hc
    · rw [if_pos hc]; exact h _ _ _ hq
    · rw [if_neg hc]; exact h _ _ _ hq
  | loop c ih =>
    intro Q Q' h a w hq
    obtain ⟨I, μ, h0, hr⟩ := hq
    refine ⟨I, μ, h0, fun s w' hI d => ?_⟩
    refine ih _ _ (fun e a w hq => ?_) _ _ (hr s w' hI d)
    cases e <;> first | exact hq | exact h _ _ _ hq
  | rangeFunc f params x y _ _ => intro Q Q' h a w hq; exact hq.elim
  | exit id => intro Q Q' h a w hq; exact h _ _ _ hq
  | scope c ih =>
    intro Q Q' h a w hq
    refine ih _ _ (fun e a w hq => ?_) _ _ hq
    cases e <;> first | exact h _ _ _ hq | exact hq
  | label l => intro Q Q' h a w hq; exact h _ _ _ hq
  | goto l => intro Q Q' h a w hq; exact h _ _ _ hq
  | ret => intro Q Q' h a w hq; exact h _ _ _ hq
  | refuse s => intro Q Q' h a w hq; exact hq.elim
theorem fillAt_get (W ls : List Nat) (s : List Value) (d : Nat -> Value) : ∀ (l : List Value) (i k : Nat), k + i ∉ W -> (fillAt W ls s d k l)[i]? = l[i]? := by
  intro l
  induction l with
  | nil => intro i k _; simp [fillAt]
  | cons v rest ih =>
    intro i k hi
    cases i with
    | zero => have hk : k ∉ W := by simpa using hi
              simp [fillAt, hk]
    | succ i => simpa [fillAt] using ih i (k + 1) (by rw [show k + 1 + i = k + (i + 1) by omega]; exact hi)
theorem fillAt_length (W ls : List Nat) (s : List Value) (d : Nat -> Value) : ∀ (l : List Value) (k : Nat), (fillAt W ls s d k l).length = l.length := by
  intro l
  induction l with
  | nil => intro k; rfl
  | cons v rest ih => intro k; simp [fillAt, ih]
theorem Agree.refill (a : Act) (W ls : List Nat) (s : List Value) (d : Nat -> Value) : Agree W a (refill a W ls s d) :=
  ⟨by simp [Fx.refill, fillAt_length], rfl, fun i hi => by
    have := fillAt_get W ls s d a.tmps.toList i 0 (by simpa using hi)
    simpa [Fx.refill] using this⟩
theorem xR_agree {P : Program} {n : Nat} {ops : Array Oper} {Q : Act -> World -> Prop} {W : List Nat} (a0 : Act) (hl : ∀ o x, o ∈ ops.toList -> o.dst = some x -> x ∈ W) {a : Act} {w : World} (ha : Agree W a0 a) (hq : xR P n ops Q a w) : xR P n ops (fun a' w' => Q a' w' /\ Agree W a0 a') a w := by
  unfold xR at hq ⊢
  split at hq
  · rename_i hc
    rw [if_pos hc]
    obtain ⟨R, h1, h2, hs, h3⟩ := hq
    refine ⟨R, h1, h2, hs, xK_mono (fun d w hq => opsK_agree a0 _ (fun o x ho => hl o x (List.mem_of_mem_drop ho)) _ _ (ha.trans ((Agree.refill a (xW ops n) [] [] d).mono fun i hi => ?_)) hq) _ _ h3⟩
    obtain ⟨o, ho, hx⟩ := List.mem_filterMap.1 hi
    exact hl o i (List.mem_of_mem_take ho) hx
  · exact hq.elim
theorem codeK_agree {P : Program} {hs : Hints} : ∀ (c : Code) (W : List Nat) (a0 : Act) (Q : Exit -> Act -> World -> Prop) (a : Act) (w : World), (∀ i, i ∈ dsts c -> i ∈ W) ->
    Agree W a0 a -> codeK P hs c Q a w -> codeK P hs c (fun e a' w' => Q e a' w' /\ Agree W a0 a') a w := by
  intro c
  induction c with
  | skip => intro W a0 Q a w _ ha h; exact ⟨h, ha⟩
  | region id ops draw =>
    intro W a0 Q a w hW ha h
    have hl : ∀ o x, o ∈ ops.toList -> o.dst = some x -> x ∈ W := fun o x ho hx => hW x (by simp only [dsts, List.mem_filterMap]; exact ⟨o, ho, hx⟩)
    cases draw with
    | false => exact opsK_agree a0 _ hl a w ha h
    | true =>
      simp only [codeK, drawK] at h ⊢
      split at h
      · split at h
        · rename_i hc
          rw [if_pos hc]
          exact anyK_agree a0 hl (fun a w ha h => ⟨h, ha⟩) _ _ _ _ ha h
        · exact h.elim
      · split at h
        · rename_i hc
          rw [if_pos hc]
          obtain ⟨I, h0, hp⟩ := h
          exact ⟨I, h0, parK_agree a0 hl (fun a ha hk w' hw => ⟨hk w' hw, ha⟩) _ _ ha hp⟩
        · exact h.elim
      · rename_i n _ _ _
        cases hb : xBig n with
        | true => simp only [hb, cond_true] at h ⊢; generalize xN n = k at *; exact xR_agree a0 hl ha h
        | false =>
          simp only [hb, cond_false] at h ⊢
          split at h
          · rename_i hc
            rw [if_pos hc]
            refine opsS_mono (fun a' hq => ?_) _ _ (opsS_agree a0 _ (fun o x ho => hl o x (List.mem_of_mem_take ho)) a ha h)
            exact opsK_agree a0 _ (fun o x ho => hl o x (List.mem_of_mem_drop ho)) _ _ hq.2 hq.1
          · exact h.elim
      · split at h
        · rename_i hc
          rw [if_pos hc]
          exact opsS_agree a0 _ hl a ha h
        · exact h.elim
  | seq x y ihx ihy =>
    intro W a0 Q a w hW ha h
    refine codeK_mono x _ _ (fun e a' w' hq => ?_) a w (ihx W a0 _ a w (fun i hi => hW i (by simp [dsts, hi])) ha h)
    cases e <;> first | exact ihy W a0 _ _ _ (fun i hi => hW i (by simp [dsts, hi])) hq.2 hq.1 | exact hq
  | cond v x y ihx ihy =>
    intro W a0 Q a w hW ha h
    rcases h with ⟨hv, h⟩ | ⟨hv, h⟩
    · exact .inl ⟨hv, ihx W a0 _ a w (fun i hi => hW i (by simp [dsts, hi])) ha h⟩
    · exact .inr ⟨hv, ihy W a0 _ a w (fun i hi => hW i (by simp [dsts, hi])) ha h⟩
  | block id c ih =>
    intro W a0 Q a w hW ha h
    refine codeK_mono c _ _ (fun e a' w' hq => ?_) a w (ih W a0 _ a w hW ha h)
    cases e <;> first | exact hq | skip
    case exit id' =>
      simp only [Exit.inBlock] at hq ⊢
      split
      · rename_i hc; rw [if_pos hc] at hq; exact hq
      · rename_i hc; rw [if_neg hc] at hq; exact hq
  | loop c ih =>
    intro W a0 Q a w hW ha h
    obtain ⟨I, μ, h0, hr⟩ := h
    refine ⟨I, μ, h0, fun s w' hI d => ?_⟩
    refine codeK_mono c _ _ (fun e a' w' hq => ?_) _ w' (ih W a0 _ _ w' hW (ha.trans ((Agree.refill a (dsts c) _ s d).mono hW)) (hr s w' hI d))
    cases e <;> first | exact hq.1 | exact hq
  | rangeFunc f params x y _ _ => intro W a0 Q a w _ _ h; exact h.elim
  | exit id => intro W a0 Q a w _ ha h; exact ⟨h, ha⟩
  | scope c ih =>
    intro W a0 Q a w hW ha h
    refine codeK_mono c _ _ (fun e a' w' hq => ?_) a w (ih W a0 _ a w hW ha h)
    cases e <;> first | exact hq | exact hq.1
  | label l => intro W a0 Q a w _ ha h; exact ⟨h, ha⟩
  | goto l => intro W a0 Q a w _ ha h; exact ⟨h, ha⟩
  | ret => intro W a0 Q a w _ ha h; exact ⟨h, ha⟩
  | refuse s => intro W a0 Q a w _ _ h; exact h.elim
theorem wp_of_resK {P : Program} {o : Oper} {a : Act} {w : World} {K : Value -> World -> Prop} {next : Act -> World -> Prop} {Q : Exit -> Act -> World -> Prop}
    (hn : ∀ v w, K v w -> next (a.put o.dst v) w) (h : resK P K ((execOp a.eval o).run P w)) : o.wp P a w next Q := by
  unfold Oper.wp
  generalize (execOp a.eval o).run P w = r at h
  cases r with
  | halt _ _ => exact h.elim
  | ok n w' =>
    cases n <;> first | exact hn _ _ h | exact h.elim | skip
    case enter f args => exact Calls.mono h fun e w'' ⟨v, he, hk⟩ => by subst he; exact hn _ _ hk
theorem wpList_of_opsK {P : Program} {ops : Array Oper} {Q : Act -> World -> Prop} {Q' : Exit -> Act -> World -> Prop} (hQ : ∀ a w, Q a w -> Q' .normal a w) :
    ∀ (l : List Oper) (a : Act) (w : World), opsK P ops Q l a w -> wpList P ops Q' l a w := by
  intro l
  induction l with
  | nil => intro a w h; exact hQ _ _ h
  | cons o rest ih =>
    intro a w h
    refine wpList_step fun K hK => ?_
    unfold opsK at h
    cases hg : o.guard with
    | none =>
      rw [hg] at h
      rw [if_pos (by simp [Region.wanted, hg])]
      exact wp_of_resK (fun v w' hk => hK _ _ (ih _ _ hk)) h
    | some x =>
      obtain ⟨j, want⟩ := x
      rw [hg] at h
      simp only [gdK] at h
      split at h
      · rename_i hc
        rw [if_pos (by simpa [Region.wanted, hg] using hc)]
        exact wp_of_resK (fun v w' hk => hK _ _ (ih _ _ hk)) h
      · rename_i hc
        rw [if_neg (by simpa [Region.wanted, hg] using hc)]
        exact hK _ _ (ih _ _ h)
theorem still_of_resS {P : Program} {o : Oper} {a : Act} {w : World} {K : Value -> Prop} {next : Act -> Prop}
    (hn : ∀ v, K v -> next (a.put o.dst v)) (h : resS P w K ((execOp a.eval o).run P w)) : o.still P a w next := by
  unfold Oper.still
  generalize (execOp a.eval o).run P w = r at h
  cases r with
  | halt _ _ => exact h.elim
  | ok n w' =>
    cases n <;> first | exact ⟨h.1, hn _ h.2⟩ | exact h.elim | skip
    case enter f args => exact ⟨h.1, h.2.choose, h.2.choose_spec.1, hn _ h.2.choose_spec.2⟩
theorem wpStill_of_opsS {P : Program} {ops : Array Oper} {w : World} {Q Q' : Act -> Prop} (hQ : ∀ a, Q a -> Q' a) :
    ∀ (l : List Oper) (a : Act), opsS P ops w Q l a -> wpStill P ops w Q' l a := by
  intro l
  induction l with
  | nil => intro a h; exact hQ _ h
  | cons o rest ih =>
    intro a h
    refine wpStill_step fun K hK => ?_
    unfold opsS at h
    cases hg : o.guard with
    | none =>
      rw [hg] at h
      rw [if_pos (by simp [Region.wanted, hg])]
      exact still_of_resS (fun v hk => hK _ (ih _ hk)) (resS_of_stK h)
    | some x =>
      obtain ⟨j, want⟩ := x
      rw [hg] at h
      simp only [gdS] at h
      split at h
      · rename_i hc
        rw [if_pos (by simpa [Region.wanted, hg] using hc)]
        exact still_of_resS (fun v hk => hK _ (ih _ hk)) (resS_of_stK h)
      · rename_i hc
        rw [if_neg (by simpa [Region.wanted, hg] using hc)]
        exact hK _ (ih _ h)
def yieldsAll (P : Program) (ops : Array Oper) (o : Oper) (v : Value) (a : Act) : Prop :=
  (Region.wanted o (yielded ops a.tmps) = true /\ ∀ w, (execOp a.eval o).run P w = .ok (.value v) w) ∨ (Region.wanted o (yielded ops a.tmps) = false /\ v = undef)
theorem opAt_iff {P : Program} {ops : Array Oper} {i : Nat} {o : Oper} (hi : ops[i]? = some o) {K : Act -> World -> Prop} {a : Act} {w : World} :
    opAt P ops i K a w ↔ if Region.wanted o (yielded ops a.tmps) then resK P (fun v w' => K (a.put o.dst v) w') ((execOp a.eval o).run P w) else K (a.put o.dst undef) w := by
  unfold opAt
  rw [hi]
  dsimp only
  cases hg : o.guard with
  | none => simp [Region.wanted, hg]
  | some x => obtain ⟨j, want⟩ := x; simp [Region.wanted, hg, gdK]
theorem yieldsAll.opAt {P : Program} {ops : Array Oper} {i : Nat} {o : Oper} {v : Value} {a : Act} {w : World} (hi : ops[i]? = some o) (hy : yieldsAll P ops o v a) {K : Act -> World -> Prop} (h : K (a.put o.dst v) w) : opAt P ops i K a w := by
  rw [opAt_iff hi]
  rcases hy with ⟨hw, hr⟩ | ⟨hw, rfl⟩
  · rw [if_pos hw, hr]; exact h
  · rw [if_neg (by simp [hw])]; exact h
theorem yieldsAll.of_same {P : Program} {ops : Array Oper} {o : Oper} {v : Value} {a a' : Act} (hy : yieldsAll P ops o v a) (he : execOp a'.eval o = execOp a.eval o)
    (hw : Region.wanted o (yielded ops a'.tmps) = Region.wanted o (yielded ops a.tmps)) : yieldsAll P ops o v a' := by
  unfold yieldsAll at *
  rw [he, hw]
  exact hy
theorem opAt_put {P : Program} {ops : Array Oper} {j : Nat} {oi oj : Oper} {v : Value} (hj : ops[j]? = some oj) (hap : oi.apart ops oj = true)
    (hsi : ∀ cs b, oi.op ≠ .select cs b) (hsj : ∀ cs b, oj.op ≠ .select cs b) {K : Act -> World -> Prop} {a : Act} {w : World}
    (hy : yieldsAll P ops oi v a) (h : opAt P ops j K (a.put oi.dst v) w) :
    opAt P ops j (fun a' w' => yieldsAll P ops oi v a' /\ K (a'.put oi.dst v) w') a w := by
  obtain ⟨h1, h2, h3⟩ := Oper.apart_spec hap
  have keep : ∀ u, yieldsAll P ops oi v (a.put oj.dst u) := fun u =>
    hy.of_same (execOp_put oi hsi a oj.dst u h3) (wanted_put oi a oj.dst u h3)
  rw [opAt_iff hj] at h ⊢
  rw [wanted_put oj a oi.dst v h1, execOp_put oj hsj a oi.dst v h1] at h
  split at h
  · rename_i hw
    rw [if_pos hw]
    exact resK_mono (fun u w' hk => ⟨keep u, by rw [<- Act.put_comm a v u h2]; exact hk⟩) h
  · rename_i hw
    rw [if_neg hw]
    exact ⟨keep _, by rw [<- Act.put_comm a v undef h2]; exact h⟩
def anyAll (P : Program) (ops : Array Oper) (Q : Act -> World -> Prop) : Nat -> Array Bool -> Act -> World -> Prop
  | 0, listed, a, w => Region.ready .any ops listed = [] /\ Q a w
  | fuel + 1, listed, a, w => (Region.ready .any ops listed = [] -> Q a w) /\ ∀ i ∈ Region.ready .any ops listed, opAt P ops i (anyAll P ops Q fuel (listed.setIfInBounds i true)) a w
theorem wpAny_of_anyAll {P : Program} {ops : Array Oper} {Q : Act -> World -> Prop} {Q' : Exit -> Act -> World -> Prop} (hQ : ∀ a w, Q a w -> Q' .normal a w) :
    ∀ (fuel : Nat) (listed : Array Bool) (a : Act) (w : World), anyAll P ops Q fuel listed a w -> wpAny P .any ops Q' fuel listed a w
  | 0, _, _, _, h => ⟨h.1, hQ _ _ h.2⟩
  | fuel + 1, listed, a, w, h => ⟨fun h0 => hQ _ _ (h.1 h0), fun i hi => by
      have hh := h.2 i hi
      unfold wpOp
      cases ho : ops[i]? with
      | none => unfold opAt at hh; rw [ho] at hh; exact hh.elim
      | some o =>
        rw [opAt_iff ho] at hh
        dsimp only
        split
        · rename_i hw
          rw [if_pos hw] at hh
          exact .inl (wp_of_resK (fun v w' hk => wpAny_of_anyAll hQ fuel _ _ _ hk) hh)
        · rename_i hw
          rw [if_neg hw] at hh
          exact wpAny_of_anyAll hQ fuel _ _ _ hh⟩
theorem anyAll_first {P : Program} {ops : Array Oper} {Q : Act -> World -> Prop} {i : Nat} {oi : Oper} {v : Value} (hi : ops[i]? = some oi) (hsel : ∀ (j : Nat) (o : Oper) cs b, ops[j]? = some o -> o.op ≠ .select cs b) :
    ∀ (fuel : Nat) (listed : Array Bool) (a : Act) (w : World),
      (∀ j oj, ops[j]? = some oj -> j ≠ i -> listed.getD j true = false -> (∀ e ∈ oj.after, Region.binds .any e = true -> e.on ≠ i) -> oi.apart ops oj = true) ->
      i ∈ Region.ready .any ops listed -> yieldsAll P ops oi v a ->
      anyAll P ops Q fuel (listed.setIfInBounds i true) (a.put oi.dst v) w -> anyAll P ops Q (fuel + 1) listed a w := by
  intro fuel
  induction fuel with
  | zero =>
    intro listed a w _ hr hy H
    refine ⟨fun h => (by rw [h] at hr; cases hr), fun j hj => ?_⟩
    by_cases hji : j = i
    · subst hji; exact hy.opAt hi H
    · have := ready_mono hj hji
      rw [H.1] at this
      cases this
  | succ fuel ih =>
    intro listed a w hfree hr hy H
    refine ⟨fun h => (by rw [h] at hr; cases hr), fun j hj => ?_⟩
    by_cases hji : j = i
    · subst hji; exact hy.opAt hi H
    · have h1 := H.2 j (ready_mono hj hji)
      obtain ⟨hjun, oj, hoj, hall⟩ := mem_ready.1 hj
      have hnot : ∀ e ∈ oj.after, Region.binds .any e = true -> e.on ≠ i := fun e he hb heq => by
        have h1 := hall e he hb
        have h0 := (mem_ready.1 hr).1
        rw [heq] at h1
        rcases Nat.lt_or_ge i listed.size with h' | h'
        · simp [h'] at h0 h1; rw [h0] at h1; cases h1
        · simp [Array.getElem?_eq_none h'] at h1
      have h2 := opAt_put hoj (hfree j oj hoj hji hjun hnot) (fun cs b => hsel i oi cs b hi) (fun cs b => hsel j oj cs b hoj) hy h1
      have hfree' : ∀ k ok, ops[k]? = some ok -> k ≠ i -> (listed.setIfInBounds j true).getD k true = false ->
          (∀ e ∈ ok.after, Region.binds .any e = true -> e.on ≠ i) -> oi.apart ops ok = true := fun k ok hk hki hun hno => by
        refine hfree k ok hk hki ?_ hno
        by_cases hjk : j = k
        · subst hjk; exact hjun
        · rw [getD_set_ne true hjk] at hun; exact hun
      refine opAt_mono (fun v' w' h3 => ih (listed.setIfInBounds j true) _ _ hfree' (ready_mono hr (Ne.symm hji)) h3.1 ?_) h2
      rw [Array.setIfInBounds_comm _ _ hji]
      exact h3.2
theorem anyAll_of_anyK {P : Program} {ops : Array Oper} {Q : Act -> World -> Prop} (hs : Region.noSelect ops = true) : ∀ (fuel : Nat) (listed : Array Bool) (a : Act) (w : World), anyK P ops Q fuel listed a w -> anyAll P ops Q fuel listed a w := by
  intro fuel
  induction fuel with
  | zero =>
    intro listed a w h
    unfold anyK at h
    split at h
    · rename_i hr; exact ⟨hr, h⟩
    · exact h.elim
  | succ fuel ih =>
    intro listed a w h
    unfold anyK at h
    split at h
    · rename_i hr; refine ⟨fun _ => h, fun i hi => ?_⟩
      rw [hr] at hi
      cases hi
    · rename_i i0 rest hr
      split at h
      · rename_i i hf
        have hmem : i ∈ Region.ready .any ops listed := by rw [hr]; exact List.mem_of_find?_eq_some hf
        have hp := List.find?_some hf
        simp only [pureAt, Bool.and_eq_true] at hp
        cases ho : ops[i]? with
        | none => unfold opPAt at h; rw [ho] at h; exact h.elim
        | some o =>
          have hfree := Region.free_spec ho hp.2
          have key : ∃ v, yieldsAll P ops o v a /\ anyK P ops Q fuel (listed.setIfInBounds i true) (a.put o.dst v) w := by
            unfold opPAt at h
            rw [ho] at h
            dsimp only at h
            cases hg : o.guard with
            | none =>
              rw [hg] at h
              obtain ⟨v, hv, hk⟩ := resW_of_puK h
              exact ⟨v, .inl ⟨by simp [Region.wanted, hg], hv⟩, hk⟩
            | some x =>
              obtain ⟨j, want⟩ := x
              rw [hg] at h
              simp only [gdP] at h
              split at h
              · rename_i hc
                obtain ⟨v, hv, hk⟩ := resW_of_puK h
                exact ⟨v, .inl ⟨by simpa [Region.wanted, hg] using hc, hv⟩, hk⟩
              · rename_i hc
                exact ⟨undef, .inr ⟨by simpa [Region.wanted, hg] using hc, rfl⟩, h⟩
          obtain ⟨v, hy, hk⟩ := key
          exact anyAll_first ho (Region.noSelect_spec hs) fuel listed a w hfree hmem hy (ih _ _ _ hk)
      · refine ⟨fun h0 => (by rw [hr] at h0; cases h0), fun i hi => ?_⟩
        rw [hr] at hi
        exact opAt_mono (fun v w' hk => ih _ _ _ hk) (allK_all h i hi)
theorem parStep_put {P : Program} {ops : Array Oper} {I : World -> Prop} {o : Oper} {v u : Value} {a : Act} {d : Option Tmp} (hs : ∀ cs b, o.op ≠ .select cs b) (h : ∀ x, d = some x -> x ∉ o.looksAt ops) :
    parStep P ops I o v (a.put d u) ↔ parStep P ops I o v a := by
  unfold parStep
  rw [execOp_put o hs a d u h, wanted_put o a d u h]
theorem parK_front {P : Program} {ops : Array Oper} {I : World -> Prop} {Q : Act -> Prop} (hsel : ∀ (j : Nat) (o : Oper) cs b, ops[j]? = some o -> o.op ≠ .select cs b) {i : Nat} {oi : Oper} (hi : ops[i]? = some oi) {post : List Nat} :
    ∀ (pre : List Nat) (a : Act), (∀ j oj, j ∈ pre -> ops[j]? = some oj -> oj.apart ops oi = true) -> parK P ops I Q (pre ++ i :: post) a -> ∃ v, parStep P ops I oi v a /\ parK P ops I Q (pre ++ post) (a.put oi.dst v) := by
  intro pre
  induction pre with
  | nil =>
    intro a _ h
    simp only [List.nil_append] at h ⊢
    unfold parK at h
    rw [hi] at h
    exact h
  | cons j pre ih =>
    intro a hap h
    simp only [List.cons_append] at h ⊢
    unfold parK at h
    cases hj : ops[j]? with
    | none => rw [hj] at h; exact h.elim
    | some oj =>
      rw [hj] at h
      obtain ⟨vj, h1, h2⟩ := h
      obtain ⟨v, h3, h4⟩ := ih _ (fun k ok hk => hap k ok (List.mem_cons_of_mem _ hk)) h2
      obtain ⟨e1, e2, e3⟩ := Oper.apart_spec (hap j oj (List.mem_cons_self ..) hj)
      refine ⟨v, (parStep_put (fun cs b => hsel i oi cs b hi) e1).1 h3, ?_⟩
      unfold parK
      rw [hj]
      refine ⟨vj, (parStep_put (fun cs b => hsel j oj cs b hj) e3).2 h1, ?_⟩
      rw [<- Act.put_comm a vj v e2]
      exact h4
theorem anyAll_of_par {P : Program} {ops : Array Oper} {I : World -> Prop} {Q : Act -> World -> Prop} (hB : parB ops = true) :
    ∀ (fuel : Nat) (l : List Nat) (listed : Array Bool) (a : Act) (w : World), l.length <= fuel -> (∀ i, listed.getD i true = false ↔ i ∈ l) -> listed.size = ops.size -> l.Pairwise (· < ·) -> I w ->
      parK P ops I (fun a' => ∀ w', I w' -> Q a' w') l a -> anyAll P ops Q fuel listed a w := by
  simp only [parB, Bool.and_eq_true] at hB
  obtain ⟨hs, hB⟩ := hB
  have hB1 : ∀ i oi, ops[i]? = some oi -> (∀ e ∈ oi.after, Region.binds .any e = true -> e.on < i) /\ ∀ j oj, j < i -> ops[j]? = some oj -> (∃ e ∈ oi.after, Region.binds .any e = true /\ e.on = j) ∨ oj.apart ops oi = true := by
    intro i oi hi
    have h1 := List.all_eq_true.1 hB i (List.mem_range.2 (Array.getElem?_eq_some_iff.1 hi).1)
    rw [hi] at h1
    simp only [Bool.and_eq_true] at h1
    refine ⟨fun e he hb => ?_, fun j oj hj hoj => ?_⟩
    · have := Array.all_eq_true_iff_forall_mem.1 h1.1 e he
      simpa [hb, Nat.blt_eq] using this
    · have := List.all_eq_true.1 h1.2 j (List.mem_range.2 hj)
      rw [hoj] at this
      simp only [Bool.or_eq_true] at this
      rcases this with h | h
      · obtain ⟨e, he, hb⟩ := Array.any_eq_true'.1 h
        simp only [Bool.and_eq_true, beq_iff_eq] at hb
        exact .inl ⟨e, he, hb⟩
      · exact .inr h
  have hsel := Region.noSelect_spec hs
  have off : ∀ (listed : Array Bool) (l : List Nat), (∀ i, listed.getD i true = false ↔ i ∈ l) -> listed.size = ops.size -> ∀ j, j < ops.size -> j ∉ l -> listed.getD j false = true := by
    intro listed l hl hsz j hj hn
    have h1 : listed.getD j true ≠ false := fun h => hn ((hl j).1 h)
    have : j < listed.size := by omega
    simp only [Array.getD, this, dif_pos] at h1 ⊢
    simpa using h1
  intro fuel
  induction fuel with
  | zero =>
    intro l listed a w hf hl hsz hp hI hk
    obtain rfl : l = [] := List.length_eq_zero_iff.1 (by omega)
    refine ⟨?_, hk w hI⟩
    apply List.eq_nil_iff_forall_not_mem.2
    intro i hi
    exact absurd ((hl i).1 (mem_ready.1 hi).1) (by simp)
  | succ fuel ih =>
    intro l listed a w hf hl hsz hp hI hk
    refine ⟨fun hr => ?_, fun i hi => ?_⟩
    · cases l with
      | nil => exact hk w hI
      | cons i rest =>
        exfalso
        have hun := (hl i).2 (List.mem_cons_self ..)
        have hsome : ∃ oi, ops[i]? = some oi := by
          unfold parK at hk
          cases ho : ops[i]? with
          | none => rw [ho] at hk; exact hk.elim
          | some o => exact ⟨o, rfl⟩
        obtain ⟨oi, hoi⟩ := hsome
        have : i ∈ Region.ready .any ops listed := by
          refine mem_ready.2 ⟨hun, oi, hoi, fun e he hb => ?_⟩
          have hlt := (hB1 i oi hoi).1 e he hb
          have hisz := (Array.getElem?_eq_some_iff.1 hoi).1
          refine off listed _ hl hsz e.on (by omega) ?_
          intro hm
          rcases List.mem_cons.1 hm with h | h
          · omega
          · have := (List.pairwise_cons.1 hp).1 _ h
            omega
        rw [hr] at this
        cases this
    · obtain ⟨hun, oi, hoi, hall⟩ := mem_ready.1 hi
      have hm := (hl i).1 hun
      obtain ⟨pre, post, rfl⟩ := List.append_of_mem hm
      have hlt : ∀ j, j ∈ pre -> j < i := fun j hj => (List.pairwise_append.1 hp).2.2 j hj i (List.mem_cons_self ..)
      obtain ⟨v, h1, h2⟩ := parK_front hsel hoi pre a (fun j oj hj hoj => by
        rcases (hB1 i oi hoi).2 j oj (hlt j hj) hoj with ⟨e, he, hb, rfl⟩ | h
        · have h3 := hall e he hb
          have h4 := (hl e.on).2 (by simp [hj])
          have : e.on < listed.size := by rw [hsz]; exact (Array.getElem?_eq_some_iff.1 hoj).1
          simp only [Array.getD, this, dif_pos] at h3 h4
          rw [h3] at h4
          cases h4
        · exact h) hk
      have next : ∀ w', I w' -> anyAll P ops Q fuel (listed.setIfInBounds i true) (a.put oi.dst v) w' := by
        intro w' hw'
        refine ih (pre ++ post) _ _ _ (by simp at hf ⊢; omega) (fun j => ?_) (by simpa using hsz) ?_ hw' h2
        · have hisz : i < listed.size := by rw [hsz]; exact (Array.getElem?_eq_some_iff.1 hoi).1
          by_cases hji : j = i
          · subst hji
            have hn : j ∉ pre ++ post := by
              intro hmm
              rcases List.mem_append.1 hmm with h | h
              · exact absurd (hlt j h) (by omega)
              · have := (List.pairwise_cons.1 (List.pairwise_append.1 hp).2.1).1 j h
                omega
            simp [Array.getD_eq_getD_getElem?, hisz, hn]
          · rw [getD_set_ne true (Ne.symm hji), hl j]
            simp [hji]
        · exact hp.sublist (by simp)
      rw [opAt_iff hoi]
      have h3 := h1 w hI
      split
      · rename_i hw
        rw [if_pos hw] at h3
        exact resK_mono (fun v' w' hh => by obtain ⟨rfl, hh⟩ := hh; exact next w' hh) h3
      · rename_i hw
        rw [if_neg hw] at h3
        subst h3
        exact next w hI
theorem anyAll_of_parR {P : Program} {ops : Array Oper} {Q : Act -> World -> Prop} (hB : parB ops = true) {a : Act} {w : World} (h : parR (fun I => parK P ops I (fun a' => ∀ w', I w' -> Q a' w') (List.range ops.size) a) w) :
    anyAll P ops Q ops.size (Array.replicate ops.size false) a w := by
  obtain ⟨I, h0, hk⟩ := h
  refine anyAll_of_par hB ops.size _ _ a w (by simp) (fun i => ?_) (by simp) List.pairwise_lt_range h0 hk
  rw [List.mem_range]
  by_cases hi : i < ops.size
  · simp [Array.getD_eq_getD_getElem?, hi]
  · simp [Array.getD_eq_getD_getElem?, hi]
theorem refill_self {a a' : Act} {W ls : List Nat} (h : Agree W a a') : refill a W ls (live ls a') (fun i => a'.tmps.getD i undef) = a' := by
  have key : ∀ (l : List Value) (k : Nat), (∀ i, i < l.length -> (k + i ∉ W -> a'.tmps[k + i]? = l[i]?)) -> (∀ i, i < l.length -> k + i < a'.tmps.size) ->
      fillAt W ls (live ls a') (fun i => a'.tmps.getD i undef) k l = (List.range l.length).map (fun i => a'.tmps.getD (k + i) undef) := by
    intro l
    induction l with
    | nil => intro k _ _; rfl
    | cons v rest ih =>
      intro k h1 h2
      simp only [fillAt, List.length_cons, List.range_succ_eq_map, List.map_cons, List.map_map, Nat.add_zero]
      congr 1
      · by_cases hk : k ∈ W
        · rw [if_pos (by simpa using hk)]
          by_cases hl : k ∈ ls
          · rw [if_pos (by simpa using hl)]
            have hi : ls.idxOf k < ls.length := List.idxOf_lt_length_of_mem hl
            simp only [live, List.getD_eq_getElem?_getD, List.getElem?_map]
            rw [List.getElem?_eq_getElem hi, List.getElem_idxOf hi]
            rfl
          · rw [if_neg (by simpa using hl)]
        · rw [if_neg (by simpa using hk)]
          have := h1 0 (by simp) (by simpa using hk)
          simp only [Nat.add_zero, List.getElem?_cons_zero] at this
          simp [Array.getD_eq_getD_getElem?, this]
      · rw [ih (k + 1)]
        · apply List.map_congr_left
          intro i _
          show a'.tmps.getD (k + 1 + i) undef = a'.tmps.getD (k + (i + 1)) undef
          rw [show k + 1 + i = k + (i + 1) by omega]
        · intro i hi hW
          have := h1 (i + 1) (by simpa using hi) (by rw [show k + (i + 1) = k + 1 + i by omega]; exact hW)
          rw [show k + 1 + i = k + (i + 1) by omega, this]
          simp
        · intro i hi
          have := h2 (i + 1) (by simpa using hi)
          omega
  have hk := key a.tmps.toList 0 (fun i _ hW => by rw [Nat.zero_add] at hW ⊢; rw [h.same i hW]; simp) (fun i hi => by rw [h.size]; simpa using hi)
  have hsz := h.size
  cases a' with
  | mk t d =>
    simp only [refill]
    rw [hk]
    congr 1
    · apply Array.ext
      · simpa using hsz.symm
      · intro i h1 h2
        simp [Array.getD, h2]
    · exact h.defers.symm
/-- the words of all operations at once. -/
theorem xK_get {P : Program} {ops : Array Oper} {R : World -> World -> Prop} {w0 : World} {a0 : Act} {W F : List Nat} {Q : Act -> World -> Prop} :
    ∀ (l : List Nat) (ps : List (Nat × Nat × (Value -> World -> Prop))), l.Nodup -> (∀ i x p, (i, x, p) ∈ ps -> i ∉ l /\ xHas ops i x p /\ ∀ v w w', R w w' -> p v w -> p v w') -> xK P ops R w0 a0 W F Q l ps ->
    ∃ qs : List (Nat × Nat × (Value -> World -> Prop)), (∀ e, e ∈ ps -> e ∈ qs) /\ (∀ i x p, (i, x, p) ∈ qs -> xHas ops i x p /\ ∀ v w w', R w w' -> p v w -> p v w') /\ (∀ i, i ∉ l -> ∀ x p, (i, x, p) ∈ qs -> (i, x, p) ∈ ps) /\
      (∀ i ∈ l, ∃ o p pi, ops[i]? = some o /\ (∀ e, e ∈ pi -> e ∈ qs) /\ (allX R w0 fun d w => xDeps (xOn o) d w pi -> xStep P ops o (okX R w (xPo ops o d p)) (refill a0 W [] [] d) w) /\ ∀ x p', (i, x, p') ∈ qs -> (o.dst = some x /\ p' = p) ∨ (o.dst = none /\ ((xAdr ops o = some x /\ p' = p) ∨ (xAdr ops o = none /\ p' = fun _ w => ∃ v, p v w)))) /\
      allX R w0 fun d w => xAll d w qs -> xDist d F -> Q (refill a0 W [] [] d) w := by
  intro l
  induction l with
  | nil => intro ps _ hps h; exact ⟨ps, fun _ h => h, fun i x p hm => (hps i x p hm).2, fun _ _ _ _ h => h, fun i hi => (nomatch hi), h⟩
  | cons i rest ih =>
    intro ps hn hps h
    rw [List.nodup_cons] at hn
    unfold xK at h
    cases ho : ops[i]? with
    | none => rw [ho] at h; exact h.elim
    | some o =>
      rw [ho] at h
      obtain ⟨p, h1, h2, h3⟩ := h
      have hsub : ∀ e, e ∈ ps -> e ∈ xPut ops i p o ps := by
        intro e he
        unfold xPut
        split
        · exact List.mem_append_left _ he
        · split <;> exact List.mem_append_left _ he
      have hnew : ∀ j x q, (j, x, q) ∈ xPut ops i p o ps -> (j, x, q) ∈ ps ∨ (j = i /\ ((o.dst = some x /\ q = p) ∨ (o.dst = none /\ ((xAdr ops o = some x /\ q = p) ∨ (xAdr ops o = none /\ q = fun _ w => ∃ v, p v w))))) := by
        intro j x q hm
        unfold xPut at hm
        split at hm
        · rename_i y hy
          rcases List.mem_append.1 hm with hm | hm
          · exact .inl hm
          · simp only [List.mem_singleton, Prod.mk.injEq] at hm
            obtain ⟨rfl, rfl, rfl⟩ := hm
            exact .inr ⟨rfl, .inl ⟨hy, rfl⟩⟩
        · rename_i hy
          split at hm
          · rename_i y hz
            rcases List.mem_append.1 hm with hm | hm
            · exact .inl hm
            · simp only [List.mem_singleton, Prod.mk.injEq] at hm
              obtain ⟨rfl, rfl, rfl⟩ := hm
              exact .inr ⟨rfl, .inr ⟨hy, .inl ⟨hz, rfl⟩⟩⟩
          · rename_i hz
            rcases List.mem_append.1 hm with hm | hm
            · exact .inl hm
            · simp only [List.mem_singleton, Prod.mk.injEq] at hm
              obtain ⟨rfl, rfl, rfl⟩ := hm
              exact .inr ⟨rfl, .inr ⟨hy, .inr ⟨hz, rfl⟩⟩⟩
      obtain ⟨qs, q1, q2, q3, q4, q5⟩ := ih _ hn.2 (fun j x q hm => by
        rcases hnew j x q hm with hm | ⟨rfl, ⟨hx, rfl⟩ | ⟨hx, ⟨hz, rfl⟩ | ⟨hz, rfl⟩⟩⟩
        · obtain ⟨a, b⟩ := hps j x q hm
          exact ⟨fun hc => a (List.mem_cons_of_mem _ hc), b⟩
        · exact ⟨hn.1, ⟨o, ho, .inl hx⟩, h1⟩
        · exact ⟨hn.1, ⟨o, ho, .inr ⟨hx, .inl hz⟩⟩, h1⟩
        · exact ⟨hn.1, ⟨o, ho, .inr ⟨hx, .inr fun _ _ _ h => h⟩⟩, fun _ w w' hR h => h.elim fun v hv => ⟨v, h1 v w w' hR hv⟩⟩) h3
      refine ⟨qs, fun e he => q1 e (hsub e he), q2, fun j hj x q hm => ?_, fun j hj => ?_, q5⟩
      · rcases hnew j x q (q3 j (fun hc => hj (List.mem_cons_of_mem _ hc)) x q hm) with hm | ⟨rfl, _⟩
        · exact hm
        · exact absurd (List.mem_cons_self ..) hj
      · rcases List.mem_cons.1 hj with rfl | hj
        · refine ⟨o, p, ps, ho, fun e he => q1 e (hsub e he), h2, fun x p' hm => ?_⟩
          rcases hnew j x p' (q3 j hn.1 x p' hm) with hm | ⟨_, hx⟩
          · exact absurd (List.mem_cons_self ..) (hps j x p' hm).1
          · exact hx
        · exact q4 j hj
theorem xBound_gone {ops : Array Oper} {U : Nat -> Prop} (hcl : ∀ i oi, ops[i]? = some oi -> ¬ U i -> ∀ e ∈ oi.after, Region.binds .any e = true -> ¬ U e.on) :
    ∀ (f i j : Nat) (oi : Oper), ops[i]? = some oi -> (∀ e ∈ oi.after, Region.binds .any e = true -> ¬ U e.on) -> xBound ops f i j = true -> ¬ U j := by
  intro f
  induction f with
  | zero => intro i j oi _ _ h; cases h
  | succ f ih =>
    intro i j oi ho hd h
    unfold xBound at h
    rw [ho] at h
    simp only [Bool.or_eq_true] at h
    rcases h with h | h
    · obtain ⟨e, he, hb⟩ := Array.any_eq_true'.1 h
      simp only [Bool.and_eq_true, beq_iff_eq] at hb
      obtain ⟨hb1, rfl⟩ := hb
      exact hd e he hb1
    · obtain ⟨e, he, hb⟩ := Array.any_eq_true'.1 h
      simp only [Bool.and_eq_true] at hb
      cases hx : ops[e.on]? with
      | none =>
        have h2 := hb.2
        cases f with
        | zero => cases h2
        | succ f => unfold xBound at h2; rw [hx] at h2; cases h2
      | some ox => exact ih e.on j ox hx (hcl e.on ox hx (hd e he hb.1)) hb.2
theorem anyAll_tail {P : Program} {ops : Array Oper} {Q : Act -> World -> Prop} {n : Nat} (hB : ∀ i oi, ops[i]? = some oi -> (∀ e ∈ oi.after, Region.binds .any e = true -> e.on < i) /\ (n <= i -> ∀ j, j < i -> xBound ops 4 i j = true)) :
    ∀ (k m fuel : Nat) (listed : Array Bool) (a : Act) (w : World), m + k = ops.size -> n <= m -> k <= fuel -> listed.size = ops.size -> (∀ i, listed.getD i true = false ↔ m <= i /\ i < ops.size) -> opsK P ops Q (ops.toList.drop m) a w -> anyAll P ops Q fuel listed a w := by
  intro k
  induction k with
  | zero =>
    intro m fuel listed a w hm hn hf hsz hl h
    have hd : ops.toList.drop m = [] := List.drop_eq_nil_of_le (by simp; omega)
    rw [hd] at h
    have hr : Region.ready .any ops listed = [] := by
      apply List.eq_nil_iff_forall_not_mem.2
      intro i hi
      have := (hl i).1 (mem_ready.1 hi).1
      omega
    cases fuel with
    | zero => exact ⟨hr, h⟩
    | succ f => exact ⟨fun _ => h, fun i hi => by rw [hr] at hi; cases hi⟩
  | succ k ih =>
    intro m fuel listed a w hm hn hf hsz hl h
    obtain ⟨f, rfl⟩ : ∃ f, fuel = f + 1 := ⟨fuel - 1, by omega⟩
    have hms : m < ops.size := by omega
    obtain ⟨om, hom⟩ : ∃ om, ops[m]? = some om := ⟨_, Array.getElem?_eq_getElem hms⟩
    have hd : ops.toList.drop m = om :: ops.toList.drop (m + 1) := by
      have h2 : m < ops.toList.length := by simpa using hms
      rw [List.drop_eq_getElem_cons h2]
      congr 1
      have := (Array.getElem?_eq_some_iff.1 hom).2
      simpa using this
    have hrm : m ∈ Region.ready .any ops listed := by
      refine mem_ready.2 ⟨(hl m).2 ⟨Nat.le_refl _, hms⟩, om, hom, fun e he hb => ?_⟩
      have hlt := (hB m om hom).1 e he hb
      have h1 : listed.getD e.on true ≠ false := fun hc => by have := (hl e.on).1 hc; omega
      have hsz2 : e.on < listed.size := by omega
      simp only [Array.getD, hsz2, dif_pos] at h1 ⊢
      simpa using h1
    refine ⟨fun h0 => (by rw [h0] at hrm; cases hrm), fun i hi => ?_⟩
    obtain ⟨hun, oi, hoi, hall⟩ := mem_ready.1 hi
    have hmi := (hl i).1 hun
    have him : i = m := by
      rcases Nat.lt_or_ge m i with hlt | hge
      · exfalso
        have hb := (hB i oi hoi).2 (by omega) m hlt
        have hU : ∀ x, x < i -> listed.getD x false = true -> ¬ m <= x := by
          intro x hx h1 hmx
          have h0 := (hl x).2 ⟨hmx, by omega⟩
          have hsz2 : x < listed.size := by omega
          simp only [Array.getD, hsz2, dif_pos] at h1 h0
          rw [h0] at h1
          cases h1
        exact xBound_gone (U := fun x => m <= x) (fun x ox hx hn2 e he hb2 => by have := (hB x ox hx).1 e he hb2; omega) 4 i m oi hoi (fun e he hb2 => hU e.on ((hB i oi hoi).1 e he hb2) (hall e he hb2)) hb (Nat.le_refl _)
      · omega
    subst him
    rw [hom] at hoi
    cases hoi
    rw [hd] at h
    have next : ∀ a' w', opsK P ops Q (ops.toList.drop (i + 1)) a' w' -> anyAll P ops Q f (listed.setIfInBounds i true) a' w' := by
      intro a' w' hk
      refine ih (i + 1) f _ a' w' (by omega) (by omega) (by omega) (by simpa using hsz) (fun j => ?_) hk
      by_cases hji : j = i
      · subst hji
        have : j < listed.size := by omega
        simp [Array.getD_eq_getD_getElem?, this]
        omega
      · rw [getD_set_ne true (Ne.symm hji), hl j]
        omega
    rw [opAt_iff hom]
    unfold opsK at h
    cases hg : om.guard with
    | none =>
      rw [hg] at h
      rw [if_pos (by simp [Region.wanted, hg])]
      exact resK_mono (fun v w' hk => next _ _ hk) h
    | some x =>
      obtain ⟨j, want⟩ := x
      rw [hg] at h
      simp only [gdK] at h
      split at h
      · rename_i hc
        rw [if_pos (by simpa [Region.wanted, hg] using hc)]
        exact resK_mono (fun v w' hk => next _ _ hk) h
      · rename_i hc
        rw [if_neg (by simpa [Region.wanted, hg] using hc)]
        exact next _ _ h
theorem xDeps_of {on : List Nat} {d : Nat -> Value} {w : World} : ∀ {ps : List (Nat × Nat × (Value -> World -> Prop))}, (∀ j x p, (j, x, p) ∈ ps -> j ∈ on -> p (d x) w) -> xDeps on d w ps
  | [], _ => trivial
  | (j, x, p) :: _, h => by
    unfold xDeps
    cases hc : on.contains j with
    | true => exact ⟨h j x p (List.mem_cons_self ..) (by simpa using hc), xDeps_of fun j x p hm => h j x p (List.mem_cons_of_mem _ hm)⟩
    | false => exact xDeps_of fun j x p hm => h j x p (List.mem_cons_of_mem _ hm)
theorem xAll_of {d : Nat -> Value} {w : World} : ∀ {ps : List (Nat × Nat × (Value -> World -> Prop))}, (∀ j x p, (j, x, p) ∈ ps -> p (d x) w) -> xAll d w ps
  | [], _ => trivial
  | (j, x, p) :: _, h => ⟨h j x p (List.mem_cons_self ..), xAll_of fun j x p hm => h j x p (List.mem_cons_of_mem _ hm)⟩
theorem len_ge : ∀ (k n : Nat) (l : List Nat), (∀ i, n <= i -> i < n + k -> i ∈ l) -> k <= l.length
  | 0, _, _, _ => Nat.zero_le _
  | k + 1, n, l, h => by
    have hm := h n (Nat.le_refl _) (by omega)
    have := len_ge k (n + 1) (l.erase n) fun i h1 h2 => (List.mem_erase_of_ne (by omega)).2 (h i (by omega) (by omega))
    rw [List.length_erase_of_mem hm] at this
    have hp := List.length_pos_of_mem hm
    omega
theorem dst_inj {ops : Array Oper} {n i j x : Nat} {oi oj : Oper} (hnd : (xW ops n).Nodup) (hj : j < n) (hi : i < n) (hoj : ops[j]? = some oj) (hoi : ops[i]? = some oi) (hx : oj.dst = some x) (hy : oi.dst = some x) : j = i := by
  have aux : ∀ (l : List Oper), (l.filterMap (·.dst)).Nodup -> ∀ (i j : Nat) (oi oj : Oper), l[i]? = some oi -> l[j]? = some oj -> oi.dst = some x -> oj.dst = some x -> j = i := by
    intro l
    induction l with
    | nil => intro _ i j oi oj h; simp at h
    | cons o l ih =>
      intro hn i j oi oj h1 h2 h3 h4
      have hmem : ∀ (k : Nat) (ok : Oper), l[k]? = some ok -> ok.dst = some x -> x ∈ l.filterMap (·.dst) := fun k ok hk hd => List.mem_filterMap.2 ⟨ok, List.mem_of_getElem? hk, hd⟩
      have hn2 : (l.filterMap (·.dst)).Nodup := by
        rw [List.filterMap_cons] at hn
        split at hn
        · exact hn
        · exact (List.nodup_cons.1 hn).2
      have hn3 : o.dst = some x -> x ∉ l.filterMap (·.dst) := by
        intro hd
        rw [List.filterMap_cons, hd] at hn
        exact (List.nodup_cons.1 hn).1
      cases i with
      | zero =>
        cases j with
        | zero => rfl
        | succ j =>
          simp only [List.getElem?_cons_zero, Option.some.injEq] at h1
          subst h1
          exact absurd (hmem j oj h2 h4) (hn3 h3)
      | succ i =>
        cases j with
        | zero =>
          simp only [List.getElem?_cons_zero, Option.some.injEq] at h2
          subst h2
          exact absurd (hmem i oi h1 h3) (hn3 h4)
        | succ j => rw [ih hn2 i j oi oj h1 h2 h3 h4]
  refine aux _ hnd i j oi oj ?_ ?_ hy hx
  · rw [List.getElem?_take_of_lt hi]; simpa using hoi
  · rw [List.getElem?_take_of_lt hj]; simpa using hoj
theorem dist_of {ops : Array Oper} {n : Nat} {l : List Nat} {d : Nat -> Value} (h : ∀ i oi x j oj y, ops[i]? = some oi -> i < n -> i ∉ l -> xNew oi = some x -> ops[j]? = some oj -> j < n -> j ∉ l -> xNew oj = some y -> i ≠ j -> d x ≠ d y) (hl : ∀ i, i < n -> i ∉ l) : xDist d (xFresh ops n) := by
  unfold xDist xFresh
  rw [List.pairwise_filterMap, List.pairwise_iff_getElem]
  intro i j hi hj hij x hx y hy
  have hi2 : i < n /\ i < ops.size := by simp at hi; omega
  have hj2 : j < n /\ j < ops.size := by simp at hj; omega
  rw [List.getElem_take] at hx hy
  refine h i ops[i] x j ops[j] y (Array.getElem?_eq_getElem hi2.2) hi2.1 (hl i hi2.1) (by simpa using hx) (Array.getElem?_eq_getElem hj2.2) hj2.1 (hl j hj2.1) (by simpa using hy) (by omega)
theorem anyAll_of_x {P : Program} {ops : Array Oper} {Q : Act -> World -> Prop} {n : Nat} (hB : xB ops n = true) {a : Act} {w : World} (hsize : ∀ x ∈ xW ops n, x < a.tmps.size)
    (h : relX fun R => xK P ops R w a (xW ops n) (xFresh ops n) (fun a w => opsK P ops Q (ops.toList.drop n) a w) (List.range n) []) : anyAll P ops Q ops.size (Array.replicate ops.size false) a w := by
  simp only [xB, Bool.and_eq_true] at hB
  obtain ⟨⟨hn, hnd⟩, hB⟩ := hB
  rw [Nat.ble_eq] at hn
  have hnd := nodupB_spec hnd
  have hB1 : ∀ i oi, ops[i]? = some oi -> (∀ e ∈ oi.after, Region.binds .any e = true -> e.on < i) /\ (n <= i -> ∀ j, j < i -> xBound ops 4 i j = true) := by
    intro i oi hi
    have h1 := List.all_eq_true.1 hB i (List.mem_range.2 (Array.getElem?_eq_some_iff.1 hi).1)
    rw [hi] at h1
    simp only [Bool.and_eq_true] at h1
    refine ⟨fun e he hb => ?_, fun hni j hj => ?_⟩
    · have := Array.all_eq_true_iff_forall_mem.1 h1.1 e he
      simpa [hb, Nat.blt_eq] using this
    · have h2 := h1.2
      simp only [Bool.or_eq_true, Nat.blt_eq] at h2
      rcases h2 with h2 | h2
      · omega
      · exact List.all_eq_true.1 h2 j (List.mem_range.2 hj)
  obtain ⟨R, hrefl, htrans, hgrow, hk⟩ := h
  have fresh_of : ∀ (o : Oper) (ρ : Operand -> Value) (w : World) (K : Value -> World -> Prop) (x : Nat), xNew o = some x -> resK P K ((execOp ρ o).run P w) -> resK P (fun v w' => K v w' /\ v = .pointer (some ⟨w.heap.size, 0, none⟩) /\ w.heap.size < w'.heap.size) ((execOp ρ o).run P w) := by
    intro o ρ w K x hx h
    unfold xNew at hx
    split at hx
    · rename_i t hop hg
      have e : (execOp ρ o).run P w = ((Instr.alloc t true (.tuple #[])).run P w).andThen fun v w' => .ok (.value v) w' := by
        unfold execOp
        rw [hop]
        dsimp only
        rw [Sem.run_bind]
        rfl
      rw [e] at h ⊢
      unfold Instr.alloc at h ⊢
      simp only [Sem.run_bind] at h ⊢
      cases hz : (zeroValue t).run P w with
      | halt y w' => rw [hz] at h; exact h.elim
      | ok z w1 =>
        have hw1 := Go.MapKept.run_zeroValue_world hz
        subst hw1
        rw [hz] at h
        exact ⟨h, rfl, by show w1.heap.size < (w1.heap.push _).size; simp⟩
    · cases hx
  obtain ⟨qs, -, q2, q3, q4, q5⟩ := xK_get (List.range n) [] List.nodup_range (fun _ _ _ hm => nomatch hm) hk
  have q3 : ∀ j x p, (j, x, p) ∈ qs -> j < n := by
    intro j x p hm
    by_cases hj : j ∈ List.range n
    · exact List.mem_range.1 hj
    · exact nomatch q3 j hj x p hm
  have key : ∀ (fuel : Nat) (l : List Nat) (listed : Array Bool) (a' : Act) (w' : World), l.length <= fuel -> (∀ i, listed.getD i true = false ↔ i ∈ l) -> listed.size = ops.size -> l.Pairwise (· < ·) -> R w w' -> Agree (xW ops n) a a' ->
      (∀ i oi x, ops[i]? = some oi -> i < n -> i ∉ l -> xNew oi = some x -> ∃ b, a'.tmps.getD x undef = .pointer (some ⟨b, 0, none⟩) /\ b < w'.heap.size) -> (∀ i oi x j oj y, ops[i]? = some oi -> i < n -> i ∉ l -> xNew oi = some x -> ops[j]? = some oj -> j < n -> j ∉ l -> xNew oj = some y -> i ≠ j -> a'.tmps.getD x undef ≠ a'.tmps.getD y undef) ->
      (∀ j x p, (j, x, p) ∈ qs -> j ∉ l -> p (a'.tmps.getD x undef) w') -> (∀ i, n <= i -> i < ops.size -> i ∈ l) -> (∀ i ∈ l, i < ops.size) -> (∀ i oi, ops[i]? = some oi -> i ∉ l -> ∀ e ∈ oi.after, Region.binds .any e = true -> e.on ∉ l) -> anyAll P ops Q fuel listed a' w' := by
    intro fuel
    induction fuel with
    | zero =>
      intro l listed a' w' hf hl hsz hp hR hA hfr hdi hinv ht hlo hcl
      obtain rfl : l = [] := List.length_eq_zero_iff.1 (by omega)
      have hns : n = ops.size := by
        rcases Nat.lt_or_ge n ops.size with h | h
        · exact absurd (ht n (Nat.le_refl _) h) (by simp)
        · omega
      have hq := q5 (fun i => a'.tmps.getD i undef) w' hR (xAll_of fun j x p hm => hinv j x p hm (by simp)) (dist_of hdi fun i _ => by simp)
      rw [show ([] : List Value) = live [] a' from rfl, refill_self hA] at hq
      refine anyAll_tail hB1 0 n 0 listed a' w' (by omega) (Nat.le_refl _) (Nat.le_refl _) hsz (fun i => ?_) hq
      rw [hl i]
      simp
      omega
    | succ fuel ih =>
      intro l listed a' w' hf hl hsz hp hR hA hfr hdi hinv ht hlo hcl
      by_cases hdone : ∀ i ∈ l, n <= i
      · have hq := q5 (fun i => a'.tmps.getD i undef) w' hR (xAll_of fun j x p hm => hinv j x p hm fun hc => by
          have h1 := hdone j hc
          have h2 := q3 j x p hm
          omega) (dist_of hdi fun i hi hc => by have := hdone i hc; omega)
        rw [show ([] : List Value) = live [] a' from rfl, refill_self hA] at hq
        refine anyAll_tail hB1 (ops.size - n) n (fuel + 1) listed a' w' (by omega) (Nat.le_refl _) ?_ hsz (fun i => ?_) hq
        · refine Nat.le_trans (len_ge _ n l fun i h1 h2 => ht i h1 (by omega)) hf
        · rw [hl i]
          exact ⟨fun hi => ⟨hdone i hi, hlo i hi⟩, fun hi => ht i hi.1 hi.2⟩
      · obtain ⟨i0, hi0, hi0n⟩ : ∃ i0, i0 ∈ l /\ i0 < n := by
          simp only [Classical.not_forall, Nat.not_le] at hdone
          obtain ⟨i0, h1, h2⟩ := hdone
          exact ⟨i0, h1, h2⟩
        refine ⟨fun hr => ?_, fun i hi => ?_⟩
        · exfalso
          cases l with
          | nil => cases hi0
          | cons i rest =>
            have his := hlo i (List.mem_cons_self ..)
            have : i ∈ Region.ready .any ops listed := by
              refine mem_ready.2 ⟨(hl i).2 (List.mem_cons_self ..), _, Array.getElem?_eq_getElem his, fun e he hb => ?_⟩
              have hlt := (hB1 i _ (Array.getElem?_eq_getElem his)).1 e he hb
              have hm : e.on ∉ i :: rest := by
                intro hm
                rcases List.mem_cons.1 hm with h | h
                · omega
                · have := (List.pairwise_cons.1 hp).1 _ h
                  omega
              have h1 : listed.getD e.on true ≠ false := fun hc => hm ((hl e.on).1 hc)
              have hsz2 : e.on < listed.size := by omega
              simp only [Array.getD, hsz2, dif_pos] at h1 ⊢
              simpa using h1
            rw [hr] at this
            cases this
        · obtain ⟨hun, oi, hoi, hall⟩ := mem_ready.1 hi
          have hm := (hl i).1 hun
          have his := (Array.getElem?_eq_some_iff.1 hoi).1
          have hlist : ∀ j, (∃ e ∈ oi.after, Region.binds .any e = true /\ e.on = j) -> j ∉ l := by
            rintro j ⟨e, he, hb, rfl⟩ hc
            have h1 := hall e he hb
            have h0 := (hl e.on).2 hc
            have hlt := (hB1 i oi hoi).1 e he hb
            have hsz2 : e.on < listed.size := by omega
            simp only [Array.getD, hsz2, dif_pos] at h1 h0
            rw [h0] at h1
            cases h1
          have hin : i < n := by
            rcases Nat.lt_or_ge i n with h | h
            · exact h
            · exact absurd hi0 (xBound_gone (U := fun x => x ∈ l) hcl 4 i i0 oi hoi (fun e he hb => hlist e.on ⟨e, he, hb, rfl⟩) ((hB1 i oi hoi).2 h i0 (by omega)))
          obtain ⟨o, p, pi, ho, hsub, hstep, huniq⟩ := q4 i (List.mem_range.2 hin)
          rw [hoi] at ho
          cases ho
          have hs := hstep (fun i => a'.tmps.getD i undef) w' hR (xDeps_of fun j x q hmq hjo => by
            refine hinv j x q (hsub _ hmq) (hlist j ?_)
            simp only [xOn, List.mem_map, List.mem_filter, Array.mem_toList_iff] at hjo
            obtain ⟨e, ⟨he, hb⟩, heq⟩ := hjo
            exact ⟨e, he, hb, heq⟩)
          rw [show ([] : List Value) = live [] a' from rfl, refill_self hA] at hs
          obtain ⟨pre, post, hl2⟩ := List.append_of_mem hm
          have hnd2 : ∀ j, j ∈ pre ++ post ↔ j ∈ l /\ j ≠ i := by
            intro j
            subst hl2
            have hp1 := List.pairwise_append.1 hp
            have hp2 := List.pairwise_cons.1 hp1.2.1
            constructor
            · intro hj
              rcases List.mem_append.1 hj with h | h
              · have := hp1.2.2 j h i (List.mem_cons_self ..)
                exact ⟨List.mem_append_left _ h, by omega⟩
              · have := hp2.1 j h
                exact ⟨List.mem_append_right _ (List.mem_cons_of_mem _ h), by omega⟩
            · rintro ⟨hj, hne⟩
              rcases List.mem_append.1 hj with h | h
              · exact List.mem_append_left _ h
              · rcases List.mem_cons.1 h with h | h
                · exact absurd h hne
                · exact List.mem_append_right _ h
          have hdstW : ∀ x, oi.dst = some x -> x ∈ xW ops n := by
            intro x hx
            refine List.mem_filterMap.2 ⟨oi, ?_, hx⟩
            rw [List.mem_take_iff_getElem]
            refine ⟨i, by simp; omega, ?_⟩
            have := (Array.getElem?_eq_some_iff.1 hoi).2
            simpa using this
          have hnewd : ∀ (o : Oper) (x : Nat), xNew o = some x -> o.dst = some x := by
            intro o x h
            unfold xNew at h
            split at h
            · exact h
            · cases h
          have hkeep : ∀ (v : Value) (j x : Nat) (oj : Oper), ops[j]? = some oj -> j < n -> j ≠ i -> oj.dst = some x -> (a'.put oi.dst v).tmps.getD x undef = a'.tmps.getD x undef := by
            intro v j x oj hoj hjn hji hx
            cases hd : oi.dst with
            | none => rfl
            | some y =>
              have hne : y ≠ x := by
                rintro rfl
                exact hji (dst_inj hnd hjn hin hoj hoi hx hd)
              simp [Act.put, Array.getD_eq_getD_getElem?, hne]
          have hself : ∀ (v : Value) (x : Nat), oi.dst = some x -> (a'.put oi.dst v).tmps.getD x undef = v := by
            intro v x hx
            have hxs : x < a'.tmps.size := by rw [hA.size]; exact hsize x (hdstW x hx)
            simp [hx, Act.put, Array.getD_eq_getD_getElem?, hxs]
          have next : ∀ v w2, R w' w2 -> xPo ops oi (fun i => a'.tmps.getD i undef) p v w2 -> (∀ x, xNew oi = some x -> v = .pointer (some ⟨w'.heap.size, 0, none⟩) /\ w'.heap.size < w2.heap.size) -> anyAll P ops Q fuel (listed.setIfInBounds i true) (a'.put oi.dst v) w2 := by
            intro v w2 hR2 hpv hnv
            have hg2 := hgrow _ _ hR2
            have old : ∀ j oj x, ops[j]? = some oj -> j < n -> j ∉ pre ++ post -> xNew oj = some x -> j ≠ i -> ∃ b, (a'.put oi.dst v).tmps.getD x undef = .pointer (some ⟨b, 0, none⟩) /\ b < w'.heap.size := by
              intro j oj x hoj hjn hj hx hji
              rw [hkeep v j x oj hoj hjn hji (hnewd oj x hx)]
              exact hfr j oj x hoj hjn (fun hc => hj ((hnd2 j).2 ⟨hc, hji⟩)) hx
            refine ih (pre ++ post) _ _ _ (by rw [hl2] at hf; simp at hf ⊢; omega) (fun j => ?_) (by simpa using hsz) (by rw [hl2] at hp; exact hp.sublist (by simp)) (htrans _ _ _ hR hR2) (hA.trans (Agree.put v hdstW)) ?_ ?_ ?_ ?_ ?_ ?_
            · rw [hnd2 j]
              by_cases hji : j = i
              · subst hji
                have : j < listed.size := by omega
                simp [Array.getD_eq_getD_getElem?, this]
              · rw [getD_set_ne true (Ne.symm hji), hl j]
                simp [hji]
            · intro j oj x hoj hjn hj hx
              by_cases hji : j = i
              · subst hji
                rw [hoi] at hoj
                cases hoj
                rw [hself v x (hnewd oi x hx)]
                exact ⟨_, (hnv x hx).1, (hnv x hx).2⟩
              · obtain ⟨b, h1, h2⟩ := old j oj x hoj hjn hj hx hji
                exact ⟨b, h1, by omega⟩
            · intro j oj x k ok y hoj hjn hj hx hok hkn hk2 hy hjk
              by_cases hji : j = i
              · subst hji
                rw [hoi] at hoj
                cases hoj
                obtain ⟨b, h1, h2⟩ := old k ok y hok hkn hk2 hy (Ne.symm hjk)
                rw [hself v x (hnewd oi x hx), h1, (hnv x hx).1]
                intro hc
                simp only [Value.pointer.injEq, Option.some.injEq, Addr.mk.injEq] at hc
                omega
              · obtain ⟨b, h1, h2⟩ := old j oj x hoj hjn hj hx hji
                by_cases hki : k = i
                · subst hki
                  rw [hoi] at hok
                  cases hok
                  rw [hself v y (hnewd oi y hy), h1, (hnv y hy).1]
                  intro hc
                  simp only [Value.pointer.injEq, Option.some.injEq, Addr.mk.injEq] at hc
                  omega
                · rw [hkeep v j x oj hoj hjn hji (hnewd oj x hx), hkeep v k y ok hok hkn hki (hnewd ok y hy)]
                  exact hdi j oj x k ok y hoj hjn (fun hc => hj ((hnd2 j).2 ⟨hc, hji⟩)) hx hok hkn (fun hc => hk2 ((hnd2 k).2 ⟨hc, hki⟩)) hy hjk
            · intro j x q hmq hj
              obtain ⟨⟨oj, hoj, hx⟩, hst⟩ := q2 j x q hmq
              by_cases hji : j = i
              · subst hji
                rw [hoi] at hoj
                cases hoj
                rcases huniq x q hmq with ⟨hx, rfl⟩ | ⟨hx, ⟨hz, rfl⟩ | ⟨hz, rfl⟩⟩
                · unfold xPo at hpv
                  rw [xAdr_some hx] at hpv
                  rw [hx]
                  have hxs : x < a'.tmps.size := by rw [hA.size]; exact hsize x (hdstW x hx)
                  simpa [Act.put, Array.getD_eq_getD_getElem?, hxs] using hpv
                · unfold xPo at hpv
                  rw [hz] at hpv
                  rw [hx]
                  exact hpv
                · unfold xPo at hpv
                  rw [hz] at hpv
                  exact ⟨v, hpv⟩
              · have hjl : j ∉ l := fun hc => hj ((hnd2 j).2 ⟨hc, hji⟩)
                have h1 := hst _ _ _ hR2 (hinv j x q hmq hjl)
                rcases hx with hx | ⟨-, hx | hx⟩
                case inr.inr => exact hx _ _ _ h1
                case inr.inl =>
                  obtain ⟨jj, oj2, hjon, hoj2, hdj⟩ := xAdr_has hx
                  simp only [xOn, List.mem_map, List.mem_filter, Array.mem_toList_iff] at hjon
                  obtain ⟨e, ⟨he, hb⟩, rfl⟩ := hjon
                  have hnl := hcl j oj hoj hjl e he hb
                  have hlt := (hB1 j oj hoj).1 e he hb
                  have hjn := q3 j _ q hmq
                  have hni : e.on ≠ i := fun hc => hnl (by rw [hc]; exact hm)
                  have h2 : (a'.put oi.dst v).tmps.getD x undef = a'.tmps.getD x undef := by
                    cases hd : oi.dst with
                    | none => rfl
                    | some y =>
                      have hne : y ≠ x := by
                        rintro rfl
                        exact hni (dst_inj hnd (by omega) hin hoj2 hoi hdj hd)
                      simp [Act.put, Array.getD_eq_getD_getElem?, hne]
                  rw [h2]; exact h1
                have h2 : (a'.put oi.dst v).tmps.getD x undef = a'.tmps.getD x undef := by
                  cases hd : oi.dst with
                  | none => rfl
                  | some y =>
                    have hne : y ≠ x := by
                      rintro rfl
                      exact hji (dst_inj hnd (q3 j _ q hmq) hin hoj hoi hx hd)
                    simp [Act.put, Array.getD_eq_getD_getElem?, hne]
                rw [h2]; exact h1
            · intro j h1 h2
              exact (hnd2 j).2 ⟨ht j h1 h2, by omega⟩
            · intro j hj
              exact hlo j ((hnd2 j).1 hj).1
            · intro x ox hx hxl e he hb hc
              have hcm := ((hnd2 e.on).1 hc).1
              by_cases hxi : x = i
              · subst hxi
                rw [hoi] at hx
                cases hx
                exact hlist e.on ⟨e, he, hb, rfl⟩ hcm
              · exact hcl x ox hx (fun hm2 => hxl ((hnd2 x).2 ⟨hm2, hxi⟩)) e he hb hcm
          rw [opAt_iff hoi]
          unfold xStep at hs
          split
          · rename_i hw
            rw [if_pos hw] at hs
            cases hn : xNew oi with
            | none => exact resK_mono (fun v w2 hh => next v w2 hh.1 hh.2 fun x hx => by rw [hn] at hx; cases hx) hs
            | some x => exact resK_mono (fun v w2 hh => next v w2 hh.1.1 hh.1.2 fun _ _ => hh.2) (fresh_of oi _ _ _ x hn hs)
          · rename_i hw
            rw [if_neg hw] at hs
            exact next _ _ hs.1 hs.2 fun x hx => by
              unfold xNew at hx
              split at hx
              · rename_i hg
                exact absurd (by simp [Region.wanted, hg]) hw
              · cases hx
  refine key ops.size (List.range ops.size) _ a w (by simp) (fun i => ?_) (by simp) List.pairwise_lt_range (hrefl w) (Agree.refl _ _) (fun i oi x hi hin hn3 _ => absurd (List.mem_range.2 (Array.getElem?_eq_some_iff.1 hi).1) hn3) (fun i oi x j oj y hi hin hn3 _ _ _ _ _ _ => absurd (List.mem_range.2 (Array.getElem?_eq_some_iff.1 hi).1) hn3) (fun j x p hm hj => ?_) (fun i _ h => List.mem_range.2 h) (fun i h => List.mem_range.1 h) (fun i oi hi hn3 => absurd (List.mem_range.2 (Array.getElem?_eq_some_iff.1 hi).1) hn3)
  · rw [List.mem_range]
    by_cases hi : i < ops.size
    · simp [Array.getD_eq_getD_getElem?, hi]
    · simp [Array.getD_eq_getD_getElem?, hi]
  · have := q3 j x p hm
    exact absurd (List.mem_range.2 (by omega)) hj
theorem anyAll_of_xR {P : Program} {n : Nat} {ops : Array Oper} {Q : Act -> World -> Prop} {a : Act} {w : World} (h : xR P n ops Q a w) : anyAll P ops Q ops.size (Array.replicate ops.size false) a w := by
  unfold xR at h
  split at h
  · rename_i hc
    rw [Bool.and_eq_true] at hc
    exact anyAll_of_x hc.1 (fun x hx => by have := List.all_eq_true.1 hc.2 x hx; simpa [Nat.blt_eq] using this) h
  · exact h.elim
theorem code_wp {P : Program} {hs : Hints} (hm : P.follows .mixedOrders = true) : ∀ (c : Code) (Q : Exit -> Act -> World -> Prop) (a : Act) (w : World), codeK P hs c Q a w -> c.wp P Q a w := by
  intro c
  induction c with
  | skip => intro Q a w h; exact wp_skip h
  | region id ops draw =>
    intro Q a w h
    cases draw with
    | false => exact wp_region_list (wpList_of_opsK (fun _ _ h => h) _ _ _ h)
    | true =>
      simp only [codeK, drawK] at h
      split at h
      · split at h
        · rename_i hc
          exact wp_region_any hm (wpAny_of_anyAll (fun _ _ h => h) _ _ _ _ (anyAll_of_anyK hc _ _ _ _ h))
        · exact h.elim
      · split at h
        · rename_i hc
          exact wp_region_any hm (wpAny_of_anyAll (fun _ _ h => h) _ _ _ _ (anyAll_of_parR hc h))
        · exact h.elim
      · rename_i t n _ _ _
        cases hb : xBig n with
        | true => simp only [hb, cond_true] at h; generalize xN n = k at *; exact wp_region_any hm (wpAny_of_anyAll (fun _ _ h => h) _ _ _ _ (anyAll_of_xR h))
        | false =>
        simp only [hb, cond_false] at h
        split at h
        · rename_i hc
          have := wp_region_still_tail (P := P) (id := id) (Q := Q) (a := a) (w := w) (l := ops.toList) n hm (by simpa using hc)
            (by
              have h2 := wpStill_of_opsS (Q' := fun a' => wpList P ops Q (ops.toList.drop n) a' w.drew) (fun a' hq => wpList_of_opsK (fun _ _ h => h) _ _ _ hq) _ _ h
              simpa using h2)
          simpa using this
        · exact h.elim
      · split at h
        · rename_i hc
          exact wp_region_still hm hc (wpStill_of_opsS (fun _ h => h) _ _ h)
        · exact h.elim
  | seq x y ihx ihy =>
    intro Q a w h
    refine wp_seq (ihx _ a w (codeK_mono x _ _ (fun e a' w' hq => ?_) a w h))
    cases e <;> first | exact ihy _ _ _ hq | exact hq
  | cond v x y ihx ihy =>
    intro Q a w h
    rcases h with ⟨hv, h⟩ | ⟨hv, h⟩
    · exact wp_cond_true hv (ihx _ _ _ h)
    · exact wp_cond_false hv (ihy _ _ _ h)
  | block id c ih => intro Q a w h; exact wp_block (ih _ _ _ h)
  | loop c ih =>
    intro Q a w h
    obtain ⟨I, μ, h0, hr⟩ := h
    refine wp_loop (fun a' w' => I (live (hs.lv (firstRegion c)) a') w' /\ Agree (dsts c) a a') (fun a' w' => μ (live (hs.lv (firstRegion c)) a') w') ⟨h0, Agree.refl _ _⟩ ?_
    rintro a' w' ⟨hI, hA⟩
    have hb := hr _ w' hI (fun i => a'.tmps.getD i undef)
    rw [refill_self hA] at hb
    have hb2 := codeK_agree c (dsts c) a _ a' w' (fun _ h => h) hA hb
    refine ih _ _ _ (codeK_mono c _ _ (fun e a'' w'' hq => ?_) _ _ hb2)
    cases e <;> first | exact ⟨⟨hq.1.1, hq.2⟩, hq.1.2⟩ | exact hq.1
  | rangeFunc f params x y _ _ => intro Q a w h; exact h.elim
  | exit id => intro Q a w h; exact wp_exit h
  | scope c ih => intro Q a w h; exact wp_scope_straight (ih _ _ _ h)
  | label l => intro Q a w h; exact wp_label h
  | goto l => intro Q a w h; exact wp_goto h
  | ret => intro Q a w h; exact wp_ret h
  | refuse s => intro Q a w h; exact h.elim
/-- 'hi p' is p; its height is above that of what an operation's run is made of: the kernel unfolds it first. -/
def hi0 (p : Prop) : Prop := (fun (_ : Program -> (Value -> World -> Prop) -> Result Next -> Prop) (_ : (Operand -> Value) -> Oper -> Sem Next) (_ : Program -> Sem Next -> World -> Result Next) (_ : Program -> World -> (Value -> Prop) -> (Operand -> Value) -> Oper -> Prop)
  (_ : Program -> (Value -> Prop) -> (Operand -> Value) -> Oper -> Prop) => p) resK execOp Sem.run stK puK
def hi1 (p : Prop) : Prop := hi0 p
def hi2 (p : Prop) : Prop := hi1 p
def hi (p : Prop) : Prop := hi2 p
theorem beq_ne {a b : Nat} (h : a ≠ b) : Nat.beq a b = false := by
  cases hx : Nat.beq a b with
  | false => rfl
  | true => exact absurd (Nat.eq_of_beq_eq_true hx) h
def look : List (Nat × Value) -> Nat -> Value
  | [], _ => undef
  | (k, v) :: r, t => bif Nat.beq k t then v else look r t
def evE (e : List (Nat × Value)) : Operand -> Value
  | .tmp t => look e t
  | .const v => v
  | .global g => .pointer (some ⟨g, 0, none⟩)
  | .func f => .func (.func f) #[] #[]
def putE (n : Nat) (e : List (Nat × Value)) (d : Option Tmp) (v : Value) : List (Nat × Value) :=
  match d with
  | some d => bif Nat.blt d n then (d, v) :: e else e
  | none => e
def yieldedE (ops : Array Oper) (e : List (Nat × Value)) (j : Nat) : Option Bool :=
  match (ops[j]?).bind (·.dst) with
  | some d => yb (look e d)
  | none => none
structure Rep (n : Nat) (e : List (Nat × Value)) (a : Act) : Prop where
  size : a.tmps.size = n
  get : ∀ t, a.tmps.getD t undef = look e t
theorem Rep.eval {n : Nat} {e : List (Nat × Value)} {a : Act} (h : Rep n e a) : a.eval = evE e := by
  funext x
  cases x <;> first | rfl | exact h.get _
theorem Rep.yielded {n : Nat} {e : List (Nat × Value)} {a : Act} (h : Rep n e a) (ops : Array Oper) : yielded ops a.tmps = yieldedE ops e := by
  funext j
  unfold Go.yielded yieldedE
  cases (ops[j]?).bind (·.dst) with
  | none => rfl
  | some d =>
    rw [Option.bind_some]
    dsimp only
    have hg := h.get d
    rw [<- hg]
    cases hd : a.tmps[d]? with
    | none => simp [Array.getD_eq_getD_getElem?, hd, yb, undef]
    | some v =>
      rw [Array.getD_eq_getD_getElem?, hd]
      cases v <;> rfl
theorem Rep.put {n : Nat} {e : List (Nat × Value)} {a : Act} (h : Rep n e a) (d : Option Tmp) (v : Value) : Rep n (putE n e d v) (a.put d v) := by
  cases d with
  | none => exact h
  | some d =>
    refine ⟨by simp [Act.put, h.size], fun t => ?_⟩
    simp only [Act.put, putE]
    by_cases hd : d < n
    · rw [show Nat.blt d n = true from by simpa [Nat.blt_eq] using hd]
      simp only [cond_true, look]
      by_cases ht : d = t
      · subst ht
        have : d < a.tmps.size := by rw [h.size]; exact hd
        simp [Array.getD_eq_getD_getElem?, this]
      · have hb : Nat.beq d t = false := beq_ne ht
        rw [hb]
        simp only [cond_false]
        rw [<- h.get t]
        simp [Array.getD_eq_getD_getElem?, ht]
    · have hb : Nat.blt d n = false := by
        cases hx : Nat.blt d n with
        | false => rfl
        | true => exact absurd (Nat.blt_eq.mp hx) hd
      rw [hb]
      simp only [cond_false]
      rw [<- h.get t]
      have : a.tmps.setIfInBounds d v = a.tmps := by
        have hs := h.size
        have hd' : ¬ d < a.tmps.size := by rw [hs]; exact hd
        unfold Array.setIfInBounds
        rw [dif_neg hd']
      rw [this]
def opsE (P : Program) (n : Nat) (ops : Array Oper) (Q : List (Nat × Value) -> World -> Prop) : List Oper -> List (Nat × Value) -> World -> Prop
  | [], e, w => Q e w
  | o :: rest, e, w => match o.guard with
    | none => resK P (fun v w' => opsE P n ops Q rest (putE n e o.dst v) w') ((execOp (evE e) o).run P w)
    | some (j, want) => gdK (yieldedE ops e j) want (fun K => resK P K ((execOp (evE e) o).run P w)) w (fun v w' => opsE P n ops Q rest (putE n e o.dst v) w')
def opsES (P : Program) (n : Nat) (ops : Array Oper) (w : World) (Q : List (Nat × Value) -> Prop) : List Oper -> List (Nat × Value) -> Prop
  | [], e => Q e
  | o :: rest, e => match o.guard with
    | none => stK P w (fun v => opsES P n ops w Q rest (putE n e o.dst v)) (evE e) o
    | some (j, want) => gdS (yieldedE ops e j) want (fun K => stK P w K (evE e) o) (fun v => opsES P n ops w Q rest (putE n e o.dst v))
def opAtE (P : Program) (n : Nat) (ops : Array Oper) (i : Nat) (K : List (Nat × Value) -> World -> Prop) (e : List (Nat × Value)) (w : World) : Prop :=
  match ops[i]? with
  | none => False
  | some o => match o.guard with
    | none => resK P (fun v w' => K (putE n e o.dst v) w') ((execOp (evE e) o).run P w)
    | some (j, want) => gdK (yieldedE ops e j) want (fun K => resK P K ((execOp (evE e) o).run P w)) w (fun v w' => K (putE n e o.dst v) w')
def opPAtE (P : Program) (n : Nat) (ops : Array Oper) (i : Nat) (K : List (Nat × Value) -> Prop) (e : List (Nat × Value)) : Prop :=
  match ops[i]? with
  | none => False
  | some o => match o.guard with
    | none => puK P (fun v => K (putE n e o.dst v)) (evE e) o
    | some (j, want) => gdP (yieldedE ops e j) want (fun K => puK P K (evE e) o) (fun v => K (putE n e o.dst v))
def anyE (P : Program) (n : Nat) (ops : Array Oper) (Q : List (Nat × Value) -> World -> Prop) : Nat -> Array Bool -> List (Nat × Value) -> World -> Prop
  | 0, listed, e, w => match Region.ready .any ops listed with
    | [] => Q e w
    | _ => False
  | fuel + 1, listed, e, w => match Region.ready .any ops listed with
    | [] => Q e w
    | i :: rest => match (i :: rest).find? (pureAt ops listed) with
      | some i => opPAtE P n ops i (fun e' => anyE P n ops Q fuel (listed.setIfInBounds i true) e' w) e
      | none => allK (i :: rest) fun i => opAtE P n ops i (anyE P n ops Q fuel (listed.setIfInBounds i true)) e w
def parE (P : Program) (n : Nat) (ops : Array Oper) (I : World -> Prop) (Q : List (Nat × Value) -> Prop) : List Nat -> List (Nat × Value) -> Prop
  | [], e => Q e
  | i :: rest, e => match ops[i]? with
    | none => False
    | some o => match o.guard with
      | none => inK P I (fun v => parE P n ops I Q rest (putE n e o.dst v)) (evE e) o
      | some (j, want) => gdP (yieldedE ops e j) want (fun K => inK P I K (evE e) o) (fun v => parE P n ops I Q rest (putE n e o.dst v))
def refillE (n : Nat) (W ls : List Nat) (s : List Value) (d : Nat -> Value) (e : List (Nat × Value)) : List (Nat × Value) :=
  (W.filter (fun i => Nat.blt i n)).map (fun i => (i, if ls.contains i then s.getD (ls.idxOf i) undef else d i)) ++ e
def xStepE (P : Program) (ops : Array Oper) (o : Oper) (K : Value -> World -> Prop) (e : List (Nat × Value)) (w : World) : Prop := match o.guard with
  | none => resK P K ((execOp (evE e) o).run P w)
  | some (j, want) => gdK (yieldedE ops e j) want (fun K => resK P K ((execOp (evE e) o).run P w)) w K
def xE (P : Program) (n : Nat) (ops : Array Oper) (R : World -> World -> Prop) (w0 : World) (e0 : List (Nat × Value)) (W F : List Nat) (Q : List (Nat × Value) -> World -> Prop) : List Nat -> List (Nat × Nat × (Value -> World -> Prop)) -> Prop
  | [], ps => allX R w0 fun d w => xAll d w ps -> xDist d F -> Q (refillE n W [] [] d e0) w
  | i :: rest, ps => match ops[i]? with
    | none => False
    | some o => postX R (fun p => allX R w0 fun d w => xDeps (xOn o) d w ps -> xStepE P ops o (okX R w (xPo ops o d p)) (refillE n W [] [] d e0) w) (fun p => xE P n ops R w0 e0 W F Q rest (xPut ops i p o ps))
def xRE (P : Program) (n m : Nat) (ops : Array Oper) (Q : List (Nat × Value) -> World -> Prop) (e : List (Nat × Value)) (w : World) : Prop :=
  if xB ops m && (xW ops m).all (fun x => Nat.blt x n) then relX (fun R => xE P n ops R w e (xW ops m) (xFresh ops m) (fun e' w' => opsE P n ops Q (ops.toList.drop m) e' w') (List.range m) []) else False
def drawE (P : Program) (n : Nat) (t : Option Nat) (ops : Array Oper) (Q : List (Nat × Value) -> World -> Prop) (e : List (Nat × Value)) (w : World) : Prop :=
  match t with
  | some 999 => if Region.noSelect ops then anyE P n ops Q ops.size (Array.replicate ops.size false) e w else False
  | some 998 => if parB ops then parR (fun I => parE P n ops I (fun e' => allI I (fun w' => Q e' w')) (List.range ops.size) e) w else False
  | some m => bif xBig m then xRE P n (xN m) ops Q e w else if Region.lexTailB .any ops m then opsES P n ops w (fun e' => opsE P n ops Q (ops.toList.drop m) e' w) (ops.toList.take m) e else False
  | none => if Region.lexB .any ops then opsES P n ops w (fun e' => Q e' w) ops.toList e else False
def liveE (ls : List Nat) (e : List (Nat × Value)) : List Value := ls.map (look e)
def thenE (next : List (Nat × Value) -> World -> Prop) (Q : Exit -> List (Nat × Value) -> World -> Prop) : Exit -> List (Nat × Value) -> World -> Prop
  | .normal, e, w => hi (next e w)
  | x, e, w => hi (Q x e w)
def inBlockE (id : Nat) (Q : Exit -> List (Nat × Value) -> World -> Prop) : Exit -> List (Nat × Value) -> World -> Prop
  | .exit id', e, w => hi (bif Nat.beq id' id then Q .normal e w else Q (.exit id') e w)
  | x, e, w => hi (Q x e w)
def noGotoE (Q : Exit -> List (Nat × Value) -> World -> Prop) : Exit -> List (Nat × Value) -> World -> Prop
  | .goto _, _, _ => False
  | x, e, w => hi (Q x e w)
def codeE (P : Program) (hs : Hints) (n : Nat) : Code -> (Exit -> List (Nat × Value) -> World -> Prop) -> List (Nat × Value) -> World -> Prop
  | .skip, Q, e, w => Q .normal e w
  | .region _ ops false, Q, e, w => opsE P n ops (Q .normal) ops.toList e w
  | .region id ops true, Q, e, w => drawE P n (hs.tail id) ops (Q .normal) e w.drew
  | .seq x y, Q, e, w => match hs.jn (firstRegion y) with
    | none => codeE P hs n x (thenE (codeE P hs n y Q) Q) e w
    | some ls => joinL (fun J => codeE P hs n x (thenE (fun e' w' => J (liveE ls e') w') Q) e w) (fun s w' => ∀ d : Nat -> Value, codeE P hs n y Q (refillE n (dsts x) ls s d e) w')
  | .cond c x y, Q, e, w => condK (evE e c) (codeE P hs n x Q e w) (codeE P hs n y Q e w)
  | .block id c, Q, e, w => codeE P hs n c (inBlockE id Q) e w
  | .loop c, Q, e, w => loopT (fun R s w' => ∀ d : Nat -> Value, codeE P hs n c (thenE (fun e'' w'' => R (liveE (hs.lv (firstRegion c)) e'') w'') Q) (refillE n (dsts c) (hs.lv (firstRegion c)) s d e) w') (liveE (hs.lv (firstRegion c)) e) w
  | .exit id, Q, e, w => Q (.exit id) e w
  | .scope c, Q, e, w => codeE P hs n c (noGotoE Q) e w
  | .label _, Q, e, w => Q .normal e w
  | .goto l, Q, e, w => Q (.goto l) e w
  | .ret, Q, e, w => Q .ret e w
  | _, _, _, _ => False
theorem opsK_of_E {P : Program} {n : Nat} {ops : Array Oper} {Q : Act -> World -> Prop} {QE : List (Nat × Value) -> World -> Prop} (hQ : ∀ e a w, Rep n e a -> QE e w -> Q a w) :
    ∀ (l : List Oper) (e : List (Nat × Value)) (a : Act) (w : World), Rep n e a -> opsE P n ops QE l e w -> opsK P ops Q l a w := by
  intro l
  induction l with
  | nil => intro e a w hr h; exact hQ _ _ _ hr h
  | cons o rest ih =>
    intro e a w hr h
    unfold opsE at h
    unfold opsK
    rw [hr.eval, hr.yielded]
    cases hg : o.guard with
    | none => rw [hg] at h; exact resK_mono (fun v w' hk => ih _ _ _ (hr.put _ v) hk) h
    | some x =>
      obtain ⟨j, want⟩ := x
      rw [hg] at h
      simp only [gdK] at h ⊢
      split at h
      · rename_i hc; rw [if_pos hc]; exact resK_mono (fun v w' hk => ih _ _ _ (hr.put _ v) hk) h
      · rename_i hc; rw [if_neg hc]; exact ih _ _ _ (hr.put _ _) h
theorem opsS_of_E {P : Program} {n : Nat} {ops : Array Oper} {w : World} {Q : Act -> Prop} {QE : List (Nat × Value) -> Prop} (hQ : ∀ e a, Rep n e a -> QE e -> Q a) :
    ∀ (l : List Oper) (e : List (Nat × Value)) (a : Act), Rep n e a -> opsES P n ops w QE l e -> opsS P ops w Q l a := by
  intro l
  induction l with
  | nil => intro e a hr h; exact hQ _ _ hr h
  | cons o rest ih =>
    intro e a hr h
    unfold opsES at h
    unfold opsS
    rw [hr.eval, hr.yielded]
    cases hg : o.guard with
    | none => rw [hg] at h; exact stK_mono (fun v hk => ih _ _ (hr.put _ v) hk) h
    | some x =>
      obtain ⟨j, want⟩ := x
      rw [hg] at h
      simp only [gdS] at h ⊢
      split at h
      · rename_i hc; rw [if_pos hc]; exact stK_mono (fun v hk => ih _ _ (hr.put _ v) hk) h
      · rename_i hc; rw [if_neg hc]; exact ih _ _ (hr.put _ _) h
theorem opAt_of_E {P : Program} {n : Nat} {ops : Array Oper} {i : Nat} {K : Act -> World -> Prop} {KE : List (Nat × Value) -> World -> Prop} (hK : ∀ e a w, Rep n e a -> KE e w -> K a w)
    {e : List (Nat × Value)} {a : Act} {w : World} (hr : Rep n e a) (h : opAtE P n ops i KE e w) : opAt P ops i K a w := by
  unfold opAtE at h
  unfold opAt
  rw [hr.eval, hr.yielded]
  cases ho : ops[i]? with
  | none => rw [ho] at h; exact h
  | some o =>
    rw [ho] at h
    dsimp only at h ⊢
    cases hg : o.guard with
    | none => rw [hg] at h; exact resK_mono (fun v w' hk => hK _ _ _ (hr.put _ v) hk) h
    | some x =>
      obtain ⟨j, want⟩ := x
      rw [hg] at h
      simp only [gdK] at h ⊢
      split at h
      · rename_i hc; rw [if_pos hc]; exact resK_mono (fun v w' hk => hK _ _ _ (hr.put _ v) hk) h
      · rename_i hc; rw [if_neg hc]; exact hK _ _ _ (hr.put _ _) h
theorem opPAt_of_E {P : Program} {n : Nat} {ops : Array Oper} {i : Nat} {K : Act -> Prop} {KE : List (Nat × Value) -> Prop} (hK : ∀ e a, Rep n e a -> KE e -> K a)
    {e : List (Nat × Value)} {a : Act} (hr : Rep n e a) (h : opPAtE P n ops i KE e) : opPAt P ops i K a := by
  unfold opPAtE at h
  unfold opPAt
  rw [hr.eval, hr.yielded]
  cases ho : ops[i]? with
  | none => rw [ho] at h; exact h
  | some o =>
    rw [ho] at h
    dsimp only at h ⊢
    cases hg : o.guard with
    | none => rw [hg] at h; exact puK_mono (fun v hk => hK _ _ (hr.put _ v) hk) h
    | some x =>
      obtain ⟨j, want⟩ := x
      rw [hg] at h
      simp only [gdP] at h ⊢
      split at h
      · rename_i hc; rw [if_pos hc]; exact puK_mono (fun v hk => hK _ _ (hr.put _ v) hk) h
      · rename_i hc; rw [if_neg hc]; exact hK _ _ (hr.put _ _) h
theorem anyK_of_E {P : Program} {n : Nat} {ops : Array Oper} {Q : Act -> World -> Prop} {QE : List (Nat × Value) -> World -> Prop} (hQ : ∀ e a w, Rep n e a -> QE e w -> Q a w) :
    ∀ (fuel : Nat) (listed : Array Bool) (e : List (Nat × Value)) (a : Act) (w : World), Rep n e a -> anyE P n ops QE fuel listed e w -> anyK P ops Q fuel listed a w := by
  intro fuel
  induction fuel with
  | zero =>
    intro listed e a w hr h
    unfold anyE at h
    unfold anyK
    split at h
    · exact hQ _ _ _ hr h
    · exact h.elim
  | succ fuel ih =>
    intro listed e a w hr h
    unfold anyE at h
    unfold anyK
    split at h
    · exact hQ _ _ _ hr h
    · split at h
      · exact opPAt_of_E (fun e a hr hk => ih _ _ _ _ hr hk) hr h
      · exact allK_of fun i hi => opAt_of_E (K := anyK P ops Q fuel (listed.setIfInBounds i true)) (fun e a w hr hk => ih _ e a w hr hk) hr (allK_all h i hi)
theorem inK_step {P : Program} {I : World -> Prop} {K : Value -> Prop} {ρ : Operand -> Value} {o : Oper} (h : inK P I K ρ o) : ∃ v, (∀ w, I w -> resK P (fun v' w' => v' = v /\ I w') ((execOp ρ o).run P w)) /\ K v := by
  unfold inK at h
  cases hp : pureOp o.op with
  | true =>
    rw [hp] at h
    obtain ⟨v, h1, h2⟩ := resW_of_puK h
    exact ⟨v, fun w hw => by rw [h1]; exact ⟨rfl, hw⟩, h2⟩
  | false => rw [hp] at h; exact h
theorem parK_of_E {P : Program} {n : Nat} {ops : Array Oper} {I : World -> Prop} {Q : Act -> Prop} {QE : List (Nat × Value) -> Prop} (hQ : ∀ e a, Rep n e a -> QE e -> Q a) :
    ∀ (l : List Nat) (e : List (Nat × Value)) (a : Act), Rep n e a -> parE P n ops I QE l e -> parK P ops I Q l a := by
  intro l
  induction l with
  | nil => intro e a hr h; exact hQ _ _ hr h
  | cons i rest ih =>
    intro e a hr h
    unfold parE at h
    unfold parK
    cases ho : ops[i]? with
    | none => rw [ho] at h; exact h.elim
    | some o =>
      rw [ho] at h
      dsimp only at h ⊢
      unfold parStep
      rw [hr.eval, hr.yielded]
      cases hg : o.guard with
      | none =>
        rw [hg] at h
        obtain ⟨v, h1, h2⟩ := inK_step h
        exact ⟨v, fun w hw => by simp only [Region.wanted, hg]; exact h1 w hw, ih _ _ (hr.put _ v) h2⟩
      | some x =>
        obtain ⟨j, want⟩ := x
        rw [hg] at h
        simp only [gdP] at h
        split at h
        · rename_i hc
          obtain ⟨v, h1, h2⟩ := inK_step h
          exact ⟨v, fun w hw => by rw [if_pos (by simpa [Region.wanted, hg] using hc)]; exact h1 w hw, ih _ _ (hr.put _ v) h2⟩
        · rename_i hc
          exact ⟨undef, fun w hw => by rw [if_neg (by simpa [Region.wanted, hg] using hc)], ih _ _ (hr.put _ _) h⟩
theorem fillAt_getD (W ls : List Nat) (s : List Value) (d : Nat -> Value) : ∀ (l : List Value) (i k : Nat), i < l.length -> (fillAt W ls s d k l)[i]? =
    some (if W.contains (k + i) then (if ls.contains (k + i) then s.getD (ls.idxOf (k + i)) undef else d (k + i)) else (l[i]?).getD undef) := by
  intro l
  induction l with
  | nil => intro i k hi; simp at hi
  | cons v rest ih =>
    intro i k hi
    cases i with
    | zero => simp [fillAt]
    | succ i =>
      have := ih i (k + 1) (by simpa using hi)
      rw [show k + 1 + i = k + (i + 1) by omega] at this
      simpa [fillAt] using this
theorem look_refill (f : Nat -> Value) : ∀ (W : List Nat) (e : List (Nat × Value)) (t : Nat), look (W.map (fun i => (i, f i)) ++ e) t = if t ∈ W then f t else look e t := by
  intro W
  induction W with
  | nil => intro e t; simp
  | cons i W ih =>
    intro e t
    simp only [List.map_cons, List.cons_append, look]
    by_cases h : i = t
    · subst h; simp
    · have hb : Nat.beq i t = false := beq_ne h
      rw [hb, cond_false, ih]
      have : (t ∈ i :: W) ↔ t ∈ W := by simp [Ne.symm h]
      simp only [this]
theorem Rep.refill {n : Nat} {e : List (Nat × Value)} {a : Act} (h : Rep n e a) (W ls : List Nat) (s : List Value) (d : Nat -> Value) : Rep n (refillE n W ls s d e) (Fx.refill a W ls s d) := by
  refine ⟨by simp [Fx.refill, fillAt_length, h.size], fun t => ?_⟩
  unfold refillE
  rw [look_refill (fun i => if ls.contains i then s.getD (ls.idxOf i) undef else d i)]
  simp only [Fx.refill, Array.getD_eq_getD_getElem?, List.getElem?_toArray]
  by_cases ht : t < n
  · rw [fillAt_getD W ls s d a.tmps.toList t 0 (by simpa [h.size] using ht)]
    simp only [Nat.zero_add, Option.getD_some]
    by_cases hW : t ∈ W
    · rw [if_pos (by simpa using hW)]
      have hm : t ∈ List.filter (fun i => Nat.blt i n) W := List.mem_filter.2 ⟨hW, Nat.blt_eq.mpr ht⟩
      rw [if_pos hm]
    · have hm : ¬ t ∈ List.filter (fun i => Nat.blt i n) W := fun hc => hW (List.mem_filter.1 hc).1
      rw [if_neg (by simpa using hW), if_neg hm]
      rw [<- h.get t, Array.getD_eq_getD_getElem?]
      simp
  · have h1 : (fillAt W ls s d 0 a.tmps.toList)[t]? = none := by
      apply List.getElem?_eq_none
      rw [fillAt_length]
      simp [h.size]; omega
    have hm : ¬ t ∈ List.filter (fun i => Nat.blt i n) W := fun hc => ht (Nat.blt_eq.mp (List.mem_filter.1 hc).2)
    rw [h1, if_neg hm, <- h.get t, Array.getD_eq_getD_getElem?, Array.getElem?_eq_none (by rw [h.size]; omega)]
theorem Rep.live {n : Nat} {e : List (Nat × Value)} {a : Act} (h : Rep n e a) (ls : List Nat) : Fx.live ls a = liveE ls e := by
  unfold Fx.live liveE
  exact List.map_congr_left fun i _ => h.get i
theorem Rep.again {n : Nat} {e e' : List (Nat × Value)} {a a' : Act} {W ls : List Nat} (h : Rep n e a) (h' : Rep n e' a') (hA : Agree W a a') : Rep n (refillE n W ls (liveE ls e') (look e') e) a' := by
  have h1 := h.refill W ls (liveE ls e') (look e')
  have h2 : look e' = fun i => a'.tmps.getD i undef := funext fun i => (h'.get i).symm
  rw [<- h'.live ls, h2, refill_self hA] at h1
  rw [<- h'.live ls, h2]
  exact h1
theorem xStep_of_E {P : Program} {n : Nat} {ops : Array Oper} {o : Oper} {K : Value -> World -> Prop} {e : List (Nat × Value)} {a : Act} {w : World} (hr : Rep n e a) (h : xStepE P ops o K e w) : xStep P ops o K a w := by
  unfold xStepE at h
  unfold xStep
  rw [hr.eval, hr.yielded]
  cases hg : o.guard with
  | none => rw [hg] at h; rw [if_pos (by simp [Region.wanted, hg])]; exact h
  | some x =>
    obtain ⟨j, want⟩ := x
    rw [hg] at h
    simp only [gdK] at h
    split at h
    · rename_i hc
      rw [if_pos (by simpa [Region.wanted, hg] using hc)]; exact h
    · rename_i hc
      rw [if_neg (by simpa [Region.wanted, hg] using hc)]; exact h
theorem xK_of_E {P : Program} {n : Nat} {ops : Array Oper} {R : World -> World -> Prop} {w0 : World} {W F : List Nat} {Q : Act -> World -> Prop} {QE : List (Nat × Value) -> World -> Prop} (hQ : ∀ e a w, Rep n e a -> QE e w -> Q a w) {e0 : List (Nat × Value)} {a0 : Act} (hr : Rep n e0 a0) :
    ∀ (l : List Nat) (ps : List (Nat × Nat × (Value -> World -> Prop))), xE P n ops R w0 e0 W F QE l ps -> xK P ops R w0 a0 W F Q l ps := by
  intro l
  induction l with
  | nil => intro ps h d w hR ha hf; exact hQ _ _ _ (hr.refill W [] [] d) (h d w hR ha hf)
  | cons i rest ih =>
    intro ps h
    unfold xE at h
    unfold xK
    cases ho : ops[i]? with
    | none => rw [ho] at h; exact h.elim
    | some o =>
      rw [ho] at h
      obtain ⟨p, h1, h2, h3⟩ := h
      exact ⟨p, h1, fun d w hR ha => xStep_of_E (hr.refill W [] [] d) (h2 d w hR ha), ih _ h3⟩
theorem xR_of_E {P : Program} {n m : Nat} {ops : Array Oper} {Q : Act -> World -> Prop} {QE : List (Nat × Value) -> World -> Prop} (hQ : ∀ e a w, Rep n e a -> QE e w -> Q a w) {e : List (Nat × Value)} {a : Act} {w : World} (hr : Rep n e a) (h : xRE P n m ops QE e w) : xR P m ops Q a w := by
  unfold xRE at h
  unfold xR
  rw [hr.size]
  split at h
  · rename_i hc
    rw [if_pos hc]
    obtain ⟨R, h1, h2, hs, h3⟩ := h
    exact ⟨R, h1, h2, hs, xK_of_E (Q := fun a' w' => opsK P ops Q (ops.toList.drop m) a' w') (QE := fun e' w' => opsE P n ops QE (ops.toList.drop m) e' w') (fun e a w hr h => opsK_of_E hQ _ _ _ _ hr h) hr _ _ h3⟩
  · exact h.elim
theorem codeK_of_E {P : Program} {hs : Hints} {n : Nat} : ∀ (c : Code) (Q : Exit -> Act -> World -> Prop) (QE : Exit -> List (Nat × Value) -> World -> Prop) (_hQ : ∀ x e a w, Rep n e a -> QE x e w -> Q x a w)
    (e : List (Nat × Value)) (a : Act) (w : World), Rep n e a -> codeE P hs n c QE e w -> codeK P hs c Q a w := by
  intro c
  induction c with
  | skip => intro Q QE hQ e a w hr h; exact hQ _ _ _ _ hr h
  | region id ops draw =>
    intro Q QE hQ e a w hr h
    cases draw with
    | false => exact opsK_of_E (hQ _) _ _ _ _ hr h
    | true =>
      simp only [codeE, drawE] at h
      simp only [codeK, drawK]
      split at h
      · split at h
        · rename_i hc; rw [if_pos hc]; exact anyK_of_E (hQ _) _ _ _ _ _ hr h
        · exact h.elim
      · split at h
        · rename_i hc; rw [if_pos hc]
          obtain ⟨I, h0, hp⟩ := h
          exact ⟨I, h0, parK_of_E (fun e a hr h w' hw => hQ _ _ _ _ hr (h w' hw)) _ _ _ hr hp⟩
        · exact h.elim
      · rename_i m _ _ _
        cases hb : xBig m with
        | true => simp only [hb, cond_true] at h ⊢; generalize xN m = k at *; exact xR_of_E (hQ _) hr h
        | false =>
          simp only [hb, cond_false] at h ⊢
          split at h
          · rename_i hc; rw [if_pos hc]; exact opsS_of_E (fun e a hr h => opsK_of_E (hQ _) _ _ _ _ hr h) _ _ _ hr h
          · exact h.elim
      · split at h
        · rename_i hc; rw [if_pos hc]; exact opsS_of_E (fun e a hr h => hQ _ _ _ _ hr h) _ _ _ hr h
        · exact h.elim
  | seq x y ihx ihy =>
    intro Q QE hQ e a w hr h
    simp only [codeE] at h
    split at h
    · refine ihx _ _ (fun x e a w hr h => ?_) _ _ _ hr h
      cases x <;> first | exact ihy _ _ hQ _ _ _ hr h | exact hQ _ _ _ _ hr h
    · rename_i ls _
      have h1 := ihx (fun x' a' w' => ∃ e', Rep n e' a' /\ thenE (fun e' w' => ∀ d : Nat -> Value, codeE P hs n y QE (refillE n (dsts x) ls (liveE ls e') d e) w') QE x' e' w') _ (fun x' e' a' w' hr' h' => ⟨e', hr', h'⟩) e a w hr h
      refine codeK_mono x _ _ ?_ _ _ (codeK_agree x (dsts x) a _ a w (fun _ h => h) (Agree.refl _ _) h1)
      rintro x' a' w' ⟨⟨e', hr', h'⟩, hA⟩
      cases x' <;> first | exact ihy _ _ hQ _ _ _ (hr.again hr' hA) (h' (look e')) | exact hQ _ _ _ _ hr' h'
  | cond v x y ihx ihy =>
    intro Q QE hQ e a w hr h
    simp only [codeE, condK] at h
    simp only [codeK, condK, hr.eval]
    rcases h with ⟨hv, h⟩ | ⟨hv, h⟩
    · exact .inl ⟨hv, ihx _ _ hQ _ _ _ hr h⟩
    · exact .inr ⟨hv, ihy _ _ hQ _ _ _ hr h⟩
  | block id c ih =>
    intro Q QE hQ e a w hr h
    refine ih _ _ (fun x e a w hr h => ?_) _ _ _ hr h
    cases x <;> first | exact hQ _ _ _ _ hr h | skip
    case exit id' =>
      simp only [Exit.inBlock]
      simp only [inBlockE] at h
      by_cases hc : id' = id
      · rw [if_pos hc]; subst hc; simp at h; exact hQ _ _ _ _ hr h
      · have hb : Nat.beq id' id = false := beq_ne hc
        rw [if_neg hc]; rw [hb] at h; exact hQ _ _ _ _ hr h
  | loop c ih =>
    intro Q QE hQ e a w hr h
    obtain ⟨I, μ, h0, hrd⟩ := h
    refine ⟨I, μ, by rw [hr.live]; exact h0, fun s w' hI d => ?_⟩
    refine ih _ _ (fun x e a w hr h => ?_) _ _ _ (hr.refill _ _ s d) (hrd s w' hI d)
    cases x <;> first | (simp only [Exit.then, hr.live]; exact h) | exact hQ _ _ _ _ hr h
  | rangeFunc f params x y _ _ => intro Q QE hQ e a w hr h; exact h.elim
  | exit id => intro Q QE hQ e a w hr h; exact hQ _ _ _ _ hr h
  | scope c ih =>
    intro Q QE hQ e a w hr h
    refine ih _ _ (fun x e a w hr h => ?_) _ _ _ hr h
    cases x <;> first | exact hQ _ _ _ _ hr h | exact h
  | label l => intro Q QE hQ e a w hr h; exact hQ _ _ _ _ hr h
  | goto l => intro Q QE hQ e a w hr h; exact hQ _ _ _ _ hr h
  | ret => intro Q QE hQ e a w hr h; exact hQ _ _ _ _ hr h
  | refuse s => intro Q QE hQ e a w hr h; exact h.elim
def resV {α : Type} (K : α -> World -> Prop) (r : Result α) (_ : Tag K := ()) : Prop :=
  match r with
  | .ok v w' => K v w'
  | _ => False
def resQ {α : Type} (w : World) (K : α -> Prop) (r : Result α) (_ : Tag K := ()) : Prop :=
  match r with
  | .ok v w' => w' = w /\ K v
  | _ => False
def tupleK (K : Value -> World -> Prop) (w : World) : List Value -> Prop
  | [v] => K v w
  | vs => K (.tuple vs.toArray) w
def retsK (P : Program) (tmps : Array Value) (w : World) (K : Value -> World -> Prop) : List ResultVar -> List Value -> Prop
  | [], acc => tupleK K w acc
  | .tmp t :: rs, acc => retsK P tmps w K rs (acc ++ [tmps.getD t undef])
  | .cell t ty :: rs, acc => resQ w (fun v => retsK P tmps w K rs (acc ++ [v])) ((do loadVar ty (<- asAddr (tmps.getD t undef)) : Sem Value).run P w)
def retQ (P : Program) (fn : Func) (K : Value -> World -> Prop) : Exit -> Act -> World -> Prop
  | .normal, a, w | .ret, a, w => retsK P a.tmps w K fn.results.toList []
  | _, _, _ => False
def funK (P : Program) (hs : Hints) (fn : Func) (args : List Value) (w : World) (K : Value -> World -> Prop) : Prop :=
  match fn.body with
  | some c => codeK P hs c (retQ P fn K) ⟨(args ++ List.replicate (fn.ntmps - args.length) undef).toArray, []⟩ w
  | none => False
/-- a call: it returns, and what it returns is so. -/
def callsK (P : Program) (f : FuncId) (args : Array Value) (w : World) (K : Value -> World -> Prop) (_ : Tag K := ()) : Prop :=
  Calls P f args w fun e w' => ∃ v, e = .returned v /\ K v w'
def resVar (tmps : Array Value) : ResultVar -> Sem Value
  | .tmp t => pure (tmps.getD t undef)
  | .cell a t => do loadVar t (<- asAddr (tmps.getD a undef))
theorem results_eq (fn : Func) (tmps : Array Value) : results fn tmps = (do let vs <- fn.results.mapM (resVar tmps); pure (if h : vs.size = 1 then vs[0] else .tuple vs)) := by
  unfold results
  congr 1
theorem rets_run {P : Program} {tmps : Array Value} {w : World} {K : Value -> World -> Prop} : ∀ (rs : List ResultVar) (acc : List Value), retsK P tmps w K rs acc ->
    ∃ vs : List Value, (rs.mapM (resVar tmps)).run P w = .ok vs w /\ tupleK K w (acc ++ vs) := by
  intro rs
  induction rs with
  | nil => intro acc h; exact ⟨[], by simp, by simpa [retsK] using h⟩
  | cons r rs ih =>
    intro acc h
    cases r with
    | tmp t =>
      obtain ⟨vs, h1, h2⟩ := ih _ h
      refine ⟨tmps.getD t undef :: vs, ?_, by simpa using h2⟩
      rw [List.mapM_cons, Sem.run_bind]
      simp only [resVar, Sem.run_pure, Result.andThen_ok, Sem.run_bind, h1]
    | cell a t =>
      simp only [retsK] at h
      generalize hr : ((do loadVar t (<- asAddr (tmps.getD a undef)) : Sem Value).run P w) = r at h
      cases r with
      | halt _ _ => exact h.elim
      | ok v w' =>
        obtain ⟨hw, hk⟩ := h
        rw [hw] at hr
        obtain ⟨vs, h1, h2⟩ := ih _ hk
        refine ⟨v :: vs, ?_, by simpa using h2⟩
        rw [List.mapM_cons, Sem.run_bind]
        simp only [resVar]
        rw [hr]
        simp only [Sem.run_pure, Result.andThen_ok, Sem.run_bind, h1]
theorem results_run {P : Program} {fn : Func} {tmps : Array Value} {w : World} {K : Value -> World -> Prop} (h : retsK P tmps w K fn.results.toList []) :
    ∃ v, (results fn tmps).run P w = .ok v w /\ K v w := by
  obtain ⟨vs, h1, h2⟩ := rets_run _ _ h
  rw [List.nil_append] at h2
  refine ⟨if h : vs.toArray.size = 1 then vs.toArray[0] else .tuple vs.toArray, ?_, ?_⟩
  · rw [results_eq, Array.mapM_eq_mapM_toList]
    rw [Sem.run_bind, Sem.run_map, h1]
    rfl
  · match vs, h2 with
    | [], h2 => exact h2
    | [v], h2 => exact h2
    | v :: u :: r, h2 =>
      have : ¬ (v :: u :: r).toArray.size = 1 := by simp
      rw [dif_neg this]; exact h2
theorem calls_of_funK {P : Program} {hs : Hints} {f : FuncId} {fn : Func} {args : List Value} {w : World} {K : Value -> World -> Prop} (hm : P.follows .mixedOrders = true)
    (hf : P.funcs[f]? = some fn) (h : funK P hs fn args w K) : callsK P f args.toArray w K := by
  unfold funK at h
  split at h
  · rename_i c hb
    refine calls_of_wp hf hb ?_
    have e : (⟨args.toArray ++ Array.replicate (fn.ntmps - args.toArray.size) undef, []⟩ : Act) = ⟨(args ++ List.replicate (fn.ntmps - args.length) undef).toArray, []⟩ := by simp
    rw [e]
    refine wp_mono (code_wp hm _ _ _ _ (codeK_agree c (dsts c) _ _ _ w (fun _ h => h) (Agree.refl _ _) h)) ?_
    rintro e a' w' ⟨hq, hA⟩
    have hd : a'.defers = [] := hA.defers
    cases e <;> first | exact hq.elim | skip
    all_goals
      obtain ⟨v, hr, hk⟩ := results_run hq
      exact ⟨hd, v, hr, v, rfl, hk⟩
  · exact h.elim
def retsE (P : Program) (e : List (Nat × Value)) (w : World) (K : Value -> World -> Prop) : List ResultVar -> List Value -> Prop
  | [], acc => tupleK K w acc
  | .tmp t :: rs, acc => retsE P e w K rs (acc ++ [look e t])
  | .cell t ty :: rs, acc => resQ w (fun v => retsE P e w K rs (acc ++ [v])) ((do loadVar ty (<- asAddr (look e t)) : Sem Value).run P w)
def retE (P : Program) (fn : Func) (K : Value -> World -> Prop) : Exit -> List (Nat × Value) -> World -> Prop
  | .normal, e, w | .ret, e, w => retsE P e w K fn.results.toList []
  | _, _, _ => False
def argsE : Nat -> List Value -> List (Nat × Value)
  | _, [] => []
  | i, v :: r => (i, v) :: argsE (i + 1) r
/-- what a call of a function comes to. -/
def funE (P : Program) (hs : Hints) (fn : Func) (args : List Value) (w : World) (K : Value -> World -> Prop) : Prop :=
  match fn.body with
  | some c => if args.length <= fn.ntmps then codeE P hs fn.ntmps c (retE P fn K) (argsE 0 args) w else False
  | none => False
theorem rets_of_E {P : Program} {n : Nat} {e : List (Nat × Value)} {a : Act} {w : World} {K : Value -> World -> Prop} (hr : Rep n e a) : ∀ (rs : List ResultVar) (acc : List Value), retsE P e w K rs acc -> retsK P a.tmps w K rs acc := by
  intro rs
  induction rs with
  | nil => intro acc h; exact h
  | cons r rs ih =>
    intro acc h
    cases r with
    | tmp t => simp only [retsE] at h; simp only [retsK, hr.get]; exact ih _ h
    | cell t ty =>
      simp only [retsE] at h
      simp only [retsK, hr.get]
      generalize (do loadVar ty (<- asAddr (look e t)) : Sem Value).run P w = r at h
      cases r with
      | ok v w' => exact ⟨h.1, ih _ h.2⟩
      | halt x w' => exact h.elim
theorem look_args : ∀ (l : List Value) (k t : Nat), look (argsE k l) t = if k <= t then (l[t - k]?).getD undef else undef := by
  intro l
  induction l with
  | nil => intro k t; simp [argsE, look]
  | cons v r ih =>
    intro k t
    simp only [argsE, look]
    by_cases h : k = t
    · subst h; simp
    · have hb : Nat.beq k t = false := beq_ne h
      rw [hb, cond_false, ih]
      by_cases h2 : k <= t
      · rw [if_pos (by omega), if_pos h2, show t - k = (t - (k + 1)) + 1 by omega]; simp
      · rw [if_neg (by omega), if_neg h2]
theorem funK_of_E {P : Program} {hs : Hints} {fn : Func} {args : List Value} {w : World} {K : Value -> World -> Prop} (h : funE P hs fn args w K) : funK P hs fn args w K := by
  unfold funE at h
  unfold funK
  split at h
  · split at h
    · rename_i hn
      refine codeK_of_E _ _ _ (fun x e a w hr h => ?_) _ _ _ ⟨?_, fun t => ?_⟩ h
      · cases x <;> first | exact rets_of_E hr _ _ h | exact h.elim
      · simp; omega
      · rw [look_args, if_pos (Nat.zero_le _)]
        simp only [Array.getD_eq_getD_getElem?, List.getElem?_toArray, Nat.sub_zero]
        by_cases ht : t < args.length
        · rw [List.getElem?_append_left ht]
        · rw [List.getElem?_append_right (by omega), List.getElem?_eq_none (l := args) (by omega)]
          simp only [List.getElem?_replicate]
          split <;> rfl
    · exact h.elim
  · exact h.elim
theorem calls_of_eq {P : Program} {hs : Hints} {f : FuncId} {fn : Func} {args : List Value} {w : World} {K : Value -> World -> Prop} {F : Prop} (hm : P.follows .mixedOrders = true)
    (hf : P.funcs[f]? = some fn) (he : funE P hs fn args w K = F) (h : F) : callsK P f args.toArray w K := calls_of_funK hm hf (funK_of_E (he.mpr h))
end Go.Fx
namespace Go.Fx
def vN (s : Sem Value) : Sem Next := do pure (.value (<- s))
def uN (s : Sem Unit) : Sem Next := do s; pure .skip
def kV (P : Program) (s : Sem Value) (w : World) (K : Value -> World -> Prop) (_ : Tag K := ()) : Prop := resK P K ((vN s).run P w)
def kU (P : Program) (s : Sem Unit) (w : World) (K : Value -> World -> Prop) (_ : Tag K := ()) : Prop := resK P K ((uN s).run P w)
def kN (P : Program) (s : Sem Next) (w : World) (K : Value -> World -> Prop) (_ : Tag K := ()) : Prop := resK P K (s.run P w)
def sV (P : Program) (s : Sem Value) (w : World) (K : Value -> Prop) (_ : Tag K := ()) : Prop := resS P w K ((vN s).run P w)
def sU (P : Program) (s : Sem Unit) (w : World) (K : Value -> Prop) (_ : Tag K := ()) : Prop := resS P w K ((uN s).run P w)
def sN (P : Program) (s : Sem Next) (w : World) (K : Value -> Prop) (_ : Tag K := ()) : Prop := resS P w K (s.run P w)
def callN (f : Value) (args : Array Value) : Sem Next := do let d <- Deferred.ofValue f args; invoke d.target d.args
def nilN (v : Value) : Sem Next := execOp (fun _ => v) ⟨none, .nilCheck (.tmp 0), 0, "", #[], none⟩
def pickN (c a b : Value) : Sem Next := do pure (.value (if <- asBool c then a else b))
def binV (op : BinOp) (t : TypeId) (x y : Operand) (a b : Value) : Sem Value := do eqGuard op t x y a b; binOp op t a b
def drewK (G : World -> Prop) (w : World) (_ : Tag G := ()) : Prop := hi (G w.drew)
theorem drewK_eq {G : World -> Prop} {w : World} : drewK G w = G w.drew := rfl
def retV (P : Program) (t : TypeId) (a : Value) (w : World) (K : Value -> Prop) (_ : Tag K := ()) : Prop := resQ w K ((do loadVar t (<- asAddr a) : Sem Value).run P w)
theorem retV_eq {P : Program} {t : TypeId} {a : Addr} {w : World} {K : Value -> Prop} : retV P t (.pointer (some a)) w K = resQ w K ((loadVar t a).run P w) := rfl
def joinK {ρ : Type} (G : ρ -> Prop) (rest : ρ) (_ : Tag (G rest) := ()) : Prop := hi (G rest)
def pV (P : Program) (s : Sem Value) (K : Value -> Prop) (_ : Tag K := ()) : Prop := resW K (fun w => (vN s).run P w)
def pN (P : Program) (s : Sem Next) (K : Value -> Prop) (_ : Tag K := ()) : Prop := resW K (fun w => s.run P w)
theorem pV_intro {P : Program} {s : Sem Value} {K : Value -> Prop} (v : Value) (h : ∀ w, s.run P w = .ok v w) (hk : K v) : pV P s K := ⟨v, fun w => (by show (vN s).run P w = _; unfold vN; rw [Sem.run_bind, h]; rfl), hk⟩
def resPV (K : Value -> Prop) (r : World -> Result Value) (_ : Tag K := ()) : Prop := ∃ v, (∀ w, r w = .ok v w) /\ K v
theorem pV_eq {P : Program} {s : Sem Value} {K : Value -> Prop} : pV P s K = resPV K (fun w => s.run P w) := by
  apply propext
  constructor
  · rintro ⟨v, h, hk⟩
    refine ⟨v, fun w => ?_, hk⟩
    have this : (vN s).run P w = _ := h w
    unfold vN at this
    rw [Sem.run_bind] at this
    cases hr : s.run P w with
    | ok u w' =>
      rw [hr] at this
      simp only [Result.andThen_ok, Sem.run_pure, Result.ok.injEq, Next.value.injEq] at this
      show s.run P w = _
      rw [hr, this.1, this.2]
    | halt x w' => rw [hr] at this; cases this
  · rintro ⟨v, h, hk⟩
    exact pV_intro v h hk
theorem resPV_ok {K : Value -> Prop} {v : Value} : resPV K (fun w => .ok v w) = K v := by
  apply propext
  constructor
  · rintro ⟨u, h, hk⟩
    have := h default
    simp only [Result.ok.injEq, and_true] at this
    rw [this]; exact hk
  · intro h; exact ⟨v, fun _ => rfl, h⟩
theorem pN_pick {P : Program} {c : Bool} {a b : Value} {K : Value -> Prop} (h : K (if c then a else b)) : pN P (pickN (.bool c) a b) K := by
  cases c
  · exact ⟨_, fun _ => rfl, h⟩
  · exact ⟨_, fun _ => rfl, h⟩
theorem pN_nil {P : Program} {a : Addr} {K : Value -> Prop} (h : K (.pointer (some a))) : pN P (nilN (.pointer (some a))) K := ⟨_, fun _ => rfl, h⟩
theorem gdP_yes {want : Bool} {A : (Value -> Prop) -> Prop} {K : Value -> Prop} : gdP (yb (.bool want)) want A K = A K := by simp [gdP, yb]
theorem gdP_no1 {A : (Value -> Prop) -> Prop} {K : Value -> Prop} : gdP (yb (.bool false)) true A K = K undef := by simp [gdP, yb]
theorem gdP_no2 {A : (Value -> Prop) -> Prop} {K : Value -> Prop} : gdP (yb (.bool true)) false A K = K undef := by simp [gdP, yb]
theorem kV_eq {P : Program} {s : Sem Value} {w : World} {K : Value -> World -> Prop} : kV P s w K = resV K (s.run P w) := by
  unfold kV vN
  rw [Sem.run_bind]
  generalize s.run P w = r
  cases r <;> rfl
theorem kU_eq {P : Program} {s : Sem Unit} {w : World} {K : Value -> World -> Prop} : kU P s w K = resV (fun _ w' => K undef w') (s.run P w) := by
  unfold kU uN
  rw [Sem.run_bind]
  generalize s.run P w = r
  cases r <;> rfl
theorem sV_eq {P : Program} {s : Sem Value} {w : World} {K : Value -> Prop} : sV P s w K = resQ w K (s.run P w) := by
  unfold sV vN
  rw [Sem.run_bind]
  generalize s.run P w = r
  cases r <;> rfl
theorem sU_eq {P : Program} {s : Sem Unit} {w : World} {K : Value -> Prop} : sU P s w K = resQ w (fun _ => K undef) (s.run P w) := by
  unfold sU uN
  rw [Sem.run_bind]
  generalize s.run P w = r
  cases r <;> rfl
theorem resQ_ok {α : Type} {K : α -> Prop} {v : α} {w : World} : resQ w K (.ok v w) = K v := by simp [resQ]
theorem kN_call {P : Program} {f : FuncId} {first cap args : Array Value} {w : World} {K : Value -> World -> Prop} :
    kN P (callN (.func (.func f) first cap) args) w K = resK P K ((callFunc f (first ++ args ++ cap)).run P w) := by
  unfold kN callN Deferred.ofValue
  rfl
theorem kN_pick {P : Program} {c : Bool} {a b : Value} {w : World} {K : Value -> World -> Prop} : kN P (pickN (.bool c) a b) w K = K (if c then a else b) w := by cases c <;> rfl
theorem sN_pick {P : Program} {c : Bool} {a b : Value} {w : World} {K : Value -> Prop} : sN P (pickN (.bool c) a b) w K = K (if c then a else b) := by
  cases c <;> simp [sN, resS, resSF, pickN, asBool]
theorem kN_nil {P : Program} {a : Addr} {w : World} {K : Value -> World -> Prop} : kN P (nilN (.pointer (some a))) w K = K (.pointer (some a)) w := rfl
theorem sN_nil {P : Program} {a : Addr} {w : World} {K : Value -> Prop} : sN P (nilN (.pointer (some a))) w K = K (.pointer (some a)) := by
  simp [sN, nilN, execOp, resS, resSF]
theorem condK_true {A B : Prop} : condK (.bool true) A B = A := by simp [condK]
theorem condK_false {A B : Prop} : condK (.bool false) A B = B := by simp [condK]
theorem condK_bool {c : Bool} {A B : Prop} (h1 : c = true -> A) (h2 : c = false -> B) : condK (.bool c) A B := by
  cases c
  · exact .inr ⟨rfl, h2 rfl⟩
  · exact .inl ⟨rfl, h1 rfl⟩
theorem gdK_yes {want : Bool} {A : (Value -> World -> Prop) -> Prop} {w : World} {K : Value -> World -> Prop} : gdK (yb (.bool want)) want A w K = A K := by simp [gdK, yb]
theorem gdK_no1 {A : (Value -> World -> Prop) -> Prop} {w : World} {K : Value -> World -> Prop} : gdK (yb (.bool false)) true A w K = K undef w := by simp [gdK, yb]
theorem gdK_no2 {A : (Value -> World -> Prop) -> Prop} {w : World} {K : Value -> World -> Prop} : gdK (yb (.bool true)) false A w K = K undef w := by simp [gdK, yb]
theorem gdK_no3 {want : Bool} {A : (Value -> World -> Prop) -> Prop} {w : World} {K : Value -> World -> Prop} : gdK (yb undef) want A w K = K undef w := by simp [gdK, yb, undef]
theorem gdS_yes {want : Bool} {A : (Value -> Prop) -> Prop} {K : Value -> Prop} : gdS (yb (.bool want)) want A K = A K := by simp [gdS, yb]
theorem gdS_no1 {A : (Value -> Prop) -> Prop} {K : Value -> Prop} : gdS (yb (.bool false)) true A K = K undef := by simp [gdS, yb]
theorem gdS_no2 {A : (Value -> Prop) -> Prop} {K : Value -> Prop} : gdS (yb (.bool true)) false A K = K undef := by simp [gdS, yb]
theorem gdS_no3 {want : Bool} {A : (Value -> Prop) -> Prop} {K : Value -> Prop} : gdS (yb undef) want A K = K undef := by simp [gdS, yb, undef]
end Go.Fx
