/- Part 7 of what the law AsmLists stands on: formulas of the functions that it reaches, and what each of them does; conditions: those of each theorem. -/
import Derived.Test.YtobkjnmdbkieeaaGreatDoorP6
set_option linter.unusedVariables false
set_option linter.unusedSimpArgs false
namespace Go.Proofs.YtobkjnmdbkieeaaGreatDoor
open Go.Fx
set_option maxRecDepth 100000
def linesK (ws : List Nat) (k : Nat) : List (List UInt8) := (if mkB ws k then [markF k ++ [58]] else []) ++ [lineW (ws.getD k 0) k ws.length]
def allLs (ws : List Nat) : List (List UInt8) := (List.range ws.length).flatMap (linesK ws) ++ (if mkB ws ws.length then [markF ws.length ++ [58]] else [])
theorem joinN_flat {α : Type} (f : α -> List (List UInt8)) : ∀ l : List α, joinN (l.flatMap f) = l.flatMap fun x => joinN (f x)
 | [] => rfl
 | x :: l => by rw [List.flatMap_cons, List.flatMap_cons, joinN_app, joinN_flat f l]
theorem list_join (ws : List Nat) : listF ws = joinN (allLs ws) := by
 unfold listF allLs listK
 rw [joinN_app, joinN_flat]
 congr 1
 ·congr 1
  funext k
  unfold oneK linesK markL
  rw [joinN_app]
  cases mkB ws (k : Nat) <;> simp [joinN]
 ·unfold markL
  cases mkB ws (ws.length : Nat) <;> simp [joinN]
theorem ws_lt {ws : List Nat} (h : ∀ x ∈ ws, x < 4294967296) (k : Nat) : ws.getD k 0 < 4294967296 := by
 rw [List.getD_eq_getElem?_getD]
 cases hk : ws[k]? with
 | none => simp
 | some x => exact h x (List.mem_of_getElem? hk)
theorem all_no {ws : List Nat} (h : ∀ x ∈ ws, x < 4294967296) : ∀ x ∈ allLs ws, (10 : UInt8) ∉ x := by
 have hm : ∀ k : Nat, (10 : UInt8) ∉ markF k ++ [58] := by
  intro k
  rw [List.mem_append, not_or]
  exact ⟨mark_no (by decide) (by decide), by decide⟩
 intro x hx
 unfold allLs at hx
 rw [List.mem_append] at hx
 rcases hx with hx | hx
 ·rw [List.mem_flatMap] at hx
  obtain ⟨k, -, hx⟩ := hx
  unfold linesK at hx
  rw [List.mem_append] at hx
  rcases hx with hx | hx
  ·split at hx
   ·rw [List.mem_singleton] at hx; rw [hx]; exact hm k
   ·simp at hx
  ·rw [List.mem_singleton] at hx; rw [hx]; exact (lineW_ok (ws_lt h k)).1
 ·split at hx
  ·rw [List.mem_singleton] at hx; rw [hx]; exact hm _
  ·simp at hx
/-- a word's lines, as texts and kinds. -/
def tlK (ws : List Nat) (k : Nat) : List (List UInt8 × Bool) := (if mkB ws k then [(markF k, true)] else []) ++ (if (dcdF (ws.getD k 0)).2 then [(lineW (ws.getD k 0) k ws.length, false)] else [])
def tlE (ws : List Nat) : List (List UInt8 × Bool) := if mkB ws ws.length then [(markF ws.length, true)] else []
def tlA (ws : List Nat) : List (List UInt8 × Bool) := (List.range ws.length).flatMap (tlK ws) ++ tlE ws
theorem lines_k {ws : List Nat} (h : ∀ x ∈ ws, x < 4294967296) (k j : Nat) : (linesFrom j (linesK ws k)).map tmL = tlK ws k := by
 obtain ⟨-, h2, h3⟩ := lineW_ok (k := k) (n := ws.length) (ws_lt h k)
 have h1 : ∀ j, (linesFrom j [lineW (ws.getD k 0) k ws.length]).map tmL = if (dcdF (ws.getD k 0)).2 then [(lineW (ws.getD k 0) k ws.length, false)] else [] := by
  intro j
  rw [linesFrom, linesFrom, List.append_nil]
  cases hd : (dcdF (ws.getD k 0)).2 with
  | true => rw [(h2 hd).2]; rfl
  | false => rw [h3 hd]; rfl
 unfold linesK tlK
 rw [linesFrom_app, List.map_append, h1]
 congr 1
 cases mkB ws k with
 | true => rw [if_pos rfl, if_pos rfl, linesFrom, linesFrom, mark_line]; rfl
 | false => rfl
theorem lines_flat {α : Type} {f : α -> List (List UInt8)} {g : α -> List (List UInt8 × Bool)} (h : ∀ x j, (linesFrom j (f x)).map tmL = g x) : ∀ (l : List α) (j : Nat), (linesFrom j (l.flatMap f)).map tmL = l.flatMap g
 | [], j => rfl
 | x :: l, j => by rw [List.flatMap_cons, List.flatMap_cons, linesFrom_app, List.map_append, h, lines_flat h l]
theorem lines_all {ws : List Nat} (h : ∀ x ∈ ws, x < 4294967296) : (linesFrom 0 (allLs ws ++ [[]])).map tmL = tlA ws := by
 have h4 : ∀ k, (linesFrom k [([] : List UInt8)]).map tmL = [] := fun k => rfl
 unfold allLs tlA
 rw [linesFrom_app, linesFrom_app, List.map_append, List.map_append, h4, List.append_nil, lines_flat (lines_k h)]
 congr 1
 unfold tlE
 cases mkB ws ws.length with
 | true => rw [if_pos rfl, if_pos rfl, linesFrom, linesFrom, mark_line]; rfl
 | false => rfl
def lnOf (p : List UInt8 × Bool) : Ln := ⟨1, p.1, p.2⟩
theorem lnOf_map (l : List (List UInt8 × Bool)) : (l.map lnOf).map tmL = l := by
 rw [List.map_map]
 exact List.map_id l
def aK (ws : List Nat) : Nat -> List UInt8 -> Option Int
 | 0 => fun _ => none
 | k + 1 => if mkB ws k then fun b => if b = markF k then some (k : Int) else aK ws k b else aK ws k
def tK (ws : List Nat) : Nat -> List UInt8 -> Option Int
 | 0 => fun _ => none
 | k + 1 => if mkB ws k then fun b => if b = markF k then some ((tK ws k (markF k)).getD 0 + 1) else tK ws k b else tK ws k
theorem tK_none (ws : List Nat) {b : List UInt8} : ∀ k : Nat, (∀ p : Nat, p < k -> b ≠ markF p) -> tK ws k b = none
 | 0, _ => rfl
 | k + 1, h => by
  have ih := tK_none ws k fun p hp => h p (by omega)
  rw [tK]
  split
  ·dsimp only
   rw [if_neg (h k (by omega)), ih]
  ·exact ih
theorem tK_get (ws : List Nat) {p : Nat} (hp : mkB ws p = true) : ∀ k : Nat, k <= 1000000 -> p < k -> tK ws k (markF p) = some 1 /\ aK ws k (markF p) = some (p : Int)
 | 0, _, h => absurd h (by omega)
 | k + 1, hk, h => by
  rw [tK, aK]
  by_cases e : p = k
  ·subst e
   have h0 := tK_none ws (b := markF p) p fun q hq he => by have := mark_inj (a := p) (b := q) (by omega) (by omega) he; omega
   simp [hp, h0]
  ·obtain ⟨h1, h2⟩ := tK_get ws hp k (by omega) (by omega)
   have hne : markF p ≠ markF k := fun he => e (mark_inj (by omega) (by omega) he)
   split
   ·dsimp only
    rw [if_neg hne, if_neg hne]
    exact ⟨h1, h2⟩
   ·exact ⟨h1, h2⟩
theorem tK_head (ws : List Nat) {b : List UInt8} (h : b[0]? ≠ some 109) (k : Nat) : tK ws k b = none := tK_none ws k fun p _ e => h (by rw [e]; rfl)
theorem count_k {ws : List Nat} (hall : ∀ k, k < ws.length -> (dcdF (ws.getD k 0)).2 = true) : ∀ k, k <= ws.length -> countF selfL (((List.range k).flatMap (tlK ws)).map lnOf) = ⟨aK ws k, tK ws k, k⟩
 | 0, _ => rfl
 | k + 1, hk => by
  have ih := count_k hall k (by omega)
  unfold countF at ih ⊢
  rw [List.range_succ, List.flatMap_append, List.map_append, List.foldl_append, ih]
  have e : [k].flatMap (tlK ws) = tlK ws k := by simp
  rw [e, tlK, hall k hk, if_pos rfl, aK, tK]
  cases hm : mkB ws k with
  | true => rfl
  | false => rfl
theorem count_all' {ws : List Nat} (hall : ∀ k, k < ws.length -> (dcdF (ws.getD k 0)).2 = true) : countF selfL ((tlA ws).map lnOf) = ⟨aK ws (ws.length + 1), tK ws (ws.length + 1), ws.length⟩ := by
 have ih := count_k hall ws.length (Nat.le_refl _)
 unfold countF at ih ⊢
 unfold tlA tlE
 rw [List.map_append, List.foldl_append, ih, aK, tK]
 cases hm : mkB ws ws.length with
 | true => rfl
 | false => rfl
/-- a mark stands where a word goes to. -/
theorem mk_of_go {ws : List Nat} {k p : Nat} (hk : k < ws.length) (h : (goF (ws.getD k 0) k ws.length).2 = true) (hp : (goF (ws.getD k 0) k ws.length).1 = p) : mkB ws p = true := by
 unfold mkB anyK
 rw [List.any_eq_true]
 exact ⟨k, List.mem_range.2 hk, by rw [h, hp]; simp⟩
theorem told_line {ws : List Nat} (hws : ∀ x ∈ ws, x < 4294967296) (hn : ws.length <= 1000) {k : Nat} (hk : k < ws.length) (hd : (dcdF (ws.getD k 0)).2 = true) : toldF (aK ws (ws.length + 1)) (tK ws (ws.length + 1)) (lineW (ws.getD k 0) k ws.length) (k : Nat) = textF (dcdF (ws.getD k 0)).1 := by
 have hW := ws_lt hws k
 obtain ⟨he, -⟩ := dcd_enc hW hd
 cases hg : (goF (ws.getD k 0) k ws.length).2 with
 | false =>
  rw [line_text hd hg]
  exact told_text he fun x hx => tK_head ws hx _
 | true =>
  obtain ⟨R, p, hp1, hp2, hs, hp3, ht, hl⟩ := line_go hW hg
  rw [hl]
  obtain ⟨h1, h2⟩ := tK_get ws (mk_of_go hk hg hp1) (ws.length + 1) (by omega) (by omega)
  exact told_mark he hs ht h2 h1 hp3
theorem go_k {ws : List Nat} (hws : ∀ x ∈ ws, x < 4294967296) (hn : ws.length <= 1000) (hall : ∀ k, k < ws.length -> (dcdF (ws.getD k 0)).2 = true) : ∀ (m k : Nat) (met : List UInt8 -> Bool), k + m = ws.length -> (∀ p, k <= p -> p <= ws.length -> met (markF p) = false) ->
  asmGo selfL (aK ws (ws.length + 1)) (tK ws (ws.length + 1)) (((List.range' k m).flatMap (tlK ws) ++ tlE ws).map lnOf) met (ws.take k) = .ok ws
 | 0, k, met, hk, hmet => by
  obtain rfl : k = ws.length := by omega
  rw [List.take_length]
  unfold tlE
  cases hm : mkB ws ws.length with
  | false => rfl
  | true =>
   show asmGo selfL _ _ [⟨1, markF ws.length, true⟩] met ws = .ok ws
   rw [asmGo, if_pos rfl, hmet _ (Nat.le_refl _) (Nat.le_refl _), if_neg (by decide), asmGo]
 | m + 1, k, met, hk, hmet => by
  have hkl : k < ws.length := by omega
  have hd := hall k hkl
  have hW := ws_lt hws k
  obtain ⟨he, hR⟩ := dcd_enc hW hd
  have hlen : (ws.take k).length = k := by simp; omega
  have htk : ws.take k ++ [ws.getD k 0] = ws.take (k + 1) := by
   rw [List.take_add_one, List.getD_eq_getElem?_getD, List.getElem?_eq_getElem hkl]
   rfl
  have hi : innerF (aK ws (ws.length + 1)) (tK ws (ws.length + 1)) (selfL (lineW (ws.getD k 0) k ws.length)) (ws.take k) = some (ws.take (k + 1)) := by
   have := inner_told (A := aK ws (ws.length + 1)) (T := tK ws (ws.length + 1)) (s := lineW (ws.getD k 0) k ws.length) (out := ws.take k) (by rw [hlen]; exact told_line hws hn hkl hd) he
   rw [this, hR, htk]
  have step : ∀ met', (∀ p, k + 1 <= p -> p <= ws.length -> met' (markF p) = false) -> asmGo selfL (aK ws (ws.length + 1)) (tK ws (ws.length + 1)) (⟨1, lineW (ws.getD k 0) k ws.length, false⟩ :: ((List.range' (k + 1) m).flatMap (tlK ws) ++ tlE ws).map lnOf) met' (ws.take k) = .ok ws := by
   intro met' h'
   rw [asmGo, if_neg (by simp)]
   dsimp only
   rw [hi]
   exact go_k hws hn hall m (k + 1) met' (by omega) h'
  rw [List.range'_succ, List.flatMap_cons, tlK, hd, if_pos rfl]
  cases hm : mkB ws k with
  | false => exact step met fun p h1 h2 => hmet p (by omega) h2
  | true =>
   show asmGo selfL _ _ (⟨1, markF k, true⟩ :: ⟨1, lineW (ws.getD k 0) k ws.length, false⟩ :: ((List.range' (k + 1) m).flatMap (tlK ws) ++ tlE ws).map lnOf) met (ws.take k) = .ok ws
   rw [asmGo, if_pos rfl, hmet k (Nat.le_refl _) (by omega), if_neg (by decide)]
   refine step _ fun p h1 h2 => ?_
   dsimp only
   rw [if_neg fun e => by have := mark_inj (by omega) (by omega) e; omega]
   exact hmet p (by omega) h2
theorem go_list {ws : List Nat} (hws : ∀ x ∈ ws, x < 4294967296) (hn : ws.length <= 1000) (hall : ∀ k, k < ws.length -> (dcdF (ws.getD k 0)).2 = true) : asmGo selfL (aK ws (ws.length + 1)) (tK ws (ws.length + 1)) ((tlA ws).map lnOf) (fun _ => false) [] = .ok ws := by
 have := go_k hws hn hall ws.length 0 (fun _ => false) (by omega) fun _ _ _ => rfl
 rw [<- List.range_eq_range'] at this
 exact this
open Go.Fx
theorem qG6 : type_of% (And.intro @gen0 (And.intro (@gen1 Tryz.prog) (And.intro @gen2 (And.intro @rulesC (And.intro @rulesX (And.intro @rulesA (And.intro @rulesL (And.intro @rulesB (And.intro @rulesW (And.intro @rulesD (And.intro @litR (And.intro @bolR (And.intro (@numR Tryz.prog) (And.intro (@memR Tryz.prog) (And.intro @valR (And.intro @heapR (And.intro @updR (And.intro @intR (And.intro @decR (And.intro (@extR Tryz.prog) (And.intro (@slR Tryz.prog) (And.intro @segR (And.intro @thenR ((@pnR Tryz.prog))))))))))))))))))))))))) := ⟨@gen0, (@gen1 Tryz.prog), @gen2, @rulesC, @rulesX, @rulesA, @rulesL, @rulesB, @rulesW, @rulesD, @litR, @bolR, (@numR Tryz.prog), (@memR Tryz.prog), @valR, @heapR, @updR, @intR, @decR, (@extR Tryz.prog), (@slR Tryz.prog), @segR, @thenR, (@pnR Tryz.prog)⟩
set_option maxRecDepth 100000
theorem rmay_spec {w : World} {a n : Nat} (h : n <= 64 /\ a + n <= 64) {K : Value -> World -> Prop} (hK : K (.bool true) w) : callsK Tryz.prog 90 #[.int .i64 (a : Nat), .int .i64 (n : Nat)] w K := by
 apply F90_ok
 unfold F90
 simp (disch := first | exact qDR | fail) only [qG6, Nat.reduceAdd, Nat.reduceLeDiff, Int.reduceToNat, Int.reduceAdd, Int.reduceSub, Int.reduceLT, Int.reduceLE, Nat.reduceSub, Nat.reduceMul, Nat.reduceEqDiff, joinBR]
 exact hK
theorem bit_put {o b i : Nat} (ho : o < 2 ^ i) (hb : b < 2) : o ||| b * 2 ^ i = o + b * 2 ^ i /\ o + b * 2 ^ i < 2 ^ (i + 1) := by
 have h1 := Nat.two_pow_add_eq_or_of_lt ho b
 refine ⟨?_, ?_⟩
 ·rw [Nat.or_comm, Nat.mul_comm b, <- h1, Nat.add_comm]
 ·rw [Nat.pow_succ]
  have : b = 0 ∨ b = 1 := by omega
  rcases this with rfl | rfl <;> omega
theorem bit_step {x k i o : Nat} (hx : x < 18446744073709551616) (ho : o < 2 ^ i) (hi : i < 64) : bitI .or .u64 (o : Int) (IntKind.u64.wrap (bitI .and .u64 ((x : Int).fdiv (2 ^ k)) 1 * 2 ^ i)) = ((o + x / 2 ^ k % 2 * 2 ^ i : Nat) : Int) := by
 have e1 : (x : Int).fdiv (2 ^ k) = ((x / 2 ^ k : Nat) : Int) := by
  rw [Int.fdiv_eq_ediv_of_nonneg _ (Int.pow_nonneg (by decide))]
  simp
 have h2 : x / 2 ^ k <= x := Nat.div_le_self _ _
 have hpw : (2 : Nat) ^ i * 2 <= 2 ^ 64 := by rw [<- Nat.pow_succ]; exact Nat.pow_le_pow_right (by omega) (by omega)
 have e64 : (2 : Nat) ^ 64 = 18446744073709551616 := by decide
 have hb : x / 2 ^ k % 2 < 2 := Nat.mod_lt _ (by omega)
 rw [e1]
 generalize x / 2 ^ k = q at *
 rw [and_u64 (by omega) (by omega), show (1 : Int).toNat = 1 from rfl, Int.toNat_natCast, show (1 : Nat) = 2 ^ 1 - 1 from rfl, Nat.and_two_pow_sub_one_eq_mod, Nat.pow_one]
 generalize q % 2 = b at *
 have e2 : ((b : Nat) : Int) * 2 ^ i = ((b * 2 ^ i : Nat) : Int) := by simp
 have hlt : b * 2 ^ i < 18446744073709551616 := by
  have : b = 0 ∨ b = 1 := by omega
  rcases this with rfl | rfl <;> omega
 rw [e2, wrap_un, un_nn (by omega), Int.toNat_natCast, or_u64 (by omega) (by omega), Int.toNat_natCast, Int.toNat_natCast, (bit_put ho hb).1]
theorem mod_step (x i : Nat) : x % 2 ^ i + x / 2 ^ i % 2 * 2 ^ i = x % 2 ^ (i + 1) := by
 rw [Nat.pow_succ, Nat.mod_mul, Nat.mul_comm (2 ^ i)]
theorem rGet_spec {w : World} {x a n : Nat} (hx : x < 18446744073709551616) (h : n <= 64 /\ a + n <= 64) {K : Value -> World -> Prop} (hK : K (.int .u64 (x / 2 ^ a % 2 ^ n : Nat)) w) : callsK Tryz.prog 72 #[.int .u64 (x : Nat), .int .i64 (a : Nat), .int .i64 (n : Nat)] w K := by
 apply F72_ok
 unfold F72
 refine loopT.intro (fun st w' => ∃ (i : Nat), i <= n /\ st = [.int .u64 (x / 2 ^ a % 2 ^ i : Nat), .int .i64 (i : Nat)] /\ w' = w)
  (fun st _ => match st with
   | [_, .int _ z] => n - z.toNat
   | _ => 0) ⟨0, Nat.zero_le _, by simp [Nat.mod_one], rfl⟩ ?_
 rintro st w' ⟨i, hi, rfl, rfl⟩ _
 simp (disch := first | exact qDR | fail) only [qG6, Nat.reduceAdd, Nat.reduceLeDiff, Int.reduceToNat, Int.reduceAdd, Int.reduceSub, Int.reduceLT, Int.reduceLE, Nat.reduceSub, Nat.reduceMul, Nat.reduceEqDiff]
 refine rmay_spec h ?_
 by_cases hin : i < n
 ·have hb := bit_step (x := x) (k := a + i) (i := i) (o := x / 2 ^ a % 2 ^ i) hx (Nat.mod_lt _ (Nat.two_pow_pos _)) (by omega)
  have e : ((a : Int) + (i : Int)).toNat = a + i := by omega
  simp (disch := first | exact qDR | fail) only [qG6, Nat.reduceAdd, Nat.reduceLeDiff, Int.reduceToNat, Int.reduceAdd, Int.reduceSub, Int.reduceLT, Int.reduceLE, Nat.reduceSub, Nat.reduceMul, Nat.reduceEqDiff, joinBR, e, hb]
  refine ⟨⟨i + 1, hin, ?_, trivial⟩, by omega⟩
  rw [Nat.pow_add, <- Nat.div_div_eq_div_mul, mod_step]
  rfl
 ·obtain rfl : i = n := by omega
  simp (disch := first | exact qDR | fail) only [qG6, Nat.reduceAdd, Nat.reduceLeDiff, Int.reduceToNat, Int.reduceAdd, Int.reduceSub, Int.reduceLT, Int.reduceLE, Nat.reduceSub, Nat.reduceMul, Nat.reduceEqDiff, joinBR]
  exact hK
/-- the lowest bits of a number whose sign goes on. -/
theorem sign_bit {x b i : Nat} (hb : 1 <= b /\ b <= 64) (hi : i < 64) : signN x b / 2 ^ i % 2 = x / 2 ^ (if i < b then i else b - 1) % 2 := by
 by_cases h : i < b
 ·rw [if_pos h]
  have := sign_piece (x := x) (b := b) (f := i) (n := 1) hb (by omega)
  rw [Nat.pow_one] at this
  exact this
 ·rw [if_neg h]
  have hy : x % 2 ^ b < 2 ^ b := Nat.mod_lt _ (Nat.two_pow_pos _)
  have hp : (2 : Nat) ^ b = 2 ^ (b - 1) * 2 := by rw [<- Nat.pow_succ]; congr 1; omega
  have hxy : x / 2 ^ (b - 1) % 2 = x % 2 ^ b / 2 ^ (b - 1) % 2 := by
   have := low_bits (x := x) (y := x % 2 ^ b) (b := b) (f := b - 1) (n := 1) (by omega) (by rw [Nat.mod_mod])
   rw [Nat.pow_one] at this
   exact this
  rw [hxy]
  unfold signN
  generalize x % 2 ^ b = y at *
  split
  ·rename_i hc
   rw [Nat.div_eq_of_lt hc, Nat.div_eq_of_lt (Nat.lt_of_lt_of_le hy (Nat.pow_le_pow_right (by omega) (by omega)))]
  ·rename_i hc
   have e1 : y / 2 ^ (b - 1) = 1 := by
    apply Nat.div_eq_of_lt_le <;> omega
   have e64 : (18446744073709551616 : Nat) = 2 ^ b * 2 ^ (64 - b) := by
    rw [<- Nat.pow_add, show b + (64 - b) = 64 by omega]
   have e2 : y + (18446744073709551616 - 2 ^ b) = 2 ^ b * (2 ^ (64 - b) - 1) + y := by
    rw [e64, Nat.mul_sub, Nat.mul_one, Nat.add_comm]
   have e3 : (y + (18446744073709551616 - 2 ^ b)).testBit i = true := by
    rw [e2, Nat.testBit_two_pow_mul_add _ hy, if_neg h, Nat.testBit_two_pow_sub_one]
    exact decide_eq_true (by omega)
   rw [e1]
   rw [Nat.testBit_eq_decide_div_mod_eq] at e3
   exact of_decide_eq_true e3
theorem rSign_spec {w : World} {x b : Nat} (hx : x < 18446744073709551616) (hb : 1 <= b /\ b <= 64) {K : Value -> World -> Prop} (hK : K (.int .u64 (signN x b : Nat)) w) : callsK Tryz.prog 89 #[.int .u64 (x : Nat), .int .i64 (b : Nat)] w K := by
 apply F89_ok
 unfold F89
 have hsl := signN_lt (x := x) hb
 simp (disch := first | exact qDR | fail) only [qG6, Nat.reduceAdd, Nat.reduceLeDiff, Int.reduceToNat, Int.reduceAdd, Int.reduceSub, Int.reduceLT, Int.reduceLE, Nat.reduceSub, Nat.reduceMul, Nat.reduceEqDiff, joinBR]
 refine loopT.intro (fun st w' => ∃ (i : Nat), i <= 64 /\ st = [.int .u64 (signN x b % 2 ^ i : Nat), .int .i64 (i : Nat)] /\ w' = w)
  (fun st _ => match st with
   | [_, .int _ z] => 64 - z.toNat
   | _ => 0) ⟨0, Nat.zero_le _, by simp [Nat.mod_one], rfl⟩ ?_
 rintro st w' ⟨i, hi, rfl, rfl⟩ _
 by_cases hin : i < 64
 ·have hbs := sign_bit (x := x) hb hin
  have hm := mod_step (signN x b) i
  rw [hbs] at hm
  have hbt := bit_step (x := x) (k := if i < b then i else b - 1) (i := i) (o := signN x b % 2 ^ i) hx (Nat.mod_lt _ (Nat.two_pow_pos _)) hin
  simp (disch := first | exact qDR | fail) only [qG6, Nat.reduceAdd, Nat.reduceLeDiff, Int.reduceToNat, Int.reduceAdd, Int.reduceSub, Int.reduceLT, Int.reduceLE, Nat.reduceSub, Nat.reduceMul, Nat.reduceEqDiff, joinBR]
  refine joinL.intro fun J3 hJ3 => ?_
  have hgo : J3 [.int .i64 ((if i < b then i else b - 1 : Nat) : Int)] w' := by
   apply hJ3
   intro _
   have hk : (if i < b then i else b - 1) < 64 := by split <;> omega
   generalize (if i < b then i else b - 1) = k at *
   simp (disch := first | exact qDR | fail) only [qG6, Nat.reduceAdd, Nat.reduceLeDiff, Int.reduceToNat, Int.reduceAdd, Int.reduceSub, Int.reduceLT, Int.reduceLE, Nat.reduceSub, Nat.reduceMul, Nat.reduceEqDiff, joinBR, hbt]
   refine ⟨⟨i + 1, hin, ?_, trivial⟩, by omega⟩
   rw [hm]
   rfl
  by_cases hib : i < b
  ·rw [if_pos hib] at hgo
   simp (disch := first | exact qDR | fail) only [qG6, Nat.reduceAdd, Nat.reduceLeDiff, Int.reduceToNat, Int.reduceAdd, Int.reduceSub, Int.reduceLT, Int.reduceLE, Nat.reduceSub, Nat.reduceMul, Nat.reduceEqDiff, joinBR]
   exact hgo
  ·rw [if_neg hib] at hgo
   have e : ((b - 1 : Nat) : Int) = (b : Int) - 1 := by omega
   rw [e] at hgo
   simp (disch := first | exact qDR | fail) only [qG6, Nat.reduceAdd, Nat.reduceLeDiff, Int.reduceToNat, Int.reduceAdd, Int.reduceSub, Int.reduceLT, Int.reduceLE, Nat.reduceSub, Nat.reduceMul, Nat.reduceEqDiff, joinBR]
   exact hgo
 ·obtain rfl : i = 64 := by omega
  have e : signN x b % 2 ^ 64 = signN x b := Nat.mod_eq_of_lt hsl
  rw [e]
  simp (disch := first | exact qDR | fail) only [qG6, Nat.reduceAdd, Nat.reduceLeDiff, Int.reduceToNat, Int.reduceAdd, Int.reduceSub, Int.reduceLT, Int.reduceLE, Nat.reduceSub, Nat.reduceMul, Nat.reduceEqDiff, joinBR]
  exact hK
open Go.Fx
set_option maxRecDepth 100000
/-- the cells of a row of the document. -/
def rrC (r : Rw) : List Value := [.string ⟨r.n.toArray⟩, .int .u8 (r.s : Nat), .int .u32 (r.c : Nat), .int .u32 (r.f : Nat), .int .u32 (r.o : Nat)]
theorem rrC_len (r : Rw) : (rrC r).length = 5 := by simp [rrC]
theorem rrC_all (r : Rw) : (rrC r).all (fun v => v.oneCell') = true := by simp [rrC]; exact ⟨rfl, rfl, rfl, rfl, rfl⟩
theorem rrC_over (r : Rw) : splice [.string ⟨#[]⟩, .int .u8 0, .int .u32 0, .int .u32 0, .int .u32 0] 0 (rrC r) = rrC r := rfl
theorem rrC_put (r : Rw) : rrC r ++ List.drop (rrC r).length [.string ⟨#[]⟩, .int .u8 0, .int .u32 0, .int .u32 0, .int .u32 0] = rrC r := by simp [rrC]
def rowsL : Array (Nat × Value) := #[(0, Value.agg [.string ⟨#[108, 117, 105]⟩, .int .u8 85, .int .u32 55, .int .u32 0, .int .u32 0].toArray), (1, Value.agg [.string ⟨#[97, 117, 105, 112, 99]⟩, .int .u8 85, .int .u32 23, .int .u32 0, .int .u32 0].toArray), (2, Value.agg [.string ⟨#[106, 97, 108]⟩, .int .u8 74, .int .u32 111, .int .u32 0, .int .u32 0].toArray), (3, Value.agg [.string ⟨#[106, 97, 108, 114]⟩, .int .u8 73, .int .u32 103, .int .u32 0, .int .u32 0].toArray), (4, Value.agg [.string ⟨#[98, 101, 113]⟩, .int .u8 66, .int .u32 99, .int .u32 0, .int .u32 0].toArray), (5, Value.agg [.string ⟨#[98, 110, 101]⟩, .int .u8 66, .int .u32 99, .int .u32 1, .int .u32 0].toArray), (6, Value.agg [.string ⟨#[98, 108, 116]⟩, .int .u8 66, .int .u32 99, .int .u32 4, .int .u32 0].toArray), (7, Value.agg [.string ⟨#[98, 103, 101]⟩, .int .u8 66, .int .u32 99, .int .u32 5, .int .u32 0].toArray), (8, Value.agg [.string ⟨#[98, 108, 116, 117]⟩, .int .u8 66, .int .u32 99, .int .u32 6, .int .u32 0].toArray), (9, Value.agg [.string ⟨#[98, 103, 101, 117]⟩, .int .u8 66, .int .u32 99, .int .u32 7, .int .u32 0].toArray), (10, Value.agg [.string ⟨#[108, 98]⟩, .int .u8 73, .int .u32 3, .int .u32 0, .int .u32 0].toArray), (11, Value.agg [.string ⟨#[108, 104]⟩, .int .u8 73, .int .u32 3, .int .u32 1, .int .u32 0].toArray), (12, Value.agg [.string ⟨#[108, 119]⟩, .int .u8 73, .int .u32 3, .int .u32 2, .int .u32 0].toArray), (13, Value.agg [.string ⟨#[108, 100]⟩, .int .u8 73, .int .u32 3, .int .u32 3, .int .u32 0].toArray), (14, Value.agg [.string ⟨#[108, 98, 117]⟩, .int .u8 73, .int .u32 3, .int .u32 4, .int .u32 0].toArray), (15, Value.agg [.string ⟨#[108, 104, 117]⟩, .int .u8 73, .int .u32 3, .int .u32 5, .int .u32 0].toArray), (16, Value.agg [.string ⟨#[108, 119, 117]⟩, .int .u8 73, .int .u32 3, .int .u32 6, .int .u32 0].toArray), (17, Value.agg [.string ⟨#[115, 98]⟩, .int .u8 83, .int .u32 35, .int .u32 0, .int .u32 0].toArray), (18, Value.agg [.string ⟨#[115, 104]⟩, .int .u8 83, .int .u32 35, .int .u32 1, .int .u32 0].toArray), (19, Value.agg [.string ⟨#[115, 119]⟩, .int .u8 83, .int .u32 35, .int .u32 2, .int .u32 0].toArray), (20, Value.agg [.string ⟨#[115, 100]⟩, .int .u8 83, .int .u32 35, .int .u32 3, .int .u32 0].toArray), (21, Value.agg [.string ⟨#[97, 100, 100, 105]⟩, .int .u8 73, .int .u32 19, .int .u32 0, .int .u32 0].toArray), (22, Value.agg [.string ⟨#[115, 108, 116, 105]⟩, .int .u8 73, .int .u32 19, .int .u32 2, .int .u32 0].toArray), (23, Value.agg [.string ⟨#[115, 108, 116, 105, 117]⟩, .int .u8 73, .int .u32 19, .int .u32 3, .int .u32 0].toArray), (24, Value.agg [.string ⟨#[120, 111, 114, 105]⟩, .int .u8 73, .int .u32 19, .int .u32 4, .int .u32 0].toArray), (25, Value.agg [.string ⟨#[111, 114, 105]⟩, .int .u8 73, .int .u32 19, .int .u32 6, .int .u32 0].toArray), (26, Value.agg [.string ⟨#[97, 110, 100, 105]⟩, .int .u8 73, .int .u32 19, .int .u32 7, .int .u32 0].toArray), (27, Value.agg [.string ⟨#[115, 108, 108, 105]⟩, .int .u8 72, .int .u32 19, .int .u32 1, .int .u32 0].toArray), (28, Value.agg [.string ⟨#[115, 114, 108, 105]⟩, .int .u8 72, .int .u32 19, .int .u32 5, .int .u32 0].toArray), (29, Value.agg [.string ⟨#[115, 114, 97, 105]⟩, .int .u8 72, .int .u32 19, .int .u32 5, .int .u32 16].toArray), (30, Value.agg [.string ⟨#[97, 100, 100]⟩, .int .u8 82, .int .u32 51, .int .u32 0, .int .u32 0].toArray), (31, Value.agg [.string ⟨#[115, 117, 98]⟩, .int .u8 82, .int .u32 51, .int .u32 0, .int .u32 32].toArray), (32, Value.agg [.string ⟨#[115, 108, 108]⟩, .int .u8 82, .int .u32 51, .int .u32 1, .int .u32 0].toArray), (33, Value.agg [.string ⟨#[115, 108, 116]⟩, .int .u8 82, .int .u32 51, .int .u32 2, .int .u32 0].toArray), (34, Value.agg [.string ⟨#[115, 108, 116, 117]⟩, .int .u8 82, .int .u32 51, .int .u32 3, .int .u32 0].toArray), (35, Value.agg [.string ⟨#[120, 111, 114]⟩, .int .u8 82, .int .u32 51, .int .u32 4, .int .u32 0].toArray), (36, Value.agg [.string ⟨#[115, 114, 108]⟩, .int .u8 82, .int .u32 51, .int .u32 5, .int .u32 0].toArray), (37, Value.agg [.string ⟨#[115, 114, 97]⟩, .int .u8 82, .int .u32 51, .int .u32 5, .int .u32 32].toArray), (38, Value.agg [.string ⟨#[111, 114]⟩, .int .u8 82, .int .u32 51, .int .u32 6, .int .u32 0].toArray), (39, Value.agg [.string ⟨#[97, 110, 100]⟩, .int .u8 82, .int .u32 51, .int .u32 7, .int .u32 0].toArray), (40, Value.agg [.string ⟨#[101, 99, 97, 108, 108]⟩, .int .u8 78, .int .u32 115, .int .u32 0, .int .u32 0].toArray), (41, Value.agg [.string ⟨#[101, 98, 114, 101, 97, 107]⟩, .int .u8 78, .int .u32 115, .int .u32 0, .int .u32 1].toArray), (42, Value.agg [.string ⟨#[99, 108, 99]⟩, .int .u8 73, .int .u32 15, .int .u32 2, .int .u32 0].toArray), (43, Value.agg [.string ⟨#[99, 115, 99]⟩, .int .u8 83, .int .u32 35, .int .u32 4, .int .u32 0].toArray), (44, Value.agg [.string ⟨#[99, 115, 101, 116, 98, 111, 117, 110, 100, 115]⟩, .int .u8 82, .int .u32 91, .int .u32 0, .int .u32 8].toArray), (45, Value.agg [.string ⟨#[99, 115, 101, 116, 98, 111, 117, 110, 100, 115, 101, 120, 97, 99, 116]⟩, .int .u8 82, .int .u32 91, .int .u32 0, .int .u32 9].toArray), (46, Value.agg [.string ⟨#[99, 115, 101, 97, 108]⟩, .int .u8 82, .int .u32 91, .int .u32 0, .int .u32 11].toArray), (47, Value.agg [.string ⟨#[99, 117, 110, 115, 101, 97, 108]⟩, .int .u8 82, .int .u32 91, .int .u32 0, .int .u32 12].toArray), (48, Value.agg [.string ⟨#[99, 97, 110, 100, 112, 101, 114, 109]⟩, .int .u8 82, .int .u32 91, .int .u32 0, .int .u32 13].toArray), (49, Value.agg [.string ⟨#[99, 115, 101, 116, 97, 100, 100, 114]⟩, .int .u8 82, .int .u32 91, .int .u32 0, .int .u32 16].toArray), (50, Value.agg [.string ⟨#[99, 105, 110, 99, 111, 102, 102, 115, 101, 116]⟩, .int .u8 82, .int .u32 91, .int .u32 0, .int .u32 17].toArray), (51, Value.agg [.string ⟨#[99, 115, 117, 98]⟩, .int .u8 82, .int .u32 91, .int .u32 0, .int .u32 20].toArray), (52, Value.agg [.string ⟨#[99, 98, 117, 105, 108, 100, 99, 97, 112]⟩, .int .u8 82, .int .u32 91, .int .u32 0, .int .u32 29].toArray), (53, Value.agg [.string ⟨#[99, 116, 101, 115, 116, 115, 117, 98, 115, 101, 116]⟩, .int .u8 82, .int .u32 91, .int .u32 0, .int .u32 32].toArray), (54, Value.agg [.string ⟨#[99, 115, 101, 116, 101, 113, 117, 97, 108]⟩, .int .u8 82, .int .u32 91, .int .u32 0, .int .u32 33].toArray), (55, Value.agg [.string ⟨#[99, 103, 101, 116, 112, 101, 114, 109]⟩, .int .u8 71, .int .u32 91, .int .u32 0, .int .u32 0].toArray), (56, Value.agg [.string ⟨#[99, 103, 101, 116, 116, 121, 112, 101]⟩, .int .u8 71, .int .u32 91, .int .u32 0, .int .u32 1].toArray), (57, Value.agg [.string ⟨#[99, 103, 101, 116, 98, 97, 115, 101]⟩, .int .u8 71, .int .u32 91, .int .u32 0, .int .u32 2].toArray), (58, Value.agg [.string ⟨#[99, 103, 101, 116, 108, 101, 110]⟩, .int .u8 71, .int .u32 91, .int .u32 0, .int .u32 3].toArray), (59, Value.agg [.string ⟨#[99, 103, 101, 116, 116, 97, 103]⟩, .int .u8 71, .int .u32 91, .int .u32 0, .int .u32 4].toArray), (60, Value.agg [.string ⟨#[99, 103, 101, 116, 111, 102, 102, 115, 101, 116]⟩, .int .u8 71, .int .u32 91, .int .u32 0, .int .u32 6].toArray), (61, Value.agg [.string ⟨#[99, 114, 114, 108]⟩, .int .u8 71, .int .u32 91, .int .u32 0, .int .u32 8].toArray), (62, Value.agg [.string ⟨#[99, 114, 97, 109]⟩, .int .u8 71, .int .u32 91, .int .u32 0, .int .u32 9].toArray), (63, Value.agg [.string ⟨#[99, 109, 111, 118, 101]⟩, .int .u8 71, .int .u32 91, .int .u32 0, .int .u32 10].toArray), (64, Value.agg [.string ⟨#[99, 99, 108, 101, 97, 114, 116, 97, 103]⟩, .int .u8 71, .int .u32 91, .int .u32 0, .int .u32 11].toArray), (65, Value.agg [.string ⟨#[99, 103, 101, 116, 97, 100, 100, 114]⟩, .int .u8 71, .int .u32 91, .int .u32 0, .int .u32 15].toArray), (66, Value.agg [.string ⟨#[99, 115, 101, 97, 108, 101, 110, 116, 114, 121]⟩, .int .u8 71, .int .u32 91, .int .u32 0, .int .u32 17].toArray), (67, Value.agg [.string ⟨#[99, 105, 110, 99, 111, 102, 102, 115, 101, 116, 105, 109, 109]⟩, .int .u8 73, .int .u32 91, .int .u32 1, .int .u32 0].toArray), (68, Value.agg [.string ⟨#[99, 115, 101, 116, 98, 111, 117, 110, 100, 115, 105, 109, 109]⟩, .int .u8 67, .int .u32 91, .int .u32 2, .int .u32 0].toArray)]
theorem rowsL_eq : rowsL = (partsFrom 0 (rowI.map fun r => Value.agg (rrC r).toArray)).toArray := by kernel_rfl
theorem rowsBS (w : World) : (Instr.buildSlice 95 69 rowsL).run Tryz.prog w = .ok (.slice (some ⟨w.heap.size, 0, none⟩) 69 69) (w.alloc (.cells ((rowI.map fun r => Value.agg (rrC r).toArray).flatMap fun v => v.cells.toList).toArray 98)) := by
 rw [rowsL_eq]
 exact run_bs (P := Tryz.prog) (t := 95) (e := 98) (size := 5) Tryz.underlying95 (by kernel_rfl) (rowI.map fun r => Value.agg (rrC r).toArray) (by
  intro v hv
  obtain ⟨r, -, rfl⟩ := List.mem_map.1 hv
  rfl) (by rw [List.length_map, rowI_len]; decide) w
theorem rrs_flat : ∀ l : List Rw, ((l.map fun r => Value.agg (rrC r).toArray).flatMap fun v => v.cells.toList) = (l.map rrC).flatten
 | [] => rfl
 | r :: l => by rw [List.map_cons, List.flatMap_cons, rrs_flat l]; rfl
theorem rrs_at : ∀ (l : List Rw) (i : Nat) (r : List Value), (l.map rrC)[i]? = some r -> sub ((l.map rrC).flatten) (i * 5) 5 = r
 | [], i, r, h => by simp at h
 | x :: l, 0, r, h => by
  simp at h
  subst h
  simp [sub, rrC]
 | x :: l, i + 1, r, h => by
  have := rrs_at l i r (by simpa using h)
  have e : (i + 1) * 5 = 5 + i * 5 := by omega
  rw [sub, List.map_cons, List.flatten_cons, e, <- List.drop_drop]
  simpa [sub, rrC] using this
theorem rRows_spec {w : World} {K : Value -> World -> Prop} (hK : ∀ v w', RowsAt w' v 5 (rowI.map rrC) -> Ext [] w w' -> (∀ b, blockOf v = some b -> w.heap.size <= b) -> K v w') : callsK Tryz.prog 38 #[] w K := by
 apply F38_ok
 unfold F38
 have hb := rowsBS w
 unfold rowsL at hb
 simp (disch := first | exact qDR | fail) only [qG6, Nat.reduceAdd, Nat.reduceLeDiff, Int.reduceToNat, Int.reduceAdd, Int.reduceSub, Int.reduceLT, Int.reduceLE, Nat.reduceSub, Nat.reduceMul, Nat.reduceEqDiff, hb]
 have hl : (rowI.map rrC).length = 69 := by rw [List.length_map, rowI_len]
 refine hK _ _ ⟨_, _, by rw [hl], by rw [hl]; simp only [maxLen]; omega, .inr ⟨_, _, (rowI.map rrC).flatten, 98, (0, 0), rfl, ?_, ?_, fun i r hr => by rw [Nat.zero_add]; exact rrs_at rowI i r hr⟩⟩ qX (by simp [blockOf])
 ·rw [<- rrs_flat]
  exact alloc_at rfl
 ·rw [hl]
  show 345 <= _
  have : ((rowI.map rrC).flatten).length = 345 := by kernel_rfl
  omega
open Go.Fx
set_option maxRecDepth 100000
theorem rget_spec {w : World} {W a n : Nat} (hW : W < 4294967296) (h : n <= 64 /\ a + n <= 64) {K : Value -> World -> Prop} (hK : K (.int .u64 (W / 2 ^ a % 2 ^ n : Nat)) w) : callsK Tryz.prog 40 #[.int .u32 (W : Nat), .int .i64 (a : Nat), .int .i64 (n : Nat)] w K := by
 apply F40_ok
 unfold F40
 simp (disch := first | exact qDR | fail) only [qG6, Nat.reduceAdd, Nat.reduceLeDiff, Int.reduceToNat, Int.reduceAdd, Int.reduceSub, Int.reduceLT, Int.reduceLE, Nat.reduceSub, Nat.reduceMul, Nat.reduceEqDiff]
 refine rGet_spec (x := W) (by omega) h ?_
 exact hK
/-- a number of 64 bits, with its sign. -/
def s64 (x : Nat) : Int := if x < 9223372036854775808 then (x : Int) else (x : Int) - 18446744073709551616
theorem rsigned_spec {w : World} {x b : Nat} (hx : x < 18446744073709551616) (hb : 1 <= b /\ b <= 64) {K : Value -> World -> Prop} (hK : K (.int .i64 (s64 (signN x b))) w) : callsK Tryz.prog 71 #[.int .u64 (x : Nat), .int .i64 (b : Nat)] w K := by
 apply F71_ok
 unfold F71
 simp (disch := first | exact qDR | fail) only [qG6, Nat.reduceAdd, Nat.reduceLeDiff, Int.reduceToNat, Int.reduceAdd, Int.reduceSub, Int.reduceLT, Int.reduceLE, Nat.reduceSub, Nat.reduceMul, Nat.reduceEqDiff]
 refine rSign_spec hx hb ?_
 have hw := wrap_i64N (signN_lt (x := x) hb)
 simp (disch := first | exact qDR | fail) only [qG6, Nat.reduceAdd, Nat.reduceLeDiff, Int.reduceToNat, Int.reduceAdd, Int.reduceSub, Int.reduceLT, Int.reduceLE, Nat.reduceSub, Nat.reduceMul, Nat.reduceEqDiff, hw]
 exact hK
theorem rbits_spec {w : World} {m : Int} {f n a : Nat} (h : f + n <= 64 /\ n + a <= 32) {K : Value -> World -> Prop} (hK : K (.int .u32 (un m / 2 ^ f % 2 ^ n * 2 ^ a : Nat)) w) : callsK Tryz.prog 74 #[.int .i64 m, .int .i64 (f : Nat), .int .i64 (n : Nat), .int .i64 (a : Nat)] w K := by
 apply F74_ok
 unfold F74
 have hw := wrap_un m
 have hu := un_lt m
 simp (disch := first | exact qDR | fail) only [qG6, Nat.reduceAdd, Nat.reduceLeDiff, Int.reduceToNat, Int.reduceAdd, Int.reduceSub, Int.reduceLT, Int.reduceLE, Nat.reduceSub, Nat.reduceMul, Nat.reduceEqDiff, hw]
 refine rGet_spec (x := un m) hu (by omega) ?_
 have hlt : un m / 2 ^ f % 2 ^ n * 2 ^ a < 4294967296 := by
  have h1 : un m / 2 ^ f % 2 ^ n < 2 ^ n := Nat.mod_lt _ (Nat.two_pow_pos _)
  have h2 : (2 : Nat) ^ n * 2 ^ a <= 2 ^ 32 := by rw [<- Nat.pow_add]; exact Nat.pow_le_pow_right (by omega) h.2
  have h3 : un m / 2 ^ f % 2 ^ n * 2 ^ a < 2 ^ n * 2 ^ a := (Nat.mul_lt_mul_right (Nat.two_pow_pos _)).2 h1
  have e : (2 : Nat) ^ 32 = 4294967296 := by decide
  omega
 generalize un m / 2 ^ f % 2 ^ n = q at *
 have e2 : ((q : Nat) : Int) * 2 ^ a = ((q * 2 ^ a : Nat) : Int) := by simp
 generalize q * 2 ^ a = r at *
 have e3 : IntKind.u64.wrap ((r : Nat) : Int) = r := by rw [wrap_un, un_nn (by omega)]; simp
 simp (disch := first | exact qDR | fail) only [qG6, Nat.reduceAdd, Nat.reduceLeDiff, Int.reduceToNat, Int.reduceAdd, Int.reduceSub, Int.reduceLT, Int.reduceLE, Nat.reduceSub, Nat.reduceMul, Nat.reduceEqDiff, e2, e3]
 exact hK
theorem rreg_spec {w : World} {n : Int} {K : Value -> World -> Prop} (hK : K (.bool (fitsU n 5)) w) : callsK Tryz.prog 73 #[.int .i64 n] w K := by
 apply F73_ok
 unfold F73
 have e : fitsU n 5 = decide (0 <= n /\ n < 32) := rfl
 rw [e] at hK
 by_cases h1 : 0 <= n
 ·by_cases h2 : n < 32
  ·rw [decide_eq_true ⟨h1, h2⟩] at hK
   simp (disch := first | exact qDR | fail) only [qG6, Nat.reduceAdd, Nat.reduceLeDiff, Int.reduceToNat, Int.reduceAdd, Int.reduceSub, Int.reduceLT, Int.reduceLE, Nat.reduceSub, Nat.reduceMul, Nat.reduceEqDiff, joinBR]
   exact hK
  ·rw [decide_eq_false (fun h => h2 h.2)] at hK
   simp (disch := first | exact qDR | fail) only [qG6, Nat.reduceAdd, Nat.reduceLeDiff, Int.reduceToNat, Int.reduceAdd, Int.reduceSub, Int.reduceLT, Int.reduceLE, Nat.reduceSub, Nat.reduceMul, Nat.reduceEqDiff, joinBR]
   exact hK
 ·rw [decide_eq_false (fun h => h1 h.1)] at hK
  simp (disch := first | exact qDR | fail) only [qG6, Nat.reduceAdd, Nat.reduceLeDiff, Int.reduceToNat, Int.reduceAdd, Int.reduceSub, Int.reduceLT, Int.reduceLE, Nat.reduceSub, Nat.reduceMul, Nat.reduceEqDiff, joinBR]
  exact hK
theorem rFitsS_spec {w : World} {x : Int} {b : Nat} (hb : 1 <= b /\ b <= 64) (hx : in64 x) {K : Value -> World -> Prop} (hK : K (.bool (fitsS x b)) w) : callsK Tryz.prog 75 #[.int .i64 x, .int .i64 (b : Nat), .bool true] w K := by
 apply F75_ok
 unfold F75
 have hw := wrap_un x
 have hf := signN_fits hb hx
 simp (disch := first | exact qDR | fail) only [qG6, Nat.reduceAdd, Nat.reduceLeDiff, Int.reduceToNat, Int.reduceAdd, Int.reduceSub, Int.reduceLT, Int.reduceLE, Nat.reduceSub, Nat.reduceMul, Nat.reduceEqDiff, joinBR, hw]
 refine rSign_spec (un_lt x) hb ?_
 rw [<- hf] at hK
 simp (disch := first | exact qDR | fail) only [qG6, Nat.reduceAdd, Nat.reduceLeDiff, Int.reduceToNat, Int.reduceAdd, Int.reduceSub, Int.reduceLT, Int.reduceLE, Nat.reduceSub, Nat.reduceMul, Nat.reduceEqDiff, joinBR, hw]
 exact hK
theorem rFitsU_spec {w : World} {x : Int} {b : Nat} (hb : 1 <= b /\ b <= 63) (hx : in64 x) {K : Value -> World -> Prop} (hK : K (.bool (fitsU x b)) w) : callsK Tryz.prog 75 #[.int .i64 x, .int .i64 (b : Nat), .bool false] w K := by
 apply F75_ok
 unfold F75
 obtain ⟨hx1, hx2⟩ := hx
 have hw := wrap_un x
 have hu := un_lt x
 by_cases h0 : 0 <= x
 ·simp (disch := first | exact qDR | fail) only [qG6, Nat.reduceAdd, Nat.reduceLeDiff, Int.reduceToNat, Int.reduceAdd, Int.reduceSub, Int.reduceLT, Int.reduceLE, Nat.reduceSub, Nat.reduceMul, Nat.reduceEqDiff, joinBR, hw]
  refine rGet_spec (x := un x) (a := 0) hu (by omega) ?_
  have e1 : un x / 2 ^ 0 % 2 ^ b = un x % 2 ^ b := by rw [Nat.pow_zero, Nat.div_one]
  have e2 : un x = x.toNat := un_nn ⟨h0, by omega⟩
  have e3 : decide (((un x % 2 ^ b : Nat) : Int) = ((un x : Nat) : Int)) = fitsU x b := by
   unfold fitsU
   apply decide_eq_decide.2
   have hp : 0 < 2 ^ b := Nat.two_pow_pos b
   have hm : un x % 2 ^ b < 2 ^ b := Nat.mod_lt _ hp
   constructor
   ·intro h; omega
   ·intro h
    rw [Nat.mod_eq_of_lt (by omega)]
  rw [e1]
  simp (disch := first | exact qDR | fail) only [qG6, Nat.reduceAdd, Nat.reduceLeDiff, Int.reduceToNat, Int.reduceAdd, Int.reduceSub, Int.reduceLT, Int.reduceLE, Nat.reduceSub, Nat.reduceMul, Nat.reduceEqDiff, joinBR, hw, e3]
  exact hK
 ·have e : fitsU x b = false := by unfold fitsU; exact decide_eq_false (fun h => h0 h.1)
  rw [e] at hK
  simp (disch := first | exact qDR | fail) only [qG6, Nat.reduceAdd, Nat.reduceLeDiff, Int.reduceToNat, Int.reduceAdd, Int.reduceSub, Int.reduceLT, Int.reduceLE, Nat.reduceSub, Nat.reduceMul, Nat.reduceEqDiff, joinBR]
  exact hK
open Go.Fx
set_option maxRecDepth 100000
theorem fold_12 (W : Nat) : [(0, 12, 20)].foldl (readX W) 0 = W / 2 ^ 20 % 2 ^ 12 := by
 show putB 0 0 12 (W / 2 ^ 20 % 2 ^ 12) = _
 unfold putB
 simp only [Nat.reducePow]
 omega
theorem fold_6 (W : Nat) : [(0, 6, 20)].foldl (readX W) 0 = W / 2 ^ 20 % 2 ^ 6 := by
 show putB 0 0 6 (W / 2 ^ 20 % 2 ^ 6) = _
 unfold putB
 simp only [Nat.reducePow]
 omega
theorem put_top {x a k v : Nat} (hx : x < 2 ^ a) (hv : v < 2 ^ k) : putB x a k v = x + v * 2 ^ a := by
 unfold putB
 rw [Nat.div_eq_of_lt (Nat.lt_of_lt_of_le hx (Nat.pow_le_pow_right (by omega) (by omega))), Nat.mod_eq_of_lt hv, Nat.mod_eq_of_lt hx]
 omega
theorem fold_S (W : Nat) : [(0, 5, 7), (5, 7, 25)].foldl (readX W) 0 = W / 2 ^ 7 % 2 ^ 5 + W / 2 ^ 25 % 2 ^ 7 * 2 ^ 5 := by
 show putB (putB 0 0 5 (W / 2 ^ 7 % 2 ^ 5)) 5 7 (W / 2 ^ 25 % 2 ^ 7) = _
 have h1 : W / 2 ^ 7 % 2 ^ 5 < 2 ^ 5 := Nat.mod_lt _ (by decide)
 have h2 : W / 2 ^ 25 % 2 ^ 7 < 2 ^ 7 := Nat.mod_lt _ (by decide)
 rw [put_top (x := 0) (by decide) h1, Nat.zero_add, Nat.pow_zero, Nat.mul_one, put_top h1 h2]
theorem fold_B (W : Nat) : [(1, 4, 8), (5, 6, 25), (11, 1, 7), (12, 1, 31)].foldl (readX W) 0 = W / 2 ^ 8 % 2 ^ 4 * 2 ^ 1 + W / 2 ^ 25 % 2 ^ 6 * 2 ^ 5 + W / 2 ^ 7 % 2 ^ 1 * 2 ^ 11 + W / 2 ^ 31 % 2 ^ 1 * 2 ^ 12 := by
 show putB (putB (putB (putB 0 1 4 (W / 2 ^ 8 % 2 ^ 4)) 5 6 (W / 2 ^ 25 % 2 ^ 6)) 11 1 (W / 2 ^ 7 % 2 ^ 1)) 12 1 (W / 2 ^ 31 % 2 ^ 1) = _
 have h1 : W / 2 ^ 8 % 2 ^ 4 < 2 ^ 4 := Nat.mod_lt _ (by decide)
 have h2 : W / 2 ^ 25 % 2 ^ 6 < 2 ^ 6 := Nat.mod_lt _ (by decide)
 have h3 : W / 2 ^ 7 % 2 ^ 1 < 2 ^ 1 := Nat.mod_lt _ (by decide)
 have h4 : W / 2 ^ 31 % 2 ^ 1 < 2 ^ 1 := Nat.mod_lt _ (by decide)
 generalize W / 2 ^ 8 % 2 ^ 4 = a at *
 generalize W / 2 ^ 25 % 2 ^ 6 = b at *
 generalize W / 2 ^ 7 % 2 ^ 1 = c at *
 generalize W / 2 ^ 31 % 2 ^ 1 = d at *
 rw [put_top (x := 0) (by decide) h1, Nat.zero_add, put_top (by omega) h2, put_top (by omega) h3, put_top (by omega) h4]
theorem fold_U (W : Nat) : [(12, 20, 12)].foldl (readX W) 0 = W / 2 ^ 12 % 2 ^ 20 * 2 ^ 12 := by
 show putB 0 12 20 (W / 2 ^ 12 % 2 ^ 20) = _
 rw [put_top (x := 0) (by decide) (Nat.mod_lt _ (by decide)), Nat.zero_add]
theorem fold_J (W : Nat) : [(12, 8, 12), (11, 1, 20), (1, 10, 21), (20, 1, 31)].foldl (readX W) 0 = W / 2 ^ 21 % 2 ^ 10 * 2 ^ 1 + W / 2 ^ 20 % 2 ^ 1 * 2 ^ 11 + W / 2 ^ 12 % 2 ^ 8 * 2 ^ 12 + W / 2 ^ 31 % 2 ^ 1 * 2 ^ 20 := by
 show putB (putB (putB (putB 0 12 8 (W / 2 ^ 12 % 2 ^ 8)) 11 1 (W / 2 ^ 20 % 2 ^ 1)) 1 10 (W / 2 ^ 21 % 2 ^ 10)) 20 1 (W / 2 ^ 31 % 2 ^ 1) = _
 have h1 : W / 2 ^ 12 % 2 ^ 8 < 2 ^ 8 := Nat.mod_lt _ (by decide)
 have h2 : W / 2 ^ 20 % 2 ^ 1 < 2 ^ 1 := Nat.mod_lt _ (by decide)
 have h3 : W / 2 ^ 21 % 2 ^ 10 < 2 ^ 10 := Nat.mod_lt _ (by decide)
 have h4 : W / 2 ^ 31 % 2 ^ 1 < 2 ^ 1 := Nat.mod_lt _ (by decide)
 generalize W / 2 ^ 12 % 2 ^ 8 = a at *
 generalize W / 2 ^ 20 % 2 ^ 1 = b at *
 generalize W / 2 ^ 21 % 2 ^ 10 = c at *
 generalize W / 2 ^ 31 % 2 ^ 1 = d at *
 have e2 : putB (a * 2 ^ 12) 11 1 b = a * 2 ^ 12 + b * 2 ^ 11 := by unfold putB; simp only [Nat.reducePow, Nat.reduceAdd] at *; omega
 have e3 : putB (a * 2 ^ 12 + b * 2 ^ 11) 1 10 c = a * 2 ^ 12 + b * 2 ^ 11 + c * 2 := by unfold putB; simp only [Nat.reducePow, Nat.reduceAdd] at *; omega
 rw [put_top (x := 0) (by decide) h1, Nat.zero_add, e2, e3, put_top (by omega) h4]
 omega
theorem castS (a b k : Nat) : (a : Int) + (b : Int) * 2 ^ k = ((a + b * 2 ^ k : Nat) : Int) := by simp
theorem castM (b k : Nat) : (b : Int) * 2 ^ k = ((b * 2 ^ k : Nat) : Int) := by simp
theorem readT (ps : List (Nat × Nat × Nat)) (b W : Nat) : readL ps b true W = s64 (signN (ps.foldl (readX W) 0) b) := rfl
theorem readF (ps : List (Nat × Nat × Nat)) (b W : Nat) : readL ps b false W = s64 (ps.foldl (readX W) 0) := rfl
theorem laid_73 : laidS 73 = ([(0, 12, 20)], 12, true, 0) := rfl
theorem laid_67 : laidS 67 = ([(0, 12, 20)], 12, false, 0) := rfl
theorem laid_72 : laidS 72 = ([(0, 6, 20)], 6, false, 0) := rfl
theorem laid_83 : laidS 83 = ([(0, 5, 7), (5, 7, 25)], 12, true, 0) := rfl
theorem laid_66 : laidS 66 = ([(1, 4, 8), (5, 6, 25), (11, 1, 7), (12, 1, 31)], 13, true, 1) := rfl
theorem laid_85 : laidS 85 = ([(12, 20, 12)], 32, true, 12) := rfl
theorem laid_74 : laidS 74 = ([(12, 8, 12), (11, 1, 20), (1, 10, 21), (20, 1, 31)], 21, true, 1) := rfl
theorem rimm_spec {w : World} {W s : Nat} (hW : W < 4294967296) (hs : shOk s) {K : Value -> World -> Prop} (hK : K (.int .i64 (readL (laidS s).1 (laidS s).2.1 (laidS s).2.2.1 W)) w) : callsK Tryz.prog 39 #[.int .u32 (W : Nat), .int .u8 (s : Nat)] w K := by
 apply F39_ok
 unfold F39
 rcases hs with rfl | rfl | rfl | rfl | rfl | rfl | rfl | rfl | rfl | rfl | rfl
 ·simp (disch := first | exact qDR | fail) only [qG6, Nat.reduceAdd, Nat.reduceLeDiff, Int.reduceToNat, Int.reduceAdd, Int.reduceSub, Int.reduceLT, Int.reduceLE, Nat.reduceSub, Nat.reduceMul, Nat.reduceEqDiff]
  refine rget_spec (a := 20) (n := 12) hW (by omega) ?_
  simp (disch := first | exact qDR | fail) only [qG6, Nat.reduceAdd, Nat.reduceLeDiff, Int.reduceToNat, Int.reduceAdd, Int.reduceSub, Int.reduceLT, Int.reduceLE, Nat.reduceSub, Nat.reduceMul, Nat.reduceEqDiff]
  refine rsigned_spec (b := 12) (by have : W / 2 ^ 20 % 2 ^ 12 < 2 ^ 12 := Nat.mod_lt _ (by decide); omega) (by omega) ?_
  rw [laid_73] at hK
  dsimp only at hK
  rw [readT, fold_12] at hK
  exact hK
 ·simp (disch := first | exact qDR | fail) only [qG6, Nat.reduceAdd, Nat.reduceLeDiff, Int.reduceToNat, Int.reduceAdd, Int.reduceSub, Int.reduceLT, Int.reduceLE, Nat.reduceSub, Nat.reduceMul, Nat.reduceEqDiff]
  refine rget_spec (a := 20) (n := 12) hW (by omega) ?_
  have h1 : W / 2 ^ 20 % 2 ^ 12 < 2 ^ 12 := Nat.mod_lt _ (by decide)
  rw [laid_67] at hK
  dsimp only at hK
  rw [readF, fold_12] at hK
  generalize W / 2 ^ 20 % 2 ^ 12 = q at *
  unfold s64 at hK
  rw [if_pos (by omega)] at hK
  simp (disch := first | exact qDR | fail) only [qG6, Nat.reduceAdd, Nat.reduceLeDiff, Int.reduceToNat, Int.reduceAdd, Int.reduceSub, Int.reduceLT, Int.reduceLE, Nat.reduceSub, Nat.reduceMul, Nat.reduceEqDiff]
  exact hK
 ·simp (disch := first | exact qDR | fail) only [qG6, Nat.reduceAdd, Nat.reduceLeDiff, Int.reduceToNat, Int.reduceAdd, Int.reduceSub, Int.reduceLT, Int.reduceLE, Nat.reduceSub, Nat.reduceMul, Nat.reduceEqDiff]
  refine rget_spec (a := 20) (n := 6) hW (by omega) ?_
  have h1 : W / 2 ^ 20 % 2 ^ 6 < 2 ^ 6 := Nat.mod_lt _ (by decide)
  rw [laid_72] at hK
  dsimp only at hK
  rw [readF, fold_6] at hK
  generalize W / 2 ^ 20 % 2 ^ 6 = q at *
  unfold s64 at hK
  rw [if_pos (by omega)] at hK
  simp (disch := first | exact qDR | fail) only [qG6, Nat.reduceAdd, Nat.reduceLeDiff, Int.reduceToNat, Int.reduceAdd, Int.reduceSub, Int.reduceLT, Int.reduceLE, Nat.reduceSub, Nat.reduceMul, Nat.reduceEqDiff]
  exact hK
 ·simp (disch := first | exact qDR | fail) only [qG6, Nat.reduceAdd, Nat.reduceLeDiff, Int.reduceToNat, Int.reduceAdd, Int.reduceSub, Int.reduceLT, Int.reduceLE, Nat.reduceSub, Nat.reduceMul, Nat.reduceEqDiff]
  refine rget_spec (a := 7) (n := 5) hW (by omega) ?_
  simp (disch := first | exact qDR | fail) only [qG6, Nat.reduceAdd, Nat.reduceLeDiff, Int.reduceToNat, Int.reduceAdd, Int.reduceSub, Int.reduceLT, Int.reduceLE, Nat.reduceSub, Nat.reduceMul, Nat.reduceEqDiff]
  refine rget_spec (a := 25) (n := 7) hW (by omega) ?_
  have h1 : W / 2 ^ 7 % 2 ^ 5 < 2 ^ 5 := Nat.mod_lt _ (by decide)
  have h2 : W / 2 ^ 25 % 2 ^ 7 < 2 ^ 7 := Nat.mod_lt _ (by decide)
  rw [laid_83] at hK
  dsimp only at hK
  rw [readT, fold_S] at hK
  generalize W / 2 ^ 7 % 2 ^ 5 = a at *
  generalize W / 2 ^ 25 % 2 ^ 7 = b at *
  simp (disch := first | exact qDR | fail) only [qG6, Nat.reduceAdd, Nat.reduceLeDiff, Int.reduceToNat, Int.reduceAdd, Int.reduceSub, Int.reduceLT, Int.reduceLE, Nat.reduceSub, Nat.reduceMul, Nat.reduceEqDiff]
  rw [castS]
  refine rsigned_spec (b := 12) (by omega) (by omega) ?_
  exact hK
 ·simp (disch := first | exact qDR | fail) only [qG6, Nat.reduceAdd, Nat.reduceLeDiff, Int.reduceToNat, Int.reduceAdd, Int.reduceSub, Int.reduceLT, Int.reduceLE, Nat.reduceSub, Nat.reduceMul, Nat.reduceEqDiff]
  refine rget_spec (a := 8) (n := 4) hW (by omega) ?_
  simp (disch := first | exact qDR | fail) only [qG6, Nat.reduceAdd, Nat.reduceLeDiff, Int.reduceToNat, Int.reduceAdd, Int.reduceSub, Int.reduceLT, Int.reduceLE, Nat.reduceSub, Nat.reduceMul, Nat.reduceEqDiff]
  refine rget_spec (a := 25) (n := 6) hW (by omega) ?_
  simp (disch := first | exact qDR | fail) only [qG6, Nat.reduceAdd, Nat.reduceLeDiff, Int.reduceToNat, Int.reduceAdd, Int.reduceSub, Int.reduceLT, Int.reduceLE, Nat.reduceSub, Nat.reduceMul, Nat.reduceEqDiff]
  refine rget_spec (a := 7) (n := 1) hW (by omega) ?_
  simp (disch := first | exact qDR | fail) only [qG6, Nat.reduceAdd, Nat.reduceLeDiff, Int.reduceToNat, Int.reduceAdd, Int.reduceSub, Int.reduceLT, Int.reduceLE, Nat.reduceSub, Nat.reduceMul, Nat.reduceEqDiff]
  refine rget_spec (a := 31) (n := 1) hW (by omega) ?_
  have h1 : W / 2 ^ 8 % 2 ^ 4 < 2 ^ 4 := Nat.mod_lt _ (by decide)
  have h2 : W / 2 ^ 25 % 2 ^ 6 < 2 ^ 6 := Nat.mod_lt _ (by decide)
  have h3 : W / 2 ^ 7 % 2 ^ 1 < 2 ^ 1 := Nat.mod_lt _ (by decide)
  have h4 : W / 2 ^ 31 % 2 ^ 1 < 2 ^ 1 := Nat.mod_lt _ (by decide)
  rw [laid_66] at hK
  dsimp only at hK
  rw [readT, fold_B] at hK
  generalize W / 2 ^ 8 % 2 ^ 4 = a at *
  generalize W / 2 ^ 25 % 2 ^ 6 = b at *
  generalize W / 2 ^ 7 % 2 ^ 1 = c at *
  generalize W / 2 ^ 31 % 2 ^ 1 = d at *
  simp (disch := first | exact qDR | fail) only [qG6, Nat.reduceAdd, Nat.reduceLeDiff, Int.reduceToNat, Int.reduceAdd, Int.reduceSub, Int.reduceLT, Int.reduceLE, Nat.reduceSub, Nat.reduceMul, Nat.reduceEqDiff]
  rw [castM, castS, castS, castS]
  refine rsigned_spec (b := 13) (by omega) (by omega) ?_
  exact hK
 ·simp (disch := first | exact qDR | fail) only [qG6, Nat.reduceAdd, Nat.reduceLeDiff, Int.reduceToNat, Int.reduceAdd, Int.reduceSub, Int.reduceLT, Int.reduceLE, Nat.reduceSub, Nat.reduceMul, Nat.reduceEqDiff]
  refine rget_spec (a := 12) (n := 20) hW (by omega) ?_
  have h1 : W / 2 ^ 12 % 2 ^ 20 < 2 ^ 20 := Nat.mod_lt _ (by decide)
  rw [laid_85] at hK
  dsimp only at hK
  rw [readT, fold_U] at hK
  generalize W / 2 ^ 12 % 2 ^ 20 = a at *
  simp (disch := first | exact qDR | fail) only [qG6, Nat.reduceAdd, Nat.reduceLeDiff, Int.reduceToNat, Int.reduceAdd, Int.reduceSub, Int.reduceLT, Int.reduceLE, Nat.reduceSub, Nat.reduceMul, Nat.reduceEqDiff]
  rw [castM]
  refine rsigned_spec (b := 32) (by omega) (by omega) ?_
  exact hK
 ·simp (disch := first | exact qDR | fail) only [qG6, Nat.reduceAdd, Nat.reduceLeDiff, Int.reduceToNat, Int.reduceAdd, Int.reduceSub, Int.reduceLT, Int.reduceLE, Nat.reduceSub, Nat.reduceMul, Nat.reduceEqDiff]
  refine rget_spec (a := 21) (n := 10) hW (by omega) ?_
  simp (disch := first | exact qDR | fail) only [qG6, Nat.reduceAdd, Nat.reduceLeDiff, Int.reduceToNat, Int.reduceAdd, Int.reduceSub, Int.reduceLT, Int.reduceLE, Nat.reduceSub, Nat.reduceMul, Nat.reduceEqDiff]
  refine rget_spec (a := 20) (n := 1) hW (by omega) ?_
  simp (disch := first | exact qDR | fail) only [qG6, Nat.reduceAdd, Nat.reduceLeDiff, Int.reduceToNat, Int.reduceAdd, Int.reduceSub, Int.reduceLT, Int.reduceLE, Nat.reduceSub, Nat.reduceMul, Nat.reduceEqDiff]
  refine rget_spec (a := 12) (n := 8) hW (by omega) ?_
  simp (disch := first | exact qDR | fail) only [qG6, Nat.reduceAdd, Nat.reduceLeDiff, Int.reduceToNat, Int.reduceAdd, Int.reduceSub, Int.reduceLT, Int.reduceLE, Nat.reduceSub, Nat.reduceMul, Nat.reduceEqDiff]
  refine rget_spec (a := 31) (n := 1) hW (by omega) ?_
  have h1 : W / 2 ^ 12 % 2 ^ 8 < 2 ^ 8 := Nat.mod_lt _ (by decide)
  have h2 : W / 2 ^ 20 % 2 ^ 1 < 2 ^ 1 := Nat.mod_lt _ (by decide)
  have h3 : W / 2 ^ 21 % 2 ^ 10 < 2 ^ 10 := Nat.mod_lt _ (by decide)
  have h4 : W / 2 ^ 31 % 2 ^ 1 < 2 ^ 1 := Nat.mod_lt _ (by decide)
  rw [laid_74] at hK
  dsimp only at hK
  rw [readT, fold_J] at hK
  generalize W / 2 ^ 12 % 2 ^ 8 = a at *
  generalize W / 2 ^ 20 % 2 ^ 1 = b at *
  generalize W / 2 ^ 21 % 2 ^ 10 = c at *
  generalize W / 2 ^ 31 % 2 ^ 1 = d at *
  simp (disch := first | exact qDR | fail) only [qG6, Nat.reduceAdd, Nat.reduceLeDiff, Int.reduceToNat, Int.reduceAdd, Int.reduceSub, Int.reduceLT, Int.reduceLE, Nat.reduceSub, Nat.reduceMul, Nat.reduceEqDiff]
  rw [castM, castS, castS, castS]
  refine rsigned_spec (b := 21) (by omega) (by omega) ?_
  exact hK
 ·simp (disch := first | exact qDR | fail) only [qG6, Nat.reduceAdd, Nat.reduceLeDiff, Int.reduceToNat, Int.reduceAdd, Int.reduceSub, Int.reduceLT, Int.reduceLE, Nat.reduceSub, Nat.reduceMul, Nat.reduceEqDiff]
  exact hK
 ·simp (disch := first | exact qDR | fail) only [qG6, Nat.reduceAdd, Nat.reduceLeDiff, Int.reduceToNat, Int.reduceAdd, Int.reduceSub, Int.reduceLT, Int.reduceLE, Nat.reduceSub, Nat.reduceMul, Nat.reduceEqDiff]
  exact hK
 ·simp (disch := first | exact qDR | fail) only [qG6, Nat.reduceAdd, Nat.reduceLeDiff, Int.reduceToNat, Int.reduceAdd, Int.reduceSub, Int.reduceLT, Int.reduceLE, Nat.reduceSub, Nat.reduceMul, Nat.reduceEqDiff]
  exact hK
 ·simp (disch := first | exact qDR | fail) only [qG6, Nat.reduceAdd, Nat.reduceLeDiff, Int.reduceToNat, Int.reduceAdd, Int.reduceSub, Int.reduceLT, Int.reduceLE, Nat.reduceSub, Nat.reduceMul, Nat.reduceEqDiff]
  exact hK
open Go.Fx
set_option maxRecDepth 100000
def lo5 (n : Int) : Nat := (n % 32).toNat
theorem lo5_and (n : Int) : bitI .and .i64 n 31 = (lo5 n : Nat) := by
 have := and_mask (k := .i64) (a := n) (n := 5) (by decide)
 rw [show ((2 ^ 5 - 1 : Nat) : Int) = 31 from rfl, show ((2 ^ 5 : Nat) : Int) = 32 from rfl] at this
 rw [this]
 unfold lo5
 omega
theorem lo5_lt (n : Int) : lo5 n < 32 := by unfold lo5; omega
/-- some bits of a number, laid. -/
def bt (m : Int) (f n a : Nat) : Nat := un m / 2 ^ f % 2 ^ n * 2 ^ a
/-- the document's word. -/
def refR (i : IZ) : Nat := let r := rowZ i.op
 if r.s = 82 then r.c + r.f * 4096 + lo5 i.rd * 128 + lo5 i.r1 * 32768 + lo5 i.r2 * 1048576 + r.o * 33554432
 else if r.s = 71 then r.c + r.f * 4096 + lo5 i.rd * 128 + lo5 i.r1 * 32768 + r.o * 1048576 + 4261412864
 else if r.s = 78 then r.c + r.o * 1048576
 else if r.s = 73 ∨ r.s = 67 then r.c + r.f * 4096 + lo5 i.rd * 128 + lo5 i.r1 * 32768 + bt i.im 0 12 20
 else if r.s = 72 then r.c + r.f * 4096 + lo5 i.rd * 128 + lo5 i.r1 * 32768 + bt i.im 0 6 20 + r.o * 67108864
 else if r.s = 83 then r.c + r.f * 4096 + lo5 i.r1 * 32768 + lo5 i.r2 * 1048576 + bt i.im 0 5 7 + bt i.im 5 7 25
 else if r.s = 66 then r.c + r.f * 4096 + lo5 i.r1 * 32768 + lo5 i.r2 * 1048576 + bt i.im 1 4 8 + bt i.im 5 6 25 + bt i.im 11 1 7 + bt i.im 12 1 31
 else if r.s = 85 then r.c + lo5 i.rd * 128 + bt i.im 12 20 12
 else r.c + lo5 i.rd * 128 + bt i.im 12 8 12 + bt i.im 11 1 20 + bt i.im 1 10 21 + bt i.im 20 1 31
/-- the row's cells, as numbers: what a row of a good operation is. -/
theorem rowZ_fact {n : Int} (h : okOp n = true) : ∃ k, k < 69 /\ rowZ n = row k /\ (n - 1).toNat = k /\ n = (k : Int) + 1 := by
 unfold okOp at h
 have h' := of_decide_eq_true h
 refine ⟨(n - 1).toNat, by omega, ?_, rfl, by omega⟩
 unfold rowZ okOp
 rw [if_pos h]
theorem bt_le (m : Int) (f n a : Nat) : bt m f n a + 2 ^ a <= 2 ^ (n + a) := by
 unfold bt
 have h1 : un m / 2 ^ f % 2 ^ n < 2 ^ n := Nat.mod_lt _ (Nat.two_pow_pos _)
 have h2 : (un m / 2 ^ f % 2 ^ n + 1) * 2 ^ a <= 2 ^ n * 2 ^ a := Nat.mul_le_mul_right _ h1
 rw [Nat.pow_add]
 rw [Nat.add_mul, Nat.one_mul] at h2
 exact h2
theorem rbt_spec {w : World} {m : Int} {f n a : Nat} (h : f + n <= 64 /\ n + a <= 32) {K : Value -> World -> Prop} (hK : K (.int .u32 (bt m f n a : Nat)) w) : callsK Tryz.prog 74 #[.int .i64 m, .int .i64 (f : Nat), .int .i64 (n : Nat), .int .i64 (a : Nat)] w K := rbits_spec h hK
theorem qZ9 : type_of% (And.intro @szR (And.intro @izC_len (And.intro @izC_all (And.intro @rrC_len (@rrC_all))))) := ⟨@szR, @izC_len, @izC_all, @rrC_len, @rrC_all⟩
theorem qD9 {p : Prop} (h : p := by first | assumption | omega | (simp only [qZ9] <;> omega) | rfl | decide) : p := h
set_option maxHeartbeats 8000000 in
theorem rEncode_spec {w : World} {i : IZ} (hi : izOk i) (ho : okOp i.op = true) {K : Value -> World -> Prop} (hK : ∀ w', Ext [] w w' -> K (.tuple #[.int .u32 (refR i : Nat), .bool (encOk i)]) w') : callsK Tryz.prog 41 #[.agg (izC i).toArray] w K := by
 apply F41_ok
 unfold F41
 obtain ⟨k, hk, hrow, hkn, hop⟩ := rowZ_fact ho
 obtain ⟨-, -, hc, hf, o82, o71, o72, o78⟩ := row_fact hk
 obtain ⟨iop, ird, ir1, ir2, iim⟩ := hi
 have i0 : (izC i)[0]? = some (.int .i64 i.op) := rfl
 have i1 : (izC i)[1]? = some (.int .i64 i.rd) := rfl
 have i2 : (izC i)[2]? = some (.int .i64 i.r1) := rfl
 have i3 : (izC i)[3]? = some (.int .i64 i.r2) := rfl
 have i4 : (izC i)[4]? = some (.int .i64 i.im) := rfl
 simp (disch := first | exact qD9 | fail) only [qG6, Nat.reduceAdd, Nat.reduceLeDiff, Int.reduceToNat, Int.reduceAdd, Int.reduceSub, Int.reduceLT, Int.reduceLE, Nat.reduceSub, Nat.reduceMul, Nat.reduceEqDiff]
 have hx0 : Ext [] w (w.alloc (.cells (izC i).toArray 48)) := qX
 refine rRows_spec fun v w1 hv hx1 hb => ?_
 have g1 := hx1.at (b := w.heap.size) (o := .cells (izC i).toArray 48 (0, 0)) (by first | with_reducible rfl | assumption | (simp (disch := first | exact qD9 | fail) only [qG6, Nat.reduceAdd, Nat.reduceLeDiff, Int.reduceToNat, Int.reduceAdd, Int.reduceSub, Int.reduceLT, Int.reduceLE, Nat.reduceSub, Nat.reduceMul, Nat.reduceEqDiff] <;> rfl)) (by simp)
 have l0 := lt_of_at g1
 have hlv := hv.lenR (ty := 3) Tryz.underlying95
 rw [List.length_map, rowI_len] at hlv
 have hlv' : ∀ w, (Builtin.len_ #[95] 3 #[v]).run Tryz.prog w = .ok (.int .i64 69) w := hlv
 have en : (k : Int) + 1 - 1 = (k : Nat) := by omega
 obtain ⟨bv, o, lv, E, f, hix, hbv, hfit, hblt, hbk, hsub, hget⟩ := RowsAt.ixR (P := Tryz.prog) (t := 95) Tryz.underlying95 Tryz.sizeOf98 hv (k := k) (r := rrC (row k)) (by rw [List.getElem?_map]; unfold row; rw [List.getD_eq_getElem?_getD, List.getElem?_eq_getElem (by rw [rowI_len]; exact hk)]; rfl)
 have hi0 := fun w => hix w .i64 k rfl
 have hsh := (row_goodA hk).2.2.2.2.2
 have hEnc : encOk i = (fitsL (laidS (row k).s).1.length (laidS (row k).s).2.1 (laidS (row k).s).2.2.1 (laidS (row k).s).2.2.2 i.im && (regsI i).all okTr) := by
  unfold encOk
  dsimp only
  rw [ho, hrow, Bool.true_and]
 have hreg : regsI i = [((hasS (row k).s).1, 7, i.rd), ((hasS (row k).s).2.1, 15, i.r1), ((hasS (row k).s).2.2, 20, i.r2)] := by
  unfold regsI
  rw [hrow]
 rw [hreg] at hEnc
 have hR : refR i = refR i := rfl
 conv at hR => rhs; unfold refR
 rw [hrow] at hR
 dsimp only at hR
 rw [hR] at hK
 clear hR hreg
 have r1 : (rrC (row k))[1]? = some (.int .u8 ((row k).s : Nat)) := rfl
 have r2 : (rrC (row k))[2]? = some (.int .u32 ((row k).c : Nat)) := rfl
 have r3 : (rrC (row k))[3]? = some (.int .u32 ((row k).f : Nat)) := rfl
 have r4 : (rrC (row k))[4]? = some (.int .u32 ((row k).o : Nat)) := rfl
 have hov := rrC_over (row k)
 have hpu := rrC_put (row k)
 have hle := rrC_len (row k)
 have hal := rrC_all (row k)
 generalize hrr : row k = r at *
 have a1 := lo5_and i.rd
 have a2 := lo5_and i.r1
 have a3 := lo5_and i.r2
 have l1 := lo5_lt i.rd
 have l2 := lo5_lt i.r1
 have l3 := lo5_lt i.r2
 simp (disch := first | exact qD9 | fail) only [qG6, Nat.reduceAdd, Nat.reduceLeDiff, Int.reduceToNat, Int.reduceAdd, Int.reduceSub, Int.reduceLT, Int.reduceLE, Nat.reduceSub, Nat.reduceMul, Nat.reduceEqDiff, joinBR, g1, i0, i1, i2, i3, i4, hlv', hop, en, hi0, hbv, hsub, hov, hpu, hle, hal, r1, r2, r3, r4, a1, a2, a3]
 have hxa : Ext [] w1 (w1.alloc (.cells (rrC r).toArray 98)) := qX
 have hxb : Ext [] w1 (w1.alloc (.cells (rrC r).toArray 98)).drew := qX
 have hx3 := (hx0.trans hx1 (by simp)).trans hxa (by simp)
 have hx2 := (hx0.trans hx1 (by simp)).trans hxb (by simp)
 rcases hsh with h | h | h | h | h | h | h | h | h | h
 ·have hs73 := h
  clear o82 o71 o72 o78
  simp only [h, Nat.reduceEqDiff, if_true, if_false, false_or, or_false, or_true, true_or] at hK
  rw [h] at hEnc
  have b0 : bt i.im 0 12 20 + 1048576 <= 4294967296 := bt_le i.im 0 12 20
  have hK' : ∀ w', Ext [] w w' -> K (.tuple #[.int .u32 (((r.c : Nat) : Int) + ((r.f : Nat) : Int) * 2 ^ 12 + ((lo5 i.rd : Nat) : Int) * 2 ^ 7 + ((lo5 i.r1 : Nat) : Int) * 2 ^ 15 + ((bt i.im 0 12 20 : Nat) : Int)), .bool (encOk i)]) w' := by
   intro w' hx'
   have hk := hK w' hx'
   have e : ((r.c + r.f * 4096 + lo5 i.rd * 128 + lo5 i.r1 * 32768 + bt i.im 0 12 20 : Nat) : Int) = ((r.c : Nat) : Int) + ((r.f : Nat) : Int) * 2 ^ 12 + ((lo5 i.rd : Nat) : Int) * 2 ^ 7 + ((lo5 i.r1 : Nat) : Int) * 2 ^ 15 + ((bt i.im 0 12 20 : Nat) : Int) := by omega
   rw [e] at hk
   exact hk
  simp (disch := first | exact qD9 | fail) only [qG6, Nat.reduceAdd, Nat.reduceLeDiff, Int.reduceToNat, Int.reduceAdd, Int.reduceSub, Int.reduceLT, Int.reduceLE, Nat.reduceSub, Nat.reduceMul, Nat.reduceEqDiff, joinBR, h, g1, i0, i1, i2, i3, i4, hle, hal, r1, r2, r3, r4]
  refine joinL.intro fun J4 hJ4 => ?_
  simp (disch := first | exact qD9 | fail) only [qG6, Nat.reduceAdd, Nat.reduceLeDiff, Int.reduceToNat, Int.reduceAdd, Int.reduceSub, Int.reduceLT, Int.reduceLE, Nat.reduceSub, Nat.reduceMul, Nat.reduceEqDiff, joinBR, h, g1, i0, i1, i2, i3, i4, hle, hal, r1, r2, r3, r4]
  apply hJ4
  intro _
  simp (disch := first | exact qD9 | fail) only [qG6, Nat.reduceAdd, Nat.reduceLeDiff, Int.reduceToNat, Int.reduceAdd, Int.reduceSub, Int.reduceLT, Int.reduceLE, Nat.reduceSub, Nat.reduceMul, Nat.reduceEqDiff, joinBR, h, g1, i0, i1, i2, i3, i4, hle, hal, r1, r2, r3, r4]
  refine callsS.of _ (rbt_spec (f := 0) (n := 12) (a := 20) (by omega) ⟨rfl, rfl⟩) ?_
  simp (disch := first | exact qD9 | fail) only [qG6, Nat.reduceAdd, Nat.reduceLeDiff, Int.reduceToNat, Int.reduceAdd, Int.reduceSub, Int.reduceLT, Int.reduceLE, Nat.reduceSub, Nat.reduceMul, Nat.reduceEqDiff, joinBR, h, g1, i0, i1, i2, i3, i4, hle, hal, r1, r2, r3, r4]
  refine callsS.of _ (rreg_spec ⟨rfl, rfl⟩) ?_
  cases hb0 : fitsU i.rd 5 with
  | false =>
   simp (disch := first | exact qD9 | fail) only [qG6, Nat.reduceAdd, Nat.reduceLeDiff, Int.reduceToNat, Int.reduceAdd, Int.reduceSub, Int.reduceLT, Int.reduceLE, Nat.reduceSub, Nat.reduceMul, Nat.reduceEqDiff, joinBR]
   have e : encOk i = false := by
    rw [hEnc]
    simp [laidS, hasS, okTr, fitsL, hb0]
   rw [e] at hK'
   exact hK' _ hx2
  | true =>
   simp (disch := first | exact qD9 | fail) only [qG6, Nat.reduceAdd, Nat.reduceLeDiff, Int.reduceToNat, Int.reduceAdd, Int.reduceSub, Int.reduceLT, Int.reduceLE, Nat.reduceSub, Nat.reduceMul, Nat.reduceEqDiff, joinBR, h, g1, i0, i1, i2, i3, i4, hle, hal, r1, r2, r3, r4]
   refine callsS.of _ (rreg_spec ⟨rfl, rfl⟩) ?_
   cases hb1 : fitsU i.r1 5 with
   | false =>
    simp (disch := first | exact qD9 | fail) only [qG6, Nat.reduceAdd, Nat.reduceLeDiff, Int.reduceToNat, Int.reduceAdd, Int.reduceSub, Int.reduceLT, Int.reduceLE, Nat.reduceSub, Nat.reduceMul, Nat.reduceEqDiff, joinBR]
    have e : encOk i = false := by
     rw [hEnc]
     simp [laidS, hasS, okTr, fitsL, hb0, hb1]
    rw [e] at hK'
    exact hK' _ hx2
   | true =>
    simp (disch := first | exact qD9 | fail) only [qG6, Nat.reduceAdd, Nat.reduceLeDiff, Int.reduceToNat, Int.reduceAdd, Int.reduceSub, Int.reduceLT, Int.reduceLE, Nat.reduceSub, Nat.reduceMul, Nat.reduceEqDiff, joinBR, h, g1, i0, i1, i2, i3, i4, hle, hal, r1, r2, r3, r4]
    refine callsS.of _ (rFitsS_spec (b := 12) (by omega) iim ⟨rfl, rfl⟩) ?_
    cases hb2 : fitsS i.im 12 with
    | false =>
     simp (disch := first | exact qD9 | fail) only [qG6, Nat.reduceAdd, Nat.reduceLeDiff, Int.reduceToNat, Int.reduceAdd, Int.reduceSub, Int.reduceLT, Int.reduceLE, Nat.reduceSub, Nat.reduceMul, Nat.reduceEqDiff, joinBR]
     have e : encOk i = false := by
      rw [hEnc]
      simp [laidS, hasS, okTr, fitsL, hb0, hb1, hb2]
     rw [e] at hK'
     exact hK' _ hx2
    | true =>
     simp (disch := first | exact qD9 | fail) only [qG6, Nat.reduceAdd, Nat.reduceLeDiff, Int.reduceToNat, Int.reduceAdd, Int.reduceSub, Int.reduceLT, Int.reduceLE, Nat.reduceSub, Nat.reduceMul, Nat.reduceEqDiff, joinBR, h, g1, i0, i1, i2, i3, i4, hle, hal, r1, r2, r3, r4]
     have e : encOk i = true := by
      rw [hEnc]
      simp [laidS, hasS, okTr, fitsL, hb0, hb1, hb2]
     rw [e] at hK'
     exact hK' _ hx2
 ·have hs67 := h
  clear o82 o71 o72 o78
  simp only [h, Nat.reduceEqDiff, if_true, if_false, false_or, or_false, or_true, true_or] at hK
  rw [h] at hEnc
  have b0 : bt i.im 0 12 20 + 1048576 <= 4294967296 := bt_le i.im 0 12 20
  have hK' : ∀ w', Ext [] w w' -> K (.tuple #[.int .u32 (((r.c : Nat) : Int) + ((r.f : Nat) : Int) * 2 ^ 12 + ((lo5 i.rd : Nat) : Int) * 2 ^ 7 + ((lo5 i.r1 : Nat) : Int) * 2 ^ 15 + ((bt i.im 0 12 20 : Nat) : Int)), .bool (encOk i)]) w' := by
   intro w' hx'
   have hk := hK w' hx'
   have e : ((r.c + r.f * 4096 + lo5 i.rd * 128 + lo5 i.r1 * 32768 + bt i.im 0 12 20 : Nat) : Int) = ((r.c : Nat) : Int) + ((r.f : Nat) : Int) * 2 ^ 12 + ((lo5 i.rd : Nat) : Int) * 2 ^ 7 + ((lo5 i.r1 : Nat) : Int) * 2 ^ 15 + ((bt i.im 0 12 20 : Nat) : Int) := by omega
   rw [e] at hk
   exact hk
  simp (disch := first | exact qD9 | fail) only [qG6, Nat.reduceAdd, Nat.reduceLeDiff, Int.reduceToNat, Int.reduceAdd, Int.reduceSub, Int.reduceLT, Int.reduceLE, Nat.reduceSub, Nat.reduceMul, Nat.reduceEqDiff, joinBR, h, g1, i0, i1, i2, i3, i4, hle, hal, r1, r2, r3, r4]
  refine joinL.intro fun J4 hJ4 => ?_
  simp (disch := first | exact qD9 | fail) only [qG6, Nat.reduceAdd, Nat.reduceLeDiff, Int.reduceToNat, Int.reduceAdd, Int.reduceSub, Int.reduceLT, Int.reduceLE, Nat.reduceSub, Nat.reduceMul, Nat.reduceEqDiff, joinBR, h, g1, i0, i1, i2, i3, i4, hle, hal, r1, r2, r3, r4]
  apply hJ4
  intro _
  simp (disch := first | exact qD9 | fail) only [qG6, Nat.reduceAdd, Nat.reduceLeDiff, Int.reduceToNat, Int.reduceAdd, Int.reduceSub, Int.reduceLT, Int.reduceLE, Nat.reduceSub, Nat.reduceMul, Nat.reduceEqDiff, joinBR, h, g1, i0, i1, i2, i3, i4, hle, hal, r1, r2, r3, r4]
  refine callsS.of _ (rbt_spec (f := 0) (n := 12) (a := 20) (by omega) ⟨rfl, rfl⟩) ?_
  simp (disch := first | exact qD9 | fail) only [qG6, Nat.reduceAdd, Nat.reduceLeDiff, Int.reduceToNat, Int.reduceAdd, Int.reduceSub, Int.reduceLT, Int.reduceLE, Nat.reduceSub, Nat.reduceMul, Nat.reduceEqDiff, joinBR, h, g1, i0, i1, i2, i3, i4, hle, hal, r1, r2, r3, r4]
  refine callsS.of _ (rreg_spec ⟨rfl, rfl⟩) ?_
  cases hb0 : fitsU i.rd 5 with
  | false =>
   simp (disch := first | exact qD9 | fail) only [qG6, Nat.reduceAdd, Nat.reduceLeDiff, Int.reduceToNat, Int.reduceAdd, Int.reduceSub, Int.reduceLT, Int.reduceLE, Nat.reduceSub, Nat.reduceMul, Nat.reduceEqDiff, joinBR]
   have e : encOk i = false := by
    rw [hEnc]
    simp [laidS, hasS, okTr, fitsL, hb0]
   rw [e] at hK'
   exact hK' _ hx2
  | true =>
   simp (disch := first | exact qD9 | fail) only [qG6, Nat.reduceAdd, Nat.reduceLeDiff, Int.reduceToNat, Int.reduceAdd, Int.reduceSub, Int.reduceLT, Int.reduceLE, Nat.reduceSub, Nat.reduceMul, Nat.reduceEqDiff, joinBR, h, g1, i0, i1, i2, i3, i4, hle, hal, r1, r2, r3, r4]
   refine callsS.of _ (rreg_spec ⟨rfl, rfl⟩) ?_
   cases hb1 : fitsU i.r1 5 with
   | false =>
    simp (disch := first | exact qD9 | fail) only [qG6, Nat.reduceAdd, Nat.reduceLeDiff, Int.reduceToNat, Int.reduceAdd, Int.reduceSub, Int.reduceLT, Int.reduceLE, Nat.reduceSub, Nat.reduceMul, Nat.reduceEqDiff, joinBR]
    have e : encOk i = false := by
     rw [hEnc]
     simp [laidS, hasS, okTr, fitsL, hb0, hb1]
    rw [e] at hK'
    exact hK' _ hx2
   | true =>
    simp (disch := first | exact qD9 | fail) only [qG6, Nat.reduceAdd, Nat.reduceLeDiff, Int.reduceToNat, Int.reduceAdd, Int.reduceSub, Int.reduceLT, Int.reduceLE, Nat.reduceSub, Nat.reduceMul, Nat.reduceEqDiff, joinBR, h, g1, i0, i1, i2, i3, i4, hle, hal, r1, r2, r3, r4]
    refine callsS.of _ (rFitsU_spec (b := 12) (by omega) iim ⟨rfl, rfl⟩) ?_
    cases hb2 : fitsU i.im 12 with
    | false =>
     simp (disch := first | exact qD9 | fail) only [qG6, Nat.reduceAdd, Nat.reduceLeDiff, Int.reduceToNat, Int.reduceAdd, Int.reduceSub, Int.reduceLT, Int.reduceLE, Nat.reduceSub, Nat.reduceMul, Nat.reduceEqDiff, joinBR]
     have e : encOk i = false := by
      rw [hEnc]
      simp [laidS, hasS, okTr, fitsL, hb0, hb1, hb2]
     rw [e] at hK'
     exact hK' _ hx2
    | true =>
     simp (disch := first | exact qD9 | fail) only [qG6, Nat.reduceAdd, Nat.reduceLeDiff, Int.reduceToNat, Int.reduceAdd, Int.reduceSub, Int.reduceLT, Int.reduceLE, Nat.reduceSub, Nat.reduceMul, Nat.reduceEqDiff, joinBR, h, g1, i0, i1, i2, i3, i4, hle, hal, r1, r2, r3, r4]
     have e : encOk i = true := by
      rw [hEnc]
      simp [laidS, hasS, okTr, fitsL, hb0, hb1, hb2]
     rw [e] at hK'
     exact hK' _ hx2
 ·have hs72 := h
  have ho := o72 h
  clear o82 o71 o72 o78
  simp only [h, Nat.reduceEqDiff, if_true, if_false, false_or, or_false, or_true, true_or] at hK
  rw [h] at hEnc
  have b0 : bt i.im 0 6 20 + 1048576 <= 67108864 := bt_le i.im 0 6 20
  have hK' : ∀ w', Ext [] w w' -> K (.tuple #[.int .u32 (((r.c : Nat) : Int) + ((r.f : Nat) : Int) * 2 ^ 12 + ((lo5 i.rd : Nat) : Int) * 2 ^ 7 + ((lo5 i.r1 : Nat) : Int) * 2 ^ 15 + ((bt i.im 0 6 20 : Nat) : Int) + ((r.o : Nat) : Int) * 2 ^ 26), .bool (encOk i)]) w' := by
   intro w' hx'
   have hk := hK w' hx'
   have e : ((r.c + r.f * 4096 + lo5 i.rd * 128 + lo5 i.r1 * 32768 + bt i.im 0 6 20 + r.o * 67108864 : Nat) : Int) = ((r.c : Nat) : Int) + ((r.f : Nat) : Int) * 2 ^ 12 + ((lo5 i.rd : Nat) : Int) * 2 ^ 7 + ((lo5 i.r1 : Nat) : Int) * 2 ^ 15 + ((bt i.im 0 6 20 : Nat) : Int) + ((r.o : Nat) : Int) * 2 ^ 26 := by omega
   rw [e] at hk
   exact hk
  simp (disch := first | exact qD9 | fail) only [qG6, Nat.reduceAdd, Nat.reduceLeDiff, Int.reduceToNat, Int.reduceAdd, Int.reduceSub, Int.reduceLT, Int.reduceLE, Nat.reduceSub, Nat.reduceMul, Nat.reduceEqDiff, joinBR, h, g1, i0, i1, i2, i3, i4, hle, hal, r1, r2, r3, r4]
  refine joinL.intro fun J4 hJ4 => ?_
  simp (disch := first | exact qD9 | fail) only [qG6, Nat.reduceAdd, Nat.reduceLeDiff, Int.reduceToNat, Int.reduceAdd, Int.reduceSub, Int.reduceLT, Int.reduceLE, Nat.reduceSub, Nat.reduceMul, Nat.reduceEqDiff, joinBR, h, g1, i0, i1, i2, i3, i4, hle, hal, r1, r2, r3, r4]
  apply hJ4
  intro _
  simp (disch := first | exact qD9 | fail) only [qG6, Nat.reduceAdd, Nat.reduceLeDiff, Int.reduceToNat, Int.reduceAdd, Int.reduceSub, Int.reduceLT, Int.reduceLE, Nat.reduceSub, Nat.reduceMul, Nat.reduceEqDiff, joinBR, h, g1, i0, i1, i2, i3, i4, hle, hal, r1, r2, r3, r4]
  refine callsS.of _ (rbt_spec (f := 0) (n := 6) (a := 20) (by omega) ⟨rfl, rfl⟩) ?_
  simp (disch := first | exact qD9 | fail) only [qG6, Nat.reduceAdd, Nat.reduceLeDiff, Int.reduceToNat, Int.reduceAdd, Int.reduceSub, Int.reduceLT, Int.reduceLE, Nat.reduceSub, Nat.reduceMul, Nat.reduceEqDiff, joinBR, h, g1, i0, i1, i2, i3, i4, hle, hal, r1, r2, r3, r4]
  refine callsS.of _ (rreg_spec ⟨rfl, rfl⟩) ?_
  cases hb0 : fitsU i.rd 5 with
  | false =>
   simp (disch := first | exact qD9 | fail) only [qG6, Nat.reduceAdd, Nat.reduceLeDiff, Int.reduceToNat, Int.reduceAdd, Int.reduceSub, Int.reduceLT, Int.reduceLE, Nat.reduceSub, Nat.reduceMul, Nat.reduceEqDiff, joinBR]
   have e : encOk i = false := by
    rw [hEnc]
    simp [laidS, hasS, okTr, fitsL, hb0]
   rw [e] at hK'
   exact hK' _ hx2
  | true =>
   simp (disch := first | exact qD9 | fail) only [qG6, Nat.reduceAdd, Nat.reduceLeDiff, Int.reduceToNat, Int.reduceAdd, Int.reduceSub, Int.reduceLT, Int.reduceLE, Nat.reduceSub, Nat.reduceMul, Nat.reduceEqDiff, joinBR, h, g1, i0, i1, i2, i3, i4, hle, hal, r1, r2, r3, r4]
   refine callsS.of _ (rreg_spec ⟨rfl, rfl⟩) ?_
   cases hb1 : fitsU i.r1 5 with
   | false =>
    simp (disch := first | exact qD9 | fail) only [qG6, Nat.reduceAdd, Nat.reduceLeDiff, Int.reduceToNat, Int.reduceAdd, Int.reduceSub, Int.reduceLT, Int.reduceLE, Nat.reduceSub, Nat.reduceMul, Nat.reduceEqDiff, joinBR]
    have e : encOk i = false := by
     rw [hEnc]
     simp [laidS, hasS, okTr, fitsL, hb0, hb1]
    rw [e] at hK'
    exact hK' _ hx2
   | true =>
    simp (disch := first | exact qD9 | fail) only [qG6, Nat.reduceAdd, Nat.reduceLeDiff, Int.reduceToNat, Int.reduceAdd, Int.reduceSub, Int.reduceLT, Int.reduceLE, Nat.reduceSub, Nat.reduceMul, Nat.reduceEqDiff, joinBR, h, g1, i0, i1, i2, i3, i4, hle, hal, r1, r2, r3, r4]
    refine callsS.of _ (rFitsU_spec (b := 6) (by omega) iim ⟨rfl, rfl⟩) ?_
    cases hb2 : fitsU i.im 6 with
    | false =>
     simp (disch := first | exact qD9 | fail) only [qG6, Nat.reduceAdd, Nat.reduceLeDiff, Int.reduceToNat, Int.reduceAdd, Int.reduceSub, Int.reduceLT, Int.reduceLE, Nat.reduceSub, Nat.reduceMul, Nat.reduceEqDiff, joinBR]
     have e : encOk i = false := by
      rw [hEnc]
      simp [laidS, hasS, okTr, fitsL, hb0, hb1, hb2]
     rw [e] at hK'
     exact hK' _ hx2
    | true =>
     simp (disch := first | exact qD9 | fail) only [qG6, Nat.reduceAdd, Nat.reduceLeDiff, Int.reduceToNat, Int.reduceAdd, Int.reduceSub, Int.reduceLT, Int.reduceLE, Nat.reduceSub, Nat.reduceMul, Nat.reduceEqDiff, joinBR, h, g1, i0, i1, i2, i3, i4, hle, hal, r1, r2, r3, r4]
     have e : encOk i = true := by
      rw [hEnc]
      simp [laidS, hasS, okTr, fitsL, hb0, hb1, hb2]
     rw [e] at hK'
     exact hK' _ hx2
 ·have hs83 := h
  clear o82 o71 o72 o78
  simp only [h, Nat.reduceEqDiff, if_true, if_false, false_or, or_false, or_true, true_or] at hK
  rw [h] at hEnc
  have b0 : bt i.im 0 5 7 + 128 <= 4096 := bt_le i.im 0 5 7
  have b1 : bt i.im 5 7 25 + 33554432 <= 4294967296 := bt_le i.im 5 7 25
  have hK' : ∀ w', Ext [] w w' -> K (.tuple #[.int .u32 (((r.c : Nat) : Int) + ((r.f : Nat) : Int) * 2 ^ 12 + ((lo5 i.r1 : Nat) : Int) * 2 ^ 15 + ((lo5 i.r2 : Nat) : Int) * 2 ^ 20 + ((bt i.im 0 5 7 : Nat) : Int) + ((bt i.im 5 7 25 : Nat) : Int)), .bool (encOk i)]) w' := by
   intro w' hx'
   have hk := hK w' hx'
   have e : ((r.c + r.f * 4096 + lo5 i.r1 * 32768 + lo5 i.r2 * 1048576 + bt i.im 0 5 7 + bt i.im 5 7 25 : Nat) : Int) = ((r.c : Nat) : Int) + ((r.f : Nat) : Int) * 2 ^ 12 + ((lo5 i.r1 : Nat) : Int) * 2 ^ 15 + ((lo5 i.r2 : Nat) : Int) * 2 ^ 20 + ((bt i.im 0 5 7 : Nat) : Int) + ((bt i.im 5 7 25 : Nat) : Int) := by omega
   rw [e] at hk
   exact hk
  simp (disch := first | exact qD9 | fail) only [qG6, Nat.reduceAdd, Nat.reduceLeDiff, Int.reduceToNat, Int.reduceAdd, Int.reduceSub, Int.reduceLT, Int.reduceLE, Nat.reduceSub, Nat.reduceMul, Nat.reduceEqDiff, joinBR, h, g1, i0, i1, i2, i3, i4, hle, hal, r1, r2, r3, r4]
  refine joinL.intro fun J4 hJ4 => ?_
  simp (disch := first | exact qD9 | fail) only [qG6, Nat.reduceAdd, Nat.reduceLeDiff, Int.reduceToNat, Int.reduceAdd, Int.reduceSub, Int.reduceLT, Int.reduceLE, Nat.reduceSub, Nat.reduceMul, Nat.reduceEqDiff, joinBR, h, g1, i0, i1, i2, i3, i4, hle, hal, r1, r2, r3, r4]
  apply hJ4
  intro _
  simp (disch := first | exact qD9 | fail) only [qG6, Nat.reduceAdd, Nat.reduceLeDiff, Int.reduceToNat, Int.reduceAdd, Int.reduceSub, Int.reduceLT, Int.reduceLE, Nat.reduceSub, Nat.reduceMul, Nat.reduceEqDiff, joinBR, h, g1, i0, i1, i2, i3, i4, hle, hal, r1, r2, r3, r4]
  refine callsS.of _ (rbt_spec (f := 0) (n := 5) (a := 7) (by omega) ⟨rfl, rfl⟩) ?_
  simp (disch := first | exact qD9 | fail) only [qG6, Nat.reduceAdd, Nat.reduceLeDiff, Int.reduceToNat, Int.reduceAdd, Int.reduceSub, Int.reduceLT, Int.reduceLE, Nat.reduceSub, Nat.reduceMul, Nat.reduceEqDiff, joinBR, h, g1, i0, i1, i2, i3, i4, hle, hal, r1, r2, r3, r4]
  refine callsS.of _ (rbt_spec (f := 5) (n := 7) (a := 25) (by omega) ⟨rfl, rfl⟩) ?_
  simp (disch := first | exact qD9 | fail) only [qG6, Nat.reduceAdd, Nat.reduceLeDiff, Int.reduceToNat, Int.reduceAdd, Int.reduceSub, Int.reduceLT, Int.reduceLE, Nat.reduceSub, Nat.reduceMul, Nat.reduceEqDiff, joinBR, h, g1, i0, i1, i2, i3, i4, hle, hal, r1, r2, r3, r4]
  refine callsS.of _ (rreg_spec ⟨rfl, rfl⟩) ?_
  cases hb0 : fitsU i.r1 5 with
  | false =>
   simp (disch := first | exact qD9 | fail) only [qG6, Nat.reduceAdd, Nat.reduceLeDiff, Int.reduceToNat, Int.reduceAdd, Int.reduceSub, Int.reduceLT, Int.reduceLE, Nat.reduceSub, Nat.reduceMul, Nat.reduceEqDiff, joinBR]
   have e : encOk i = false := by
    rw [hEnc]
    simp [laidS, hasS, okTr, fitsL, hb0]
   rw [e] at hK'
   exact hK' _ hx2
  | true =>
   simp (disch := first | exact qD9 | fail) only [qG6, Nat.reduceAdd, Nat.reduceLeDiff, Int.reduceToNat, Int.reduceAdd, Int.reduceSub, Int.reduceLT, Int.reduceLE, Nat.reduceSub, Nat.reduceMul, Nat.reduceEqDiff, joinBR, h, g1, i0, i1, i2, i3, i4, hle, hal, r1, r2, r3, r4]
   refine callsS.of _ (rreg_spec ⟨rfl, rfl⟩) ?_
   cases hb1 : fitsU i.r2 5 with
   | false =>
    simp (disch := first | exact qD9 | fail) only [qG6, Nat.reduceAdd, Nat.reduceLeDiff, Int.reduceToNat, Int.reduceAdd, Int.reduceSub, Int.reduceLT, Int.reduceLE, Nat.reduceSub, Nat.reduceMul, Nat.reduceEqDiff, joinBR]
    have e : encOk i = false := by
     rw [hEnc]
     simp [laidS, hasS, okTr, fitsL, hb0, hb1]
    rw [e] at hK'
    exact hK' _ hx2
   | true =>
    simp (disch := first | exact qD9 | fail) only [qG6, Nat.reduceAdd, Nat.reduceLeDiff, Int.reduceToNat, Int.reduceAdd, Int.reduceSub, Int.reduceLT, Int.reduceLE, Nat.reduceSub, Nat.reduceMul, Nat.reduceEqDiff, joinBR, h, g1, i0, i1, i2, i3, i4, hle, hal, r1, r2, r3, r4]
    refine callsS.of _ (rFitsS_spec (b := 12) (by omega) iim ⟨rfl, rfl⟩) ?_
    cases hb2 : fitsS i.im 12 with
    | false =>
     simp (disch := first | exact qD9 | fail) only [qG6, Nat.reduceAdd, Nat.reduceLeDiff, Int.reduceToNat, Int.reduceAdd, Int.reduceSub, Int.reduceLT, Int.reduceLE, Nat.reduceSub, Nat.reduceMul, Nat.reduceEqDiff, joinBR]
     have e : encOk i = false := by
      rw [hEnc]
      simp [laidS, hasS, okTr, fitsL, hb0, hb1, hb2]
     rw [e] at hK'
     exact hK' _ hx2
    | true =>
     simp (disch := first | exact qD9 | fail) only [qG6, Nat.reduceAdd, Nat.reduceLeDiff, Int.reduceToNat, Int.reduceAdd, Int.reduceSub, Int.reduceLT, Int.reduceLE, Nat.reduceSub, Nat.reduceMul, Nat.reduceEqDiff, joinBR, h, g1, i0, i1, i2, i3, i4, hle, hal, r1, r2, r3, r4]
     have e : encOk i = true := by
      rw [hEnc]
      simp [laidS, hasS, okTr, fitsL, hb0, hb1, hb2]
     rw [e] at hK'
     exact hK' _ hx2
 ·have hs66 := h
  clear o82 o71 o72 o78
  simp only [h, Nat.reduceEqDiff, if_true, if_false, false_or, or_false, or_true, true_or] at hK
  rw [h] at hEnc
  have b0 : bt i.im 1 4 8 + 256 <= 4096 := bt_le i.im 1 4 8
  have b1 : bt i.im 5 6 25 + 33554432 <= 2147483648 := bt_le i.im 5 6 25
  have b2 : bt i.im 11 1 7 + 128 <= 256 := bt_le i.im 11 1 7
  have b3 : bt i.im 12 1 31 + 2147483648 <= 4294967296 := bt_le i.im 12 1 31
  have hK' : ∀ w', Ext [] w w' -> K (.tuple #[.int .u32 (((r.c : Nat) : Int) + ((r.f : Nat) : Int) * 2 ^ 12 + ((lo5 i.r1 : Nat) : Int) * 2 ^ 15 + ((lo5 i.r2 : Nat) : Int) * 2 ^ 20 + ((bt i.im 1 4 8 : Nat) : Int) + ((bt i.im 5 6 25 : Nat) : Int) + ((bt i.im 11 1 7 : Nat) : Int) + ((bt i.im 12 1 31 : Nat) : Int)), .bool (encOk i)]) w' := by
   intro w' hx'
   have hk := hK w' hx'
   have e : ((r.c + r.f * 4096 + lo5 i.r1 * 32768 + lo5 i.r2 * 1048576 + bt i.im 1 4 8 + bt i.im 5 6 25 + bt i.im 11 1 7 + bt i.im 12 1 31 : Nat) : Int) = ((r.c : Nat) : Int) + ((r.f : Nat) : Int) * 2 ^ 12 + ((lo5 i.r1 : Nat) : Int) * 2 ^ 15 + ((lo5 i.r2 : Nat) : Int) * 2 ^ 20 + ((bt i.im 1 4 8 : Nat) : Int) + ((bt i.im 5 6 25 : Nat) : Int) + ((bt i.im 11 1 7 : Nat) : Int) + ((bt i.im 12 1 31 : Nat) : Int) := by omega
   rw [e] at hk
   exact hk
  by_cases hz : i.im % 2 = 0
  ·have t1 : i.im.tmod 2 = 0 := Int.tmod_eq_zero_of_dvd (Int.dvd_of_emod_eq_zero hz)
   simp (disch := first | exact qD9 | fail) only [qG6, Nat.reduceAdd, Nat.reduceLeDiff, Int.reduceToNat, Int.reduceAdd, Int.reduceSub, Int.reduceLT, Int.reduceLE, Nat.reduceSub, Nat.reduceMul, Nat.reduceEqDiff, joinBR, h, g1, i0, i1, i2, i3, i4, hle, hal, r1, r2, r3, r4, t1]
   refine joinL.intro fun J4 hJ4 => ?_
   simp (disch := first | exact qD9 | fail) only [qG6, Nat.reduceAdd, Nat.reduceLeDiff, Int.reduceToNat, Int.reduceAdd, Int.reduceSub, Int.reduceLT, Int.reduceLE, Nat.reduceSub, Nat.reduceMul, Nat.reduceEqDiff, joinBR, h, g1, i0, i1, i2, i3, i4, hle, hal, r1, r2, r3, r4, t1]
   apply hJ4
   intro _
   simp (disch := first | exact qD9 | fail) only [qG6, Nat.reduceAdd, Nat.reduceLeDiff, Int.reduceToNat, Int.reduceAdd, Int.reduceSub, Int.reduceLT, Int.reduceLE, Nat.reduceSub, Nat.reduceMul, Nat.reduceEqDiff, joinBR, h, g1, i0, i1, i2, i3, i4, hle, hal, r1, r2, r3, r4, t1]
   refine callsS.of _ (rbt_spec (f := 1) (n := 4) (a := 8) (by omega) ⟨rfl, rfl⟩) ?_
   simp (disch := first | exact qD9 | fail) only [qG6, Nat.reduceAdd, Nat.reduceLeDiff, Int.reduceToNat, Int.reduceAdd, Int.reduceSub, Int.reduceLT, Int.reduceLE, Nat.reduceSub, Nat.reduceMul, Nat.reduceEqDiff, joinBR, h, g1, i0, i1, i2, i3, i4, hle, hal, r1, r2, r3, r4, t1]
   refine callsS.of _ (rbt_spec (f := 5) (n := 6) (a := 25) (by omega) ⟨rfl, rfl⟩) ?_
   simp (disch := first | exact qD9 | fail) only [qG6, Nat.reduceAdd, Nat.reduceLeDiff, Int.reduceToNat, Int.reduceAdd, Int.reduceSub, Int.reduceLT, Int.reduceLE, Nat.reduceSub, Nat.reduceMul, Nat.reduceEqDiff, joinBR, h, g1, i0, i1, i2, i3, i4, hle, hal, r1, r2, r3, r4, t1]
   refine callsS.of _ (rbt_spec (f := 11) (n := 1) (a := 7) (by omega) ⟨rfl, rfl⟩) ?_
   simp (disch := first | exact qD9 | fail) only [qG6, Nat.reduceAdd, Nat.reduceLeDiff, Int.reduceToNat, Int.reduceAdd, Int.reduceSub, Int.reduceLT, Int.reduceLE, Nat.reduceSub, Nat.reduceMul, Nat.reduceEqDiff, joinBR, h, g1, i0, i1, i2, i3, i4, hle, hal, r1, r2, r3, r4, t1]
   refine callsS.of _ (rbt_spec (f := 12) (n := 1) (a := 31) (by omega) ⟨rfl, rfl⟩) ?_
   simp (disch := first | exact qD9 | fail) only [qG6, Nat.reduceAdd, Nat.reduceLeDiff, Int.reduceToNat, Int.reduceAdd, Int.reduceSub, Int.reduceLT, Int.reduceLE, Nat.reduceSub, Nat.reduceMul, Nat.reduceEqDiff, joinBR, h, g1, i0, i1, i2, i3, i4, hle, hal, r1, r2, r3, r4, t1]
   refine callsS.of _ (rreg_spec ⟨rfl, rfl⟩) ?_
   cases hb0 : fitsU i.r1 5 with
   | false =>
    simp (disch := first | exact qD9 | fail) only [qG6, Nat.reduceAdd, Nat.reduceLeDiff, Int.reduceToNat, Int.reduceAdd, Int.reduceSub, Int.reduceLT, Int.reduceLE, Nat.reduceSub, Nat.reduceMul, Nat.reduceEqDiff, joinBR]
    have e : encOk i = false := by
     rw [hEnc]
     simp [laidS, hasS, okTr, fitsL, hb0]
    rw [e] at hK'
    exact hK' _ hx2
   | true =>
    simp (disch := first | exact qD9 | fail) only [qG6, Nat.reduceAdd, Nat.reduceLeDiff, Int.reduceToNat, Int.reduceAdd, Int.reduceSub, Int.reduceLT, Int.reduceLE, Nat.reduceSub, Nat.reduceMul, Nat.reduceEqDiff, joinBR, h, g1, i0, i1, i2, i3, i4, hle, hal, r1, r2, r3, r4, t1]
    refine callsS.of _ (rreg_spec ⟨rfl, rfl⟩) ?_
    cases hb1 : fitsU i.r2 5 with
    | false =>
     simp (disch := first | exact qD9 | fail) only [qG6, Nat.reduceAdd, Nat.reduceLeDiff, Int.reduceToNat, Int.reduceAdd, Int.reduceSub, Int.reduceLT, Int.reduceLE, Nat.reduceSub, Nat.reduceMul, Nat.reduceEqDiff, joinBR]
     have e : encOk i = false := by
      rw [hEnc]
      simp [laidS, hasS, okTr, fitsL, hb0, hb1]
     rw [e] at hK'
     exact hK' _ hx2
    | true =>
     simp (disch := first | exact qD9 | fail) only [qG6, Nat.reduceAdd, Nat.reduceLeDiff, Int.reduceToNat, Int.reduceAdd, Int.reduceSub, Int.reduceLT, Int.reduceLE, Nat.reduceSub, Nat.reduceMul, Nat.reduceEqDiff, joinBR, h, g1, i0, i1, i2, i3, i4, hle, hal, r1, r2, r3, r4, t1]
     refine callsS.of _ (rFitsS_spec (b := 13) (by omega) iim ⟨rfl, rfl⟩) ?_
     cases hb2 : fitsS i.im 13 with
     | false =>
      simp (disch := first | exact qD9 | fail) only [qG6, Nat.reduceAdd, Nat.reduceLeDiff, Int.reduceToNat, Int.reduceAdd, Int.reduceSub, Int.reduceLT, Int.reduceLE, Nat.reduceSub, Nat.reduceMul, Nat.reduceEqDiff, joinBR]
      have e : encOk i = false := by
       rw [hEnc]
       simp [laidS, hasS, okTr, fitsL, hb0, hb1, hb2]
      rw [e] at hK'
      exact hK' _ hx2
     | true =>
      simp (disch := first | exact qD9 | fail) only [qG6, Nat.reduceAdd, Nat.reduceLeDiff, Int.reduceToNat, Int.reduceAdd, Int.reduceSub, Int.reduceLT, Int.reduceLE, Nat.reduceSub, Nat.reduceMul, Nat.reduceEqDiff, joinBR, h, g1, i0, i1, i2, i3, i4, hle, hal, r1, r2, r3, r4, t1]
      have e : encOk i = true := by
       rw [hEnc]
       simp [laidS, hasS, okTr, fitsL, hb0, hb1, hb2, hz]
      rw [e] at hK'
      exact hK' _ hx2
  ·have t1 : ¬ i.im.tmod 2 = 0 := fun h => hz (Int.emod_eq_zero_of_dvd (Int.dvd_of_tmod_eq_zero h))
   simp (disch := first | exact qD9 | fail) only [qG6, Nat.reduceAdd, Nat.reduceLeDiff, Int.reduceToNat, Int.reduceAdd, Int.reduceSub, Int.reduceLT, Int.reduceLE, Nat.reduceSub, Nat.reduceMul, Nat.reduceEqDiff, joinBR, h, g1, i0, i1, i2, i3, i4, hle, hal, r1, r2, r3, r4, t1]
   refine joinL.intro fun J4 hJ4 => ?_
   simp (disch := first | exact qD9 | fail) only [qG6, Nat.reduceAdd, Nat.reduceLeDiff, Int.reduceToNat, Int.reduceAdd, Int.reduceSub, Int.reduceLT, Int.reduceLE, Nat.reduceSub, Nat.reduceMul, Nat.reduceEqDiff, joinBR, h, g1, i0, i1, i2, i3, i4, hle, hal, r1, r2, r3, r4, t1]
   apply hJ4
   intro _
   simp (disch := first | exact qD9 | fail) only [qG6, Nat.reduceAdd, Nat.reduceLeDiff, Int.reduceToNat, Int.reduceAdd, Int.reduceSub, Int.reduceLT, Int.reduceLE, Nat.reduceSub, Nat.reduceMul, Nat.reduceEqDiff, joinBR, h, g1, i0, i1, i2, i3, i4, hle, hal, r1, r2, r3, r4, t1]
   refine callsS.of _ (rbt_spec (f := 1) (n := 4) (a := 8) (by omega) ⟨rfl, rfl⟩) ?_
   simp (disch := first | exact qD9 | fail) only [qG6, Nat.reduceAdd, Nat.reduceLeDiff, Int.reduceToNat, Int.reduceAdd, Int.reduceSub, Int.reduceLT, Int.reduceLE, Nat.reduceSub, Nat.reduceMul, Nat.reduceEqDiff, joinBR, h, g1, i0, i1, i2, i3, i4, hle, hal, r1, r2, r3, r4, t1]
   refine callsS.of _ (rbt_spec (f := 5) (n := 6) (a := 25) (by omega) ⟨rfl, rfl⟩) ?_
   simp (disch := first | exact qD9 | fail) only [qG6, Nat.reduceAdd, Nat.reduceLeDiff, Int.reduceToNat, Int.reduceAdd, Int.reduceSub, Int.reduceLT, Int.reduceLE, Nat.reduceSub, Nat.reduceMul, Nat.reduceEqDiff, joinBR, h, g1, i0, i1, i2, i3, i4, hle, hal, r1, r2, r3, r4, t1]
   refine callsS.of _ (rbt_spec (f := 11) (n := 1) (a := 7) (by omega) ⟨rfl, rfl⟩) ?_
   simp (disch := first | exact qD9 | fail) only [qG6, Nat.reduceAdd, Nat.reduceLeDiff, Int.reduceToNat, Int.reduceAdd, Int.reduceSub, Int.reduceLT, Int.reduceLE, Nat.reduceSub, Nat.reduceMul, Nat.reduceEqDiff, joinBR, h, g1, i0, i1, i2, i3, i4, hle, hal, r1, r2, r3, r4, t1]
   refine callsS.of _ (rbt_spec (f := 12) (n := 1) (a := 31) (by omega) ⟨rfl, rfl⟩) ?_
   simp (disch := first | exact qD9 | fail) only [qG6, Nat.reduceAdd, Nat.reduceLeDiff, Int.reduceToNat, Int.reduceAdd, Int.reduceSub, Int.reduceLT, Int.reduceLE, Nat.reduceSub, Nat.reduceMul, Nat.reduceEqDiff, joinBR, h, g1, i0, i1, i2, i3, i4, hle, hal, r1, r2, r3, r4, t1]
   refine callsS.of _ (rreg_spec ⟨rfl, rfl⟩) ?_
   cases hb0 : fitsU i.r1 5 with
   | false =>
    simp (disch := first | exact qD9 | fail) only [qG6, Nat.reduceAdd, Nat.reduceLeDiff, Int.reduceToNat, Int.reduceAdd, Int.reduceSub, Int.reduceLT, Int.reduceLE, Nat.reduceSub, Nat.reduceMul, Nat.reduceEqDiff, joinBR]
    have e : encOk i = false := by
     rw [hEnc]
     simp [laidS, hasS, okTr, fitsL, hb0]
    rw [e] at hK'
    exact hK' _ hx2
   | true =>
    simp (disch := first | exact qD9 | fail) only [qG6, Nat.reduceAdd, Nat.reduceLeDiff, Int.reduceToNat, Int.reduceAdd, Int.reduceSub, Int.reduceLT, Int.reduceLE, Nat.reduceSub, Nat.reduceMul, Nat.reduceEqDiff, joinBR, h, g1, i0, i1, i2, i3, i4, hle, hal, r1, r2, r3, r4, t1]
    refine callsS.of _ (rreg_spec ⟨rfl, rfl⟩) ?_
    cases hb1 : fitsU i.r2 5 with
    | false =>
     simp (disch := first | exact qD9 | fail) only [qG6, Nat.reduceAdd, Nat.reduceLeDiff, Int.reduceToNat, Int.reduceAdd, Int.reduceSub, Int.reduceLT, Int.reduceLE, Nat.reduceSub, Nat.reduceMul, Nat.reduceEqDiff, joinBR]
     have e : encOk i = false := by
      rw [hEnc]
      simp [laidS, hasS, okTr, fitsL, hb0, hb1]
     rw [e] at hK'
     exact hK' _ hx2
    | true =>
     simp (disch := first | exact qD9 | fail) only [qG6, Nat.reduceAdd, Nat.reduceLeDiff, Int.reduceToNat, Int.reduceAdd, Int.reduceSub, Int.reduceLT, Int.reduceLE, Nat.reduceSub, Nat.reduceMul, Nat.reduceEqDiff, joinBR, h, g1, i0, i1, i2, i3, i4, hle, hal, r1, r2, r3, r4, t1]
     refine callsS.of _ (rFitsS_spec (b := 13) (by omega) iim ⟨rfl, rfl⟩) ?_
     cases hb2 : fitsS i.im 13 with
     | false =>
      simp (disch := first | exact qD9 | fail) only [qG6, Nat.reduceAdd, Nat.reduceLeDiff, Int.reduceToNat, Int.reduceAdd, Int.reduceSub, Int.reduceLT, Int.reduceLE, Nat.reduceSub, Nat.reduceMul, Nat.reduceEqDiff, joinBR]
      have e : encOk i = false := by
       rw [hEnc]
       simp [laidS, hasS, okTr, fitsL, hb0, hb1, hb2]
      rw [e] at hK'
      exact hK' _ hx2
     | true =>
      simp (disch := first | exact qD9 | fail) only [qG6, Nat.reduceAdd, Nat.reduceLeDiff, Int.reduceToNat, Int.reduceAdd, Int.reduceSub, Int.reduceLT, Int.reduceLE, Nat.reduceSub, Nat.reduceMul, Nat.reduceEqDiff, joinBR, h, g1, i0, i1, i2, i3, i4, hle, hal, r1, r2, r3, r4, t1]
      have e : encOk i = false := by
       rw [hEnc]
       simp [laidS, hasS, okTr, fitsL, hb0, hb1, hb2, hz]
      rw [e] at hK'
      exact hK' _ hx2
 ·have hs85 := h
  clear o82 o71 o72 o78
  simp only [h, Nat.reduceEqDiff, if_true, if_false, false_or, or_false, or_true, true_or] at hK
  rw [h] at hEnc
  have b0 : bt i.im 12 20 12 + 4096 <= 4294967296 := bt_le i.im 12 20 12
  have hK' : ∀ w', Ext [] w w' -> K (.tuple #[.int .u32 (((r.c : Nat) : Int) + ((lo5 i.rd : Nat) : Int) * 2 ^ 7 + ((bt i.im 12 20 12 : Nat) : Int)), .bool (encOk i)]) w' := by
   intro w' hx'
   have hk := hK w' hx'
   have e : ((r.c + lo5 i.rd * 128 + bt i.im 12 20 12 : Nat) : Int) = ((r.c : Nat) : Int) + ((lo5 i.rd : Nat) : Int) * 2 ^ 7 + ((bt i.im 12 20 12 : Nat) : Int) := by omega
   rw [e] at hk
   exact hk
  by_cases hz : i.im % 4096 = 0
  ·have t1 : i.im.tmod 4096 = 0 := Int.tmod_eq_zero_of_dvd (Int.dvd_of_emod_eq_zero hz)
   simp (disch := first | exact qD9 | fail) only [qG6, Nat.reduceAdd, Nat.reduceLeDiff, Int.reduceToNat, Int.reduceAdd, Int.reduceSub, Int.reduceLT, Int.reduceLE, Nat.reduceSub, Nat.reduceMul, Nat.reduceEqDiff, joinBR, h, g1, i0, i1, i2, i3, i4, hle, hal, r1, r2, r3, r4, t1]
   refine joinL.intro fun J4 hJ4 => ?_
   simp (disch := first | exact qD9 | fail) only [qG6, Nat.reduceAdd, Nat.reduceLeDiff, Int.reduceToNat, Int.reduceAdd, Int.reduceSub, Int.reduceLT, Int.reduceLE, Nat.reduceSub, Nat.reduceMul, Nat.reduceEqDiff, joinBR, h, g1, i0, i1, i2, i3, i4, hle, hal, r1, r2, r3, r4, t1]
   apply hJ4
   intro _
   simp (disch := first | exact qD9 | fail) only [qG6, Nat.reduceAdd, Nat.reduceLeDiff, Int.reduceToNat, Int.reduceAdd, Int.reduceSub, Int.reduceLT, Int.reduceLE, Nat.reduceSub, Nat.reduceMul, Nat.reduceEqDiff, joinBR, h, g1, i0, i1, i2, i3, i4, hle, hal, r1, r2, r3, r4, t1]
   refine callsS.of _ (rbt_spec (f := 12) (n := 20) (a := 12) (by omega) ⟨rfl, rfl⟩) ?_
   simp (disch := first | exact qD9 | fail) only [qG6, Nat.reduceAdd, Nat.reduceLeDiff, Int.reduceToNat, Int.reduceAdd, Int.reduceSub, Int.reduceLT, Int.reduceLE, Nat.reduceSub, Nat.reduceMul, Nat.reduceEqDiff, joinBR, h, g1, i0, i1, i2, i3, i4, hle, hal, r1, r2, r3, r4, t1]
   refine callsS.of _ (rreg_spec ⟨rfl, rfl⟩) ?_
   cases hb0 : fitsU i.rd 5 with
   | false =>
    simp (disch := first | exact qD9 | fail) only [qG6, Nat.reduceAdd, Nat.reduceLeDiff, Int.reduceToNat, Int.reduceAdd, Int.reduceSub, Int.reduceLT, Int.reduceLE, Nat.reduceSub, Nat.reduceMul, Nat.reduceEqDiff, joinBR]
    have e : encOk i = false := by
     rw [hEnc]
     simp [laidS, hasS, okTr, fitsL, hb0]
    rw [e] at hK'
    exact hK' _ hx2
   | true =>
    simp (disch := first | exact qD9 | fail) only [qG6, Nat.reduceAdd, Nat.reduceLeDiff, Int.reduceToNat, Int.reduceAdd, Int.reduceSub, Int.reduceLT, Int.reduceLE, Nat.reduceSub, Nat.reduceMul, Nat.reduceEqDiff, joinBR, h, g1, i0, i1, i2, i3, i4, hle, hal, r1, r2, r3, r4, t1]
    refine callsS.of _ (rFitsS_spec (b := 32) (by omega) iim ⟨rfl, rfl⟩) ?_
    cases hb1 : fitsS i.im 32 with
    | false =>
     simp (disch := first | exact qD9 | fail) only [qG6, Nat.reduceAdd, Nat.reduceLeDiff, Int.reduceToNat, Int.reduceAdd, Int.reduceSub, Int.reduceLT, Int.reduceLE, Nat.reduceSub, Nat.reduceMul, Nat.reduceEqDiff, joinBR]
     have e : encOk i = false := by
      rw [hEnc]
      simp [laidS, hasS, okTr, fitsL, hb0, hb1]
     rw [e] at hK'
     exact hK' _ hx2
    | true =>
     simp (disch := first | exact qD9 | fail) only [qG6, Nat.reduceAdd, Nat.reduceLeDiff, Int.reduceToNat, Int.reduceAdd, Int.reduceSub, Int.reduceLT, Int.reduceLE, Nat.reduceSub, Nat.reduceMul, Nat.reduceEqDiff, joinBR, h, g1, i0, i1, i2, i3, i4, hle, hal, r1, r2, r3, r4, t1]
     have e : encOk i = true := by
      rw [hEnc]
      simp [laidS, hasS, okTr, fitsL, hb0, hb1, hz]
     rw [e] at hK'
     exact hK' _ hx2
  ·have t1 : ¬ i.im.tmod 4096 = 0 := fun h => hz (Int.emod_eq_zero_of_dvd (Int.dvd_of_tmod_eq_zero h))
   simp (disch := first | exact qD9 | fail) only [qG6, Nat.reduceAdd, Nat.reduceLeDiff, Int.reduceToNat, Int.reduceAdd, Int.reduceSub, Int.reduceLT, Int.reduceLE, Nat.reduceSub, Nat.reduceMul, Nat.reduceEqDiff, joinBR, h, g1, i0, i1, i2, i3, i4, hle, hal, r1, r2, r3, r4, t1]
   refine joinL.intro fun J4 hJ4 => ?_
   simp (disch := first | exact qD9 | fail) only [qG6, Nat.reduceAdd, Nat.reduceLeDiff, Int.reduceToNat, Int.reduceAdd, Int.reduceSub, Int.reduceLT, Int.reduceLE, Nat.reduceSub, Nat.reduceMul, Nat.reduceEqDiff, joinBR, h, g1, i0, i1, i2, i3, i4, hle, hal, r1, r2, r3, r4, t1]
   apply hJ4
   intro _
   simp (disch := first | exact qD9 | fail) only [qG6, Nat.reduceAdd, Nat.reduceLeDiff, Int.reduceToNat, Int.reduceAdd, Int.reduceSub, Int.reduceLT, Int.reduceLE, Nat.reduceSub, Nat.reduceMul, Nat.reduceEqDiff, joinBR, h, g1, i0, i1, i2, i3, i4, hle, hal, r1, r2, r3, r4, t1]
   refine callsS.of _ (rbt_spec (f := 12) (n := 20) (a := 12) (by omega) ⟨rfl, rfl⟩) ?_
   simp (disch := first | exact qD9 | fail) only [qG6, Nat.reduceAdd, Nat.reduceLeDiff, Int.reduceToNat, Int.reduceAdd, Int.reduceSub, Int.reduceLT, Int.reduceLE, Nat.reduceSub, Nat.reduceMul, Nat.reduceEqDiff, joinBR, h, g1, i0, i1, i2, i3, i4, hle, hal, r1, r2, r3, r4, t1]
   refine callsS.of _ (rreg_spec ⟨rfl, rfl⟩) ?_
   cases hb0 : fitsU i.rd 5 with
   | false =>
    simp (disch := first | exact qD9 | fail) only [qG6, Nat.reduceAdd, Nat.reduceLeDiff, Int.reduceToNat, Int.reduceAdd, Int.reduceSub, Int.reduceLT, Int.reduceLE, Nat.reduceSub, Nat.reduceMul, Nat.reduceEqDiff, joinBR]
    have e : encOk i = false := by
     rw [hEnc]
     simp [laidS, hasS, okTr, fitsL, hb0]
    rw [e] at hK'
    exact hK' _ hx2
   | true =>
    simp (disch := first | exact qD9 | fail) only [qG6, Nat.reduceAdd, Nat.reduceLeDiff, Int.reduceToNat, Int.reduceAdd, Int.reduceSub, Int.reduceLT, Int.reduceLE, Nat.reduceSub, Nat.reduceMul, Nat.reduceEqDiff, joinBR, h, g1, i0, i1, i2, i3, i4, hle, hal, r1, r2, r3, r4, t1]
    refine callsS.of _ (rFitsS_spec (b := 32) (by omega) iim ⟨rfl, rfl⟩) ?_
    cases hb1 : fitsS i.im 32 with
    | false =>
     simp (disch := first | exact qD9 | fail) only [qG6, Nat.reduceAdd, Nat.reduceLeDiff, Int.reduceToNat, Int.reduceAdd, Int.reduceSub, Int.reduceLT, Int.reduceLE, Nat.reduceSub, Nat.reduceMul, Nat.reduceEqDiff, joinBR]
     have e : encOk i = false := by
      rw [hEnc]
      simp [laidS, hasS, okTr, fitsL, hb0, hb1]
     rw [e] at hK'
     exact hK' _ hx2
    | true =>
     simp (disch := first | exact qD9 | fail) only [qG6, Nat.reduceAdd, Nat.reduceLeDiff, Int.reduceToNat, Int.reduceAdd, Int.reduceSub, Int.reduceLT, Int.reduceLE, Nat.reduceSub, Nat.reduceMul, Nat.reduceEqDiff, joinBR, h, g1, i0, i1, i2, i3, i4, hle, hal, r1, r2, r3, r4, t1]
     have e : encOk i = false := by
      rw [hEnc]
      simp [laidS, hasS, okTr, fitsL, hb0, hb1, hz]
     rw [e] at hK'
     exact hK' _ hx2
 ·have hs74 := h
  clear o82 o71 o72 o78
  simp only [h, Nat.reduceEqDiff, if_true, if_false, false_or, or_false, or_true, true_or] at hK
  rw [h] at hEnc
  have b0 : bt i.im 12 8 12 + 4096 <= 1048576 := bt_le i.im 12 8 12
  have b1 : bt i.im 11 1 20 + 1048576 <= 2097152 := bt_le i.im 11 1 20
  have b2 : bt i.im 1 10 21 + 2097152 <= 2147483648 := bt_le i.im 1 10 21
  have b3 : bt i.im 20 1 31 + 2147483648 <= 4294967296 := bt_le i.im 20 1 31
  have hK' : ∀ w', Ext [] w w' -> K (.tuple #[.int .u32 (((r.c : Nat) : Int) + ((lo5 i.rd : Nat) : Int) * 2 ^ 7 + ((bt i.im 12 8 12 : Nat) : Int) + ((bt i.im 11 1 20 : Nat) : Int) + ((bt i.im 1 10 21 : Nat) : Int) + ((bt i.im 20 1 31 : Nat) : Int)), .bool (encOk i)]) w' := by
   intro w' hx'
   have hk := hK w' hx'
   have e : ((r.c + lo5 i.rd * 128 + bt i.im 12 8 12 + bt i.im 11 1 20 + bt i.im 1 10 21 + bt i.im 20 1 31 : Nat) : Int) = ((r.c : Nat) : Int) + ((lo5 i.rd : Nat) : Int) * 2 ^ 7 + ((bt i.im 12 8 12 : Nat) : Int) + ((bt i.im 11 1 20 : Nat) : Int) + ((bt i.im 1 10 21 : Nat) : Int) + ((bt i.im 20 1 31 : Nat) : Int) := by omega
   rw [e] at hk
   exact hk
  by_cases hz : i.im % 2 = 0
  ·have t1 : i.im.tmod 2 = 0 := Int.tmod_eq_zero_of_dvd (Int.dvd_of_emod_eq_zero hz)
   simp (disch := first | exact qD9 | fail) only [qG6, Nat.reduceAdd, Nat.reduceLeDiff, Int.reduceToNat, Int.reduceAdd, Int.reduceSub, Int.reduceLT, Int.reduceLE, Nat.reduceSub, Nat.reduceMul, Nat.reduceEqDiff, joinBR, h, g1, i0, i1, i2, i3, i4, hle, hal, r1, r2, r3, r4, t1]
   refine joinL.intro fun J4 hJ4 => ?_
   simp (disch := first | exact qD9 | fail) only [qG6, Nat.reduceAdd, Nat.reduceLeDiff, Int.reduceToNat, Int.reduceAdd, Int.reduceSub, Int.reduceLT, Int.reduceLE, Nat.reduceSub, Nat.reduceMul, Nat.reduceEqDiff, joinBR, h, g1, i0, i1, i2, i3, i4, hle, hal, r1, r2, r3, r4, t1]
   apply hJ4
   intro _
   simp (disch := first | exact qD9 | fail) only [qG6, Nat.reduceAdd, Nat.reduceLeDiff, Int.reduceToNat, Int.reduceAdd, Int.reduceSub, Int.reduceLT, Int.reduceLE, Nat.reduceSub, Nat.reduceMul, Nat.reduceEqDiff, joinBR, h, g1, i0, i1, i2, i3, i4, hle, hal, r1, r2, r3, r4, t1]
   refine callsS.of _ (rbt_spec (f := 12) (n := 8) (a := 12) (by omega) ⟨rfl, rfl⟩) ?_
   simp (disch := first | exact qD9 | fail) only [qG6, Nat.reduceAdd, Nat.reduceLeDiff, Int.reduceToNat, Int.reduceAdd, Int.reduceSub, Int.reduceLT, Int.reduceLE, Nat.reduceSub, Nat.reduceMul, Nat.reduceEqDiff, joinBR, h, g1, i0, i1, i2, i3, i4, hle, hal, r1, r2, r3, r4, t1]
   refine callsS.of _ (rbt_spec (f := 11) (n := 1) (a := 20) (by omega) ⟨rfl, rfl⟩) ?_
   simp (disch := first | exact qD9 | fail) only [qG6, Nat.reduceAdd, Nat.reduceLeDiff, Int.reduceToNat, Int.reduceAdd, Int.reduceSub, Int.reduceLT, Int.reduceLE, Nat.reduceSub, Nat.reduceMul, Nat.reduceEqDiff, joinBR, h, g1, i0, i1, i2, i3, i4, hle, hal, r1, r2, r3, r4, t1]
   refine callsS.of _ (rbt_spec (f := 1) (n := 10) (a := 21) (by omega) ⟨rfl, rfl⟩) ?_
   simp (disch := first | exact qD9 | fail) only [qG6, Nat.reduceAdd, Nat.reduceLeDiff, Int.reduceToNat, Int.reduceAdd, Int.reduceSub, Int.reduceLT, Int.reduceLE, Nat.reduceSub, Nat.reduceMul, Nat.reduceEqDiff, joinBR, h, g1, i0, i1, i2, i3, i4, hle, hal, r1, r2, r3, r4, t1]
   refine callsS.of _ (rbt_spec (f := 20) (n := 1) (a := 31) (by omega) ⟨rfl, rfl⟩) ?_
   simp (disch := first | exact qD9 | fail) only [qG6, Nat.reduceAdd, Nat.reduceLeDiff, Int.reduceToNat, Int.reduceAdd, Int.reduceSub, Int.reduceLT, Int.reduceLE, Nat.reduceSub, Nat.reduceMul, Nat.reduceEqDiff, joinBR, h, g1, i0, i1, i2, i3, i4, hle, hal, r1, r2, r3, r4, t1]
   refine callsS.of _ (rreg_spec ⟨rfl, rfl⟩) ?_
   cases hb0 : fitsU i.rd 5 with
   | false =>
    simp (disch := first | exact qD9 | fail) only [qG6, Nat.reduceAdd, Nat.reduceLeDiff, Int.reduceToNat, Int.reduceAdd, Int.reduceSub, Int.reduceLT, Int.reduceLE, Nat.reduceSub, Nat.reduceMul, Nat.reduceEqDiff, joinBR]
    have e : encOk i = false := by
     rw [hEnc]
     simp [laidS, hasS, okTr, fitsL, hb0]
    rw [e] at hK'
    exact hK' _ hx2
   | true =>
    simp (disch := first | exact qD9 | fail) only [qG6, Nat.reduceAdd, Nat.reduceLeDiff, Int.reduceToNat, Int.reduceAdd, Int.reduceSub, Int.reduceLT, Int.reduceLE, Nat.reduceSub, Nat.reduceMul, Nat.reduceEqDiff, joinBR, h, g1, i0, i1, i2, i3, i4, hle, hal, r1, r2, r3, r4, t1]
    refine callsS.of _ (rFitsS_spec (b := 21) (by omega) iim ⟨rfl, rfl⟩) ?_
    cases hb1 : fitsS i.im 21 with
    | false =>
     simp (disch := first | exact qD9 | fail) only [qG6, Nat.reduceAdd, Nat.reduceLeDiff, Int.reduceToNat, Int.reduceAdd, Int.reduceSub, Int.reduceLT, Int.reduceLE, Nat.reduceSub, Nat.reduceMul, Nat.reduceEqDiff, joinBR]
     have e : encOk i = false := by
      rw [hEnc]
      simp [laidS, hasS, okTr, fitsL, hb0, hb1]
     rw [e] at hK'
     exact hK' _ hx2
    | true =>
     simp (disch := first | exact qD9 | fail) only [qG6, Nat.reduceAdd, Nat.reduceLeDiff, Int.reduceToNat, Int.reduceAdd, Int.reduceSub, Int.reduceLT, Int.reduceLE, Nat.reduceSub, Nat.reduceMul, Nat.reduceEqDiff, joinBR, h, g1, i0, i1, i2, i3, i4, hle, hal, r1, r2, r3, r4, t1]
     have e : encOk i = true := by
      rw [hEnc]
      simp [laidS, hasS, okTr, fitsL, hb0, hb1, hz]
     rw [e] at hK'
     exact hK' _ hx2
  ·have t1 : ¬ i.im.tmod 2 = 0 := fun h => hz (Int.emod_eq_zero_of_dvd (Int.dvd_of_tmod_eq_zero h))
   simp (disch := first | exact qD9 | fail) only [qG6, Nat.reduceAdd, Nat.reduceLeDiff, Int.reduceToNat, Int.reduceAdd, Int.reduceSub, Int.reduceLT, Int.reduceLE, Nat.reduceSub, Nat.reduceMul, Nat.reduceEqDiff, joinBR, h, g1, i0, i1, i2, i3, i4, hle, hal, r1, r2, r3, r4, t1]
   refine joinL.intro fun J4 hJ4 => ?_
   simp (disch := first | exact qD9 | fail) only [qG6, Nat.reduceAdd, Nat.reduceLeDiff, Int.reduceToNat, Int.reduceAdd, Int.reduceSub, Int.reduceLT, Int.reduceLE, Nat.reduceSub, Nat.reduceMul, Nat.reduceEqDiff, joinBR, h, g1, i0, i1, i2, i3, i4, hle, hal, r1, r2, r3, r4, t1]
   apply hJ4
   intro _
   simp (disch := first | exact qD9 | fail) only [qG6, Nat.reduceAdd, Nat.reduceLeDiff, Int.reduceToNat, Int.reduceAdd, Int.reduceSub, Int.reduceLT, Int.reduceLE, Nat.reduceSub, Nat.reduceMul, Nat.reduceEqDiff, joinBR, h, g1, i0, i1, i2, i3, i4, hle, hal, r1, r2, r3, r4, t1]
   refine callsS.of _ (rbt_spec (f := 12) (n := 8) (a := 12) (by omega) ⟨rfl, rfl⟩) ?_
   simp (disch := first | exact qD9 | fail) only [qG6, Nat.reduceAdd, Nat.reduceLeDiff, Int.reduceToNat, Int.reduceAdd, Int.reduceSub, Int.reduceLT, Int.reduceLE, Nat.reduceSub, Nat.reduceMul, Nat.reduceEqDiff, joinBR, h, g1, i0, i1, i2, i3, i4, hle, hal, r1, r2, r3, r4, t1]
   refine callsS.of _ (rbt_spec (f := 11) (n := 1) (a := 20) (by omega) ⟨rfl, rfl⟩) ?_
   simp (disch := first | exact qD9 | fail) only [qG6, Nat.reduceAdd, Nat.reduceLeDiff, Int.reduceToNat, Int.reduceAdd, Int.reduceSub, Int.reduceLT, Int.reduceLE, Nat.reduceSub, Nat.reduceMul, Nat.reduceEqDiff, joinBR, h, g1, i0, i1, i2, i3, i4, hle, hal, r1, r2, r3, r4, t1]
   refine callsS.of _ (rbt_spec (f := 1) (n := 10) (a := 21) (by omega) ⟨rfl, rfl⟩) ?_
   simp (disch := first | exact qD9 | fail) only [qG6, Nat.reduceAdd, Nat.reduceLeDiff, Int.reduceToNat, Int.reduceAdd, Int.reduceSub, Int.reduceLT, Int.reduceLE, Nat.reduceSub, Nat.reduceMul, Nat.reduceEqDiff, joinBR, h, g1, i0, i1, i2, i3, i4, hle, hal, r1, r2, r3, r4, t1]
   refine callsS.of _ (rbt_spec (f := 20) (n := 1) (a := 31) (by omega) ⟨rfl, rfl⟩) ?_
   simp (disch := first | exact qD9 | fail) only [qG6, Nat.reduceAdd, Nat.reduceLeDiff, Int.reduceToNat, Int.reduceAdd, Int.reduceSub, Int.reduceLT, Int.reduceLE, Nat.reduceSub, Nat.reduceMul, Nat.reduceEqDiff, joinBR, h, g1, i0, i1, i2, i3, i4, hle, hal, r1, r2, r3, r4, t1]
   refine callsS.of _ (rreg_spec ⟨rfl, rfl⟩) ?_
   cases hb0 : fitsU i.rd 5 with
   | false =>
    simp (disch := first | exact qD9 | fail) only [qG6, Nat.reduceAdd, Nat.reduceLeDiff, Int.reduceToNat, Int.reduceAdd, Int.reduceSub, Int.reduceLT, Int.reduceLE, Nat.reduceSub, Nat.reduceMul, Nat.reduceEqDiff, joinBR]
    have e : encOk i = false := by
     rw [hEnc]
     simp [laidS, hasS, okTr, fitsL, hb0]
    rw [e] at hK'
    exact hK' _ hx2
   | true =>
    simp (disch := first | exact qD9 | fail) only [qG6, Nat.reduceAdd, Nat.reduceLeDiff, Int.reduceToNat, Int.reduceAdd, Int.reduceSub, Int.reduceLT, Int.reduceLE, Nat.reduceSub, Nat.reduceMul, Nat.reduceEqDiff, joinBR, h, g1, i0, i1, i2, i3, i4, hle, hal, r1, r2, r3, r4, t1]
    refine callsS.of _ (rFitsS_spec (b := 21) (by omega) iim ⟨rfl, rfl⟩) ?_
    cases hb1 : fitsS i.im 21 with
    | false =>
     simp (disch := first | exact qD9 | fail) only [qG6, Nat.reduceAdd, Nat.reduceLeDiff, Int.reduceToNat, Int.reduceAdd, Int.reduceSub, Int.reduceLT, Int.reduceLE, Nat.reduceSub, Nat.reduceMul, Nat.reduceEqDiff, joinBR]
     have e : encOk i = false := by
      rw [hEnc]
      simp [laidS, hasS, okTr, fitsL, hb0, hb1]
     rw [e] at hK'
     exact hK' _ hx2
    | true =>
     simp (disch := first | exact qD9 | fail) only [qG6, Nat.reduceAdd, Nat.reduceLeDiff, Int.reduceToNat, Int.reduceAdd, Int.reduceSub, Int.reduceLT, Int.reduceLE, Nat.reduceSub, Nat.reduceMul, Nat.reduceEqDiff, joinBR, h, g1, i0, i1, i2, i3, i4, hle, hal, r1, r2, r3, r4, t1]
     have e : encOk i = false := by
      rw [hEnc]
      simp [laidS, hasS, okTr, fitsL, hb0, hb1, hz]
     rw [e] at hK'
     exact hK' _ hx2
 ·have hs82 := h
  have ho := o82 h
  clear o82 o71 o72 o78
  simp only [h, Nat.reduceEqDiff, if_true, if_false, false_or, or_false, or_true, true_or] at hK
  rw [h] at hEnc
  have hK' : ∀ w', Ext [] w w' -> K (.tuple #[.int .u32 (((r.c : Nat) : Int) + ((r.f : Nat) : Int) * 2 ^ 12 + ((lo5 i.rd : Nat) : Int) * 2 ^ 7 + ((lo5 i.r1 : Nat) : Int) * 2 ^ 15 + ((lo5 i.r2 : Nat) : Int) * 2 ^ 20 + ((r.o : Nat) : Int) * 2 ^ 25), .bool (encOk i)]) w' := by
   intro w' hx'
   have hk := hK w' hx'
   have e : ((r.c + r.f * 4096 + lo5 i.rd * 128 + lo5 i.r1 * 32768 + lo5 i.r2 * 1048576 + r.o * 33554432 : Nat) : Int) = ((r.c : Nat) : Int) + ((r.f : Nat) : Int) * 2 ^ 12 + ((lo5 i.rd : Nat) : Int) * 2 ^ 7 + ((lo5 i.r1 : Nat) : Int) * 2 ^ 15 + ((lo5 i.r2 : Nat) : Int) * 2 ^ 20 + ((r.o : Nat) : Int) * 2 ^ 25 := by omega
   rw [e] at hk
   exact hk
  simp (disch := first | exact qD9 | fail) only [qG6, Nat.reduceAdd, Nat.reduceLeDiff, Int.reduceToNat, Int.reduceAdd, Int.reduceSub, Int.reduceLT, Int.reduceLE, Nat.reduceSub, Nat.reduceMul, Nat.reduceEqDiff, joinBR, h, g1, i0, i1, i2, i3, i4, hle, hal, r1, r2, r3, r4]
  refine callsS.of _ (rreg_spec ⟨rfl, rfl⟩) ?_
  cases hb0 : fitsU i.rd 5 with
  | false =>
   simp (disch := first | exact qD9 | fail) only [qG6, Nat.reduceAdd, Nat.reduceLeDiff, Int.reduceToNat, Int.reduceAdd, Int.reduceSub, Int.reduceLT, Int.reduceLE, Nat.reduceSub, Nat.reduceMul, Nat.reduceEqDiff, joinBR]
   have e : encOk i = false := by
    rw [hEnc]
    simp [laidS, hasS, okTr, fitsL, hb0]
   rw [e] at hK'
   exact hK' _ hx2
  | true =>
   simp (disch := first | exact qD9 | fail) only [qG6, Nat.reduceAdd, Nat.reduceLeDiff, Int.reduceToNat, Int.reduceAdd, Int.reduceSub, Int.reduceLT, Int.reduceLE, Nat.reduceSub, Nat.reduceMul, Nat.reduceEqDiff, joinBR, h, g1, i0, i1, i2, i3, i4, hle, hal, r1, r2, r3, r4]
   refine callsS.of _ (rreg_spec ⟨rfl, rfl⟩) ?_
   cases hb1 : fitsU i.r1 5 with
   | false =>
    simp (disch := first | exact qD9 | fail) only [qG6, Nat.reduceAdd, Nat.reduceLeDiff, Int.reduceToNat, Int.reduceAdd, Int.reduceSub, Int.reduceLT, Int.reduceLE, Nat.reduceSub, Nat.reduceMul, Nat.reduceEqDiff, joinBR]
    have e : encOk i = false := by
     rw [hEnc]
     simp [laidS, hasS, okTr, fitsL, hb0, hb1]
    rw [e] at hK'
    exact hK' _ hx2
   | true =>
    simp (disch := first | exact qD9 | fail) only [qG6, Nat.reduceAdd, Nat.reduceLeDiff, Int.reduceToNat, Int.reduceAdd, Int.reduceSub, Int.reduceLT, Int.reduceLE, Nat.reduceSub, Nat.reduceMul, Nat.reduceEqDiff, joinBR, h, g1, i0, i1, i2, i3, i4, hle, hal, r1, r2, r3, r4]
    refine callsS.of _ (rreg_spec ⟨rfl, rfl⟩) ?_
    cases hb2 : fitsU i.r2 5 with
    | false =>
     simp (disch := first | exact qD9 | fail) only [qG6, Nat.reduceAdd, Nat.reduceLeDiff, Int.reduceToNat, Int.reduceAdd, Int.reduceSub, Int.reduceLT, Int.reduceLE, Nat.reduceSub, Nat.reduceMul, Nat.reduceEqDiff, joinBR]
     have e : encOk i = false := by
      rw [hEnc]
      simp [laidS, hasS, okTr, fitsL, hb0, hb1, hb2]
     rw [e] at hK'
     exact hK' _ hx2
    | true =>
     simp (disch := first | exact qD9 | fail) only [qG6, Nat.reduceAdd, Nat.reduceLeDiff, Int.reduceToNat, Int.reduceAdd, Int.reduceSub, Int.reduceLT, Int.reduceLE, Nat.reduceSub, Nat.reduceMul, Nat.reduceEqDiff, joinBR, h, g1, i0, i1, i2, i3, i4, hle, hal, r1, r2, r3, r4]
     have e : encOk i = true := by
      rw [hEnc]
      simp [laidS, hasS, okTr, fitsL, hb0, hb1, hb2]
     rw [e] at hK'
     exact hK' _ hx2
 ·have hs71 := h
  have ho := o71 h
  clear o82 o71 o72 o78
  simp only [h, Nat.reduceEqDiff, if_true, if_false, false_or, or_false, or_true, true_or] at hK
  rw [h] at hEnc
  have hK' : ∀ w', Ext [] w w' -> K (.tuple #[.int .u32 (((r.c : Nat) : Int) + ((r.f : Nat) : Int) * 2 ^ 12 + ((lo5 i.rd : Nat) : Int) * 2 ^ 7 + ((lo5 i.r1 : Nat) : Int) * 2 ^ 15 + ((r.o : Nat) : Int) * 2 ^ 20 + 4261412864), .bool (encOk i)]) w' := by
   intro w' hx'
   have hk := hK w' hx'
   have e : ((r.c + r.f * 4096 + lo5 i.rd * 128 + lo5 i.r1 * 32768 + r.o * 1048576 + 4261412864 : Nat) : Int) = ((r.c : Nat) : Int) + ((r.f : Nat) : Int) * 2 ^ 12 + ((lo5 i.rd : Nat) : Int) * 2 ^ 7 + ((lo5 i.r1 : Nat) : Int) * 2 ^ 15 + ((r.o : Nat) : Int) * 2 ^ 20 + 4261412864 := by omega
   rw [e] at hk
   exact hk
  simp (disch := first | exact qD9 | fail) only [qG6, Nat.reduceAdd, Nat.reduceLeDiff, Int.reduceToNat, Int.reduceAdd, Int.reduceSub, Int.reduceLT, Int.reduceLE, Nat.reduceSub, Nat.reduceMul, Nat.reduceEqDiff, joinBR, h, g1, i0, i1, i2, i3, i4, hle, hal, r1, r2, r3, r4]
  refine callsS.of _ (rreg_spec ⟨rfl, rfl⟩) ?_
  cases hb0 : fitsU i.rd 5 with
  | false =>
   simp (disch := first | exact qD9 | fail) only [qG6, Nat.reduceAdd, Nat.reduceLeDiff, Int.reduceToNat, Int.reduceAdd, Int.reduceSub, Int.reduceLT, Int.reduceLE, Nat.reduceSub, Nat.reduceMul, Nat.reduceEqDiff, joinBR]
   have e : encOk i = false := by
    rw [hEnc]
    simp [laidS, hasS, okTr, fitsL, hb0]
   rw [e] at hK'
   exact hK' _ hx2
  | true =>
   simp (disch := first | exact qD9 | fail) only [qG6, Nat.reduceAdd, Nat.reduceLeDiff, Int.reduceToNat, Int.reduceAdd, Int.reduceSub, Int.reduceLT, Int.reduceLE, Nat.reduceSub, Nat.reduceMul, Nat.reduceEqDiff, joinBR, h, g1, i0, i1, i2, i3, i4, hle, hal, r1, r2, r3, r4]
   refine callsS.of _ (rreg_spec ⟨rfl, rfl⟩) ?_
   cases hb1 : fitsU i.r1 5 with
   | false =>
    simp (disch := first | exact qD9 | fail) only [qG6, Nat.reduceAdd, Nat.reduceLeDiff, Int.reduceToNat, Int.reduceAdd, Int.reduceSub, Int.reduceLT, Int.reduceLE, Nat.reduceSub, Nat.reduceMul, Nat.reduceEqDiff, joinBR]
    have e : encOk i = false := by
     rw [hEnc]
     simp [laidS, hasS, okTr, fitsL, hb0, hb1]
    rw [e] at hK'
    exact hK' _ hx2
   | true =>
    simp (disch := first | exact qD9 | fail) only [qG6, Nat.reduceAdd, Nat.reduceLeDiff, Int.reduceToNat, Int.reduceAdd, Int.reduceSub, Int.reduceLT, Int.reduceLE, Nat.reduceSub, Nat.reduceMul, Nat.reduceEqDiff, joinBR, h, g1, i0, i1, i2, i3, i4, hle, hal, r1, r2, r3, r4]
    have e : encOk i = true := by
     rw [hEnc]
     simp [laidS, hasS, okTr, fitsL, hb0, hb1]
    rw [e] at hK'
    exact hK' _ hx2
 ·have hs78 := h
  have ho := o78 h
  clear o82 o71 o72 o78
  simp only [h, Nat.reduceEqDiff, if_true, if_false, false_or, or_false, or_true, true_or] at hK
  rw [h] at hEnc
  have hK' : ∀ w', Ext [] w w' -> K (.tuple #[.int .u32 (((r.c : Nat) : Int) + ((r.o : Nat) : Int) * 2 ^ 20), .bool (encOk i)]) w' := by
   intro w' hx'
   have hk := hK w' hx'
   have e : ((r.c + r.o * 1048576 : Nat) : Int) = ((r.c : Nat) : Int) + ((r.o : Nat) : Int) * 2 ^ 20 := by omega
   rw [e] at hk
   exact hk
  simp (disch := first | exact qD9 | fail) only [qG6, Nat.reduceAdd, Nat.reduceLeDiff, Int.reduceToNat, Int.reduceAdd, Int.reduceSub, Int.reduceLT, Int.reduceLE, Nat.reduceSub, Nat.reduceMul, Nat.reduceEqDiff, joinBR, h, g1, i0, i1, i2, i3, i4, hle, hal, r1, r2, r3, r4]
  have e : encOk i = true := by
   rw [hEnc]
   simp [laidS, hasS, okTr, fitsL]
  rw [e] at hK'
  exact hK' _ hx3
open Go.Fx
set_option maxRecDepth 100000
theorem iff_I {W c f : Nat} (hW : W < 4294967296) (hc : c < 128) (hf : f < 8) : c + f * 4096 + W / 128 % 32 * 128 + W / 32768 % 32 * 32768 + W / 1048576 % 4096 * 1048576 = W ↔ W % 128 + W / 4096 % 8 * 4096 = c + f * 4096 := by omega
theorem iff_H {W c f o : Nat} (hW : W < 4294967296) (hc : c < 128) (hf : f < 8) (ho : o < 64) : c + f * 4096 + W / 128 % 32 * 128 + W / 32768 % 32 * 32768 + W / 1048576 % 64 * 1048576 + o * 67108864 = W ↔ W % 128 + W / 4096 % 8 * 4096 + W / 67108864 % 64 * 67108864 = c + f * 4096 + o * 67108864 := by omega
theorem iff_S {W c f : Nat} (hW : W < 4294967296) (hc : c < 128) (hf : f < 8) : c + f * 4096 + W / 32768 % 32 * 32768 + W / 1048576 % 32 * 1048576 + W / 128 % 32 * 128 + W / 33554432 % 128 * 33554432 = W ↔ W % 128 + W / 4096 % 8 * 4096 = c + f * 4096 := by omega
theorem iff_B {W c f : Nat} (hW : W < 4294967296) (hc : c < 128) (hf : f < 8) : c + f * 4096 + W / 32768 % 32 * 32768 + W / 1048576 % 32 * 1048576 + W / 256 % 16 * 256 + W / 33554432 % 64 * 33554432 + W / 128 % 2 * 128 + W / 2147483648 % 2 * 2147483648 = W ↔ W % 128 + W / 4096 % 8 * 4096 = c + f * 4096 := by omega
theorem iff_U {W c : Nat} (hW : W < 4294967296) (hc : c < 128) : c + W / 128 % 32 * 128 + W / 4096 % 1048576 * 4096 = W ↔ W % 128 = c := by omega
theorem iff_J {W c : Nat} (hW : W < 4294967296) (hc : c < 128) : c + W / 128 % 32 * 128 + W / 4096 % 256 * 4096 + W / 1048576 % 2 * 1048576 + W / 2097152 % 1024 * 2097152 + W / 2147483648 % 2 * 2147483648 = W ↔ W % 128 = c := by omega
theorem iff_R {W c f o : Nat} (hW : W < 4294967296) (hc : c < 128) (hf : f < 8) (ho : o < 128) : c + f * 4096 + W / 128 % 32 * 128 + W / 32768 % 32 * 32768 + W / 1048576 % 32 * 1048576 + o * 33554432 = W ↔ W % 128 + W / 4096 % 8 * 4096 + W / 33554432 % 128 * 33554432 = c + f * 4096 + o * 33554432 := by omega
theorem iff_G {W c f o : Nat} (hW : W < 4294967296) (hc : c < 128) (hf : f < 8) (ho : o < 32) : c + f * 4096 + W / 128 % 32 * 128 + W / 32768 % 32 * 32768 + o * 1048576 + 4261412864 = W ↔ W % 128 + W / 4096 % 8 * 4096 + W / 1048576 % 32 * 1048576 + W / 33554432 % 128 * 33554432 = c + f * 4096 + o * 1048576 + 127 * 33554432 := by omega
theorem iff_N {W c o : Nat} (hW : W < 4294967296) (hc : c < 128) (ho : o < 4096) : c + o * 1048576 = W ↔ W % 128 + W / 128 % 8192 * 128 + W / 1048576 % 4096 * 1048576 = c + o * 1048576 := by omega
theorem bt_S {ps : List (Nat × Nat × Nat)} {b W f n a X : Nat} (hx : ps.foldl (readX W) 0 = X) (hX : X < 18446744073709551616) (hb : 1 <= b /\ b <= 64) (hf : f + n <= b) : bt (readL ps b true W) f n a = X / 2 ^ f % 2 ^ n * 2 ^ a := by
 unfold bt
 rw [un_read (by rw [hx]; exact hX) (fun _ => hb), if_pos rfl, hx, sign_piece hb hf]
theorem bt_U {ps : List (Nat × Nat × Nat)} {b W f n a X : Nat} (hx : ps.foldl (readX W) 0 = X) (hX : X < 18446744073709551616) : bt (readL ps b false W) f n a = X / 2 ^ f % 2 ^ n * 2 ^ a := by
 unfold bt
 rw [un_read (by rw [hx]; exact hX) (fun h => absurd h (by decide)), if_neg (by decide), hx]
theorem lo5_nat (x : Nat) : lo5 ((x % 2 ^ 5 : Nat) : Int) = x % 32 := by
 unfold lo5
 omega
theorem ofK_fields (W k : Nat) : (ofK W k).rd = (if (hasS (row k).s).1 = true then ((W / 2 ^ 7 % 2 ^ 5 : Nat) : Int) else 0) /\ (ofK W k).r1 = (if (hasS (row k).s).2.1 = true then ((W / 2 ^ 15 % 2 ^ 5 : Nat) : Int) else 0) /\ (ofK W k).r2 = (if (hasS (row k).s).2.2 = true then ((W / 2 ^ 20 % 2 ^ 5 : Nat) : Int) else 0) /\ (ofK W k).im = readL (laidS (row k).s).1 (laidS (row k).s).2.1 (laidS (row k).s).2.2.1 W := ⟨rfl, rfl, rfl, rfl⟩
theorem ref_word {W k : Nat} (hW : W < 4294967296) (hk : k < 69) : refR (ofK W k) = W ↔ W &&& fixM (row k) = fixW (row k) := by
 obtain ⟨hM, hF, hc, hf, o82, o71, o72, o78⟩ := row_fact hk
 obtain ⟨f1, f2, f3, f4⟩ := ofK_fields W k
 have hsh := (row_goodA hk).2.2.2.2.2
 have hz := rowZ_ofK (W := W) hk
 generalize ofK W k = i at *
 rw [hM, hF]
 clear hM hF
 unfold refR
 rw [hz]
 dsimp only
 generalize row k = r at *
 rcases hsh with h | h | h | h | h | h | h | h | h | h
 ·rw [h] at f1 f2 f3 f4
  have eM : Msh r.s = Msh 73 := by rw [h]
  have eW : Wsh r = Wsh r := rfl
  conv at eW => rhs; unfold Wsh
  simp only [h, Nat.reduceEqDiff, if_true, if_false, false_or, or_false, or_true, true_or] at eW
  rw [eM, eW]
  simp only [h, Nat.reduceEqDiff, if_true, if_false, false_or, or_false, or_true, true_or]
  rw [show Msh 73 = 127 + 7 * 4096 from rfl, and_I]
  have l0 : lo5 i.rd = W / 128 % 32 := by rw [f1, show (hasS 73).1 = true from rfl, if_pos rfl, lo5_nat]
  rw [l0]
  have l1 : lo5 i.r1 = W / 32768 % 32 := by rw [f2, show (hasS 73).2.1 = true from rfl, if_pos rfl, lo5_nat]
  rw [l1]
  rw [laid_73] at f4
  dsimp only at f4
  have hx := fold_12 W
  have u0 : W / 2 ^ 20 % 2 ^ 12 < 2 ^ 12 := Nat.mod_lt _ (by decide)
  have e0 : bt i.im 0 12 20 = W / 1048576 % 4096 * 1048576 := by
   rw [f4, bt_S hx (by omega) (by decide) (by decide)]
   clear hx f1 f2 f3 f4
   simp only [Nat.reducePow] at *
   omega
  rw [e0]
  exact iff_I hW hc hf
 ·rw [h] at f1 f2 f3 f4
  have eM : Msh r.s = Msh 67 := by rw [h]
  have eW : Wsh r = Wsh r := rfl
  conv at eW => rhs; unfold Wsh
  simp only [h, Nat.reduceEqDiff, if_true, if_false, false_or, or_false, or_true, true_or] at eW
  rw [eM, eW]
  simp only [h, Nat.reduceEqDiff, if_true, if_false, false_or, or_false, or_true, true_or]
  rw [show Msh 67 = 127 + 7 * 4096 from rfl, and_I]
  have l0 : lo5 i.rd = W / 128 % 32 := by rw [f1, show (hasS 67).1 = true from rfl, if_pos rfl, lo5_nat]
  rw [l0]
  have l1 : lo5 i.r1 = W / 32768 % 32 := by rw [f2, show (hasS 67).2.1 = true from rfl, if_pos rfl, lo5_nat]
  rw [l1]
  rw [laid_67] at f4
  dsimp only at f4
  have hx := fold_12 W
  have u0 : W / 2 ^ 20 % 2 ^ 12 < 2 ^ 12 := Nat.mod_lt _ (by decide)
  have e0 : bt i.im 0 12 20 = W / 1048576 % 4096 * 1048576 := by
   rw [f4, bt_U hx (by omega)]
   clear hx f1 f2 f3 f4
   simp only [Nat.reducePow] at *
   omega
  rw [e0]
  exact iff_I hW hc hf
 ·rw [h] at f1 f2 f3 f4
  have eM : Msh r.s = Msh 72 := by rw [h]
  have eW : Wsh r = Wsh r := rfl
  conv at eW => rhs; unfold Wsh
  simp only [h, Nat.reduceEqDiff, if_true, if_false, false_or, or_false, or_true, true_or] at eW
  rw [eM, eW]
  simp only [h, Nat.reduceEqDiff, if_true, if_false, false_or, or_false, or_true, true_or]
  rw [show Msh 72 = 127 + 7 * 4096 + 63 * 67108864 from rfl, and_H]
  have l0 : lo5 i.rd = W / 128 % 32 := by rw [f1, show (hasS 72).1 = true from rfl, if_pos rfl, lo5_nat]
  rw [l0]
  have l1 : lo5 i.r1 = W / 32768 % 32 := by rw [f2, show (hasS 72).2.1 = true from rfl, if_pos rfl, lo5_nat]
  rw [l1]
  rw [laid_72] at f4
  dsimp only at f4
  have hx := fold_6 W
  have u0 : W / 2 ^ 20 % 2 ^ 6 < 2 ^ 6 := Nat.mod_lt _ (by decide)
  have e0 : bt i.im 0 6 20 = W / 1048576 % 64 * 1048576 := by
   rw [f4, bt_U hx (by omega)]
   clear hx f1 f2 f3 f4
   simp only [Nat.reducePow] at *
   omega
  rw [e0]
  exact iff_H hW hc hf (o72 h)
 ·rw [h] at f1 f2 f3 f4
  have eM : Msh r.s = Msh 83 := by rw [h]
  have eW : Wsh r = Wsh r := rfl
  conv at eW => rhs; unfold Wsh
  simp only [h, Nat.reduceEqDiff, if_true, if_false, false_or, or_false, or_true, true_or] at eW
  rw [eM, eW]
  simp only [h, Nat.reduceEqDiff, if_true, if_false, false_or, or_false, or_true, true_or]
  rw [show Msh 83 = 127 + 7 * 4096 from rfl, and_I]
  have l1 : lo5 i.r1 = W / 32768 % 32 := by rw [f2, show (hasS 83).2.1 = true from rfl, if_pos rfl, lo5_nat]
  rw [l1]
  have l2 : lo5 i.r2 = W / 1048576 % 32 := by rw [f3, show (hasS 83).2.2 = true from rfl, if_pos rfl, lo5_nat]
  rw [l2]
  rw [laid_83] at f4
  dsimp only at f4
  have hx := fold_S W
  have u0 : W / 2 ^ 7 % 2 ^ 5 < 2 ^ 5 := Nat.mod_lt _ (by decide)
  have u1 : W / 2 ^ 25 % 2 ^ 7 < 2 ^ 7 := Nat.mod_lt _ (by decide)
  have e0 : bt i.im 0 5 7 = W / 128 % 32 * 128 := by
   rw [f4, bt_S hx (by omega) (by decide) (by decide)]
   clear hx f1 f2 f3 f4
   simp only [Nat.reducePow] at *
   omega
  have e1 : bt i.im 5 7 25 = W / 33554432 % 128 * 33554432 := by
   rw [f4, bt_S hx (by omega) (by decide) (by decide)]
   clear hx f1 f2 f3 f4
   simp only [Nat.reducePow] at *
   omega
  rw [e0, e1]
  exact iff_S hW hc hf
 ·rw [h] at f1 f2 f3 f4
  have eM : Msh r.s = Msh 66 := by rw [h]
  have eW : Wsh r = Wsh r := rfl
  conv at eW => rhs; unfold Wsh
  simp only [h, Nat.reduceEqDiff, if_true, if_false, false_or, or_false, or_true, true_or] at eW
  rw [eM, eW]
  simp only [h, Nat.reduceEqDiff, if_true, if_false, false_or, or_false, or_true, true_or]
  rw [show Msh 66 = 127 + 7 * 4096 from rfl, and_I]
  have l1 : lo5 i.r1 = W / 32768 % 32 := by rw [f2, show (hasS 66).2.1 = true from rfl, if_pos rfl, lo5_nat]
  rw [l1]
  have l2 : lo5 i.r2 = W / 1048576 % 32 := by rw [f3, show (hasS 66).2.2 = true from rfl, if_pos rfl, lo5_nat]
  rw [l2]
  rw [laid_66] at f4
  dsimp only at f4
  have hx := fold_B W
  have u0 : W / 2 ^ 8 % 2 ^ 4 < 2 ^ 4 := Nat.mod_lt _ (by decide)
  have u1 : W / 2 ^ 25 % 2 ^ 6 < 2 ^ 6 := Nat.mod_lt _ (by decide)
  have u2 : W / 2 ^ 7 % 2 ^ 1 < 2 ^ 1 := Nat.mod_lt _ (by decide)
  have u3 : W / 2 ^ 31 % 2 ^ 1 < 2 ^ 1 := Nat.mod_lt _ (by decide)
  have e0 : bt i.im 1 4 8 = W / 256 % 16 * 256 := by
   rw [f4, bt_S hx (by omega) (by decide) (by decide)]
   clear hx f1 f2 f3 f4
   show _ = W / 2 ^ 8 % 2 ^ 4 * 2 ^ 8
   generalize W / 2 ^ 8 % 2 ^ 4 = g0 at *
   generalize W / 2 ^ 25 % 2 ^ 6 = g1 at *
   generalize W / 2 ^ 7 % 2 ^ 1 = g2 at *
   generalize W / 2 ^ 31 % 2 ^ 1 = g3 at *
   simp only [Nat.reducePow] at *
   omega
  have e1 : bt i.im 5 6 25 = W / 33554432 % 64 * 33554432 := by
   rw [f4, bt_S hx (by omega) (by decide) (by decide)]
   clear hx f1 f2 f3 f4
   show _ = W / 2 ^ 25 % 2 ^ 6 * 2 ^ 25
   generalize W / 2 ^ 8 % 2 ^ 4 = g0 at *
   generalize W / 2 ^ 25 % 2 ^ 6 = g1 at *
   generalize W / 2 ^ 7 % 2 ^ 1 = g2 at *
   generalize W / 2 ^ 31 % 2 ^ 1 = g3 at *
   simp only [Nat.reducePow] at *
   omega
  have e2 : bt i.im 11 1 7 = W / 128 % 2 * 128 := by
   rw [f4, bt_S hx (by omega) (by decide) (by decide)]
   clear hx f1 f2 f3 f4
   show _ = W / 2 ^ 7 % 2 ^ 1 * 2 ^ 7
   generalize W / 2 ^ 8 % 2 ^ 4 = g0 at *
   generalize W / 2 ^ 25 % 2 ^ 6 = g1 at *
   generalize W / 2 ^ 7 % 2 ^ 1 = g2 at *
   generalize W / 2 ^ 31 % 2 ^ 1 = g3 at *
   simp only [Nat.reducePow] at *
   omega
  have e3 : bt i.im 12 1 31 = W / 2147483648 % 2 * 2147483648 := by
   rw [f4, bt_S hx (by omega) (by decide) (by decide)]
   clear hx f1 f2 f3 f4
   show _ = W / 2 ^ 31 % 2 ^ 1 * 2 ^ 31
   generalize W / 2 ^ 8 % 2 ^ 4 = g0 at *
   generalize W / 2 ^ 25 % 2 ^ 6 = g1 at *
   generalize W / 2 ^ 7 % 2 ^ 1 = g2 at *
   generalize W / 2 ^ 31 % 2 ^ 1 = g3 at *
   simp only [Nat.reducePow] at *
   omega
  rw [e0, e1, e2, e3]
  exact iff_B hW hc hf
 ·rw [h] at f1 f2 f3 f4
  have eM : Msh r.s = Msh 85 := by rw [h]
  have eW : Wsh r = Wsh r := rfl
  conv at eW => rhs; unfold Wsh
  simp only [h, Nat.reduceEqDiff, if_true, if_false, false_or, or_false, or_true, true_or] at eW
  rw [eM, eW]
  simp only [h, Nat.reduceEqDiff, if_true, if_false, false_or, or_false, or_true, true_or]
  rw [show Msh 85 = 127 from rfl, and_U]
  have l0 : lo5 i.rd = W / 128 % 32 := by rw [f1, show (hasS 85).1 = true from rfl, if_pos rfl, lo5_nat]
  rw [l0]
  rw [laid_85] at f4
  dsimp only at f4
  have hx := fold_U W
  have u0 : W / 2 ^ 12 % 2 ^ 20 < 2 ^ 20 := Nat.mod_lt _ (by decide)
  have e0 : bt i.im 12 20 12 = W / 4096 % 1048576 * 4096 := by
   rw [f4, bt_S hx (by omega) (by decide) (by decide)]
   clear hx f1 f2 f3 f4
   simp only [Nat.reducePow] at *
   omega
  rw [e0]
  exact iff_U hW hc
 ·rw [h] at f1 f2 f3 f4
  have eM : Msh r.s = Msh 74 := by rw [h]
  have eW : Wsh r = Wsh r := rfl
  conv at eW => rhs; unfold Wsh
  simp only [h, Nat.reduceEqDiff, if_true, if_false, false_or, or_false, or_true, true_or] at eW
  rw [eM, eW]
  simp only [h, Nat.reduceEqDiff, if_true, if_false, false_or, or_false, or_true, true_or]
  rw [show Msh 74 = 127 from rfl, and_U]
  have l0 : lo5 i.rd = W / 128 % 32 := by rw [f1, show (hasS 74).1 = true from rfl, if_pos rfl, lo5_nat]
  rw [l0]
  rw [laid_74] at f4
  dsimp only at f4
  have hx := fold_J W
  have u0 : W / 2 ^ 12 % 2 ^ 8 < 2 ^ 8 := Nat.mod_lt _ (by decide)
  have u1 : W / 2 ^ 20 % 2 ^ 1 < 2 ^ 1 := Nat.mod_lt _ (by decide)
  have u2 : W / 2 ^ 21 % 2 ^ 10 < 2 ^ 10 := Nat.mod_lt _ (by decide)
  have u3 : W / 2 ^ 31 % 2 ^ 1 < 2 ^ 1 := Nat.mod_lt _ (by decide)
  have e0 : bt i.im 12 8 12 = W / 4096 % 256 * 4096 := by
   rw [f4, bt_S hx (by omega) (by decide) (by decide)]
   clear hx f1 f2 f3 f4
   show _ = W / 2 ^ 12 % 2 ^ 8 * 2 ^ 12
   generalize W / 2 ^ 21 % 2 ^ 10 = g0 at *
   generalize W / 2 ^ 20 % 2 ^ 1 = g1 at *
   generalize W / 2 ^ 12 % 2 ^ 8 = g2 at *
   generalize W / 2 ^ 31 % 2 ^ 1 = g3 at *
   simp only [Nat.reducePow] at *
   omega
  have e1 : bt i.im 11 1 20 = W / 1048576 % 2 * 1048576 := by
   rw [f4, bt_S hx (by omega) (by decide) (by decide)]
   clear hx f1 f2 f3 f4
   show _ = W / 2 ^ 20 % 2 ^ 1 * 2 ^ 20
   generalize W / 2 ^ 21 % 2 ^ 10 = g0 at *
   generalize W / 2 ^ 20 % 2 ^ 1 = g1 at *
   generalize W / 2 ^ 12 % 2 ^ 8 = g2 at *
   generalize W / 2 ^ 31 % 2 ^ 1 = g3 at *
   simp only [Nat.reducePow] at *
   omega
  have e2 : bt i.im 1 10 21 = W / 2097152 % 1024 * 2097152 := by
   rw [f4, bt_S hx (by omega) (by decide) (by decide)]
   clear hx f1 f2 f3 f4
   show _ = W / 2 ^ 21 % 2 ^ 10 * 2 ^ 21
   generalize W / 2 ^ 21 % 2 ^ 10 = g0 at *
   generalize W / 2 ^ 20 % 2 ^ 1 = g1 at *
   generalize W / 2 ^ 12 % 2 ^ 8 = g2 at *
   generalize W / 2 ^ 31 % 2 ^ 1 = g3 at *
   simp only [Nat.reducePow] at *
   omega
  have e3 : bt i.im 20 1 31 = W / 2147483648 % 2 * 2147483648 := by
   rw [f4, bt_S hx (by omega) (by decide) (by decide)]
   clear hx f1 f2 f3 f4
   show _ = W / 2 ^ 31 % 2 ^ 1 * 2 ^ 31
   generalize W / 2 ^ 21 % 2 ^ 10 = g0 at *
   generalize W / 2 ^ 20 % 2 ^ 1 = g1 at *
   generalize W / 2 ^ 12 % 2 ^ 8 = g2 at *
   generalize W / 2 ^ 31 % 2 ^ 1 = g3 at *
   simp only [Nat.reducePow] at *
   omega
  rw [e0, e1, e2, e3]
  exact iff_J hW hc
 ·rw [h] at f1 f2 f3 f4
  have eM : Msh r.s = Msh 82 := by rw [h]
  have eW : Wsh r = Wsh r := rfl
  conv at eW => rhs; unfold Wsh
  simp only [h, Nat.reduceEqDiff, if_true, if_false, false_or, or_false, or_true, true_or] at eW
  rw [eM, eW]
  simp only [h, Nat.reduceEqDiff, if_true, if_false, false_or, or_false, or_true, true_or]
  rw [show Msh 82 = 127 + 7 * 4096 + 127 * 33554432 from rfl, and_R]
  have l0 : lo5 i.rd = W / 128 % 32 := by rw [f1, show (hasS 82).1 = true from rfl, if_pos rfl, lo5_nat]
  rw [l0]
  have l1 : lo5 i.r1 = W / 32768 % 32 := by rw [f2, show (hasS 82).2.1 = true from rfl, if_pos rfl, lo5_nat]
  rw [l1]
  have l2 : lo5 i.r2 = W / 1048576 % 32 := by rw [f3, show (hasS 82).2.2 = true from rfl, if_pos rfl, lo5_nat]
  rw [l2]
  exact iff_R hW hc hf (o82 h)
 ·rw [h] at f1 f2 f3 f4
  have eM : Msh r.s = Msh 71 := by rw [h]
  have eW : Wsh r = Wsh r := rfl
  conv at eW => rhs; unfold Wsh
  simp only [h, Nat.reduceEqDiff, if_true, if_false, false_or, or_false, or_true, true_or] at eW
  rw [eM, eW]
  simp only [h, Nat.reduceEqDiff, if_true, if_false, false_or, or_false, or_true, true_or]
  rw [show Msh 71 = 127 + 7 * 4096 + 31 * 1048576 + 127 * 33554432 from rfl, and_G]
  have l0 : lo5 i.rd = W / 128 % 32 := by rw [f1, show (hasS 71).1 = true from rfl, if_pos rfl, lo5_nat]
  rw [l0]
  have l1 : lo5 i.r1 = W / 32768 % 32 := by rw [f2, show (hasS 71).2.1 = true from rfl, if_pos rfl, lo5_nat]
  rw [l1]
  exact iff_G hW hc hf (o71 h)
 ·rw [h] at f1 f2 f3 f4
  have eM : Msh r.s = Msh 78 := by rw [h]
  have eW : Wsh r = Wsh r := rfl
  conv at eW => rhs; unfold Wsh
  simp only [h, Nat.reduceEqDiff, if_true, if_false, false_or, or_false, or_true, true_or] at eW
  rw [eM, eW]
  simp only [h, Nat.reduceEqDiff, if_true, if_false, false_or, or_false, or_true, true_or]
  rw [show Msh 78 = 127 + 8191 * 128 + 4095 * 1048576 from rfl, and_N]
  exact iff_N hW hc (o78 h)
open Go.Fx
set_option maxRecDepth 100000
theorem decGo_hit {W k : Nat} (h : W &&& fixM (row k) = fixW (row k)) (f : Nat) : decGo W (f + 1) k = (ofK W k, true) := by rw [decGo, if_pos h]
theorem decGo_miss {W k : Nat} (h : ¬ W &&& fixM (row k) = fixW (row k)) (f : Nat) : decGo W (f + 1) k = decGo W f (k + 1) := by rw [decGo, if_neg h]
def zI : List Value := [.int .i64 0, .int .i64 0, .int .i64 0, .int .i64 0, .int .i64 0]
theorem readL_in {ps : List (Nat × Nat × Nat)} {b W : Nat} {sg : Bool} (hp : ∀ p ∈ ps, pcOk p) (hb : sg = true -> 1 <= b /\ b <= 64) : in64 (readL ps b sg W) := by
 have h1 := readX_lt (W := W) (x := 0) hp (by decide)
 unfold in64
 cases sg with
 | true =>
  rw [readT]
  have h2 := signN_lt (x := ps.foldl (readX W) 0) (hb rfl)
  unfold s64
  split <;> omega
 | false =>
  rw [readF]
  unfold s64
  split <;> omega
theorem laid_bits2 {s : Nat} (hs : shOk s) : (laidS s).2.2.1 = true -> 1 <= (laidS s).2.1 /\ (laidS s).2.1 <= 64 := by
 rcases hs with rfl | rfl | rfl | rfl | rfl | rfl | rfl | rfl | rfl | rfl | rfl <;> decide
theorem ofK_ok {W k : Nat} (hk : k < 69) : izOk (ofK W k) := by
 obtain ⟨f1, f2, f3, f4⟩ := ofK_fields W k
 have hs := row_sh hk
 refine ⟨?_, ?_, ?_, ?_, ?_⟩
 ·show in64 ((k : Int) + 1)
  unfold in64
  omega
 ·rw [f1]; exact in64_if (Nat.mod_lt _ (by decide))
 ·rw [f2]; exact in64_if (Nat.mod_lt _ (by decide))
 ·rw [f3]; exact in64_if (Nat.mod_lt _ (by decide))
 ·rw [f4]; exact readL_in (pcs_okA hs) (laid_bits2 hs)
set_option maxHeartbeats 2000000 in
theorem rDecode_spec {w : World} {W : Nat} (hW : W < 4294967296) {K : Value -> World -> Prop} (hK : ∀ w', Ext [] w w' -> K (.tuple #[.agg (izC (dcdF W).1).toArray, .bool (dcdF W).2]) w') : callsK Tryz.prog 16 #[.int .u32 (W : Nat)] w K := by
 apply F16_ok
 unfold F16
 simp (disch := first | exact qD9 | fail) only [qG6, Nat.reduceAdd, Nat.reduceLeDiff, Int.reduceToNat, Int.reduceAdd, Int.reduceSub, Int.reduceLT, Int.reduceLE, Nat.reduceSub, Nat.reduceMul, Nat.reduceEqDiff]
 have hx0 : Ext [] w (w.alloc (.cells zI.toArray 48)) := qX
 have hRW : dcdF W = decGo W 69 0 := rfl
 generalize dcdF W = R at *
 refine rRows_spec fun v w1 hv hx1 hbv => ?_
 have g1 := hx1.at (b := w.heap.size) (o := .cells zI.toArray 48 (0, 0)) (by first | with_reducible rfl | assumption | (simp (disch := first | exact qD9 | fail) only [qG6, Nat.reduceAdd, Nat.reduceLeDiff, Int.reduceToNat, Int.reduceAdd, Int.reduceSub, Int.reduceLT, Int.reduceLE, Nat.reduceSub, Nat.reduceMul, Nat.reduceEqDiff] <;> rfl)) (by simp)
 refine loopT.intro (fun st w' => ∃ (j : Nat), j <= 69 /\ st = [.int .i64 (j : Nat)] /\ R = decGo W (69 - j) j /\ w'.heap[w.heap.size]? = some (.cells zI.toArray 48 (0, 0)) /\ RowsAt w' v 5 (rowI.map rrC) /\ Ext [] w w')
  (fun st _ => match st with
   | [.int _ z] => 69 - z.toNat
   | _ => 0) ⟨0, Nat.zero_le _, rfl, hRW, g1, hv, hx0.trans hx1 (by simp)⟩ ?_
 rintro st w' ⟨k, hj, rfl, hR, g3, hv3, hx'⟩ _
 have l3 := lt_of_at g3
 have hlv := hv3.lenR (ty := 3) Tryz.underlying95
 rw [List.length_map, rowI_len] at hlv
 have hlv' : ∀ w, (Builtin.len_ #[95] 3 #[v]).run Tryz.prog w = .ok (.int .i64 69) w := hlv
 by_cases hk : k < 69
 ·obtain ⟨bv, o, lv, E, f, hix, hbk, hfit, hblt, hbk2, hsub, hget⟩ := RowsAt.ixR (P := Tryz.prog) (t := 95) Tryz.underlying95 Tryz.sizeOf98 hv3 (k := k) (r := rrC (row k)) (by rw [List.getElem?_map]; unfold row; rw [List.getD_eq_getElem?_getD, List.getElem?_eq_getElem (by rw [rowI_len]; exact hk)]; rfl)
  have hi0 := fun w => hix w .i64 k rfl
  have hc1 : lv[o + 1]? = some (.int .u8 ((row k).s : Nat)) := hget (o + 1) 1 rfl (by omega)
  have hsh := (row_goodA hk).2.2.2.2.2
  have hshz := row_sh hk
  have hrw := ref_word hW hk
  have hwb := fun h => word_back (k := k) hW hk h
  have hio := ofK_ok (W := W) hk
  obtain ⟨f1, f2, f3, f4⟩ := ofK_fields W k
  have f0 : (ofK W k).op = (k : Int) + 1 := rfl
  have hokp : okOp (ofK W k).op = true := by rw [f0]; unfold okOp; exact decide_eq_true (by omega)
  have hrow : rowZ (ofK W k).op = row k := rowZ_ofK hk
  simp (disch := first | exact qD9 | fail) only [qG6, Nat.reduceAdd, Nat.reduceLeDiff, Int.reduceToNat, Int.reduceAdd, Int.reduceSub, Int.reduceLT, Int.reduceLE, Nat.reduceSub, Nat.reduceMul, Nat.reduceEqDiff, hlv', hi0, hbk, hc1]
  refine rimm_spec hW hshz ?_
  rw [<- f4]
  simp (disch := first | exact qD9 | fail) only [qG6, Nat.reduceAdd, Nat.reduceLeDiff, Int.reduceToNat, Int.reduceAdd, Int.reduceSub, Int.reduceLT, Int.reduceLE, Nat.reduceSub, Nat.reduceMul, Nat.reduceEqDiff]
  have hxi : Ext [] w' (w'.alloc (.cells [.int .i64 ((k : Int) + 1), .int .i64 0, .int .i64 0, .int .i64 0, .int .i64 (ofK W k).im].toArray 48)) := qX
  have gi : (w'.alloc (.cells [.int .i64 ((k : Int) + 1), .int .i64 0, .int .i64 0, .int .i64 0, .int .i64 (ofK W k).im].toArray 48)).heap[w'.heap.size]? = some (.cells [.int .i64 ((k : Int) + 1), .int .i64 0, .int .i64 0, .int .i64 0, .int .i64 (ofK W k).im].toArray 48 (0, 0)) := alloc_at rfl
  generalize w'.alloc (.cells [.int .i64 ((k : Int) + 1), .int .i64 0, .int .i64 0, .int .i64 0, .int .i64 (ofK W k).im].toArray 48) = w2 at *
  generalize hI : ofK W k = I at *
  refine joinL.intro fun J2 hJ2 => ?_
  have hgo2 : ∀ w5, w5.heap[w'.heap.size]? = some (.cells [.int .i64 ((k : Int) + 1), .int .i64 I.rd, .int .i64 0, .int .i64 0, .int .i64 I.im].toArray 48 (0, 0)) -> Ext [] w' w5 -> J2 [] w5 := by
   intro w5 g5 hx5
   apply hJ2
   intro _
   refine joinL.intro fun J4 hJ4 => ?_
   have hgo4 : ∀ w6, w6.heap[w'.heap.size]? = some (.cells [.int .i64 ((k : Int) + 1), .int .i64 I.rd, .int .i64 I.r1, .int .i64 0, .int .i64 I.im].toArray 48 (0, 0)) -> Ext [] w' w6 -> J4 [] w6 := by
    intro w6 g6 hx6
    apply hJ4
    intro _
    refine joinL.intro fun J6 hJ6 => ?_
    have hgo6 : ∀ w7, w7.heap[w'.heap.size]? = some (.cells [.int .i64 ((k : Int) + 1), .int .i64 I.rd, .int .i64 I.r1, .int .i64 I.r2, .int .i64 I.im].toArray 48 (0, 0)) -> Ext [] w' w7 -> J6 [] w7 := by
     intro w7 g7 hx7
     apply hJ6
     intro _
     have eI : [Value.int .i64 ((k : Int) + 1), .int .i64 I.rd, .int .i64 I.r1, .int .i64 I.r2, .int .i64 I.im] = izC I := by rw [<- f0]; rfl
     rw [eI] at g7
     simp (disch := first | exact qD9 | fail) only [qG6, Nat.reduceAdd, Nat.reduceLeDiff, Int.reduceToNat, Int.reduceAdd, Int.reduceSub, Int.reduceLT, Int.reduceLE, Nat.reduceSub, Nat.reduceMul, Nat.reduceEqDiff, g7, izC_sub]
     refine rEncode_spec hio hokp fun w8 hx8 => ?_
     have g8 := hx8.at g7 (by simp)
     have hx78 := hx7.trans hx8 (by simp)
     have g38 := hx78.at g3 (by simp)
     have z1 : splice zI 0 (izC I) = izC I := rfl
     have z2 : izC I ++ List.drop (izC I).length zI = izC I := by simp [izC, zI]
     have z3 : zI.length = 5 := rfl
     have z4 : (izC I).length = 5 := rfl
     have l8 := lt_of_at g38
     have hmiss : R = decGo W (69 - (k + 1)) (k + 1) -> (∃ j, j <= 69 /\ [Value.int .i64 ((k : Int) + 1)] = [Value.int .i64 (j : Nat)] /\ R = decGo W (69 - j) j /\ w8.heap[w.heap.size]? = some (.cells zI.toArray 48 (0, 0)) /\ RowsAt w8 v 5 (rowI.map rrC) /\ Ext [] w w8) := fun h => ⟨k + 1, hk, by congr 2, h, g38, hv3.ext hx78 (by simp), hx'.trans hx78 (by simp)⟩
     rw [show 69 - k = (69 - (k + 1)) + 1 by omega] at hR
     by_cases hm : W &&& fixM (row k) = fixW (row k)
     ·obtain ⟨he, -⟩ := hwb hm
      have hw := hrw.2 hm
      rw [decGo_hit hm, hI] at hR
      rw [he, hw]
      rw [hR] at hK
      simp (disch := first | exact qD9 | fail) only [qG6, Nat.reduceAdd, Nat.reduceLeDiff, Int.reduceToNat, Int.reduceAdd, Int.reduceSub, Int.reduceLT, Int.reduceLE, Nat.reduceSub, Nat.reduceMul, Nat.reduceEqDiff, joinBR, g8, g38, izC_sub, z1, z2, z3, z4]
      exact hK _ ((hx'.trans hx78 (by simp)).updN (Nat.le_refl _))
     ·rw [decGo_miss hm] at hR
      have hw : ¬ ((refR I : Nat) : Int) = (W : Nat) := fun e => hm (hrw.1 (by omega))
      cases he : encOk I with
      | false =>
       simp (disch := first | exact qD9 | fail) only [qG6, Nat.reduceAdd, Nat.reduceLeDiff, Int.reduceToNat, Int.reduceAdd, Int.reduceSub, Int.reduceLT, Int.reduceLE, Nat.reduceSub, Nat.reduceMul, Nat.reduceEqDiff, joinBR, g8]
       exact ⟨hmiss hR, by omega⟩
      | true =>
       simp (disch := first | exact qD9 | fail) only [qG6, Nat.reduceAdd, Nat.reduceLeDiff, Int.reduceToNat, Int.reduceAdd, Int.reduceSub, Int.reduceLT, Int.reduceLE, Nat.reduceSub, Nat.reduceMul, Nat.reduceEqDiff, joinBR, g8, hw]
       exact ⟨hmiss hR, by omega⟩
    rcases hsh with h | h | h | h | h | h | h | h | h | h
    all_goals
     rw [h] at f3
     first
     |rw [show (hasS _).2.2 = true from rfl, if_pos rfl] at f3
      simp (disch := first | exact qD9 | fail) only [qG6, Nat.reduceAdd, Nat.reduceLeDiff, Int.reduceToNat, Int.reduceAdd, Int.reduceSub, Int.reduceLT, Int.reduceLE, Nat.reduceSub, Nat.reduceMul, Nat.reduceEqDiff, joinBR, h]
      refine rget_spec (a := 20) (n := 5) hW (by omega) ?_
      simp (disch := first | exact qD9 | fail) only [qG6, Nat.reduceAdd, Nat.reduceLeDiff, Int.reduceToNat, Int.reduceAdd, Int.reduceSub, Int.reduceLT, Int.reduceLE, Nat.reduceSub, Nat.reduceMul, Nat.reduceEqDiff, g6]
      refine hgo6 _ ?_ qX
      rw [f3]
      exact upd_at g6
     |rw [show (hasS _).2.2 = false from rfl, if_neg (by decide)] at f3
      simp (disch := first | exact qD9 | fail) only [qG6, Nat.reduceAdd, Nat.reduceLeDiff, Int.reduceToNat, Int.reduceAdd, Int.reduceSub, Int.reduceLT, Int.reduceLE, Nat.reduceSub, Nat.reduceMul, Nat.reduceEqDiff, joinBR, h]
      refine hgo6 _ ?_ hx6
      rw [f3]
      exact g6
   rcases hsh with h | h | h | h | h | h | h | h | h | h
   all_goals
    rw [h] at f2
    first
    |rw [show (hasS _).2.1 = true from rfl, if_pos rfl] at f2
     simp (disch := first | exact qD9 | fail) only [qG6, Nat.reduceAdd, Nat.reduceLeDiff, Int.reduceToNat, Int.reduceAdd, Int.reduceSub, Int.reduceLT, Int.reduceLE, Nat.reduceSub, Nat.reduceMul, Nat.reduceEqDiff, joinBR, h]
     refine rget_spec (a := 15) (n := 5) hW (by omega) ?_
     simp (disch := first | exact qD9 | fail) only [qG6, Nat.reduceAdd, Nat.reduceLeDiff, Int.reduceToNat, Int.reduceAdd, Int.reduceSub, Int.reduceLT, Int.reduceLE, Nat.reduceSub, Nat.reduceMul, Nat.reduceEqDiff, g5]
     refine hgo4 _ ?_ qX
     rw [f2]
     exact upd_at g5
    |rw [show (hasS _).2.1 = false from rfl, if_neg (by decide)] at f2
     simp (disch := first | exact qD9 | fail) only [qG6, Nat.reduceAdd, Nat.reduceLeDiff, Int.reduceToNat, Int.reduceAdd, Int.reduceSub, Int.reduceLT, Int.reduceLE, Nat.reduceSub, Nat.reduceMul, Nat.reduceEqDiff, joinBR, h]
     refine hgo4 _ ?_ hx5
     rw [f2]
     exact g5
  rcases hsh with h | h | h | h | h | h | h | h | h | h
  all_goals
   rw [h] at f1
   first
   |rw [show (hasS _).1 = true from rfl, if_pos rfl] at f1
    simp (disch := first | exact qD9 | fail) only [qG6, Nat.reduceAdd, Nat.reduceLeDiff, Int.reduceToNat, Int.reduceAdd, Int.reduceSub, Int.reduceLT, Int.reduceLE, Nat.reduceSub, Nat.reduceMul, Nat.reduceEqDiff, joinBR, h]
    refine rget_spec (a := 7) (n := 5) hW (by omega) ?_
    simp (disch := first | exact qD9 | fail) only [qG6, Nat.reduceAdd, Nat.reduceLeDiff, Int.reduceToNat, Int.reduceAdd, Int.reduceSub, Int.reduceLT, Int.reduceLE, Nat.reduceSub, Nat.reduceMul, Nat.reduceEqDiff, gi]
    refine hgo2 _ ?_ qX
    rw [f1]
    exact upd_at gi
   |rw [show (hasS _).1 = false from rfl, if_neg (by decide)] at f1
    simp (disch := first | exact qD9 | fail) only [qG6, Nat.reduceAdd, Nat.reduceLeDiff, Int.reduceToNat, Int.reduceAdd, Int.reduceSub, Int.reduceLT, Int.reduceLE, Nat.reduceSub, Nat.reduceMul, Nat.reduceEqDiff, joinBR, h]
    refine hgo2 _ ?_ hxi
    rw [f1]
    exact gi
 ·obtain rfl : k = 69 := by omega
  rw [show decGo W (69 - 69) 69 = (⟨0, 0, 0, 0, 0⟩, false) from rfl] at hR
  rw [hR] at hK
  unfold zI at g3
  simp (disch := first | exact qD9 | fail) only [qG6, Nat.reduceAdd, Nat.reduceLeDiff, Int.reduceToNat, Int.reduceAdd, Int.reduceSub, Int.reduceLT, Int.reduceLE, Nat.reduceSub, Nat.reduceMul, Nat.reduceEqDiff, hlv', g3]
  exact hK _ (hx'.updN (Nat.le_refl _))
open Go.Fx
theorem qG7 : type_of% (And.intro @gen0 (And.intro (@gen1 Tryz.prog) (And.intro @gen2 (And.intro @rulesC (And.intro @rulesX (And.intro @rulesA (And.intro @rulesL (And.intro @rulesB (And.intro @rulesW (And.intro @rulesD (And.intro @rulesE (And.intro @litR (And.intro @bolR (And.intro (@numR Tryz.prog) (And.intro (@memR Tryz.prog) (And.intro @valR (And.intro @heapR (And.intro @updR (And.intro @intR (And.intro @decR (And.intro (@extR Tryz.prog) (And.intro (@slR Tryz.prog) (And.intro @segR (And.intro @thenR ((@pnR Tryz.prog)))))))))))))))))))))))))) := ⟨@gen0, (@gen1 Tryz.prog), @gen2, @rulesC, @rulesX, @rulesA, @rulesL, @rulesB, @rulesW, @rulesD, @rulesE, @litR, @bolR, (@numR Tryz.prog), (@memR Tryz.prog), @valR, @heapR, @updR, @intR, @decR, (@extR Tryz.prog), (@slR Tryz.prog), @segR, @thenR, (@pnR Tryz.prog)⟩
set_option maxRecDepth 100000
def tenZ : ByteArray := ⟨#[48, 49, 50, 51, 52, 53, 54, 55, 56, 57]⟩
theorem ten_cut {d : Nat} (h : d < 10) : tenZ.extract d (d + 1) = ⟨#[UInt8.ofNat (48 + d)]⟩ := by
 match d, h with
 | 0, _ => rfl
 | 1, _ => rfl
 | 2, _ => rfl
 | 3, _ => rfl
 | 4, _ => rfl
 | 5, _ => rfl
 | 6, _ => rfl
 | 7, _ => rfl
 | 8, _ => rfl
 | 9, _ => rfl
theorem rnum_spec : ∀ (f n : Nat), n < 10 ^ f -> 0 < f -> f <= 20 -> n < 1000000000000000000 -> ∀ (w : World) (K : Value -> World -> Prop), K (.string ⟨(decF f n).toArray⟩) w -> callsK Tryz.prog 15 #[.int .i64 (n : Nat)] w K
 | 0, _, _, h, _, _, _, _, _ => absurd h (by omega)
 | f + 1, n, hn, _, hf, h18, w, K, hK => by
  apply F15_ok
  unfold F15
  have hd : ((n : Nat) : Int) % 10 = ((n % 10 : Nat) : Int) := by omega
  have hq : ((n : Nat) : Int) / 10 = ((n / 10 : Nat) : Int) := by omega
  have hs : (⟨#[48, 49, 50, 51, 52, 53, 54, 55, 56, 57]⟩ : ByteArray) = tenZ := rfl
  have hcut : ∀ w, (Instr.sliceAt 9 (.string tenZ) (some (.int .i64 ((n % 10 : Nat) : Int))) (some (.int .i64 (((n % 10 : Nat) : Int) + 1))) none).run Tryz.prog w = .ok (.string ⟨#[UInt8.ofNat (48 + n % 10)]⟩) w := by
   intro w
   rw [run_cutS Tryz.underlying9 _ _ _ (l := n % 10) (h := n % 10 + 1) (fun w => (slR.2.2.2.1 _ _ _ _ _ _ _ _ ⟨by omega, by omega, by show ((n % 10 : Nat) : Int) + 1 <= ((10 : Nat) : Int); omega⟩).trans (by rw [show (((n % 10 : Nat) : Int) + 1).toNat = n % 10 + 1 by omega, Int.toNat_natCast])), ten_cut (by omega)]
  by_cases h10 : n < 10
  ·rw [decF_small h10] at hK
   simp (disch := first | exact qD9 | fail) only [qG7, Nat.reduceAdd, Nat.reduceLeDiff, Int.reduceToNat, Int.reduceAdd, Int.reduceSub, Int.reduceLT, Int.reduceLE, Nat.reduceSub, Nat.reduceMul, Nat.reduceEqDiff, joinBR, hd, hs, hcut]
   rw [show n % 10 = n by omega]
   exact hK
  ·rw [decF_big h10] at hK
   have hf0 : 0 < f := by
    rcases Nat.eq_zero_or_pos f with rfl | h1
    ·simp at hn; omega
    ·exact h1
   simp (disch := first | exact qD9 | fail) only [qG7, Nat.reduceAdd, Nat.reduceLeDiff, Int.reduceToNat, Int.reduceAdd, Int.reduceSub, Int.reduceLT, Int.reduceLE, Nat.reduceSub, Nat.reduceMul, Nat.reduceEqDiff, joinBR, hd, hq, hs, hcut]
   refine rnum_spec f (n / 10) (by rw [Nat.div_lt_iff_lt_mul (by omega), <- Nat.pow_succ]; exact hn) hf0 (by omega) (by omega) _ _ ?_
   have hl := decF_len f (n / 10)
   have hadd := addS (a := decF f (n / 10)) (b := [UInt8.ofNat (48 + n % 10)]) (by simp; omega)
   simp (disch := first | exact qD9 | fail) only [qG7, Nat.reduceAdd, Nat.reduceLeDiff, Int.reduceToNat, Int.reduceAdd, Int.reduceSub, Int.reduceLT, Int.reduceLE, Nat.reduceSub, Nat.reduceMul, Nat.reduceEqDiff, hadd]
   exact hK
theorem rnumber_spec {w : World} {n : Int} (h : -10000000000 < n /\ n < 10000000000) {K : Value -> World -> Prop} (hK : K (.string ⟨(dec n).toArray⟩) w) : callsK Tryz.prog 15 #[.int .i64 n] w K := by
 have p20 : n.natAbs < 10 ^ 20 := by
  have : (10 : Nat) ^ 20 = 100000000000000000000 := by decide
  omega
 by_cases h0 : n < 0
 ·apply F15_ok
  unfold F15
  have hd : dec n = 45 :: decF 20 n.natAbs := by unfold dec; rw [if_pos h0]; rfl
  rw [hd] at hK
  have hneg : 0 - n = ((n.natAbs : Nat) : Int) := by omega
  simp (disch := first | exact qD9 | fail) only [qG7, Nat.reduceAdd, Nat.reduceLeDiff, Int.reduceToNat, Int.reduceAdd, Int.reduceSub, Int.reduceLT, Int.reduceLE, Nat.reduceSub, Nat.reduceMul, Nat.reduceEqDiff, joinBR, hneg]
  with_reducible refine rnum_spec 20 n.natAbs p20 (by omega) (by omega) (by omega) _ _ ?_
  have hl := decF_len 20 n.natAbs
  have hadd := addS (a := [45]) (b := decF 20 n.natAbs) (by simp; omega)
  simp (disch := first | exact qD9 | fail) only [qG7, Nat.reduceAdd, Nat.reduceLeDiff, Int.reduceToNat, Int.reduceAdd, Int.reduceSub, Int.reduceLT, Int.reduceLE, Nat.reduceSub, Nat.reduceMul, Nat.reduceEqDiff, hadd]
  exact hK
 ·obtain ⟨m, rfl⟩ : ∃ m : Nat, n = m := ⟨n.toNat, by omega⟩
  have hd : dec (m : Int) = decF 20 m := by unfold dec; rw [if_neg h0]; rfl
  rw [hd] at hK
  exact rnum_spec 20 m (by omega) (by omega) (by omega) (by omega) _ _ hK
theorem reg14_spec {w : World} {n : Int} (h : -10000000000 < n /\ n < 10000000000) {K : Value -> World -> Prop} (hK : K (.string ⟨(99 :: dec n).toArray⟩) w) : callsK Tryz.prog 42 #[.int .i64 n] w K := by
 apply F42_ok
 unfold F42
 simp (disch := first | exact qD9 | fail) only [qG7, Nat.reduceAdd, Nat.reduceLeDiff, Int.reduceToNat, Int.reduceAdd, Int.reduceSub, Int.reduceLT, Int.reduceLE, Nat.reduceSub, Nat.reduceMul, Nat.reduceEqDiff]
 refine rnumber_spec h ?_
 have hl := dec_len (n := n)
 have hadd := addS (a := [99]) (b := dec n) (by simp; omega)
 simp (disch := first | exact qD9 | fail) only [qG7, Nat.reduceAdd, Nat.reduceLeDiff, Int.reduceToNat, Int.reduceAdd, Int.reduceSub, Int.reduceLT, Int.reduceLE, Nat.reduceSub, Nat.reduceMul, Nat.reduceEqDiff, hadd]
 exact hK
theorem sgn_cutZ {d : Nat} (h : d < 16) : sgnZ.extract d (d + 1) = ⟨#[hd d]⟩ :=
 sixteen (p := fun d => sgnZ.extract d (d + 1) = ⟨#[hd d]⟩) ⟨rfl, rfl, rfl, rfl, rfl, rfl, rfl, rfl, rfl, rfl, rfl, rfl, rfl, rfl, rfl, rfl⟩ h
theorem hex14_spec : ∀ (j W : Nat), W < 4294967296 -> j <= 8 -> ∀ (w : World) (K : Value -> World -> Prop), (∀ w', Ext [] w w' -> K (.string ⟨(hexL j W).toArray⟩) w') -> callsK Tryz.prog 17 #[.int .u32 (W : Nat), .int .i64 (j : Nat)] w K
 | 0, W, hW, hj, w, K, hK => by
  apply F17_ok
  unfold F17
  simp (disch := first | exact qD9 | fail) only [qG7, Nat.reduceAdd, Nat.reduceLeDiff, Int.reduceToNat, Int.reduceAdd, Int.reduceSub, Int.reduceLT, Int.reduceLE, Nat.reduceSub, Nat.reduceMul, Nat.reduceEqDiff]
  exact hK _ Ext.refl
 | j + 1, W, hW, hj, w, K, hK => by
  apply F17_ok
  unfold F17
  have hmd : ((W : Nat) : Int) % 16 = ((W % 16 : Nat) : Int) := by omega
  have hq : ((W : Nat) : Int) / 16 = ((W / 16 : Nat) : Int) := by omega
  have hs : (⟨#[48, 49, 50, 51, 52, 53, 54, 55, 56, 57, 97, 98, 99, 100, 101, 102]⟩ : ByteArray) = sgnZ := rfl
  have hcut : ∀ w, (Instr.sliceAt 9 (.string sgnZ) (some (.int .u32 ((W % 16 : Nat) : Int))) (some (.int .u32 (((W % 16 : Nat) : Int) + 1))) none).run Tryz.prog w = .ok (.string ⟨#[hd (W % 16)]⟩) w := by
   intro w
   rw [run_cutS Tryz.underlying9 _ _ _ (l := W % 16) (h := W % 16 + 1) (fun w => (slR.2.2.2.1 _ _ _ _ _ _ _ _ ⟨by omega, by omega, by show ((W % 16 : Nat) : Int) + 1 <= ((16 : Nat) : Int); omega⟩).trans (by rw [show (((W % 16 : Nat) : Int) + 1).toNat = W % 16 + 1 by omega, Int.toNat_natCast])), sgn_cutZ (by omega)]
  have hj1 : ((j + 1 : Nat) : Int) - 1 = ((j : Nat) : Int) := by omega
  simp (disch := first | exact qD9 | fail) only [qG7, Nat.reduceAdd, Nat.reduceLeDiff, Int.reduceToNat, Int.reduceAdd, Int.reduceSub, Int.reduceLT, Int.reduceLE, Nat.reduceSub, Nat.reduceMul, Nat.reduceEqDiff, joinBR, hmd, hq, hs, hcut, hj1]
  refine hex14_spec j (W / 16) (by omega) (by omega) _ _ fun w' hx => ?_
  have hl := hexL_len j (W / 16)
  have hadd := addS (a := hexL j (W / 16)) (b := [hd (W % 16)]) (by simp; omega)
  simp (disch := first | exact qD9 | fail) only [qG7, Nat.reduceAdd, Nat.reduceLeDiff, Int.reduceToNat, Int.reduceAdd, Int.reduceSub, Int.reduceLT, Int.reduceLE, Nat.reduceSub, Nat.reduceMul, Nat.reduceEqDiff, hadd]
  rw [hexL_back] at hK
  exact hK _ (Ext.refl.drew.trans hx (by simp))
end Go.Proofs.YtobkjnmdbkieeaaGreatDoor
