/- Texts of the proof, joined: OctPlain, OctPlain2, ValPlain, SchPlain, ValPlain2, SynPlain, Base, Bytes, Laws, Open, Reps, Laws2. -/
import Derived.Lib.BitFns
import Derived.Test.YtnbmpfdffoidaaaGreatDoorRows
import Derived.WalkKit
import Derived.WalkSpells
import Derived.WalkLawsBesides
import Derived.Below
import Derived.Lib.Hide
import Derived.Deep.Draws
import Derived.Laws.OwnMore
import Derived.Deep.AppendLies
import Derived.Laws.CopyOwn
import Derived.Maps.AppendAt
import Derived.OwnWalk
import Derived.Laws.BitsAllLaws
import Derived.Laws.BitsLemmas
import Derived.Lib.AppendStr
import Derived.Laws.MakeOwn
import Derived.Laws.IdiomStrings
import Derived.Laws.BytesString
import Derived.ProofKit
import Derived.OpenShut
import Derived.Deep.Slices
import Derived.Deep.Fields
import Derived.ChangeSame
set_option linter.unusedVariables false
set_option linter.unusedSimpArgs false
set_option maxHeartbeats 8000000
set_option maxRecDepth 100000
namespace Go.Proofs.YtnbmpfdffoidaaaGreatDoor.O
open Go
def uintL (n : Nat) : List UInt8 := if n < 128 then [UInt8.ofNat n] else UInt8.ofNat (n % 128 + 128) :: uintL (n / 128)
termination_by n
decreasing_by omega
def sizeN (n : Nat) : Nat := (max (Lib.bitLen n) 1 + 6) / 7
def zig (n : Int) : Nat := if 0 ≤ n then (2 * n).toNat else (-2 * n - 1).toNat
def textL (l : List UInt8) : List UInt8 := uintL l.length ++ l
def wordL (n : Nat) : List UInt8 := [UInt8.ofNat (n / 16777216 % 256), UInt8.ofNat (n / 65536 % 256), UInt8.ofNat (n / 256 % 256), UInt8.ofNat (n % 256)]
end Go.Proofs.YtnbmpfdffoidaaaGreatDoor.O
namespace Go.Proofs.YtnbmpfdffoidaaaGreatDoor.O
open Go
def fst128 : List UInt8 → Option Nat
 | [] => none
 | c :: l => if c.toNat < 128 then some 0 else (fst128 l).map (· + 1)
def valN : List UInt8 → Nat
 | [] => 0
 | c :: l => c.toNat % 128 + 128 * valN l
def getU (l : List UInt8) : Option (Nat × Nat) :=
 match fst128 l with
 | none => none
 | some i => if 10 ≤ i ∨ ((l.getD i 0).toNat = 0 ∧ 0 < i) ∨ (i = 9 ∧ 1 < (l.getD i 0).toNat) then none else some (valN (l.take (i + 1)), i + 1)
def Big (q : List UInt8) : Prop := ∀ a ∈ q, 128 ≤ a.toNat
theorem Big.tail {a : UInt8} {q : List UInt8} (h : Big (a :: q)) : Big q := fun x hx => h x (by simp [hx])
theorem Big.head {a : UInt8} {q : List UInt8} (h : Big (a :: q)) : 128 ≤ a.toNat := h a (by simp)
def getUAt (l : List UInt8) (at_ : Int) : Option (Nat × Nat) := if 0 ≤ at_ ∧ at_ ≤ l.length then getU (l.drop at_.toNat) else none
def zag (u : Nat) : Int := if u % 2 = 1 then -((u / 2 : Nat) : Int) - 1 else ((u / 2 : Nat) : Int)
def getTAt (l : List UInt8) (at_ most : Int) : Option (List UInt8 × Nat) :=
 match getUAt l at_ with
 | none => none
 | some (n, k) => if most < 0 ∨ most < n ∨ (l.length : Int) - at_ - k < n then none else some ((l.drop (at_.toNat + k)).take n, k + n)
end Go.Proofs.YtnbmpfdffoidaaaGreatDoor.O
namespace Go.Proofs.YtnbmpfdffoidaaaGreatDoor.V
open Go O
structure Val where
 k : Int
 n : Int
 s : List UInt8
theorem Val.same {a b : Val} (h1 : a.k = b.k) (h2 : a.n = b.n) (h3 : a.s = b.s) : a = b := by cases a; cases b; simp_all
def okC (c : UInt8) : Bool := decide (32 ≤ c.toNat) && decide (c.toNat ≤ 126)
def plainL (s : List UInt8) : Bool := s.all okC && decide (s.length ≤ 32)
def right (v : Val) : Bool := if v.k = 1 then v.s.isEmpty else if v.k = 2 then v.s.isEmpty && (v.n == 0 || v.n == 1) else if v.k = 3 then v.n == 0 && plainL v.s else false
theorem right_cases {v : Val} (h : right v = true) : (v.k = 1 ∧ v.s = []) ∨ (v.k = 2 ∧ v.s = [] ∧ (v.n = 0 ∨ v.n = 1)) ∨ (v.k = 3 ∧ v.n = 0 ∧ plainL v.s = true) := by
 unfold right at h
 split at h
 ·exact .inl ⟨by assumption, by simpa using h⟩
 ·split at h
  ·simp at h; exact .inr (.inl ⟨by assumption, h⟩)
  ·split at h
   ·simp at h; exact .inr (.inr ⟨by assumption, h⟩)
   ·cases h
def cmpI (a b : Int) : Int := if a < b then -1 else if b < a then 1 else 0
def cmpL : List UInt8 → List UInt8 → Int
 | [], [] => 0
 | [], _ :: _ => -1
 | _ :: _, [] => 1
 | a :: x, b :: y => if a.toNat < b.toNat then -1 else if b.toNat < a.toNat then 1 else cmpL x y
def or3 (x y z : Int) : Int := if x ≠ 0 then x else if y ≠ 0 then y else z
def cmpV (a b : Val) : Int := or3 (cmpI a.k b.k) (cmpI a.n b.n) (cmpL a.s b.s)
def putV (v : Val) : List UInt8 := if right v then UInt8.ofNat v.k.toNat :: (if v.k = 1 then uintL (zig v.n) else if v.k = 2 then [UInt8.ofNat v.n.toNat] else textL v.s) else []
def getV (l : List UInt8) (x : Int) : Option (Val × Nat) :=
 if 0 ≤ x ∧ x < l.length then
  if (l.getD x.toNat 0).toNat = 1 then (match getUAt l (x + 1) with | none => none | some (u, k) => some (⟨1, zag u, []⟩, k + 1))
  else if (l.getD x.toNat 0).toNat = 2 then (if x + 1 < l.length ∧ (l.getD (x.toNat + 1) 0).toNat ≤ 1 then some (⟨2, (l.getD (x.toNat + 1) 0).toNat, []⟩, 2) else none)
  else if (l.getD x.toNat 0).toNat = 3 then (match getTAt l (x + 1) 32 with | none => none | some (s, k) => if plainL s then some (⟨3, 0, s⟩, k + 1) else none)
  else none
 else none
theorem plain_len {s : List UInt8} (h : plainL s = true) : s.length ≤ 32 := by unfold plainL at h; simp at h; exact h.2
end Go.Proofs.YtnbmpfdffoidaaaGreatDoor.V
namespace Go.Proofs.YtnbmpfdffoidaaaGreatDoor.S
open Go O V
def words : List (List UInt8) := [[116, 97, 98, 108, 101], [114, 111, 119, 115], [112, 114, 111, 99], [108, 101, 116], [105, 102], [101, 108, 115, 101], [108, 111, 111, 112], [101, 97, 99, 104], [105, 110], [102, 114, 111, 109], [116, 111], [109, 97, 120], [114, 111, 108, 108, 98, 97, 99, 107], [101, 109, 105, 116], [100, 101, 108], [104, 97, 115], [115, 117, 109], [99, 111, 117, 110, 116], [105, 110, 116], [98, 111, 111, 108], [116, 101, 120, 116], [116, 114, 117, 101], [102, 97, 108, 115, 101]]
def isWordL (s : List UInt8) : Bool := words.any fun w => s == w
def smallC (c : UInt8) : Bool := decide (97 ≤ c.toNat) && decide (c.toNat ≤ 122)
def otherC (c : UInt8) : Bool := decide (c.toNat = 95) || (decide (48 ≤ c.toNat) && decide (c.toNat ≤ 57))
def restC (c : UInt8) : Bool := smallC c || otherC c
def goodL : List UInt8 → Bool
 | [] => true
 | c :: r => smallC c && r.all restC
def isNameL (s : List UInt8) : Bool := goodL s && (decide (1 ≤ s.length) && decide (s.length ≤ 16)) && !isWordL s
theorem goodL_snoc : ∀ (l : List UInt8) (c : UInt8), goodL (l ++ [c]) = (goodL l && if l.length = 0 then smallC c else restC c)
 | [], c => by simp [goodL]
 | d :: l, c => by simp [goodL, Bool.and_assoc]
theorem goodL_append : ∀ (l m : List UInt8), goodL (l ++ m) = true → goodL l = true
 | [], _, _ => rfl
 | d :: l, m, h => by simp [goodL] at h ⊢; exact ⟨h.1, h.2.1⟩
theorem good_step {s : List UInt8} {k : Nat} (h : k < s.length) (hg : goodL (s.take k) = true) : goodL (s.take (k + 1)) = if k = 0 then smallC s[k] else restC s[k] := by
 rw [List.take_succ_eq_append_getElem h, goodL_snoc, hg, List.length_take, Nat.min_eq_left (Nat.le_of_lt h)]
 simp
theorem good_no {s : List UInt8} {k : Nat} (h : goodL (s.take k) = false) : goodL s = false := by
 cases hs : goodL s
 ·rfl
 ·rw [← List.take_append_drop k s] at hs
  rw [goodL_append _ _ hs] at h
  cases h
theorem isNameL_no {s : List UInt8} {k : Nat} (h : goodL (s.take k) = false) : isNameL s = false := by rw [isNameL, good_no h]; rfl
theorem name_len {s : List UInt8} (h : isNameL s = true) : 1 ≤ s.length ∧ s.length ≤ 16 := by
 unfold isNameL at h
 simp only [Bool.and_eq_true, decide_eq_true_eq] at h
 exact h.1.2
end Go.Proofs.YtnbmpfdffoidaaaGreatDoor.S
namespace Go.Proofs.YtnbmpfdffoidaaaGreatDoor.V
open Go O
def digN (n : Nat) : List UInt8 := if n < 10 then [UInt8.ofNat (48 + n)] else digN (n / 10) ++ [UInt8.ofNat (48 + n % 10)]
termination_by n
decreasing_by omega
theorem digN_lt {n : Nat} (h : n < 10) : digN n = [UInt8.ofNat (48 + n)] := by rw [digN, if_pos h]
theorem digN_ge {n : Nat} (h : 10 ≤ n) : digN n = digN (n / 10) ++ [UInt8.ofNat (48 + n % 10)] := by rw [digN, if_neg (by omega)]
theorem digN_len : ∀ (f n : Nat), n < 10 ^ (f + 1) → (digN n).length ≤ f + 1
 | 0, n, h => by rw [digN_lt (by simpa using h)]; simp
 | f + 1, n, h => by
  by_cases g : n < 10
  ·rw [digN_lt g]; simp
  ·rw [digN_ge (by omega)]
   have := digN_len f (n / 10) (by rw [Nat.pow_succ] at h; omega)
   simp; omega
theorem digN_len20 (n : Nat) (h : n < 18446744073709551616) : (digN n).length ≤ 20 := digN_len 19 n (by omega)
def decL (n : Int) : List UInt8 := if n < 0 then 45 :: digN n.natAbs else digN n.natAbs
def esc (c : UInt8) : List UInt8 := if c.toNat = 34 ∨ c.toNat = 92 then [92, c] else [c]
def escL (s : List UInt8) : List UInt8 := s.flatMap esc
theorem escL_snoc (s : List UInt8) (c : UInt8) : escL (s ++ [c]) = escL s ++ esc c := by simp [escL]
theorem escL_len (s : List UInt8) : (escL s).length ≤ 2 * s.length := by
 induction s with
 | nil => simp [escL]
 | cons c s ih =>
  have : (esc c).length ≤ 2 := by unfold esc; split <;> simp
  have e : escL (c :: s) = esc c ++ escL s := by simp [escL]
  rw [e]; simp; omega
def quoteL (s : List UInt8) : List UInt8 := 34 :: escL s ++ [34]
def printV (v : Val) : List UInt8 := if right v then (if v.k = 1 then decL v.n else if v.k = 2 then (if v.n = 1 then [116, 114, 117, 101] else [102, 97, 108, 115, 101]) else quoteL v.s) else []
end Go.Proofs.YtnbmpfdffoidaaaGreatDoor.V
namespace Go.Proofs.YtnbmpfdffoidaaaGreatDoor.Y
open O V S
abbrev Tok := Int × List UInt8 × Val
inductive Ex where
 | val (v : Val)
 | var (name : List UInt8)
 | cell (name col : List UInt8) (k : Ex)
 | has (name : List UInt8) (k : Ex)
 | sum (name col : List UInt8) (a b : Ex)
 | cnt (name : List UInt8) (a b : Ex)
 | un (op : Nat) (a : Ex)
 | bin (op : Nat) (a b : Ex)
mutual
inductive St where
 | let_ (name : List UInt8) (e : Ex)
 | set (name : List UInt8) (e : Ex)
 | put (table col : List UInt8) (k e : Ex)
 | del (table : List UInt8) (k : Ex)
 | if_ (e : Ex) (body els : Sts)
 | loop (n : Int) (name : List UInt8) (body : Sts)
 | each (name table : List UInt8) (lo hi : Ex) (n : Int) (body : Sts)
 | roll
 | emit (e : Ex)
inductive Sts where
 | nil
 | cons (s : St) (r : Sts)
end
structure Cl where
 name : List UInt8
 k : Int
 m : Int
structure Tb where
 name : List UInt8
 rows : Int
 cols : List Cl
structure Pc where
 name : List UInt8
 params : List Cl
 body : Sts
structure Wk where
 tables : List Tb
 procs : List Pc
def w_true : List UInt8 := [116, 114, 117, 101]
def w_false : List UInt8 := [102, 97, 108, 115, 101]
def w_let : List UInt8 := [108, 101, 116]
def w_del : List UInt8 := [100, 101, 108]
def w_if : List UInt8 := [105, 102]
def w_else : List UInt8 := [101, 108, 115, 101]
def w_loop : List UInt8 := [108, 111, 111, 112]
def w_each : List UInt8 := [101, 97, 99, 104]
def w_rollback : List UInt8 := [114, 111, 108, 108, 98, 97, 99, 107]
def w_emit : List UInt8 := [101, 109, 105, 116]
def w_in : List UInt8 := [105, 110]
def w_from : List UInt8 := [102, 114, 111, 109]
def w_to : List UInt8 := [116, 111]
def w_max : List UInt8 := [109, 97, 120]
def w_has : List UInt8 := [104, 97, 115]
def w_sum : List UInt8 := [115, 117, 109]
def w_count : List UInt8 := [99, 111, 117, 110, 116]
def w_table : List UInt8 := [116, 97, 98, 108, 101]
def w_proc : List UInt8 := [112, 114, 111, 99]
def w_rows : List UInt8 := [114, 111, 119, 115]
def w_int : List UInt8 := [105, 110, 116]
def w_bool : List UInt8 := [98, 111, 111, 108]
def w_text : List UInt8 := [116, 101, 120, 116]
def zv : Val := ⟨0, 0, []⟩
def binS (s : List UInt8) : Nat × Nat :=
 if s = [124, 124] then (1, 1) else if s = [38, 38] then (2, 2) else if s = [61, 61] then (3, 3) else if s = [33, 61] then (4, 3) else if s = [60] then (5, 3) else if s = [60, 61] then (6, 3) else if s = [43] then (7, 4) else if s = [45] then (8, 4) else if s = [43, 43] then (9, 4) else if s = [42] then (10, 5) else if s = [47] then (11, 5) else if s = [37] then (12, 5) else (0, 0)
def signS : Nat → List UInt8
 | 1 => [124, 124]
 | 2 => [38, 38]
 | 3 => [61, 61]
 | 4 => [33, 61]
 | 5 => [60]
 | 6 => [60, 61]
 | 7 => [43]
 | 8 => [45]
 | 9 => [43, 43]
 | 10 => [42]
 | 11 => [47]
 | 12 => [37]
 | _ => []
def lvlS : Nat → Nat
 | 1 => 1
 | 2 => 2
 | 3 => 3
 | 4 => 3
 | 5 => 3
 | 6 => 3
 | 7 => 4
 | 8 => 4
 | 9 => 4
 | 10 => 5
 | 11 => 5
 | 12 => 5
 | _ => 0
inductive Res (α : Type) where
 | ok (a : α) (l : List Tok)
 | bad
 | oof
def Res.bind {α β : Type} : Res α → (α → List Tok → Res β) → Res β
 | .ok a l, f => f a l
 | .bad, _ => .bad
 | .oof, _ => .oof
def isT (l : List Tok) (s : List UInt8) : Bool := match l with
 | [] => false
 | t :: _ => decide (t.2.1 = s) && decide (t.1 ≠ 3)
def want (l : List Tok) (s : List UInt8) : Res Unit := if isT l s then .ok () l.tail else .bad
def isN (l : List Tok) : Bool := match l with
 | [] => false
 | t :: _ => decide (t.1 = 1) && isNameL t.2.1
def pName (l : List Tok) : Res (List UInt8) := match l with
 | [] => .bad
 | t :: r => if t.1 = 1 ∧ isNameL t.2.1 = true then .ok t.2.1 r else .bad
def pNum (l : List Tok) : Res Int := match l with
 | [] => .bad
 | t :: r => if t.1 = 2 then .ok t.2.2.n r else .bad
def room (n most : Nat) (l : List Tok) : Res Unit := if most ≤ n then .bad else .ok () l
def around {α : Type} (a b : List UInt8) (d : Nat) (l : List Tok) (k : Nat → List Tok → Res α) : Res α :=
 if isT l a then (if d = 16 then .bad else (k (d + 1) l.tail).bind fun x r => (want r b).bind fun _ r => .ok x r) else .bad
def opT (l : List Tok) : Nat × Nat := match l with
 | [] => (0, 0)
 | t :: _ => if t.1 = 4 then binS t.2.1 else (0, 0)
def pLit (l : List Tok) : Option Val := match l with
 | [] => none
 | t :: _ => if t.1 = 1 ∧ t.2.1 = w_true then some ⟨2, 1, []⟩ else if t.1 = 1 ∧ t.2.1 = w_false then some ⟨2, 0, []⟩ else if t.1 = 2 ∨ t.1 = 3 then some t.2.2 else none
mutual
def pExpr : Nat → Nat → Nat → List Tok → Res Ex
 | 0, _, _, _ => .oof
 | f + 1, lvl, d, l => (pUnary f d l).bind fun x r => pLoop f lvl d x r
def pLoop : Nat → Nat → Nat → Ex → List Tok → Res Ex
 | 0, _, _, _, _ => .oof
 | f + 1, lvl, d, x, l => if (opT l).2 ≤ lvl then .ok x l else (pExpr f (opT l).2 d l.tail).bind fun y r => pLoop f lvl d (.bin (opT l).1 x y) r
def pUnary : Nat → Nat → List Tok → Res Ex
 | 0, _, _ => .oof
 | f + 1, d, l =>
  if isT l [33] then (if d = 16 then .bad else (pUnary f (d + 1) l.tail).bind fun x r => .ok (.un 13 x) r)
  else if isT l [45] then (if d = 16 then .bad else (pUnary f (d + 1) l.tail).bind fun x r => .ok (.un 14 x) r)
  else pOperand f d l
def pOperand : Nat → Nat → List Tok → Res Ex
 | 0, _, _ => .oof
 | f + 1, d, l => match pLit l with
  | some v => .ok (.val v) l.tail
  | none =>
   if isT l [40] then around [40] [41] d l fun d r => pExpr f 0 d r
   else if isT l w_has then around [40] [41] d l.tail fun d r => (pName r).bind fun n r => (want r [44]).bind fun _ r => (pExpr f 0 d r).bind fun a r => .ok (.has n a) r
   else if isT l w_sum then around [40] [41] d l.tail fun d r => (pName r).bind fun n r => (want r [46]).bind fun _ r => (pName r).bind fun c r => (want r [44]).bind fun _ r => (pExpr f 0 d r).bind fun a r => (want r [44]).bind fun _ r => (pExpr f 0 d r).bind fun b r => .ok (.sum n c a b) r
   else if isT l w_count then around [40] [41] d l.tail fun d r => (pName r).bind fun n r => (want r [44]).bind fun _ r => (pExpr f 0 d r).bind fun a r => (want r [44]).bind fun _ r => (pExpr f 0 d r).bind fun b r => .ok (.cnt n a b) r
   else (pName l).bind fun n r => if isT r [91] then (around [91] [93] d r fun d r => pExpr f 0 d r).bind fun k r => (want r [46]).bind fun _ r => (pName r).bind fun c r => .ok (.cell n c k) r else .ok (.var n) r
end
def pKey (f d : Nat) (l : List Tok) : Res Ex := around [91] [93] d l fun d r => pExpr f 0 d r
def pLine (f d : Nat) (l : List Tok) : Res Ex := (pExpr f 0 d l).bind fun x r => (want r [59]).bind fun _ r => .ok x r
def Sts.snoc : Sts → St → Sts
 | .nil, s => .cons s .nil
 | .cons a r, s => .cons a (r.snoc s)
def Sts.len : Sts → Nat
 | .nil => 0
 | .cons _ r => r.len + 1
mutual
def pStmt : Nat → Nat → List Tok → Res St
 | 0, _, _ => .oof
 | f + 1, d, l =>
  if isT l w_let then (pName l.tail).bind fun n r => (want r [61]).bind fun _ r => (pLine f d r).bind fun x r => .ok (.let_ n x) r
  else if isT l w_del then (pName l.tail).bind fun n r => (pKey f d r).bind fun x r => (want r [59]).bind fun _ r => .ok (.del n x) r
  else if isT l w_if then (pExpr f 0 d l.tail).bind fun x r => (pBlock f d r).bind fun b r => if isT r w_else then (pBlock f d r.tail).bind fun e r => .ok (.if_ x b e) r else .ok (.if_ x b .nil) r
  else if isT l w_loop then (pNum l.tail).bind fun k r => (pName r).bind fun n r => (pBlock f d r).bind fun b r => .ok (.loop k n b) r
  else if isT l w_each then (pName l.tail).bind fun n r => (want r w_in).bind fun _ r => (pName r).bind fun t r => (want r w_from).bind fun _ r => (pExpr f 0 d r).bind fun lo r => (want r w_to).bind fun _ r => (pExpr f 0 d r).bind fun hi r => (want r w_max).bind fun _ r => (pNum r).bind fun k r => (pBlock f d r).bind fun b r => .ok (.each n t lo hi k b) r
  else if isT l w_rollback then (want l.tail [59]).bind fun _ r => .ok .roll r
  else if isT l w_emit then (pLine f d l.tail).bind fun x r => .ok (.emit x) r
  else (pName l).bind fun n r => if isT r [91] then (pKey f d r).bind fun k r => (want r [46]).bind fun _ r => (pName r).bind fun c r => (want r [61]).bind fun _ r => (pLine f d r).bind fun x r => .ok (.put n c k x) r
   else (want r [61]).bind fun _ r => (pLine f d r).bind fun x r => .ok (.set n x) r
def pBlock : Nat → Nat → List Tok → Res Sts
 | 0, _, _ => .oof
 | f + 1, d, l => around [123] [125] d l fun d r => pStmts f d .nil r
def pStmts : Nat → Nat → Sts → List Tok → Res Sts
 | 0, _, _, _ => .oof
 | f + 1, d, a, l => if l = [] ∨ isT l [125] = true then .ok a l else (room a.len 24 l).bind fun _ r => (pStmt f d r).bind fun s r => pStmts f d (a.snoc s) r
end
def pTyp (l : List Tok) : Res (Int × Int) :=
 if isT l w_int then .ok (1, 0) l.tail else if isT l w_bool then .ok (2, 0) l.tail
 else (want l w_text).bind fun _ r => (pNum r).bind fun k r => if 1 ≤ k ∧ k ≤ 32 then .ok (3, k) r else .bad
def pCol (l : List Tok) : Res Cl := (pName l).bind fun n r => (pTyp r).bind fun t r => .ok ⟨n, t.1, t.2⟩ r
def pCols : Nat → List Cl → List Tok → Res (List Cl)
 | 0, _, _ => .oof
 | f + 1, a, l => if isT l [125] then .ok a l.tail else (if isN l then room a.length 8 l else .ok () l).bind fun _ r => (pCol r).bind fun c r => (want r [59]).bind fun _ r => pCols f (a ++ [c]) r
def pTable (f : Nat) (l : List Tok) : Res Tb := (want l w_table).bind fun _ r => (pName r).bind fun n r => (want r w_rows).bind fun _ r => (pNum r).bind fun k r => (want r [123]).bind fun _ r => (pCols f [] r).bind fun c r => .ok ⟨n, k, c⟩ r
def pParams : Nat → List Cl → List Tok → Res (List Cl)
 | 0, _, _ => .oof
 | f + 1, a, l => if isT l [44] then (if isN l.tail then room a.length 6 l.tail else .ok () l.tail).bind fun _ r => (pCol r).bind fun c r => pParams f (a ++ [c]) r else .ok a l
def pProc (f : Nat) (l : List Tok) : Res Pc := (want l w_proc).bind fun _ r => (pName r).bind fun n r => (want r [40]).bind fun _ r =>
 (if isT r [41] then .ok [] r else (pCol r).bind fun c r => pParams f [c] r).bind fun ps r => (want r [41]).bind fun _ r => (pBlock f 0 r).bind fun b r => .ok ⟨n, ps, b⟩ r
def pTables : Nat → List Tb → List Tok → Res (List Tb)
 | 0, _, _ => .oof
 | f + 1, a, l => if isT l w_table then (room a.length 8 l).bind fun _ r => (pTable f r).bind fun t r => pTables f (a ++ [t]) r else .ok a l
def pProcs : Nat → List Pc → List Tok → Res (List Pc)
 | 0, _, _ => .oof
 | f + 1, a, l => if isT l w_proc then (room a.length 8 l).bind fun _ r => (pProc f r).bind fun t r => pProcs f (a ++ [t]) r else .ok a l
def pWork (f : Nat) (l : List Tok) : Res Wk := (pTables f [] l).bind fun t r => (pProcs f [] r).bind fun p r => if r = [] then .ok ⟨t, p⟩ r else .bad
def tw (s : List UInt8) : Tok := (1, s, zv)
def tg (s : List UInt8) : Tok := (4, s, zv)
def tn (n : Int) : Tok := (2, decL n, ⟨1, n, []⟩)
def tv (v : Val) : Tok := if v.k = 1 then tn v.n else if v.k = 2 then tw (if v.n = 1 then w_true else w_false) else (3, quoteL v.s, v)
def lvlX : Ex → Nat
 | .bin op _ _ => lvlS op
 | .un _ _ => 6
 | _ => 7
def br (x : Ex) (least : Nat) (t : List Tok) : List Tok := if lvlX x < least then tg [40] :: (t ++ [tg [41]]) else t
def toks0 : Ex → List Tok
 | .val v => [tv v]
 | .var n => [tw n]
 | .cell n c k => tw n :: tg [91] :: (toks0 k ++ [tg [93], tg [46], tw c])
 | .has n k => tw w_has :: tg [40] :: tw n :: tg [44] :: (toks0 k ++ [tg [41]])
 | .sum n c a b => tw w_sum :: tg [40] :: tw n :: tg [46] :: tw c :: tg [44] :: (toks0 a ++ tg [44] :: (toks0 b ++ [tg [41]]))
 | .cnt n a b => tw w_count :: tg [40] :: tw n :: tg [44] :: (toks0 a ++ tg [44] :: (toks0 b ++ [tg [41]]))
 | .un op a => tg (if op = 13 then [33] else [45]) :: br a 6 (toks0 a)
 | .bin op a b => br a (lvlS op) (toks0 a) ++ tg (signS op) :: br b (lvlS op + 1) (toks0 b)
def toksX (x : Ex) (least : Nat) : List Tok := br x least (toks0 x)
def toksT (k m : Int) : List Tok := if k = 1 then [tw w_int] else if k = 2 then [tw w_bool] else [tw w_text, tn m]
def elsT : Sts → List Tok → List Tok
 | .nil, _ => []
 | _, t => tw w_else :: tg [123] :: (t ++ [tg [125]])
mutual
def toksS : St → List Tok
 | .let_ n e => tw w_let :: tw n :: tg [61] :: (toks0 e ++ [tg [59]])
 | .set n e => tw n :: tg [61] :: (toks0 e ++ [tg [59]])
 | .put t c k e => tw t :: tg [91] :: (toks0 k ++ tg [93] :: tg [46] :: tw c :: tg [61] :: (toks0 e ++ [tg [59]]))
 | .del t k => tw w_del :: tw t :: tg [91] :: (toks0 k ++ [tg [93], tg [59]])
 | .if_ e b els => tw w_if :: (toks0 e ++ (tg [123] :: (toksB b ++ [tg [125]]) ++ elsT els (toksB els)))
 | .loop k n b => tw w_loop :: tn k :: tw n :: tg [123] :: (toksB b ++ [tg [125]])
 | .each n t lo hi k b => tw w_each :: tw n :: tw w_in :: tw t :: tw w_from :: (toks0 lo ++ tw w_to :: (toks0 hi ++ tw w_max :: tn k :: tg [123] :: (toksB b ++ [tg [125]])))
 | .roll => [tw w_rollback, tg [59]]
 | .emit e => tw w_emit :: (toks0 e ++ [tg [59]])
def toksB : Sts → List Tok
 | .nil => []
 | .cons s r => toksS s ++ toksB r
end
def toksC (c : Cl) : List Tok := tw c.name :: toksT c.k c.m
def toksTb (t : Tb) : List Tok := tw w_table :: tw t.name :: tw w_rows :: tn t.rows :: tg [123] :: (t.cols.flatMap (fun c => toksC c ++ [tg [59]]) ++ [tg [125]])
def toksPs : List Cl → List Tok
 | [] => []
 | c :: r => toksC c ++ r.flatMap fun c => tg [44] :: toksC c
def toksP (p : Pc) : List Tok := tw w_proc :: tw p.name :: tg [40] :: (toksPs p.params ++ tg [41] :: tg [123] :: (toksB p.body ++ [tg [125]]))
def toksW (w : Wk) : List Tok := w.tables.flatMap toksTb ++ w.procs.flatMap toksP
end Go.Proofs.YtnbmpfdffoidaaaGreatDoor.Y
namespace Go.Proofs.YtnbmpfdffoidaaaGreatDoor
open Go.RowKit
theorem bthen {a b c : World} (h : Below a.heap.size a b) (k : Below b.heap.size b c) : Below a.heap.size a c := h.trans (k.mono h.size)
theorem ret_bool {a b : Bool} (h : a = b) : Ending.returned (.bool a) = .returned (.bool b) := by rw [h]
theorem acc {P : Program} {f : FuncId} {args : Array Value} {w0 w : World} {r : Ending} (hb : Below w0.heap.size w0 w)
  (h : Calls P f args w fun e w' => e = r ∧ Below w.heap.size w w') : Calls P f args w fun e w' => e = r ∧ Below w0.heap.size w0 w' :=
 h.mono fun _ _ ⟨he, k⟩ => ⟨he, bthen hb k⟩
end Go.Proofs.YtnbmpfdffoidaaaGreatDoor
namespace Go.Proofs.YtnbmpfdffoidaaaGreatDoor
open Go.RowKit
def bv (l : List UInt8) : List Value := l.map fun c => .int .u8 (c.toNat : Int)
@[simp] theorem bv_length (l : List UInt8) : (bv l).length = l.length := by simp [bv]
theorem bv_take (a : List UInt8) (k : Nat) : (bv a).take k = bv (a.take k) := by simp [bv, List.map_take]
theorem bv_drop (a : List UInt8) (k : Nat) : (bv a).drop k = bv (a.drop k) := by simp [bv, List.map_drop]
def Rd (w : World) (B size : Nat) (A : Option Addr) (n : Nat) (xs : List Value) : Prop :=
 xs.length = n * size ∧ (0 < xs.length → ∃ b off, A = some ⟨b, off, none⟩ ∧ b < B ∧ ∀ j, j < xs.length → w.cell? ⟨b, off + j, none⟩ = xs[j]?)
section
variable {w w' : World} {B B' size n : Nat} {A : Option Addr} {xs : List Value}
theorem Rd.nil_ : Rd w B size A 0 [] := ⟨by simp, fun h => absurd h (by simp)⟩
theorem Rd.keep (h : Rd w B size A n xs) (hk : ∀ p : Addr, p.block < B → w'.cell? p = w.cell? p) : Rd w' B size A n xs :=
 ⟨h.1, fun hn => by
  obtain ⟨b, off, e, hb, hc⟩ := h.2 hn
  exact ⟨b, off, e, hb, fun j hj => (hk _ hb).trans (hc j hj)⟩⟩
theorem Rd.more (h : Rd w B size A n xs) (hB : B ≤ B') : Rd w B' size A n xs :=
 ⟨h.1, fun hn => by
  obtain ⟨b, off, e, hb, hc⟩ := h.2 hn
  exact ⟨b, off, e, Nat.lt_of_lt_of_le hb hB, hc⟩⟩
theorem Rd.below (h : Rd w B size A n xs) (hb : Below B w w') : Rd w' B size A n xs := h.keep fun _ hp => hb.cell hp
theorem Rd.next (h : Rd w w.heap.size size A n xs) (hb : Below w.heap.size w w') : Rd w' w'.heap.size size A n xs := (h.below hb).more hb.size
theorem Rd.drew (h : Rd w B size A n xs) : Rd w.drew B size A n xs := h
theorem Rd.alloc (h : Rd w B size A n xs) (hB : B ≤ w.heap.size) (o : Obj) : Rd (w.alloc o) B size A n xs := h.keep fun p hp => World.cell?_alloc_lt w o p (by omega)
theorem Rd.setCell (h : Rd w B size A n xs) {p : Addr} (hB : B ≤ p.block) (u : Value) : Rd (w.setCell p u) B size A n xs :=
 h.keep fun q hq => World.cell?_setCell_other w p q u (fun e => by subst e; omega)
theorem Rd.of_own {base : Nat} {e : TypeId} {c : Nat} (h : w.ownsRow base e size (.slice A n c) n xs) : Rd w w.heap.size size A n xs := by
 refine ⟨h.1, fun hn => ?_⟩
 have hn0 : 0 < n := by
  rcases Nat.eq_zero_or_pos n with h0 | h0
  ·have := h.1; rw [h0] at this; omega
  ·exact h0
 obtain ⟨g, cap, hv, _, hlt⟩ := h.form hn0
 have hA : A = some ⟨g, 0, none⟩ := by injection hv
 refine ⟨g, 0, hA, hlt, fun j hj => ?_⟩
 have := h.cells (g := g) (by rw [hv]; rfl) j _ (List.getElem?_eq_getElem hj)
 rw [List.getElem?_eq_getElem hj, ← this]
 by_cases h0 : j = 0 <;> simp [Addr.add, h0]
theorem Rd.pos (h : Rd w B 1 A n xs) {k : Nat} (hk : k < n) : ∃ b off, A = some ⟨b, off, none⟩ ∧ b < B ∧ ∀ j, j < n → w.cell? ⟨b, off + j, none⟩ = xs[j]? := by
 have hl : xs.length = n := by have := h.1; omega
 obtain ⟨b, off, e, hb, hc⟩ := h.2 (by omega)
 exact ⟨b, off, e, hb, fun j hj => hc j (by omega)⟩
end
theorem Rd.take_ {w : World} {B n : Nat} {A : Option Addr} {l : List UInt8} (h : Rd w B 1 A n (bv l)) (k : Nat) : Rd w B 1 A (min n k) (bv (l.take k)) := by
 have hl : l.length = n := by have := h.1; simp at this; omega
 refine ⟨by simp; omega, fun hp => ?_⟩
 simp at hp
 obtain ⟨b, off, e, hb, hc⟩ := h.2 (by simp; omega)
 refine ⟨b, off, e, hb, fun j hj => ?_⟩
 simp at hj
 rw [hc j (by simp; omega), ← bv_take, List.getElem?_take, if_pos (by omega)]
theorem ba_append (a b : List UInt8) : (ByteArray.mk a.toArray) ++ (ByteArray.mk b.toArray) = ByteArray.mk (a ++ b).toArray := by
 apply ByteArray.ext
 simp
theorem Rd.from_ {w : World} {B n k : Nat} {A : Option Addr} {l : List UInt8} (h : Rd w B 1 A n (bv l)) (hk : k < n) : Rd w B 1 (A.map (·.add k)) (n - k) (bv (l.drop k)) := by
 have hl : l.length = n := by have := h.1; simp at this; omega
 obtain ⟨b, off, rfl, hb, hc⟩ := h.2 (by simp; omega)
 refine ⟨by simp; omega, fun _ => ⟨b, off + k, ?_, hb, fun j hj => ?_⟩⟩
 ·by_cases h0 : k = 0 <;> simp [Addr.add, h0]
 ·simp at hj
  rw [Nat.add_assoc, hc (k + j) (by simp; omega), ← bv_drop, List.getElem?_drop]
theorem Rd.mid {w : World} {B n k u : Nat} {A : Option Addr} {l : List UInt8} (h : Rd w B 1 A n (bv l)) (hk : k + u ≤ n) : Rd w B 1 (A.map (·.add k)) u (bv ((l.drop k).take u)) := by
 rcases Nat.eq_zero_or_pos u with rfl | hu
 ·exact Rd.nil_
 ·have := (h.from_ (k := k) (by omega)).take_ u
  rwa [Nat.min_eq_right (by omega)] at this
end Go.Proofs.YtnbmpfdffoidaaaGreatDoor
namespace Go.Proofs.YtnbmpfdffoidaaaGreatDoor
open Go.RowKit Go.Lib
def Elem (P : Program) (t e : TypeId) (size bytes : Nat) (z : Value) : Prop :=
 P.underlying t = some (.slice e) ∧ ∃ i, P.info? e = some i ∧ i.zero = some z ∧ i.size = size ∧ i.bytes = bytes ∧ z.cells.size = size ∧ 0 < size
section
variable {P : Program}
theorem run_app (w : World) {t e : TypeId} {size bytes : Nat} {z : Value} (hE : Elem P t e size bytes z) (ty : TypeId) (base : Nat) {A : Option Addr} {n c : Nat} {xs : List Value}
  (hown : w.ownsRow base e size (.slice A n c) n xs) {B m c' : Nat} {A' : Option Addr} {news : List Value} (hr : Rd w B size A' m news) (h1 : ∀ u ∈ news, u.oneCell' = true)
  (h63 : n + m ≤ maxLen) (hlim : (n + m) * bytes ≤ 140737488355328) (hbase : base ≤ w.heap.size) :
  ∃ A2 c2 w', (Builtin.append_ #[t, t] ty #[.slice A n c, .slice A' m c']).run P w = .ok (.slice A2 (n + m) c2) w' ∧ w'.ownsRow base e size (.slice A2 (n + m) c2) (n + m) (xs ++ news) ∧
   w.grownBy w' (Value.slice A n c).ownBlock ∧ ((Value.slice A2 (n + m) c2).ownBlock = (Value.slice A n c).ownBlock ∨ (Value.slice A2 (n + m) c2).ownBlock = some w.heap.size) := by
 obtain ⟨ht, i, hi, hz, hsize, hby, hzs, hsz⟩ := hE
 have fin : ∀ ad, A' = some ad → (∀ j u, news[j]? = some u → w.cell? (ad.add j) = some u) → ∃ A2 c2 w', (Builtin.append_ #[t, t] ty #[.slice A n c, .slice A' m c']).run P w = .ok (.slice A2 (n + m) c2) w' ∧
   w'.ownsRow base e size (.slice A2 (n + m) c2) (n + m) (xs ++ news) ∧ w.grownBy w' (Value.slice A n c).ownBlock ∧ ((Value.slice A2 (n + m) c2).ownBlock = (Value.slice A n c).ownBlock ∨ (Value.slice A2 (n + m) c2).ownBlock = some w.heap.size) := by
  rintro ad rfl hc
  obtain ⟨v', w', hrun, h2, h3, h4, h5⟩ := run_append_own_at (P := P) w base t ty e i z size bytes ht hi hz hsize hby hzs hsz _ n xs hown ad m c' news hr.1 hc h1 h63 hlim hbase
  rcases h2.2 with ⟨rfl, h0⟩ | ⟨g, cap, cur, rfl, _⟩
  ·have e0 : n + m = 0 := h0
   exact ⟨none, 0, w', by rw [hrun, e0], by rw [e0] at h2 ⊢; exact h2, h3, by rw [e0]; exact h5⟩
  ·exact ⟨_, _, w', hrun, h2, h3, h5⟩
 by_cases hm : 0 < news.length
 ·obtain ⟨b, off, rfl, _, hc⟩ := hr.2 hm
  refine fin _ rfl fun j u hu => ?_
  have hj : j < news.length := by
   rcases Nat.lt_or_ge j news.length with h | h
   ·exact h
   ·rw [List.getElem?_eq_none h] at hu; cases hu
  have := hc j hj
  rw [hu] at this
  by_cases h0 : j = 0
  ·subst h0; simpa [Addr.add] using this
  ·simpa [Addr.add, h0] using this
 ·have hn : news = [] := List.eq_nil_of_length_eq_zero (by omega)
  have hm0 : m = 0 := by
   have := hr.1
   rw [hn] at this
   rcases Nat.eq_zero_or_pos m with h | h
   ·exact h
   ·have := Nat.mul_pos h hsz; simp_all
  subst hm0 hn
  rcases A' with _ | ad
  ·have hrun : (Builtin.append_ #[t, t] ty #[.slice A n c, .slice none 0 c']).run P w = .ok (.slice A n c) w := by
    rcases hown.2 with ⟨hv, _⟩ | ⟨g, cap, cur, hv, _, _, hnc, _⟩
    ·rw [hv]
     simp [Builtin.append_, run_underlying ht, sizeOf, typeInfo, hi, Builtin.lenOf, Builtin.firstCells]
    ·rw [hv]
     simp [Builtin.append_, run_underlying ht, sizeOf, typeInfo, hi, Builtin.lenOf, Builtin.firstCells, hnc, storeCells]
   exact ⟨A, c, w, hrun, by simpa using hown, ⟨rfl, rfl, rfl, Nat.le_refl _, fun _ _ _ => rfl⟩, .inl rfl⟩
  ·exact fin ad rfl (fun j u hu => by simp at hu)
theorem wpList_app {w : World} {ops : Array Oper} {rest : List Oper} {o : Oper} {a : Act} {Q : Exit → Act → World → Prop} (hgd : o.guard = none) (s x : Operand) {t e : TypeId} {size bytes : Nat} {z : Value}
  (hE : Elem P t e size bytes z) (ho : o.op = .call { callee := .builtin .append, args := #[s, x], argTypes := #[t, t] })
  (base : Nat) {A : Option Addr} {n c : Nat} (xs : List Value) (hs : a.eval s = .slice A n c) (hown : w.ownsRow base e size (.slice A n c) n xs)
  {m c' : Nat} {A' : Option Addr} (hx : a.eval x = .slice A' m c') {B : Nat} (news : List Value) (hr : Rd w B size A' m news) (h1 : ∀ u ∈ news, u.oneCell' = true)
  (h63 : n + m ≤ maxLen) (hlim : (n + m) * bytes ≤ 140737488355328) (hbase : base ≤ w.heap.size)
  (h : ∀ A2 c2 w', w'.ownsRow base e size (.slice A2 (n + m) c2) (n + m) (xs ++ news) → w.grownBy w' (Value.slice A n c).ownBlock → ((Value.slice A2 (n + m) c2).ownBlock = (Value.slice A n c).ownBlock ∨ (Value.slice A2 (n + m) c2).ownBlock = some w.heap.size) →
   wpList P ops Q rest (a.put o.dst (.slice A2 (n + m) c2)) w') : wpList P ops Q (o :: rest) a w := by
 obtain ⟨A2, c2, w', hrun, h2, h3, h4⟩ := run_app (P := P) w hE o.type base hown (c' := c') hr h1 h63 hlim hbase
 refine wpList_plain hgd fun K hK => ?_
 unfold Oper.wp execOp
 simp only [ho, resolve, invoke, builtin, Sem.run_bind, Sem.run_pure, Result.andThen_ok, List.map_toArray, List.map_cons, List.map_nil, hs, hx, hrun]
 exact hK _ _ (h A2 c2 w' h2 h3 h4)
end
end Go.Proofs.YtnbmpfdffoidaaaGreatDoor
namespace Go.Proofs.YtnbmpfdffoidaaaGreatDoor
open Go.ChangeShapes Go.WideShapes Go.ChangeAt Go.RowKit
def IsB (W : World) (a : Option Addr) (len cap : Nat) (l : List UInt8) : Prop := Rd W W.heap.size 1 a len (bv l) ∧ len ≤ cap ∧ cap ≤ maxLen
theorem open_bytes {H : Type} {enc : TypeId × Value → H} {P : Program} {W : World} {base : Nat} {spare : Nat → Bool} {held : Bool} {r : Reach} {b0 : Nat} {t e : TypeId} {v : Value} {d : DataW H} {p : List MemPlace}
  (ht : P.underlying t = some (.slice e)) (he : P.underlying e = some (.int .u8)) (hc : P.cellsOf e = 1) (hv : Value.okWide P W r b0 t v) (h : DataW.Trod enc P W base spare held t v d p) :
  ∃ a len cap l, v = .slice a len cap ∧ IsB W a len cap l := by
 obtain ⟨a, len, cap, rfl⟩ := okWide_slice ht hv
 obtain ⟨fuel, hf⟩ := h
 rcases open_ints ht he hc hf with ⟨hcs, _⟩ | ⟨x, l, c, zs, hcs, _, hl, hm, hz, _, hcell, hwz⟩
 ·simp [Value.cells] at hcs
  obtain ⟨rfl, rfl, rfl⟩ := hcs
  exact ⟨none, 0, 0, [], rfl, Rd.nil_, Nat.le_refl _, Nat.zero_le _⟩
 ·simp [Value.cells] at hcs
  obtain ⟨rfl, rfl, rfl⟩ := hcs
  have hzl : len ≤ zs.length := by rw [hz]; split <;> omega
  refine ⟨some x, len, cap, (zs.take len).map fun n => UInt8.ofNat n.toNat, rfl, ⟨by simp; omega, fun hp => ?_⟩, hl, hm⟩
  have hp' : 0 < len := by simp at hp; omega
  have h0 := hcell 0 (by omega)
  obtain ⟨b, off, spot⟩ := x
  have hspot : spot = none := by simpa [Addr.add] using World.cell?_spot h0
  subst hspot
  refine ⟨b, off, rfl, by simpa [Addr.add] using World.block_lt_of_cell? W _ h0, fun j hj => ?_⟩
  have hj' : j < len := by simp at hj; omega
  have hjz : j < zs.length := by omega
  have hcj := hcell j hjz
  have hadd : (⟨b, off, none⟩ : Addr).add j = ⟨b, off + j, none⟩ := by
   by_cases h0 : j = 0 <;> simp [Addr.add, h0]
  rw [hadd] at hcj
  have hb := bounds_u8 (hwz zs[j] (List.getElem_mem hjz))
  rw [hcj]
  simp [bv, hj', hjz]
  omega
end Go.Proofs.YtnbmpfdffoidaaaGreatDoor
namespace Go.Proofs.YtnbmpfdffoidaaaGreatDoor
open Go.RowKit
def Reps {α : Type} (rep : α → List Value → Prop) : List α → List Value → Prop
 | [], xs => xs = []
 | a :: l, xs => ∃ vs ys, xs = vs ++ ys ∧ rep a vs ∧ Reps rep l ys
section
variable {α : Type} {rep rep' : α → List Value → Prop} {size : Nat}
theorem Reps.imp (hi : ∀ a vs, rep a vs → rep' a vs) : ∀ {l : List α} {xs : List Value}, Reps rep l xs → Reps rep' l xs
 | [], _, h => h
 | _ :: _, _, ⟨vs, ys, e, h, k⟩ => ⟨vs, ys, e, hi _ _ h, k.imp hi⟩
theorem Reps.append : ∀ {l : List α} {xs : List Value} {m : List α} {ys : List Value}, Reps rep l xs → Reps rep m ys → Reps rep (l ++ m) (xs ++ ys)
 | [], _, _, _, h, k => by simp only [Reps] at h; subst h; simpa using k
 | _ :: _, _, _, _, ⟨vs, zs, e, h, k'⟩, k => by subst e; exact ⟨vs, _, by rw [List.append_assoc], h, k'.append k⟩
theorem Reps.one {a : α} {vs : List Value} (h : rep a vs) : Reps rep [a] vs := ⟨vs, [], by simp, h, rfl⟩
theorem Reps.length (hs : ∀ a vs, rep a vs → vs.length = size) : ∀ {l : List α} {xs : List Value}, Reps rep l xs → xs.length = l.length * size
 | [], _, h => by simp only [Reps] at h; subst h; simp
 | _ :: l, _, ⟨vs, ys, e, h, k⟩ => by
  subst e
  rw [List.length_append, hs _ _ h, k.length hs, List.length_cons, Nat.succ_mul, Nat.add_comm]
theorem Reps.get (hs : ∀ a vs, rep a vs → vs.length = size) : ∀ {l : List α} {xs : List Value}, Reps rep l xs → ∀ i (hi : i < l.length), ∃ vs, rep l[i] vs ∧ ∀ j, j < size → xs[i * size + j]? = vs[j]?
 | [], _, _, i, hi => absurd hi (by simp)
 | _ :: _, _, ⟨vs, ys, e, h, k⟩, 0, _ => by
  subst e
  exact ⟨vs, h, fun j hj => by rw [Nat.zero_mul, Nat.zero_add, List.getElem?_append_left (by rw [hs _ _ h]; exact hj)]⟩
 | _ :: l, _, ⟨vs, ys, e, h, k⟩, i + 1, hi => by
  subst e
  obtain ⟨us, h1, h2⟩ := k.get hs i (by simpa using hi)
  refine ⟨us, h1, fun j hj => ?_⟩
  rw [List.getElem?_append_right (by rw [hs _ _ h, Nat.succ_mul]; omega), hs _ _ h, ← h2 j hj]
  congr 1
  rw [Nat.succ_mul]
  omega
theorem Reps.take (hs : ∀ a vs, rep a vs → vs.length = size) : ∀ {l : List α} {xs : List Value} (k : Nat), Reps rep l xs → Reps rep (l.take k) (xs.take (k * size))
 | [], _, k, h => by simp only [Reps] at h; subst h; simp [Reps]
 | _ :: _, _, 0, _ => by simp [Reps]
 | _ :: _, _, k + 1, ⟨vs, ys, e, h, q⟩ => by
  subst e
  refine ⟨vs, ys.take (k * size), ?_, h, q.take hs k⟩
  rw [List.take_append, hs _ _ h, List.take_of_length_le (by rw [hs _ _ h, Nat.succ_mul]; omega)]
  congr 2
  rw [Nat.succ_mul]
  omega
theorem Reps.drop (hs : ∀ a vs, rep a vs → vs.length = size) : ∀ {l : List α} {xs : List Value} (k : Nat), Reps rep l xs → Reps rep (l.drop k) (xs.drop (k * size))
 | [], _, k, h => by simp only [Reps] at h; subst h; simp [Reps]
 | _ :: _, _, 0, h => by simpa using h
 | _ :: _, _, k + 1, ⟨vs, ys, e, h, q⟩ => by
  subst e
  have := q.drop hs k
  have hz : vs.drop ((k + 1) * size) = [] := List.drop_of_length_le (by rw [hs _ _ h, Nat.succ_mul]; omega)
  rw [List.drop_succ_cons, List.drop_append, hs _ _ h, hz, List.nil_append]
  rwa [show (k + 1) * size - size = k * size by rw [Nat.succ_mul]; omega]
theorem Reps.all {p : Value → Prop} (hp : ∀ a vs, rep a vs → ∀ u ∈ vs, p u) : ∀ {l : List α} {xs : List Value}, Reps rep l xs → ∀ u ∈ xs, p u
 | [], _, h, u, hu => by simp only [Reps] at h; subst h; simp at hu
 | _ :: _, _, ⟨vs, ys, e, h, k⟩, u, hu => by
  subst e
  rcases List.mem_append.1 hu with h1 | h1
  ·exact hp _ _ h u h1
  ·exact k.all hp u h1
end
theorem Rd.elem {α : Type} {rep : α → List Value → Prop} {size : Nat} (hs : ∀ a vs, rep a vs → vs.length = size) {w : World} {B n : Nat} {A : Option Addr} {xs : List Value} {l : List α} (h : Rd w B size A n xs) (hr : Reps rep l xs)
  {i : Nat} (hi : i < l.length) (h0 : 0 < size) : ∃ b off vs, A = some ⟨b, off, none⟩ ∧ b < B ∧ rep l[i] vs ∧ ∀ j, j < size → w.cell? ⟨b, off + i * size + j, none⟩ = vs[j]? := by
 have hl := hr.length hs
 have hmul : (i + 1) * size ≤ l.length * size := Nat.mul_le_mul_right _ hi
 rw [Nat.succ_mul] at hmul
 obtain ⟨b, off, e, hb, hc⟩ := h.2 (by omega)
 obtain ⟨vs, h1, h2⟩ := hr.get hs i hi
 exact ⟨b, off, vs, e, hb, h1, fun j hj => by rw [Nat.add_assoc, hc _ (by omega), h2 j hj]⟩
theorem Rd.len_of {α : Type} {rep : α → List Value → Prop} {size : Nat} (hs : ∀ a vs, rep a vs → vs.length = size) {w : World} {B n : Nat} {A : Option Addr} {xs : List Value} {l : List α} (h : Rd w B size A n xs) (hr : Reps rep l xs) (h0 : 0 < size) : l.length = n := by
 have h1 := hr.length hs
 rw [h.1] at h1
 exact (Nat.eq_of_mul_eq_mul_right h0 h1).symm
section
open Go.ChangeShapes Go.WideShapes Go.ChangeAt Go.Deep
variable {H : Type} {enc : TypeId × Value → H} {P : Program} {W : World} {base : Nat} {spare : Nat → Bool} {held : Bool}
def Opens {α : Type} (enc : TypeId × Value → H) (P : Program) (W : World) (base : Nat) (spare : Nat → Bool) (held : Bool) (t : TypeId) (rep : α → List Value → Prop) : Prop :=
 ∀ fuel cs x, DataW.trod enc P W base spare held fuel t cs = some x → ∃ a, rep a cs
theorem opens_rows {α : Type} {rep : α → List Value → Prop} {size : Nat} (hs : ∀ a vs, rep a vs → vs.length = size) (h0 : 0 < size) {t e : TypeId} (ht : P.underlying t = some (.slice e)) (hC : P.cellsOf e = size) (hel : Opens enc P W base spare held e rep) :
  Opens enc P W base spare held t fun (l : List α) cs => ∃ A len cap xs, cs = [.slice A len cap] ∧ Rd W W.heap.size size A len xs ∧ Reps rep l xs ∧ len ≤ cap ∧ cap ≤ maxLen := by
 intro fuel cs x h
 rcases open_slice ht h with ⟨hcs, _⟩ | ⟨a, len, cap, m, n, D, Pl, hcs, hb, hl, hm, hmm, hx, hi⟩
 ·exact ⟨[], none, 0, 0, [], hcs, Rd.nil_, rfl, Nat.le_refl _, Nat.zero_le _⟩
 ·have hlm : len ≤ m := by rw [hmm]; split <;> omega
  rw [hC] at hi
  have each : ∀ k, k ≤ len → ∃ (l : List α) (xs : List Value), Reps rep l xs ∧ l.length = k ∧ ∀ j, j < k * size → W.cell? (a.add j) = xs[j]? := by
   intro k
   induction k with
   | zero => intro _; exact ⟨[], [], rfl, rfl, fun j hj => by simp at hj⟩
   | succ k ih =>
    intro hk
    obtain ⟨l, xs, h1, h2, h3⟩ := ih (by omega)
    obtain ⟨cs', hc, ht'⟩ := hi k (by omega)
    obtain ⟨y, hy⟩ := hel _ _ _ ht'
    obtain ⟨_, hcl, hat⟩ := World.cells?_some hc
    refine ⟨l ++ [y], xs ++ cs', h1.append (.one hy), by simp [h2], fun j hj => ?_⟩
    have hxl := h1.length hs
    rw [h2] at hxl
    rw [Nat.succ_mul] at hj
    by_cases hlt : j < k * size
    ·rw [h3 j hlt, List.getElem?_append_left (by omega)]
    ·rw [List.getElem?_append_right (by omega), hxl, ← hat (j - k * size) (by omega), Go.Deep.add_add]
     congr 2
     omega
  obtain ⟨l, xs, h1, h2, h3⟩ := each len (Nat.le_refl _)
  have hxl := h1.length hs
  rw [h2] at hxl
  refine ⟨l, some a, len, cap, xs, hcs, ⟨hxl, fun hp => ?_⟩, h1, hl, hm⟩
  have hc0 := h3 0 (by omega)
  rw [List.getElem?_eq_getElem hp] at hc0
  obtain ⟨b, off, spot⟩ := a
  have hspot : spot = none := by simpa [Addr.add] using World.cell?_spot hc0
  subst hspot
  refine ⟨b, off, rfl, by simpa [Addr.add] using World.block_lt_of_cell? W _ hc0, fun j hj => ?_⟩
  have hadd : (⟨b, off, none⟩ : Addr).add j = ⟨b, off + j, none⟩ := by
   by_cases h0 : j = 0 <;> simp [Addr.add, h0]
  rw [← hadd]
  exact h3 j (by omega)
theorem opens_int {t : TypeId} {k : IntKind} (ht : P.underlying t = some (.int k)) : Opens enc P W base spare held t fun (n : Int) cs => cs = [.int k n] ∧ (Lit.int k n).wf = true := by
 intro fuel cs x h
 obtain ⟨n, h1, _, h3⟩ := DataW.trod_int ht h
 exact ⟨n, h1, h3⟩
theorem opens_bool {t : TypeId} (ht : P.underlying t = some .bool) : Opens enc P W base spare held t fun (b : Bool) cs => cs = [.bool b] := by
 intro fuel cs x h
 obtain ⟨n, h1, _⟩ := DataW.trod_bool ht h
 exact ⟨n, h1⟩
theorem opens_string {t : TypeId} (ht : P.underlying t = some .string) : Opens enc P W base spare held t fun (s : List UInt8) cs => cs = [.string ⟨s.toArray⟩] ∧ s.length ≤ maxLen := by
 intro fuel cs x h
 obtain ⟨s, h1, _, h3⟩ := DataW.trod_string ht h
 refine ⟨s.data.toList, by rw [h1], ?_⟩
 rw [Array.length_toList]
 exact h3
theorem opens_bytes {t e : TypeId} (ht : P.underlying t = some (.slice e)) (he : P.underlying e = some (.int .u8)) (hc : P.cellsOf e = 1) :
  Opens enc P W base spare held t fun (l : List UInt8) cs => ∃ A len cap, cs = [.slice A len cap] ∧ IsB W A len cap l := by
 intro fuel cs x h
 obtain ⟨l, A, len, cap, xs, h1, h2, h3, h4, h5⟩ := opens_rows (rep := fun (n : Int) cs => cs = [.int .u8 n] ∧ (Lit.int .u8 n).wf = true) (size := 1) (by rintro _ _ ⟨rfl, _⟩; rfl) (by omega) ht hc (opens_int he) _ _ _ h
 refine ⟨l.map fun n => UInt8.ofNat n.toNat, A, len, cap, h1, ?_, h4, h5⟩
 have : xs = bv (l.map fun n => UInt8.ofNat n.toNat) := by
  clear h1 h2 h4 h5 h
  induction l generalizing xs with
  | nil => simp only [Reps] at h3; simp [h3, bv]
  | cons n l ih =>
   obtain ⟨vs, ys, rfl, ⟨rfl, hw⟩, k⟩ := h3
   rw [ih _ k]
   have hb := bounds_u8 hw
   simp [bv]
   omega
 rw [← this]
 exact h2
theorem opens_fields {t : TypeId} {fs : Array Field} {fuel : Nat} {cs : List Value} {x : DataW H × List MemPlace} (ht : P.underlying t = some (.struct fs)) (hone : oneCellFields P fs = true) (h : DataW.trod enc P W base spare held fuel t cs = some x) :
  cs.length = P.cellsOf t ∧ ∃ n, ∀ (j : Nat) (f : Field) (v : Value), fs[j]? = some f → cs[j]? = some v → ∃ y, DataW.trod enc P W base spare held n f.type [v] = some y := by
 obtain ⟨xs, n, _, _, hl, hlen, hf⟩ := DataW.trod_struct ht h
 refine ⟨hl, n, fun j f v hj hv => ?_⟩
 obtain ⟨ho, hk⟩ := hone_of hone j f hj
 have h1 := hf j f hj
 rw [ho, hk] at h1
 have hjl : j < fs.size := (Array.getElem?_eq_some_iff.1 hj).1
 obtain ⟨hjc, hvv⟩ := List.getElem?_eq_some_iff.1 hv
 rw [List.drop_eq_getElem_cons hjc, hvv, List.getElem?_eq_getElem (by omega)] at h1
 exact ⟨_, h1⟩
theorem open_rows_arg {α : Type} {rep : α → List Value → Prop} {size : Nat} (hs : ∀ a vs, rep a vs → vs.length = size) (h0 : 0 < size) {t e : TypeId} (ht : P.underlying t = some (.slice e)) (hC : P.cellsOf e = size) (hel : Opens enc P W base spare held e rep)
  {r : Reach} {b0 : Nat} {v : Value} {d : DataW H} {p : List MemPlace} (hv : Value.okWide P W r b0 t v) (h : DataW.Trod enc P W base spare held t v d p) : ∃ (l : List α) (A : Option Addr) (len cap : Nat) (xs : List Value), v = .slice A len cap ∧ Rd W W.heap.size size A len xs ∧ Reps rep l xs ∧ len ≤ cap ∧ cap ≤ maxLen := by
 obtain ⟨A, n, c, rfl⟩ := okWide_slice ht hv
 obtain ⟨fuel, hf⟩ := h
 obtain ⟨l, A', len, cap, xs, e, h1, h2, h3, h4⟩ := opens_rows hs h0 ht hC hel _ _ _ hf
 simp [Value.cells] at e
 obtain ⟨rfl, rfl, rfl⟩ := e
 exact ⟨l, _, _, _, xs, rfl, h1, h2, h3, h4⟩
end
end Go.Proofs.YtnbmpfdffoidaaaGreatDoor
namespace Go.Proofs.YtnbmpfdffoidaaaGreatDoor
open Go.RowKit Go.Lib
section
variable {P : Program}
theorem Rd.made (w : World) (cs : List Value) {e size n b : Nat} (hn : cs.length = n * size) (hb : b = w.heap.size) : Rd (w.alloc (.cells cs.toArray e)) (w.heap.size + 1) size (some ⟨b, 0, none⟩) n cs := by
 subst hb
 refine ⟨hn, fun _ => ⟨w.heap.size, 0, rfl, by omega, fun j hj => ?_⟩⟩
 rw [Nat.zero_add, cell_of_row _ w.heap.size j _ e _ (heap_alloc_new w _)]
 simp
end
end Go.Proofs.YtnbmpfdffoidaaaGreatDoor
