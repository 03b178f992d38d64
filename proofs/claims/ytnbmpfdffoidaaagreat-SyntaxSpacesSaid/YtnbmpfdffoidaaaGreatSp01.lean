/- Texts of the proof, joined: OctPlain, OctPlain2, ValPlain, SchPlain, ValPlain2, SynPlain, SynLaw, SynComp. -/
import Derived.Lib.BitFns
set_option linter.unusedVariables false
set_option linter.unusedSimpArgs false
set_option maxHeartbeats 8000000
set_option maxRecDepth 100000
namespace Go.Proofs.YtnbmpfdffoidaaaGreat.O
open Go
def uintL (n : Nat) : List UInt8 := if n < 128 then [UInt8.ofNat n] else UInt8.ofNat (n % 128 + 128) :: uintL (n / 128)
termination_by n
decreasing_by omega
def sizeN (n : Nat) : Nat := (max (Lib.bitLen n) 1 + 6) / 7
def zig (n : Int) : Nat := if 0 ≤ n then (2 * n).toNat else (-2 * n - 1).toNat
def textL (l : List UInt8) : List UInt8 := uintL l.length ++ l
def wordL (n : Nat) : List UInt8 := [UInt8.ofNat (n / 16777216 % 256), UInt8.ofNat (n / 65536 % 256), UInt8.ofNat (n / 256 % 256), UInt8.ofNat (n % 256)]
end Go.Proofs.YtnbmpfdffoidaaaGreat.O
namespace Go.Proofs.YtnbmpfdffoidaaaGreat.O
open Go
def fst128 : List UInt8 → Option Nat
 | [] => none
 | c :: l => if c.toNat < 128 then some 0 else (fst128 l).map (· + 1)
def valN : List UInt8 → Nat
 | [] => 0
 | c :: l => c.toNat % 128 + 128 * valN l
def getU (l : List UInt8) : Option (Nat × Nat) :=
 match fst128 l with
 | none => none
 | some i => if 10 ≤ i ∨ ((l.getD i 0).toNat = 0 ∧ 0 < i) ∨ (i = 9 ∧ 1 < (l.getD i 0).toNat) then none else some (valN (l.take (i + 1)), i + 1)
def Big (q : List UInt8) : Prop := ∀ a ∈ q, 128 ≤ a.toNat
theorem Big.tail {a : UInt8} {q : List UInt8} (h : Big (a :: q)) : Big q := fun x hx => h x (by simp [hx])
theorem Big.head {a : UInt8} {q : List UInt8} (h : Big (a :: q)) : 128 ≤ a.toNat := h a (by simp)
def getUAt (l : List UInt8) (at_ : Int) : Option (Nat × Nat) := if 0 ≤ at_ ∧ at_ ≤ l.length then getU (l.drop at_.toNat) else none
def zag (u : Nat) : Int := if u % 2 = 1 then -((u / 2 : Nat) : Int) - 1 else ((u / 2 : Nat) : Int)
def getTAt (l : List UInt8) (at_ most : Int) : Option (List UInt8 × Nat) :=
 match getUAt l at_ with
 | none => none
 | some (n, k) => if most < 0 ∨ most < n ∨ (l.length : Int) - at_ - k < n then none else some ((l.drop (at_.toNat + k)).take n, k + n)
end Go.Proofs.YtnbmpfdffoidaaaGreat.O
namespace Go.Proofs.YtnbmpfdffoidaaaGreat.V
open Go O
structure Val where
 k : Int
 n : Int
 s : List UInt8
theorem Val.same {a b : Val} (h1 : a.k = b.k) (h2 : a.n = b.n) (h3 : a.s = b.s) : a = b := by cases a; cases b; simp_all
def okC (c : UInt8) : Bool := decide (32 ≤ c.toNat) && decide (c.toNat ≤ 126)
def plainL (s : List UInt8) : Bool := s.all okC && decide (s.length ≤ 32)
def right (v : Val) : Bool := if v.k = 1 then v.s.isEmpty else if v.k = 2 then v.s.isEmpty && (v.n == 0 || v.n == 1) else if v.k = 3 then v.n == 0 && plainL v.s else false
theorem right_cases {v : Val} (h : right v = true) : (v.k = 1 ∧ v.s = []) ∨ (v.k = 2 ∧ v.s = [] ∧ (v.n = 0 ∨ v.n = 1)) ∨ (v.k = 3 ∧ v.n = 0 ∧ plainL v.s = true) := by
 unfold right at h
 split at h
 ·exact .inl ⟨by assumption, by simpa using h⟩
 ·split at h
  ·simp at h; exact .inr (.inl ⟨by assumption, h⟩)
  ·split at h
   ·simp at h; exact .inr (.inr ⟨by assumption, h⟩)
   ·cases h
def cmpI (a b : Int) : Int := if a < b then -1 else if b < a then 1 else 0
def cmpL : List UInt8 → List UInt8 → Int
 | [], [] => 0
 | [], _ :: _ => -1
 | _ :: _, [] => 1
 | a :: x, b :: y => if a.toNat < b.toNat then -1 else if b.toNat < a.toNat then 1 else cmpL x y
def or3 (x y z : Int) : Int := if x ≠ 0 then x else if y ≠ 0 then y else z
def cmpV (a b : Val) : Int := or3 (cmpI a.k b.k) (cmpI a.n b.n) (cmpL a.s b.s)
def putV (v : Val) : List UInt8 := if right v then UInt8.ofNat v.k.toNat :: (if v.k = 1 then uintL (zig v.n) else if v.k = 2 then [UInt8.ofNat v.n.toNat] else textL v.s) else []
def getV (l : List UInt8) (x : Int) : Option (Val × Nat) :=
 if 0 ≤ x ∧ x < l.length then
  if (l.getD x.toNat 0).toNat = 1 then (match getUAt l (x + 1) with | none => none | some (u, k) => some (⟨1, zag u, []⟩, k + 1))
  else if (l.getD x.toNat 0).toNat = 2 then (if x + 1 < l.length ∧ (l.getD (x.toNat + 1) 0).toNat ≤ 1 then some (⟨2, (l.getD (x.toNat + 1) 0).toNat, []⟩, 2) else none)
  else if (l.getD x.toNat 0).toNat = 3 then (match getTAt l (x + 1) 32 with | none => none | some (s, k) => if plainL s then some (⟨3, 0, s⟩, k + 1) else none)
  else none
 else none
theorem plain_len {s : List UInt8} (h : plainL s = true) : s.length ≤ 32 := by unfold plainL at h; simp at h; exact h.2
end Go.Proofs.YtnbmpfdffoidaaaGreat.V
namespace Go.Proofs.YtnbmpfdffoidaaaGreat.S
open Go O V
def words : List (List UInt8) := [[116, 97, 98, 108, 101], [114, 111, 119, 115], [112, 114, 111, 99], [108, 101, 116], [105, 102], [101, 108, 115, 101], [108, 111, 111, 112], [101, 97, 99, 104], [105, 110], [102, 114, 111, 109], [116, 111], [109, 97, 120], [114, 111, 108, 108, 98, 97, 99, 107], [101, 109, 105, 116], [100, 101, 108], [104, 97, 115], [115, 117, 109], [99, 111, 117, 110, 116], [105, 110, 116], [98, 111, 111, 108], [116, 101, 120, 116], [116, 114, 117, 101], [102, 97, 108, 115, 101]]
def isWordL (s : List UInt8) : Bool := words.any fun w => s == w
def smallC (c : UInt8) : Bool := decide (97 ≤ c.toNat) && decide (c.toNat ≤ 122)
def otherC (c : UInt8) : Bool := decide (c.toNat = 95) || (decide (48 ≤ c.toNat) && decide (c.toNat ≤ 57))
def restC (c : UInt8) : Bool := smallC c || otherC c
def goodL : List UInt8 → Bool
 | [] => true
 | c :: r => smallC c && r.all restC
def isNameL (s : List UInt8) : Bool := goodL s && (decide (1 ≤ s.length) && decide (s.length ≤ 16)) && !isWordL s
theorem goodL_snoc : ∀ (l : List UInt8) (c : UInt8), goodL (l ++ [c]) = (goodL l && if l.length = 0 then smallC c else restC c)
 | [], c => by simp [goodL]
 | d :: l, c => by simp [goodL, Bool.and_assoc]
theorem goodL_append : ∀ (l m : List UInt8), goodL (l ++ m) = true → goodL l = true
 | [], _, _ => rfl
 | d :: l, m, h => by simp [goodL] at h ⊢; exact ⟨h.1, h.2.1⟩
theorem good_step {s : List UInt8} {k : Nat} (h : k < s.length) (hg : goodL (s.take k) = true) : goodL (s.take (k + 1)) = if k = 0 then smallC s[k] else restC s[k] := by
 rw [List.take_succ_eq_append_getElem h, goodL_snoc, hg, List.length_take, Nat.min_eq_left (Nat.le_of_lt h)]
 simp
theorem good_no {s : List UInt8} {k : Nat} (h : goodL (s.take k) = false) : goodL s = false := by
 cases hs : goodL s
 ·rfl
 ·rw [← List.take_append_drop k s] at hs
  rw [goodL_append _ _ hs] at h
  cases h
theorem isNameL_no {s : List UInt8} {k : Nat} (h : goodL (s.take k) = false) : isNameL s = false := by rw [isNameL, good_no h]; rfl
theorem name_len {s : List UInt8} (h : isNameL s = true) : 1 ≤ s.length ∧ s.length ≤ 16 := by
 unfold isNameL at h
 simp only [Bool.and_eq_true, decide_eq_true_eq] at h
 exact h.1.2
end Go.Proofs.YtnbmpfdffoidaaaGreat.S
namespace Go.Proofs.YtnbmpfdffoidaaaGreat.V
open Go O
def digN (n : Nat) : List UInt8 := if n < 10 then [UInt8.ofNat (48 + n)] else digN (n / 10) ++ [UInt8.ofNat (48 + n % 10)]
termination_by n
decreasing_by omega
theorem digN_lt {n : Nat} (h : n < 10) : digN n = [UInt8.ofNat (48 + n)] := by rw [digN, if_pos h]
theorem digN_ge {n : Nat} (h : 10 ≤ n) : digN n = digN (n / 10) ++ [UInt8.ofNat (48 + n % 10)] := by rw [digN, if_neg (by omega)]
theorem digN_len : ∀ (f n : Nat), n < 10 ^ (f + 1) → (digN n).length ≤ f + 1
 | 0, n, h => by rw [digN_lt (by simpa using h)]; simp
 | f + 1, n, h => by
  by_cases g : n < 10
  ·rw [digN_lt g]; simp
  ·rw [digN_ge (by omega)]
   have := digN_len f (n / 10) (by rw [Nat.pow_succ] at h; omega)
   simp; omega
theorem digN_len20 (n : Nat) (h : n < 18446744073709551616) : (digN n).length ≤ 20 := digN_len 19 n (by omega)
def decL (n : Int) : List UInt8 := if n < 0 then 45 :: digN n.natAbs else digN n.natAbs
def esc (c : UInt8) : List UInt8 := if c.toNat = 34 ∨ c.toNat = 92 then [92, c] else [c]
def escL (s : List UInt8) : List UInt8 := s.flatMap esc
theorem escL_snoc (s : List UInt8) (c : UInt8) : escL (s ++ [c]) = escL s ++ esc c := by simp [escL]
theorem escL_len (s : List UInt8) : (escL s).length ≤ 2 * s.length := by
 induction s with
 | nil => simp [escL]
 | cons c s ih =>
  have : (esc c).length ≤ 2 := by unfold esc; split <;> simp
  have e : escL (c :: s) = esc c ++ escL s := by simp [escL]
  rw [e]; simp; omega
def quoteL (s : List UInt8) : List UInt8 := 34 :: escL s ++ [34]
def printV (v : Val) : List UInt8 := if right v then (if v.k = 1 then decL v.n else if v.k = 2 then (if v.n = 1 then [116, 114, 117, 101] else [102, 97, 108, 115, 101]) else quoteL v.s) else []
end Go.Proofs.YtnbmpfdffoidaaaGreat.V
namespace Go.Proofs.YtnbmpfdffoidaaaGreat.Y
open O V S
abbrev Tok := Int × List UInt8 × Val
inductive Ex where
 | val (v : Val)
 | var (name : List UInt8)
 | cell (name col : List UInt8) (k : Ex)
 | has (name : List UInt8) (k : Ex)
 | sum (name col : List UInt8) (a b : Ex)
 | cnt (name : List UInt8) (a b : Ex)
 | un (op : Nat) (a : Ex)
 | bin (op : Nat) (a b : Ex)
mutual
inductive St where
 | let_ (name : List UInt8) (e : Ex)
 | set (name : List UInt8) (e : Ex)
 | put (table col : List UInt8) (k e : Ex)
 | del (table : List UInt8) (k : Ex)
 | if_ (e : Ex) (body els : Sts)
 | loop (n : Int) (name : List UInt8) (body : Sts)
 | each (name table : List UInt8) (lo hi : Ex) (n : Int) (body : Sts)
 | roll
 | emit (e : Ex)
inductive Sts where
 | nil
 | cons (s : St) (r : Sts)
end
structure Cl where
 name : List UInt8
 k : Int
 m : Int
structure Tb where
 name : List UInt8
 rows : Int
 cols : List Cl
structure Pc where
 name : List UInt8
 params : List Cl
 body : Sts
structure Wk where
 tables : List Tb
 procs : List Pc
def w_true : List UInt8 := [116, 114, 117, 101]
def w_false : List UInt8 := [102, 97, 108, 115, 101]
def w_let : List UInt8 := [108, 101, 116]
def w_del : List UInt8 := [100, 101, 108]
def w_if : List UInt8 := [105, 102]
def w_else : List UInt8 := [101, 108, 115, 101]
def w_loop : List UInt8 := [108, 111, 111, 112]
def w_each : List UInt8 := [101, 97, 99, 104]
def w_rollback : List UInt8 := [114, 111, 108, 108, 98, 97, 99, 107]
def w_emit : List UInt8 := [101, 109, 105, 116]
def w_in : List UInt8 := [105, 110]
def w_from : List UInt8 := [102, 114, 111, 109]
def w_to : List UInt8 := [116, 111]
def w_max : List UInt8 := [109, 97, 120]
def w_has : List UInt8 := [104, 97, 115]
def w_sum : List UInt8 := [115, 117, 109]
def w_count : List UInt8 := [99, 111, 117, 110, 116]
def w_table : List UInt8 := [116, 97, 98, 108, 101]
def w_proc : List UInt8 := [112, 114, 111, 99]
def w_rows : List UInt8 := [114, 111, 119, 115]
def w_int : List UInt8 := [105, 110, 116]
def w_bool : List UInt8 := [98, 111, 111, 108]
def w_text : List UInt8 := [116, 101, 120, 116]
def zv : Val := ⟨0, 0, []⟩
def binS (s : List UInt8) : Nat × Nat :=
 if s = [124, 124] then (1, 1) else if s = [38, 38] then (2, 2) else if s = [61, 61] then (3, 3) else if s = [33, 61] then (4, 3) else if s = [60] then (5, 3) else if s = [60, 61] then (6, 3) else if s = [43] then (7, 4) else if s = [45] then (8, 4) else if s = [43, 43] then (9, 4) else if s = [42] then (10, 5) else if s = [47] then (11, 5) else if s = [37] then (12, 5) else (0, 0)
def signS : Nat → List UInt8
 | 1 => [124, 124]
 | 2 => [38, 38]
 | 3 => [61, 61]
 | 4 => [33, 61]
 | 5 => [60]
 | 6 => [60, 61]
 | 7 => [43]
 | 8 => [45]
 | 9 => [43, 43]
 | 10 => [42]
 | 11 => [47]
 | 12 => [37]
 | _ => []
def lvlS : Nat → Nat
 | 1 => 1
 | 2 => 2
 | 3 => 3
 | 4 => 3
 | 5 => 3
 | 6 => 3
 | 7 => 4
 | 8 => 4
 | 9 => 4
 | 10 => 5
 | 11 => 5
 | 12 => 5
 | _ => 0
inductive Res (α : Type) where
 | ok (a : α) (l : List Tok)
 | bad
 | oof
def Res.bind {α β : Type} : Res α → (α → List Tok → Res β) → Res β
 | .ok a l, f => f a l
 | .bad, _ => .bad
 | .oof, _ => .oof
def isT (l : List Tok) (s : List UInt8) : Bool := match l with
 | [] => false
 | t :: _ => decide (t.2.1 = s) && decide (t.1 ≠ 3)
def want (l : List Tok) (s : List UInt8) : Res Unit := if isT l s then .ok () l.tail else .bad
def isN (l : List Tok) : Bool := match l with
 | [] => false
 | t :: _ => decide (t.1 = 1) && isNameL t.2.1
def pName (l : List Tok) : Res (List UInt8) := match l with
 | [] => .bad
 | t :: r => if t.1 = 1 ∧ isNameL t.2.1 = true then .ok t.2.1 r else .bad
def pNum (l : List Tok) : Res Int := match l with
 | [] => .bad
 | t :: r => if t.1 = 2 then .ok t.2.2.n r else .bad
def room (n most : Nat) (l : List Tok) : Res Unit := if most ≤ n then .bad else .ok () l
def around {α : Type} (a b : List UInt8) (d : Nat) (l : List Tok) (k : Nat → List Tok → Res α) : Res α :=
 if isT l a then (if d = 16 then .bad else (k (d + 1) l.tail).bind fun x r => (want r b).bind fun _ r => .ok x r) else .bad
def opT (l : List Tok) : Nat × Nat := match l with
 | [] => (0, 0)
 | t :: _ => if t.1 = 4 then binS t.2.1 else (0, 0)
def pLit (l : List Tok) : Option Val := match l with
 | [] => none
 | t :: _ => if t.1 = 1 ∧ t.2.1 = w_true then some ⟨2, 1, []⟩ else if t.1 = 1 ∧ t.2.1 = w_false then some ⟨2, 0, []⟩ else if t.1 = 2 ∨ t.1 = 3 then some t.2.2 else none
mutual
def pExpr : Nat → Nat → Nat → List Tok → Res Ex
 | 0, _, _, _ => .oof
 | f + 1, lvl, d, l => (pUnary f d l).bind fun x r => pLoop f lvl d x r
def pLoop : Nat → Nat → Nat → Ex → List Tok → Res Ex
 | 0, _, _, _, _ => .oof
 | f + 1, lvl, d, x, l => if (opT l).2 ≤ lvl then .ok x l else (pExpr f (opT l).2 d l.tail).bind fun y r => pLoop f lvl d (.bin (opT l).1 x y) r
def pUnary : Nat → Nat → List Tok → Res Ex
 | 0, _, _ => .oof
 | f + 1, d, l =>
  if isT l [33] then (if d = 16 then .bad else (pUnary f (d + 1) l.tail).bind fun x r => .ok (.un 13 x) r)
  else if isT l [45] then (if d = 16 then .bad else (pUnary f (d + 1) l.tail).bind fun x r => .ok (.un 14 x) r)
  else pOperand f d l
def pOperand : Nat → Nat → List Tok → Res Ex
 | 0, _, _ => .oof
 | f + 1, d, l => match pLit l with
  | some v => .ok (.val v) l.tail
  | none =>
   if isT l [40] then around [40] [41] d l fun d r => pExpr f 0 d r
   else if isT l w_has then around [40] [41] d l.tail fun d r => (pName r).bind fun n r => (want r [44]).bind fun _ r => (pExpr f 0 d r).bind fun a r => .ok (.has n a) r
   else if isT l w_sum then around [40] [41] d l.tail fun d r => (pName r).bind fun n r => (want r [46]).bind fun _ r => (pName r).bind fun c r => (want r [44]).bind fun _ r => (pExpr f 0 d r).bind fun a r => (want r [44]).bind fun _ r => (pExpr f 0 d r).bind fun b r => .ok (.sum n c a b) r
   else if isT l w_count then around [40] [41] d l.tail fun d r => (pName r).bind fun n r => (want r [44]).bind fun _ r => (pExpr f 0 d r).bind fun a r => (want r [44]).bind fun _ r => (pExpr f 0 d r).bind fun b r => .ok (.cnt n a b) r
   else (pName l).bind fun n r => if isT r [91] then (around [91] [93] d r fun d r => pExpr f 0 d r).bind fun k r => (want r [46]).bind fun _ r => (pName r).bind fun c r => .ok (.cell n c k) r else .ok (.var n) r
end
def pKey (f d : Nat) (l : List Tok) : Res Ex := around [91] [93] d l fun d r => pExpr f 0 d r
def pLine (f d : Nat) (l : List Tok) : Res Ex := (pExpr f 0 d l).bind fun x r => (want r [59]).bind fun _ r => .ok x r
def Sts.snoc : Sts → St → Sts
 | .nil, s => .cons s .nil
 | .cons a r, s => .cons a (r.snoc s)
def Sts.len : Sts → Nat
 | .nil => 0
 | .cons _ r => r.len + 1
mutual
def pStmt : Nat → Nat → List Tok → Res St
 | 0, _, _ => .oof
 | f + 1, d, l =>
  if isT l w_let then (pName l.tail).bind fun n r => (want r [61]).bind fun _ r => (pLine f d r).bind fun x r => .ok (.let_ n x) r
  else if isT l w_del then (pName l.tail).bind fun n r => (pKey f d r).bind fun x r => (want r [59]).bind fun _ r => .ok (.del n x) r
  else if isT l w_if then (pExpr f 0 d l.tail).bind fun x r => (pBlock f d r).bind fun b r => if isT r w_else then (pBlock f d r.tail).bind fun e r => .ok (.if_ x b e) r else .ok (.if_ x b .nil) r
  else if isT l w_loop then (pNum l.tail).bind fun k r => (pName r).bind fun n r => (pBlock f d r).bind fun b r => .ok (.loop k n b) r
  else if isT l w_each then (pName l.tail).bind fun n r => (want r w_in).bind fun _ r => (pName r).bind fun t r => (want r w_from).bind fun _ r => (pExpr f 0 d r).bind fun lo r => (want r w_to).bind fun _ r => (pExpr f 0 d r).bind fun hi r => (want r w_max).bind fun _ r => (pNum r).bind fun k r => (pBlock f d r).bind fun b r => .ok (.each n t lo hi k b) r
  else if isT l w_rollback then (want l.tail [59]).bind fun _ r => .ok .roll r
  else if isT l w_emit then (pLine f d l.tail).bind fun x r => .ok (.emit x) r
  else (pName l).bind fun n r => if isT r [91] then (pKey f d r).bind fun k r => (want r [46]).bind fun _ r => (pName r).bind fun c r => (want r [61]).bind fun _ r => (pLine f d r).bind fun x r => .ok (.put n c k x) r
   else (want r [61]).bind fun _ r => (pLine f d r).bind fun x r => .ok (.set n x) r
def pBlock : Nat → Nat → List Tok → Res Sts
 | 0, _, _ => .oof
 | f + 1, d, l => around [123] [125] d l fun d r => pStmts f d .nil r
def pStmts : Nat → Nat → Sts → List Tok → Res Sts
 | 0, _, _, _ => .oof
 | f + 1, d, a, l => if l = [] ∨ isT l [125] = true then .ok a l else (room a.len 24 l).bind fun _ r => (pStmt f d r).bind fun s r => pStmts f d (a.snoc s) r
end
def pTyp (l : List Tok) : Res (Int × Int) :=
 if isT l w_int then .ok (1, 0) l.tail else if isT l w_bool then .ok (2, 0) l.tail
 else (want l w_text).bind fun _ r => (pNum r).bind fun k r => if 1 ≤ k ∧ k ≤ 32 then .ok (3, k) r else .bad
def pCol (l : List Tok) : Res Cl := (pName l).bind fun n r => (pTyp r).bind fun t r => .ok ⟨n, t.1, t.2⟩ r
def pCols : Nat → List Cl → List Tok → Res (List Cl)
 | 0, _, _ => .oof
 | f + 1, a, l => if isT l [125] then .ok a l.tail else (if isN l then room a.length 8 l else .ok () l).bind fun _ r => (pCol r).bind fun c r => (want r [59]).bind fun _ r => pCols f (a ++ [c]) r
def pTable (f : Nat) (l : List Tok) : Res Tb := (want l w_table).bind fun _ r => (pName r).bind fun n r => (want r w_rows).bind fun _ r => (pNum r).bind fun k r => (want r [123]).bind fun _ r => (pCols f [] r).bind fun c r => .ok ⟨n, k, c⟩ r
def pParams : Nat → List Cl → List Tok → Res (List Cl)
 | 0, _, _ => .oof
 | f + 1, a, l => if isT l [44] then (if isN l.tail then room a.length 6 l.tail else .ok () l.tail).bind fun _ r => (pCol r).bind fun c r => pParams f (a ++ [c]) r else .ok a l
def pProc (f : Nat) (l : List Tok) : Res Pc := (want l w_proc).bind fun _ r => (pName r).bind fun n r => (want r [40]).bind fun _ r =>
 (if isT r [41] then .ok [] r else (pCol r).bind fun c r => pParams f [c] r).bind fun ps r => (want r [41]).bind fun _ r => (pBlock f 0 r).bind fun b r => .ok ⟨n, ps, b⟩ r
def pTables : Nat → List Tb → List Tok → Res (List Tb)
 | 0, _, _ => .oof
 | f + 1, a, l => if isT l w_table then (room a.length 8 l).bind fun _ r => (pTable f r).bind fun t r => pTables f (a ++ [t]) r else .ok a l
def pProcs : Nat → List Pc → List Tok → Res (List Pc)
 | 0, _, _ => .oof
 | f + 1, a, l => if isT l w_proc then (room a.length 8 l).bind fun _ r => (pProc f r).bind fun t r => pProcs f (a ++ [t]) r else .ok a l
def pWork (f : Nat) (l : List Tok) : Res Wk := (pTables f [] l).bind fun t r => (pProcs f [] r).bind fun p r => if r = [] then .ok ⟨t, p⟩ r else .bad
def tw (s : List UInt8) : Tok := (1, s, zv)
def tg (s : List UInt8) : Tok := (4, s, zv)
def tn (n : Int) : Tok := (2, decL n, ⟨1, n, []⟩)
def tv (v : Val) : Tok := if v.k = 1 then tn v.n else if v.k = 2 then tw (if v.n = 1 then w_true else w_false) else (3, quoteL v.s, v)
def lvlX : Ex → Nat
 | .bin op _ _ => lvlS op
 | .un _ _ => 6
 | _ => 7
def br (x : Ex) (least : Nat) (t : List Tok) : List Tok := if lvlX x < least then tg [40] :: (t ++ [tg [41]]) else t
def toks0 : Ex → List Tok
 | .val v => [tv v]
 | .var n => [tw n]
 | .cell n c k => tw n :: tg [91] :: (toks0 k ++ [tg [93], tg [46], tw c])
 | .has n k => tw w_has :: tg [40] :: tw n :: tg [44] :: (toks0 k ++ [tg [41]])
 | .sum n c a b => tw w_sum :: tg [40] :: tw n :: tg [46] :: tw c :: tg [44] :: (toks0 a ++ tg [44] :: (toks0 b ++ [tg [41]]))
 | .cnt n a b => tw w_count :: tg [40] :: tw n :: tg [44] :: (toks0 a ++ tg [44] :: (toks0 b ++ [tg [41]]))
 | .un op a => tg (if op = 13 then [33] else [45]) :: br a 6 (toks0 a)
 | .bin op a b => br a (lvlS op) (toks0 a) ++ tg (signS op) :: br b (lvlS op + 1) (toks0 b)
def toksX (x : Ex) (least : Nat) : List Tok := br x least (toks0 x)
def toksT (k m : Int) : List Tok := if k = 1 then [tw w_int] else if k = 2 then [tw w_bool] else [tw w_text, tn m]
def elsT : Sts → List Tok → List Tok
 | .nil, _ => []
 | _, t => tw w_else :: tg [123] :: (t ++ [tg [125]])
mutual
def toksS : St → List Tok
 | .let_ n e => tw w_let :: tw n :: tg [61] :: (toks0 e ++ [tg [59]])
 | .set n e => tw n :: tg [61] :: (toks0 e ++ [tg [59]])
 | .put t c k e => tw t :: tg [91] :: (toks0 k ++ tg [93] :: tg [46] :: tw c :: tg [61] :: (toks0 e ++ [tg [59]]))
 | .del t k => tw w_del :: tw t :: tg [91] :: (toks0 k ++ [tg [93], tg [59]])
 | .if_ e b els => tw w_if :: (toks0 e ++ (tg [123] :: (toksB b ++ [tg [125]]) ++ elsT els (toksB els)))
 | .loop k n b => tw w_loop :: tn k :: tw n :: tg [123] :: (toksB b ++ [tg [125]])
 | .each n t lo hi k b => tw w_each :: tw n :: tw w_in :: tw t :: tw w_from :: (toks0 lo ++ tw w_to :: (toks0 hi ++ tw w_max :: tn k :: tg [123] :: (toksB b ++ [tg [125]])))
 | .roll => [tw w_rollback, tg [59]]
 | .emit e => tw w_emit :: (toks0 e ++ [tg [59]])
def toksB : Sts → List Tok
 | .nil => []
 | .cons s r => toksS s ++ toksB r
end
def toksC (c : Cl) : List Tok := tw c.name :: toksT c.k c.m
def toksTb (t : Tb) : List Tok := tw w_table :: tw t.name :: tw w_rows :: tn t.rows :: tg [123] :: (t.cols.flatMap (fun c => toksC c ++ [tg [59]]) ++ [tg [125]])
def toksPs : List Cl → List Tok
 | [] => []
 | c :: r => toksC c ++ r.flatMap fun c => tg [44] :: toksC c
def toksP (p : Pc) : List Tok := tw w_proc :: tw p.name :: tg [40] :: (toksPs p.params ++ tg [41] :: tg [123] :: (toksB p.body ++ [tg [125]]))
def toksW (w : Wk) : List Tok := w.tables.flatMap toksTb ++ w.procs.flatMap toksP
end Go.Proofs.YtnbmpfdffoidaaaGreat.Y
namespace Go.Proofs.YtnbmpfdffoidaaaGreat.Y
open O V S
variable {α β : Type}
@[simp] theorem bind_ok (a : α) (l : List Tok) (f : α → List Tok → Res β) : (Res.ok a l).bind f = f a l := rfl
@[simp] theorem bind_bad (f : α → List Tok → Res β) : (Res.bad : Res α).bind f = .bad := rfl
@[simp] theorem bind_oof (f : α → List Tok → Res β) : (Res.oof : Res α).bind f = .oof := rfl
def Le (p q : Res α) : Prop := p ≠ .oof → q = p
theorem Le.refl (p : Res α) : Le p p := fun _ => rfl
theorem Le.oof (q : Res α) : Le .oof q := fun h => absurd rfl h
theorem Le.bind {p q : Res α} {f g : α → List Tok → Res β} (h : Le p q) (k : ∀ a l, Le (f a l) (g a l)) : Le (p.bind f) (q.bind g) := by
 intro hn
 cases p with
 | ok a l => rw [h (by simp)]; exact k a l hn
 | bad => rw [h (by simp)]; rfl
 | oof => exact absurd rfl hn
theorem Le.around {a b : List UInt8} {d : Nat} {l : List Tok} {f g : Nat → List Tok → Res α} (k : ∀ d l, Le (f d l) (g d l)) : Le (around a b d l f) (around a b d l g) := by
 unfold Y.around
 split
 ·split
  ·exact .refl _
  ·exact (k _ _).bind fun _ _ => .refl _
 ·exact .refl _
theorem Le.ite {c : Prop} [Decidable c] {p q p' q' : Res α} (h : Le p q) (h' : Le p' q') : Le (if c then p else p') (if c then q else q') := by
 split <;> assumption
theorem expr_le : ∀ f, (∀ lvl d l, Le (pExpr f lvl d l) (pExpr (f + 1) lvl d l)) ∧ (∀ lvl d x l, Le (pLoop f lvl d x l) (pLoop (f + 1) lvl d x l)) ∧ (∀ d l, Le (pUnary f d l) (pUnary (f + 1) d l)) ∧ (∀ d l, Le (pOperand f d l) (pOperand (f + 1) d l))
 | 0 => ⟨fun _ _ _ => by rw [pExpr]; exact .oof _, fun _ _ _ _ => by rw [pLoop]; exact .oof _, fun _ _ => by rw [pUnary]; exact .oof _, fun _ _ => by rw [pOperand]; exact .oof _⟩
 | f + 1 => by
  obtain ⟨he, hl, hu, ho⟩ := expr_le f
  refine ⟨fun lvl d l => ?_, fun lvl d x l => ?_, fun d l => ?_, fun d l => ?_⟩
  ·rw [pExpr, pExpr]
   exact (hu _ _).bind fun _ _ => hl _ _ _ _
  ·rw [pLoop, pLoop]
   exact .ite (.refl _) ((he _ _ _).bind fun _ _ => hl _ _ _ _)
  ·rw [pUnary, pUnary]
   exact .ite (.ite (.refl _) ((hu _ _).bind fun _ _ => .refl _)) (.ite (.ite (.refl _) ((hu _ _).bind fun _ _ => .refl _)) (ho _ _))
  ·rw [pOperand, pOperand]
   cases pLit l with
   | some v => exact .refl _
   | none =>
    refine .ite (.around fun _ _ => he _ _ _) (.ite (.around fun _ _ => ?_) (.ite (.around fun _ _ => ?_) (.ite (.around fun _ _ => ?_) ?_)))
    ·exact (Le.refl _).bind fun _ _ => (Le.refl _).bind fun _ _ => (he _ _ _).bind fun _ _ => .refl _
    ·exact (Le.refl _).bind fun _ _ => (Le.refl _).bind fun _ _ => (Le.refl _).bind fun _ _ => (Le.refl _).bind fun _ _ => (he _ _ _).bind fun _ _ => (Le.refl _).bind fun _ _ => (he _ _ _).bind fun _ _ => .refl _
    ·exact (Le.refl _).bind fun _ _ => (Le.refl _).bind fun _ _ => (he _ _ _).bind fun _ _ => (Le.refl _).bind fun _ _ => (he _ _ _).bind fun _ _ => .refl _
    ·refine (Le.refl _).bind fun _ _ => .ite ((Le.around fun _ _ => he _ _ _).bind fun _ _ => .refl _) (.refl _)
theorem line_le (f d : Nat) (l : List Tok) : Le (pLine f d l) (pLine (f + 1) d l) := ((expr_le f).1 _ _ _).bind fun _ _ => .refl _
theorem key_le (f d : Nat) (l : List Tok) : Le (pKey f d l) (pKey (f + 1) d l) := .around fun _ _ => (expr_le f).1 _ _ _
theorem stmt_le : ∀ f, (∀ d l, Le (pStmt f d l) (pStmt (f + 1) d l)) ∧ (∀ d l, Le (pBlock f d l) (pBlock (f + 1) d l)) ∧ (∀ d a l, Le (pStmts f d a l) (pStmts (f + 1) d a l))
 | 0 => ⟨fun _ _ => by rw [pStmt]; exact .oof _, fun _ _ => by rw [pBlock]; exact .oof _, fun _ _ _ => by rw [pStmts]; exact .oof _⟩
 | f + 1 => by
  obtain ⟨hs, hb, ht⟩ := stmt_le f
  have he := (expr_le f).1
  refine ⟨fun d l => ?_, fun d l => ?_, fun d a l => ?_⟩
  ·rw [pStmt, pStmt]
   refine .ite ?_ (.ite ?_ (.ite ?_ (.ite ?_ (.ite ?_ (.ite (.refl _) (.ite ?_ ?_))))))
   ·exact (Le.refl _).bind fun _ _ => (Le.refl _).bind fun _ _ => (line_le _ _ _).bind fun _ _ => .refl _
   ·exact (Le.refl _).bind fun _ _ => (key_le _ _ _).bind fun _ _ => .refl _
   ·exact (he _ _ _).bind fun _ _ => (hb _ _).bind fun _ _ => .ite ((hb _ _).bind fun _ _ => .refl _) (.refl _)
   ·exact (Le.refl _).bind fun _ _ => (Le.refl _).bind fun _ _ => (hb _ _).bind fun _ _ => .refl _
   ·exact (Le.refl _).bind fun _ _ => (Le.refl _).bind fun _ _ => (Le.refl _).bind fun _ _ => (Le.refl _).bind fun _ _ => (he _ _ _).bind fun _ _ => (Le.refl _).bind fun _ _ => (he _ _ _).bind fun _ _ => (Le.refl _).bind fun _ _ => (Le.refl _).bind fun _ _ => (hb _ _).bind fun _ _ => .refl _
   ·exact (line_le _ _ _).bind fun _ _ => .refl _
   ·refine (Le.refl _).bind fun _ _ => .ite ?_ ?_
    ·exact (key_le _ _ _).bind fun _ _ => (Le.refl _).bind fun _ _ => (Le.refl _).bind fun _ _ => (Le.refl _).bind fun _ _ => (line_le _ _ _).bind fun _ _ => .refl _
    ·exact (Le.refl _).bind fun _ _ => (line_le _ _ _).bind fun _ _ => .refl _
  ·rw [pBlock, pBlock]
   exact .around fun _ _ => ht _ _ _
  ·rw [pStmts, pStmts]
   exact .ite (.refl _) ((Le.refl _).bind fun _ _ => (hs _ _).bind fun _ _ => ht _ _ _)
theorem cols_le : ∀ f a l, Le (pCols f a l) (pCols (f + 1) a l)
 | 0, _, _ => by rw [pCols]; exact .oof _
 | f + 1, a, l => by
  rw [pCols, pCols]
  exact .ite (.refl _) ((Le.refl _).bind fun _ _ => (Le.refl _).bind fun _ _ => (Le.refl _).bind fun _ _ => cols_le f _ _)
theorem params_le : ∀ f a l, Le (pParams f a l) (pParams (f + 1) a l)
 | 0, _, _ => by rw [pParams]; exact .oof _
 | f + 1, a, l => by
  rw [pParams, pParams]
  exact .ite ((Le.refl _).bind fun _ _ => (Le.refl _).bind fun _ _ => params_le f _ _) (.refl _)
theorem table_le (f : Nat) (l : List Tok) : Le (pTable f l) (pTable (f + 1) l) := (Le.refl _).bind fun _ _ => (Le.refl _).bind fun _ _ => (Le.refl _).bind fun _ _ => (Le.refl _).bind fun _ _ => (Le.refl _).bind fun _ _ => (cols_le f _ _).bind fun _ _ => .refl _
theorem proc_le (f : Nat) (l : List Tok) : Le (pProc f l) (pProc (f + 1) l) :=
 (Le.refl _).bind fun _ _ => (Le.refl _).bind fun _ _ => (Le.refl _).bind fun _ _ => (Le.ite (.refl _) ((Le.refl _).bind fun _ _ => params_le f _ _)).bind fun _ _ => (Le.refl _).bind fun _ _ => ((stmt_le f).2.1 _ _).bind fun _ _ => .refl _
theorem tables_le : ∀ f a l, Le (pTables f a l) (pTables (f + 1) a l)
 | 0, _, _ => by rw [pTables]; exact .oof _
 | f + 1, a, l => by
  rw [pTables, pTables]
  exact .ite ((Le.refl _).bind fun _ _ => (table_le f _).bind fun _ _ => tables_le f _ _) (.refl _)
theorem procs_le : ∀ f a l, Le (pProcs f a l) (pProcs (f + 1) a l)
 | 0, _, _ => by rw [pProcs]; exact .oof _
 | f + 1, a, l => by
  rw [pProcs, pProcs]
  exact .ite ((Le.refl _).bind fun _ _ => (proc_le f _).bind fun _ _ => procs_le f _ _) (.refl _)
theorem work_le (f : Nat) (l : List Tok) : Le (pWork f l) (pWork (f + 1) l) := (tables_le f _ _).bind fun _ _ => (procs_le f _ _).bind fun _ _ => .refl _
theorem le_add {p : Nat → Res α} (h : ∀ f, Le (p f) (p (f + 1))) (f : Nat) : ∀ n, Le (p f) (p (f + n))
 | 0 => .refl _
 | n + 1 => fun hn => by
  have h1 := le_add h f n hn
  have h2 := h (f + n) (by rw [h1]; exact hn)
  rw [← Nat.add_assoc, h2, h1]
def Ev (p : Nat → Res α) (r : Res α) : Prop := ∃ F, ∀ f, F ≤ f → p f = r
theorem Ev.now {p : Nat → Res α} {r : Res α} (h : Ev p r) (hm : ∀ f, Le (p f) (p (f + 1))) {f : Nat} (hn : p f ≠ .oof) : p f = r := by
 obtain ⟨F, hF⟩ := h
 have h1 := le_add hm f F hn
 rw [hF _ (by omega)] at h1
 exact h1.symm
theorem Ev.of_eq {p : Nat → Res α} {r : Res α} (h : ∀ f, p f = r) : Ev p r := ⟨0, fun f _ => h f⟩
theorem Ev.bind {p : Nat → Res α} {g : Nat → α → List Tok → Res β} {a : α} {l : List Tok} {r : Res β} (h : Ev p (.ok a l)) (k : Ev (fun f => g f a l) r) : Ev (fun f => (p f).bind (g f)) r := by
 obtain ⟨F, hF⟩ := h
 obtain ⟨G, hG⟩ := k
 exact ⟨F + G, fun f hf => by show (p f).bind (g f) = r; rw [hF f (by omega)]; exact hG f (by omega)⟩
theorem Ev.step {p q : Nat → Res α} {r : Res α} (h : ∀ f, p (f + 1) = q f) (k : Ev q r) : Ev p r := by
 obtain ⟨F, hF⟩ := k
 exact ⟨F + 1, fun f hf => by obtain ⟨m, rfl⟩ : ∃ m, f = m + 1 := ⟨f - 1, by omega⟩; rw [h]; exact hF m (by omega)⟩
theorem Ev.around {a b : List UInt8} {d : Nat} {t : Tok} {l r : List Tok} {k : Nat → Nat → List Tok → Res α} {x : α} {u : Tok} (ha : isT (t :: l) a = true) (hd : d < 16) (h : Ev (fun f => k f (d + 1) l) (.ok x (u :: r))) (hb : isT (u :: r) b = true) : Ev (fun f => around a b d (t :: l) (k f)) (.ok x r) := by
 obtain ⟨F, hF⟩ := h
 refine ⟨F, fun f hf => ?_⟩
 have h1 : k f (d + 1) l = .ok x (u :: r) := hF f hf
 show Y.around a b d (t :: l) (k f) = _
 unfold Y.around
 rw [if_pos ha, if_neg (by omega), List.tail_cons, h1, bind_ok]
 unfold want
 rw [if_pos hb]
 rfl
end Go.Proofs.YtnbmpfdffoidaaaGreat.Y
namespace Go.Proofs.YtnbmpfdffoidaaaGreat.Y
open O V S
def okV (v : Val) : Prop := right v = true ∧ (v.k = 1 → 0 ≤ v.n ∧ v.n ≤ 9223372036854775807)
def okX : Ex → Prop
 | .val v => okV v
 | .var n => isNameL n = true
 | .cell n c k => isNameL n = true ∧ isNameL c = true ∧ okX k
 | .has n k => isNameL n = true ∧ okX k
 | .sum n c a b => isNameL n = true ∧ isNameL c = true ∧ okX a ∧ okX b
 | .cnt n a b => isNameL n = true ∧ okX a ∧ okX b
 | .un op a => (op = 13 ∨ op = 14) ∧ okX a
 | .bin op a b => (1 ≤ op ∧ op ≤ 12) ∧ okX a ∧ okX b
def ndb (x : Ex) (least n : Nat) : Nat := if lvlX x < least then n + 1 else n
def nd : Ex → Nat
 | .val _ => 0
 | .var _ => 0
 | .cell _ _ k => nd k + 1
 | .has _ k => nd k + 1
 | .sum _ _ a b => max (nd a) (nd b) + 1
 | .cnt _ a b => max (nd a) (nd b) + 1
 | .un _ a => ndb a 6 (nd a) + 1
 | .bin op a b => max (ndb a (lvlS op) (nd a)) (ndb b (lvlS op + 1) (nd b))
theorem lvlS_bound {op : Nat} (h : 1 ≤ op ∧ op ≤ 12) : 1 ≤ lvlS op ∧ lvlS op ≤ 5 := by
 have : op = 1 ∨ op = 2 ∨ op = 3 ∨ op = 4 ∨ op = 5 ∨ op = 6 ∨ op = 7 ∨ op = 8 ∨ op = 9 ∨ op = 10 ∨ op = 11 ∨ op = 12 := by omega
 rcases this with h | h | h | h | h | h | h | h | h | h | h | h <;> subst h <;> decide
theorem binS_sign {op : Nat} (h : 1 ≤ op ∧ op ≤ 12) : binS (signS op) = (op, lvlS op) := by
 have : op = 1 ∨ op = 2 ∨ op = 3 ∨ op = 4 ∨ op = 5 ∨ op = 6 ∨ op = 7 ∨ op = 8 ∨ op = 9 ∨ op = 10 ∨ op = 11 ∨ op = 12 := by omega
 rcases this with h | h | h | h | h | h | h | h | h | h | h | h <;> subst h <;> decide
theorem lvlX_pos {x : Ex} (h : okX x) : 1 ≤ lvlX x := by
 cases x <;> simp only [lvlX] <;> try omega
 exact (lvlS_bound h.1).1
theorem name_ne {n w : List UInt8} (h : isNameL n = true) (hw : isNameL w = false) : n ≠ w := fun e => by subst e; rw [h] at hw; cases hw
theorem isT_name {n w : List UInt8} (h : isNameL n = true) (hw : isNameL w = false) (r : List Tok) : isT (tw n :: r) w = false := by
 unfold isT tw
 rw [Bool.and_eq_false_iff]
 exact .inl (decide_eq_false (name_ne h hw))
theorem isT_tg (s w : List UInt8) (r : List Tok) : isT (tg s :: r) w = decide (s = w) := by
 unfold isT tg; dsimp only; rw [show decide ((4 : Int) ≠ 3) = true from rfl, Bool.and_true]
theorem isT_tw (s w : List UInt8) (r : List Tok) : isT (tw s :: r) w = decide (s = w) := by
 unfold isT tw; dsimp only; rw [show decide ((1 : Int) ≠ 3) = true from rfl, Bool.and_true]
theorem isT_tn (n : Int) (r : List Tok) (w : List UInt8) : isT (tn n :: r) w = decide (decL n = w) := by
 unfold isT tn; dsimp only; rw [show decide ((2 : Int) ≠ 3) = true from rfl, Bool.and_true]
theorem pLit_name {n : List UInt8} (h : isNameL n = true) (r : List Tok) : pLit (tw n :: r) = none := by
 unfold pLit tw
 dsimp only
 rw [if_neg (fun e => name_ne h (by decide) e.2), if_neg (fun e => name_ne h (by decide) e.2), if_neg (by decide)]
theorem pLit_word {w : List UInt8} (h1 : w ≠ w_true) (h2 : w ≠ w_false) (r : List Tok) : pLit (tw w :: r) = none := by
 unfold pLit tw
 dsimp only
 rw [if_neg (fun e => h1 e.2), if_neg (fun e => h2 e.2), if_neg (by decide)]
theorem pLit_sign (s : List UInt8) (r : List Tok) : pLit (tg s :: r) = none := by
 unfold pLit tg
 dsimp only
 rw [if_neg (by simp), if_neg (by simp), if_neg (by decide)]
theorem pLit_val {v : Val} (h : okV v) (r : List Tok) : pLit (tv v :: r) = some v := by
 obtain ⟨h, _⟩ := h
 obtain ⟨k, n, s⟩ := v
 rcases right_cases h with ⟨e, e2⟩ | ⟨e, e2, e3⟩ | ⟨e, e2, _⟩
 ·simp only at e e2; subst e e2
  simp [pLit, tv, tn]
 ·simp only at e e2 e3; subst e e2
  rcases e3 with e3 | e3 <;> subst e3 <;> simp [pLit, tv, tw, w_true, w_false]
 ·simp only at e e2; subst e e2
  simp [pLit, tv]
theorem pName_tw {n : List UInt8} (h : isNameL n = true) (r : List Tok) : pName (tw n :: r) = .ok n r := by
 unfold pName tw
 dsimp only
 rw [if_pos ⟨rfl, h⟩]
theorem want_tg (s : List UInt8) (r : List Tok) : want (tg s :: r) s = .ok () r := by
 unfold want
 rw [isT_tg, decide_eq_true rfl]
 rfl
theorem want_tw (s : List UInt8) (r : List Tok) : want (tw s :: r) s = .ok () r := by
 unfold want
 rw [isT_tw, decide_eq_true rfl]
 rfl
theorem opT_sign {op : Nat} (h : 1 ≤ op ∧ op ≤ 12) (r : List Tok) : opT (tg (signS op) :: r) = (op, lvlS op) := by
 unfold opT tg
 dsimp only
 rw [if_pos rfl, binS_sign h]
theorem opT_tg {s : List UInt8} (h : binS s = (0, 0)) (r : List Tok) : (opT (tg s :: r)).2 = 0 := by
 unfold opT tg
 dsimp only
 rw [if_pos rfl, h]
theorem opT_tw (s : List UInt8) (r : List Tok) : (opT (tw s :: r)).2 = 0 := by
 unfold opT tw
 dsimp only
 rw [if_neg (by decide)]
theorem dig_c {k : Nat} (h : k < 10) : 48 ≤ (UInt8.ofNat (48 + k)).toNat ∧ (UInt8.ofNat (48 + k)).toNat ≤ 57 := by
 rw [UInt8.toNat_ofNat']
 omega
theorem digN_all : ∀ (f n : Nat), n < 10 ^ (f + 1) → ∀ c ∈ digN n, 48 ≤ c.toNat ∧ c.toNat ≤ 57
 | 0, n, h, c, hc => by
  rw [digN_lt (by simpa using h)] at hc
  simp only [List.mem_singleton] at hc
  subst hc
  exact dig_c (by simpa using h)
 | f + 1, n, h, c, hc => by
  by_cases g : n < 10
  ·rw [digN_lt g] at hc
   simp only [List.mem_singleton] at hc
   subst hc
   exact dig_c g
  ·rw [digN_ge (by omega), List.mem_append] at hc
   rcases hc with hc | hc
   ·exact digN_all f (n / 10) (by rw [Nat.pow_succ] at h; omega) c hc
   ·simp only [List.mem_singleton] at hc
    subst hc
    exact dig_c (Nat.mod_lt _ (by omega))
theorem decL_all {n : Int} (h0 : 0 ≤ n) (h1 : n ≤ 9223372036854775807) : ∀ c ∈ decL n, 48 ≤ c.toNat ∧ c.toNat ≤ 57 := by
 unfold decL
 rw [if_neg (by omega)]
 exact digN_all 19 _ (by omega)
theorem decL_ne {n : Int} (h0 : 0 ≤ n) (h1 : n ≤ 9223372036854775807) {c : UInt8} {w : List UInt8} (hc : c.toNat < 48 ∨ 57 < c.toNat) : decL n ≠ c :: w := fun e => by
 have := decL_all h0 h1 c (by rw [e]; simp)
 omega
theorem val_no {v : Val} (h : okV v) (r : List Tok) : isT (tv v :: r) [33] = false ∧ isT (tv v :: r) [45] = false := by
 unfold tv
 split
 ·rename_i e
  obtain ⟨h0, h1⟩ := h.2 e
  rw [isT_tn, isT_tn]
  exact ⟨decide_eq_false (decL_ne h0 h1 (by decide)), decide_eq_false (decL_ne h0 h1 (by decide))⟩
 ·split
  ·rw [isT_tw, isT_tw]
   split <;> exact ⟨by decide, by decide⟩
  ·constructor <;> (unfold isT; dsimp only; rw [show decide ((3 : Int) ≠ 3) = false from rfl, Bool.and_false])
theorem Ev.stop {lvl d : Nat} {x : Ex} {l : List Tok} (h : (opT l).2 ≤ lvl) : Ev (fun f => pLoop f lvl d x l) (.ok x l) := by
 refine ⟨1, fun f hf => ?_⟩
 obtain ⟨m, rfl⟩ : ∃ m, f = m + 1 := ⟨f - 1, by omega⟩
 show pLoop (m + 1) lvl d x l = _
 rw [pLoop, if_pos h]
theorem Ev.expr {lvl d : Nat} {l r : List Tok} {x : Ex} {R : Res Ex} (h : Ev (fun f => pUnary f d l) (.ok x r)) (k : Ev (fun f => pLoop f lvl d x r) R) : Ev (fun f => pExpr f lvl d l) R :=
 Ev.step (q := fun f => (pUnary f d l).bind fun x r => pLoop f lvl d x r) (fun f => by rw [pExpr]) (Ev.bind h k)
theorem Ev.whole {d : Nat} {l r : List Tok} {x : Ex} (h : ∀ R, Ev (fun f => pLoop f 0 d x r) R → Ev (fun f => pExpr f 0 d l) R) (hr : (opT r).2 = 0) : Ev (fun f => pExpr f 0 d l) (.ok x r) :=
 h _ (Ev.stop (by omega))
structure Back (x : Ex) : Prop where
 u : ∀ d rest, 6 ≤ lvlX x → d + nd x ≤ 16 → isT rest [91] = false → Ev (fun f => pUnary f d (toks0 x ++ rest)) (.ok x rest)
 e : ∀ lvl d rest R, d + nd x ≤ 16 → lvl < lvlX x → (opT rest).2 ≤ lvlX x → isT rest [91] = false → Ev (fun f => pLoop f lvl d x rest) R → Ev (fun f => pExpr f lvl d (toks0 x ++ rest)) R
theorem Back.of_u {x : Ex} (h6 : 6 ≤ lvlX x) (h : ∀ d rest, d + nd x ≤ 16 → isT rest [91] = false → Ev (fun f => pUnary f d (toks0 x ++ rest)) (.ok x rest)) : Back x :=
 ⟨fun d rest _ hd hr => h d rest hd hr, fun _ d rest _ hd _ _ hr k => Ev.expr (h d rest hd hr) k⟩
theorem Ev.operand {d : Nat} {l : List Tok} {R : Res Ex} (h1 : isT l [33] = false) (h2 : isT l [45] = false) (k : Ev (fun f => pOperand f d l) R) : Ev (fun f => pUnary f d l) R :=
 Ev.step (q := fun f => pOperand f d l) (fun f => by rw [pUnary, h1, h2]; rfl) k
theorem Back.ahead {x : Ex} (h : Back x) (hk : okX x) {d : Nat} (hd : d + nd x ≤ 16) (s : List UInt8) (hs : binS s = (0, 0)) (hs2 : s ≠ [91]) (r : List Tok) : Ev (fun f => pExpr f 0 d (toks0 x ++ tg s :: r)) (.ok x (tg s :: r)) := by
 refine h.e 0 d _ _ hd (by have := lvlX_pos hk; omega) (by rw [opT_tg hs]; omega) (by rw [isT_tg]; exact decide_eq_false hs2) (Ev.stop (by rw [opT_tg hs]; omega))
theorem Back.aheadW {x : Ex} (h : Back x) (hk : okX x) {d : Nat} (hd : d + nd x ≤ 16) (s : List UInt8) (hs2 : s ≠ [91]) (r : List Tok) : Ev (fun f => pExpr f 0 d (toks0 x ++ tw s :: r)) (.ok x (tw s :: r)) := by
 refine h.e 0 d _ _ hd (by have := lvlX_pos hk; omega) (by rw [opT_tw]; omega) (by rw [isT_tw]; exact decide_eq_false hs2) (Ev.stop (by rw [opT_tw]; omega))
theorem Back.brk {x : Ex} (h : Back x) (hk : okX x) {d : Nat} (hd : d + (nd x + 1) ≤ 16) (rest : List Tok) : Ev (fun f => pUnary f d (tg [40] :: (toks0 x ++ [tg [41]]) ++ rest)) (.ok x rest) := by
 refine Ev.operand (by rw [List.cons_append, isT_tg]; decide) (by rw [List.cons_append, isT_tg]; decide) ?_
 refine Ev.step (q := fun f => around [40] [41] d (tg [40] :: (toks0 x ++ [tg [41]]) ++ rest) fun d r => pExpr f 0 d r) (fun f => by rw [pOperand, List.cons_append, pLit_sign, isT_tg]; rfl) ?_
 have := h.ahead hk (d := d + 1) (by omega) [41] (by decide) (by decide) rest
 refine Ev.around (t := tg [40]) (k := fun f d r => pExpr f 0 d r) (by rw [isT_tg]; decide) (by omega) (u := tg [41]) ?_ (by rw [isT_tg]; decide)
 simpa [List.append_assoc] using this
theorem Back.ux {x : Ex} (h : Back x) (hk : okX x) {d : Nat} (hd : d + ndb x 6 (nd x) ≤ 16) (rest : List Tok) (hr : isT rest [91] = false) : Ev (fun f => pUnary f d (toksX x 6 ++ rest)) (.ok x rest) := by
 unfold toksX br
 unfold ndb at hd
 split
 ·rename_i hl
  rw [if_pos hl] at hd
  exact h.brk hk hd rest
 ·rename_i hl
  rw [if_neg hl] at hd
  exact h.u d rest (by omega) hd hr
theorem Back.ex {x : Ex} (h : Back x) (hk : okX x) {least lvl d : Nat} (hl : lvl < least) (hd : d + ndb x least (nd x) ≤ 16) (rest : List Tok) (ho : least ≤ lvlX x → (opT rest).2 ≤ lvlX x) (hr : isT rest [91] = false) {R : Res Ex} (k : Ev (fun f => pLoop f lvl d x rest) R) : Ev (fun f => pExpr f lvl d (toksX x least ++ rest)) R := by
 unfold toksX br
 unfold ndb at hd
 split
 ·rename_i hb
  rw [if_pos hb] at hd
  exact Ev.expr (h.brk hk hd rest) k
 ·rename_i hb
  rw [if_neg hb] at hd
  exact h.e lvl d rest R hd (by omega) (ho (by omega)) hr k
theorem Ev.name {α : Type} {n : List UInt8} (h : isNameL n = true) (r : List Tok) {g : Nat → List UInt8 → List Tok → Res α} {R : Res α} (k : Ev (fun f => g f n r) R) : Ev (fun f => (pName (tw n :: r)).bind (g f)) R :=
 Ev.bind (p := fun _ => pName (tw n :: r)) (Ev.of_eq fun _ => pName_tw h r) k
theorem Ev.wantG {α : Type} (s : List UInt8) (r : List Tok) {g : Nat → Unit → List Tok → Res α} {R : Res α} (k : Ev (fun f => g f () r) R) : Ev (fun f => (want (tg s :: r) s).bind (g f)) R :=
 Ev.bind (p := fun _ => want (tg s :: r) s) (Ev.of_eq fun _ => want_tg s r) k
theorem Ev.wantW {α : Type} (s : List UInt8) (r : List Tok) {g : Nat → Unit → List Tok → Res α} {R : Res α} (k : Ev (fun f => g f () r) R) : Ev (fun f => (want (tw s :: r) s).bind (g f)) R :=
 Ev.bind (p := fun _ => want (tw s :: r) s) (Ev.of_eq fun _ => want_tw s r) k
theorem Ev.ok (α : Type) (a : α) (l : List Tok) : Ev (fun _ => Res.ok a l) (.ok a l) := Ev.of_eq fun _ => rfl
theorem name_no33 {n : List UInt8} (h : isNameL n = true) (r : List Tok) : isT (tw n :: r) [33] = false ∧ isT (tw n :: r) [45] = false ∧ isT (tw n :: r) [40] = false := ⟨isT_name h (by decide) r, isT_name h (by decide) r, isT_name h (by decide) r⟩
theorem back : ∀ x, okX x → Back x
 | .val v, h => Back.of_u (by simp [lvlX]) fun d rest _ _ => by
  have h : okV v := h
  refine Ev.operand (l := tv v :: rest) (val_no h rest).1 (val_no h rest).2 ?_
  refine Ev.step (q := fun _ => .ok (.val v) rest) (fun f => ?_) (Ev.ok _ _ _)
  show pOperand (f + 1) d (tv v :: rest) = _
  rw [pOperand, pLit_val h]
  rfl
 | .var n, h => Back.of_u (by simp [lvlX]) fun d rest _ hr => by
  refine Ev.operand (name_no33 h rest).1 (name_no33 h rest).2.1 ?_
  refine Ev.step (q := fun f => (pName (tw n :: rest)).bind fun n r => if isT r [91] then (around [91] [93] d r fun d r => pExpr f 0 d r).bind fun k r => (want r [46]).bind fun _ r => (pName r).bind fun c r => .ok (Ex.cell n c k) r else .ok (Ex.var n) r) (fun f => ?_) ?_
  ·show pOperand (f + 1) d (tw n :: rest) = _
   rw [pOperand, pLit_name h, (name_no33 h rest).2.2, isT_name h (w := w_has) (by decide), isT_name h (w := w_sum) (by decide), isT_name h (w := w_count) (by decide)]
   rfl
  ·refine Ev.name h rest ?_
   rw [hr]
   exact Ev.ok _ _ _
 | .cell n c k, h => Back.of_u (by simp [lvlX]) fun d rest hd _ => by
  obtain ⟨h, hc, hk⟩ := h
  have e : toks0 (.cell n c k) ++ rest = tw n :: (tg [91] :: (toks0 k ++ tg [93] :: tg [46] :: tw c :: rest)) := by simp [toks0]
  rw [e]
  refine Ev.operand (name_no33 h _).1 (name_no33 h _).2.1 ?_
  refine Ev.step (q := fun f => (pName (tw n :: (tg [91] :: (toks0 k ++ tg [93] :: tg [46] :: tw c :: rest)))).bind fun n r => if isT r [91] then (around [91] [93] d r fun d r => pExpr f 0 d r).bind fun k r => (want r [46]).bind fun _ r => (pName r).bind fun c r => .ok (Ex.cell n c k) r else .ok (Ex.var n) r) (fun f => ?_) ?_
  ·rw [pOperand, pLit_name h, (name_no33 h _).2.2, isT_name h (w := w_has) (by decide), isT_name h (w := w_sum) (by decide), isT_name h (w := w_count) (by decide)]
   rfl
  ·refine Ev.name h _ ?_
   rw [isT_tg, decide_eq_true rfl]
   simp only [if_true]
   refine Ev.bind (p := fun f => around [91] [93] d (tg [91] :: (toks0 k ++ tg [93] :: tg [46] :: tw c :: rest)) fun d r => pExpr f 0 d r) (a := k) (l := tg [46] :: tw c :: rest) ?_ ?_
   ·have hd' : d + (nd k + 1) ≤ 16 := hd
    exact Ev.around (t := tg [91]) (k := fun f d r => pExpr f 0 d r) (by rw [isT_tg]; decide) (by omega) (u := tg [93]) ((back k hk).ahead hk (by omega) [93] (by decide) (by decide) _) (by rw [isT_tg]; decide)
   ·refine Ev.wantG [46] _ ?_
    refine Ev.name hc _ ?_
    exact Ev.ok _ _ _
 | .has n k, h => Back.of_u (by simp [lvlX]) fun d rest hd _ => by
  obtain ⟨h, hk⟩ := h
  have e : toks0 (.has n k) ++ rest = tw w_has :: (tg [40] :: (tw n :: tg [44] :: (toks0 k ++ tg [41] :: rest))) := by simp [toks0]
  have hd' : d + (nd k + 1) ≤ 16 := hd
  rw [e]
  refine Ev.operand (by rw [isT_tw]; decide) (by rw [isT_tw]; decide) ?_
  refine Ev.step (q := fun f => around [40] [41] d (tg [40] :: (tw n :: tg [44] :: (toks0 k ++ tg [41] :: rest))) fun d r => (pName r).bind fun n r => (want r [44]).bind fun _ r => (pExpr f 0 d r).bind fun a r => .ok (Ex.has n a) r) (fun f => ?_) ?_
  ·rw [pOperand, pLit_word (by decide) (by decide), isT_tw, isT_tw]
   rfl
  ·refine Ev.around (t := tg [40]) (k := fun f d r => (pName r).bind fun n r => (want r [44]).bind fun _ r => (pExpr f 0 d r).bind fun a r => .ok (Ex.has n a) r) (by rw [isT_tg]; decide) (by omega) (u := tg [41]) ?_ (by rw [isT_tg]; decide)
   refine Ev.name h _ ?_
   refine Ev.wantG [44] _ ?_
   exact Ev.bind ((back k hk).ahead hk (by omega) [41] (by decide) (by decide) _) (Ev.ok _ _ _)
 | .sum n c a b, h => Back.of_u (by simp [lvlX]) fun d rest hd _ => by
  obtain ⟨h, hc, ha, hb⟩ := h
  have e : toks0 (.sum n c a b) ++ rest = tw w_sum :: (tg [40] :: (tw n :: tg [46] :: tw c :: tg [44] :: (toks0 a ++ tg [44] :: (toks0 b ++ tg [41] :: rest)))) := by simp [toks0]
  have hd' : d + (max (nd a) (nd b) + 1) ≤ 16 := hd
  rw [e]
  refine Ev.operand (by rw [isT_tw]; decide) (by rw [isT_tw]; decide) ?_
  refine Ev.step (q := fun f => around [40] [41] d (tg [40] :: (tw n :: tg [46] :: tw c :: tg [44] :: (toks0 a ++ tg [44] :: (toks0 b ++ tg [41] :: rest)))) fun d r => (pName r).bind fun n r => (want r [46]).bind fun _ r => (pName r).bind fun c r => (want r [44]).bind fun _ r => (pExpr f 0 d r).bind fun a r => (want r [44]).bind fun _ r => (pExpr f 0 d r).bind fun b r => .ok (Ex.sum n c a b) r) (fun f => ?_) ?_
  ·rw [pOperand, pLit_word (by decide) (by decide), isT_tw, isT_tw, isT_tw]
   rfl
  ·refine Ev.around (t := tg [40]) (k := fun f d r => (pName r).bind fun n r => (want r [46]).bind fun _ r => (pName r).bind fun c r => (want r [44]).bind fun _ r => (pExpr f 0 d r).bind fun a r => (want r [44]).bind fun _ r => (pExpr f 0 d r).bind fun b r => .ok (Ex.sum n c a b) r) (by rw [isT_tg]; decide) (by omega) (u := tg [41]) ?_ (by rw [isT_tg]; decide)
   refine Ev.name h _ ?_
   refine Ev.wantG [46] _ ?_
   refine Ev.name hc _ ?_
   refine Ev.wantG [44] _ ?_
   refine Ev.bind ((back a ha).ahead ha (by omega) [44] (by decide) (by decide) _) ?_
   refine Ev.wantG [44] _ ?_
   exact Ev.bind ((back b hb).ahead hb (by omega) [41] (by decide) (by decide) _) (Ev.ok _ _ _)
 | .cnt n a b, h => Back.of_u (by simp [lvlX]) fun d rest hd _ => by
  obtain ⟨h, ha, hb⟩ := h
  have e : toks0 (.cnt n a b) ++ rest = tw w_count :: (tg [40] :: (tw n :: tg [44] :: (toks0 a ++ tg [44] :: (toks0 b ++ tg [41] :: rest)))) := by simp [toks0]
  have hd' : d + (max (nd a) (nd b) + 1) ≤ 16 := hd
  rw [e]
  refine Ev.operand (by rw [isT_tw]; decide) (by rw [isT_tw]; decide) ?_
  refine Ev.step (q := fun f => around [40] [41] d (tg [40] :: (tw n :: tg [44] :: (toks0 a ++ tg [44] :: (toks0 b ++ tg [41] :: rest)))) fun d r => (pName r).bind fun n r => (want r [44]).bind fun _ r => (pExpr f 0 d r).bind fun a r => (want r [44]).bind fun _ r => (pExpr f 0 d r).bind fun b r => .ok (Ex.cnt n a b) r) (fun f => ?_) ?_
  ·rw [pOperand, pLit_word (by decide) (by decide), isT_tw, isT_tw, isT_tw, isT_tw]
   rfl
  ·refine Ev.around (t := tg [40]) (k := fun f d r => (pName r).bind fun n r => (want r [44]).bind fun _ r => (pExpr f 0 d r).bind fun a r => (want r [44]).bind fun _ r => (pExpr f 0 d r).bind fun b r => .ok (Ex.cnt n a b) r) (by rw [isT_tg]; decide) (by omega) (u := tg [41]) ?_ (by rw [isT_tg]; decide)
   refine Ev.name h _ ?_
   refine Ev.wantG [44] _ ?_
   refine Ev.bind ((back a ha).ahead ha (by omega) [44] (by decide) (by decide) _) ?_
   refine Ev.wantG [44] _ ?_
   exact Ev.bind ((back b hb).ahead hb (by omega) [41] (by decide) (by decide) _) (Ev.ok _ _ _)
 | .un op a, h => Back.of_u (by simp [lvlX]) fun d rest hd hr => by
  obtain ⟨ho, ha⟩ := h
  have hd' : d + (ndb a 6 (nd a) + 1) ≤ 16 := hd
  have hu := (back a ha).ux ha (d := d + 1) (by omega) rest hr
  have hx : br a 6 (toks0 a) = toksX a 6 := rfl
  rcases ho with ho | ho <;> subst ho
  ·have e : toks0 (.un 13 a) ++ rest = tg [33] :: (toksX a 6 ++ rest) := by simp [toks0, hx]
   rw [e]
   refine Ev.step (q := fun f => (pUnary f (d + 1) (toksX a 6 ++ rest)).bind fun x r => .ok (Ex.un 13 x) r) (fun f => ?_) (Ev.bind hu (Ev.ok _ _ _))
   rw [pUnary, isT_tg, if_pos (by decide), if_neg (by omega)]
   rfl
  ·have e : toks0 (.un 14 a) ++ rest = tg [45] :: (toksX a 6 ++ rest) := by simp [toks0, hx]
   rw [e]
   refine Ev.step (q := fun f => (pUnary f (d + 1) (toksX a 6 ++ rest)).bind fun x r => .ok (Ex.un 14 x) r) (fun f => ?_) (Ev.bind hu (Ev.ok _ _ _))
   rw [pUnary, isT_tg, if_neg (by decide), isT_tg, if_pos (by decide), if_neg (by omega)]
   rfl
 | .bin op a b, h => by
  obtain ⟨ho, ha, hb⟩ := h
  obtain ⟨l1, l5⟩ := lvlS_bound ho
  refine ⟨fun d rest h6 => absurd h6 (by simp only [lvlX]; omega), fun lvl d rest R hd hl hop hr k => ?_⟩
  have hd' : d + max (ndb a (lvlS op) (nd a)) (ndb b (lvlS op + 1) (nd b)) ≤ 16 := hd
  have hl' : lvl < lvlS op := hl
  have hop' : (opT rest).2 ≤ lvlS op := hop
  have e : toks0 (.bin op a b) ++ rest = toksX a (lvlS op) ++ tg (signS op) :: (toksX b (lvlS op + 1) ++ rest) := by simp [toks0, toksX]
  rw [e]
  refine (back a ha).ex ha hl' (by omega) _ (fun h => by rw [opT_sign ho]; exact h) ?_ ?_
  ·rw [isT_tg]
   have : op = 1 ∨ op = 2 ∨ op = 3 ∨ op = 4 ∨ op = 5 ∨ op = 6 ∨ op = 7 ∨ op = 8 ∨ op = 9 ∨ op = 10 ∨ op = 11 ∨ op = 12 := by omega
   rcases this with h | h | h | h | h | h | h | h | h | h | h | h <;> subst h <;> decide
  ·refine Ev.step (q := fun f => (pExpr f (lvlS op) d (toksX b (lvlS op + 1) ++ rest)).bind fun y r => pLoop f lvl d (.bin op a y) r) (fun f => ?_) ?_
   ·rw [pLoop, opT_sign ho]
    rw [if_neg (by dsimp only; omega)]
    rfl
   ·refine Ev.bind ((back b hb).ex hb (Nat.lt_add_one (lvlS op)) (by omega) rest (fun h => by omega) hr (Ev.stop hop')) k
end Go.Proofs.YtnbmpfdffoidaaaGreat.Y
