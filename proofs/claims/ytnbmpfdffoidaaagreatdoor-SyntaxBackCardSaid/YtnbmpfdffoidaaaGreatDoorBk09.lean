/- Texts of the proof, joined: SynPut, ValPlain3, ValPlain4, LexRefN, SynLex, SynLit. -/
import Derived.Test.YtnbmpfdffoidaaaGreatDoorBk01
import Derived.Test.YtnbmpfdffoidaaaGreatDoorBk03
import Derived.Test.YtnbmpfdffoidaaaGreatDoorBk05
import Derived.Test.YtnbmpfdffoidaaaGreatDoorBk07
import Derived.Test.YtnbmpfdffoidaaaGreatDoorBk08
import Derived.WalkKit
set_option linter.unusedVariables false
set_option linter.unusedSimpArgs false
set_option maxHeartbeats 8000000
set_option maxRecDepth 100000
namespace Go.Proofs.YtnbmpfdffoidaaaGreatDoor.Y
open Go.RowKit O V S X
structure PF (g : Nat) (w w' : World) : Prop where
 os : w'.os = w.os
 tape : w'.tape = w.tape
 output : w'.output = w.output
 size : w.heap.size ≤ w'.heap.size
 low : ∀ k, k < g → k < w.heap.size → w'.heap[k]? = w.heap[k]?
 box : ∀ k vs T d, g < k → w.heap[k]? = some (.cells vs T d) → T ≠ 9 → w'.heap[k]? = w.heap[k]?
theorem PF.refl (g : Nat) (w : World) : PF g w w := ⟨rfl, rfl, rfl, Nat.le_refl _, fun _ _ _ => rfl, fun _ _ _ _ _ _ _ => rfl⟩
theorem PF.trans {g : Nat} {a b c : World} (h : PF g a b) (k : PF g b c) : PF g a c :=
 ⟨k.os.trans h.os, k.tape.trans h.tape, k.output.trans h.output, Nat.le_trans h.size k.size, fun i hi hs => (k.low i hi (Nat.lt_of_lt_of_le hs h.size)).trans (h.low i hi hs),
  fun i vs T d hi hb hT => (k.box i vs T d hi ((h.box i vs T d hi hb hT).trans hb) hT).trans (h.box i vs T d hi hb hT)⟩
theorem PF.of_below {g : Nat} {a b : World} (h : Below a.heap.size a b) : PF g a b :=
 ⟨h.os, h.tape, h.output, h.size, fun i _ hs => h.block i hs, fun i vs T d _ hb _ => h.block i (Array.getElem?_eq_some_iff.1 hb).1⟩
theorem PF.then {g : Nat} {a b c : World} (h : PF g a b) (k : Below b.heap.size b c) : PF g a c := h.trans (.of_below k)
theorem PF.below {g : Nat} {a b : World} (h : PF g a b) (hg : g ≤ a.heap.size) : Below g a b := ⟨h.os, h.tape, h.output, h.size, fun k hk => h.low k hk (by omega)⟩
theorem PF.keep {g k : Nat} {a b : World} {vs : Array Value} {T : TypeId} {d : Nat × Nat} (h : PF g a b) (hk : g < k) (hb : a.heap[k]? = some (.cells vs T d)) (hT : T ≠ 9) : b.heap[k]? = some (.cells vs T d) := (h.box k vs T d hk hb hT).trans hb
def Pr (w : World) (g : Nat) (L : List (List UInt8)) : Prop := ∃ A n c, w.heap[g]? = some (.cells #[.slice A n c] 64 (0, 0)) ∧ w.ownsRow (g + 1) 9 1 (.slice A n c) n (L.map sv)
theorem Pr.lt {w : World} {g : Nat} {L : List (List UInt8)} (h : Pr w g L) : g < w.heap.size := by
 obtain ⟨A, n, c, hb, _⟩ := h
 exact (Array.getElem?_eq_some_iff.1 hb).1
theorem Pr.next {w w' : World} {g : Nat} {L : List (List UInt8)} (h : Pr w g L) (b : Below w.heap.size w w') : Pr w' g L := by
 have hlt := h.lt
 obtain ⟨A, n, c, hb, ho⟩ := h
 refine ⟨A, n, c, box_next hb b, ho.1, ?_⟩
 rcases ho.2 with hh | ⟨k, cap, cur, hv, h1, h2, h3⟩
 ·exact .inl hh
 ·exact .inr ⟨k, cap, cur, hv, h1, box_next h2 b, h3⟩
theorem own_mod' {w w' : World} {base size n : Nat} {e : TypeId} {v : Value} {xs : List Value} (h : w.ownsRow base e size v n xs) (hk : ∀ k, v.ownBlock = some k → w'.heap[k]? = w.heap[k]?) : w'.ownsRow base e size v n xs := by
 refine ⟨h.1, ?_⟩
 rcases h.2 with hh | ⟨k, cap, cur, hv, h1, h2, h3⟩
 ·exact .inl hh
 ·exact .inr ⟨k, cap, cur, hv, h1, (hk k (by rw [hv]; rfl)).trans h2, h3⟩
theorem sv_len (l : List (List UInt8)) : ∀ u ∈ l.map sv, u.oneCell' = true := by
 intro u hu
 obtain ⟨s, _, rfl⟩ := List.mem_map.1 hu
 rfl
theorem put_any (g : Nat) (B : Option Addr) (m c' : Nat) (news L : List (List UInt8)) (w : World) {lim : Nat} (h : Pr w g L) (hr : Rd w lim 1 B m (news.map sv)) (hlim : L.length + news.length ≤ 1000000000) :
  Calls Tryz.prog 19 #[.pointer (some ⟨g, 0, none⟩), .slice B m c'] w fun e w' => e = .returned (.tuple #[]) ∧ Pr w' g (L ++ news) ∧ PF g w w' := by
 have hlt := h.lt
 obtain ⟨A, n, c, hb, ho⟩ := h
 have hn : L.length = n := by have := ho.1; simp at this; omega
 have hm : news.length = m := by have := hr.1; simp at this; omega
 have x0 : w.cell? ⟨g, 0, none⟩ = some (.slice A n c) := by rw [Lib.cell_of_heap hb]; rfl
 have HO := Lib.hid ho
 have HR := Lib.hid hr
 have HB := Lib.hid hb
 clear ho hr hb
 go_enter Tryz.func19, Tryz.ntmps19
 go_wp2_with (at_builtin; refine wpList_app rfl (.tmp 8) (.tmp 9) strE rfl (g + 1) (L.map sv) rfl HO.out rfl (news.map sv) HR.out (sv_len news) (by unfold maxLen; omega) (by omega) (by omega) ?_; intro A2 c2 w2 o2 g2 k2; have B2 : w2.heap[g]? = some (.cells #[.slice A n c] 64 (0, 0)) := (g2.block g hlt (fun e => by have := (HO.out.lt g e.symm).1; omega)).trans HB.out; have xf2 : w2.frozen? ⟨g, 0, none⟩ = false := Lib.frozen_of_heap B2 0; have x2 : w2.cell? ⟨g, 0, none⟩ = some (.slice A n c) := by rw [Lib.cell_of_heap B2]; rfl)
 go_end0
 rw [← List.map_append] at o2
 have hgo : ∀ k, (Value.slice A2 (n + m) c2).ownBlock = some k → g + 1 ≤ k := fun k hk => (o2.lt k hk).1
 refine ⟨rfl, ⟨A2, n + m, c2, ?_, ?_⟩, ?_⟩
 ·have := heap_set (i := 0) B2 (.slice A2 (n + m) c2)
  exact this
 ·exact own_mod' o2 (fun k hk => Below.heap_setCell _ _ _ _ (by have := hgo k hk; simp only; omega))
 ·refine ⟨g2.os, g2.tape, g2.output, by simpa using g2.size, fun k hk hs => ?_, fun k vs T d hk hbk hT => ?_⟩
  ·rw [Below.heap_setCell _ _ _ _ (by simp only; omega)]
   exact g2.block k hs (fun e => by have := (HO.out.lt k e.symm).1; omega)
  ·rw [Below.heap_setCell _ _ _ _ (by simp only; omega)]
   refine g2.block k (Array.getElem?_eq_some_iff.1 hbk).1 (fun e => ?_)
   rcases HO.out.2 with ⟨hv, _⟩ | ⟨k', cap, cur, hv, h1, h2, h3⟩
   ·rw [hv] at e; cases e
   ·rw [hv] at e
    injection e with e
    subst e
    rw [h2] at hbk
    injection hbk with hbk
    injection hbk with _ e2 _
    exact hT e2.symm
def sgL : List (List UInt8) := [[124, 124], [38, 38], [61, 61], [33, 61], [60], [60, 61], [43], [45], [43, 43], [42], [47], [37]]
theorem sg_bin {k : Nat} (h : k < sgL.length) : binS sgL[k] = (k + 1, lvlS (k + 1)) ∧ signS (k + 1) = sgL[k] := by
 have h' : k < 12 := h
 have hk : k = 0 ∨ k = 1 ∨ k = 2 ∨ k = 3 ∨ k = 4 ∨ k = 5 ∨ k = 6 ∨ k = 7 ∨ k = 8 ∨ k = 9 ∨ k = 10 ∨ k = 11 := by omega
 rcases hk with rfl | rfl | rfl | rfl | rfl | rfl | rfl | rfl | rfl | rfl | rfl | rfl <;> exact ⟨rfl, rfl⟩
theorem sign_any (op : Nat) (hop : 1 ≤ op ∧ op ≤ 12) (w : World) : Calls Tryz.prog 107 #[nv op] w fun e w' => e = .returned (.tuple #[sv (signS op), nv (lvlS op)]) ∧ Below w.heap.size w w' := by
 have HOP := Lib.hid hop
 clear hop
 go_enter Tryz.func107, Tryz.ntmps107
 go_wp2_with fail
 obtain ⟨w1, hw⟩ : ∃ W, w.alloc (.cells #[.string ⟨#[124, 124]⟩, .string ⟨#[38, 38]⟩, .string ⟨#[61, 61]⟩, .string ⟨#[33, 61]⟩, .string ⟨#[60]⟩, .string ⟨#[60, 61]⟩, .string ⟨#[43]⟩, .string ⟨#[45]⟩, .string ⟨#[43, 43]⟩, .string ⟨#[42]⟩, .string ⟨#[47]⟩, .string ⟨#[37]⟩] 9) = W := ⟨_, rfl⟩
 have hb1 : Below w.heap.size w w1 := by rw [← hw]; exact (Below.refl _ _).alloc (Nat.le_refl _) _
 have hs1 : w.heap.size < w1.heap.size := by rw [← hw]; simp
 have hc : ∀ k, (h : k < sgL.length) → w1.cell? ⟨w.heap.size, k, none⟩ = some (sv sgL[k]) := fun k h => by
  have h' : k < 12 := h
  have hk : k = 0 ∨ k = 1 ∨ k = 2 ∨ k = 3 ∨ k = 4 ∨ k = 5 ∨ k = 6 ∨ k = 7 ∨ k = 8 ∨ k = 9 ∨ k = 10 ∨ k = 11 := by omega
  rw [← hw]
  rcases hk with rfl | rfl | rfl | rfl | rfl | rfl | rfl | rfl | rfl | rfl | rfl | rfl <;> (rw [Lib.cell_of_heap (alloc_at rfl)]; rfl)
 rw [hw]
 have HC := Lib.hid hc
 clear hc hw
 go_loopw [2, 3, 10] (fun u v i wr => ∃ k : Nat, k < op ∧ i = .int .i64 k ∧ wr = w1) (fun _ _ i _ => 12 - (intOf i).toNat)
 case atStart => exact ⟨0, by have := HOP.out; omega, rfl, rfl⟩
 case round =>
  obtain ⟨k, hk, rfl, rfl⟩ := hrel
  have hop := HOP.out
  have hk12 : k < sgL.length := by show k < 12; omega
  have x0 := HC.out k hk12
  obtain ⟨e1, e2⟩ := sg_bin hk12
  have hlt : (k : Int) < 12 := by omega
  have HE1 := Lib.hid e1
  have HE2 := Lib.hid e2
  clear e1 e2
  generalize sgL[k] = s at *
  clear hop
  go_wp2_with fail
  refine (binary_any s _).mono ?_; rintro e w3 ⟨rfl, rfl⟩
  rw [HE1.out]
  simp only
  by_cases hf : k + 1 = op
  ·have hd : decide (((k + 1 : Nat) : Int) = (op : Int)) = true := by simp; omega
   go_wp2_with fail
   go_ret2
   refine ⟨?_, hb1⟩
   rw [← hf, HE2.out]
   rfl
  ·have hd : decide (((k + 1 : Nat) : Int) = (op : Int)) = false := by simp; omega
   go_wp2_with fail
   go_roundw
   case rel => exact ⟨k + 1, by omega, by go_num, trivial⟩
   case measure => simp [intOf]; omega
abbrev exVal (k vk vn : Int) (vs n c : List UInt8) (o : Int) (a : Value) (p q r : Int) : Value := .agg #[nv k, nv vk, nv vn, sv vs, sv n, sv c, nv o, a, nv p, nv q, nv r]
abbrev exO (k vk vn : Int) (vs n c : List UInt8) (o : Int) (a : Value) (p q r : Int) : Obj := .cells #[nv k, nv vk, nv vn, sv vs, sv n, sv c, nv o, a, nv p, nv q, nv r] 59
section
variable (vk vn : Int) (vs n c : List UInt8) (a : Value) (p q r : Int)
theorem level_bin (op : Nat) (hop : 1 ≤ op ∧ op ≤ 12) (w : World) : Calls Tryz.prog 103 #[exVal 8 vk vn vs n c op a p q r] w fun e w' => e = .returned (nv (lvlS op)) ∧ Below w.heap.size w w' := by
 go_enter Tryz.func103, Tryz.ntmps103
 go_wp2_with fail
 refine (sign_any op hop _).mono ?_; rintro e w2 ⟨rfl, b2⟩
 go_wp2_with fail
 go_ret
 refine ⟨rfl, bthen ?_ b2⟩
 repeat (first | (with_reducible exact Below.refl _ _) | (with_reducible assumption) | refine Below.setCell ?_ (by simp <;> omega) _ | refine Below.alloc ?_ (by simp <;> omega) _ | refine Below.drew ?_)
theorem level_un (op : Int) (w : World) : Calls Tryz.prog 103 #[exVal 7 vk vn vs n c op a p q r] w fun e w' => e = .returned (nv 6) ∧ Below w.heap.size w w' := by
 go_enter Tryz.func103, Tryz.ntmps103
 go_wp2_with fail
 go_ret
 refine ⟨rfl, ?_⟩
 repeat (first | (with_reducible exact Below.refl _ _) | (with_reducible assumption) | refine Below.setCell ?_ (by simp <;> omega) _ | refine Below.alloc ?_ (by simp <;> omega) _ | refine Below.drew ?_)
theorem level_leaf (k op : Int) (h7 : k ≠ 7) (h8 : k ≠ 8) (w : World) : Calls Tryz.prog 103 #[exVal k vk vn vs n c op a p q r] w fun e w' => e = .returned (nv 7) ∧ Below w.heap.size w w' := by
 have d8 : decide (k = 8) = false := by simp [h8]
 have d7 : decide (k = 7) = false := by simp [h7]
 go_enter Tryz.func103, Tryz.ntmps103
 go_wp2_with fail
 go_ret
 refine ⟨rfl, ?_⟩
 repeat (first | (with_reducible exact Below.refl _ _) | (with_reducible assumption) | refine Below.setCell ?_ (by simp <;> omega) _ | refine Below.alloc ?_ (by simp <;> omega) _ | refine Below.drew ?_)
end
theorem level_any (x : Ex) (hx : okX x) (a : Value) (p q r : Int) (w : World) : Calls Tryz.prog 103 #[exVal (hdK x) (hdV x).k (hdV x).n (hdV x).s (hdN x) (hdC x) (hdO x : Nat) a p q r] w fun e w' => e = .returned (nv (lvlX x : Nat)) ∧ Below w.heap.size w w' := by
 cases x with
 | bin op x y => exact level_bin _ _ _ _ _ _ _ _ _ op hx.1 w
 | un op x => exact level_un _ _ _ _ _ _ _ _ _ _ w
 | _ => exact level_leaf _ _ _ _ _ _ _ _ _ _ _ (by simp [hdK]) (by simp [hdK]) w
end Go.Proofs.YtnbmpfdffoidaaaGreatDoor.Y
namespace Go.Proofs.YtnbmpfdffoidaaaGreatDoor.V
open Go O RowKit
theorem digN_mem (n : Nat) : ∀ c ∈ digN n, 48 ≤ c.toNat ∧ c.toNat ≤ 57 := by
 induction n using Nat.strongRecOn with
 | ind n ih =>
  by_cases h : n < 10
  ·rw [digN_lt h]
   intro c hc
   simp at hc
   subst hc
   simp
   omega
  ·rw [digN_ge (by omega)]
   intro c hc
   simp at hc
   rcases hc with hc | hc
   ·exact ih (n / 10) (by omega) c hc
   ·subst hc
    simp
    omega
theorem digN_cons (n : Nat) : ∃ c r, digN n = c :: r ∧ 48 ≤ c.toNat ∧ c.toNat ≤ 57 := by
 have hm := digN_mem n
 cases h : digN n with
 | nil =>
  exfalso
  by_cases g : n < 10
  ·rw [digN_lt g] at h; cases h
  ·rw [digN_ge (by omega)] at h; simp at h
 | cons c r => exact ⟨c, r, rfl, hm c (by rw [h]; simp)⟩
def numStep (n : Nat) (c : UInt8) : Nat := (10 * n + (c.toNat + 208) % 256) % 18446744073709551616
def numF (l : List UInt8) : Nat := l.foldl numStep 0
def toI (n : Nat) : Int := if n < 9223372036854775808 then n else (n : Int) - 18446744073709551616
def numS (s : List UInt8) : Int := match s with
 | [] => 0
 | c :: r => if c.toNat = 45 then toI ((18446744073709551616 - numF r) % 18446744073709551616) else toI (numF (c :: r))
def unqM : List UInt8 → List UInt8
 | [] => []
 | [c] => if c.toNat = 92 then [] else [c]
 | c :: d :: r => if c.toNat = 92 then d :: unqM r else c :: unqM (d :: r)
def unqR : List UInt8 → List UInt8
 | [] => []
 | [c] => [c]
 | c :: d :: r => if c.toNat = 92 then d :: unqR r else c :: unqR (d :: r)
def mid (s : List UInt8) : List UInt8 := (s.drop 1).take (s.length - 2)
def rstep (n : Int) (c : UInt8) : Int := if 48 ≤ c.toNat ∧ c.toNat ≤ 57 then wrap64 (wrap64 (wrap64 (n * 10) - c.toNat) + 48) else n
def rnum0 (s : List UInt8) : Int := s.foldl rstep 0
def rnum (s : List UInt8) : Int := if s.head?.map (·.toNat) = some 45 then rnum0 (s.take 21) else wrap64 (-rnum0 (s.take 21))
def goodV (v : Val) : Prop := right v = true ∧ -9223372036854775808 ≤ v.n ∧ v.n ≤ 9223372036854775807
end Go.Proofs.YtnbmpfdffoidaaaGreatDoor.V
namespace Go.Proofs.YtnbmpfdffoidaaaGreatDoor.V
open Go O RowKit
def cands (s : List UInt8) : List Val := [⟨1, numS s, []⟩, ⟨2, 1, []⟩, ⟨2, 0, []⟩, ⟨3, 0, unqM (mid s)⟩]
def fitP (s : List UInt8) (v : Val) : Bool := right v && printV v == s
def parseV (s : List UInt8) : Option Val := (cands s).find? (fitP s)
def parseR (s : List UInt8) : Option Val :=
 if s = [116, 114, 117, 101] then some ⟨2, 1, []⟩ else if s = [102, 97, 108, 115, 101] then some ⟨2, 0, []⟩
 else if 2 ≤ s.length ∧ s.head?.map (·.toNat) = some 34 then (if fitP s ⟨3, 0, unqR (mid s)⟩ then some ⟨3, 0, unqR (mid s)⟩ else none)
 else if decL (rnum s) = s then some ⟨1, rnum s, []⟩ else none
end Go.Proofs.YtnbmpfdffoidaaaGreatDoor.V
namespace Go.Proofs.YtnbmpfdffoidaaaGreatDoor.X
open O V S
theorem numV_snoc (l : List UInt8) (c : UInt8) : numV (l ++ [c]) = 10 * numV l + (c.toNat - 48) := by simp [numV]
theorem dig1 (n : Nat) (h : n < 10) : (UInt8.ofNat (48 + n)).toNat = 48 + n := by
 simp; omega
theorem numV_dig (n : Nat) : numV (digN n) = n := by
 induction n using Nat.strongRecOn with
 | _ n ih =>
  by_cases h : n < 10
  ·rw [digN_lt h]
   have := dig1 n h
   simp only [numV, List.foldl_cons, List.foldl_nil, this]
   omega
  ·rw [digN_ge (by omega), numV_snoc, ih (n / 10) (by omega), dig1 (n % 10) (by omega)]
   omega
theorem dig_pos (n : Nat) : 0 < (digN n).length := by
 obtain ⟨c, r, h, _⟩ := digN_cons n
 rw [h]; simp
theorem getD_app (a b : List UInt8) (h : 0 < a.length) : (a ++ b).getD 0 0 = a.getD 0 0 := by
 cases a with
 | nil => simp at h
 | cons _ _ => rfl
theorem dig_head (n : Nat) : ((digN n).getD 0 0).toNat ≠ 48 ∨ (digN n).length = 1 := by
 induction n using Nat.strongRecOn with
 | _ n ih =>
  by_cases h : n < 10
  ·right; rw [digN_lt h]; rfl
  ·left
   rw [digN_ge (by omega), getD_app _ _ (dig_pos _)]
   rcases ih (n / 10) (by omega) with h1 | h1
   ·exact h1
   ·intro h2
    obtain ⟨c, hc⟩ : ∃ c, digN (n / 10) = [c] := List.length_eq_one_iff.1 h1
    have h3 := numV_dig (n / 10)
    rw [hc] at h2 h3
    simp [numV] at h2 h3
    omega
end Go.Proofs.YtnbmpfdffoidaaaGreatDoor.X
namespace Go.Proofs.YtnbmpfdffoidaaaGreatDoor.Y
open O V S X
structure TokOk (t : Tok) : Prop where
 front : ∃ c r, t.2.1 = c :: r ∧ blankC c = false ∧ c.toNat ≠ 35
 lex : tokL t.2.1 = ⟨0, 0, t.1, t.2.1.length, t.2.2⟩
theorem TokOk.ne {t : Tok} (h : TokOk t) : t.2.1 ≠ [] := by obtain ⟨c, r, e, _⟩ := h.front; rw [e]; simp
theorem TokOk.skip {t : Tok} (h : TokOk t) (w : List UInt8) : skip (t.2.1 ++ w) = t.2.1 ++ w := by
 obtain ⟨c, r, e, h1, h2⟩ := h.front
 rw [e, List.cons_append, skip_stop _ h1 h2]
inductive Spread : List Tok → List UInt8 → Prop
 | fin {u : List UInt8} (h : X.skip u = []) : Spread [] u
 | last (t : Tok) (h : TokOk t) : Spread [t] t.2.1
 | more (t : Tok) {l : List Tok} {d : UInt8} {u v : List UInt8} (h : TokOk t) (hd : blankC d = true) (hv : X.skip u = X.skip v) (k : Spread l v) : Spread (t :: l) (t.2.1 ++ d :: u)
theorem Spread.lex {l : List Tok} {u : List UInt8} (h : Spread l u) : LexU u l 0 0 := by
 induction h with
 | fin h => exact .fin h
 | last t h =>
  have h1 := h.skip []
  rw [List.append_nil] at h1
  have := LexU.tok (l := []) (e := 0) (o := 0) h1 h.ne (by rw [h.lex]) (by
   rw [h.lex, List.drop_of_length_le (Nat.le_refl _)]
   exact .fin skip_nil)
  rw [h.lex, List.take_of_length_le (Nat.le_refl _)] at this
  exact this
 | @more t l d u v h hd hv k ih =>
  have hb := tok_app hd u t.2.1 h.ne (by rw [h.lex]; exact (by decide : (0 : Int) ≠ 12))
  rw [h.lex] at hb
  have := LexU.tok (l := l) (e := 0) (o := 0) (h.skip (d :: u)) (by simp) (by rw [hb]) (by
   rw [hb, List.drop_append_of_le_length (Nat.le_refl _), List.drop_of_length_le (Nat.le_refl _), List.nil_append]
   exact ih.congr (by rw [skip_blank _ hd]; exact hv))
  rw [hb, List.take_append_of_le_length (Nat.le_refl _), List.take_of_length_le (Nat.le_refl _)] at this
  exact this
theorem spread_joinB : ∀ l : List Tok, (∀ t ∈ l, TokOk t) → Spread l (joinB (l.map (·.2.1)))
 | [], _ => .fin (by simp [joinB, skip_nil])
 | [t], h => .last t (h t (by simp))
 | t :: y :: r, h => .more t (h t (by simp)) (by decide) rfl (spread_joinB (y :: r) fun x hx => h x (by simp at hx ⊢; exact .inr hx))
theorem runLen_all {p : UInt8 → Bool} : ∀ {l : List UInt8}, l.all p = true → runLen p l = l.length
 | [], _ => rfl
 | c :: r, h => by
  simp only [List.all_cons, Bool.and_eq_true] at h
  rw [runLen, if_pos h.1, runLen_all h.2]; rfl
theorem rest_word {c : UInt8} (h : restC c = true) : wordC c = true := by
 unfold restC otherC at h
 unfold wordC digitC
 simp only [Bool.or_eq_true] at h ⊢
 rcases h with h | h | h
 ·exact .inl h
 ·exact .inr (.inr h)
 ·exact .inr (.inl h)
theorem word_ok {s : List UInt8} (h : goodL s = true) (h1 : 1 ≤ s.length) (h2 : s.length ≤ 16) : TokOk (tw s) := by
 cases s with
 | nil => simp at h1
 | cons c r =>
  simp only [goodL, Bool.and_eq_true] at h
  have hc := h.1
  unfold smallC at hc
  simp only [Bool.and_eq_true, decide_eq_true_eq] at hc
  have hw : (c :: r).all wordC = true := by
   simp only [List.all_cons, Bool.and_eq_true]
   refine ⟨rest_word (by unfold restC; rw [h.1]; rfl), ?_⟩
   rw [List.all_eq_true] at h ⊢
   exact fun x hx => rest_word (h.2 x hx)
  have hr := runLen_all hw
  refine ⟨⟨c, r, rfl, by simp [blankC]; omega, by omega⟩, ?_⟩
  show tokL (c :: r) = _
  rw [tokL_cons, if_pos h.1, hr, if_neg (by simp at h2 ⊢; omega)]
  rfl
theorem name_ok {s : List UInt8} (h : isNameL s = true) : TokOk (tw s) := by
 have h3 := name_len h
 unfold isNameL at h
 simp only [Bool.and_eq_true, decide_eq_true_eq] at h
 exact word_ok h.1.1 h3.1 h3.2
theorem num_ok {n : Int} (h : 0 ≤ n ∧ n ≤ 9223372036854775807) : TokOk (tn n) := by
 have e : decL n = digN n.natAbs := by rw [decL, if_neg (by omega)]
 obtain ⟨c, r, hcr, h1, h2⟩ := digN_cons n.natAbs
 have ha : (digN n.natAbs).all digitC = true := by
  rw [List.all_eq_true]
  intro x hx
  have := digN_mem n.natAbs x hx
  simp [digitC]; omega
 have hr := runLen_all ha
 refine ⟨⟨c, r, by rw [← hcr, ← e]; rfl, by simp [blankC]; omega, by omega⟩, ?_⟩
 show tokL (decL n) = ⟨0, 0, 2, (decL n).length, ⟨1, n, []⟩⟩
 have hh := dig_head n.natAbs
 have hv := numV_dig n.natAbs
 rw [e]
 rw [hcr] at hr hh hv ⊢
 rw [tokL_cons, if_neg (by simp [smallC]; omega), if_pos (by simp [digitC]; omega), hr, List.take_of_length_le (Nat.le_refl _)]
 rw [if_pos (by
  unfold numOk
  rw [hv]
  simp only [Bool.and_eq_true, Bool.or_eq_true, decide_eq_true_eq]
  exact ⟨by omega, hh⟩), hv]
 rw [show ((n.natAbs : Nat) : Int) = n by omega]
theorem quo_esc (w : List UInt8) : ∀ (s : List UInt8), s.all V.okC = true → ∀ (k : Nat) (q : List UInt8), quoS (escL s ++ 34 :: w) k ⟨0, q, none⟩ = some ⟨k + (escL s).length, q ++ s, none⟩
 | [], _, k, q => by
  cases w with
  | nil => simp [escL, quoS]
  | cons d r => simp [escL, quoS]
 | c :: s, h, k, q => by
  simp only [List.all_cons, Bool.and_eq_true] at h
  have ih := quo_esc w s h.2
  have hok := h.1
  have hesc : escL (c :: s) = esc c ++ escL s := by simp [escL]
  rw [hesc]
  by_cases hc : c.toNat = 34 ∨ c.toNat = 92
  ·rw [show esc c = [92, c] by rw [esc, if_pos hc]]
   show quoS (92 :: c :: (escL s ++ 34 :: w)) k _ = _
   rw [quoS, if_neg (by decide), if_pos (by decide)]
   have hw : wrongC c = false := by unfold wrongC; simp; omega
   have he : escC c = true := by unfold escC; simpa using hc
   rw [he, hw]
   have := ih (k + 2) (q ++ [c])
   simp only [orE]
   rw [show (if ((!true || false : Bool) = true) then some (k + 1) else none : Option Nat) = none from rfl, this]
   simp; omega
  ·rw [show esc c = [c] by rw [esc, if_neg hc]]
   obtain ⟨d, r, hdr⟩ : ∃ d r, escL s ++ 34 :: w = d :: r := by
    cases hh : escL s with
    | nil => exact ⟨_, _, rfl⟩
    | cons x y => exact ⟨_, _, rfl⟩
   show quoS (c :: (escL s ++ 34 :: w)) k _ = _
   rw [hdr, quoS, if_neg (by omega), if_neg (by omega), ← hdr]
   have hw : wrongC c = false := by unfold V.okC at hok; unfold wrongC; simp at hok ⊢; omega
   rw [hw]
   have := ih (k + 1) (q ++ [c])
   simp only [orE]
   rw [show (if (false : Bool) = true then some k else none : Option Nat) = none from rfl, this]
   simp; omega
theorem text_ok {s : List UInt8} (h : plainL s = true) : TokOk (3, quoteL s, ⟨3, 0, s⟩) := by
 unfold plainL at h
 simp only [Bool.and_eq_true, decide_eq_true_eq] at h
 refine ⟨⟨34, escL s ++ [34], rfl, by decide, by decide⟩, ?_⟩
 show tokL (quoteL s) = ⟨0, 0, 3, (quoteL s).length, ⟨3, 0, s⟩⟩
 have hq := quo_esc [] s h.1 1 []
 have hq' : quoS ((quoteL s).drop 1) 1 ⟨0, [], none⟩ = some ⟨1 + (escL s).length, s, none⟩ := hq
 have e1 : tokL (quoteL s) = quoL (quoteL s) := by
  show tokL (34 :: (escL s ++ [34])) = _
  rw [tokL_cons, if_neg (by decide), if_neg (by decide), if_pos (by decide)]; rfl
 rw [e1, quoL_ok hq' rfl, if_neg (by simpa using h.2)]
 have : (quoteL s).length = 1 + (escL s).length + 1 := by simp [quoteL]; omega
 rw [this]
theorem val_ok {v : Val} (h : okV v) : TokOk (tv v) := by
 obtain ⟨k, n, s⟩ := v
 rcases right_cases h.1 with ⟨e, e2⟩ | ⟨e, e2, e3⟩ | ⟨e, e2, e3⟩
 ·simp only at e e2
  subst e e2
  have := h.2 rfl
  rw [tv, if_pos rfl]
  exact num_ok this
 ·simp only at e e2 e3
  subst e e2
  rw [tv, if_neg (by simp), if_pos rfl]
  split <;> exact word_ok (by decide) (by decide) (by decide)
 ·simp only at e e2 e3
  subst e e2
  rw [tv, if_neg (by simp), if_neg (by simp)]
  exact text_ok e3
theorem sign_ok {op : Nat} (h : 1 ≤ op ∧ op ≤ 12) : TokOk (tg (signS op)) := by
 have : op = 1 ∨ op = 2 ∨ op = 3 ∨ op = 4 ∨ op = 5 ∨ op = 6 ∨ op = 7 ∨ op = 8 ∨ op = 9 ∨ op = 10 ∨ op = 11 ∨ op = 12 := by omega
 rcases this with h | h | h | h | h | h | h | h | h | h | h | h <;> subst h <;> exact ⟨⟨_, _, rfl, by decide, by decide⟩, rfl⟩
def markL : List (List UInt8) := [[40], [41], [91], [93], [46], [44], [33], [45], [61], [59], [123], [125]]
theorem mark_ok : ∀ s ∈ markL, TokOk (tg s) := by
 intro s h
 simp only [markL, List.mem_cons, List.not_mem_nil, or_false] at h
 rcases h with h | h | h | h | h | h | h | h | h | h | h | h <;> subst h <;> exact ⟨⟨_, _, rfl, by decide, by decide⟩, rfl⟩
theorem kw_ok {s : List UInt8} (h : (goodL s && (decide (1 ≤ s.length) && decide (s.length ≤ 16))) = true) : TokOk (tw s) := by
 simp only [Bool.and_eq_true, decide_eq_true_eq] at h
 exact word_ok h.1 h.2.1 h.2.2
def AllOk (l : List Tok) : Prop := ∀ t ∈ l, TokOk t
theorem AllOk.nil : AllOk [] := fun _ h => by cases h
theorem AllOk.cons {t : Tok} {l : List Tok} (h : TokOk t) (k : AllOk l) : AllOk (t :: l) := fun x hx => by
 rcases List.mem_cons.1 hx with e | e
 ·rw [e]; exact h
 ·exact k x e
theorem AllOk.app {l m : List Tok} (h : AllOk l) (k : AllOk m) : AllOk (l ++ m) := fun x hx => by
 rcases List.mem_append.1 hx with e | e
 ·exact h x e
 ·exact k x e
theorem AllOk.w {s : List UInt8} {l : List Tok} (h : (goodL s && (decide (1 ≤ s.length) && decide (s.length ≤ 16))) = true) (k : AllOk l) : AllOk (tw s :: l) := .cons (kw_ok h) k
theorem AllOk.g {s : List UInt8} {l : List Tok} (h : s ∈ markL) (k : AllOk l) : AllOk (tg s :: l) := .cons (mark_ok s h) k
theorem AllOk.n {s : List UInt8} {l : List Tok} (h : isNameL s = true) (k : AllOk l) : AllOk (tw s :: l) := .cons (name_ok h) k
theorem AllOk.flat {α : Type} {f : α → List Tok} : ∀ {l : List α}, (∀ x ∈ l, AllOk (f x)) → AllOk (l.flatMap f)
 | [], _ => .nil
 | x :: r, h => by rw [List.flatMap_cons]; exact (h x (by simp)).app (AllOk.flat fun y hy => h y (by simp [hy]))
theorem br_ok {x : Ex} {least : Nat} {t : List Tok} (h : AllOk t) : AllOk (br x least t) := by
 unfold br
 split
 ·exact .g (by decide) (h.app (.g (by decide) .nil))
 ·exact h
theorem toks_ok : ∀ x, okX x → AllOk (toks0 x)
 | .val v, h => .cons (val_ok h) .nil
 | .var n, h => .n h .nil
 | .cell n c k, h => .n h.1 (.g (by decide) ((toks_ok k h.2.2).app (.g (by decide) (.g (by decide) (.n h.2.1 .nil)))))
 | .has n k, h => .w (by decide) (.g (by decide) (.n h.1 (.g (by decide) ((toks_ok k h.2).app (.g (by decide) .nil)))))
 | .sum n c a b, h => .w (by decide) (.g (by decide) (.n h.1 (.g (by decide) (.n h.2.1 (.g (by decide) ((toks_ok a h.2.2.1).app (.g (by decide) ((toks_ok b h.2.2.2).app (.g (by decide) .nil)))))))))
 | .cnt n a b, h => .w (by decide) (.g (by decide) (.n h.1 (.g (by decide) ((toks_ok a h.2.1).app (.g (by decide) ((toks_ok b h.2.2).app (.g (by decide) .nil)))))))
 | .un op a, h => by
  rw [toks0]
  refine .cons ?_ (br_ok (toks_ok a h.2))
  split <;> exact mark_ok _ (by decide)
 | .bin op a b, h => (br_ok (toks_ok a h.2.1)).app (.cons (sign_ok h.1) (br_ok (toks_ok b h.2.2)))
theorem els_ok {b : Sts} {t : List Tok} (h : AllOk t) : AllOk (elsT b t) := by
 cases b with
 | nil => exact .nil
 | cons s r => exact .w (by decide) (.g (by decide) (h.app (.g (by decide) .nil)))
mutual
theorem toksS_ok : ∀ s, okS s → AllOk (toksS s)
 | .let_ n e, h => by
  have h : isNameL n = true ∧ okX e := by simpa only [okS] using h
  rw [toksS]
  exact .w (by decide) (.n h.1 (.g (by decide) ((toks_ok e h.2).app (.g (by decide) .nil))))
 | .set n e, h => by
  have h : isNameL n = true ∧ okX e := by simpa only [okS] using h
  rw [toksS]
  exact .n h.1 (.g (by decide) ((toks_ok e h.2).app (.g (by decide) .nil)))
 | .put t c k e, h => by
  have h : isNameL t = true ∧ isNameL c = true ∧ okX k ∧ okX e := by simpa only [okS] using h
  rw [toksS]
  exact .n h.1 (.g (by decide) ((toks_ok k h.2.2.1).app (.g (by decide) (.g (by decide) (.n h.2.1 (.g (by decide) ((toks_ok e h.2.2.2).app (.g (by decide) .nil))))))))
 | .del t k, h => by
  have h : isNameL t = true ∧ okX k := by simpa only [okS] using h
  rw [toksS]
  exact .w (by decide) (.n h.1 (.g (by decide) ((toks_ok k h.2).app (.g (by decide) (.g (by decide) .nil)))))
 | .if_ e b els, h => by
  have h : okX e ∧ (okB b ∧ b.len ≤ 24) ∧ okB els ∧ els.len ≤ 24 := by simpa only [okS] using h
  rw [toksS]
  exact .w (by decide) ((toks_ok e h.1).app (.app (.g (by decide) ((toksB_ok b h.2.1.1).app (.g (by decide) .nil))) (els_ok (toksB_ok els h.2.2.1))))
 | .loop n name b, h => by
  have h : okNum n ∧ isNameL name = true ∧ okB b ∧ b.len ≤ 24 := by simpa only [okS] using h
  rw [toksS]
  exact .w (by decide) (.cons (num_ok h.1) (.n h.2.1 (.g (by decide) ((toksB_ok b h.2.2.1).app (.g (by decide) .nil)))))
 | .each n t lo hi k b, h => by
  have h : (isNameL n = true ∧ isNameL t = true) ∧ (okX lo ∧ okX hi) ∧ okNum k ∧ okB b ∧ b.len ≤ 24 := by simpa only [okS] using h
  rw [toksS]
  exact .w (by decide) (.n h.1.1 (.w (by decide) (.n h.1.2 (.w (by decide) ((toks_ok lo h.2.1.1).app (.w (by decide) ((toks_ok hi h.2.1.2).app (.w (by decide) (.cons (num_ok h.2.2.1) (.g (by decide) ((toksB_ok b h.2.2.2.1).app (.g (by decide) .nil))))))))))))
 | .roll, _ => by
  rw [toksS]
  exact .w (by decide) (.g (by decide) .nil)
 | .emit e, h => by
  have h : okX e := by simpa only [okS] using h
  rw [toksS]
  exact .w (by decide) ((toks_ok e h).app (.g (by decide) .nil))
theorem toksB_ok : ∀ b, okB b → AllOk (toksB b)
 | .nil, _ => by rw [toksB]; exact .nil
 | .cons s r, h => by
  have h : okS s ∧ okB r := by simpa only [okB] using h
  rw [toksB]
  exact (toksS_ok s h.1).app (toksB_ok r h.2)
end
theorem toksT_ok {k m : Int} (h : (k = 1 ∧ m = 0) ∨ (k = 2 ∧ m = 0) ∨ (k = 3 ∧ 1 ≤ m ∧ m ≤ 32)) : AllOk (toksT k m) := by
 unfold toksT
 split
 ·exact .w (by decide) .nil
 ·split
  ·exact .w (by decide) .nil
  ·exact .w (by decide) (.cons (num_ok (by omega)) .nil)
theorem toksC_ok {c : Cl} (h : okC c) : AllOk (toksC c) := .n h.n (toksT_ok h.t)
theorem toksTb_ok {t : Tb} (h : okT t) : AllOk (toksTb t) :=
 .w (by decide) (.n h.n (.w (by decide) (.cons (num_ok h.r) (.g (by decide) ((AllOk.flat fun c hc => (toksC_ok (h.c.2 c hc)).app (.g (by decide) .nil)).app (.g (by decide) .nil))))))
theorem toksPs_ok {l : List Cl} (h : ∀ c ∈ l, okC c) : AllOk (toksPs l) := by
 cases l with
 | nil => exact .nil
 | cons c r => exact (toksC_ok (h c (by simp))).app (AllOk.flat fun x hx => .g (by decide) (toksC_ok (h x (by simp [hx]))))
theorem toksP_ok {p : Pc} (h : okP p) : AllOk (toksP p) :=
 .w (by decide) (.n h.n (.g (by decide) ((toksPs_ok h.c.2).app (.g (by decide) (.g (by decide) ((toksB_ok p.body h.b.1.1).app (.g (by decide) .nil)))))))
theorem toksW_ok {w : Wk} (h : okW w) : AllOk (toksW w) := (AllOk.flat fun t ht => toksTb_ok (h.t.2 t ht)).app (AllOk.flat fun p hp => toksP_ok (h.p.2 p hp))
def txts (l : List Tok) : List (List UInt8) := l.map (·.2.1)
end Go.Proofs.YtnbmpfdffoidaaaGreatDoor.Y
namespace Go.Proofs.YtnbmpfdffoidaaaGreatDoor.Y
open Go.RowKit O V S X
theorem PsA.next {w w' : World} {g d : Nat} {A : Option Addr} {n c : Nat} {a b e : Int} {l : List Tok} (h : PsA w g A n c a b e d l) (bl : Below w.heap.size w w') : PsA w' g A n c a b e d l :=
 ⟨(bl.block g h.lt).trans h.box, h.row.keep fun k hk => bl.block k (Nat.lt_trans hk h.lt), h.ok, h.txt⟩
def LitR (g d : Nat) (l : List Tok) (w : World) (e : Ending) (w' : World) : Prop :=
 Mod [g] w w' ∧ match pLit l with
 | some v => e = .returned (.tuple #[vv v, .bool true]) ∧ Ps w' g d l.tail
 | none => (∃ a b s, e = .returned (.tuple #[.agg #[nv a, nv b, sv s], .bool false])) ∧ Ps w' g d l
theorem literal_any (g d : Nat) (l : List Tok) (w : World) (h : Ps w g d l) : Calls Tryz.prog 183 #[.pointer (some ⟨g, 0, none⟩)] w (LitR g d l w) := by
 have HS := Lib.hid h
 obtain ⟨A, n, c, ea, eb, ec, hp⟩ := h
 have hlen := hp.row.len
 have hcap := hp.row.cap
 obtain ⟨⟨x0, x4⟩, x1, x2, x3⟩ := hp.cells
 obtain ⟨xf0, xf4⟩ := hp.free
 have hlt := hp.lt
 have HP := Lib.hid hp
 have hne : g ≠ w.heap.size := by omega
 cases l with
 | nil =>
  obtain rfl : n = 0 := by simpa using hlen.symm
  clear hp
  go_enter Tryz.func183, Tryz.ntmps183
  go_wp2_with fail
  refine bodyPost_ret (v := .tuple #[.agg #[nv 0, nv 0, sv []], .bool false]) (by simp [results, Tryz.results183, go_sem]) rfl ?_
  exact ⟨(Mod.refl _ _).alloc _, ⟨_, _, _, rfl⟩, HS.out.alloc _⟩
 | cons t l =>
  obtain ⟨b, off, tp, tq, tr, rfl, hb, ⟨⟨y0, y1⟩, y2, y3, y4⟩, ⟨y5, y6⟩, y7⟩ := hp.row.head
  obtain ⟨tk, tt, tv⟩ := t
  dsimp only at y0 y1 y2 y3 y4
  have hn : 1 ≤ n := by simp at hlen; omega
  have hn0 : n ≠ 0 := by omega
  have hc1 : 1 ≤ c := by omega
  have hcn := hcap.1
  have hbw : b < w.heap.size := by omega
  by_cases h2 : tk = 2
  ·subst h2
   clear hp
   have hR : Hid (pLit ((2, tt, tv) :: l) = some tv) := Lib.hid rfl
   go_enter Tryz.func183, Tryz.ntmps183
   go_wp2_with fail
   go_region
   have hW : Hid (Below w.heap.size w ((((w.alloc (Obj.cells #[Value.int .i64 0, Value.int .i64 0, Value.string ⟨#[]⟩] 57)).alloc (Obj.cells #[nv 2, sv tt, nv tv.k, nv tv.n, sv tv.s, nv tp, nv tq, nv tr] 101)).alloc (Obj.cells #[nv tv.k, nv tv.n, sv tv.s] 57)).drew)) := Lib.hid (by repeat (first | exact Below.refl _ _ | refine Below.drew ?_ | refine Below.alloc ?_ (by simp <;> omega) _))
   have E0 : Hid ((((w.alloc (Obj.cells #[Value.int .i64 0, Value.int .i64 0, Value.string ⟨#[]⟩] 57)).alloc (Obj.cells #[nv 2, sv tt, nv tv.k, nv tv.n, sv tv.s, nv tp, nv tq, nv tr] 101)).alloc (Obj.cells #[nv tv.k, nv tv.n, sv tv.s] 57)).drew.heap[w.heap.size]? = some (.cells #[Value.int .i64 0, Value.int .i64 0, Value.string ⟨#[]⟩] 57 (0, 0))) := Lib.hid (alloc_old' (alloc_old' (alloc_at rfl)))
   have E1 : Hid ((((w.alloc (Obj.cells #[Value.int .i64 0, Value.int .i64 0, Value.string ⟨#[]⟩] 57)).alloc (Obj.cells #[nv 2, sv tt, nv tv.k, nv tv.n, sv tv.s, nv tp, nv tq, nv tr] 101)).alloc (Obj.cells #[nv tv.k, nv tv.n, sv tv.s] 57)).drew.heap[w.heap.size + 1]? = some (.cells #[nv 2, sv tt, nv tv.k, nv tv.n, sv tv.s, nv tp, nv tq, nv tr] 101 (0, 0))) := Lib.hid (alloc_old' (alloc_at (by simp)))
   have E2 : Hid ((((w.alloc (Obj.cells #[Value.int .i64 0, Value.int .i64 0, Value.string ⟨#[]⟩] 57)).alloc (Obj.cells #[nv 2, sv tt, nv tv.k, nv tv.n, sv tv.s, nv tp, nv tq, nv tr] 101)).alloc (Obj.cells #[nv tv.k, nv tv.n, sv tv.s] 57)).drew.heap[w.heap.size + 1 + 1]? = some (.cells #[nv tv.k, nv tv.n, sv tv.s] 57 (0, 0))) := Lib.hid (alloc_at (by simp))
   obtain ⟨W, hWW⟩ : ∃ W, (((w.alloc (Obj.cells #[Value.int .i64 0, Value.int .i64 0, Value.string ⟨#[]⟩] 57)).alloc (Obj.cells #[nv 2, sv tt, nv tv.k, nv tv.n, sv tv.s, nv tp, nv tq, nv tr] 101)).alloc (Obj.cells #[nv tv.k, nv tv.n, sv tv.s] 57)).drew = W := ⟨_, rfl⟩
   rw [hWW] at hW E0 E1 E2 ⊢
   clear hWW
   have x0 : W.cell? ⟨g, 0, none⟩ = some (.slice (some ⟨b, off, none⟩) n c) := by rw [Lib.cell_of_heap ((hW.out.block g hlt).trans HP.out.box)]; rfl
   have xf0 : W.frozen? ⟨g, 0, none⟩ = false := Lib.frozen_of_heap ((hW.out.block g hlt).trans HP.out.box) 0
   have z0 : W.cell? ⟨w.heap.size + 1, 0, none⟩ = some (nv 2) := by rw [Lib.cell_of_heap E1.out]; rfl
   have z1 : W.cell? ⟨w.heap.size + 1, 1, none⟩ = some (sv tt) := by rw [Lib.cell_of_heap E1.out]; rfl
   obtain ⟨v0, v1, v2⟩ := cells3 E2.out
   have vf := fun j => Lib.frozen_of_heap E2.out j
   have vf0 := vf 0
   have vf1 := vf 1
   have vf2 := vf 2
   clear vf
   obtain ⟨r0, r1, r2⟩ := cells3 E0.out
   have rf := fun j => Lib.frozen_of_heap E0.out j
   have rf0 := rf 0
   have rf1 := rf 1
   have rf2 := rf 2
   clear rf
   have hgb : g ≠ w.heap.size + 1 + 1 := by omega
   have hWs : Hid (w.heap.size + 1 + 1 < W.heap.size) := Lib.hid (Array.getElem?_eq_some_iff.1 E2.out).1
   go_wp2_with fail
   ·refine bodyPost_ret (v := .tuple #[vv tv, .bool true]) (by simp [results, Tryz.results183, go_sem, vv, r0, r1, r2, hne, hne.symm]) rfl ?_
    unfold LitR
    rw [hR.out]
    refine ⟨?_, rfl, ?_⟩
    ·repeat (first | (with_reducible exact Mod.of_below hW.out) | refine Mod.set ?_ (.inr (by omega)) _ | refine Mod.set ?_ (.inl (by simp)) _)
    ·repeat (refine Ps.set ?_ (by omega) _)
     refine (HP.out.past ?_ 0 rfl (A' := some ⟨b, off, none⟩) (c' := 0) (fun h => absurd (by assumption) h) rfl (by omega)).2
     repeat (first | (with_reducible exact hW.out) | refine Below.setCell ?_ (by simp only; omega) _)
   ·refine bodyPost_ret (v := .tuple #[vv tv, .bool true]) (by simp [results, Tryz.results183, go_sem, vv, r0, r1, r2, hne, hne.symm]) rfl ?_
    unfold LitR
    rw [hR.out]
    refine ⟨?_, rfl, ?_⟩
    ·repeat (first | (with_reducible exact Mod.of_below hW.out) | refine Mod.set ?_ (.inr (by omega)) _ | refine Mod.set ?_ (.inl (by simp)) _)
    ·repeat (refine Ps.set ?_ (by omega) _)
     refine (HP.out.past ?_ 0 rfl (A' := some ⟨b, off + 8, none⟩) (fun _ => rfl) rfl rfl).2
     repeat (first | (with_reducible exact hW.out) | refine Below.setCell ?_ (by simp only; omega) _)
  ·by_cases h3 : tk = 3
   ·subst h3
    clear hp
    have hR : Hid (pLit ((3, tt, tv) :: l) = some tv) := Lib.hid rfl
    go_enter Tryz.func183, Tryz.ntmps183
    go_wp2_with fail
    go_region
    have hW : Hid (Below w.heap.size w ((((w.alloc (Obj.cells #[Value.int .i64 0, Value.int .i64 0, Value.string ⟨#[]⟩] 57)).alloc (Obj.cells #[nv 3, sv tt, nv tv.k, nv tv.n, sv tv.s, nv tp, nv tq, nv tr] 101)).alloc (Obj.cells #[nv tv.k, nv tv.n, sv tv.s] 57)).drew)) := Lib.hid (by repeat (first | exact Below.refl _ _ | refine Below.drew ?_ | refine Below.alloc ?_ (by simp <;> omega) _))
    have E0 : Hid ((((w.alloc (Obj.cells #[Value.int .i64 0, Value.int .i64 0, Value.string ⟨#[]⟩] 57)).alloc (Obj.cells #[nv 3, sv tt, nv tv.k, nv tv.n, sv tv.s, nv tp, nv tq, nv tr] 101)).alloc (Obj.cells #[nv tv.k, nv tv.n, sv tv.s] 57)).drew.heap[w.heap.size]? = some (.cells #[Value.int .i64 0, Value.int .i64 0, Value.string ⟨#[]⟩] 57 (0, 0))) := Lib.hid (alloc_old' (alloc_old' (alloc_at rfl)))
    have E1 : Hid ((((w.alloc (Obj.cells #[Value.int .i64 0, Value.int .i64 0, Value.string ⟨#[]⟩] 57)).alloc (Obj.cells #[nv 3, sv tt, nv tv.k, nv tv.n, sv tv.s, nv tp, nv tq, nv tr] 101)).alloc (Obj.cells #[nv tv.k, nv tv.n, sv tv.s] 57)).drew.heap[w.heap.size + 1]? = some (.cells #[nv 3, sv tt, nv tv.k, nv tv.n, sv tv.s, nv tp, nv tq, nv tr] 101 (0, 0))) := Lib.hid (alloc_old' (alloc_at (by simp)))
    have E2 : Hid ((((w.alloc (Obj.cells #[Value.int .i64 0, Value.int .i64 0, Value.string ⟨#[]⟩] 57)).alloc (Obj.cells #[nv 3, sv tt, nv tv.k, nv tv.n, sv tv.s, nv tp, nv tq, nv tr] 101)).alloc (Obj.cells #[nv tv.k, nv tv.n, sv tv.s] 57)).drew.heap[w.heap.size + 1 + 1]? = some (.cells #[nv tv.k, nv tv.n, sv tv.s] 57 (0, 0))) := Lib.hid (alloc_at (by simp))
    obtain ⟨W, hWW⟩ : ∃ W, (((w.alloc (Obj.cells #[Value.int .i64 0, Value.int .i64 0, Value.string ⟨#[]⟩] 57)).alloc (Obj.cells #[nv 3, sv tt, nv tv.k, nv tv.n, sv tv.s, nv tp, nv tq, nv tr] 101)).alloc (Obj.cells #[nv tv.k, nv tv.n, sv tv.s] 57)).drew = W := ⟨_, rfl⟩
    rw [hWW] at hW E0 E1 E2 ⊢
    clear hWW
    have x0 : W.cell? ⟨g, 0, none⟩ = some (.slice (some ⟨b, off, none⟩) n c) := by rw [Lib.cell_of_heap ((hW.out.block g hlt).trans HP.out.box)]; rfl
    have xf0 : W.frozen? ⟨g, 0, none⟩ = false := Lib.frozen_of_heap ((hW.out.block g hlt).trans HP.out.box) 0
    have z0 : W.cell? ⟨w.heap.size + 1, 0, none⟩ = some (nv 3) := by rw [Lib.cell_of_heap E1.out]; rfl
    have z1 : W.cell? ⟨w.heap.size + 1, 1, none⟩ = some (sv tt) := by rw [Lib.cell_of_heap E1.out]; rfl
    obtain ⟨v0, v1, v2⟩ := cells3 E2.out
    have vf := fun j => Lib.frozen_of_heap E2.out j
    have vf0 := vf 0
    have vf1 := vf 1
    have vf2 := vf 2
    clear vf
    obtain ⟨r0, r1, r2⟩ := cells3 E0.out
    have rf := fun j => Lib.frozen_of_heap E0.out j
    have rf0 := rf 0
    have rf1 := rf 1
    have rf2 := rf 2
    clear rf
    have hgb : g ≠ w.heap.size + 1 + 1 := by omega
    have hWs : Hid (w.heap.size + 1 + 1 < W.heap.size) := Lib.hid (Array.getElem?_eq_some_iff.1 E2.out).1
    go_wp2_with fail
    ·refine bodyPost_ret (v := .tuple #[vv tv, .bool true]) (by simp [results, Tryz.results183, go_sem, vv, r0, r1, r2, hne, hne.symm]) rfl ?_
     unfold LitR
     rw [hR.out]
     refine ⟨?_, rfl, ?_⟩
     ·repeat (first | (with_reducible exact Mod.of_below hW.out) | refine Mod.set ?_ (.inr (by omega)) _ | refine Mod.set ?_ (.inl (by simp)) _)
     ·repeat (refine Ps.set ?_ (by omega) _)
      refine (HP.out.past ?_ 0 rfl (A' := some ⟨b, off, none⟩) (c' := 0) (fun h => absurd (by assumption) h) rfl (by omega)).2
      repeat (first | (with_reducible exact hW.out) | refine Below.setCell ?_ (by simp only; omega) _)
    ·refine bodyPost_ret (v := .tuple #[vv tv, .bool true]) (by simp [results, Tryz.results183, go_sem, vv, r0, r1, r2, hne, hne.symm]) rfl ?_
     unfold LitR
     rw [hR.out]
     refine ⟨?_, rfl, ?_⟩
     ·repeat (first | (with_reducible exact Mod.of_below hW.out) | refine Mod.set ?_ (.inr (by omega)) _ | refine Mod.set ?_ (.inl (by simp)) _)
     ·repeat (refine Ps.set ?_ (by omega) _)
      refine (HP.out.past ?_ 0 rfl (A' := some ⟨b, off + 8, none⟩) (fun _ => rfl) rfl rfl).2
      repeat (first | (with_reducible exact hW.out) | refine Below.setCell ?_ (by simp only; omega) _)
   ·have e2 : (tk == 2) = false := by simpa using h2
    have e3 : (tk == 3) = false := by simpa using h3
    by_cases h1 : tk = 1
    ·subst h1
     by_cases ht : tt = [116, 114, 117, 101]
     ·subst ht
      clear hp h2 h3
      have hR : Hid (pLit ((1, [116, 114, 117, 101], tv) :: l) = some ⟨2, 1, []⟩) := Lib.hid rfl
      go_enter Tryz.func183, Tryz.ntmps183
      go_wp2_with fail
      go_region
      have hW : Hid (Below w.heap.size w ((((w.alloc (Obj.cells #[Value.int .i64 0, Value.int .i64 0, Value.string ⟨#[]⟩] 57)).alloc (Obj.cells #[nv 1, sv [116, 114, 117, 101], nv tv.k, nv tv.n, sv tv.s, nv tp, nv tq, nv tr] 101)).alloc (Obj.cells #[nv tv.k, nv tv.n, sv tv.s] 57)).drew)) := Lib.hid (by repeat (first | exact Below.refl _ _ | refine Below.drew ?_ | refine Below.alloc ?_ (by simp <;> omega) _))
      have E0 : Hid ((((w.alloc (Obj.cells #[Value.int .i64 0, Value.int .i64 0, Value.string ⟨#[]⟩] 57)).alloc (Obj.cells #[nv 1, sv [116, 114, 117, 101], nv tv.k, nv tv.n, sv tv.s, nv tp, nv tq, nv tr] 101)).alloc (Obj.cells #[nv tv.k, nv tv.n, sv tv.s] 57)).drew.heap[w.heap.size]? = some (.cells #[Value.int .i64 0, Value.int .i64 0, Value.string ⟨#[]⟩] 57 (0, 0))) := Lib.hid (alloc_old' (alloc_old' (alloc_at rfl)))
      have E1 : Hid ((((w.alloc (Obj.cells #[Value.int .i64 0, Value.int .i64 0, Value.string ⟨#[]⟩] 57)).alloc (Obj.cells #[nv 1, sv [116, 114, 117, 101], nv tv.k, nv tv.n, sv tv.s, nv tp, nv tq, nv tr] 101)).alloc (Obj.cells #[nv tv.k, nv tv.n, sv tv.s] 57)).drew.heap[w.heap.size + 1]? = some (.cells #[nv 1, sv [116, 114, 117, 101], nv tv.k, nv tv.n, sv tv.s, nv tp, nv tq, nv tr] 101 (0, 0))) := Lib.hid (alloc_old' (alloc_at (by simp)))
      have E2 : Hid ((((w.alloc (Obj.cells #[Value.int .i64 0, Value.int .i64 0, Value.string ⟨#[]⟩] 57)).alloc (Obj.cells #[nv 1, sv [116, 114, 117, 101], nv tv.k, nv tv.n, sv tv.s, nv tp, nv tq, nv tr] 101)).alloc (Obj.cells #[nv tv.k, nv tv.n, sv tv.s] 57)).drew.heap[w.heap.size + 1 + 1]? = some (.cells #[nv tv.k, nv tv.n, sv tv.s] 57 (0, 0))) := Lib.hid (alloc_at (by simp))
      obtain ⟨W, hWW⟩ : ∃ W, (((w.alloc (Obj.cells #[Value.int .i64 0, Value.int .i64 0, Value.string ⟨#[]⟩] 57)).alloc (Obj.cells #[nv 1, sv [116, 114, 117, 101], nv tv.k, nv tv.n, sv tv.s, nv tp, nv tq, nv tr] 101)).alloc (Obj.cells #[nv tv.k, nv tv.n, sv tv.s] 57)).drew = W := ⟨_, rfl⟩
      rw [hWW] at hW E0 E1 E2 ⊢
      clear hWW
      have x0 : W.cell? ⟨g, 0, none⟩ = some (.slice (some ⟨b, off, none⟩) n c) := by rw [Lib.cell_of_heap ((hW.out.block g hlt).trans HP.out.box)]; rfl
      have xf0 : W.frozen? ⟨g, 0, none⟩ = false := Lib.frozen_of_heap ((hW.out.block g hlt).trans HP.out.box) 0
      have z0 : W.cell? ⟨w.heap.size + 1, 0, none⟩ = some (nv 1) := by rw [Lib.cell_of_heap E1.out]; rfl
      have z1 : W.cell? ⟨w.heap.size + 1, 1, none⟩ = some (sv [116, 114, 117, 101]) := by rw [Lib.cell_of_heap E1.out]; rfl
      obtain ⟨v0, v1, v2⟩ := cells3 E2.out
      have vf := fun j => Lib.frozen_of_heap E2.out j
      have vf0 := vf 0
      have vf1 := vf 1
      have vf2 := vf 2
      clear vf
      obtain ⟨r0, r1, r2⟩ := cells3 E0.out
      have rf := fun j => Lib.frozen_of_heap E0.out j
      have rf0 := rf 0
      have rf1 := rf 1
      have rf2 := rf 2
      clear rf
      have hgb : g ≠ w.heap.size + 1 + 1 := by omega
      have hWs : Hid (w.heap.size + 1 + 1 < W.heap.size) := Lib.hid (Array.getElem?_eq_some_iff.1 E2.out).1
      go_wp2_with fail
      refine (bool_any _ _).mono ?_; rintro e w5 ⟨rfl, b5⟩
      have HB5 := Lib.hid b5
      unfold vv
      have u0 : w5.cell? ⟨g, 0, none⟩ = some (.slice (some ⟨b, off, none⟩) n c) := (b5.cell (p := ⟨g, 0, none⟩) (Nat.lt_of_lt_of_le hlt hW.out.size)).trans x0
      have uf0 : w5.frozen? ⟨g, 0, none⟩ = false := (b5.frozen (p := ⟨g, 0, none⟩) (Nat.lt_of_lt_of_le hlt hW.out.size)).trans xf0
      have E05 := Lib.hid (box_next E0.out b5)
      have E25 := Lib.hid (box_next E2.out b5)
      have hW5 := Lib.hid (bthen hW.out b5)
      clear b5 x0 xf0 z0 z1 v0 v1 v2 vf0 vf1 vf2 r0 r1 r2 rf0 rf1 rf2 E0 E1 E2 hW hWs HB5
      obtain ⟨r0, r1, r2⟩ := cells3 E05.out
      have rf := fun j => Lib.frozen_of_heap E05.out j
      have rf0 := rf 0
      have rf1 := rf 1
      have rf2 := rf 2
      clear rf
      obtain ⟨v0, v1, v2⟩ := cells3 E25.out
      have vf := fun j => Lib.frozen_of_heap E25.out j
      have vf0 := vf 0
      have vf1 := vf 1
      have vf2 := vf 2
      clear vf
      have hW := hW5
      clear hW5
      clear W
      generalize w5 = W at *
      go_wp2_with fail
      ·refine bodyPost_ret (v := .tuple #[vv (⟨2, 1, []⟩ : Val), .bool true]) (by simp [results, Tryz.results183, go_sem, vv, r0, r1, r2, hne, hne.symm]) rfl ?_
       unfold LitR
       rw [hR.out]
       refine ⟨?_, rfl, ?_⟩
       ·repeat (first | (with_reducible exact Mod.of_below hW.out) | refine Mod.set ?_ (.inr (by omega)) _ | refine Mod.set ?_ (.inl (by simp)) _)
       ·repeat (refine Ps.set ?_ (by omega) _)
        refine (HP.out.past ?_ 0 rfl (A' := some ⟨b, off, none⟩) (c' := 0) (fun h => absurd (by assumption) h) rfl (by omega)).2
        repeat (first | (with_reducible exact hW.out) | refine Below.setCell ?_ (by simp only; omega) _)
      ·refine bodyPost_ret (v := .tuple #[vv (⟨2, 1, []⟩ : Val), .bool true]) (by simp [results, Tryz.results183, go_sem, vv, r0, r1, r2, hne, hne.symm]) rfl ?_
       unfold LitR
       rw [hR.out]
       refine ⟨?_, rfl, ?_⟩
       ·repeat (first | (with_reducible exact Mod.of_below hW.out) | refine Mod.set ?_ (.inr (by omega)) _ | refine Mod.set ?_ (.inl (by simp)) _)
       ·repeat (refine Ps.set ?_ (by omega) _)
        refine (HP.out.past ?_ 0 rfl (A' := some ⟨b, off + 8, none⟩) (fun _ => rfl) rfl rfl).2
        repeat (first | (with_reducible exact hW.out) | refine Below.setCell ?_ (by simp only; omega) _)
     ·by_cases hf : tt = [102, 97, 108, 115, 101]
      ·subst hf
       clear hp h2 h3 ht
       have hR : Hid (pLit ((1, [102, 97, 108, 115, 101], tv) :: l) = some ⟨2, 0, []⟩) := Lib.hid rfl
       go_enter Tryz.func183, Tryz.ntmps183
       go_wp2_with fail
       go_region
       have hW : Hid (Below w.heap.size w ((((w.alloc (Obj.cells #[Value.int .i64 0, Value.int .i64 0, Value.string ⟨#[]⟩] 57)).alloc (Obj.cells #[nv 1, sv [102, 97, 108, 115, 101], nv tv.k, nv tv.n, sv tv.s, nv tp, nv tq, nv tr] 101)).alloc (Obj.cells #[nv tv.k, nv tv.n, sv tv.s] 57)).drew)) := Lib.hid (by repeat (first | exact Below.refl _ _ | refine Below.drew ?_ | refine Below.alloc ?_ (by simp <;> omega) _))
       have E0 : Hid ((((w.alloc (Obj.cells #[Value.int .i64 0, Value.int .i64 0, Value.string ⟨#[]⟩] 57)).alloc (Obj.cells #[nv 1, sv [102, 97, 108, 115, 101], nv tv.k, nv tv.n, sv tv.s, nv tp, nv tq, nv tr] 101)).alloc (Obj.cells #[nv tv.k, nv tv.n, sv tv.s] 57)).drew.heap[w.heap.size]? = some (.cells #[Value.int .i64 0, Value.int .i64 0, Value.string ⟨#[]⟩] 57 (0, 0))) := Lib.hid (alloc_old' (alloc_old' (alloc_at rfl)))
       have E1 : Hid ((((w.alloc (Obj.cells #[Value.int .i64 0, Value.int .i64 0, Value.string ⟨#[]⟩] 57)).alloc (Obj.cells #[nv 1, sv [102, 97, 108, 115, 101], nv tv.k, nv tv.n, sv tv.s, nv tp, nv tq, nv tr] 101)).alloc (Obj.cells #[nv tv.k, nv tv.n, sv tv.s] 57)).drew.heap[w.heap.size + 1]? = some (.cells #[nv 1, sv [102, 97, 108, 115, 101], nv tv.k, nv tv.n, sv tv.s, nv tp, nv tq, nv tr] 101 (0, 0))) := Lib.hid (alloc_old' (alloc_at (by simp)))
       have E2 : Hid ((((w.alloc (Obj.cells #[Value.int .i64 0, Value.int .i64 0, Value.string ⟨#[]⟩] 57)).alloc (Obj.cells #[nv 1, sv [102, 97, 108, 115, 101], nv tv.k, nv tv.n, sv tv.s, nv tp, nv tq, nv tr] 101)).alloc (Obj.cells #[nv tv.k, nv tv.n, sv tv.s] 57)).drew.heap[w.heap.size + 1 + 1]? = some (.cells #[nv tv.k, nv tv.n, sv tv.s] 57 (0, 0))) := Lib.hid (alloc_at (by simp))
       obtain ⟨W, hWW⟩ : ∃ W, (((w.alloc (Obj.cells #[Value.int .i64 0, Value.int .i64 0, Value.string ⟨#[]⟩] 57)).alloc (Obj.cells #[nv 1, sv [102, 97, 108, 115, 101], nv tv.k, nv tv.n, sv tv.s, nv tp, nv tq, nv tr] 101)).alloc (Obj.cells #[nv tv.k, nv tv.n, sv tv.s] 57)).drew = W := ⟨_, rfl⟩
       rw [hWW] at hW E0 E1 E2 ⊢
       clear hWW
       have x0 : W.cell? ⟨g, 0, none⟩ = some (.slice (some ⟨b, off, none⟩) n c) := by rw [Lib.cell_of_heap ((hW.out.block g hlt).trans HP.out.box)]; rfl
       have xf0 : W.frozen? ⟨g, 0, none⟩ = false := Lib.frozen_of_heap ((hW.out.block g hlt).trans HP.out.box) 0
       have z0 : W.cell? ⟨w.heap.size + 1, 0, none⟩ = some (nv 1) := by rw [Lib.cell_of_heap E1.out]; rfl
       have z1 : W.cell? ⟨w.heap.size + 1, 1, none⟩ = some (sv [102, 97, 108, 115, 101]) := by rw [Lib.cell_of_heap E1.out]; rfl
       obtain ⟨v0, v1, v2⟩ := cells3 E2.out
       have vf := fun j => Lib.frozen_of_heap E2.out j
       have vf0 := vf 0
       have vf1 := vf 1
       have vf2 := vf 2
       clear vf
       obtain ⟨r0, r1, r2⟩ := cells3 E0.out
       have rf := fun j => Lib.frozen_of_heap E0.out j
       have rf0 := rf 0
       have rf1 := rf 1
       have rf2 := rf 2
       clear rf
       have hgb : g ≠ w.heap.size + 1 + 1 := by omega
       have hWs : Hid (w.heap.size + 1 + 1 < W.heap.size) := Lib.hid (Array.getElem?_eq_some_iff.1 E2.out).1
       go_wp2_with fail
       refine (bool_any _ _).mono ?_; rintro e w5 ⟨rfl, b5⟩
       have HB5 := Lib.hid b5
       unfold vv
       have u0 : w5.cell? ⟨g, 0, none⟩ = some (.slice (some ⟨b, off, none⟩) n c) := (b5.cell (p := ⟨g, 0, none⟩) (Nat.lt_of_lt_of_le hlt hW.out.size)).trans x0
       have uf0 : w5.frozen? ⟨g, 0, none⟩ = false := (b5.frozen (p := ⟨g, 0, none⟩) (Nat.lt_of_lt_of_le hlt hW.out.size)).trans xf0
       have E05 := Lib.hid (box_next E0.out b5)
       have E25 := Lib.hid (box_next E2.out b5)
       have hW5 := Lib.hid (bthen hW.out b5)
       clear b5 x0 xf0 z0 z1 v0 v1 v2 vf0 vf1 vf2 r0 r1 r2 rf0 rf1 rf2 E0 E1 E2 hW hWs HB5
       obtain ⟨r0, r1, r2⟩ := cells3 E05.out
       have rf := fun j => Lib.frozen_of_heap E05.out j
       have rf0 := rf 0
       have rf1 := rf 1
       have rf2 := rf 2
       clear rf
       obtain ⟨v0, v1, v2⟩ := cells3 E25.out
       have vf := fun j => Lib.frozen_of_heap E25.out j
       have vf0 := vf 0
       have vf1 := vf 1
       have vf2 := vf 2
       clear vf
       have hW := hW5
       clear hW5
       clear W
       generalize w5 = W at *
       go_wp2_with fail
       ·refine bodyPost_ret (v := .tuple #[vv (⟨2, 0, []⟩ : Val), .bool true]) (by simp [results, Tryz.results183, go_sem, vv, r0, r1, r2, hne, hne.symm]) rfl ?_
        unfold LitR
        rw [hR.out]
        refine ⟨?_, rfl, ?_⟩
        ·repeat (first | (with_reducible exact Mod.of_below hW.out) | refine Mod.set ?_ (.inr (by omega)) _ | refine Mod.set ?_ (.inl (by simp)) _)
        ·repeat (refine Ps.set ?_ (by omega) _)
         refine (HP.out.past ?_ 0 rfl (A' := some ⟨b, off, none⟩) (c' := 0) (fun h => absurd (by assumption) h) rfl (by omega)).2
         repeat (first | (with_reducible exact hW.out) | refine Below.setCell ?_ (by simp only; omega) _)
       ·refine bodyPost_ret (v := .tuple #[vv (⟨2, 0, []⟩ : Val), .bool true]) (by simp [results, Tryz.results183, go_sem, vv, r0, r1, r2, hne, hne.symm]) rfl ?_
        unfold LitR
        rw [hR.out]
        refine ⟨?_, rfl, ?_⟩
        ·repeat (first | (with_reducible exact Mod.of_below hW.out) | refine Mod.set ?_ (.inr (by omega)) _ | refine Mod.set ?_ (.inl (by simp)) _)
        ·repeat (refine Ps.set ?_ (by omega) _)
         refine (HP.out.past ?_ 0 rfl (A' := some ⟨b, off + 8, none⟩) (fun _ => rfl) rfl rfl).2
         repeat (first | (with_reducible exact hW.out) | refine Below.setCell ?_ (by simp only; omega) _)
      ·have hR : Hid (pLit ((1, tt, tv) :: l) = none) := Lib.hid (by simp [pLit, w_true, w_false, ht, hf])
       have e4 : (tt == [116, 114, 117, 101]) = false := by simpa using ht
       have e5 : (tt == [102, 97, 108, 115, 101]) = false := by simpa using hf
       clear hp h2 h3
       go_enter Tryz.func183, Tryz.ntmps183
       go_wp2_with fail
       go_region
       have hW : Hid (Below w.heap.size w ((((w.alloc (Obj.cells #[Value.int .i64 0, Value.int .i64 0, Value.string ⟨#[]⟩] 57)).alloc (Obj.cells #[nv 1, sv tt, nv tv.k, nv tv.n, sv tv.s, nv tp, nv tq, nv tr] 101)).alloc (Obj.cells #[nv tv.k, nv tv.n, sv tv.s] 57)).drew)) := Lib.hid (by repeat (first | exact Below.refl _ _ | refine Below.drew ?_ | refine Below.alloc ?_ (by simp <;> omega) _))
       have E0 : Hid ((((w.alloc (Obj.cells #[Value.int .i64 0, Value.int .i64 0, Value.string ⟨#[]⟩] 57)).alloc (Obj.cells #[nv 1, sv tt, nv tv.k, nv tv.n, sv tv.s, nv tp, nv tq, nv tr] 101)).alloc (Obj.cells #[nv tv.k, nv tv.n, sv tv.s] 57)).drew.heap[w.heap.size]? = some (.cells #[Value.int .i64 0, Value.int .i64 0, Value.string ⟨#[]⟩] 57 (0, 0))) := Lib.hid (alloc_old' (alloc_old' (alloc_at rfl)))
       have E1 : Hid ((((w.alloc (Obj.cells #[Value.int .i64 0, Value.int .i64 0, Value.string ⟨#[]⟩] 57)).alloc (Obj.cells #[nv 1, sv tt, nv tv.k, nv tv.n, sv tv.s, nv tp, nv tq, nv tr] 101)).alloc (Obj.cells #[nv tv.k, nv tv.n, sv tv.s] 57)).drew.heap[w.heap.size + 1]? = some (.cells #[nv 1, sv tt, nv tv.k, nv tv.n, sv tv.s, nv tp, nv tq, nv tr] 101 (0, 0))) := Lib.hid (alloc_old' (alloc_at (by simp)))
       have E2 : Hid ((((w.alloc (Obj.cells #[Value.int .i64 0, Value.int .i64 0, Value.string ⟨#[]⟩] 57)).alloc (Obj.cells #[nv 1, sv tt, nv tv.k, nv tv.n, sv tv.s, nv tp, nv tq, nv tr] 101)).alloc (Obj.cells #[nv tv.k, nv tv.n, sv tv.s] 57)).drew.heap[w.heap.size + 1 + 1]? = some (.cells #[nv tv.k, nv tv.n, sv tv.s] 57 (0, 0))) := Lib.hid (alloc_at (by simp))
       obtain ⟨W, hWW⟩ : ∃ W, (((w.alloc (Obj.cells #[Value.int .i64 0, Value.int .i64 0, Value.string ⟨#[]⟩] 57)).alloc (Obj.cells #[nv 1, sv tt, nv tv.k, nv tv.n, sv tv.s, nv tp, nv tq, nv tr] 101)).alloc (Obj.cells #[nv tv.k, nv tv.n, sv tv.s] 57)).drew = W := ⟨_, rfl⟩
       rw [hWW] at hW E0 E1 E2 ⊢
       clear hWW
       have x0 : W.cell? ⟨g, 0, none⟩ = some (.slice (some ⟨b, off, none⟩) n c) := by rw [Lib.cell_of_heap ((hW.out.block g hlt).trans HP.out.box)]; rfl
       have xf0 : W.frozen? ⟨g, 0, none⟩ = false := Lib.frozen_of_heap ((hW.out.block g hlt).trans HP.out.box) 0
       have z0 : W.cell? ⟨w.heap.size + 1, 0, none⟩ = some (nv 1) := by rw [Lib.cell_of_heap E1.out]; rfl
       have z1 : W.cell? ⟨w.heap.size + 1, 1, none⟩ = some (sv tt) := by rw [Lib.cell_of_heap E1.out]; rfl
       obtain ⟨v0, v1, v2⟩ := cells3 E2.out
       have vf := fun j => Lib.frozen_of_heap E2.out j
       have vf0 := vf 0
       have vf1 := vf 1
       have vf2 := vf 2
       clear vf
       obtain ⟨r0, r1, r2⟩ := cells3 E0.out
       have rf := fun j => Lib.frozen_of_heap E0.out j
       have rf0 := rf 0
       have rf1 := rf 1
       have rf2 := rf 2
       clear rf
       have hgb : g ≠ w.heap.size + 1 + 1 := by omega
       have hWs : Hid (w.heap.size + 1 + 1 < W.heap.size) := Lib.hid (Array.getElem?_eq_some_iff.1 E2.out).1
       go_wp2_with fail
       refine bodyPost_ret (v := .tuple #[.agg #[nv tv.k, nv tv.n, sv tv.s], .bool false]) (by simp [results, Tryz.results183, go_sem, r0, r1, r2]) rfl ?_
       unfold LitR
       rw [hR.out]
       refine ⟨?_, ⟨_, _, _, rfl⟩, ?_⟩
       ·repeat (first | (with_reducible exact Mod.of_below hW.out) | refine Mod.set ?_ (.inr (by omega)) _)
       ·repeat (first | (with_reducible exact HS.out.next hW.out) | refine Ps.set ?_ (by omega) _)
    ·have e1 : (tk == 1) = false := by simpa using h1
     have hR : Hid (pLit ((tk, tt, tv) :: l) = none) := Lib.hid (by simp [pLit, h1, h2, h3])
     clear hp h1 h2 h3
     go_enter Tryz.func183, Tryz.ntmps183
     go_wp2_with fail
     go_region
     have hW : Hid (Below w.heap.size w ((((w.alloc (Obj.cells #[Value.int .i64 0, Value.int .i64 0, Value.string ⟨#[]⟩] 57)).alloc (Obj.cells #[nv tk, sv tt, nv tv.k, nv tv.n, sv tv.s, nv tp, nv tq, nv tr] 101)).alloc (Obj.cells #[nv tv.k, nv tv.n, sv tv.s] 57)).drew)) := Lib.hid (by repeat (first | exact Below.refl _ _ | refine Below.drew ?_ | refine Below.alloc ?_ (by simp <;> omega) _))
     have E0 : Hid ((((w.alloc (Obj.cells #[Value.int .i64 0, Value.int .i64 0, Value.string ⟨#[]⟩] 57)).alloc (Obj.cells #[nv tk, sv tt, nv tv.k, nv tv.n, sv tv.s, nv tp, nv tq, nv tr] 101)).alloc (Obj.cells #[nv tv.k, nv tv.n, sv tv.s] 57)).drew.heap[w.heap.size]? = some (.cells #[Value.int .i64 0, Value.int .i64 0, Value.string ⟨#[]⟩] 57 (0, 0))) := Lib.hid (alloc_old' (alloc_old' (alloc_at rfl)))
     have E1 : Hid ((((w.alloc (Obj.cells #[Value.int .i64 0, Value.int .i64 0, Value.string ⟨#[]⟩] 57)).alloc (Obj.cells #[nv tk, sv tt, nv tv.k, nv tv.n, sv tv.s, nv tp, nv tq, nv tr] 101)).alloc (Obj.cells #[nv tv.k, nv tv.n, sv tv.s] 57)).drew.heap[w.heap.size + 1]? = some (.cells #[nv tk, sv tt, nv tv.k, nv tv.n, sv tv.s, nv tp, nv tq, nv tr] 101 (0, 0))) := Lib.hid (alloc_old' (alloc_at (by simp)))
     have E2 : Hid ((((w.alloc (Obj.cells #[Value.int .i64 0, Value.int .i64 0, Value.string ⟨#[]⟩] 57)).alloc (Obj.cells #[nv tk, sv tt, nv tv.k, nv tv.n, sv tv.s, nv tp, nv tq, nv tr] 101)).alloc (Obj.cells #[nv tv.k, nv tv.n, sv tv.s] 57)).drew.heap[w.heap.size + 1 + 1]? = some (.cells #[nv tv.k, nv tv.n, sv tv.s] 57 (0, 0))) := Lib.hid (alloc_at (by simp))
     obtain ⟨W, hWW⟩ : ∃ W, (((w.alloc (Obj.cells #[Value.int .i64 0, Value.int .i64 0, Value.string ⟨#[]⟩] 57)).alloc (Obj.cells #[nv tk, sv tt, nv tv.k, nv tv.n, sv tv.s, nv tp, nv tq, nv tr] 101)).alloc (Obj.cells #[nv tv.k, nv tv.n, sv tv.s] 57)).drew = W := ⟨_, rfl⟩
     rw [hWW] at hW E0 E1 E2 ⊢
     clear hWW
     have x0 : W.cell? ⟨g, 0, none⟩ = some (.slice (some ⟨b, off, none⟩) n c) := by rw [Lib.cell_of_heap ((hW.out.block g hlt).trans HP.out.box)]; rfl
     have xf0 : W.frozen? ⟨g, 0, none⟩ = false := Lib.frozen_of_heap ((hW.out.block g hlt).trans HP.out.box) 0
     have z0 : W.cell? ⟨w.heap.size + 1, 0, none⟩ = some (nv tk) := by rw [Lib.cell_of_heap E1.out]; rfl
     have z1 : W.cell? ⟨w.heap.size + 1, 1, none⟩ = some (sv tt) := by rw [Lib.cell_of_heap E1.out]; rfl
     obtain ⟨v0, v1, v2⟩ := cells3 E2.out
     have vf := fun j => Lib.frozen_of_heap E2.out j
     have vf0 := vf 0
     have vf1 := vf 1
     have vf2 := vf 2
     clear vf
     obtain ⟨r0, r1, r2⟩ := cells3 E0.out
     have rf := fun j => Lib.frozen_of_heap E0.out j
     have rf0 := rf 0
     have rf1 := rf 1
     have rf2 := rf 2
     clear rf
     have hgb : g ≠ w.heap.size + 1 + 1 := by omega
     have hWs : Hid (w.heap.size + 1 + 1 < W.heap.size) := Lib.hid (Array.getElem?_eq_some_iff.1 E2.out).1
     go_wp2_with fail
     refine bodyPost_ret (v := .tuple #[.agg #[nv tv.k, nv tv.n, sv tv.s], .bool false]) (by simp [results, Tryz.results183, go_sem, r0, r1, r2]) rfl ?_
     unfold LitR
     rw [hR.out]
     refine ⟨?_, ⟨_, _, _, rfl⟩, ?_⟩
     ·repeat (first | (with_reducible exact Mod.of_below hW.out) | refine Mod.set ?_ (.inr (by omega)) _)
     ·repeat (first | (with_reducible exact HS.out.next hW.out) | refine Ps.set ?_ (by omega) _)
end Go.Proofs.YtnbmpfdffoidaaaGreatDoor.Y
