/- Texts of the proof, joined: LexAllP, LexSame, LexAll, LexU, LexLives, LexAll2, SynPs, SchedP. -/
import Derived.Test.YtnbmpfdffoidaaaGreatDoorBk01
import Derived.Test.YtnbmpfdffoidaaaGreatDoorBk02
import Derived.Test.YtnbmpfdffoidaaaGreatDoorBk03
import Derived.Test.YtnbmpfdffoidaaaGreatDoorBk06
import Derived.Deep.DeepCutAuto
set_option linter.unusedVariables false
set_option linter.unusedSimpArgs false
set_option maxHeartbeats 8000000
set_option maxRecDepth 100000
namespace Go.Proofs.YtnbmpfdffoidaaaGreatDoor.X
open Go.RowKit O V S
theorem tokL_pos (t : List UInt8) (h : (tokL t).e = 0) : 0 < (tokL t).n ∧ (tokL t).n ≤ t.length := by
 match t with
 | [] => simp [tokL] at h
 | c :: r =>
  rw [tokL_cons] at h ⊢
  split
  ·rename_i hs
   rw [if_pos hs] at h
   split
   ·rename_i hb; rw [if_pos hb] at h; simp at h
   ·have hw : wordC c = true := by simp [wordC, hs]
    refine ⟨?_, runLen_le wordC (c :: r)⟩
    simp only [runLen, hw, if_true]; omega
  ·rename_i hs
   rw [if_neg hs] at h
   split
   ·rename_i hd
    rw [if_pos hd] at h
    split
    ·refine ⟨?_, runLen_le digitC (c :: r)⟩
     simp only [runLen, hd, if_true]; omega
    ·rename_i hb; rw [if_neg hb] at h; simp at h
   ·rename_i hd
    rw [if_neg hd] at h
    split
    ·rename_i hq
     rw [if_pos hq] at h
     cases hQ : quoS ((c :: r).drop 1) 1 ⟨0, [], none⟩ with
     | none => unfold quoL at h; rw [hQ] at h; simp at h
     | some Q =>
      cases hb : Q.bad with
      | some k => rw [quoL_bad hQ hb] at h; simp at h
      | none =>
       have h1 := quoL_ok hQ hb
       have h2 := (qs_lt _ _ (Nat.le_refl _) _ _ _ hQ).2.1
       simp at h2
       rw [h1] at h ⊢
       split
       ·rename_i hbig; rw [if_pos hbig] at h; simp at h
       ·simp; omega
    ·rename_i hq
     rw [if_neg hq] at h
     split
     ·rename_i h0; rw [if_pos h0] at h; simp at h
     ·rename_i h0
      exact ⟨by show 0 < signL (c :: r); omega, sign_le (c :: r) (by simp)⟩
theorem tokE : Elem Tryz.prog 46 101 8 80 (.agg #[.int .i64 0, .string ByteArray.empty, .int .i64 0, .int .i64 0, .string ByteArray.empty, .int .i64 0, .int .i64 0, .int .i64 0]) := by
 obtain ⟨i, hi, h1, h2, h3⟩ := info_parts (show (Tryz.prog.info? 101).map (fun i => (i.zero, i.size, i.bytes)) = some (some (.agg #[.int .i64 0, .string ByteArray.empty, .int .i64 0, .int .i64 0, .string ByteArray.empty, .int .i64 0, .int .i64 0, .int .i64 0]), 8, 80) by kernel_rfl)
 exact ⟨Tryz.underlying46, i, hi, h1, h2, h3, rfl, by omega⟩
def TkC (s : List UInt8) (t : Tk) (vs : List Value) : Prop := vs = tkCells t.k t.text t.v s t.i
theorem TkC.size {s : List UInt8} (t : Tk) (vs : List Value) (h : TkC s t vs) : vs.length = 8 := by rw [h]; rfl
end Go.Proofs.YtnbmpfdffoidaaaGreatDoor.X
namespace Go.Proofs.YtnbmpfdffoidaaaGreatDoor.X
open Go.RowKit O V S
theorem Val.same {x y : Val} (h1 : x.k = y.k) (h2 : x.n = y.n) (h3 : x.s = y.s) : x = y := by cases x; cases y; simp_all
instance : DecidableEq Val := fun a b => if h : a.k = b.k ∧ a.n = b.n ∧ a.s = b.s then isTrue (Val.same h.1 h.2.1 h.2.2) else isFalse (fun e => h (by subst e; exact ⟨rfl, rfl, rfl⟩))
def core (t : Tk) : Int × List UInt8 × Val := (t.k, t.text, t.v)
def sameT (a b : List Tk) : Bool := decide (a.map core = b.map core)
def TkD (t : Tk) (vs : List Value) : Prop := ∃ p q r : Int, vs = [.int .i64 t.k, .string ⟨t.text.toArray⟩, .int .i64 t.v.k, .int .i64 t.v.n, .string ⟨t.v.s.toArray⟩, .int .i64 p, .int .i64 q, .int .i64 r]
theorem TkD.one : ∀ (t : Tk) (vs : List Value), TkD t vs → ∀ u ∈ vs, u.oneCell' = true := by rintro t vs ⟨p, q, r, rfl⟩ u hu; simp at hu; rcases hu with rfl | rfl | rfl | rfl | rfl | rfl | rfl | rfl <;> rfl
theorem TkD.size : ∀ (t : Tk) (vs : List Value), TkD t vs → vs.length = 8 := by rintro t vs ⟨p, q, r, rfl⟩; rfl
theorem TkD.of {s : List UInt8} : ∀ (t : Tk) (vs : List Value), TkC s t vs → TkD t vs := by rintro t vs rfl; exact ⟨_, _, _, rfl⟩
structure TRow (w : World) (A : Option Addr) (n : Nat) (l : List Tk) : Prop where
 rd : ∃ xs, Rd w w.heap.size 8 A n xs ∧ Reps TkD l xs
 n : n ≤ 100000
theorem TRow.len {w : World} {A : Option Addr} {n : Nat} {l : List Tk} (h : TRow w A n l) : l.length = n := by
 obtain ⟨xs, h1, h2⟩ := h.rd
 exact h1.len_of TkD.size h2 (by omega)
theorem TRow.next {w W : World} {A : Option Addr} {n : Nat} {l : List Tk} (h : TRow w A n l) (b : Below w.heap.size w W) : TRow W A n l := by
 obtain ⟨xs, h1, h2⟩ := h.rd
 exact ⟨⟨xs, h1.next b, h2⟩, h.n⟩
theorem TRow.at_ {w : World} {A : Option Addr} {n : Nat} {l : List Tk} (h : TRow w A n l) {k : Nat} (hk : k < l.length) : ∃ b off, A = some ⟨b, off, none⟩ ∧ b < w.heap.size ∧
  ∀ W, Below w.heap.size w W → (W.cell? ⟨b, off + k * 8, none⟩ = some (.int .i64 l[k].k) ∧ W.cell? ⟨b, off + k * 8 + 1, none⟩ = some (.string ⟨l[k].text.toArray⟩)) ∧ W.cell? ⟨b, off + k * 8 + 2, none⟩ = some (.int .i64 l[k].v.k) ∧ W.cell? ⟨b, off + k * 8 + 3, none⟩ = some (.int .i64 l[k].v.n) ∧ W.cell? ⟨b, off + k * 8 + 4, none⟩ = some (.string ⟨l[k].v.s.toArray⟩) := by
 obtain ⟨xs, h1, h2⟩ := h.rd
 obtain ⟨b, off, vs, e, hb, ⟨p, q, r, rfl⟩, hc⟩ := h1.elem TkD.size h2 hk (by omega)
 refine ⟨b, off, e, hb, fun W bW => ⟨⟨?_, ?_⟩, ?_, ?_, ?_⟩⟩
 ·exact (bW.cell (p := ⟨b, off + k * 8 + 0, none⟩) hb).trans (hc 0 (by omega))
 ·exact (bW.cell (p := ⟨b, off + k * 8 + 1, none⟩) hb).trans (hc 1 (by omega))
 ·exact (bW.cell (p := ⟨b, off + k * 8 + 2, none⟩) hb).trans (hc 2 (by omega))
 ·exact (bW.cell (p := ⟨b, off + k * 8 + 3, none⟩) hb).trans (hc 3 (by omega))
 ·exact (bW.cell (p := ⟨b, off + k * 8 + 4, none⟩) hb).trans (hc 4 (by omega))
theorem vneq_yes {x y : Val} (h : x ≠ y) (w : World) : (binOp .neq 57 (.agg #[.int .i64 x.k, .int .i64 x.n, .string ⟨x.s.toArray⟩]) (.agg #[.int .i64 y.k, .int .i64 y.n, .string ⟨y.s.toArray⟩])).run Tryz.prog w = .ok (.bool true) w := by
 go_simp
 exact fun h1 h2 h3 => h (Val.same h1 h2 h3)
theorem vneq_no (x : Val) (w : World) : (binOp .neq 57 (.agg #[.int .i64 x.k, .int .i64 x.n, .string ⟨x.s.toArray⟩]) (.agg #[.int .i64 x.k, .int .i64 x.n, .string ⟨x.s.toArray⟩])).run Tryz.prog w = .ok (.bool false) w := by
 go_simp
theorem sneq_yes {x y : List UInt8} (h : x ≠ y) (w : World) : (binOp .neq 9 (.string ⟨x.toArray⟩) (.string ⟨y.toArray⟩)).run Tryz.prog w = .ok (.bool true) w := by
 go_simp
theorem sneq_no (x : List UInt8) (w : World) : (binOp .neq 9 (.string ⟨x.toArray⟩) (.string ⟨x.toArray⟩)).run Tryz.prog w = .ok (.bool false) w := by
 go_simp
end Go.Proofs.YtnbmpfdffoidaaaGreatDoor.X
namespace Go.Proofs.YtnbmpfdffoidaaaGreatDoor.X
open Go.RowKit O V S
theorem skip_at {s : List UInt8} {i : Nat} (h : i ≤ s.length) : skip (s.drop i) = s.drop (s.length - (skip (s.drop i)).length) ∧ i ≤ s.length - (skip (s.drop i)).length ∧ s.length - (skip (s.drop i)).length ≤ s.length := by
 obtain ⟨k, hk, e⟩ := skip_suffix _ (s.drop i) (Nat.le_refl _)
 rw [List.length_drop] at hk
 have hj : s.length - (skip (s.drop i)).length = i + k := by rw [e]; simp; omega
 rw [hj]
 exact ⟨by rw [e, List.drop_drop], by omega, by omega⟩
section
variable {s : List UInt8} {i j f : Nat}
theorem lex_end (hj : s.length - (skip (s.drop i)).length = s.length) : lexS s (f + 1) i = ([], 0, 0) := by
 rcases Nat.eq_zero_or_pos (skip (s.drop i)).length with h | h
 ·unfold lexS; simp only [h, if_true]
 ·have hs : s.length = 0 := by omega
  have : (skip (s.drop i)).length = 0 := by
   have := skip_len _ (s.drop i) (Nat.le_refl _)
   simp at this; omega
  omega
theorem lex_err (hi : i ≤ s.length) (hj : s.length - (skip (s.drop i)).length = j) (hlt : j < s.length) (he : (tokL (s.drop j)).e ≠ 0) : lexS s (f + 1) i = ([], (tokL (s.drop j)).e, j + (tokL (s.drop j)).off) := by
 have h1 := (skip_at hi).1
 have h0 : (skip (s.drop i)).length ≠ 0 := by omega
 rw [hj] at h1
 unfold lexS
 simp only [h0, if_false, hj]
 rw [h1, if_pos he]
theorem lex_ok (hi : i ≤ s.length) (hj : s.length - (skip (s.drop i)).length = j) (hlt : j < s.length) (he : (tokL (s.drop j)).e = 0) : lexS s (f + 1) i = (⟨(tokL (s.drop j)).k, (s.drop j).take (tokL (s.drop j)).n, (tokL (s.drop j)).v, j⟩ :: (lexS s f (j + (tokL (s.drop j)).n)).1, (lexS s f (j + (tokL (s.drop j)).n)).2) := by
 have h1 := (skip_at hi).1
 have h0 : (skip (s.drop i)).length ≠ 0 := by omega
 rw [hj] at h1
 conv => lhs; unfold lexS
 simp only [h0, if_false, hj]
 rw [h1, if_neg (by simp [he])]
end
theorem own_keepL {w w' : World} {base e size n g : Nat} {v : Value} {xs : List Value} (h : w.ownsRow base e size v n xs) (hg : w.grownBy w' (some g)) (hb : g < base) : w'.ownsRow base e size v n xs :=
 h.kept hg (.inr (fun e => by have := (h.lt _ e).1; omega))
theorem below_gb {w a b : World} {g : Nat} (h : Below w.heap.size w a) (k : a.grownBy b (some g)) (hg : w.heap.size ≤ g) : Below w.heap.size w b :=
 ⟨k.os.trans h.os, k.tape.trans h.tape, k.output.trans h.output, Nat.le_trans h.size k.size, fun i hi => (k.block i (Nat.lt_of_lt_of_le hi h.size) (fun e => by injection e with e; omega)).trans (h.block i hi)⟩
theorem own_setL {w : World} {base e size n b j : Nat} {v : Value} {xs : List Value} (h : w.ownsRow base e size v n xs) (u : Value) (hb : b < base) : (w.setCell ⟨b, j, none⟩ u).ownsRow base e size v n xs :=
 own_keepL h (gb_set w b j u) hb
def RetAll (s : List UInt8) (b : Nat) (e : Ending) (w' : World) : Prop :=
 if s.length > 16384 then e = .returned (.tuple #[.slice none 0 0, .int .i64 2, plc s 0])
 else if (lexS s (s.length + 1) 0).2.1 ≠ 0 then e = .returned (.tuple #[.slice none 0 0, .int .i64 (lexS s (s.length + 1) 0).2.1, plc s (clampI s ((lexS s (s.length + 1) 0).2.2 : Nat))])
 else ∃ A n c xs, e = .returned (.tuple #[.slice A n c, .int .i64 0, pv 0 0 0]) ∧ w'.ownsRow b 101 8 (.slice A n c) n xs ∧ Reps (TkC s) (lexS s (s.length + 1) 0).1 xs
theorem all_any (s : List UInt8) (w : World) (hs : s.length ≤ 20000) : Calls Tryz.prog 14 #[.string ⟨s.toArray⟩] w fun e w' => RetAll s (w.heap.size + 2) e w' ∧ Below w.heap.size w w' := by
 have hsz : (ByteArray.mk s.toArray).size = s.length := by simp [ByteArray.size]
 go_enter Tryz.func14, Tryz.ntmps14
 by_cases hbig : s.length > 16384
 ·have g1 : decide ((s.length : Int) > 16384) = true := by simp; omega
  have g1' : decide (16384 < (s.length : Int)) = true := by simp; omega
  have HB := Lib.hid hbig
  clear hbig
  go_wp2_with fail
  refine (at_any s 0 _ hs).mono ?_; rintro e w1 ⟨rfl, b1⟩
  have X0 := box_next (heap_alloc_new w (.cells #[.int .i64 0, .int .i64 0, .int .i64 0] 28)) b1
  have B1 := bthen ((Below.refl _ _).alloc (Nat.le_refl _) _) b1
  have c0 : w1.cell? ⟨w.heap.size, 0, none⟩ = some (.int .i64 0) := by rw [Lib.cell_of_heap X0]; rfl
  have c1 : w1.cell? ⟨w.heap.size, 1, none⟩ = some (.int .i64 0) := by rw [Lib.cell_of_heap X0]; rfl
  have c2 : w1.cell? ⟨w.heap.size, 2, none⟩ = some (.int .i64 0) := by rw [Lib.cell_of_heap X0]; rfl
  have f0 := Lib.frozen_of_heap X0 0
  have f1 := Lib.frozen_of_heap X0 1
  have f2 := Lib.frozen_of_heap X0 2
  have hcl : clampI s 0 = 0 := by unfold clampI; rw [if_neg (by omega), if_neg (by omega)]; rfl
  rw [hcl]
  unfold plc pv
  go_wp2_with fail
  refine bodyPost_ret (v := .tuple #[.slice none 0 0, .int .i64 2, plc s 0]) (by simp [results, Tryz.results14, go_sem, plc, pv, c0, c1, c2]) rfl ?_
  refine ⟨?_, ?_⟩
  ·unfold RetAll; rw [if_pos HB.out]
  ·repeat (first | (with_reducible exact Below.refl _ _) | (with_reducible assumption) | refine Below.setCell ?_ (by simp <;> omega) _ | refine Below.alloc ?_ (by simp <;> omega) _ | refine Below.drew ?_)
 ·have g1 : decide ((s.length : Int) > 16384) = false := by simp; omega
  have g1' : decide (16384 < (s.length : Int)) = false := by simp; omega
  have HB := Lib.hid hbig
  clear hbig
  go_wp2_with fail
  have X0 : (((w.alloc (.cells #[.int .i64 0, .int .i64 0, .int .i64 0] 28)).alloc (.cells #[.int .i64 0, .int .i64 1, .int .i64 0, .string ⟨s.toArray⟩] 99))).heap[w.heap.size]? = some (.cells #[.int .i64 0, .int .i64 0, .int .i64 0] 28 (0, 0)) := box_next (heap_alloc_new w (.cells #[.int .i64 0, .int .i64 0, .int .i64 0] 28)) ((Below.refl _ _).alloc (Nat.le_refl _) _)
  have L0 : Lx (((w.alloc (.cells #[.int .i64 0, .int .i64 0, .int .i64 0] 28)).alloc (.cells #[.int .i64 0, .int .i64 1, .int .i64 0, .string ⟨s.toArray⟩] 99))) (w.heap.size + 1) s 0 := ⟨by
   have := heap_alloc_new (w.alloc (.cells #[.int .i64 0, .int .i64 0, .int .i64 0] 28)) (.cells #[.int .i64 0, .int .i64 1, .int .i64 0, .string ⟨s.toArray⟩] 99)
   simpa [lineOf, startOf] using this, by omega, hs⟩
  have B0 : Below w.heap.size w (((w.alloc (.cells #[.int .i64 0, .int .i64 0, .int .i64 0] 28)).alloc (.cells #[.int .i64 0, .int .i64 1, .int .i64 0, .string ⟨s.toArray⟩] 99))) := ((Below.refl _ _).alloc (Nat.le_refl _) _).alloc (by simp) _
  go_loopw [2, 3] (fun row _ wr => ∃ (i f n c : Nat) (pre : List Tk) (A : Option Addr) (xs : List Value), row = .slice A n c ∧ Hid (lexS s (s.length + 1) 0 = (pre ++ (lexS s f i).1, (lexS s f i).2)) ∧ s.length + 1 ≤ f + i ∧ pre.length ≤ i ∧ n = pre.length ∧ Lx wr (w.heap.size + 1) s i ∧ wr.heap[w.heap.size]? = some (.cells #[.int .i64 0, .int .i64 0, .int .i64 0] 28 (0, 0)) ∧ wr.ownsRow (w.heap.size + 2) 101 8 (.slice A n c) n xs ∧ Hid (Reps (TkC s) pre xs) ∧ Below w.heap.size w wr) (fun _ _ wr => s.length - offW wr (w.heap.size + 1))
  case atStart => exact ⟨0, s.length + 1, 0, 0, [], none, [], rfl, Lib.hid (by simp), by omega, by simp, rfl, L0, X0, World.ownsRow_nil _ _ _ _, Lib.hid (by simp [Reps]), B0⟩
  case round =>
   obtain ⟨i, f, n, c, pre, A, xs, rfl, hp, hf, hpi, hnp, hL, hX, hO, hR, hB⟩ := hrel
   clear X0 L0 B0
   have HN := Lib.hid hnp
   clear hnp
   have hii := hL.i
   obtain ⟨f, rfl⟩ : ∃ f', f = f' + 1 := ⟨f - 1, by omega⟩
   have hof := Lib.hid hL.off
   go_wp2_with fail
   refine (gap_any (w.heap.size + 1) s i _ hL).mono ?_; rintro e w1 ⟨rfl, l1, g1⟩
   have hRlt := hL.lt
   have X1 := (g1.block w.heap.size (by omega) (by simp)).trans hX
   have O1 := own_keepL hO g1 (by omega)
   have B1 := below_gb hB g1 (by omega)
   clear hL hX hO hB g1
   obtain ⟨hs1, hs2, hs3⟩ := skip_at hii
   obtain ⟨j, hj⟩ : ∃ j, s.length - (skip (s.drop i)).length = j := ⟨_, rfl⟩
   rw [hj] at l1 hs2 hs3
   obtain ⟨⟨y0, y1⟩, y2, y3⟩ := cells4 l1.box
   by_cases hend : j = s.length
   ·have e1 : ((j : Int) == (s.length : Int)) = true := by simp; omega
    have hle := lex_end (s := s) (i := i) (f := f) (by rw [hj]; exact hend)
    have HP := Lib.hid (hp.out.trans (by rw [hle, List.append_nil]))
    have c0 : w1.cell? ⟨w.heap.size, 0, none⟩ = some (.int .i64 0) := by rw [Lib.cell_of_heap X1]; rfl
    have c1 : w1.cell? ⟨w.heap.size, 1, none⟩ = some (.int .i64 0) := by rw [Lib.cell_of_heap X1]; rfl
    have c2 : w1.cell? ⟨w.heap.size, 2, none⟩ = some (.int .i64 0) := by rw [Lib.cell_of_heap X1]; rfl
    have f0 := Lib.frozen_of_heap X1 0
    have f1 := Lib.frozen_of_heap X1 1
    have f2 := Lib.frozen_of_heap X1 2
    clear hs1 hj hle hf hpi hend
    go_wp2_with fail
    refine bodyPost_ret (v := .tuple #[.slice A n c, .int .i64 0, pv 0 0 0]) (by simp [results, Tryz.results14, go_sem, pv, c0, c1, c2]) rfl ?_
    refine ⟨?_, ?_⟩
    ·unfold RetAll
     rw [if_neg HB.out, if_neg (by rw [HP.out]; simp)]
     refine ⟨A, n, c, xs, rfl, ?_, by rw [HP.out]; exact hR.out⟩
     exact own_setL (own_setL (own_setL O1 _ (by omega)) _ (by omega)) _ (by omega)
    ·repeat (first | (with_reducible exact Below.refl _ _) | (with_reducible assumption) | refine Below.setCell ?_ (by simp <;> omega) _ | refine Below.alloc ?_ (by simp <;> omega) _ | refine Below.drew ?_)
   ·have e1 : ((j : Int) == (s.length : Int)) = false := by simp; omega
    have hlt : j < s.length := by omega
    clear hend
    go_wp2_with fail
    refine (token_any (w.heap.size + 1) s j _ l1 hlt).mono ?_; rintro e w2 ⟨rfl, l2, g2⟩
    have X2 := (g2.block w.heap.size (Nat.lt_of_lt_of_le (by omega : w.heap.size < w.heap.size + 1) (Nat.le_of_lt l1.lt)) (by simp)).trans X1
    have O2 := own_keepL O1 g2 (by omega)
    have B2 := below_gb B1 g2 (by omega)
    clear X1 O1 B1 g2 y0 y1 y2 y3 l1
    unfold RetT tkCells
    by_cases he : (tokL (s.drop j)).e = 0
    ·have hle := lex_ok (f := f) hii hj hlt he
     have htp := tokL_pos (s.drop j) he
     rw [List.length_drop] at htp
     have HP := Lib.hid (hp.out.trans (by rw [hle]))
     clear hle hp hs1 hj
     generalize tokL (s.drop j) = R at *
     obtain ⟨i', hi'⟩ : ∃ i' : Nat, j + R.n = i' := ⟨_, rfl⟩
     rw [hi'] at HP l2
     simp only [if_pos he]
     rw [he]
     have hsn : Hid (Reps (TkC s) (pre ++ [⟨R.k, (s.drop j).take R.n, R.v, j⟩]) (xs ++ tkCells R.k ((s.drop j).take R.n) R.v s j)) := Lib.hid (hR.out.append (.one rfl))
     have hn20 : n ≤ 20000 := by have := HN.out; omega
     have h7 : i < i' := by omega
     have hbs := B2.size
     go_wp2_with (at_builtin; refine wpList_app rfl (.tmp 42) (.tmp 44) tokE rfl (w.heap.size + 2) xs rfl ((O2.alloc _).alloc _) rfl (tkCells R.k ((s.drop j).take R.n) R.v s j) (Rd.made _ (tkCells R.k ((s.drop j).take R.n) R.v s j) rfl (by simp)) (by simp [tkCells, Value.oneCell']) (by unfold maxLen; omega) (by omega) (by simp; omega) ?_; intro A3 c3 w3 o3 g3 _)
     have hown := fun q hq => (O2.lt q hq).1
     have D2 := (B2.alloc B2.size (.cells (tkCells R.k ((s.drop j).take R.n) R.v s j).toArray 101)).alloc (by have := B2.size; simp; omega) (.cells (tkCells R.k ((s.drop j).take R.n) R.v s j).toArray 101)
     have E2 := ((Below.refl w2.heap.size w2).alloc (Nat.le_refl _) (.cells (tkCells R.k ((s.drop j).take R.n) R.v s j).toArray 101)).alloc (by simp) (.cells (tkCells R.k ((s.drop j).take R.n) R.v s j).toArray 101)
     have L3 := l2.next E2
     have X3 := box_next X2 E2
     have B3 : Below w.heap.size w w3 := ⟨g3.os.trans D2.os, g3.tape.trans D2.tape, g3.output.trans D2.output, Nat.le_trans D2.size g3.size, fun q hq => (g3.block q (Nat.lt_of_lt_of_le hq D2.size) (fun e => by have := hown q e.symm; omega)).trans (D2.block q hq)⟩
     have X4 := (g3.block w.heap.size (Array.getElem?_eq_some_iff.1 X3).1 (fun e => by have := hown _ e.symm; omega)).trans X3
     have L4 : Lx w3 (w.heap.size + 1) s i' := ⟨(g3.block (w.heap.size + 1) L3.lt (fun e => by have := hown _ e.symm; omega)).trans L3.box, L3.i, L3.n⟩
     go_roundw
     case rel => exact ⟨i', f, n + 1, c3, pre ++ [⟨R.k, (s.drop j).take R.n, R.v, j⟩], A3, _, rfl, Lib.hid (by rw [HP.out, List.append_assoc]; rfl), by omega, by have := HN.out; simp; omega, by rw [HN.out]; simp, L4, X4, o3, hsn, B3⟩
     case measure => rw [L4.off, hof.out]; omega
    ·have hle := lex_err (f := f) hii hj hlt he
     have HP := Lib.hid (hp.out.trans (by rw [hle]))
     clear hle hp hs1 hj
     generalize tokL (s.drop j) = R at *
     have g3 : (R.e != 0) = true := by simpa using he
     have g4 : (R.e == 0) = false := by simpa using he
     obtain ⟨m, hm⟩ : ∃ m : Nat, j + R.off = m := ⟨_, rfl⟩
     rw [hm] at HP
     simp only [if_neg he]
     rw [hm]
     clear hm
     have HE := Lib.hid he
     clear he
     go_wp2_with fail
     refine (at_any s (m : Int) _ hs).mono ?_; rintro e w1 ⟨rfl, b4⟩
     have X1 : w1.heap[w.heap.size]? = _ := box_next (box_next X2 (by first | exact (Below.refl _ _).alloc (Nat.le_refl _) _)) b4
     have c0 : w1.cell? ⟨w.heap.size, 0, none⟩ = some (.int .i64 0) := by rw [Lib.cell_of_heap X1]; rfl
     have c1 : w1.cell? ⟨w.heap.size, 1, none⟩ = some (.int .i64 0) := by rw [Lib.cell_of_heap X1]; rfl
     have c2 : w1.cell? ⟨w.heap.size, 2, none⟩ = some (.int .i64 0) := by rw [Lib.cell_of_heap X1]; rfl
     have f0 := Lib.frozen_of_heap X1 0
     have f1 := Lib.frozen_of_heap X1 1
     have f2 := Lib.frozen_of_heap X1 2
     have B4 : Below w.heap.size w w1 := bthen (by first | exact B2.alloc B2.size _) b4
     clear X2 B2 O2
     obtain ⟨q, hq⟩ : ∃ q, clampI s (m : Int) = q := ⟨_, rfl⟩
     rw [hq]
     have HQ := Lib.hid hq
     clear hq
     unfold plc pv
     go_wp2_with fail
     refine bodyPost_ret (v := .tuple #[.slice none 0 0, .int .i64 R.e, plc s q]) (by simp [results, Tryz.results14, go_sem, plc, pv, c0, c1, c2]) rfl ?_
     refine ⟨?_, ?_⟩
     ·unfold RetAll
      rw [if_neg HB.out, if_pos (by rw [HP.out]; exact HE.out), HP.out]
      rw [HQ.out]
     ·repeat (first | (with_reducible exact Below.refl _ _) | (with_reducible assumption) | refine Below.setCell ?_ (by simp <;> omega) _ | refine Below.alloc ?_ (by simp <;> omega) _ | refine Below.drew ?_)
end Go.Proofs.YtnbmpfdffoidaaaGreatDoor.X
namespace Go.Proofs.YtnbmpfdffoidaaaGreatDoor.X
open Go.RowKit O V S
theorem tokL_off (v : List UInt8) : (tokL v).off ≤ v.length := by
 match v with
 | [] => simp [tokL]
 | c :: r =>
  rw [tokL_cons]
  split
  ·split <;> simp
  ·split
   ·split <;> simp
   ·split
    ·cases hq : quoS ((c :: r).drop 1) 1 ⟨0, [], none⟩ with
     | none => unfold quoL; rw [hq]; simp
     | some Q =>
      cases hb : Q.bad with
      | some k =>
       rw [quoL_bad hq hb]
       have : ∀ (n : Nat) (l : List UInt8), l.length ≤ n → ∀ (k : Nat) (q Q : Quo) (b : Nat), (∀ b', q.bad = some b' → b' ≤ k) → quoS l k q = some Q → Q.bad = some b → b ≤ k + l.length := by
        intro n
        induction n with
        | zero =>
         intro l hl k q Q b _ h _
         cases l with
         | nil => rw [quoS_nil] at h; cases h
         | cons _ _ => simp at hl
        | succ n ih =>
         intro l hl k q Q b hqb h hbb
         match l, hl with
         | [], _ => rw [quoS_nil] at h; cases h
         | x :: l, hl =>
          simp at hl
          rw [quoS_cons] at h
          split at h
          ·cases h; have := hqb b hbb; simp; omega
          ·split at h
           ·match l, hl with
            | [], _ => cases h
            | d :: r, hl =>
             have := ih r (by simp at hl; omega) (k + 2) _ _ b ?_ h hbb
             ·simp; omega
             ·intro b' hb'
              cases hqq : q.bad with
              | some b0 => simp [orE, hqq] at hb'; have := hqb b0 hqq; omega
              | none => simp [orE, hqq] at hb'; omega
           ·have := ih l hl (k + 1) _ _ b ?_ h hbb
            ·simp; omega
            ·intro b' hb'
             cases hqq : q.bad with
             | some b0 => simp [orE, hqq] at hb'; have := hqb b0 hqq; omega
             | none => simp [orE, hqq] at hb'; omega
       have := this _ _ (Nat.le_refl _) 1 ⟨0, [], none⟩ Q k (by simp) hq hb
       simp at this ⊢
       omega
      | none =>
       rw [quoL_ok hq hb]
       split <;> simp
    ·split <;> simp
inductive LexU : List UInt8 → List (Int × List UInt8 × Val) → Int → Nat → Prop
 | fin {u : List UInt8} (h : skip u = []) : LexU u [] 0 0
 | err {u v : List UInt8} (h : skip u = v) (hv : v ≠ []) (he : (tokL v).e ≠ 0) : LexU u [] (tokL v).e (v.length - (tokL v).off)
 | tok {u v : List UInt8} {l : List (Int × List UInt8 × Val)} {e : Int} {o : Nat} (h : skip u = v) (hv : v ≠ []) (he : (tokL v).e = 0) (hr : LexU (v.drop (tokL v).n) l e o) : LexU u (((tokL v).k, v.take (tokL v).n, (tokL v).v) :: l) e o
theorem LexU.congr {u u' : List UInt8} {l : List (Int × List UInt8 × Val)} {e : Int} {o : Nat} (h : LexU u l e o) (hs : skip u' = skip u) : LexU u' l e o := by
 cases h with
 | fin h => exact .fin (hs.trans h)
 | err h hv he => exact .err (hs.trans h) hv he
 | tok h hv he hr => exact .tok (hs.trans h) hv he hr
theorem LexU.det {u : List UInt8} {l : List (Int × List UInt8 × Val)} {e : Int} {o : Nat} (h : LexU u l e o) : ∀ {l' : List (Int × List UInt8 × Val)} {e' : Int} {o' : Nat}, LexU u l' e' o' → l = l' ∧ e = e' ∧ o = o' := by
 induction h with
 | fin h =>
  intro l' e' o' k
  cases k with
  | fin _ => exact ⟨rfl, rfl, rfl⟩
  | err h' hv _ => exact absurd (h'.symm.trans h) hv
  | tok h' hv _ _ => exact absurd (h'.symm.trans h) hv
 | err h hv he =>
  intro l' e' o' k
  cases k with
  | fin h' => exact absurd (h.symm.trans h') hv
  | err h' _ _ => have := h.symm.trans h'; subst this; exact ⟨rfl, rfl, rfl⟩
  | tok h' _ he' _ => have := h.symm.trans h'; subst this; exact absurd he' he
 | tok h hv he _ ih =>
  intro l' e' o' k
  cases k with
  | fin h' => exact absurd (h.symm.trans h') hv
  | err h' _ he' => have := h.symm.trans h'; subst this; exact absurd he he'
  | tok h' _ _ hr' =>
   have := h.symm.trans h'; subst this
   obtain ⟨e1, e2, e3⟩ := ih hr'
   exact ⟨by rw [e1], e2, e3⟩
theorem lexU_of (s : List UInt8) : ∀ f i, i ≤ s.length → s.length + 1 ≤ f + i → ∃ o, LexU (s.drop i) ((lexS s f i).1.map core) (lexS s f i).2.1 o ∧ ((lexS s f i).2.1 ≠ 0 → (lexS s f i).2.2 + o = s.length)
 | 0, i, hi, hf => by omega
 | f + 1, i, hi, hf => by
  obtain ⟨hs1, hs2, hs3⟩ := skip_at hi
  obtain ⟨j, hj⟩ : ∃ j, s.length - (skip (s.drop i)).length = j := ⟨_, rfl⟩
  rw [hj] at hs1 hs2 hs3
  by_cases hend : j = s.length
  ·have := lex_end (f := f) (hj.trans hend)
   rw [this]
   refine ⟨0, .fin ?_, fun h => absurd rfl h⟩
   rw [hs1, hend, List.drop_length]
  ·have hlt : j < s.length := by omega
   have hv : s.drop j ≠ [] := by
    intro e; have := congrArg List.length e; simp at this; omega
   by_cases he : (tokL (s.drop j)).e = 0
   ·rw [lex_ok (f := f) hi hj hlt he]
    have hp := tokL_pos _ he
    rw [List.length_drop] at hp
    obtain ⟨o, h1, h2⟩ := lexU_of s f (j + (tokL (s.drop j)).n) (by omega) (by omega)
    rw [← List.drop_drop] at h1
    exact ⟨o, .tok hs1 hv he h1, h2⟩
   ·rw [lex_err (f := f) hi hj hlt he]
    have := tokL_off (s.drop j)
    rw [List.length_drop] at this
    exact ⟨_, .err hs1 hv he, fun _ => by simp only [List.length_drop]; omega⟩
theorem LexU.lex {s : List UInt8} {l : List (Int × List UInt8 × Val)} {e : Int} {o : Nat} (h : LexU s l e o) : (lexS s (s.length + 1) 0).1.map core = l ∧ (lexS s (s.length + 1) 0).2.1 = e ∧ (e ≠ 0 → (lexS s (s.length + 1) 0).2.2 + o = s.length) := by
 obtain ⟨o', h1, h2⟩ := lexU_of s (s.length + 1) 0 (by omega) (by omega)
 obtain ⟨e1, e2, e3⟩ := LexU.det h1 h
 exact ⟨e1, e2, fun he => by rw [← e3]; exact h2 (by rw [e2]; exact he)⟩
theorem LexU.of_lex (s : List UInt8) : ∃ o, LexU s ((lexS s (s.length + 1) 0).1.map core) (lexS s (s.length + 1) 0).2.1 o ∧ ((lexS s (s.length + 1) 0).2.1 ≠ 0 → (lexS s (s.length + 1) 0).2.2 + o = s.length) :=
 lexU_of s (s.length + 1) 0 (by omega) (by omega)
theorem while_app (t : List UInt8) : ∀ r : List UInt8, (r ++ 10 :: t).dropWhile noteC = r.dropWhile noteC ++ 10 :: t
 | [] => by simp [noteC]
 | c :: r => by
  rw [List.cons_append, List.dropWhile_cons, List.dropWhile_cons]
  split
  ·exact while_app t r
  ·rfl
theorem skip_app (t : List UInt8) : ∀ (n : Nat) (u : List UInt8), u.length ≤ n → skip (u ++ 10 :: t) = if skip u = [] then skip t else skip u ++ 10 :: t
 | _, [], _ => by rw [skip_nil, if_pos rfl, List.nil_append, skip_blank t (by decide)]
 | 0, c :: r, h => by simp at h
 | n + 1, c :: r, h => by
  simp at h
  by_cases h1 : blankC c = true
  ·rw [List.cons_append, skip_blank _ h1, skip_blank _ h1, skip_app t n r h]
  ·by_cases h2 : c.toNat = 35
   ·rw [List.cons_append, skip_note _ h2, skip_note _ h2, while_app, skip_app t n _ (by have := while_len noteC r; omega)]
   ·rw [List.cons_append, skip_stop _ (by simpa using h1) h2, skip_stop _ (by simpa using h1) h2, if_neg (by simp)]; rfl
theorem runL_app {p : UInt8 → Bool} {d : UInt8} (hd : p d = false) (t : List UInt8) : ∀ r : List UInt8, runLen p (r ++ d :: t) = runLen p r
 | [] => by simp [runLen, hd]
 | c :: r => by
  rw [List.cons_append, runLen, runLen, runL_app hd t r]
theorem blank_cases {d : UInt8} (h : blankC d = true) : d.toNat = 32 ∨ d.toNat = 9 ∨ d.toNat = 10 ∨ d.toNat = 13 := by
 simpa [blankC] using h
theorem blank_word {d : UInt8} (h : blankC d = true) : wordC d = false ∧ digitC d = false := by
 have := blank_cases h
 constructor
 ·simp [wordC, smallC, digitC]; omega
 ·simp [digitC]; omega
theorem quo_app (w : List UInt8) : ∀ (n : Nat) (r : List UInt8), r.length ≤ n → ∀ (k : Nat) (q Q : Quo), quoS r k q = some Q → quoS (r ++ w) k q = some Q
 | _, [], _, k, q, Q, h => by rw [quoS_nil] at h; cases h
 | 0, c :: r, h, _, _, _, _ => by simp at h
 | n + 1, c :: r, h, k, q, Q, hq => by
  simp at h
  rw [quoS_cons] at hq
  rw [List.cons_append, quoS_cons]
  split at hq
  ·rename_i h1; rw [if_pos h1]; exact hq
  ·rename_i h1
   rw [if_neg h1]
   split at hq
   ·rename_i h2
    rw [if_pos h2]
    match r, h with
    | [], _ => cases hq
    | d :: r, h => exact quo_app w n r (by simp at h; omega) _ _ _ hq
   ·rename_i h2
    rw [if_neg h2]
    exact quo_app w n r h _ _ _ hq
theorem two_blank {c d : UInt8} (h : blankC d = true) : two c.toNat d.toNat = false := by
 have := blank_cases h
 simp [two]; omega
theorem sign_app {d : UInt8} (h : blankC d = true) (t : List UInt8) : ∀ (c : UInt8) (r : List UInt8), signL ((c :: r) ++ d :: t) = signL (c :: r)
 | c, [] => by
  show signL (c :: d :: t) = signL [c]
  have e1 : signL (c :: d :: t) = if two c.toNat d.toNat then 2 else if one c.toNat then 1 else 0 := rfl
  have e2 : signL [c] = if one c.toNat then 1 else 0 := rfl
  rw [e1, e2, two_blank h]; rfl
 | c, x :: r => rfl
theorem tok_app {d : UInt8} (h : blankC d = true) (t v : List UInt8) (hv : v ≠ []) (he : (tokL v).e ≠ 12) : tokL (v ++ d :: t) = tokL v := by
 match v, hv with
 | c :: r, _ =>
  obtain ⟨hw, hd⟩ := blank_word h
  have e1 := runL_app hw t (c :: r)
  have e2 := runL_app hd t (c :: r)
  have e3 := sign_app h t c r
  have hcons : (c :: r) ++ d :: t = c :: (r ++ d :: t) := rfl
  rw [hcons] at e1 e2 e3 ⊢
  rw [tokL_cons] at he
  rw [tokL_cons, tokL_cons, e1, e2, e3]
  split
  ·rfl
  ·rename_i hs
   rw [if_neg hs] at he
   split
   ·have htk : (c :: (r ++ d :: t)).take (runLen digitC (c :: r)) = (c :: r).take (runLen digitC (c :: r)) := by
     rw [← hcons, List.take_append_of_le_length (runLen_le _ _)]
    rw [htk]
   ·rename_i hdg
    rw [if_neg hdg] at he
    split
    ·rename_i h34
     rw [if_pos h34] at he
     cases hq : quoS ((c :: r).drop 1) 1 ⟨0, [], none⟩ with
     | none => unfold quoL at he; rw [hq] at he; exact absurd rfl he
     | some Q =>
      have hq' := quo_app (d :: t) _ _ (Nat.le_refl _) _ _ _ hq
      unfold quoL
      have : (c :: (r ++ d :: t)).drop 1 = (c :: r).drop 1 ++ d :: t := rfl
      rw [this, hq', hq]
    ·rfl
theorem LexU.join {u : List UInt8} {l : List (Int × List UInt8 × Val)} {e : Int} {o : Nat} (h : LexU u l e o) (t : List UInt8) :
  (e = 0 → ∀ {l' : List (Int × List UInt8 × Val)} {e' : Int} {o' : Nat}, LexU t l' e' o' → LexU (u ++ 10 :: t) (l ++ l') e' o') ∧ (e ≠ 0 → e ≠ 12 → LexU (u ++ 10 :: t) l e (o + (t.length + 1))) := by
 induction h with
 | fin h =>
  refine ⟨fun _ l' e' o' k => ?_, fun he => absurd rfl he⟩
  refine k.congr ?_
  rw [skip_app t _ _ (Nat.le_refl _), if_pos h]
 | @err u v h hv he =>
  refine ⟨fun h0 => absurd h0 he, fun _ h12 => ?_⟩
  have hs : skip (u ++ 10 :: t) = v ++ 10 :: t := by rw [skip_app t _ _ (Nat.le_refl _), if_neg (by rw [h]; exact hv), h]
  have ht := tok_app (d := 10) (by decide) t v hv h12
  have := LexU.err hs (by simp) (by rw [ht]; exact he)
  rw [ht] at this
  have ho := tokL_off v
  have e1 : (v ++ 10 :: t).length - (tokL v).off = v.length - (tokL v).off + (t.length + 1) := by simp; omega
  rw [e1] at this
  exact this
 | @tok u v l e o h hv he hr ih =>
  have hs : skip (u ++ 10 :: t) = v ++ 10 :: t := by rw [skip_app t _ _ (Nat.le_refl _), if_neg (by rw [h]; exact hv), h]
  have ht := tok_app (d := 10) (by decide) t v hv (by rw [he]; decide)
  have hp := tokL_pos v he
  have hd : (v ++ 10 :: t).drop (tokL v).n = v.drop (tokL v).n ++ 10 :: t := List.drop_append_of_le_length hp.2
  have htk : (v ++ 10 :: t).take (tokL v).n = v.take (tokL v).n := List.take_append_of_le_length hp.2
  refine ⟨fun h0 l' e' o' k => ?_, fun h0 h12 => ?_⟩
  ·have := LexU.tok hs (by simp) (by rw [ht]; exact he) (by rw [ht, hd]; exact ih.1 h0 k)
   rw [ht, htk] at this
   exact this
  ·have := LexU.tok hs (by simp) (by rw [ht]; exact he) (by rw [ht, hd]; exact ih.2 h0 h12)
   rw [ht, htk] at this
   exact this
def joinB : List (List UInt8) → List UInt8
 | [] => []
 | [x] => x
 | x :: y :: r => x ++ 32 :: joinB (y :: r)
end Go.Proofs.YtnbmpfdffoidaaaGreatDoor.X
namespace Go.Proofs.YtnbmpfdffoidaaaGreatDoor.X
open Go.RowKit O V S
def skipK : Nat → List UInt8 → List UInt8
 | 0, l => l
 | _ + 1, [] => []
 | n + 1, c :: r => if blankC c then skipK n r else if c.toNat = 35 then skipK n (r.dropWhile noteC) else c :: r
def lexK (s : List UInt8) (f : Nat) (i : Nat) : List Tk × Int × Nat := match f with
 | 0 => ([], 0, 0)
 | f + 1 =>
  let t := skipK s.length (s.drop i)
  let j := s.length - t.length
  if t.length = 0 then ([], 0, 0)
  else
   let r := tokL t
   if r.e ≠ 0 then ([], r.e, j + r.off)
   else
    let x := lexK s f (j + r.n)
    (⟨r.k, t.take r.n, r.v, j⟩ :: x.1, x.2)
def toks1 : List Tk := [⟨1, [97, 99, 99], zeroV, 0⟩, ⟨4, [91], zeroV, 3⟩, ⟨1, [97], zeroV, 4⟩, ⟨4, [93], zeroV, 5⟩, ⟨4, [46], zeroV, 6⟩, ⟨1, [98, 97, 108], zeroV, 7⟩, ⟨4, [61], zeroV, 11⟩, ⟨2, [53], ⟨1, 5, []⟩, 13⟩, ⟨4, [59], zeroV, 14⟩]
theorem cells3p {W : World} {g : Nat} {x y z : Value} {T : TypeId} (h : W.heap[g]? = some (.cells #[x, y, z] T (0, 0))) : W.cell? ⟨g, 0, none⟩ = some x ∧ W.cell? ⟨g, 1, none⟩ = some y ∧ W.cell? ⟨g, 2, none⟩ = some z :=
 ⟨by rw [Lib.cell_of_heap h]; rfl, by rw [Lib.cell_of_heap h]; rfl, by rw [Lib.cell_of_heap h]; rfl⟩
end Go.Proofs.YtnbmpfdffoidaaaGreatDoor.X
namespace Go.Proofs.YtnbmpfdffoidaaaGreatDoor.X
open Go.RowKit O V S
theorem LexU.len {u : List UInt8} {l : List (Int × List UInt8 × Val)} {e : Int} {o : Nat} (h : LexU u l e o) : l.length ≤ u.length := by
 induction h with
 | fin _ => simp
 | err _ _ _ => simp
 | @tok u v l e o h hv he hr ih =>
  have hp := tokL_pos v he
  have h1 := skip_len _ u (Nat.le_refl _)
  rw [h] at h1
  rw [List.length_drop] at ih
  simp; omega
def AllX (s : List UInt8) (A : Option Addr) (n : Nat) (er a b d : Int) (w : World) : Prop := ∃ l o, LexU s l er o ∧ (er = 0 → a = 0 ∧ b = 0 ∧ d = 0 ∧ ∃ l', l'.map core = l ∧ TRow w A n l') ∧ (er ≠ 0 → n = 0 ∧ o ≤ s.length ∧ pv a b d = plc s (s.length - o))
theorem AllX.next {s : List UInt8} {A : Option Addr} {n : Nat} {er a b d : Int} {w W : World} (h : AllX s A n er a b d w) (bl : Below w.heap.size w W) : AllX s A n er a b d W := by
 obtain ⟨l, o, h1, h2, h3⟩ := h
 refine ⟨l, o, h1, fun he => ?_, h3⟩
 obtain ⟨e1, e2, e3, l', e4, e5⟩ := h2 he
 exact ⟨e1, e2, e3, l', e4, e5.next bl⟩
end Go.Proofs.YtnbmpfdffoidaaaGreatDoor.X
namespace Go.Proofs.YtnbmpfdffoidaaaGreatDoor.Y
open Go.RowKit O V S X
def TkS (t : Tok) (vs : List Value) : Prop := ∃ p q r : Int, vs = [nv t.1, sv t.2.1, nv t.2.2.k, nv t.2.2.n, sv t.2.2.s, nv p, nv q, nv r]
theorem TkS.size : ∀ (t : Tok) (vs : List Value), TkS t vs → vs.length = 8 := by rintro t vs ⟨p, q, r, rfl⟩; rfl
theorem tks_core : ∀ {l : List Tk} {xs : List Value}, Reps TkD l xs → Reps TkS (l.map core) xs
 | [], _, h => h
 | t :: l, _, ⟨vs, ys, e, ⟨p, q, r, h⟩, k⟩ => ⟨vs, ys, e, ⟨p, q, r, h⟩, tks_core k⟩
structure TR (w : World) (B : Nat) (A : Option Addr) (n c : Nat) (l : List Tok) : Prop where
 ex : ∃ xs, Rd w B 8 A n xs ∧ Reps TkS l xs
 cap : n ≤ c ∧ c ≤ 9223372036854775807
theorem TR.len {w : World} {B : Nat} {A : Option Addr} {n c : Nat} {l : List Tok} (h : TR w B A n c l) : l.length = n := by
 obtain ⟨xs, h1, h2⟩ := h.ex
 exact h1.len_of TkS.size h2 (by omega)
theorem TR.keep {w w' : World} {B : Nat} {A : Option Addr} {n c : Nat} {l : List Tok} (h : TR w B A n c l) (hk : ∀ b, b < B → w'.heap[b]? = w.heap[b]?) : TR w' B A n c l := by
 obtain ⟨xs, h1, h2⟩ := h.ex
 exact ⟨⟨xs, h1.keep fun p hp => World.cell?_of_block (hk _ hp), h2⟩, h.cap⟩
theorem TR.head {w : World} {B : Nat} {A : Option Addr} {n c : Nat} {t : Tok} {l : List Tok} (h : TR w B A n c (t :: l)) :
  ∃ b off, ∃ p q r : Int, A = some ⟨b, off, none⟩ ∧ b < B ∧ ((w.cell? ⟨b, off, none⟩ = some (nv t.1) ∧ w.cell? ⟨b, off + 1, none⟩ = some (sv t.2.1)) ∧ w.cell? ⟨b, off + 2, none⟩ = some (nv t.2.2.k) ∧ w.cell? ⟨b, off + 3, none⟩ = some (nv t.2.2.n) ∧ w.cell? ⟨b, off + 4, none⟩ = some (sv t.2.2.s)) ∧
   (w.cell? ⟨b, off + 5, none⟩ = some (nv p) ∧ w.cell? ⟨b, off + 6, none⟩ = some (nv q)) ∧ w.cell? ⟨b, off + 7, none⟩ = some (nv r) := by
 obtain ⟨xs, h1, h2⟩ := h.ex
 obtain ⟨b, off, vs, e, hb, ⟨p, q, r, rfl⟩, hc⟩ := h1.elem TkS.size h2 (i := 0) (by simp) (by omega)
 simp only [Nat.zero_mul, Nat.add_zero] at hc
 exact ⟨b, off, p, q, r, e, hb, ⟨⟨hc 0 (by omega), hc 1 (by omega)⟩, hc 2 (by omega), hc 3 (by omega), hc 4 (by omega)⟩, ⟨hc 5 (by omega), hc 6 (by omega)⟩, hc 7 (by omega)⟩
theorem TR.tail {w : World} {B n c b off : Nat} {t : Tok} {l : List Tok} (h : TR w B (some ⟨b, off, none⟩) n c (t :: l)) {A' : Option Addr} (hA : c ≠ 1 → A' = some ⟨b, off + 8, none⟩) : TR w B A' (n - 1) (c - 1) l := by
 have hl := h.len
 have hcap := h.cap
 simp at hl
 obtain ⟨xs, h1, h2⟩ := h.ex
 obtain ⟨vs, ys, rfl, ⟨p, q, r, rfl⟩, h4⟩ := h2
 have h5 := h4.length TkS.size
 refine ⟨⟨ys, ⟨by omega, fun hp => ?_⟩, h4⟩, by omega⟩
 obtain ⟨b', off', e, hb, hc⟩ := h1.2 (by simp)
 injection e with e
 injection e with e1 e2
 subst e1 e2
 refine ⟨b, off + 8, hA (by omega), hb, fun j hj => ?_⟩
 have := hc (8 + j) (by simp; omega)
 rw [Nat.add_assoc, this, List.getElem?_append_right (by simp)]
 simp
structure PsA (w : World) (g : Nat) (A : Option Addr) (n c : Nat) (a b e : Int) (d : Nat) (l : List Tok) : Prop where
 box : w.heap[g]? = some (.cells #[.slice A n c, nv a, nv b, nv e, nv d] 54 (0, 0))
 row : TR w g A n c l
 ok : AllW l
 txt : ∀ t ∈ l, t.2.1.length ≤ 1000000
def Ps (w : World) (g d : Nat) (l : List Tok) : Prop := ∃ A n c a b e, PsA w g A n c a b e d l
theorem PsA.lt {w : World} {g d : Nat} {A : Option Addr} {n c : Nat} {a b e : Int} {l : List Tok} (h : PsA w g A n c a b e d l) : g < w.heap.size := (Array.getElem?_eq_some_iff.1 h.box).1
theorem Ps.lt {w : World} {g d : Nat} {l : List Tok} (h : Ps w g d l) : g < w.heap.size := by
 obtain ⟨A, n, c, a, b, e, h⟩ := h
 exact h.lt
theorem Ps.ok {w : World} {g d : Nat} {l : List Tok} (h : Ps w g d l) : AllW l := by
 obtain ⟨A, n, c, a, b, e, h⟩ := h
 exact h.ok
theorem Ps.keep {w w' : World} {g d : Nat} {l : List Tok} (h : Ps w g d l) (hk : ∀ b, b ≤ g → w'.heap[b]? = w.heap[b]?) : Ps w' g d l := by
 obtain ⟨A, n, c, a, b, e, h⟩ := h
 exact ⟨A, n, c, a, b, e, (hk g (Nat.le_refl _)).trans h.box, h.row.keep fun b hb => hk b (Nat.le_of_lt hb), h.ok, h.txt⟩
theorem Ps.mod {w w' : World} {g d : Nat} {l : List Tok} {bs : List Nat} (h : Ps w g d l) (m : Mod bs w w') (hb : ∀ x ∈ bs, g < x) : Ps w' g d l :=
 h.keep fun b hbg => m.block b (Nat.lt_of_le_of_lt hbg h.lt) fun hx => by have := hb b hx; omega
theorem Ps.next {w w' : World} {g d : Nat} {l : List Tok} (h : Ps w g d l) (b : Below w.heap.size w w') : Ps w' g d l := h.mod (bs := []) (.of_below b) (fun _ hx => by cases hx)
theorem Ps.set {w : World} {g d b i : Nat} {l : List Tok} (h : Ps w g d l) (hb : g < b) (v : Value) : Ps (w.setCell ⟨b, i, none⟩ v) g d l := h.keep fun k hk => Below.heap_setCell _ _ _ _ (by simp only; omega)
theorem PsA.cells {w : World} {g d : Nat} {A : Option Addr} {n c : Nat} {a b e : Int} {l : List Tok} (h : PsA w g A n c a b e d l) :
  (w.cell? ⟨g, 0, none⟩ = some (.slice A n c) ∧ w.cell? ⟨g, 4, none⟩ = some (nv d)) ∧ w.cell? ⟨g, 1, none⟩ = some (nv a) ∧ w.cell? ⟨g, 2, none⟩ = some (nv b) ∧ w.cell? ⟨g, 3, none⟩ = some (nv e) := by
 refine ⟨⟨?_, ?_⟩, ?_, ?_, ?_⟩ <;> (rw [Lib.cell_of_heap h.box]; rfl)
theorem PsA.free {w : World} {g d : Nat} {A : Option Addr} {n c : Nat} {a b e : Int} {l : List Tok} (h : PsA w g A n c a b e d l) : w.frozen? ⟨g, 0, none⟩ = false ∧ w.frozen? ⟨g, 4, none⟩ = false := ⟨Lib.frozen_of_heap h.box 0, Lib.frozen_of_heap h.box 4⟩
theorem is_any (g d : Nat) (l : List Tok) (s : List UInt8) (w : World) (h : Ps w g d l) : Calls Tryz.prog 45 #[.pointer (some ⟨g, 0, none⟩), sv s] w fun e w' => e = .returned (.bool (isT l s)) ∧ w' = w := by
 obtain ⟨A, n, c, ea, eb, ec, hp⟩ := h
 have hlen := hp.row.len
 have hcap := hp.row.cap
 obtain ⟨⟨x0, x4⟩, x1, x2, x3⟩ := hp.cells
 obtain ⟨xf0, xf4⟩ := hp.free
 have hlt := hp.lt
 have HP := Lib.hid hp
 cases l with
 | nil =>
  obtain rfl : n = 0 := by simpa using hlen.symm
  clear hp
  go_enter Tryz.func45, Tryz.ntmps45
  go_wp2_with fail
  go_ret
  exact ⟨rfl, rfl⟩
 | cons t l =>
  obtain ⟨b, off, tp, tq, tr, rfl, hb, ⟨⟨y0, y1⟩, y2, y3, y4⟩, ⟨y5, y6⟩, y7⟩ := hp.row.head
  obtain ⟨tk, tt, tv⟩ := t
  dsimp only at y0 y1 y2 y3 y4
  clear hp
  have hn : 0 < n := by simp at hlen; omega
  have d1 : decide ((n : Int) > 0) = true := by simp; omega
  go_enter Tryz.func45, Tryz.ntmps45
  go_wp2_with fail
  ·go_ret
   exact ⟨ret_bool (by unfold isT; rename_i q; dsimp only; rw [decide_eq_true q, Bool.true_and]; by_cases h3 : tk = 3 <;> simp [h3]), rfl⟩
  ·go_ret
   exact ⟨ret_bool (by unfold isT; rename_i q; dsimp only; rw [decide_eq_false q, Bool.false_and]), rfl⟩
def flt (er p q r : Int) : Value := .iface 50 (.agg #[nv er, nv p, nv q, nv r])
def Bad (e : Ending) : Prop := ∃ er p q r : Int, er ≠ 0 ∧ e = .panicked [{ v := flt er p q r, recovered := false }]
def Out {α : Type} (bs : List Nat) (g d : Nat) (w : World) (R : Res α) (good : α → World → Value → Prop) (e : Ending) (w' : World) : Prop :=
 Mod bs w w' ∧ match R with
 | .ok a l => Ps w' g d l ∧ ∃ v, e = .returned v ∧ good a w' v
 | .bad => Bad e
 | .oof => False
theorem here_any (g d : Nat) (l : List Tok) (w : World) (h : Ps w g d l) : Calls Tryz.prog 95 #[.pointer (some ⟨g, 0, none⟩)] w fun e w' => (∃ p q r : Int, e = .returned (.agg #[nv p, nv q, nv r])) ∧ Below w.heap.size w w' := by
 obtain ⟨A, n, c, ea, eb, ec, hp⟩ := h
 have hlen := hp.row.len
 have hcap := hp.row.cap
 obtain ⟨⟨x0, x4⟩, x1, x2, x3⟩ := hp.cells
 obtain ⟨xf0, xf4⟩ := hp.free
 have hlt := hp.lt
 have HP := Lib.hid hp
 have hne : g ≠ w.heap.size := by omega
 cases l with
 | nil =>
  obtain rfl : n = 0 := by simpa using hlen.symm
  clear hp
  go_enter Tryz.func95, Tryz.ntmps95
  go_wp2_with fail
  refine bodyPost_ret (v := pv ea eb ec) (by simp [results, Tryz.results95, go_sem, pv]) rfl ?_
  refine ⟨⟨_, _, _, rfl⟩, ?_⟩
  repeat (first | (with_reducible exact Below.refl _ _) | (with_reducible assumption) | refine Below.setCell ?_ (by simp <;> omega) _ | refine Below.alloc ?_ (by simp <;> omega) _ | refine Below.drew ?_)
 | cons t l =>
  obtain ⟨b, off, tp, tq, tr, rfl, hb, ⟨⟨y0, y1⟩, y2, y3, y4⟩, ⟨y5, y6⟩, y7⟩ := hp.row.head
  obtain ⟨tk, tt, tv⟩ := t
  dsimp only at y0 y1 y2 y3 y4
  clear hp
  have hn : 0 < n := by simp at hlen; omega
  have hbw : b < w.heap.size := by omega
  have hn0 : n ≠ 0 := by omega
  go_enter Tryz.func95, Tryz.ntmps95
  go_wp2_with fail
  refine bodyPost_ret (v := pv tp tq tr) (by simp [results, Tryz.results95, go_sem, pv]) rfl ?_
  refine ⟨⟨_, _, _, rfl⟩, ?_⟩
  repeat (first | (with_reducible exact Below.refl _ _) | (with_reducible assumption) | refine Below.setCell ?_ (by simp <;> omega) _ | refine Below.alloc ?_ (by simp <;> omega) _ | refine Below.drew ?_)
theorem wrong_any (g d : Nat) (l : List Tok) (w : World) (h : Ps w g d l) : Calls Tryz.prog 49 #[.pointer (some ⟨g, 0, none⟩)] w fun e w' => Bad e ∧ Below w.heap.size w w' := by
 have h0 := h
 obtain ⟨A, n, c, ea, eb, ec, hp⟩ := h
 have hlen := hp.row.len
 have hcap := hp.row.cap
 obtain ⟨⟨x0, x4⟩, x1, x2, x3⟩ := hp.cells
 obtain ⟨xf0, xf4⟩ := hp.free
 have hlt := hp.lt
 have HP := Lib.hid hp
 cases l with
 | nil =>
  obtain rfl : n = 0 := by simpa using hlen.symm
  clear hp h0
  go_enter Tryz.func49, Tryz.ntmps49
  go_wp2_with fail
  exact ⟨rfl, ⟨_, _, _, _, by decide, rfl⟩, Below.refl _ _⟩
 | cons t l =>
  have hn0 : n ≠ 0 := by simp at hlen; omega
  have HS := Lib.hid h0
  clear hp h0 x0 x1 x2 x3 x4 xf0 xf4 hcap hlen
  have x0 := HP.out.cells.1.1
  go_enter Tryz.func49, Tryz.ntmps49
  go_wp2_with fail
  refine (here_any g d (t :: l) _ HS.out).mono ?_; rintro e w1 ⟨⟨p, q, r, rfl⟩, b1⟩
  go_wp2_with fail
  exact ⟨rfl, ⟨_, _, _, _, by decide, rfl⟩, b1⟩
theorem room_any (g d n most : Nat) (l : List Tok) (w : World) (h : Ps w g d l) (hn : n ≤ 1000000) (hm : most ≤ 1000000) : Calls Tryz.prog 46 #[.pointer (some ⟨g, 0, none⟩), nv n, nv most] w (Out [g] g d w (room n most l) fun _ _ v => v = .tuple #[]) := by
 have HS := Lib.hid h
 clear h
 unfold room
 by_cases hle : most ≤ n
 ·rw [if_pos hle]
  have d1 : decide ((n : Int) ≥ (most : Int)) = true := by simp; omega
  have d2 : decide (most ≤ n) = true := by simp; omega
  clear hle hn hm
  go_enter Tryz.func46, Tryz.ntmps46
  go_wp2_with fail
  refine (here_any g d l _ HS.out).mono ?_; rintro e w1 ⟨⟨p, q, r, rfl⟩, b1⟩
  go_wp2_with fail
  exact ⟨rfl, .of_below b1, _, _, _, _, by decide, rfl⟩
 ·rw [if_neg hle]
  have d1 : decide ((n : Int) ≥ (most : Int)) = false := by simp; omega
  have d2 : decide (most ≤ n) = false := by simp; omega
  clear hle hn hm
  go_enter Tryz.func46, Tryz.ntmps46
  go_wp2_with fail
  go_end0
  exact ⟨.refl _ _, HS.out, _, rfl, rfl⟩
theorem heap_set {w : World} {b i : Nat} {cs : Array Value} {T : TypeId} (hb : w.heap[b]? = some (.cells cs T (0, 0))) (v : Value) : (w.setCell ⟨b, i, none⟩ v).heap[b]? = some (.cells (cs.setIfInBounds i v) T (0, 0)) := by
 simp [World.setCell, Array.getElem?_modify, hb]
theorem PsA.past {w W : World} {g d : Nat} {b off n c : Nat} {x y z : Int} {t : Tok} {l : List Tok} (h : PsA w g (some ⟨b, off, none⟩) n c x y z d (t :: l)) (B : Below w.heap.size w W) (i : Nat) (hi : i = 0) {A' : Option Addr} (hA : c ≠ 1 → A' = some ⟨b, off + 8, none⟩) {n' c' : Nat} (hn : n' = n - 1) (hc : c' = c - 1) :
  Mod [g] w (W.setCell ⟨g, i, none⟩ (.slice A' n' c')) ∧ Ps (W.setCell ⟨g, i, none⟩ (.slice A' n' c')) g d l := by
 subst hi hn hc
 refine ⟨(Mod.of_below B).set (.inl (by simp)) _, A', n - 1, c - 1, x, y, z, ?_, (h.row.tail hA).keep fun k hk => ?_, h.ok.rest, fun t ht => h.txt t (by simp [ht])⟩
 ·have := heap_set (i := 0) ((B.block g h.lt).trans h.box) (.slice A' (n - 1) (c - 1))
  exact this
 ·rw [Below.heap_setCell _ _ _ _ (by simp only; omega)]
  exact B.block k (by have := h.lt; omega)
theorem take_any (g d : Nat) (l : List Tok) (s : List UInt8) (w : World) (h : Ps w g d l) : Calls Tryz.prog 99 #[.pointer (some ⟨g, 0, none⟩), sv s] w fun e w' => e = .returned (.bool (isT l s)) ∧ Mod [g] w w' ∧ Ps w' g d (if isT l s then l.tail else l) := by
 have HS := Lib.hid h
 cases hi : isT l s with
 | false =>
  clear h
  go_enter Tryz.func99, Tryz.ntmps99
  go_wp2_with fail
  refine (is_any g d l s _ HS.out).mono ?_; rintro e w1 ⟨rfl, rfl⟩
  rw [hi]
  go_wp2_with fail
  go_ret
  exact ⟨rfl, .refl _ _, HS.out⟩
 | true =>
  obtain ⟨A, n, c, ea, eb, ec, hp⟩ := h
  have hlen := hp.row.len
  have hcap := hp.row.cap
  obtain ⟨⟨x0, x4⟩, x1, x2, x3⟩ := hp.cells
  obtain ⟨xf0, xf4⟩ := hp.free
  have hlt := hp.lt
  have HP := Lib.hid hp
  cases l with
  | nil => cases hi
  | cons t l =>
   obtain ⟨b, off, tp, tq, tr, rfl, hb, ⟨⟨y0, y1⟩, y2, y3, y4⟩, ⟨y5, y6⟩, y7⟩ := hp.row.head
   obtain ⟨tk, tt, tv⟩ := t
   dsimp only at y0 y1 y2 y3 y4
   clear hp
   have hn : 1 ≤ n := by simp at hlen; omega
   have hc1 : 1 ≤ c := by omega
   clear y0 y1 y2 y3 y4 y5 y6 y7
   have hcn := hcap.1
   go_enter Tryz.func99, Tryz.ntmps99
   go_wp2_with fail
   refine (is_any g d _ s _ HS.out).mono ?_; rintro e w1 ⟨rfl, rfl⟩
   rw [hi]
   go_wp2_with fail
   ·go_ret
    obtain ⟨m1, m2⟩ := HP.out.past (Below.refl _ _) 0 rfl (A' := some ⟨b, off, none⟩) (c' := 0) (fun h => absurd (by assumption) h) rfl (by omega)
    exact ⟨rfl, m1, m2⟩
   ·go_ret
    obtain ⟨m1, m2⟩ := HP.out.past (Below.refl _ _) 0 rfl (A' := some ⟨b, off + 8, none⟩) (fun _ => rfl) rfl rfl
    exact ⟨rfl, m1, m2⟩
end Go.Proofs.YtnbmpfdffoidaaaGreatDoor.Y
namespace Go.Proofs.YtnbmpfdffoidaaaGreatDoor
open Go.RowKit
inductive Plan where
 | done
 | read (i : Nat) (rest : Plan)
 | call (i : Nat) (rest : Plan)
 | two (i j : Nat) (l r : Plan)
 | three (i j k : Nat) (l r s : Plan)
def Plan.len : Plan → Nat
 | .done => 0
 | .read _ rest => rest.len + 1
 | .call _ rest => rest.len + 1
 | .two _ _ l _ => l.len + 1
 | .three _ _ _ l _ _ => l.len + 1
section
variable {P : Program} {ops : Array Oper} {Q : Exit → Act → World → Prop} {md : Region.Mode} {bs : List Nat}
def wpPlan (bs : List Nat) (P : Program) (ops : Array Oper) (Q : Exit → Act → World → Prop) : Plan → Act → World → Prop
  | .done, a, w => Q .normal a w
  | .read i rest, a, w => ∃ o, ops[i]? = some o ∧
      ((Region.wanted o (yielded ops a.tmps) = true ∧ ∃ v, (∀ W, KB bs w W → (execOp a.eval o).run P W = .ok (.value v) W) ∧ wpPlan bs P ops Q rest (a.put o.dst v) w) ∨
       (Region.wanted o (yielded ops a.tmps) = false ∧ wpPlan bs P ops Q rest (a.put o.dst undef) w))
  | .call i rest, a, w => ∃ o, ops[i]? = some o ∧
      ((Region.wanted o (yielded ops a.tmps) = true ∧ o.wp P a w (fun a' w' => KB bs w w' ∧ wpPlan bs P ops Q rest a' w') Q) ∨
       (Region.wanted o (yielded ops a.tmps) = false ∧ wpPlan bs P ops Q rest (a.put o.dst undef) w))
  | .two i j l r, a, w => (∃ o, ops[i]? = some o ∧ Region.wanted o (yielded ops a.tmps) = true ∧ o.wp P a w (fun a' w' => KB bs w w' ∧ wpPlan bs P ops Q l a' w') Q) ∧
      (∃ o, ops[j]? = some o ∧ Region.wanted o (yielded ops a.tmps) = true ∧ o.wp P a w (fun a' w' => KB bs w w' ∧ wpPlan bs P ops Q r a' w') Q)
  | .three i j k l r s, a, w => (∃ o, ops[i]? = some o ∧ Region.wanted o (yielded ops a.tmps) = true ∧ o.wp P a w (fun a' w' => KB bs w w' ∧ wpPlan bs P ops Q l a' w') Q) ∧
      (∃ o, ops[j]? = some o ∧ Region.wanted o (yielded ops a.tmps) = true ∧ o.wp P a w (fun a' w' => KB bs w w' ∧ wpPlan bs P ops Q r a' w') Q) ∧
      (∃ o, ops[k]? = some o ∧ Region.wanted o (yielded ops a.tmps) = true ∧ o.wp P a w (fun a' w' => KB bs w w' ∧ wpPlan bs P ops Q s a' w') Q)
def planOk (md : Region.Mode) (ops : Array Oper) : Array Bool → Plan → Bool
 | listed, .done => (Region.ready md ops listed).isEmpty
 | listed, .read i rest => Region.free md ops listed i && (Region.ready md ops listed).contains i && planOk md ops (listed.setIfInBounds i true) rest
 | listed, .call i rest => (Region.ready md ops listed == [i]) && planOk md ops (listed.setIfInBounds i true) rest
 | listed, .two i j l r => (Region.ready md ops listed == [i, j]) && (l.len == r.len && (planOk md ops (listed.setIfInBounds i true) l && planOk md ops (listed.setIfInBounds j true) r))
 | listed, .three i j k l r s => (Region.ready md ops listed == [i, j, k]) && ((l.len == r.len && l.len == s.len) && (planOk md ops (listed.setIfInBounds i true) l && (planOk md ops (listed.setIfInBounds j true) r && planOk md ops (listed.setIfInBounds k true) s)))
theorem wpAnyH_plan (hs : Region.noSelect ops = true) (hQ : ∀ c a d v w, Q (.panic c) (a.put d v) w → Q (.panic c) a w) :
  ∀ (steps : Plan) (listed : Array Bool) (a : Act) (w : World), planOk md ops listed steps = true → wpPlan bs P ops Q steps a w → wpAnyH P md ops Q (KB bs w) steps.len listed a w
 | .done, listed, a, w, hok, h => ⟨by simpa [planOk] using hok, h⟩
 | .read i rest, listed, a, w, hok, h => by
  simp only [planOk, Bool.and_eq_true] at hok
  obtain ⟨⟨hf, hr⟩, hok⟩ := hok
  obtain ⟨o, hi, h⟩ := h
  rcases h with ⟨hw, v, hv, h⟩ | ⟨hw, h⟩
  ·exact wpAnyH_take (v := v) hi hs hf hr (fun c a w => hQ c a o.dst v w) (.inl ⟨hw, hv⟩) (KB.refl bs w) (wpAnyH_plan hs hQ rest _ _ w hok h)
  ·exact wpAnyH_take (v := undef) hi hs hf hr (fun c a w => hQ c a o.dst undef w) (.inr ⟨hw, rfl⟩) (KB.refl bs w) (wpAnyH_plan hs hQ rest _ _ w hok h)
 | .call i rest, listed, a, w, hok, h => by
  simp only [planOk, Bool.and_eq_true, beq_iff_eq] at hok
  obtain ⟨hr, hok⟩ := hok
  obtain ⟨o, hi, h⟩ := h
  refine wpAnyH_all hr (by simp) fun j hj => ?_
  obtain rfl : j = i := by simpa using hj
  unfold wpOp
  simp only [hi]
  rcases h with ⟨hw, h⟩ | ⟨hw, h⟩
  ·simp only [hw, if_true]
   refine .inl (Oper.wp_mono (fun a' w' h' => ⟨h'.1, ?_⟩) h)
   exact wpAnyH_impB (fun W hW => KB.trans h'.1 hW) _ _ _ _ (wpAnyH_plan hs hQ rest _ a' w' hok h'.2)
  ·simp only [hw, Bool.false_eq_true, if_false]
   exact ⟨KB.refl bs w, wpAnyH_plan hs hQ rest _ _ w hok h⟩
 | .two i j l r, listed, a, w, hok, h => by
  simp only [planOk, Bool.and_eq_true, beq_iff_eq] at hok
  obtain ⟨hr, hlen, hl, hrr⟩ := hok
  obtain ⟨⟨o, hi, hw, h⟩, ⟨o', hj, hw', h'⟩⟩ := h
  refine wpAnyH_all hr (by simp) fun k hk => ?_
  have hk2 : k = i ∨ k = j := by simpa using hk
  rcases hk2 with rfl | rfl
  ·unfold wpOp
   simp only [hi, hw, if_true]
   refine .inl (Oper.wp_mono (fun a' w' h' => ⟨h'.1, ?_⟩) h)
   exact wpAnyH_impB (fun W hW => KB.trans h'.1 hW) _ _ _ _ (wpAnyH_plan hs hQ l _ a' w' hl h'.2)
  ·unfold wpOp
   simp only [hj, hw', if_true]
   refine .inl (Oper.wp_mono (fun a' w' h' => ⟨h'.1, ?_⟩) h')
   have := wpAnyH_impB (fun W hW => KB.trans h'.1 hW) _ _ _ _ (wpAnyH_plan hs hQ r _ a' w' hrr h'.2)
   rwa [← hlen] at this
 | .three i j m l r s, listed, a, w, hok, h => by
  simp only [planOk, Bool.and_eq_true, beq_iff_eq] at hok
  obtain ⟨hr, ⟨hlen, hlen2⟩, hl, hrr, hss⟩ := hok
  obtain ⟨⟨o, hi, hw, h⟩, ⟨o', hj, hw', h'⟩, ⟨o2, hm, hw2, h2⟩⟩ := h
  refine wpAnyH_all hr (by simp) fun k hk => ?_
  have hk2 : k = i ∨ k = j ∨ k = m := by simpa using hk
  rcases hk2 with rfl | rfl | rfl
  ·unfold wpOp
   simp only [hi, hw, if_true]
   refine .inl (Oper.wp_mono (fun a' w' h' => ⟨h'.1, ?_⟩) h)
   exact wpAnyH_impB (fun W hW => KB.trans h'.1 hW) _ _ _ _ (wpAnyH_plan hs hQ l _ a' w' hl h'.2)
  ·unfold wpOp
   simp only [hj, hw', if_true]
   refine .inl (Oper.wp_mono (fun a' w' h' => ⟨h'.1, ?_⟩) h')
   have := wpAnyH_impB (fun W hW => KB.trans h'.1 hW) _ _ _ _ (wpAnyH_plan hs hQ r _ a' w' hrr h'.2)
   rwa [← hlen] at this
  ·unfold wpOp
   simp only [hm, hw2, if_true]
   refine .inl (Oper.wp_mono (fun a' w' h' => ⟨h'.1, ?_⟩) h2)
   have := wpAnyH_impB (fun W hW => KB.trans h'.1 hW) _ _ _ _ (wpAnyH_plan hs hQ s _ a' w' hss h'.2)
   rwa [← hlen2] at this
theorem wp_region_plan (bs : List Nat) {id : Nat} {a : Act} {w : World} (steps : Plan) (hm : P.follows .mixedOrders = true)
  (hok : (Region.noSelect ops && steps.len == ops.size && planOk .any ops (Array.replicate ops.size false) steps) = true)
  (hQ : ∀ c a d v w, Q (.panic c) (a.put d v) w → Q (.panic c) a w) (h : wpPlan bs P ops Q steps a w.drew) : (Code.region id ops true).wp P Q a w := by
 simp only [Bool.and_eq_true, beq_iff_eq] at hok
 obtain ⟨⟨hs, hl⟩, hok⟩ := hok
 refine wp_region_held (S := KB bs w.drew) hm ?_
 rw [← hl]
 exact wpAnyH_plan hs hQ steps _ a w.drew (by rw [hl]; exact hok) h
theorem pskip {l : List Oper} {i : Nat} {rest : Plan} {a : Act} {w : World} {o : Oper} (hi : l[i]? = some o) (hw : Region.wanted o (yielded l.toArray a.tmps) = false)
  (h : wpPlan bs P l.toArray Q rest (a.put o.dst undef) w) : wpPlan bs P l.toArray Q (.read i rest) a w := ⟨o, by simpa using hi, .inr ⟨hw, h⟩⟩
theorem pdone {a : Act} {w : World} (h : Q .normal a w) : wpPlan bs P ops Q .done a w := h
theorem pcall {l : List Oper} {i : Nat} {rest : Plan} {a : Act} {w : World} {o : Oper} (hi : l[i]? = some o) (hw : Region.wanted o (yielded l.toArray a.tmps) = true)
  (h : ∀ K : Act → World → Prop, Shut (∀ a' w', KB bs w w' → wpPlan bs P l.toArray Q rest a' w' → K a' w') → o.wp P a w K Q) : wpPlan bs P l.toArray Q (.call i rest) a w :=
 ⟨o, by simpa using hi, .inl ⟨hw, h _ (fun _ _ hg hk => ⟨hg, hk⟩)⟩⟩
theorem ptwo {l : List Oper} {i j : Nat} {r1 r2 : Plan} {a : Act} {w : World} {o o' : Oper} (hi : l[i]? = some o) (hw : Region.wanted o (yielded l.toArray a.tmps) = true) (hj : l[j]? = some o') (hw' : Region.wanted o' (yielded l.toArray a.tmps) = true)
  (h : ∀ K : Act → World → Prop, Shut (∀ a' w', KB bs w w' → wpPlan bs P l.toArray Q r1 a' w' → K a' w') → o.wp P a w K Q)
  (h' : ∀ K : Act → World → Prop, Shut (∀ a' w', KB bs w w' → wpPlan bs P l.toArray Q r2 a' w' → K a' w') → o'.wp P a w K Q) : wpPlan bs P l.toArray Q (.two i j r1 r2) a w :=
 ⟨⟨o, by simpa using hi, hw, h _ (fun _ _ hg hk => ⟨hg, hk⟩)⟩, ⟨o', by simpa using hj, hw', h' _ (fun _ _ hg hk => ⟨hg, hk⟩)⟩⟩
theorem pthree {l : List Oper} {i j k : Nat} {r1 r2 r3 : Plan} {a : Act} {w : World} {o o' o2 : Oper} (hi : l[i]? = some o) (hw : Region.wanted o (yielded l.toArray a.tmps) = true) (hj : l[j]? = some o') (hw' : Region.wanted o' (yielded l.toArray a.tmps) = true) (hk : l[k]? = some o2) (hw2 : Region.wanted o2 (yielded l.toArray a.tmps) = true)
  (h : ∀ K : Act → World → Prop, Shut (∀ a' w', KB bs w w' → wpPlan bs P l.toArray Q r1 a' w' → K a' w') → o.wp P a w K Q)
  (h' : ∀ K : Act → World → Prop, Shut (∀ a' w', KB bs w w' → wpPlan bs P l.toArray Q r2 a' w' → K a' w') → o'.wp P a w K Q)
  (h2 : ∀ K : Act → World → Prop, Shut (∀ a' w', KB bs w w' → wpPlan bs P l.toArray Q r3 a' w' → K a' w') → o2.wp P a w K Q) : wpPlan bs P l.toArray Q (.three i j k r1 r2 r3) a w :=
 ⟨⟨o, by simpa using hi, hw, h _ (fun _ _ hg hk => ⟨hg, hk⟩)⟩, ⟨o', by simpa using hj, hw', h' _ (fun _ _ hg hk => ⟨hg, hk⟩)⟩, ⟨o2, by simpa using hk, hw2, h2 _ (fun _ _ hg hk => ⟨hg, hk⟩)⟩⟩
theorem sreadxP {l : List Oper} {i : Nat} {rest : Plan} {a : Act} {w : World} {o : Oper} (hi : l[i]? = some o) (hw : Region.wanted o (yielded l.toArray a.tmps) = true)
  (h : ∃ v, (∀ W, KB bs w W → (execOp a.eval o).run P W = .ok (.value v) W) ∧ wpPlan bs P l.toArray Q rest (a.put o.dst v) w) : wpPlan bs P l.toArray Q (.read i rest) a w := ⟨o, by simpa using hi, .inl ⟨hw, h⟩⟩
theorem pwith {steps : Plan} {a : Act} {w : World} {p : World → Prop} (h1 : ∀ W, KB bs w W → p W) (h2 : (∀ W, KB bs w W → p W) → wpPlan bs P ops Q steps a w) : wpPlan bs P ops Q steps a w := h2 h1
end
end Go.Proofs.YtnbmpfdffoidaaaGreatDoor
