/- The contracts of record's reader at instances, and at rows of instances and of numbers. -/
/- The contracts of record.GetImage's closure, of record.read at it, and of record.GetImage, at bytes that record.PutImage has put. -/
import Derived.Test.YtpkoijlbbfffiaaRecGet4
import Derived.Test.YtpkoijlbbfffiaaImgMem
namespace Go.Proofs.Ytpkoijlbbfffiaa.R
open Go.RowKit O V

def iseg (x : Ins) : Nat → List UInt8
  | 0 => uintL x.id.toNat
  | 1 => uintL x.proc.toNat
  | 2 => uintL x.piece.toNat
  | 3 => uintL x.fin.toNat
  | 4 => rowL x.emits
  | 5 => rowL x.locals
  | _ => []
def ihd (pre : List UInt8) (x : Ins) : Nat → List UInt8
  | 0 => pre
  | k + 1 => ihd pre x k ++ iseg x k
def itl (x : Ins) (rest : List UInt8) (k : Nat) : List UInt8 := (List.range' k (6 - k)).flatMap (iseg x) ++ rest
theorem cut_ins (pre rest : List UInt8) (x : Ins) (k : Nat) (h : k < 6) : pre ++ (insL x ++ rest) = ihd pre x k ++ (iseg x k ++ itl x rest (k + 1)) := by
  rcases (show k = 0 ∨ k = 1 ∨ k = 2 ∨ k = 3 ∨ k = 4 ∨ k = 5 by omega) with h | h | h | h | h | h <;> subst h <;> simp [insL, numsL, ihd, iseg, itl, List.range', List.append_assoc]
/-- What is known of an instance that is read back. -/
structure IOk2 (x : Ins) : Prop where
  n : ((0 ≤ x.id ∧ x.id ≤ 1073741824) ∧ 0 ≤ x.proc ∧ x.proc ≤ 1073741824) ∧ (0 ≤ x.piece ∧ x.piece ≤ 1073741824) ∧ 0 ≤ x.fin ∧ x.fin ≤ 1073741824
  e : (∀ v ∈ x.emits, badV v = false ∧ VOk v) ∧ x.emits.length ≤ 20
  l : (∀ v ∈ x.locals, badV v = false ∧ VOk v) ∧ x.locals.length ≤ 20
theorem cells6 {W : World} {g : Nat} {a b c d e f : Value} {T : TypeId} (h : W.heap[g]? = some (.cells #[a, b, c, d, e, f] T (0, 0))) :
    ((W.cell? ⟨g, 0, none⟩ = some a ∧ W.cell? ⟨g, 1, none⟩ = some b) ∧ W.cell? ⟨g, 2, none⟩ = some c ∧ W.cell? ⟨g, 3, none⟩ = some d) ∧ W.cell? ⟨g, 4, none⟩ = some e ∧ W.cell? ⟨g, 5, none⟩ = some f := by
  refine ⟨⟨⟨?_, ?_⟩, ?_, ?_⟩, ?_, ?_⟩ <;> (rw [Lib.cell_of_heap h]; rfl)
theorem frozen6 {W : World} {g : Nat} {a b c d e f : Value} {T : TypeId} (h : W.heap[g]? = some (.cells #[a, b, c, d, e, f] T (0, 0))) :
    ((W.frozen? ⟨g, 0, none⟩ = false ∧ W.frozen? ⟨g, 1, none⟩ = false) ∧ W.frozen? ⟨g, 2, none⟩ = false ∧ W.frozen? ⟨g, 3, none⟩ = false) ∧ W.frozen? ⟨g, 4, none⟩ = false ∧ W.frozen? ⟨g, 5, none⟩ = false := by
  refine ⟨⟨⟨?_, ?_⟩, ?_, ?_⟩, ?_, ?_⟩ <;> exact Lib.frozen_of_heap h _
def RetI (g : Nat) (A : Option Addr) (n c : Nat) (l : List UInt8) (k : Nat) (x : Ins) (w : World) (e : Ending) (w' : World) : Prop :=
  ∃ s t : Sl, e = .returned (inv x s t) ∧ OwnV w' w.heap.size s x.emits ∧ OwnV w' w.heap.size t x.locals ∧ Rdr w' g A n c l k ∧ w.grownBy w' (some g)
set_option maxHeartbeats 4000000 in
set_option maxRecDepth 100000 in
theorem rinst_any (g : Nat) (A : Option Addr) (n c : Nat) (pre rest : List UInt8) (x : Ins) (w : World) (h : Rdr w g A n c (pre ++ (insL x ++ rest)) pre.length) (ok : IOk2 x) :
    Calls Try.prog 128 #[.pointer (some ⟨g, 0, none⟩)] w (RetI g A n c (pre ++ (insL x ++ rest)) (pre ++ insL x).length x w) := by
  have hg := h.lt
  have OK := Lib.hid ok
  have hend : Hid ((pre ++ insL x).length = (ihd pre x 6).length) := Lib.hid (by simp [insL, numsL, ihd, iseg])
  have X0 : Hid ((w.alloc (.cells #[.int .i64 0, .int .i64 0, .int .i64 0, .int .i64 0, .slice none 0 0, .slice none 0 0] 143)).heap[w.heap.size]? = some (.cells #[.int .i64 0, .int .i64 0, .int .i64 0, .int .i64 0, .slice none 0 0, .slice none 0 0] 143 (0, 0))) := Lib.hid (alloc_at rfl)
  have R0 : Hid (Rdr (w.alloc (.cells #[.int .i64 0, .int .i64 0, .int .i64 0, .int .i64 0, .slice none 0 0, .slice none 0 0] 143)) g A n c (pre ++ (insL x ++ rest)) (ihd pre x 0).length) := Lib.hid (h.next ((Below.refl _ _).alloc (Nat.le_refl _) _))
  have G0 : Hid (w.grownBy (w.alloc (.cells #[.int .i64 0, .int .i64 0, .int .i64 0, .int .i64 0, .slice none 0 0, .slice none 0 0] 143)) (some g)) := Lib.hid (gb_below ((Below.refl _ _).alloc (Nat.le_refl _) _) _)
  clear h ok
  go_enter Try.func128, Try.ntmps128
  go_wp2_with fail
  have QQ := num_step (g := g) (A := A) (n := n) (c := c) (ihd pre x 0) (itl x rest (0 + 1)) x.id OK.out.n.1.1.1 OK.out.n.1.1.2 (cut_ins pre rest x 0 (by omega)) _ R0.out
  refine QQ.mono ?_; rintro e w1 ⟨rfl, r1, g1⟩
  have X1 := Lib.hid (box_gb X0.out g1 hg)
  have G1 := Lib.hid (gb_trans G0.out g1)
  have R1 := Lib.hid r1
  clear QQ X0 G0 R0 r1 g1
  go_wp2_with fail
  have QQ := num_step (g := g) (A := A) (n := n) (c := c) (ihd pre x 1) (itl x rest (1 + 1)) x.proc OK.out.n.1.2.1 OK.out.n.1.2.2 (cut_ins pre rest x 1 (by omega)) _ R1.out
  refine QQ.mono ?_; rintro e w2 ⟨rfl, r2, g2⟩
  have X2 := Lib.hid (box_gb X1.out g2 hg)
  have G2 := Lib.hid (gb_trans G1.out g2)
  have R2 := Lib.hid r2
  clear QQ X1 G1 R1 r2 g2
  go_wp2_with fail
  have QQ := num_step (g := g) (A := A) (n := n) (c := c) (ihd pre x 2) (itl x rest (2 + 1)) x.piece OK.out.n.2.1.1 OK.out.n.2.1.2 (cut_ins pre rest x 2 (by omega)) _ R2.out
  refine QQ.mono ?_; rintro e w3 ⟨rfl, r3, g3⟩
  have X3 := Lib.hid (box_gb X2.out g3 hg)
  have G3 := Lib.hid (gb_trans G2.out g3)
  have R3 := Lib.hid r3
  clear QQ X2 G2 R2 r3 g3
  go_wp2_with fail
  have QQ := num_step (g := g) (A := A) (n := n) (c := c) (ihd pre x 3) (itl x rest (3 + 1)) x.fin OK.out.n.2.2.1 OK.out.n.2.2.2 (cut_ins pre rest x 3 (by omega)) _ R3.out
  refine QQ.mono ?_; rintro e w4 ⟨rfl, r4, g4⟩
  have X4 := Lib.hid (box_gb X3.out g4 hg)
  have G4 := Lib.hid (gb_trans G3.out g4)
  have R4 := Lib.hid r4
  clear QQ X3 G3 R3 r4 g4
  obtain ⟨⟨⟨y0, y1⟩, y2, y3⟩, y4, y5⟩ := cells6 X4.out
  obtain ⟨⟨⟨z0, z1⟩, z2, z3⟩, z4, z5⟩ := frozen6 X4.out
  go_wp2_with fail
  clear y0 y1 y2 y3 y4 y5 z0 z1 z2 z3 z4 z5
  have X5 : Hid (((((w4.setCell ⟨w.heap.size, 0, none⟩ (.int .i64 x.id)).setCell ⟨w.heap.size, 1, none⟩ (.int .i64 x.proc)).setCell ⟨w.heap.size, 2, none⟩ (.int .i64 x.piece)).setCell ⟨w.heap.size, 3, none⟩ (.int .i64 x.fin)).heap[w.heap.size]? = some (.cells #[.int .i64 x.id, .int .i64 x.proc, .int .i64 x.piece, .int .i64 x.fin, .slice none 0 0, .slice none 0 0] 143 (0, 0))) := Lib.hid (by
    have := heap_set (i := 3) (heap_set (i := 2) (heap_set (i := 1) (heap_set (i := 0) X4.out (.int .i64 x.id)) (.int .i64 x.proc)) (.int .i64 x.piece)) (.int .i64 x.fin)
    exact this)
  have R5 := Lib.hid ((((R4.out.other (i := 0) hg (.int .i64 x.id)).other (i := 1) hg (.int .i64 x.proc)).other (i := 2) hg (.int .i64 x.piece)).other (i := 3) hg (.int .i64 x.fin))
  have G5 := Lib.hid (gb_new (gb_new (gb_new (gb_new G4.out (Nat.le_refl _) 0 (.int .i64 x.id)) (Nat.le_refl _) 1 (.int .i64 x.proc)) (Nat.le_refl _) 2 (.int .i64 x.piece)) (Nat.le_refl _) 3 (.int .i64 x.fin))
  obtain ⟨w5, hw5⟩ : ∃ w5, (((w4.setCell ⟨w.heap.size, 0, none⟩ (.int .i64 x.id)).setCell ⟨w.heap.size, 1, none⟩ (.int .i64 x.proc)).setCell ⟨w.heap.size, 2, none⟩ (.int .i64 x.piece)).setCell ⟨w.heap.size, 3, none⟩ (.int .i64 x.fin) = w5 := ⟨_, rfl⟩
  rw [hw5] at X5 R5 G5 ⊢
  clear hw5 X4 R4 G4
  have hh : w.heap.size + 1 ≤ w5.heap.size := (Array.getElem?_eq_some_iff.1 X5.out).1
  have hb : w.heap.size < w.heap.size + 1 := by omega
  have hg1 : g < w.heap.size + 1 := by omega
  have QQ := vals_step (g := g) (A := A) (n := n) (c := c) (ihd pre x 4) (itl x rest (4 + 1)) x.emits OK.out.e.1 OK.out.e.2 (cut_ins pre rest x 4 (by omega)) _ R5.out
  refine QQ.mono ?_; rintro e w6 ⟨A6, n6, c6, xs6, rfl, o6, p6, r6, g6⟩
  have X6 := Lib.hid (box_gb X5.out g6 hg)
  have G6 := Lib.hid (gb_trans G5.out g6)
  have R6 := Lib.hid r6
  have O6 := Lib.hid ((OwnV.mk o6 p6).more hh)
  clear QQ X5 G5 R5 o6 p6
  have hh := Nat.le_trans hh g6.size
  go_wp2_with fail
  have QQ := vals_step (g := g) (A := A) (n := n) (c := c) (ihd pre x 5) (itl x rest (5 + 1)) x.locals OK.out.l.1 OK.out.l.2 (cut_ins pre rest x 5 (by omega)) _ R6.out
  refine QQ.mono ?_; rintro e w7 ⟨A7, n7, c7, xs7, rfl, o7, p7, r7, g7⟩
  have X7 := Lib.hid (box_gb X6.out g7 hg)
  have G7 := Lib.hid (gb_trans G6.out g7)
  have R7 := Lib.hid r7
  have O7 := Lib.hid ((OwnV.mk o7 p7).more hh)
  clear QQ X6 G6 R6 o7 p7
  have O6 := Lib.hid (O6.out.grown g7 hg1)
  obtain ⟨⟨⟨y0, y1⟩, y2, y3⟩, y4, y5⟩ := cells6 X7.out
  obtain ⟨⟨⟨z0, z1⟩, z2, z3⟩, z4, z5⟩ := frozen6 X7.out
  go_wp2_with fail
  clear y0 y1 y2 y3 y4 y5 z0 z1 z2 z3 z4 z5
  have X9 : Hid (((((((((w7.setCell ⟨w.heap.size, 4, none⟩ (.slice A6 n6 c6)).setCell ⟨w.heap.size, 5, none⟩ (.slice A7 n7 c7)).setCell ⟨w.heap.size, 0, none⟩ (.int .i64 x.id)).setCell ⟨w.heap.size, 1, none⟩ (.int .i64 x.proc)).setCell ⟨w.heap.size, 2, none⟩ (.int .i64 x.piece)).setCell ⟨w.heap.size, 3, none⟩ (.int .i64 x.fin)).setCell ⟨w.heap.size, 4, none⟩ (.slice A6 n6 c6)).setCell ⟨w.heap.size, 5, none⟩ (.slice A7 n7 c7)).heap[w.heap.size]? = some (.cells #[.int .i64 x.id, .int .i64 x.proc, .int .i64 x.piece, .int .i64 x.fin, .slice A6 n6 c6, .slice A7 n7 c7] 143 (0, 0))) := Lib.hid (by
    have := heap_set (i := 5) (heap_set (i := 4) (heap_set (i := 3) (heap_set (i := 2) (heap_set (i := 1) (heap_set (i := 0) (heap_set (i := 5) (heap_set (i := 4) X7.out (.slice A6 n6 c6)) (.slice A7 n7 c7)) (.int .i64 x.id)) (.int .i64 x.proc)) (.int .i64 x.piece)) (.int .i64 x.fin)) (.slice A6 n6 c6)) (.slice A7 n7 c7)
    exact this)
  have O9 := Lib.hid ((((((((O6.out.set (i := 4) hb (.slice A6 n6 c6)).set (i := 5) hb (.slice A7 n7 c7)).set (i := 0) hb (.int .i64 x.id)).set (i := 1) hb (.int .i64 x.proc)).set (i := 2) hb (.int .i64 x.piece)).set (i := 3) hb (.int .i64 x.fin)).set (i := 4) hb (.slice A6 n6 c6)).set (i := 5) hb (.slice A7 n7 c7))
  have P9 := Lib.hid ((((((((O7.out.set (i := 4) hb (.slice A6 n6 c6)).set (i := 5) hb (.slice A7 n7 c7)).set (i := 0) hb (.int .i64 x.id)).set (i := 1) hb (.int .i64 x.proc)).set (i := 2) hb (.int .i64 x.piece)).set (i := 3) hb (.int .i64 x.fin)).set (i := 4) hb (.slice A6 n6 c6)).set (i := 5) hb (.slice A7 n7 c7))
  have R9 := Lib.hid ((((((((R7.out.other (i := 4) hg (.slice A6 n6 c6)).other (i := 5) hg (.slice A7 n7 c7)).other (i := 0) hg (.int .i64 x.id)).other (i := 1) hg (.int .i64 x.proc)).other (i := 2) hg (.int .i64 x.piece)).other (i := 3) hg (.int .i64 x.fin)).other (i := 4) hg (.slice A6 n6 c6)).other (i := 5) hg (.slice A7 n7 c7))
  have G9 := Lib.hid (gb_new (gb_new (gb_new (gb_new (gb_new (gb_new (gb_new (gb_new G7.out (Nat.le_refl _) 4 (.slice A6 n6 c6)) (Nat.le_refl _) 5 (.slice A7 n7 c7)) (Nat.le_refl _) 0 (.int .i64 x.id)) (Nat.le_refl _) 1 (.int .i64 x.proc)) (Nat.le_refl _) 2 (.int .i64 x.piece)) (Nat.le_refl _) 3 (.int .i64 x.fin)) (Nat.le_refl _) 4 (.slice A6 n6 c6)) (Nat.le_refl _) 5 (.slice A7 n7 c7))
  obtain ⟨w9, hw9⟩ : ∃ w9, (((((((w7.setCell ⟨w.heap.size, 4, none⟩ (.slice A6 n6 c6)).setCell ⟨w.heap.size, 5, none⟩ (.slice A7 n7 c7)).setCell ⟨w.heap.size, 0, none⟩ (.int .i64 x.id)).setCell ⟨w.heap.size, 1, none⟩ (.int .i64 x.proc)).setCell ⟨w.heap.size, 2, none⟩ (.int .i64 x.piece)).setCell ⟨w.heap.size, 3, none⟩ (.int .i64 x.fin)).setCell ⟨w.heap.size, 4, none⟩ (.slice A6 n6 c6)).setCell ⟨w.heap.size, 5, none⟩ (.slice A7 n7 c7) = w9 := ⟨_, rfl⟩
  rw [hw9] at X9 O9 P9 R9 G9 ⊢
  clear hw9 X7 R7 G7 O6 O7
  obtain ⟨⟨⟨y0, y1⟩, y2, y3⟩, y4, y5⟩ := cells6 X9.out
  obtain ⟨⟨⟨z0, z1⟩, z2, z3⟩, z4, z5⟩ := frozen6 X9.out
  refine bodyPost_ret (v := inv x ⟨A6, n6, c6⟩ ⟨A7, n7, c7⟩) (by simp [results, Try.results128, go_sem, inv, y0, y1, y2, y3, y4, y5]) rfl ?_
  exact ⟨⟨A6, n6, c6⟩, ⟨A7, n7, c7⟩, rfl, O9.out.more (Nat.le_of_lt hb), P9.out.more (Nat.le_of_lt hb), by rw [hend.out]; exact R9.out, G9.out⟩
theorem insE : Elem Try.prog 73 143 6 80 (.agg #[.int .i64 0, .int .i64 0, .int .i64 0, .int .i64 0, .slice none 0 0, .slice none 0 0]) := by
  obtain ⟨i, hi, h1, h2, h3⟩ := info_parts (show (Try.prog.info? 143).map (fun i => (i.zero, i.size, i.bytes)) = some (some (.agg #[.int .i64 0, .int .i64 0, .int .i64 0, .int .i64 0, .slice none 0 0, .slice none 0 0]), 6, 80) by kernel_rfl)
  exact ⟨Try.underlying73, i, hi, h1, h2, h3, rfl, by omega⟩
def InO (w : World) (B : Nat) (x : Ins) (cs : List Value) : Prop := ∃ e s : Sl, cs = [.int .i64 x.id, .int .i64 x.proc, .int .i64 x.piece, .int .i64 x.fin, .slice e.A e.n e.c, .slice s.A s.n s.c] ∧ OwnV w B e x.emits ∧ OwnV w B s x.locals
theorem InO.size {w : World} {B : Nat} : ∀ (a : Ins) vs, InO w B a vs → vs.length = 6 := by rintro a vs ⟨e, s, rfl, _⟩; rfl
theorem InO.grown {w w' : World} {B g : Nat} {l : List Ins} {xs : List Value} (h : Reps (InO w B) l xs) (hg : w.grownBy w' (some g)) (hb : g < B) : Reps (InO w' B) l xs := h.imp (fun a vs ⟨e, s, q, o, p⟩ => ⟨e, s, q, o.grown hg hb, p.grown hg hb⟩)
theorem InO.below {w w' : World} {B : Nat} {l : List Ins} {xs : List Value} (h : Reps (InO w B) l xs) (hg : Below w.heap.size w w') : Reps (InO w' B) l xs := h.imp (fun a vs ⟨e, s, q, o, p⟩ => ⟨e, s, q, o.below hg, p.below hg⟩)
theorem OwnV.beside {w w' : World} {B b e size n : Nat} {v : Value} {ys : List Value} {s : Sl} {l : List Val} (h : OwnV w B s l) (ho : w.ownsRow b e size v n ys) (hne : 23 ≠ e) (hg : w.grownBy w' v.ownBlock) : OwnV w' B s l := by
  obtain ⟨zs, o1, o2⟩ := h
  exact ⟨zs, o1.kept hg (own_apart o1 ho hne), o2⟩
theorem InO.beside {w w' : World} {B b size n : Nat} {v : Value} {ys : List Value} {l : List Ins} {xs : List Value} (h : Reps (InO w B) l xs) (ho : w.ownsRow b 143 size v n ys) (hg : w.grownBy w' v.ownBlock) : Reps (InO w' B) l xs :=
  h.imp (fun a vs ⟨e, s, q, o, p⟩ => ⟨e, s, q, o.beside ho (by decide) hg, p.beside ho (by decide) hg⟩)
def RetIs (g : Nat) (A : Option Addr) (n c : Nat) (l : List UInt8) (k : Nat) (a : List Ins) (w : World) (e : Ending) (w' : World) : Prop :=
  ∃ (A' : Option Addr) (n' c' : Nat) (xs : List Value), e = .returned (.slice A' n' c') ∧ w'.ownsRow w.heap.size 143 6 (.slice A' n' c') n' xs ∧ Reps (InO w' w.heap.size) a xs ∧ Rdr w' g A n c l k ∧ w.grownBy w' (some g)
theorem putIns_ge : ∀ (a : List Ins), a.length ≤ (putIns a).length
  | [] => by simp [putIns]
  | x :: a => by
    have h1 := putIns_ge a
    have h2 : 0 < (insL x).length := by
      have := uintL_pos' x.id.toNat
      simp [insL, numsL]
      omega
    unfold putIns at h1 ⊢
    rw [List.flatMap_cons, List.length_append, List.length_cons]
    omega
theorem ins_split {a : List Ins} {k : Nat} (h : k < a.length) (pre rest : List UInt8) : pre ++ (putIns a ++ rest) = (pre ++ putIns (a.take k)) ++ (insL a[k] ++ (putIns (a.drop (k + 1)) ++ rest)) := by
  have e : putIns a = putIns (a.take k) ++ (insL a[k] ++ putIns (a.drop (k + 1))) := by
    conv => lhs; rw [← List.take_append_drop k a, List.drop_eq_getElem_cons h]
    unfold putIns
    rw [List.flatMap_append, List.flatMap_cons]
  rw [e]
  simp [List.append_assoc]
set_option maxHeartbeats 2000000 in
set_option maxRecDepth 100000 in
theorem rrowsI_any (g : Nat) (A : Option Addr) (n c : Nat) (pre rest : List UInt8) (a : List Ins) (w : World) (h : Rdr w g A n c (pre ++ (putIns a ++ rest)) pre.length) (ha : ∀ x ∈ a, IOk2 x) (h20 : a.length ≤ 20) :
    Calls Try.prog 127 #[.pointer (some ⟨g, 0, none⟩), .int .i64 (a.length : Int), .func (.func 128) #[.pointer (some ⟨g, 0, none⟩)] #[]] w
      (RetIs g A n c (pre ++ (putIns a ++ rest)) (pre.length + (putIns a).length) a w) := by
  have hg := h.lt
  have hl := h.len
  have hcap := h.cap
  have hn := h.n
  have hge := putIns_ge a
  have hkn : pre.length + a.length ≤ n := by rw [← hl]; simp only [List.length_append]; omega
  have HR := Lib.hid h
  have HA := Lib.hid ha
  have hsp := fun k hk => ins_split (a := a) (k := k) hk pre rest
  have HSP := Lib.hid hsp
  clear h hl ha hge hsp
  obtain ⟨m, hm⟩ : ∃ m, a.length = m := ⟨_, rfl⟩
  rw [hm] at h20 hkn ⊢
  have HM := Lib.hid hm
  clear hm
  generalize hL : pre ++ (putIns a ++ rest) = L at *
  clear hL
  obtain ⟨p, hp⟩ : ∃ p, pre.length = p := ⟨_, rfl⟩
  rw [hp] at HR hkn ⊢
  have HP := Lib.hid hp
  clear hp
  have d0 : (m : Int) ≤ (n : Int) - (p : Int) := by omega
  have d1 : decide ((m : Int) ≤ (n : Int) - (p : Int)) = true := by simp; omega
  have hwr : IntKind.i64.wrap ((n : Int) - (p : Int)) = (n : Int) - (p : Int) := IntWalk.i64_in _ (by omega)
  go_enter Try.func127, Try.ntmps127
  go_wp2_with fail
  refine wp_region_sched [(0, true), (1, true), (2, true), (3, true), (4, true), (5, true), (6, true), (7, true), (8, true), (9, true), (10, true), (11, true), (12, false)] (by kernel_rfl) (by kernel_rfl) (fun _ _ d _ _ h => by cases d <;> exact h) ?_
  refine swith (fun W hW => (HR.out.next ((Below.refl _ _).drew.trans (hW.out.mono (Nat.le_refl _)))).cells) (fun q => ?_)
  repeat (first | (refine sreadx rfl rfl ?_; apply Exists.intro; apply And.intro; (· (intro W hW; first | (go_simp; done) | (go_simp; with_reducible rfl) | (go_simp; rw [if_neg (by omega)]; done) | (go_simp; rw [if_neg (by omega)]; with_reducible rfl))); simp only [Act.put, List.setIfInBounds_toArray, List.set_cons_zero, List.set_cons_succ]) | (refine sskip rfl rfl ?_; simp only [Act.put, List.setIfInBounds_toArray, List.set_cons_zero, List.set_cons_succ]))
  refine scall rfl rfl (fun K hK => ?_)
  go_simp
  refine (must_yes _).mono ?_; rintro e w2 ⟨rfl, rfl⟩
  go_wp2_with fail
  refine hK.out _ _ (by exact Grow.refl _) ?_
  clear hK K
  try simp only [Act.put, List.setIfInBounds_toArray, List.set_cons_zero, List.set_cons_succ]
  repeat (first | (refine sreadx rfl rfl ?_; apply Exists.intro; apply And.intro; (· (intro W hW; first | (go_simp; done) | (go_simp; with_reducible rfl) | (go_simp; rw [if_neg (by omega)]; done) | (go_simp; rw [if_neg (by omega)]; with_reducible rfl))); simp only [Act.put, List.setIfInBounds_toArray, List.set_cons_zero, List.set_cons_succ]) | (refine sskip rfl rfl ?_; simp only [Act.put, List.setIfInBounds_toArray, List.set_cons_zero, List.set_cons_succ]))
  refine sdone ?_
  clear q hwr
  have R1 := Lib.hid (HR.out.next (Below.refl _ _).drew)
  have G1 : Hid (w.grownBy w.drew (some g)) := Lib.hid (gb_below (Below.refl _ _).drew _)
  go_wp2_with fail
  go_loopw [6, 21] (fun v i wr => ∃ (k : Nat) (A1 : Option Addr) (n1 c1 : Nat) (xs : List Value), k ≤ m ∧ i = .int .i64 k ∧ v = .slice A1 n1 c1 ∧ wr.ownsRow w.heap.size 143 6 (.slice A1 n1 c1) n1 xs ∧ Hid (Reps (InO wr w.heap.size) (a.take k) xs) ∧ Rdr wr g A n c L (p + (putIns (a.take k)).length) ∧ w.grownBy wr (some g)) (fun _ i _ => m - (intOf i).toNat)
  case atStart => exact ⟨0, none, 0, 0, [], by omega, rfl, rfl, World.ownsRow_nil _ _ _ _, Lib.hid (by simp [Reps]), by simpa [putIns] using R1.out, G1.out⟩
  case round =>
    obtain ⟨k, A1, n1, c1, xs, hk, rfl, rfl, ho, hrp, hR, hG⟩ := hrel
    clear R1 G1
    have hn1 : n1 = k := by
      have e1 := ho.1
      have e2 := hrp.out.length InO.size
      have e3 := HM.out
      simp at e2
      omega
    subst hn1
    have HO := Lib.hid ho
    have HG := Lib.hid hG
    have hbs := hG.size
    by_cases hlt : n1 < m
    · have hlt' : n1 < a.length := by rw [HM.out]; exact hlt
      have e1 := HSP.out n1 hlt'
      have ex := HA.out a[n1] (List.getElem_mem hlt')
      have hst := Lib.hid (putIns_step hlt')
      have htk := Lib.hid (List.take_succ_eq_append_getElem hlt')
      have hR' : Rdr wr g A n c ((pre ++ putIns (a.take n1)) ++ (insL a[n1] ++ (putIns (a.drop (n1 + 1)) ++ rest))) (pre ++ putIns (a.take n1)).length := by
        rw [← e1, List.length_append, HP.out]; exact hR
      have hq := rinst_any g A n c _ _ a[n1] _ hR' ex
      rw [← e1, List.length_append, List.length_append, HP.out] at hq
      have HQ := Lib.hid hq
      clear e1 ex hR' hq ho hG hR
      generalize a[n1] = x at *
      go_wp2_with fail
      refine HQ.out.mono ?_; rintro e w2 ⟨s, t, rfl, o2, p2, r2, g2⟩
      have HO2 := Lib.hid (own_keep HO.out g2 hg)
      have HG2 := Lib.hid (gb_trans HG.out g2)
      have R2 := Lib.hid r2
      have HS := Lib.hid (o2.more hbs)
      have HT := Lib.hid (p2.more hbs)
      have hrp2 := Lib.hid (InO.grown hrp.out g2 hg)
      have hbs2 := Nat.le_trans hbs g2.size
      clear r2 g2 o2 p2 HQ HO HG hrp
      simp only [inv]
      go_wp2_with (at_builtin; refine wpList_app rfl (.tmp 23) (.tmp 26) insE rfl w.heap.size xs rfl (HO2.out.alloc _) rfl [.int .i64 x.id, .int .i64 x.proc, .int .i64 x.piece, .int .i64 x.fin, .slice s.A s.n s.c, .slice t.A t.n t.c] (Rd.made _ [.int .i64 x.id, .int .i64 x.proc, .int .i64 x.piece, .int .i64 x.fin, .slice s.A s.n s.c, .slice t.A t.n t.c] rfl rfl) (by simp [Value.oneCell']) (by unfold maxLen; omega) (by omega) (by simp; omega) ?_; intro A3 c3 w3 o3 g3 _)
      have hoa := HO2.out.alloc (.cells #[.int .i64 x.id, .int .i64 x.proc, .int .i64 x.piece, .int .i64 x.fin, .slice s.A s.n s.c, .slice t.A t.n t.c] 143)
      have hown := fun j hj => (hoa.lt j hj).1
      have R3 := (R2.out.next ((Below.refl _ _).alloc (Nat.le_refl _) _)).grown g3 (fun j hj => Nat.lt_of_lt_of_le hg (hown j hj))
      have G3 := gb_own (gb_trans HG2.out (gb_below ((Below.refl _ _).alloc (Nat.le_refl _) _) _)) g3 hown
      have hrp3 := InO.beside (InO.below hrp2.out ((Below.refl _ _).alloc (Nat.le_refl _) (.cells #[.int .i64 x.id, .int .i64 x.proc, .int .i64 x.piece, .int .i64 x.fin, .slice s.A s.n s.c, .slice t.A t.n t.c] 143))) hoa g3
      have hone : Reps (InO _ w.heap.size) [x] [.int .i64 x.id, .int .i64 x.proc, .int .i64 x.piece, .int .i64 x.fin, .slice s.A s.n s.c, .slice t.A t.n t.c] := .one ⟨s, t, rfl, HS.out, HT.out⟩
      have hone3 := InO.beside (InO.below hone ((Below.refl _ _).alloc (Nat.le_refl _) (.cells #[.int .i64 x.id, .int .i64 x.proc, .int .i64 x.piece, .int .i64 x.fin, .slice s.A s.n s.c, .slice t.A t.n t.c] 143))) hoa g3
      go_roundw
      case rel => exact ⟨n1 + 1, A3, n1 + 1, c3, _, by omega, by go_num, rfl, o3, Lib.hid (by rw [htk.out]; exact hrp3.append hone3), by rw [hst.out, List.length_append, ← Nat.add_assoc]; exact R3, G3⟩
      case measure => simp [intOf]; omega
    · obtain rfl : n1 = m := by omega
      go_wp2_with fail
      go_ret
      have e1 : a.take n1 = a := by rw [← HM.out, List.take_length]
      rw [e1] at hrp hR
      exact ⟨A1, n1, c1, xs, rfl, ho, hrp.out, hR, hG⟩
theorem intE : Elem Try.prog 74 3 1 8 (.int .i64 0) := by
  obtain ⟨i, hi, h1, h2, h3⟩ := info_parts (show (Try.prog.info? 3).map (fun i => (i.zero, i.size, i.bytes)) = some (some (.int .i64 0), 1, 8) by kernel_rfl)
  exact ⟨Try.underlying74, i, hi, h1, h2, h3, rfl, by omega⟩
def RetN (g : Nat) (A : Option Addr) (n c : Nat) (l : List UInt8) (k : Nat) (a : List Int) (w : World) (e : Ending) (w' : World) : Prop :=
  ∃ (A' : Option Addr) (n' c' : Nat), e = .returned (.slice A' n' c') ∧ w'.ownsRow w.heap.size 3 1 (.slice A' n' c') n' (ivz a) ∧ Rdr w' g A n c l k ∧ w.grownBy w' (some g)
theorem uL_ge : ∀ (a : List Int), a.length ≤ (uL a).length
  | [] => by simp [uL]
  | x :: a => by
    have h1 := uL_ge a
    have h2 := uintL_pos' x.toNat
    unfold uL at h1 ⊢
    rw [List.flatMap_cons, List.length_append, List.length_cons]
    omega
theorem uL_split {a : List Int} {k : Nat} (h : k < a.length) (pre rest : List UInt8) : pre ++ (uL a ++ rest) = (pre ++ uL (a.take k)) ++ (uintL (a[k]).toNat ++ (uL (a.drop (k + 1)) ++ rest)) := by
  have e : uL a = uL (a.take k) ++ (uintL (a[k]).toNat ++ uL (a.drop (k + 1))) := by
    conv => lhs; rw [← List.take_append_drop k a, List.drop_eq_getElem_cons h]
    unfold uL
    rw [List.flatMap_append, List.flatMap_cons]
  rw [e]
  simp [List.append_assoc]
theorem ivz_snoc {a : List Int} {k : Nat} (h : k < a.length) : ivz (a.take (k + 1)) = ivz (a.take k) ++ [.int .i64 a[k]] := by
  rw [List.take_succ_eq_append_getElem h]
  unfold ivz
  rw [List.map_append]
  rfl
set_option maxHeartbeats 2000000 in
set_option maxRecDepth 100000 in
theorem rrowsN_any (g : Nat) (A : Option Addr) (n c : Nat) (pre rest : List UInt8) (a : List Int) (w : World) (h : Rdr w g A n c (pre ++ (uL a ++ rest)) pre.length) (ha : ∀ x ∈ a, 0 ≤ x ∧ x ≤ 1073741824) (h20 : a.length ≤ 40) :
    Calls Try.prog 129 #[.pointer (some ⟨g, 0, none⟩), .int .i64 (a.length : Int), .func (.func 114) #[.pointer (some ⟨g, 0, none⟩)] #[]] w
      (RetN g A n c (pre ++ (uL a ++ rest)) (pre.length + (uL a).length) a w) := by
  have hg := h.lt
  have hl := h.len
  have hcap := h.cap
  have hn := h.n
  have hge := uL_ge a
  have hkn : pre.length + a.length ≤ n := by rw [← hl]; simp only [List.length_append]; omega
  have HR := Lib.hid h
  have HA := Lib.hid ha
  have hsp := fun k hk => uL_split (a := a) (k := k) hk pre rest
  have HSP := Lib.hid hsp
  clear h hl ha hge hsp
  obtain ⟨m, hm⟩ : ∃ m, a.length = m := ⟨_, rfl⟩
  rw [hm] at h20 hkn ⊢
  have HM := Lib.hid hm
  clear hm
  generalize hL : pre ++ (uL a ++ rest) = L at *
  clear hL
  obtain ⟨p, hp⟩ : ∃ p, pre.length = p := ⟨_, rfl⟩
  rw [hp] at HR hkn ⊢
  have HP := Lib.hid hp
  clear hp
  have d0 : (m : Int) ≤ (n : Int) - (p : Int) := by omega
  have d1 : decide ((m : Int) ≤ (n : Int) - (p : Int)) = true := by simp; omega
  have hwr : IntKind.i64.wrap ((n : Int) - (p : Int)) = (n : Int) - (p : Int) := IntWalk.i64_in _ (by omega)
  go_enter Try.func129, Try.ntmps129
  go_wp2_with fail
  refine wp_region_sched [(0, true), (1, true), (2, true), (3, true), (4, true), (5, true), (6, true), (7, true), (8, true), (9, true), (10, true), (11, true), (12, false)] (by kernel_rfl) (by kernel_rfl) (fun _ _ d _ _ h => by cases d <;> exact h) ?_
  refine swith (fun W hW => (HR.out.next ((Below.refl _ _).drew.trans (hW.out.mono (Nat.le_refl _)))).cells) (fun q => ?_)
  repeat (first | (refine sreadx rfl rfl ?_; apply Exists.intro; apply And.intro; (· (intro W hW; first | (go_simp; done) | (go_simp; with_reducible rfl) | (go_simp; rw [if_neg (by omega)]; done) | (go_simp; rw [if_neg (by omega)]; with_reducible rfl))); simp only [Act.put, List.setIfInBounds_toArray, List.set_cons_zero, List.set_cons_succ]) | (refine sskip rfl rfl ?_; simp only [Act.put, List.setIfInBounds_toArray, List.set_cons_zero, List.set_cons_succ]))
  refine scall rfl rfl (fun K hK => ?_)
  go_simp
  refine (must_yes _).mono ?_; rintro e w2 ⟨rfl, rfl⟩
  go_wp2_with fail
  refine hK.out _ _ (by exact Grow.refl _) ?_
  clear hK K
  try simp only [Act.put, List.setIfInBounds_toArray, List.set_cons_zero, List.set_cons_succ]
  repeat (first | (refine sreadx rfl rfl ?_; apply Exists.intro; apply And.intro; (· (intro W hW; first | (go_simp; done) | (go_simp; with_reducible rfl) | (go_simp; rw [if_neg (by omega)]; done) | (go_simp; rw [if_neg (by omega)]; with_reducible rfl))); simp only [Act.put, List.setIfInBounds_toArray, List.set_cons_zero, List.set_cons_succ]) | (refine sskip rfl rfl ?_; simp only [Act.put, List.setIfInBounds_toArray, List.set_cons_zero, List.set_cons_succ]))
  refine sdone ?_
  clear q hwr
  have R1 := Lib.hid (HR.out.next (Below.refl _ _).drew)
  have G1 : Hid (w.grownBy w.drew (some g)) := Lib.hid (gb_below (Below.refl _ _).drew _)
  go_wp2_with fail
  go_loopw [6, 21] (fun v i wr => ∃ (k : Nat) (A1 : Option Addr) (n1 c1 : Nat), k ≤ m ∧ i = .int .i64 k ∧ v = .slice A1 n1 c1 ∧ wr.ownsRow w.heap.size 3 1 (.slice A1 n1 c1) n1 (ivz (a.take k)) ∧ Rdr wr g A n c L (p + (uL (a.take k)).length) ∧ w.grownBy wr (some g)) (fun _ i _ => m - (intOf i).toNat)
  case atStart => exact ⟨0, none, 0, 0, by omega, rfl, rfl, World.ownsRow_nil _ _ _ _, by simpa [uL] using R1.out, G1.out⟩
  case round =>
    obtain ⟨k, A1, n1, c1, hk, rfl, rfl, ho, hR, hG⟩ := hrel
    clear R1 G1
    have hn1 : n1 = k := by
      have e1 := ho.1
      have e3 := HM.out
      simp [ivz] at e1
      omega
    subst hn1
    have HO := Lib.hid ho
    have HG := Lib.hid hG
    have hbs := hG.size
    by_cases hlt : n1 < m
    · have hlt' : n1 < a.length := by rw [HM.out]; exact hlt
      have e1 := HSP.out n1 hlt'
      have ex := HA.out a[n1] (List.getElem_mem hlt')
      have hst := Lib.hid (uL_step hlt')
      have hsn := Lib.hid (ivz_snoc hlt')
      have hR' : Rdr wr g A n c L (pre ++ uL (a.take n1)).length := by
        rw [List.length_append, HP.out]; exact hR
      have hq := num_step _ _ a[n1] ex.1 ex.2 e1 _ hR'
      rw [List.length_append, List.length_append, HP.out] at hq
      have HQ := Lib.hid hq
      clear e1 ex hR' hq ho hG hR
      generalize a[n1] = x at *
      go_wp2_with fail
      refine HQ.out.mono ?_; rintro e w2 ⟨rfl, r2, g2⟩
      have HO2 := Lib.hid (own_keep HO.out g2 hg)
      have HG2 := Lib.hid (gb_trans HG.out g2)
      have R2 := Lib.hid r2
      have hbs2 := Nat.le_trans hbs g2.size
      clear r2 g2 HQ HO HG
      go_wp2_with (at_builtin; refine wpList_app rfl (.tmp 23) (.tmp 26) intE rfl w.heap.size (ivz (a.take n1)) rfl (HO2.out.alloc _) rfl [.int .i64 x] (Rd.made _ [.int .i64 x] rfl rfl) (by simp [Value.oneCell']) (by unfold maxLen; omega) (by omega) (by simp; omega) ?_; intro A3 c3 w3 o3 g3 _)
      have hoa := HO2.out.alloc (.cells #[.int .i64 x] 3)
      have hown := fun j hj => (hoa.lt j hj).1
      have R3 := (R2.out.next ((Below.refl _ _).alloc (Nat.le_refl _) _)).grown g3 (fun j hj => Nat.lt_of_lt_of_le hg (hown j hj))
      have G3 := gb_own (gb_trans HG2.out (gb_below ((Below.refl _ _).alloc (Nat.le_refl _) _) _)) g3 hown
      go_roundw
      case rel => exact ⟨n1 + 1, A3, n1 + 1, c3, by omega, by go_num, rfl, by rw [hsn.out]; exact o3, by rw [hst.out, List.length_append, ← Nat.add_assoc]; exact R3, G3⟩
      case measure => simp [intOf]; omega
    · obtain rfl : n1 = m := by omega
      go_wp2_with fail
      go_ret
      have e1 : a.take n1 = a := by rw [← HM.out, List.take_length]
      rw [e1] at ho hR
      exact ⟨A1, n1, c1, rfl, ho, hR, hG⟩
end Go.Proofs.Ytpkoijlbbfffiaa.R
namespace Go.Proofs.Ytpkoijlbbfffiaa.R
open Go.RowKit O V

def mseg (m : Img) : Nat → List UInt8
  | 0 => textL m.text
  | 1 => uintL ((m.rows.length : Int)).toNat
  | 2 => putChgs m.rows
  | 3 => uintL ((m.insts.length : Int)).toNat
  | 4 => putIns m.insts
  | 5 => uintL ((m.order.length : Int)).toNat
  | 6 => uL m.order
  | _ => []
def mhd (m : Img) : Nat → List UInt8
  | 0 => []
  | k + 1 => mhd m k ++ mseg m k
def mtl (m : Img) (k : Nat) : List UInt8 := (List.range' k (7 - k)).flatMap (mseg m)
theorem cut_img (m : Img) (k : Nat) (h : k < 7) : putImg m = mhd m k ++ (mseg m k ++ mtl m (k + 1)) := by
  rcases (show k = 0 ∨ k = 1 ∨ k = 2 ∨ k = 3 ∨ k = 4 ∨ k = 5 ∨ k = 6 by omega) with h | h | h | h | h | h | h <;> subst h <;> simp [putImg, rowCL, rowIL, rowNL, mhd, mseg, mtl, List.range', List.append_assoc]
/-- What is known of an image that is read back. -/
structure MOk2 (m : Img) : Prop where
  t : m.text.length ≤ 1500
  r : (∀ x ∈ m.rows, COk2 x) ∧ m.rows.length ≤ 20
  i : (∀ x ∈ m.insts, IOk2 x) ∧ m.insts.length ≤ 20
  o : (∀ x ∈ m.order, 0 ≤ x ∧ x ≤ 1073741824) ∧ m.order.length ≤ 40
def OwnI (w : World) (B : Nat) (s : Sl) (a : List Ins) : Prop := ∃ xs, w.ownsRow B 143 6 (.slice s.A s.n s.c) s.n xs ∧ Reps (InO w B) a xs
theorem InO.set {w : World} {B b i : Nat} {l : List Ins} {xs : List Value} (h : Reps (InO w B) l xs) (hb : b < B) (v : Value) : Reps (InO (w.setCell ⟨b, i, none⟩ v) B) l xs := h.imp (fun a vs ⟨e, s, q, o, p⟩ => ⟨e, s, q, o.set hb v, p.set hb v⟩)
theorem InO.more {w : World} {B B' : Nat} {l : List Ins} {xs : List Value} (h : Reps (InO w B) l xs) (hb : B' ≤ B) : Reps (InO w B') l xs := h.imp (fun a vs ⟨e, s, q, o, p⟩ => ⟨e, s, q, o.more hb, p.more hb⟩)
theorem OwnI.set {w : World} {B b i : Nat} {s : Sl} {a : List Ins} (h : OwnI w B s a) (hb : b < B) (v : Value) : OwnI (w.setCell ⟨b, i, none⟩ v) B s a := by
  obtain ⟨xs, h1, h2⟩ := h
  exact ⟨xs, own_set h1 v (fun e => by have := (h1.lt _ e).1; omega), InO.set h2 hb v⟩
theorem OwnI.more {w : World} {B B' : Nat} {s : Sl} {a : List Ins} (h : OwnI w B s a) (hb : B' ≤ B) : OwnI w B' s a := by
  obtain ⟨xs, h1, h2⟩ := h
  exact ⟨xs, own_more h1 hb, InO.more h2 hb⟩
theorem OwnI.grown {w w' : World} {B : Nat} {s : Sl} {a : List Ins} {g : Nat} (h : OwnI w B s a) (hg : w.grownBy w' (some g)) (hb : g < B) : OwnI w' B s a := by
  obtain ⟨xs, h1, h2⟩ := h
  exact ⟨xs, own_keep h1 hg hb, InO.grown h2 hg hb⟩
theorem OwnH.grown {w w' : World} {B : Nat} {s : Sl} {a : List Chg} {g : Nat} (h : OwnH w B s a) (hg : w.grownBy w' (some g)) (hb : g < B) : OwnH w' B s a := by
  obtain ⟨xs, h1, h2⟩ := h
  exact ⟨xs, own_keep h1 hg hb, ChO.grown h2 hg hb⟩
theorem OwnI.row {w : World} {B : Nat} {s : Sl} {a : List Ins} (h : OwnI w B s a) (hk : ∀ x ∈ a, IOk2 x) : IRow w s.A s.n s.c a := by
  obtain ⟨xs, h1, h2⟩ := h
  refine ⟨xs, Rd.of_own h1, ?_, (own_capG h1).1, (own_capG h1).2⟩
  have : ∀ (l : List Ins) (ys : List Value), (∀ x ∈ l, IOk2 x) → Reps (InO w B) l ys → Reps (InC w) l ys := by
    intro l
    induction l with
    | nil => intro ys _ h; exact h
    | cons x l ih =>
      rintro ys hl ⟨vs, zs, e, ⟨s, t, e2, o, p⟩, k⟩
      have hx := (hl x (by simp)).n
      exact ⟨vs, zs, e, ⟨s, t, e2, o.row, p.row, by unfold InB In64; omega⟩, ih _ (fun y hy => hl y (by simp [hy])) k⟩
  exact this a xs hk h2
def OwnN (w : World) (B : Nat) (s : Sl) (a : List Int) : Prop := w.ownsRow B 3 1 (.slice s.A s.n s.c) s.n (ivz a)
theorem OwnN.set {w : World} {B b i : Nat} {s : Sl} {a : List Int} (h : OwnN w B s a) (hb : b < B) (v : Value) : OwnN (w.setCell ⟨b, i, none⟩ v) B s a := own_set h v (fun e => by have := (h.lt _ e).1; omega)
theorem OwnN.more {w : World} {B B' : Nat} {s : Sl} {a : List Int} (h : OwnN w B s a) (hb : B' ≤ B) : OwnN w B' s a := own_more h hb
theorem OwnN.row {w : World} {B : Nat} {s : Sl} {a : List Int} (h : OwnN w B s a) (hk : ∀ x ∈ a, 0 ≤ x ∧ x ≤ 1073741824) : NRow w s.A s.n s.c a := ⟨Rd.of_own h, (own_capG h).1, (own_capG h).2, fun k hx => by have := hk k hx; unfold In64; omega⟩
/-- The image m reads so, its rows lie anew. -/
structure ImgOwn (w : World) (B : Nat) (m : Img) (s : IS) : Prop where
  r : OwnH w B s.r m.rows
  i : OwnI w B s.i m.insts
  o : OwnN w B s.o m.order
theorem ImgOwn.set {w : World} {B b i : Nat} {m : Img} {s : IS} (h : ImgOwn w B m s) (hb : b < B) (v : Value) : ImgOwn (w.setCell ⟨b, i, none⟩ v) B m s := ⟨h.r.set hb v, h.i.set hb v, h.o.set hb v⟩
theorem ImgOwn.more {w : World} {B B' : Nat} {m : Img} {s : IS} (h : ImgOwn w B m s) (hb : B' ≤ B) : ImgOwn w B' m s := ⟨h.r.more hb, h.i.more hb, h.o.more hb⟩
theorem ImgOwn.at_ {w : World} {B : Nat} {m : Img} {s : IS} (h : ImgOwn w B m s) (ok : MOk2 m) : ImgAt w m s := ⟨h.r.row ok.r.1, h.i.row ok.i.1, h.o.row ok.o.1⟩
/-- The closure's state: the image's box at x, the reader at g. -/
structure GM (w : World) (g x : Nat) (A : Option Addr) (n c : Nat) (L : List UInt8) (k : Nat) (cs : Array Value) (W : World) : Prop where
  X : W.heap[x]? = some (.cells cs 76 (0, 0))
  D : Rd W x 1 A n (bv L)
  R : Rdr W g A n c L k
  T : Two g x w W
section
variable {w W W' : World} {g x : Nat} {A : Option Addr} {n c : Nat} {L : List UInt8} {k k' : Nat} {cs : Array Value}
theorem GM.read (h : GM w g x A n c L k cs W) (hx : x < g) (r : Rdr W' g A n c L k') (gr : W.grownBy W' (some g)) : GM w g x A n c L k' cs W' :=
  ⟨box_gn h.X gr (Nat.ne_of_lt hx), rd_gb h.D gr hx h.R.lt, r, h.T.gb gr⟩
theorem GM.set (h : GM w g x A n c L k cs W) (hx : x < g) (i : Nat) (v : Value) : GM w g x A n c L k (cs.setIfInBounds i v) (W.setCell ⟨x, i, none⟩ v) :=
  ⟨heap_set (i := i) h.X v, h.D.setCell (Nat.le_refl _) v, h.R.at_x h.D hx v, h.T.set i v⟩
theorem GM.setr (h : GM w g x A n c L k cs W) (hx : x < g) {j : Nat} {v : Int} (hv : v = (j : Int)) : GM w g x A n c L j cs (W.setCell ⟨g, 1, none⟩ (.int .i64 v)) :=
  ⟨box_set h.X (by omega) _, h.D.setCell (p := ⟨g, 1, none⟩) (Nat.le_of_lt hx) _, h.R.set hv, h.T.gb (gb_set _ g 1 _)⟩
theorem GM.to {cs' : Array Value} (h : GM w g x A n c L k cs W) (e : cs = cs') : GM w g x A n c L k cs' W := e ▸ h
end
section
variable {g : Nat} {A : Option Addr} {n c : Nat} {L : List UInt8}
theorem insts_step (P rest : List UInt8) (a : List Ins) (ha : ∀ x ∈ a, IOk2 x) (h20 : a.length ≤ 20) (e : L = P ++ (putIns a ++ rest)) (W : World) (h : Rdr W g A n c L P.length) :
    Calls Try.prog 127 #[.pointer (some ⟨g, 0, none⟩), .int .i64 (a.length : Int), .func (.func 128) #[.pointer (some ⟨g, 0, none⟩)] #[]] W (RetIs g A n c L (P ++ putIns a).length a W) := by
  subst e
  have := rrowsI_any g A n c P rest a W h ha h20
  rwa [← List.length_append] at this
theorem nums_rstep (P rest : List UInt8) (a : List Int) (ha : ∀ x ∈ a, 0 ≤ x ∧ x ≤ 1073741824) (h20 : a.length ≤ 40) (e : L = P ++ (uL a ++ rest)) (W : World) (h : Rdr W g A n c L P.length) :
    Calls Try.prog 129 #[.pointer (some ⟨g, 0, none⟩), .int .i64 (a.length : Int), .func (.func 114) #[.pointer (some ⟨g, 0, none⟩)] #[]] W (RetN g A n c L (P ++ uL a).length a W) := by
  subst e
  have := rrowsN_any g A n c P rest a W h ha h20
  rwa [← List.length_append] at this
end
theorem getT_front (s rest : List UInt8) (n : Nat) (hn : (textL s ++ rest).length = n) (h : s.length ≤ 1500) : getTAt (textL s ++ rest) 0 (n : Int) = some (s, (textL s).length) := by
  have hu := at_u [] (s ++ rest) s.length (by omega)
  simp only [List.nil_append, List.length_nil] at hu
  have hl : (textL s ++ rest).length = (uintL s.length).length + (s.length + rest.length) := by simp only [textL, List.length_append]; omega
  unfold getTAt
  rw [show textL s ++ rest = uintL s.length ++ (s ++ rest) by simp [textL]]
  rw [show getUAt (uintL s.length ++ (s ++ rest)) 0 = some (s.length, (uintL s.length).length) from hu]
  dsimp only
  rw [if_neg (by simp only [List.length_append]; rw [hl] at hn; omega)]
  simp [textL]
set_option maxHeartbeats 4000000 in
set_option maxRecDepth 100000 in
theorem getM1_any (g x : Nat) (A : Option Addr) (n c : Nat) (m : Img) (w : World) (h : Rdr w g A n c (putImg m) 0) (hrd : Rd w x 1 A n (bv (putImg m))) (hx : x < g) (ok : MOk2 m)
    (hbx : w.heap[x]? = some (.cells #[.string ⟨#[]⟩, .slice none 0 0, .slice none 0 0, .slice none 0 0] 76 (0, 0))) :
    Calls Try.prog 125 #[.pointer (some ⟨g, 0, none⟩), .pointer (some ⟨x, 0, none⟩)] w fun e w' => e = .returned (.tuple #[]) ∧
      ∃ s : IS, w'.heap[x]? = some (.cells #[.string ⟨m.text.toArray⟩, .slice s.r.A s.r.n s.r.c, .slice s.i.A s.i.n s.i.c, .slice s.o.A s.o.n s.o.c] 76 (0, 0)) ∧
        ImgOwn w' w.heap.size m s ∧ Rdr w' g A n c (putImg m) (putImg m).length ∧ Two g x w w' := by
  have hg := h.lt
  have hl := h.len
  have hcap := h.cap
  have hn := h.n
  have hT : getTAt (putImg m) 0 (n : Int) = some (m.text, (mhd m 1).length) := by
    have e := cut_img m 0 (by omega)
    have e2 : putImg m = textL m.text ++ mtl m 1 := by rw [e]; simp [mhd, mseg]
    rw [e2] at hl ⊢
    rw [getT_front m.text (mtl m 1) n hl ok.t]
    simp [mhd, mseg]
  have HT := Lib.hid hT
  have hkn : (mhd m 1).length ≤ n := by rw [← hl, cut_img m 1 (by omega), List.length_append]; omega
  have h20 := ok.r.2
  have h21 := ok.i.2
  have h22 := ok.o.2
  have OK := Lib.hid ok
  have M0 : Hid (GM w g x A n c (putImg m) 0 #[.string ⟨#[]⟩, .slice none 0 0, .slice none 0 0, .slice none 0 0] w) := Lib.hid ⟨hbx, hrd, h, rfl, rfl, rfl, Nat.le_refl _, fun _ _ _ _ => rfl⟩
  have hend : Hid ((putImg m).length = (mhd m 7).length) := Lib.hid (by conv => lhs; rw [cut_img m 6 (by omega)]
                                                                        simp [mhd, mtl, List.range'])
  clear h hrd ok hbx hT hl
  go_enter Try.func125, Try.ntmps125
  go_wp2_with fail
  refine wp_region_sched [(0, true), (1, true), (2, true), (3, true), (4, true), (5, true), (6, true), (7, true), (8, true), (9, false), (10, true), (11, true), (12, true), (13, true), (14, true), (15, true), (16, true)] (by kernel_rfl) (by kernel_rfl) (fun _ _ d _ _ h => by cases d <;> exact h) ?_
  refine swith (fun W hW => (M0.out.R.next ((Below.refl _ _).drew.trans (hW.out.mono (Nat.le_refl _)))).cells) (fun q => ?_)
  repeat (first | (refine sreadx rfl rfl ?_; apply Exists.intro; apply And.intro; (· (intro W hW; first | (go_simp; done) | (go_simp; with_reducible rfl) | (go_simp; rw [if_neg (by omega)]; done) | (go_simp; rw [if_neg (by omega)]; with_reducible rfl))); simp only [Act.put, List.setIfInBounds_toArray, List.set_cons_zero, List.set_cons_succ]) | (refine sskip rfl rfl ?_; simp only [Act.put, List.setIfInBounds_toArray, List.set_cons_zero, List.set_cons_succ]))
  refine scall rfl rfl (fun K hK => ?_)
  go_simp
  refine (getText_any A n c 0 (n : Int) (putImg m) _ ((M0.out.R.row.more (Nat.le_of_lt hg)).drew) hcap.1 (by omega) hcap.2 (by omega) (by omega)).mono ?_; rintro e w2 ⟨rfl, rfl⟩; rw [HT.out]; simp only [resT]
  go_wp2_with fail
  refine hK.out _ _ (by exact Grow.refl _) ?_
  clear hK K
  try simp only [Act.put, List.setIfInBounds_toArray, List.set_cons_zero, List.set_cons_succ]
  repeat (first | (refine sreadx rfl rfl ?_; apply Exists.intro; apply And.intro; (· (intro W hW; first | (go_simp; done) | (go_simp; with_reducible rfl) | (go_simp; rw [if_neg (by omega)]; done) | (go_simp; rw [if_neg (by omega)]; with_reducible rfl))); simp only [Act.put, List.setIfInBounds_toArray, List.set_cons_zero, List.set_cons_succ]) | (refine sskip rfl rfl ?_; simp only [Act.put, List.setIfInBounds_toArray, List.set_cons_zero, List.set_cons_succ]))
  refine sdone ?_
  have M1 := Lib.hid (M0.out.read hx (M0.out.R.next (Below.refl _ _).drew) (gb_below (Below.refl _ _).drew _))
  obtain ⟨w1, hw1⟩ : ∃ w1, w.drew = w1 := ⟨_, rfl⟩
  rw [hw1] at M1 ⊢
  clear hw1 M0 q
  obtain ⟨⟨y0, y1⟩, y2, y3⟩ := cells4 M1.out.X
  have z0 := Lib.frozen_of_heap M1.out.X 0
  have z1 := Lib.frozen_of_heap M1.out.X 1
  have z2 := Lib.frozen_of_heap M1.out.X 2
  have z3 := Lib.frozen_of_heap M1.out.X 3
  obtain ⟨x0, x1⟩ := M1.out.R.cells
  have xf := M1.out.R.free 1
  have hne : x ≠ g := by omega
  have hne2 : g ≠ x := by omega
  go_wp2_with fail
  refine (must_yes _).mono ?_; rintro e w4 ⟨rfl, rfl⟩
  go_wp2_with fail
  clear y0 y1 y2 y3 z0 z1 z2 z3
  clear x0 x1 xf
  have M2 := Lib.hid (((M1.out.set hx 0 (.string ⟨m.text.toArray⟩)).setr hx (j := (mhd m 1).length) rfl).to (cs' := #[.string ⟨m.text.toArray⟩, .slice none 0 0, .slice none 0 0, .slice none 0 0]) rfl)
  obtain ⟨w2, hw2⟩ : ∃ w2, (w1.setCell ⟨x, 0, none⟩ (.string ⟨m.text.toArray⟩)).setCell ⟨g, 1, none⟩ (.int .i64 ((mhd m 1).length : Int)) = w2 := ⟨_, rfl⟩
  rw [hw2] at M2 ⊢
  clear hw2 M1
  have hxw : x < w.heap.size := Nat.lt_trans hx hg
  have QQ := num_step (g := g) (A := A) (n := n) (c := c) (mhd m 1) (mtl m (1 + 1)) (m.rows.length : Int) (by omega) (by omega) (cut_img m 1 (by omega)) _ M2.out.R
  refine QQ.mono ?_; rintro e w3 ⟨rfl, r3, g3⟩
  have M3 := Lib.hid (M2.out.read hx r3 g3)
  clear QQ M2 r3
  clear g3
  go_wp2_with fail
  have QQ := chgs_step (g := g) (A := A) (n := n) (c := c) (mhd m 2) (mtl m 3) m.rows OK.out.r.1 OK.out.r.2 (cut_img m 2 (by omega)) _ M3.out.R
  refine QQ.mono ?_; rintro e w4 ⟨A4, n4, c4, xs4, rfl, o4, p4, r4, g4⟩
  have O4 : Hid (OwnH w4 w.heap.size ⟨A4, n4, c4⟩ m.rows) := Lib.hid (OwnH.more ⟨xs4, o4, p4⟩ M3.out.T.size)
  have M4 := Lib.hid (M3.out.read hx r4 g4)
  clear QQ M3 r4 g4 o4 p4
  obtain ⟨⟨y0, y1⟩, y2, y3⟩ := cells4 M4.out.X
  have z0 := Lib.frozen_of_heap M4.out.X 0
  have z1 := Lib.frozen_of_heap M4.out.X 1
  have z2 := Lib.frozen_of_heap M4.out.X 2
  have z3 := Lib.frozen_of_heap M4.out.X 3
  go_wp2_with fail
  clear y0 y1 y2 y3 z0 z1 z2 z3
  have M5 := Lib.hid ((M4.out.set hx 1 (.slice A4 n4 c4)).to (cs' := #[.string ⟨m.text.toArray⟩, .slice A4 n4 c4, .slice none 0 0, .slice none 0 0]) rfl)
  have O5 := Lib.hid (O4.out.set (i := 1) hxw (.slice A4 n4 c4))
  obtain ⟨w5, hw5⟩ : ∃ w5, w4.setCell ⟨x, 1, none⟩ (.slice A4 n4 c4) = w5 := ⟨_, rfl⟩
  rw [hw5] at M5 O5 ⊢
  clear hw5 M4 O4
  have QQ := num_step (g := g) (A := A) (n := n) (c := c) (mhd m 3) (mtl m (3 + 1)) (m.insts.length : Int) (by omega) (by omega) (cut_img m 3 (by omega)) _ M5.out.R
  refine QQ.mono ?_; rintro e w6 ⟨rfl, r6, g6⟩
  have M6 := Lib.hid (M5.out.read hx r6 g6)
  clear QQ M5 r6
  have O6 := Lib.hid (O5.out.grown g6 hg)
  clear g6 O5
  go_wp2_with fail
  have QQ := insts_step (g := g) (A := A) (n := n) (c := c) (mhd m 4) (mtl m 5) m.insts OK.out.i.1 OK.out.i.2 (cut_img m 4 (by omega)) _ M6.out.R
  refine QQ.mono ?_; rintro e w7 ⟨A7, n7, c7, xs7, rfl, o7, p7, r7, g7⟩
  have I7 : Hid (OwnI w7 w.heap.size ⟨A7, n7, c7⟩ m.insts) := Lib.hid (OwnI.more ⟨xs7, o7, p7⟩ M6.out.T.size)
  have O7 := Lib.hid (O6.out.grown g7 hg)
  have M7 := Lib.hid (M6.out.read hx r7 g7)
  clear QQ M6 r7 g7 o7 p7 O6
  obtain ⟨⟨y0, y1⟩, y2, y3⟩ := cells4 M7.out.X
  have z0 := Lib.frozen_of_heap M7.out.X 0
  have z1 := Lib.frozen_of_heap M7.out.X 1
  have z2 := Lib.frozen_of_heap M7.out.X 2
  have z3 := Lib.frozen_of_heap M7.out.X 3
  go_wp2_with fail
  clear y0 y1 y2 y3 z0 z1 z2 z3
  have M8 := Lib.hid ((M7.out.set hx 2 (.slice A7 n7 c7)).to (cs' := #[.string ⟨m.text.toArray⟩, .slice A4 n4 c4, .slice A7 n7 c7, .slice none 0 0]) rfl)
  have O8 := Lib.hid (O7.out.set (i := 2) hxw (.slice A7 n7 c7))
  have I8 := Lib.hid (I7.out.set (i := 2) hxw (.slice A7 n7 c7))
  obtain ⟨w8, hw8⟩ : ∃ w8, w7.setCell ⟨x, 2, none⟩ (.slice A7 n7 c7) = w8 := ⟨_, rfl⟩
  rw [hw8] at M8 O8 I8 ⊢
  clear hw8 M7 O7 I7
  have QQ := num_step (g := g) (A := A) (n := n) (c := c) (mhd m 5) (mtl m (5 + 1)) (m.order.length : Int) (by omega) (by omega) (cut_img m 5 (by omega)) _ M8.out.R
  refine QQ.mono ?_; rintro e w9 ⟨rfl, r9, g9⟩
  have M9 := Lib.hid (M8.out.read hx r9 g9)
  clear QQ M8 r9
  have O9 := Lib.hid (O8.out.grown g9 hg)
  have I9 := Lib.hid (I8.out.grown g9 hg)
  clear g9 O8 I8
  go_wp2_with fail
  have QQ := nums_rstep (g := g) (A := A) (n := n) (c := c) (mhd m 6) (mtl m 7) m.order OK.out.o.1 OK.out.o.2 (cut_img m 6 (by omega)) _ M9.out.R
  refine QQ.mono ?_; rintro e wa ⟨Aa, na, ca, rfl, oa, ra, ga⟩
  have Na : Hid (OwnN wa w.heap.size ⟨Aa, na, ca⟩ m.order) := Lib.hid (OwnN.more (s := ⟨Aa, na, ca⟩) oa M9.out.T.size)
  have Oa := Lib.hid (O9.out.grown ga hg)
  have Ia := Lib.hid (I9.out.grown ga hg)
  have Ma := Lib.hid (M9.out.read hx ra ga)
  clear QQ M9 ra ga oa O9 I9
  obtain ⟨⟨y0, y1⟩, y2, y3⟩ := cells4 Ma.out.X
  have z0 := Lib.frozen_of_heap Ma.out.X 0
  have z1 := Lib.frozen_of_heap Ma.out.X 1
  have z2 := Lib.frozen_of_heap Ma.out.X 2
  have z3 := Lib.frozen_of_heap Ma.out.X 3
  go_wp2_with fail
  clear y0 y1 y2 y3 z0 z1 z2 z3
  have Mb := Lib.hid ((Ma.out.set hx 3 (.slice Aa na ca)).to (cs' := #[.string ⟨m.text.toArray⟩, .slice A4 n4 c4, .slice A7 n7 c7, .slice Aa na ca]) rfl)
  go_end0
  refine ⟨rfl, ⟨⟨A4, n4, c4⟩, ⟨A7, n7, c7⟩, ⟨Aa, na, ca⟩⟩, Mb.out.X, ⟨Oa.out.set hxw _, Ia.out.set hxw _, Na.out.set hxw _⟩, ?_, Mb.out.T⟩
  rw [hend.out]
  exact Mb.out.R
def RetGM (x : Nat) (m : Img) (w : World) (e : Ending) (w' : World) : Prop := e = .returned (.bool true) ∧ ∃ s : IS,
  w'.heap[x]? = some (.cells #[.string ⟨m.text.toArray⟩, .slice s.r.A s.r.n s.r.c, .slice s.i.A s.i.n s.i.c, .slice s.o.A s.o.n s.o.c] 76 (0, 0)) ∧ ImgOwn w' w.heap.size m s ∧ w.grownBy w' (some x)
set_option maxHeartbeats 1000000 in
set_option maxRecDepth 100000 in
theorem readM_any (x : Nat) (A : Option Addr) (n c : Nat) (m : Img) (w : World) (hrd : Rd w x 1 A n (bv (putImg m))) (hn : n ≤ 1000000000000) (hcap : n ≤ c ∧ c ≤ 9223372036854775807) (ok : MOk2 m)
    (hbx : w.heap[x]? = some (.cells #[.string ⟨#[]⟩, .slice none 0 0, .slice none 0 0, .slice none 0 0] 76 (0, 0))) :
    Calls Try.prog 112 #[.slice A n c, .func (.func 125) #[] #[.pointer (some ⟨x, 0, none⟩)]] w (RetGM x m w) := by
  have hmf : ∀ (fn : Fn) (first cap : Array Value) (w : World), (Instr.makeFunc fn first cap).run Try.prog w = .ok (.func fn first cap) w := fun _ _ _ _ => rfl
  have hl : (putImg m).length = n := by have := hrd.1; simp at this; omega
  have hx := (Array.getElem?_eq_some_iff.1 hbx).1
  have HL := Lib.hid hl
  have D0 := Lib.hid hrd
  have X0 := Lib.hid hbx
  have OK := Lib.hid ok
  clear hl hrd hbx ok
  go_enter_defers Try.func112, Try.ntmps112
  go_wp2_with fail
  have B1 : Below w.heap.size w ((w.alloc (.cells #[.bool false] 4)).alloc (.cells #[.slice A n c, .int .i64 0] 152)) := by repeat (first | exact Below.refl _ _ | refine Below.alloc ?_ (by simp <;> omega) _)
  have HB1 := Lib.hid B1
  have R1 : Hid (Rdr ((w.alloc (.cells #[.bool false] 4)).alloc (.cells #[.slice A n c, .int .i64 0] 152)) (w.heap.size + 1) A n c (putImg m) 0) := Lib.hid ⟨alloc_at (by simp), (D0.out.below (B1.mono (Nat.le_of_lt hx))).more (by omega), hcap, hn⟩
  have D1 : Hid (Rd ((w.alloc (.cells #[.bool false] 4)).alloc (.cells #[.slice A n c, .int .i64 0] 152)) x 1 A n (bv (putImg m))) := Lib.hid (D0.out.below (B1.mono (Nat.le_of_lt hx)))
  have X1 := Lib.hid (box_next X0.out B1)
  have O1 : Hid (((w.alloc (.cells #[.bool false] 4)).alloc (.cells #[.slice A n c, .int .i64 0] 152)).heap[w.heap.size]? = some (.cells #[.bool false] 4 (0, 0))) := Lib.hid (alloc_old' (alloc_at rfl))
  clear B1
  refine (getM1_any (w.heap.size + 1) x A n c m _ R1.out D1.out (by omega) OK.out X1.out).mono ?_; rintro e w2 ⟨rfl, s, x2, own2, r2, t2⟩
  have O2 : Hid (w2.heap[w.heap.size]? = some (.cells #[.bool false] 4 (0, 0))) := Lib.hid ((t2.block _ (by simp; omega) (by omega) (by omega)).trans O1.out)
  have R2 := Lib.hid r2
  have X2 := Lib.hid x2
  have W2 := Lib.hid own2
  have T2 := Lib.hid t2
  clear x2 own2 r2 t2 R1 D1 X1 O1 D0 X0
  obtain ⟨x0, x1⟩ := R2.out.cells
  have y0 := cell_of_one O2.out
  have yf := free_of_one O2.out
  have e1 : (((putImg m).length : Int) == (n : Int)) = true := by have := HL.out; simp; omega
  rw [HL.out] at x1
  go_wp2_with fail
  refine leaves_cons (f := 146) (args := #[.pointer (some ⟨w.heap.size, 0, none⟩)]) (by simp) (by simp [go_sem]) ?_
  refine (read1_idle ⟨w.heap.size, 0, none⟩ _).mono ?_
  rintro e u' w'' ⟨rfl, rfl, rfl⟩
  have hfin : RetGM x m w (.returned (.bool true)) (w2.setCell ⟨w.heap.size, 0, none⟩ (.bool true)) := by
    refine ⟨rfl, s, box_set X2.out (by omega) _, ?_, ?_⟩
    · have hb : w.heap.size < ((w.alloc (.cells #[.bool false] 4)).alloc (.cells #[.slice A n c, .int .i64 0] 152)).heap.size := by simp; omega
      exact (W2.out.set hb _).more (Nat.le_of_lt hb)
    · have b1 := HB1.out
      have t2 := T2.out
      refine ⟨t2.os.trans b1.os, t2.tape.trans b1.tape, t2.output.trans b1.output, ?_, fun k hk hne => ?_⟩
      · have := t2.size; have := b1.size; simp at *; omega
      · have hkx : k ≠ x := fun e => hne (by rw [e])
        rw [Below.heap_setCell _ _ _ _ (by simp only; omega), t2.block k (by simp; omega) (by omega) hkx]
        exact b1.block k hk
  have HF := Lib.hid hfin
  clear hfin
  simp [Leaves, settle, results, Try.results112, go_sem, y0]
  exact HF.out
def zeroM : Obj := .cells #[.string ⟨#[]⟩, .slice none 0 0, .slice none 0 0, .slice none 0 0] 76
set_option maxHeartbeats 2000000 in
set_option maxRecDepth 100000 in
theorem getImage_back (A : Option Addr) (n c : Nat) (m : Img) (w : World) (h : Rd w w.heap.size 1 A n (bv (putImg m))) (hn : n ≤ 1000000000000) (hcap : n ≤ c ∧ c ≤ 9223372036854775807) (ok : MOk2 m) :
    Calls Try.prog 54 #[.slice A n c] w fun e w' => ∃ s : IS, e = .returned (.tuple #[imv m s, .bool true]) ∧ ImgAt w' m s ∧ Below w.heap.size w w' := by
  have HB : Hid (Below w.heap.size w ((w.alloc zeroM).alloc zeroM)) := Lib.hid (by repeat (first | exact Below.refl _ _ | refine Below.alloc ?_ (by simp <;> omega) _))
  have D0 := Lib.hid h
  have OK := Lib.hid ok
  clear h ok
  go_enter Try.func54, Try.ntmps54
  go_wp2_with fail
  refine (readM_any (w.heap.size + 1) A n c m _ ((D0.out.below HB.out).more (by omega)) hn hcap OK.out (alloc_at (by simp))).mono ?_
  rintro e w2 ⟨rfl, s, x2, own2, g2⟩
  have Z2 : Hid (w2.heap[w.heap.size]? = some (.cells #[.string ⟨#[]⟩, .slice none 0 0, .slice none 0 0, .slice none 0 0] 76 (0, 0))) := Lib.hid ((g2.block w.heap.size (by simp; omega) (by simp)).trans (alloc_old' (alloc_at rfl)))
  have X2 := Lib.hid x2
  have W2 := Lib.hid own2
  have B2 : Hid (Below w.heap.size w w2) := Lib.hid (HB.out.trans ⟨g2.os, g2.tape, g2.output, g2.size, fun k hk => g2.block k (by simp; omega) (by simp; omega)⟩)
  clear x2 own2 g2
  obtain ⟨⟨x0, x1⟩, x2, x3⟩ := cells4 X2.out
  obtain ⟨⟨y0, y1⟩, y2, y3⟩ := cells4 Z2.out
  have z0 := Lib.frozen_of_heap Z2.out 0
  have z1 := Lib.frozen_of_heap Z2.out 1
  have z2 := Lib.frozen_of_heap Z2.out 2
  have z3 := Lib.frozen_of_heap Z2.out 3
  go_wp2_with fail
  refine bodyPost_ret (v := .tuple #[imv m s, .bool true]) (by simp [results, Try.results54, go_sem, imv, y0, y1, y2, y3]) rfl ?_
  have hb : w.heap.size < ((w.alloc zeroM).alloc zeroM).heap.size := by simp; omega
  refine ⟨s, rfl, ImgOwn.at_ (B := ((w.alloc zeroM).alloc zeroM).heap.size) ?_ OK.out, ?_⟩
  · exact (((W2.out.set hb _).set hb _).set hb _).set hb _
  · repeat (first | (with_reducible exact B2.out) | refine Below.setCell ?_ (by simp) _)
end Go.Proofs.Ytpkoijlbbfffiaa.R
