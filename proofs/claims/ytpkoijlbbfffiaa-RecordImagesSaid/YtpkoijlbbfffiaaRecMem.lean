/- Records in memory; the contracts of billhooklaw23's changes and Light, of record.Right's inner function, of slices.IndexFunc and ContainsFunc at it. -/
import Derived.Test.YtpkoijlbbfffiaaSchRow
namespace Go.Proofs.Ytpkoijlbbfffiaa.R
open Go.RowKit O V

structure Chg where
  table : Int
  key : Int
  gone : Bool
  row : List Val
structure Sl where
  A : Option Addr
  n : Nat
  c : Nat
def ChC (w : World) (x : Chg) (cs : List Value) : Prop := ∃ s : Sl, cs = [.int .i64 x.table, .int .i64 x.key, .bool x.gone, .slice s.A s.n s.c] ∧ VRow w s.A s.n s.c x.row ∧ (-9223372036854775808 ≤ x.table ∧ x.table ≤ 9223372036854775807) ∧ -9223372036854775808 ≤ x.key ∧ x.key ≤ 9223372036854775807
theorem ChC.size {w : World} : ∀ (a : Chg) vs, ChC w a vs → vs.length = 4 := by rintro a vs ⟨s, rfl, _⟩; rfl
def HRow (w : World) (A : Option Addr) (n c : Nat) (l : List Chg) : Prop := ∃ xs, Rd w w.heap.size 4 A n xs ∧ Reps (ChC w) l xs ∧ n ≤ c ∧ c ≤ 9223372036854775807
theorem HRow.len {w : World} {A : Option Addr} {n c : Nat} {l : List Chg} (h : HRow w A n c l) : l.length = n := by
  obtain ⟨xs, h1, h2, _⟩ := h
  exact h1.len_of ChC.size h2 (by omega)
theorem HRow.cap {w : World} {A : Option Addr} {n c : Nat} {l : List Chg} (h : HRow w A n c l) : n ≤ c ∧ c ≤ 9223372036854775807 := by
  obtain ⟨xs, _, _, h3, h4⟩ := h
  exact ⟨h3, h4⟩
theorem HRow.next {w W : World} {A : Option Addr} {n c : Nat} {l : List Chg} (h : HRow w A n c l) (b : Below w.heap.size w W) : HRow W A n c l := by
  obtain ⟨xs, h1, h2, h3, h4⟩ := h
  exact ⟨xs, h1.next b, h2.imp (fun a vs ⟨s, e, hv, r⟩ => ⟨s, e, hv.next b, r⟩), h3, h4⟩
theorem HRow.at_ {w : World} {A : Option Addr} {n c : Nat} {l : List Chg} (h : HRow w A n c l) {k : Nat} (hk : k < l.length) : ∃ b off, ∃ s : Sl, A = some ⟨b, off, none⟩ ∧ b < w.heap.size ∧ VRow w s.A s.n s.c l[k].row ∧ ((-9223372036854775808 ≤ l[k].table ∧ l[k].table ≤ 9223372036854775807) ∧ -9223372036854775808 ≤ l[k].key ∧ l[k].key ≤ 9223372036854775807) ∧
    ∀ W, Below w.heap.size w W → (W.cell? ⟨b, off + k * 4, none⟩ = some (.int .i64 l[k].table) ∧ W.cell? ⟨b, off + k * 4 + 1, none⟩ = some (.int .i64 l[k].key)) ∧ W.cell? ⟨b, off + k * 4 + 2, none⟩ = some (.bool l[k].gone) ∧ W.cell? ⟨b, off + k * 4 + 3, none⟩ = some (.slice s.A s.n s.c) := by
  obtain ⟨xs, h1, h2, h3, h4⟩ := h
  obtain ⟨b, off, vs, e, hb, ⟨s, rfl, hv, ho⟩, hc⟩ := h1.elem ChC.size h2 hk (by omega)
  refine ⟨b, off, s, e, hb, hv, ho, fun W bW => ⟨⟨?_, ?_⟩, ?_, ?_⟩⟩
  · exact (bW.cell (p := ⟨b, off + k * 4 + 0, none⟩) hb).trans (hc 0 (by omega))
  · exact (bW.cell (p := ⟨b, off + k * 4 + 1, none⟩) hb).trans (hc 1 (by omega))
  · exact (bW.cell (p := ⟨b, off + k * 4 + 2, none⟩) hb).trans (hc 2 (by omega))
  · exact (bW.cell (p := ⟨b, off + k * 4 + 3, none⟩) hb).trans (hc 3 (by omega))
def lightG (x : Chg) : Bool := lightR x.row
def lightH (l : List Chg) : Bool := decide (l.length ≤ 20) && l.all lightG
set_option maxHeartbeats 1000000 in
set_option maxRecDepth 100000 in
theorem changes_any (A : Option Addr) (n c : Nat) (l : List Chg) (w : World) (h : HRow w A n c l) : Calls Try.prog 69 #[.slice A n c] w fun e w' => e = .returned (.bool (lightH l)) ∧ Below w.heap.size w w' := by
  have hl := h.len
  have hcap := h.cap
  have HV := Lib.hid h
  have HL := Lib.hid hl
  have hn63 : n ≤ 9223372036854775807 := by omega
  clear h
  by_cases h20 : (n : Int) > 20
  · have d1 : decide ((n : Int) > 20) = true := by simp; omega
    have hr : Hid (lightH l = false) := Lib.hid (by unfold lightH; rw [decide_eq_false (by omega)]; rfl)
    clear hl
    go_enter Try.func69, Try.ntmps69
    go_wp2_with fail
    go_ret
    exact ⟨by rw [hr.out]; rfl, Below.refl _ _⟩
  · have d1 : decide ((n : Int) > 20) = false := by simp; omega
    have hr : Hid (lightH l = l.all lightG) := Lib.hid (by unfold lightH; rw [decide_eq_true (by omega)]; rfl)
    clear hl
    go_enter Try.func69, Try.ntmps69
    go_wp2_with fail
    go_loopw [4, 10] (fun _ i wr => ∃ k : Nat, k ≤ n ∧ i = .int .i64 k ∧ Hid ((l.take k).all lightG = true) ∧ Below w.heap.size w wr) (fun _ i _ => n - (intOf i).toNat)
    case atStart => exact ⟨0, by omega, rfl, Lib.hid (by simp), Below.refl _ _⟩
    case round =>
      obtain ⟨k, hk, rfl, H, hb⟩ := hrel
      by_cases hlt : k < n
      · have hlt' : k < l.length := by rw [HL.out]; exact hlt
        obtain ⟨b, off, s, rfl, hbl, hv, ho, hc⟩ := HV.out.at_ hlt'
        obtain ⟨⟨c0, c1⟩, c2, c3⟩ := hc wr hb
        have hn := Lib.hid (allT_step hlt' H.out)
        have hno := Lib.hid (allT_no (p := lightG) hlt')
        have HVr := Lib.hid hv
        clear hc hv ho
        generalize l[k] = v at *
        have hbs := hb.size
        cases hq : lightR v.row
        · have hno' := Lib.hid (hno.out hq)
          go_wp2_with fail
          refine (lightRow_any s.A s.n s.c v.row _ (HVr.out.next (hb.alloc hbs _))).mono ?_; rintro e w2 ⟨rfl, b2⟩
          rw [hq]
          go_wp2_with fail
          go_ret
          exact ⟨by rw [hr.out, hno'.out]; rfl, (hb.alloc hbs _).trans (b2.mono (by simp; omega))⟩
        · go_wp2_with fail
          refine (lightRow_any s.A s.n s.c v.row _ (HVr.out.next (hb.alloc hbs _))).mono ?_; rintro e w2 ⟨rfl, b2⟩
          rw [hq]
          go_wp2_with fail
          go_roundw
          case rel => exact ⟨k + 1, by omega, by go_num, Lib.hid (by rw [hn.out]; exact hq), (hb.alloc hbs _).trans (b2.mono (by simp; omega))⟩
          case measure => simp [intOf]; omega
      · obtain rfl : k = n := by omega
        go_wp2_with fail
        go_ret
        refine ⟨?_, hb⟩
        have := H.out
        rw [← HL.out, List.take_length] at this
        rw [hr.out, this]
        rfl
structure Rec where
  inst : Int
  proc : Int
  piece : Int
  fin : Int
  args : List Val
  emits : List Val
  locals : List Val
  changes : List Chg
structure RS where
  a : Sl
  e : Sl
  l : Sl
  c : Sl
def rcells (r : Rec) (s : RS) : List Value := [.int .i64 r.inst, .int .i64 r.proc, .int .i64 r.piece, .int .i64 r.fin, .slice s.a.A s.a.n s.a.c, .slice s.e.A s.e.n s.e.c, .slice s.l.A s.l.n s.l.c, .slice s.c.A s.c.n s.c.c]
/-- The record r reads so. -/
structure RecAt (w : World) (r : Rec) (s : RS) : Prop where
  a : VRow w s.a.A s.a.n s.a.c r.args
  e : VRow w s.e.A s.e.n s.e.c r.emits
  l : VRow w s.l.A s.l.n s.l.c r.locals
  c : HRow w s.c.A s.c.n s.c.c r.changes
theorem RecAt.next {w W : World} {r : Rec} {s : RS} (h : RecAt w r s) (b : Below w.heap.size w W) : RecAt W r s := ⟨h.a.next b, h.e.next b, h.l.next b, h.c.next b⟩
def RBox (w : World) (r : Rec) (s : RS) (g : Nat) (W : World) : Prop := W.heap[g]? = some (.cells #[.int .i64 r.inst, .int .i64 r.proc, .int .i64 r.piece, .int .i64 r.fin, .slice s.a.A s.a.n s.a.c, .slice s.e.A s.e.n s.e.c, .slice s.l.A s.l.n s.l.c, .slice s.c.A s.c.n s.c.c] 37 (0, 0)) ∧ Below w.heap.size w W
theorem RBox.next {w W W' : World} {r : Rec} {s : RS} {g : Nat} (h : RBox w r s g W) (b : Below W.heap.size W W') : RBox w r s g W' := ⟨box_next h.1 b, bthen h.2 b⟩
theorem RBox.cells {w W : World} {r : Rec} {s : RS} {g : Nat} (h : RBox w r s g W) :
    ((W.cell? ⟨g, 0, none⟩ = some (.int .i64 r.inst) ∧ W.cell? ⟨g, 1, none⟩ = some (.int .i64 r.proc)) ∧ (W.cell? ⟨g, 2, none⟩ = some (.int .i64 r.piece) ∧ W.cell? ⟨g, 3, none⟩ = some (.int .i64 r.fin))) ∧
    ((W.cell? ⟨g, 4, none⟩ = some (.slice s.a.A s.a.n s.a.c) ∧ W.cell? ⟨g, 5, none⟩ = some (.slice s.e.A s.e.n s.e.c)) ∧ (W.cell? ⟨g, 6, none⟩ = some (.slice s.l.A s.l.n s.l.c) ∧ W.cell? ⟨g, 7, none⟩ = some (.slice s.c.A s.c.n s.c.c))) := by
  refine ⟨⟨⟨?_, ?_⟩, ?_, ?_⟩, ⟨?_, ?_⟩, ?_, ?_⟩ <;> (rw [Lib.cell_of_heap h.1]; rfl)
def rv (r : Rec) (s : RS) : Value := .agg #[.int .i64 r.inst, .int .i64 r.proc, .int .i64 r.piece, .int .i64 r.fin, .slice s.a.A s.a.n s.a.c, .slice s.e.A s.e.n s.e.c, .slice s.l.A s.l.n s.l.c, .slice s.c.A s.c.n s.c.c]
def lightRec (r : Rec) : Bool := lightR r.args && (lightR r.emits && (lightR r.locals && lightH r.changes))
set_option maxHeartbeats 1000000 in
set_option maxRecDepth 100000 in
theorem lightRec_any (r : Rec) (s : RS) (w : World) (h : RecAt w r s) : Calls Try.prog 22 #[rv r s] w fun e w' => e = .returned (.bool (lightRec r)) ∧ Below w.heap.size w w' := by
  have HR := Lib.hid h
  clear h
  simp only [rv]
  have X0 : Hid (RBox w r s w.heap.size (w.alloc (.cells #[.int .i64 r.inst, .int .i64 r.proc, .int .i64 r.piece, .int .i64 r.fin, .slice s.a.A s.a.n s.a.c, .slice s.e.A s.e.n s.e.c, .slice s.l.A s.l.n s.l.c, .slice s.c.A s.c.n s.c.c] 37))) := Lib.hid ⟨alloc_at rfl, (Below.refl _ _).alloc (Nat.le_refl _) _⟩
  cases hq0 : lightR r.args
  · go_enter Try.func22, Try.ntmps22
    go_wp2_with fail
    refine (lightRow_any s.a.A s.a.n s.a.c r.args _ (HR.out.next X0.out.2).a).mono ?_; rintro e w1 ⟨rfl, b1⟩
    rw [hq0]
    have X1 := Lib.hid (X0.out.next b1)
    clear b1
    obtain ⟨⟨⟨x0, x1⟩, x2, x3⟩, ⟨x4, x5⟩, x6, x7⟩ := X1.out.cells
    go_wp2_with fail
    go_ret
    exact ⟨by simp [lightRec, hq0], X1.out.2⟩
  · cases hq1 : lightR r.emits
    · go_enter Try.func22, Try.ntmps22
      go_wp2_with fail
      refine (lightRow_any s.a.A s.a.n s.a.c r.args _ (HR.out.next X0.out.2).a).mono ?_; rintro e w1 ⟨rfl, b1⟩
      rw [hq0]
      have X1 := Lib.hid (X0.out.next b1)
      clear b1
      obtain ⟨⟨⟨x0, x1⟩, x2, x3⟩, ⟨x4, x5⟩, x6, x7⟩ := X1.out.cells
      go_wp2_with fail
      refine (lightRow_any s.e.A s.e.n s.e.c r.emits _ (HR.out.next X1.out.2).e).mono ?_; rintro e w2 ⟨rfl, b2⟩
      rw [hq1]
      clear x0 x1 x2 x3 x4 x5 x6 x7
      have X2 := Lib.hid (X1.out.next b2)
      clear b2
      obtain ⟨⟨⟨x0, x1⟩, x2, x3⟩, ⟨x4, x5⟩, x6, x7⟩ := X2.out.cells
      go_wp2_with fail
      go_ret
      exact ⟨by simp [lightRec, hq0, hq1], X2.out.2⟩
    · cases hq2 : lightR r.locals
      · go_enter Try.func22, Try.ntmps22
        go_wp2_with fail
        refine (lightRow_any s.a.A s.a.n s.a.c r.args _ (HR.out.next X0.out.2).a).mono ?_; rintro e w1 ⟨rfl, b1⟩
        rw [hq0]
        have X1 := Lib.hid (X0.out.next b1)
        clear b1
        obtain ⟨⟨⟨x0, x1⟩, x2, x3⟩, ⟨x4, x5⟩, x6, x7⟩ := X1.out.cells
        go_wp2_with fail
        refine (lightRow_any s.e.A s.e.n s.e.c r.emits _ (HR.out.next X1.out.2).e).mono ?_; rintro e w2 ⟨rfl, b2⟩
        rw [hq1]
        clear x0 x1 x2 x3 x4 x5 x6 x7
        have X2 := Lib.hid (X1.out.next b2)
        clear b2
        obtain ⟨⟨⟨x0, x1⟩, x2, x3⟩, ⟨x4, x5⟩, x6, x7⟩ := X2.out.cells
        go_wp2_with fail
        refine (lightRow_any s.l.A s.l.n s.l.c r.locals _ (HR.out.next X2.out.2).l).mono ?_; rintro e w3 ⟨rfl, b3⟩
        rw [hq2]
        clear x0 x1 x2 x3 x4 x5 x6 x7
        have X3 := Lib.hid (X2.out.next b3)
        clear b3
        obtain ⟨⟨⟨x0, x1⟩, x2, x3⟩, ⟨x4, x5⟩, x6, x7⟩ := X3.out.cells
        go_wp2_with fail
        go_ret
        exact ⟨by simp [lightRec, hq0, hq1, hq2], X3.out.2⟩
      · cases hq3 : lightH r.changes
        · go_enter Try.func22, Try.ntmps22
          go_wp2_with fail
          refine (lightRow_any s.a.A s.a.n s.a.c r.args _ (HR.out.next X0.out.2).a).mono ?_; rintro e w1 ⟨rfl, b1⟩
          rw [hq0]
          have X1 := Lib.hid (X0.out.next b1)
          clear b1
          obtain ⟨⟨⟨x0, x1⟩, x2, x3⟩, ⟨x4, x5⟩, x6, x7⟩ := X1.out.cells
          go_wp2_with fail
          refine (lightRow_any s.e.A s.e.n s.e.c r.emits _ (HR.out.next X1.out.2).e).mono ?_; rintro e w2 ⟨rfl, b2⟩
          rw [hq1]
          clear x0 x1 x2 x3 x4 x5 x6 x7
          have X2 := Lib.hid (X1.out.next b2)
          clear b2
          obtain ⟨⟨⟨x0, x1⟩, x2, x3⟩, ⟨x4, x5⟩, x6, x7⟩ := X2.out.cells
          go_wp2_with fail
          refine (lightRow_any s.l.A s.l.n s.l.c r.locals _ (HR.out.next X2.out.2).l).mono ?_; rintro e w3 ⟨rfl, b3⟩
          rw [hq2]
          clear x0 x1 x2 x3 x4 x5 x6 x7
          have X3 := Lib.hid (X2.out.next b3)
          clear b3
          obtain ⟨⟨⟨x0, x1⟩, x2, x3⟩, ⟨x4, x5⟩, x6, x7⟩ := X3.out.cells
          go_wp2_with fail
          refine (changes_any s.c.A s.c.n s.c.c r.changes _ (HR.out.next X3.out.2).c).mono ?_; rintro e w4 ⟨rfl, b4⟩
          rw [hq3]
          clear x0 x1 x2 x3 x4 x5 x6 x7
          have X4 := Lib.hid (X3.out.next b4)
          clear b4
          obtain ⟨⟨⟨x0, x1⟩, x2, x3⟩, ⟨x4, x5⟩, x6, x7⟩ := X4.out.cells
          go_wp2_with fail
          go_ret
          exact ⟨by simp [lightRec, hq0, hq1, hq2, hq3], X4.out.2⟩
        · go_enter Try.func22, Try.ntmps22
          go_wp2_with fail
          refine (lightRow_any s.a.A s.a.n s.a.c r.args _ (HR.out.next X0.out.2).a).mono ?_; rintro e w1 ⟨rfl, b1⟩
          rw [hq0]
          have X1 := Lib.hid (X0.out.next b1)
          clear b1
          obtain ⟨⟨⟨x0, x1⟩, x2, x3⟩, ⟨x4, x5⟩, x6, x7⟩ := X1.out.cells
          go_wp2_with fail
          refine (lightRow_any s.e.A s.e.n s.e.c r.emits _ (HR.out.next X1.out.2).e).mono ?_; rintro e w2 ⟨rfl, b2⟩
          rw [hq1]
          clear x0 x1 x2 x3 x4 x5 x6 x7
          have X2 := Lib.hid (X1.out.next b2)
          clear b2
          obtain ⟨⟨⟨x0, x1⟩, x2, x3⟩, ⟨x4, x5⟩, x6, x7⟩ := X2.out.cells
          go_wp2_with fail
          refine (lightRow_any s.l.A s.l.n s.l.c r.locals _ (HR.out.next X2.out.2).l).mono ?_; rintro e w3 ⟨rfl, b3⟩
          rw [hq2]
          clear x0 x1 x2 x3 x4 x5 x6 x7
          have X3 := Lib.hid (X2.out.next b3)
          clear b3
          obtain ⟨⟨⟨x0, x1⟩, x2, x3⟩, ⟨x4, x5⟩, x6, x7⟩ := X3.out.cells
          go_wp2_with fail
          refine (changes_any s.c.A s.c.n s.c.c r.changes _ (HR.out.next X3.out.2).c).mono ?_; rintro e w4 ⟨rfl, b4⟩
          rw [hq3]
          clear x0 x1 x2 x3 x4 x5 x6 x7
          have X4 := Lib.hid (X3.out.next b4)
          clear b4
          obtain ⟨⟨⟨x0, x1⟩, x2, x3⟩, ⟨x4, x5⟩, x6, x7⟩ := X4.out.cells
          go_wp2_with fail
          go_ret
          exact ⟨by simp [lightRec, hq0, hq1, hq2, hq3], X4.out.2⟩
/-- May a value not be? -/
def badV (x : Val) : Bool := !decide (x = ⟨0, 0, []⟩) && !right x
theorem nz_yes {x : Val} (h : x ≠ ⟨0, 0, []⟩) (w : World) : (binOp .neq 23 (.agg #[.int .i64 x.k, .int .i64 x.n, .string ⟨x.s.toArray⟩]) (.agg #[.int .i64 0, .int .i64 0, .string ⟨#[]⟩])).run Try.prog w = .ok (.bool true) w := neq_yes (y := ⟨0, 0, []⟩) h w
theorem bad_any (x : Val) (w : World) (hs : x.s.length ≤ 1000000000000) : Calls Try.prog 70 #[vv x] w fun e w' => e = .returned (.bool (badV x)) ∧ Below w.heap.size w w' := by
  simp only [vv]
  by_cases h : x = ⟨0, 0, []⟩
  · subst h
    go_enter Try.func70, Try.ntmps70
    go_wp2_with fail
    go_ret
    exact ⟨by simp [badV], (Below.refl _ _).alloc (Nat.le_refl _) _⟩
  · have hr : Hid (badV x = !right x) := Lib.hid (by simp [badV, h])
    have qn := fun w => nz_yes h w
    go_enter Try.func70, Try.ntmps70
    go_wp2_with fail
    refine (right_any x _ hs).mono ?_; rintro e w1 ⟨rfl, b1⟩
    have B1 : Below w.heap.size w w1 := bthen (by repeat (first | exact Below.refl _ _ | refine Below.alloc ?_ (by simp <;> omega) _)) b1
    go_wp2_with fail
    go_ret
    exact ⟨by rw [hr.out]; rfl, B1⟩
theorem any_find {α : Type} {p : α → Bool} {l : List α} {k : Nat} (h : k < l.length) (hp : p l[k] = true) : l.any p = true := by
  rw [List.any_eq_true]; exact ⟨l[k], List.getElem_mem h, hp⟩
theorem anyT_step {α : Type} {p : α → Bool} {l : List α} {k : Nat} (h : k < l.length) (ha : (l.take k).any p = false) : (l.take (k + 1)).any p = p l[k] := by
  rw [List.take_succ_eq_append_getElem h, List.any_append, ha]
  simp
/-- What IndexFunc returns: something from 0 on just if there is one. -/
def RetIx (b : Bool) (w : World) (e : Ending) (w' : World) : Prop := ∃ i : Int, e = .returned (.int .i64 i) ∧ decide (i ≥ 0) = b ∧ Below w.heap.size w w'
set_option maxHeartbeats 1000000 in
set_option maxRecDepth 100000 in
theorem index_bad (A : Option Addr) (n c : Nat) (l : List Val) (w : World) (h : VRow w A n c l) (hla : ∀ v ∈ l, v.s.length ≤ 1000000000000) : Calls Try.prog 131 #[.slice A n c, .func (.func 70) #[] #[]] w (RetIx (l.any badV) w) := by
  have hl := h.len
  have hcap := h.cap
  have HV := Lib.hid h
  have HL := Lib.hid hl
  clear h hl
  go_enter Try.func131, Try.ntmps131
  go_wp2_with fail
  go_loopw [5, 8] (fun _ i wr => ∃ k : Nat, k ≤ n ∧ i = .int .i64 k ∧ Hid ((l.take k).any badV = false) ∧ Below w.heap.size w wr) (fun _ i _ => n - (intOf i).toNat)
  case atStart => exact ⟨0, by omega, rfl, Lib.hid (by simp), Below.refl _ _⟩
  case round =>
    obtain ⟨k, hk, rfl, H, hb⟩ := hrel
    by_cases hlt : k < n
    · have hlt' : k < l.length := by rw [HL.out]; exact hlt
      obtain ⟨b, off, rfl, hbl, ho, hc⟩ := HV.out.at_ hlt'
      obtain ⟨c0, c1, c2⟩ := hc wr hb
      have hn := Lib.hid (anyT_step hlt' H.out)
      have hye := Lib.hid (any_find (p := badV) hlt')
      have hs := hla l[k] (List.getElem_mem hlt')
      clear hc ho
      generalize l[k] = v at *
      cases hq : badV v
      · go_wp2_with fail
        refine (bad_any v _ hs).mono ?_; rintro e w2 ⟨rfl, b2⟩
        rw [hq]
        go_wp2_with fail
        go_roundw
        case rel => exact ⟨k + 1, by omega, by go_num, Lib.hid (by rw [hn.out]; exact hq), hb.trans (b2.mono hb.size)⟩
        case measure => simp [intOf]; omega
      · have hye' := Lib.hid (hye.out hq)
        go_wp2_with fail
        refine (bad_any v _ hs).mono ?_; rintro e w2 ⟨rfl, b2⟩
        rw [hq]
        go_wp2_with fail
        go_ret
        exact ⟨(k : Int), rfl, by rw [hye'.out]; simp, hb.trans (b2.mono hb.size)⟩
    · obtain rfl : k = n := by omega
      go_wp2_with fail
      go_ret
      have := H.out
      rw [← HL.out, List.take_length] at this
      exact ⟨-1, rfl, by rw [this]; rfl, hb⟩
theorem contains_bad (A : Option Addr) (n c : Nat) (l : List Val) (w : World) (h : VRow w A n c l) (hla : ∀ v ∈ l, v.s.length ≤ 1000000000000) : Calls Try.prog 71 #[.slice A n c, .func (.func 70) #[] #[]] w fun e w' => e = .returned (.bool (l.any badV)) ∧ Below w.heap.size w w' := by
  go_enter Try.func71, Try.ntmps71
  go_wp2_with fail
  refine (index_bad A n c l _ h hla).mono ?_; rintro e w1 ⟨i, rfl, hi, b1⟩
  go_wp2_with fail
  go_ret
  exact ⟨by rw [← hi]; rfl, b1⟩
end Go.Proofs.Ytpkoijlbbfffiaa.R
