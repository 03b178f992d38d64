/- The contracts of record.read at record.Get's closure, and of record.Get, at bytes that record.Put has put. -/
import Derived.Test.YtpkoijlbbfffiaaRecGet5
namespace Go.Proofs.Ytpkoijlbbfffiaa.R
open Go.RowKit O V

theorem read1_idle (p : Addr) (w : World) :
    CallsD Try.prog 146 #[.pointer (some p)] .returning w fun e u' w' => e = .returned (.tuple #[]) ∧ u' = .returning ∧ w' = w := by
  refine callsD_of_wpS Try.func146 rfl fun c₀ cs hu => ?_
  apply wpS_seq
  apply wpS_region
  simp [wpOpsS, go_sem, recoverD, hu, Try.ntmps146, Exit.thenS]
  refine wpS_of_wp ?_
  have e : (#[Value.pointer (some p)] ++ (Array.replicate 9 undef).setIfInBounds 3 Value.nilIface) = #[Value.pointer (some p), undef, undef, undef, Value.nilIface, undef, undef, undef, undef, undef] := by simp [Array.replicate]
  rw [e]
  go_wp2_with fail
  cases c₀
  simp_all [bodyPostS, results, Try.results146]
def RetG (x : Nat) (r : Rec) (w : World) (e : Ending) (w' : World) : Prop := e = .returned (.bool true) ∧ ∃ s : RS,
  w'.heap[x]? = some (.cells #[.int .i64 r.inst, .int .i64 r.proc, .int .i64 r.piece, .int .i64 r.fin, .slice s.a.A s.a.n s.a.c, .slice s.e.A s.e.n s.e.c, .slice s.l.A s.l.n s.l.c, .slice s.c.A s.c.n s.c.c] 37 (0, 0)) ∧ RecOwn w' w.heap.size r s ∧ w.grownBy w' (some x)
set_option maxHeartbeats 1000000 in
set_option maxRecDepth 100000 in
theorem read_any (x : Nat) (A : Option Addr) (n c : Nat) (r : Rec) (w : World) (hrd : Rd w x 1 A n (bv (putRec r))) (hn : n ≤ 1000000000000) (hcap : n ≤ c ∧ c ≤ 9223372036854775807) (ok : ROk2 r)
    (hbx : w.heap[x]? = some (.cells #[.int .i64 0, .int .i64 0, .int .i64 0, .int .i64 0, .slice none 0 0, .slice none 0 0, .slice none 0 0, .slice none 0 0] 37 (0, 0))) :
    Calls Try.prog 112 #[.slice A n c, .func (.func 113) #[] #[.pointer (some ⟨x, 0, none⟩)]] w (RetG x r w) := by
  have hmf : ∀ (fn : Fn) (first cap : Array Value) (w : World), (Instr.makeFunc fn first cap).run Try.prog w = .ok (.func fn first cap) w := fun _ _ _ _ => rfl
  have hl : (putRec r).length = n := by have := hrd.1; simp at this; omega
  have hx := (Array.getElem?_eq_some_iff.1 hbx).1
  have HL := Lib.hid hl
  have D0 := Lib.hid hrd
  have X0 := Lib.hid hbx
  have OK := Lib.hid ok
  clear hl hrd hbx ok
  go_enter_defers Try.func112, Try.ntmps112
  go_wp2_with fail
  have B1 : Below w.heap.size w ((w.alloc (.cells #[.bool false] 4)).alloc (.cells #[.slice A n c, .int .i64 0] 152)) := by repeat (first | exact Below.refl _ _ | refine Below.alloc ?_ (by simp <;> omega) _)
  have HB1 := Lib.hid B1
  have R1 : Hid (Rdr ((w.alloc (.cells #[.bool false] 4)).alloc (.cells #[.slice A n c, .int .i64 0] 152)) (w.heap.size + 1) A n c (putRec r) 0) := Lib.hid ⟨alloc_at (by simp), (D0.out.below (B1.mono (Nat.le_of_lt hx))).more (by omega), hcap, hn⟩
  have D1 : Hid (Rd ((w.alloc (.cells #[.bool false] 4)).alloc (.cells #[.slice A n c, .int .i64 0] 152)) x 1 A n (bv (putRec r))) := Lib.hid (D0.out.below (B1.mono (Nat.le_of_lt hx)))
  have X1 := Lib.hid (box_next X0.out B1)
  have O1 : Hid (((w.alloc (.cells #[.bool false] 4)).alloc (.cells #[.slice A n c, .int .i64 0] 152)).heap[w.heap.size]? = some (.cells #[.bool false] 4 (0, 0))) := Lib.hid (alloc_old' (alloc_at rfl))
  clear B1
  refine (get1_any (w.heap.size + 1) x A n c r _ R1.out D1.out (by omega) OK.out X1.out).mono ?_; rintro e w2 ⟨rfl, s, x2, own2, r2, t2⟩
  have O2 : Hid (w2.heap[w.heap.size]? = some (.cells #[.bool false] 4 (0, 0))) := Lib.hid ((t2.block _ (by simp; omega) (by omega) (by omega)).trans O1.out)
  have R2 := Lib.hid r2
  have X2 := Lib.hid x2
  have W2 := Lib.hid own2
  have T2 := Lib.hid t2
  clear x2 own2 r2 t2 R1 D1 X1 O1 D0 X0
  obtain ⟨x0, x1⟩ := R2.out.cells
  have y0 := cell_of_one O2.out
  have yf := free_of_one O2.out
  have e1 : (((putRec r).length : Int) == (n : Int)) = true := by have := HL.out; simp; omega
  rw [HL.out] at x1
  go_wp2_with fail
  refine leaves_cons (f := 146) (args := #[.pointer (some ⟨w.heap.size, 0, none⟩)]) (by simp) (by simp [go_sem]) ?_
  refine (read1_idle ⟨w.heap.size, 0, none⟩ _).mono ?_
  rintro e u' w'' ⟨rfl, rfl, rfl⟩
  have hfin : RetG x r w (.returned (.bool true)) (w2.setCell ⟨w.heap.size, 0, none⟩ (.bool true)) := by
    refine ⟨rfl, s, box_set X2.out (by omega) _, ?_, ?_⟩
    · have hb : w.heap.size < ((w.alloc (.cells #[.bool false] 4)).alloc (.cells #[.slice A n c, .int .i64 0] 152)).heap.size := by simp; omega
      exact ⟨((W2.out.a.set hb _)).more (Nat.le_of_lt hb), ((W2.out.e.set hb _)).more (Nat.le_of_lt hb), ((W2.out.l.set hb _)).more (Nat.le_of_lt hb), ((W2.out.c.set hb _)).more (Nat.le_of_lt hb)⟩
    · have b1 := HB1.out
      have t2 := T2.out
      refine ⟨t2.os.trans b1.os, t2.tape.trans b1.tape, t2.output.trans b1.output, ?_, fun k hk hne => ?_⟩
      · have := t2.size; have := b1.size; simp at *; omega
      · have hkx : k ≠ x := fun e => hne (by rw [e])
        rw [Below.heap_setCell _ _ _ _ (by simp only; omega), t2.block k (by simp; omega) (by omega) hkx]
        exact b1.block k hk
  have HF := Lib.hid hfin
  clear hfin
  simp [Leaves, settle, results, Try.results112, go_sem, y0]
  exact HF.out
theorem OwnV.setB {w : World} {B b i : Nat} {s : Sl} {a : List Val} (h : OwnV w B s a) (hb : b < B) (v : Value) : OwnV (w.setCell ⟨b, i, none⟩ v) B s a := h.set hb v
theorem RecOwn.set {w : World} {B b i : Nat} {r : Rec} {s : RS} (h : RecOwn w B r s) (hb : b < B) (v : Value) : RecOwn (w.setCell ⟨b, i, none⟩ v) B r s := ⟨h.a.set hb v, h.e.set hb v, h.l.set hb v, h.c.set hb v⟩
theorem RecOwn.at_ {w : World} {B : Nat} {r : Rec} {s : RS} (h : RecOwn w B r s) (ok : ROk2 r) : RecAt w r s := ⟨h.a.row, h.e.row, h.l.row, h.c.row ok.c.1⟩
def zeroC : Obj := .cells #[.int .i64 0, .int .i64 0, .int .i64 0, .int .i64 0, .slice none 0 0, .slice none 0 0, .slice none 0 0, .slice none 0 0] 37
set_option maxHeartbeats 2000000 in
set_option maxRecDepth 100000 in
theorem get_back (A : Option Addr) (n c : Nat) (r : Rec) (w : World) (h : Rd w w.heap.size 1 A n (bv (putRec r))) (hn : n ≤ 1000000000000) (hcap : n ≤ c ∧ c ≤ 9223372036854775807) (ok : ROk2 r) :
    Calls Try.prog 48 #[.slice A n c] w fun e w' => ∃ s : RS, e = .returned (.tuple #[rv r s, .bool true]) ∧ RecAt w' r s ∧ Below w.heap.size w w' := by
  have HB : Hid (Below w.heap.size w ((w.alloc zeroC).alloc zeroC)) := Lib.hid (by repeat (first | exact Below.refl _ _ | refine Below.alloc ?_ (by simp <;> omega) _))
  have D0 := Lib.hid h
  have OK := Lib.hid ok
  clear h ok
  go_enter Try.func48, Try.ntmps48
  go_wp2_with fail
  refine (read_any (w.heap.size + 1) A n c r _ ((D0.out.below HB.out).more (by omega)) hn hcap OK.out (alloc_at (by simp))).mono ?_
  rintro e w2 ⟨rfl, s, x2, own2, g2⟩
  have Z2 : Hid (w2.heap[w.heap.size]? = some (.cells #[.int .i64 0, .int .i64 0, .int .i64 0, .int .i64 0, .slice none 0 0, .slice none 0 0, .slice none 0 0, .slice none 0 0] 37 (0, 0))) := Lib.hid ((g2.block w.heap.size (by simp; omega) (by simp)).trans (alloc_old' (alloc_at rfl)))
  have X2 := Lib.hid x2
  have W2 := Lib.hid own2
  have B2 : Hid (Below w.heap.size w w2) := Lib.hid (HB.out.trans ⟨g2.os, g2.tape, g2.output, g2.size, fun k hk => g2.block k (by simp; omega) (by simp; omega)⟩)
  clear x2 own2 g2
  obtain ⟨⟨⟨x0, x1⟩, x2, x3⟩, ⟨x4, x5⟩, x6, x7⟩ := cells8 X2.out
  obtain ⟨⟨⟨y0, y1⟩, y2, y3⟩, ⟨y4, y5⟩, y6, y7⟩ := cells8 Z2.out
  obtain ⟨⟨⟨z0, z1⟩, z2, z3⟩, ⟨z4, z5⟩, z6, z7⟩ := frozen8 Z2.out
  go_wp2_with fail
  refine bodyPost_ret (v := .tuple #[rv r s, .bool true]) (by simp [results, Try.results48, go_sem, rv, y0, y1, y2, y3, y4, y5, y6, y7]) rfl ?_
  have hb : w.heap.size < ((w.alloc zeroC).alloc zeroC).heap.size := by simp; omega
  refine ⟨s, rfl, RecOwn.at_ (B := ((w.alloc zeroC).alloc zeroC).heap.size) ?_ OK.out, ?_⟩
  · exact (((((((W2.out.set hb _).set hb _).set hb _).set hb _).set hb _).set hb _).set hb _).set hb _
  · repeat (first | (with_reducible exact B2.out) | refine Below.setCell ?_ (by simp) _)
end Go.Proofs.Ytpkoijlbbfffiaa.R
