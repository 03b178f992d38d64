/- Images in memory: instances, rows of instances and of numbers; the contract of billhooklaw23's LightImage. -/
/- The contracts of record's putInst, putNumber, row at instances and at numbers, PutImage. -/
/- The contract of record.PutImage. -/
import Derived.Test.YtpkoijlbbfffiaaRecMem
import Derived.Test.YtpkoijlbbfffiaaRecRef
import Derived.Test.YtpkoijlbbfffiaaRecPut3
import Derived.Test.YtpkoijlbbfffiaaRecRef2
namespace Go.Proofs.Ytpkoijlbbfffiaa.R
open Go.RowKit O V

structure Ins where
  id : Int
  proc : Int
  piece : Int
  fin : Int
  emits : List Val
  locals : List Val
def In64 (x : Int) : Prop := -9223372036854775808 ≤ x ∧ x ≤ 9223372036854775807
def InB (x : Ins) : Prop := (In64 x.id ∧ In64 x.proc) ∧ In64 x.piece ∧ In64 x.fin
def InC (w : World) (x : Ins) (cs : List Value) : Prop := ∃ e l : Sl, cs = [.int .i64 x.id, .int .i64 x.proc, .int .i64 x.piece, .int .i64 x.fin, .slice e.A e.n e.c, .slice l.A l.n l.c] ∧ VRow w e.A e.n e.c x.emits ∧ VRow w l.A l.n l.c x.locals ∧ InB x
theorem InC.size {w : World} : ∀ (a : Ins) vs, InC w a vs → vs.length = 6 := by rintro a vs ⟨e, l, rfl, _⟩; rfl
def IRow (w : World) (A : Option Addr) (n c : Nat) (l : List Ins) : Prop := ∃ xs, Rd w w.heap.size 6 A n xs ∧ Reps (InC w) l xs ∧ n ≤ c ∧ c ≤ 9223372036854775807
theorem IRow.len {w : World} {A : Option Addr} {n c : Nat} {l : List Ins} (h : IRow w A n c l) : l.length = n := by
  obtain ⟨xs, h1, h2, _⟩ := h
  exact h1.len_of InC.size h2 (by omega)
theorem IRow.cap {w : World} {A : Option Addr} {n c : Nat} {l : List Ins} (h : IRow w A n c l) : n ≤ c ∧ c ≤ 9223372036854775807 := by
  obtain ⟨xs, _, _, h3, h4⟩ := h
  exact ⟨h3, h4⟩
theorem IRow.next {w W : World} {A : Option Addr} {n c : Nat} {l : List Ins} (h : IRow w A n c l) (b : Below w.heap.size w W) : IRow W A n c l := by
  obtain ⟨xs, h1, h2, h3, h4⟩ := h
  exact ⟨xs, h1.next b, h2.imp (fun a vs ⟨e, s, eq, hv, hl, r⟩ => ⟨e, s, eq, hv.next b, hl.next b, r⟩), h3, h4⟩
theorem IRow.at_ {w : World} {A : Option Addr} {n c : Nat} {l : List Ins} (h : IRow w A n c l) {k : Nat} (hk : k < l.length) : ∃ b off, ∃ e s : Sl, A = some ⟨b, off, none⟩ ∧ b < w.heap.size ∧ VRow w e.A e.n e.c l[k].emits ∧ VRow w s.A s.n s.c l[k].locals ∧ InB l[k] ∧
    ∀ W, Below w.heap.size w W → ((W.cell? ⟨b, off + k * 6, none⟩ = some (.int .i64 l[k].id) ∧ W.cell? ⟨b, off + k * 6 + 1, none⟩ = some (.int .i64 l[k].proc)) ∧ W.cell? ⟨b, off + k * 6 + 2, none⟩ = some (.int .i64 l[k].piece) ∧ W.cell? ⟨b, off + k * 6 + 3, none⟩ = some (.int .i64 l[k].fin)) ∧
      W.cell? ⟨b, off + k * 6 + 4, none⟩ = some (.slice e.A e.n e.c) ∧ W.cell? ⟨b, off + k * 6 + 5, none⟩ = some (.slice s.A s.n s.c) := by
  obtain ⟨xs, h1, h2, h3, h4⟩ := h
  obtain ⟨b, off, vs, q, hb, ⟨e, s, rfl, hv, hl, ho⟩, hc⟩ := h1.elem InC.size h2 hk (by omega)
  refine ⟨b, off, e, s, q, hb, hv, hl, ho, fun W bW => ⟨⟨⟨?_, ?_⟩, ?_, ?_⟩, ?_, ?_⟩⟩
  · exact (bW.cell (p := ⟨b, off + k * 6 + 0, none⟩) hb).trans (hc 0 (by omega))
  · exact (bW.cell (p := ⟨b, off + k * 6 + 1, none⟩) hb).trans (hc 1 (by omega))
  · exact (bW.cell (p := ⟨b, off + k * 6 + 2, none⟩) hb).trans (hc 2 (by omega))
  · exact (bW.cell (p := ⟨b, off + k * 6 + 3, none⟩) hb).trans (hc 3 (by omega))
  · exact (bW.cell (p := ⟨b, off + k * 6 + 4, none⟩) hb).trans (hc 4 (by omega))
  · exact (bW.cell (p := ⟨b, off + k * 6 + 5, none⟩) hb).trans (hc 5 (by omega))
/-- A row of numbers. -/
def NRow (w : World) (A : Option Addr) (n c : Nat) (l : List Int) : Prop := Rd w w.heap.size 1 A n (ivz l) ∧ n ≤ c ∧ c ≤ 9223372036854775807 ∧ ∀ k ∈ l, In64 k
section
variable {w W : World} {A : Option Addr} {n c : Nat} {l : List Int}
theorem NRow.len (h : NRow w A n c l) : l.length = n := by have := h.1.1; simpa [ivz] using this
theorem NRow.cap (h : NRow w A n c l) : n ≤ c ∧ c ≤ 9223372036854775807 := ⟨h.2.1, h.2.2.1⟩
theorem NRow.next (h : NRow w A n c l) (b : Below w.heap.size w W) : NRow W A n c l := ⟨h.1.next b, h.2⟩
theorem NRow.at_ (h : NRow w A n c l) {k : Nat} (hk : k < l.length) : ∃ b off, A = some ⟨b, off, none⟩ ∧ b < w.heap.size ∧ In64 l[k] ∧ ∀ W, Below w.heap.size w W → W.cell? ⟨b, off + k, none⟩ = some (.int .i64 l[k]) := by
  have hl := h.len
  obtain ⟨b, off, e, hb, hc⟩ := h.1.pos (show k < n by omega)
  refine ⟨b, off, e, hb, h.2.2.2 _ (List.getElem_mem hk), fun W bW => ?_⟩
  rw [bW.cell (p := ⟨b, off + k, none⟩) hb, hc k (by omega)]
  simp [ivz, hk]
end
structure Img where
  text : List UInt8
  rows : List Chg
  insts : List Ins
  order : List Int
structure IS where
  r : Sl
  i : Sl
  o : Sl
structure ImgAt (w : World) (m : Img) (s : IS) : Prop where
  r : HRow w s.r.A s.r.n s.r.c m.rows
  i : IRow w s.i.A s.i.n s.i.c m.insts
  o : NRow w s.o.A s.o.n s.o.c m.order
theorem ImgAt.next {w W : World} {m : Img} {s : IS} (h : ImgAt w m s) (b : Below w.heap.size w W) : ImgAt W m s := ⟨h.r.next b, h.i.next b, h.o.next b⟩
def imv (m : Img) (s : IS) : Value := .agg #[.string ⟨m.text.toArray⟩, .slice s.r.A s.r.n s.r.c, .slice s.i.A s.i.n s.i.c, .slice s.o.A s.o.n s.o.c]
def IBox (w : World) (m : Img) (s : IS) (g : Nat) (W : World) : Prop := W.heap[g]? = some (.cells #[.string ⟨m.text.toArray⟩, .slice s.r.A s.r.n s.r.c, .slice s.i.A s.i.n s.i.c, .slice s.o.A s.o.n s.o.c] 76 (0, 0)) ∧ Below w.heap.size w W
theorem IBox.next {w W W' : World} {m : Img} {s : IS} {g : Nat} (h : IBox w m s g W) (b : Below W.heap.size W W') : IBox w m s g W' := ⟨box_next h.1 b, bthen h.2 b⟩
theorem IBox.cells {w W : World} {m : Img} {s : IS} {g : Nat} (h : IBox w m s g W) : (W.cell? ⟨g, 0, none⟩ = some (.string ⟨m.text.toArray⟩) ∧ W.cell? ⟨g, 1, none⟩ = some (.slice s.r.A s.r.n s.r.c)) ∧ W.cell? ⟨g, 2, none⟩ = some (.slice s.i.A s.i.n s.i.c) ∧ W.cell? ⟨g, 3, none⟩ = some (.slice s.o.A s.o.n s.o.c) := by
  refine ⟨⟨?_, ?_⟩, ?_, ?_⟩ <;> (rw [Lib.cell_of_heap h.1]; rfl)
def lightI (x : Ins) : Bool := lightR x.emits && lightR x.locals
def lightImg (m : Img) : Bool := decide (m.insts.length ≤ 20) && (decide (m.order.length ≤ 40) && (decide (m.text.length ≤ 1500) && (lightH m.rows && m.insts.all lightI)))
def InsBox (w : World) (x : Ins) (e l : Sl) (g : Nat) (W : World) : Prop := W.heap[g]? = some (.cells #[.int .i64 x.id, .int .i64 x.proc, .int .i64 x.piece, .int .i64 x.fin, .slice e.A e.n e.c, .slice l.A l.n l.c] 143 (0, 0)) ∧ Below w.heap.size w W
theorem InsBox.next {w W W' : World} {x : Ins} {e l : Sl} {g : Nat} (h : InsBox w x e l g W) (b : Below W.heap.size W W') : InsBox w x e l g W' := ⟨box_next h.1 b, bthen h.2 b⟩
theorem InsBox.cells {w W : World} {x : Ins} {e l : Sl} {g : Nat} (h : InsBox w x e l g W) :
    ((W.cell? ⟨g, 0, none⟩ = some (.int .i64 x.id) ∧ W.cell? ⟨g, 1, none⟩ = some (.int .i64 x.proc)) ∧ W.cell? ⟨g, 2, none⟩ = some (.int .i64 x.piece) ∧ W.cell? ⟨g, 3, none⟩ = some (.int .i64 x.fin)) ∧ W.cell? ⟨g, 4, none⟩ = some (.slice e.A e.n e.c) ∧ W.cell? ⟨g, 5, none⟩ = some (.slice l.A l.n l.c) := by
  refine ⟨⟨⟨?_, ?_⟩, ?_, ?_⟩, ?_, ?_⟩ <;> (rw [Lib.cell_of_heap h.1]; rfl)
def inv (x : Ins) (e l : Sl) : Value := .agg #[.int .i64 x.id, .int .i64 x.proc, .int .i64 x.piece, .int .i64 x.fin, .slice e.A e.n e.c, .slice l.A l.n l.c]
set_option maxHeartbeats 2000000 in
set_option maxRecDepth 100000 in
theorem lightImage_any (m : Img) (s : IS) (w : World) (h : ImgAt w m s) : Calls Try.prog 49 #[imv m s] w fun e w' => e = .returned (.bool (lightImg m)) ∧ Below w.heap.size w w' := by
  obtain ⟨tx, rows, insts, order⟩ := m
  obtain ⟨sr, ⟨A2, n2, c2⟩, so⟩ := s
  have hi := h.i.len
  have ho := h.o.len
  have hic := h.i.cap
  have hoc := h.o.cap
  simp only at hi ho hic hoc
  have HR := Lib.hid h
  clear h
  simp only [imv]
  have X0 : Hid (IBox w ⟨tx, rows, insts, order⟩ ⟨sr, ⟨A2, n2, c2⟩, so⟩ w.heap.size (w.alloc (.cells #[.string ⟨tx.toArray⟩, .slice sr.A sr.n sr.c, .slice A2 n2 c2, .slice so.A so.n so.c] 76))) := Lib.hid ⟨alloc_at rfl, (Below.refl _ _).alloc (Nat.le_refl _) _⟩
  by_cases c1 : (n2 : Int) > 20
  · have d1 : decide ((n2 : Int) > 20) = true := by simp; omega
    have hr : Hid (lightImg ⟨tx, rows, insts, order⟩ = false) := Lib.hid (by unfold lightImg; simp only; rw [decide_eq_false (show ¬ insts.length ≤ 20 by omega)]; rfl)
    clear hi ho
    go_enter Try.func49, Try.ntmps49
    go_wp2_with fail
    go_ret
    exact ⟨by rw [hr.out]; rfl, X0.out.2⟩
  · have d1 : decide ((n2 : Int) > 20) = false := by simp; omega
    by_cases c2 : (so.n : Int) > 40
    · have d2 : decide ((so.n : Int) > 40) = true := by simp; omega
      have hr : Hid (lightImg ⟨tx, rows, insts, order⟩ = false) := Lib.hid (by unfold lightImg; simp only; rw [decide_eq_false (show ¬ order.length ≤ 40 by omega)]; simp)
      clear hi ho
      go_enter Try.func49, Try.ntmps49
      go_wp2_with fail
      go_ret
      exact ⟨by rw [hr.out]; rfl, X0.out.2⟩
    · have d2 : decide ((so.n : Int) > 40) = false := by simp; omega
      by_cases c3 : (tx.length : Int) > 1500
      · have d3 : decide ((tx.length : Int) > 1500) = true := by simp; omega
        have hr : Hid (lightImg ⟨tx, rows, insts, order⟩ = false) := Lib.hid (by unfold lightImg; simp only; rw [decide_eq_false (show ¬ tx.length ≤ 1500 by omega)]; simp)
        clear hi ho
        go_enter Try.func49, Try.ntmps49
        go_wp2_with fail
        go_ret
        exact ⟨by rw [hr.out]; rfl, X0.out.2⟩
      · have d3 : decide ((tx.length : Int) > 1500) = false := by simp; omega
        have hr : Hid (lightImg ⟨tx, rows, insts, order⟩ = (lightH rows && insts.all lightI)) := Lib.hid (by unfold lightImg; simp only; rw [decide_eq_true (show insts.length ≤ 20 by omega), decide_eq_true (show order.length ≤ 40 by omega), decide_eq_true (show tx.length ≤ 1500 by omega)]; simp)
        have HI := Lib.hid hi
        clear hi ho
        cases hq : lightH rows
        · go_enter Try.func49, Try.ntmps49
          go_wp2_with fail
          refine (changes_any sr.A sr.n sr.c rows _ (HR.out.next X0.out.2).r).mono ?_; rintro e w1 ⟨rfl, b1⟩
          rw [hq]
          go_wp2_with fail
          go_ret
          exact ⟨by rw [hr.out, hq]; rfl, bthen X0.out.2 b1⟩
        · go_enter Try.func49, Try.ntmps49
          go_wp2_with fail
          refine (changes_any sr.A sr.n sr.c rows _ (HR.out.next X0.out.2).r).mono ?_; rintro e w1 ⟨rfl, b1⟩
          rw [hq]
          have X1 := Lib.hid (X0.out.next b1)
          clear b1 X0
          obtain ⟨⟨x0, x1⟩, x2, x3⟩ := X1.out.cells
          have hbs1 := X1.out.2
          go_wp2_with fail
          go_loopw [4, 30] (fun _ i wr => ∃ k : Nat, k ≤ n2 ∧ i = .int .i64 k ∧ Hid ((insts.take k).all lightI = true) ∧ Below w.heap.size w wr) (fun _ i _ => n2 - (intOf i).toNat)
          case atStart => exact ⟨0, by omega, rfl, Lib.hid (by simp), hbs1⟩
          case round =>
            obtain ⟨k, hk, rfl, H, hb⟩ := hrel
            clear x0 x1 x2 x3 hbs1
            by_cases hlt : k < n2
            · have hlt' : k < insts.length := by rw [HI.out]; exact hlt
              obtain ⟨b, off, e0, t0, hA, hbl, hv, hw, _, hc⟩ := HR.out.i.at_ hlt'
              have hA : A2 = some ⟨b, off, none⟩ := hA
              subst hA
              obtain ⟨⟨⟨x0, x1⟩, x2, x3⟩, x4, x5⟩ := hc wr hb
              have hn := Lib.hid (allT_step hlt' H.out)
              have hno := Lib.hid (allT_no (p := lightI) hlt')
              have HVr := Lib.hid hv
              have HWr := Lib.hid hw
              clear hc hv hw
              generalize insts[k] = x at *
              have hbs := hb.size
              have Y0 : Hid (InsBox w x e0 t0 wr.heap.size (wr.alloc (.cells #[.int .i64 x.id, .int .i64 x.proc, .int .i64 x.piece, .int .i64 x.fin, .slice e0.A e0.n e0.c, .slice t0.A t0.n t0.c] 143))) := Lib.hid ⟨alloc_at rfl, hb.alloc hbs _⟩
              go_wp2_with fail
              refine (lightRow_any e0.A e0.n e0.c x.emits _ (HVr.out.next (hb.alloc hbs _))).mono ?_; rintro e w2 ⟨rfl, b2⟩
              have Y2 := Lib.hid (Y0.out.next b2)
              clear b2 Y0 x0 x1 x2 x3 x4 x5
              obtain ⟨⟨⟨x0, x1⟩, x2, x3⟩, x4, x5⟩ := Y2.out.cells
              cases hq1 : lightR x.emits
              · have hno' := Lib.hid (hno.out (by simp [lightI, hq1]))
                go_wp2_with fail
                go_ret
                exact ⟨by rw [hr.out, hq, hno'.out]; rfl, Y2.out.2⟩
              · go_wp2_with fail
                refine (lightRow_any t0.A t0.n t0.c x.locals _ (HWr.out.next Y2.out.2)).mono ?_; rintro e w3 ⟨rfl, b3⟩
                have Y3 := Lib.hid (Y2.out.next b3)
                clear b3 Y2 x0 x1 x2 x3 x4 x5
                cases hq2 : lightR x.locals
                · have hno' := Lib.hid (hno.out (by simp [lightI, hq1, hq2]))
                  go_wp2_with fail
                  go_ret
                  exact ⟨by rw [hr.out, hq, hno'.out]; rfl, Y3.out.2⟩
                · have hn' := Lib.hid (show (insts.take (k + 1)).all lightI = true by rw [hn.out]; simp [lightI, hq1, hq2])
                  go_wp2_with fail
                  go_roundw
                  case rel => exact ⟨k + 1, by omega, by go_num, hn', Y3.out.2⟩
                  case measure => simp [intOf]; omega
            · obtain rfl : k = n2 := by omega
              have hall := H.out
              rw [← HI.out, List.take_length] at hall
              have HL := Lib.hid hall
              clear hall
              go_wp2_with fail
              go_ret
              exact ⟨by rw [hr.out, hq, HL.out]; rfl, hb⟩
end Go.Proofs.Ytpkoijlbbfffiaa.R
namespace Go.Proofs.Ytpkoijlbbfffiaa.R
open Go.RowKit O V

def insL (x : Ins) : List UInt8 := numsL [x.id.toNat, x.proc.toNat, x.piece.toNat, x.fin.toNat] ++ (rowL x.emits ++ rowL x.locals)
def putIns (l : List Ins) : List UInt8 := l.flatMap insL
theorem putIns_step {l : List Ins} {k : Nat} (h : k < l.length) : putIns (l.take (k + 1)) = putIns (l.take k) ++ insL l[k] := by
  unfold putIns
  rw [List.take_succ_eq_append_getElem h, List.flatMap_append]
  simp
/-- An instance that may be put. -/
structure IOk (x : Ins) : Prop where
  n : ((0 ≤ x.id ∧ x.id ≤ 1073741824) ∧ 0 ≤ x.proc ∧ x.proc ≤ 1073741824) ∧ (0 ≤ x.piece ∧ x.piece ≤ 1073741824) ∧ 0 ≤ x.fin ∧ x.fin ≤ 1073741824
  e : lightR x.emits = true
  l : lightR x.locals = true
  ve : ∀ v ∈ x.emits, VOk v
  vl : ∀ v ∈ x.locals, VOk v
theorem insL_len (x : Ins) (h : IOk x) : (insL x).length ≤ 40100 := by
  have h1 := lightR_all h.e
  have h2 := lightR_all h.l
  have := rowL_len h1.1 (fun v hv => ⟨h.ve v hv, h1.2 v hv⟩)
  have := rowL_len h2.1 (fun v hv => ⟨h.vl v hv, h2.2 v hv⟩)
  have := nums_len [x.id.toNat, x.proc.toNat, x.piece.toNat, x.fin.toNat] (by have := h.n; simp; omega)
  unfold insL
  rw [List.length_append, List.length_append]
  simp only [List.length_cons, List.length_nil] at this
  omega
theorem putIns_len : ∀ (a : List Ins), (∀ v ∈ a, IOk v) → (putIns a).length ≤ a.length * 40100
  | [], _ => by simp [putIns]
  | v :: a, h => by
    have h1 := insL_len v (h v (by simp))
    have h2 := putIns_len a (fun u hu => h u (by simp [hu]))
    unfold putIns at h2 ⊢
    rw [List.flatMap_cons, List.length_append, List.length_cons]
    omega
def rowIL (a : List Ins) : List UInt8 := uintL a.length ++ putIns a
def rowNL (a : List Int) : List UInt8 := uintL a.length ++ uL a
set_option maxHeartbeats 1000000 in
set_option maxRecDepth 100000 in
theorem putInst_any (A : Option Addr) (n c : Nat) (l : List UInt8) (x : Ins) (e s : Sl) (w : World) (h : Rd w w.heap.size 1 A n (bv l)) (he : VRow w e.A e.n e.c x.emits) (hs : VRow w s.A s.n s.c x.locals) (ok : IOk x) (hn : n ≤ 900000000) :
    Calls Try.prog 123 #[.slice A n c, inv x e s] w (RetB (l ++ insL x) w) := by
  have hln : l.length = n := by have := h.1; simp at this; omega
  have HR := Lib.hid h
  have HE := Lib.hid he
  have HS := Lib.hid hs
  have HK := Lib.hid ok
  clear h he hs ok
  simp only [inv]
  have X0 : Hid (InsBox w x e s w.heap.size (w.alloc (.cells #[.int .i64 x.id, .int .i64 x.proc, .int .i64 x.piece, .int .i64 x.fin, .slice e.A e.n e.c, .slice s.A s.n s.c] 143))) := Lib.hid ⟨alloc_at rfl, (Below.refl _ _).alloc (Nat.le_refl _) _⟩
  have RI : Hid (Rd ((w.alloc (.cells #[.int .i64 x.id, .int .i64 x.proc, .int .i64 x.piece, .int .i64 x.fin, .slice e.A e.n e.c, .slice s.A s.n s.c] 143)).alloc (.cells #[.int .i64 x.id, .int .i64 x.proc, .int .i64 x.piece, .int .i64 x.fin] 3)) ((w.alloc (.cells #[.int .i64 x.id, .int .i64 x.proc, .int .i64 x.piece, .int .i64 x.fin, .slice e.A e.n e.c, .slice s.A s.n s.c] 143)).alloc (.cells #[.int .i64 x.id, .int .i64 x.proc, .int .i64 x.piece, .int .i64 x.fin] 3)).heap.size 1 (some ⟨w.heap.size + 1, 0, none⟩) 4 (iv [x.id.toNat, x.proc.toNat, x.piece.toNat, x.fin.toNat])) := by
    refine Lib.hid ?_
    have := Rd.made (w.alloc (.cells #[.int .i64 x.id, .int .i64 x.proc, .int .i64 x.piece, .int .i64 x.fin, .slice e.A e.n e.c, .slice s.A s.n s.c] 143)) [.int .i64 x.id, .int .i64 x.proc, .int .i64 x.piece, .int .i64 x.fin] (e := 3) (size := 1) (n := 4) (b := w.heap.size + 1) rfl (by simp)
    rw [← iv4 HK.out.n.1.1.1 HK.out.n.1.2.1 HK.out.n.2.1.1 HK.out.n.2.2.1]
    refine this.more ?_
    simp
  have hnn := HK.out.n
  have hl4 : (numsL [x.id.toNat, x.proc.toNat, x.piece.toNat, x.fin.toNat]).length ≤ 40 := nums_len _ (by simp; omega)
  have hle := lightR_all HK.out.e
  have hle2 := rowL_len hle.1 (fun v hv => ⟨HK.out.ve v hv, hle.2 v hv⟩)
  clear hle
  have HB : Hid (∀ C D : Obj, Below w.heap.size w ((w.alloc C).alloc D)) := Lib.hid (fun C D => by repeat (first | exact Below.refl _ _ | refine Below.alloc ?_ (by simp <;> omega) _))
  go_enter Try.func123, Try.ntmps123
  go_wp2_with fail
  refine (numbers_any A n c l _ 4 4 [x.id.toNat, x.proc.toNat, x.piece.toNat, x.fin.toNat] _ (HR.out.next (HB.out _ _)) RI.out (by simp; omega) (by omega) (by simp) (by simp)).mono ?_; rintro e1 w1 ⟨A1, n1, c1, rfl, o1, b1⟩
  have X1 := Lib.hid ((X0.out.next ((Below.refl _ _).alloc (Nat.le_refl _) _)).next b1)
  have hn1 := own_len o1
  have RD1 := Lib.hid (Rd.of_own o1)
  clear o1 b1 X0 RI hnn
  rw [List.length_append] at hn1
  obtain ⟨⟨⟨x0, x1⟩, x2, x3⟩, x4, x5⟩ := X1.out.cells
  go_wp2_with fail
  refine wp_region_sched [(0, true), (1, true), (2, true), (4, true), (5, true), (3, false), (6, false), (7, true)] (by kernel_rfl) (by kernel_rfl) (fun _ _ d _ _ h => by cases d <;> exact h) ?_
  refine sbelow (w0 := w1) ((Below.refl _ _).drew) (fun B0 => ?_)
  refine swith (fun W hW => ((X1.out.next (bthen B0 hW.out)).cells)) (fun q => ?_)
  repeat (first | (refine sreadx rfl rfl ?_; apply Exists.intro; apply And.intro; (· (intro W hW; first | (go_simp; done) | (go_simp; with_reducible rfl) | (go_simp; rw [if_neg (by omega)]; done) | (go_simp; rw [if_neg (by omega)]; with_reducible rfl))); simp only [Act.put, List.setIfInBounds_toArray, List.set_cons_zero, List.set_cons_succ]) | (refine sskip rfl rfl ?_; simp only [Act.put, List.setIfInBounds_toArray, List.set_cons_zero, List.set_cons_succ]))
  refine scall rfl rfl (fun K hK => ?_)
  go_simp
  refine (rowV_any A1 n1 c1 _ e.A e.n e.c x.emits _ (RD1.out.next B0) (HE.out.next (X1.out.next B0).2) HK.out.e (by omega)).mono ?_; rintro e2 w2 ⟨A2, n2, c2, rfl, o2, b2⟩
  go_wp2_with fail
  refine hK.out _ _ (by exact b2) ?_
  clear hK K
  try simp only [Act.put, List.setIfInBounds_toArray, List.set_cons_zero, List.set_cons_succ]
  replace q := fun (W : World) (hW : Grow w2 W) => q W (Grow.trans (b2) hW)
  have B2 := bthen B0 b2
  have hn2 := own_len o2
  rw [List.length_append, List.length_append] at hn2
  repeat (first | (refine sreadx rfl rfl ?_; apply Exists.intro; apply And.intro; (· (intro W hW; first | (go_simp; done) | (go_simp; with_reducible rfl) | (go_simp; rw [if_neg (by omega)]; done) | (go_simp; rw [if_neg (by omega)]; with_reducible rfl))); simp only [Act.put, List.setIfInBounds_toArray, List.set_cons_zero, List.set_cons_succ]) | (refine sskip rfl rfl ?_; simp only [Act.put, List.setIfInBounds_toArray, List.set_cons_zero, List.set_cons_succ]))
  refine scall rfl rfl (fun K hK => ?_)
  go_simp
  refine (rowV_any A2 n2 c2 _ s.A s.n s.c x.locals _ (Rd.of_own o2) (HS.out.next (X1.out.next B2).2) HK.out.l (by omega)).mono ?_; rintro e3 w3 ⟨A3, n3, c3, rfl, o3, b3⟩
  go_wp2_with fail
  refine hK.out _ _ (by exact b3) ?_
  clear hK K
  try simp only [Act.put, List.setIfInBounds_toArray, List.set_cons_zero, List.set_cons_succ]
  repeat (first | (refine sreadx rfl rfl ?_; apply Exists.intro; apply And.intro; (· (intro W hW; first | (go_simp; done) | (go_simp; with_reducible rfl) | (go_simp; rw [if_neg (by omega)]; done) | (go_simp; rw [if_neg (by omega)]; with_reducible rfl))); simp only [Act.put, List.setIfInBounds_toArray, List.set_cons_zero, List.set_cons_succ]) | (refine sskip rfl rfl ?_; simp only [Act.put, List.setIfInBounds_toArray, List.set_cons_zero, List.set_cons_succ]))
  refine sdone ?_
  have hsz := (X1.out.next B2).2.size
  go_wp2_with fail
  go_ret
  exact ⟨A3, n3, c3, rfl, by rw [insL, ← List.append_assoc, ← List.append_assoc]; exact own_more o3 hsz, (X1.out.next (bthen B2 b3)).2⟩
set_option maxHeartbeats 1000000 in
set_option maxRecDepth 100000 in
theorem putNumber_any (A : Option Addr) (n c : Nat) (l : List UInt8) (x : Int) (w : World) (h : Rd w w.heap.size 1 A n (bv l)) (h0 : 0 ≤ x) (h1 : x ≤ 1073741824) (hn : n ≤ 1002000000) :
    Calls Try.prog 124 #[.slice A n c, .int .i64 x] w (RetB (l ++ uintL x.toNat) w) := by
  have HR := Lib.hid h
  clear h
  have HI := Lib.hid (one_iv w x.toNat (x := x) (g := w.heap.size) (by omega) rfl)
  go_enter Try.func124, Try.ntmps124
  go_wp2_with fail
  refine (numbers_any A n c l (some ⟨w.heap.size, 0, none⟩) 1 1 [x.toNat] _ (HR.out.next ((Below.refl _ _).alloc (Nat.le_refl _) _)) HI.out (by simp; omega) (by omega) (by simp) (by simp)).mono ?_; rintro e w1 ⟨A1, n1, c1, rfl, o1, b1⟩
  go_wp2_with fail
  go_ret
  exact ⟨A1, n1, c1, rfl, by rw [← nums_one]; exact own_more o1 (by simp), ((Below.refl w.heap.size w).alloc (Nat.le_refl _) _).trans (b1.mono (by simp))⟩
set_option maxHeartbeats 1000000 in
set_option maxRecDepth 100000 in
theorem rowI_any (A : Option Addr) (n c : Nat) (l : List UInt8) (A' : Option Addr) (n' c' : Nat) (a : List Ins) (w : World) (h : Rd w w.heap.size 1 A n (bv l)) (h' : IRow w A' n' c' a) (h20 : a.length ≤ 20) (hla : ∀ x ∈ a, IOk x) (hn : n ≤ 800000000) :
    Calls Try.prog 122 #[.slice A n c, .slice A' n' c', .func (.func 123) #[] #[]] w (RetB (l ++ rowIL a) w) := by
  have hl := h'.len
  have hcap := h'.cap
  have hpl : ∀ k, (putIns (a.take k)).length ≤ 802000 := fun k => by
    have := putIns_len (a.take k) (fun v hv => hla v (List.mem_of_mem_take hv))
    have h2 : (a.take k).length ≤ 20 := by simp; omega
    omega
  have hln : l.length = n := by have := h.1; simp at this; omega
  have hu10 := uintL_len10 n' (by omega)
  have HR := Lib.hid h
  have HV := Lib.hid h'
  have HL := Lib.hid hl
  have HLn := Lib.hid hln
  have HP := Lib.hid hpl
  have HK := Lib.hid hla
  have hn20 : n' ≤ 20 := by omega
  clear h h' hl hpl hla hln h20
  have HI : Hid (Rd (w.alloc (.cells #[.int .i64 (n' : Int)] 3)) (w.alloc (.cells #[.int .i64 (n' : Int)] 3)).heap.size 1 (some ⟨w.heap.size, 0, none⟩) 1 (iv [n'])) := Lib.hid (by have := Rd.built w (.int .i64 (n' : Int)) 3; simpa [iv] using this)
  go_enter Try.func122, Try.ntmps122
  go_wp2_with fail
  refine (numbers_any A n c l (some ⟨w.heap.size, 0, none⟩) 1 1 [n'] _ (HR.out.next ((Below.refl _ _).alloc (Nat.le_refl _) _)) HI.out (by simp; omega) (by omega) (by simp) (by simp)).mono ?_; rintro e w1 ⟨A1, n1, c1, rfl, o1, b1⟩
  have HO1 := Lib.hid (own_more o1 (show w.heap.size ≤ (w.alloc (.cells #[.int .i64 (n' : Int)] 3)).heap.size by simp))
  have HB1 := Lib.hid (((Below.refl w.heap.size w).alloc (Nat.le_refl _) (.cells #[.int .i64 (n' : Int)] 3)).trans (b1.mono (by simp)))
  clear o1 b1
  go_wp2_with fail
  go_loopw [0, 8, 16] (fun v _ i wr => ∃ (k : Nat) (A1 : Option Addr) (n1 c1 : Nat), k ≤ n' ∧ i = .int .i64 k ∧ v = .slice A1 n1 c1 ∧ wr.ownsRow w.heap.size 5 1 (.slice A1 n1 c1) n1 (bv ((l ++ uintL n') ++ putIns (a.take k))) ∧ Below w.heap.size w wr) (fun _ _ i _ => n' - (intOf i).toNat)
  case atStart => exact ⟨0, A1, n1, c1, by omega, rfl, rfl, by simpa [putIns, numsL] using HO1.out, HB1.out⟩
  case round =>
    obtain ⟨k, A2, n2, c2, hk, rfl, rfl, ho, hb⟩ := hrel
    clear HO1 HB1
    have hn2 : n2 ≤ 801000000 := by
      have e1 := own_len ho
      have e2 := HP.out k
      have e3 := HLn.out
      simp at e1
      omega
    have HO := Lib.hid ho
    clear ho
    have hbs := hb.size
    by_cases hlt : k < n'
    · have hlt' : k < a.length := by rw [HL.out]; exact hlt
      obtain ⟨b, off, e0, s, rfl, hbl, hv, hw, _, hc⟩ := HV.out.at_ hlt'
      obtain ⟨⟨⟨x0, x1⟩, x2, x3⟩, x4, x5⟩ := hc wr hb
      have hst := Lib.hid (putIns_step hlt')
      have HCO := Lib.hid (HK.out a[k] (List.getElem_mem hlt'))
      have HVr := Lib.hid hv
      have HWr := Lib.hid hw
      clear hc hv hw
      generalize a[k] = x at *
      go_wp2_with fail
      refine (putInst_any A2 n2 c2 ((l ++ uintL n') ++ putIns (a.take k)) x e0 s _ ((Rd.of_own HO.out).next ((Below.refl _ _).alloc (Nat.le_refl _) _)) (HVr.out.next (hb.alloc hbs _)) (HWr.out.next (hb.alloc hbs _)) HCO.out (by omega)).mono ?_; rintro e w3 ⟨A3, n3, c3, rfl, o3, b3⟩
      have HO3 := Lib.hid o3
      have B3 : Below w.heap.size w w3 := (hb.alloc hbs _).trans (b3.mono (by simp; omega))
      clear o3 b3
      go_wp2_with fail
      go_roundw
      case rel => exact ⟨k + 1, A3, n3, c3, by omega, by go_num, rfl, by rw [hst.out, ← List.append_assoc]; exact own_more HO3.out (by simp; omega), B3⟩
      case measure => simp [intOf]; omega
    · obtain rfl : k = n' := by omega
      go_wp2_with fail
      go_ret
      have := HO.out
      rw [← HL.out, List.take_length, List.append_assoc] at this
      rw [HL.out] at this
      exact ⟨A2, n2, c2, rfl, by rw [rowIL, HL.out]; exact this, hb⟩
set_option maxHeartbeats 1000000 in
set_option maxRecDepth 100000 in
theorem rowN_any (A : Option Addr) (n c : Nat) (l : List UInt8) (A' : Option Addr) (n' c' : Nat) (a : List Int) (w : World) (h : Rd w w.heap.size 1 A n (bv l)) (h' : NRow w A' n' c' a) (h20 : a.length ≤ 40) (hla : ∀ x ∈ a, 0 ≤ x ∧ x ≤ 1073741824) (hn : n ≤ 1000000000) :
    Calls Try.prog 121 #[.slice A n c, .slice A' n' c', .func (.func 124) #[] #[]] w (RetB (l ++ rowNL a) w) := by
  have hl := h'.len
  have hcap := h'.cap
  have hpl : ∀ k, (uL (a.take k)).length ≤ 400800 := fun k => by
    have := uL_len (a.take k) (fun v hv => (hla v (List.mem_of_mem_take hv)).2)
    have h2 : (a.take k).length ≤ 40 := by simp; omega
    omega
  have hln : l.length = n := by have := h.1; simp at this; omega
  have hu10 := uintL_len10 n' (by omega)
  have HR := Lib.hid h
  have HV := Lib.hid h'
  have HL := Lib.hid hl
  have HLn := Lib.hid hln
  have HP := Lib.hid hpl
  have HK := Lib.hid hla
  have hn20 : n' ≤ 40 := by omega
  clear h h' hl hpl hla hln h20
  have HI : Hid (Rd (w.alloc (.cells #[.int .i64 (n' : Int)] 3)) (w.alloc (.cells #[.int .i64 (n' : Int)] 3)).heap.size 1 (some ⟨w.heap.size, 0, none⟩) 1 (iv [n'])) := Lib.hid (by have := Rd.built w (.int .i64 (n' : Int)) 3; simpa [iv] using this)
  go_enter Try.func121, Try.ntmps121
  go_wp2_with fail
  refine (numbers_any A n c l (some ⟨w.heap.size, 0, none⟩) 1 1 [n'] _ (HR.out.next ((Below.refl _ _).alloc (Nat.le_refl _) _)) HI.out (by simp; omega) (by omega) (by simp) (by simp)).mono ?_; rintro e w1 ⟨A1, n1, c1, rfl, o1, b1⟩
  have HO1 := Lib.hid (own_more o1 (show w.heap.size ≤ (w.alloc (.cells #[.int .i64 (n' : Int)] 3)).heap.size by simp))
  have HB1 := Lib.hid (((Below.refl w.heap.size w).alloc (Nat.le_refl _) (.cells #[.int .i64 (n' : Int)] 3)).trans (b1.mono (by simp)))
  clear o1 b1
  go_wp2_with fail
  go_loopw [0, 8, 16] (fun v _ i wr => ∃ (k : Nat) (A1 : Option Addr) (n1 c1 : Nat), k ≤ n' ∧ i = .int .i64 k ∧ v = .slice A1 n1 c1 ∧ wr.ownsRow w.heap.size 5 1 (.slice A1 n1 c1) n1 (bv ((l ++ uintL n') ++ uL (a.take k))) ∧ Below w.heap.size w wr) (fun _ _ i _ => n' - (intOf i).toNat)
  case atStart => exact ⟨0, A1, n1, c1, by omega, rfl, rfl, by simpa [uL, numsL] using HO1.out, HB1.out⟩
  case round =>
    obtain ⟨k, A2, n2, c2, hk, rfl, rfl, ho, hb⟩ := hrel
    clear HO1 HB1
    have hn2 : n2 ≤ 1000500000 := by
      have e1 := own_len ho
      have e2 := HP.out k
      have e3 := HLn.out
      simp at e1
      omega
    have HO := Lib.hid ho
    clear ho
    have hbs := hb.size
    by_cases hlt : k < n'
    · have hlt' : k < a.length := by rw [HL.out]; exact hlt
      obtain ⟨b, off, rfl, hbl, _, hc⟩ := HV.out.at_ hlt'
      have x0 := hc wr hb
      have hst := Lib.hid (uL_step hlt')
      have HCO := Lib.hid (HK.out a[k] (List.getElem_mem hlt'))
      clear hc
      generalize a[k] = x at *
      go_wp2_with fail
      refine (putNumber_any A2 n2 c2 ((l ++ uintL n') ++ uL (a.take k)) x _ (Rd.of_own HO.out) HCO.out.1 HCO.out.2 (by omega)).mono ?_; rintro e w3 ⟨A3, n3, c3, rfl, o3, b3⟩
      have HO3 := Lib.hid o3
      have B3 : Below w.heap.size w w3 := hb.trans (b3.mono hbs)
      clear o3 b3
      go_wp2_with fail
      go_roundw
      case rel => exact ⟨k + 1, A3, n3, c3, by omega, by go_num, rfl, by rw [hst.out, ← List.append_assoc]; exact own_more HO3.out hbs, B3⟩
      case measure => simp [intOf]; omega
    · obtain rfl : k = n' := by omega
      go_wp2_with fail
      go_ret
      have := HO.out
      rw [← HL.out, List.take_length, List.append_assoc] at this
      rw [HL.out] at this
      exact ⟨A2, n2, c2, rfl, by rw [rowNL, HL.out]; exact this, hb⟩
end Go.Proofs.Ytpkoijlbbfffiaa.R
namespace Go.Proofs.Ytpkoijlbbfffiaa.R
open Go.RowKit O V

def putImg (m : Img) : List UInt8 := textL m.text ++ (rowCL m.rows ++ (rowIL m.insts ++ rowNL m.order))
/-- What is known of an image that is written. -/
structure MOk (m : Img) : Prop where
  t : m.text.length ≤ 1500
  r : m.rows.length ≤ 20 ∧ ∀ x ∈ m.rows, COk x
  i : m.insts.length ≤ 20 ∧ ∀ x ∈ m.insts, IOk x
  o : m.order.length ≤ 40 ∧ ∀ x ∈ m.order, 0 ≤ x ∧ x ≤ 1073741824
theorem textL_len {l : List UInt8} (h : l.length ≤ 1500) : (textL l).length ≤ 1510 := by
  have := uintL_len10 l.length (by omega)
  unfold textL
  rw [List.length_append]
  omega
theorem rowIL_len {l : List Ins} (h : l.length ≤ 20) (hk : ∀ x ∈ l, IOk x) : (rowIL l).length ≤ 802010 := by
  have h1 := putIns_len l hk
  have h2 := uintL_len10 l.length (by omega)
  unfold rowIL
  rw [List.length_append]
  omega
theorem rowNL_len {l : List Int} (h : l.length ≤ 40) (hk : ∀ x ∈ l, 0 ≤ x ∧ x ≤ 1073741824) : (rowNL l).length ≤ 410 := by
  have h1 := uL_len l (fun x hx => (hk x hx).2)
  have h2 := uintL_len10 l.length (by omega)
  unfold rowNL
  rw [List.length_append]
  omega
theorem putImg_len {m : Img} (h : MOk m) : (putImg m).length ≤ 1300000 := by
  have h1 := textL_len h.t
  have h2 := rowCL_len h.r.1 h.r.2
  have h3 := rowIL_len h.i.1 h.i.2
  have h4 := rowNL_len h.o.1 h.o.2
  unfold putImg
  rw [List.length_append, List.length_append, List.length_append]
  omega
set_option maxHeartbeats 2000000 in
set_option maxRecDepth 100000 in
theorem putImage_any (m : Img) (s : IS) (w : World) (h : ImgAt w m s) (hok : MOk m) : Calls Try.prog 53 #[imv m s] w (RetB (putImg m) w) := by
  obtain ⟨tx, rows, insts, order⟩ := m
  have h1 := textL_len hok.t
  have h2 := rowCL_len hok.r.1 hok.r.2
  have h3 := rowIL_len hok.i.1 hok.i.2
  have ht := hok.t
  dsimp only at h1 h2 h3 ht
  have HR := Lib.hid h
  have HK := Lib.hid hok
  clear h hok
  simp only [imv]
  have X0 : Hid (IBox w ⟨tx, rows, insts, order⟩ s w.heap.size (w.alloc (.cells #[.string ⟨tx.toArray⟩, .slice s.r.A s.r.n s.r.c, .slice s.i.A s.i.n s.i.c, .slice s.o.A s.o.n s.o.c] 76))) := Lib.hid ⟨alloc_at rfl, (Below.refl _ _).alloc (Nat.le_refl _) _⟩
  go_enter Try.func53, Try.ntmps53
  go_wp2_with fail
  obtain ⟨W0, hW0⟩ : ∃ W0, (w.alloc (.cells #[.string ⟨tx.toArray⟩, .slice s.r.A s.r.n s.r.c, .slice s.i.A s.i.n s.i.c, .slice s.o.A s.o.n s.o.c] 76)) = W0 := ⟨_, rfl⟩
  rw [hW0] at X0 ⊢
  clear hW0
  refine wp_region_sched [(0, true), (1, true), (3, true), (4, true), (2, false), (5, false), (6, true)] (by kernel_rfl) (by kernel_rfl) (fun _ _ d _ _ h => by cases d <;> exact h) ?_
  refine sbelow (w0 := W0) ((Below.refl _ _).drew) (fun B0 => ?_)
  refine swith (fun W hW => ((X0.out.next (bthen B0 hW.out)).cells)) (fun q => ?_)
  repeat (first | (refine sreadx rfl rfl ?_; apply Exists.intro; apply And.intro; (· (intro W hW; first | (go_simp; done) | (go_simp; with_reducible rfl) | (go_simp; rw [if_neg (by omega)]; done) | (go_simp; rw [if_neg (by omega)]; with_reducible rfl))); simp only [Act.put, List.setIfInBounds_toArray, List.set_cons_zero, List.set_cons_succ]) | (refine sskip rfl rfl ?_; simp only [Act.put, List.setIfInBounds_toArray, List.set_cons_zero, List.set_cons_succ]))
  refine scall rfl rfl (fun K hK => ?_)
  go_simp
  refine (putText_any none 0 0 [] tx _ Rd.nil_ (by omega)).mono ?_; rintro e w1 ⟨A1, n1, c1, rfl, o1, b1⟩
  go_wp2_with fail
  refine hK.out _ _ (by exact b1) ?_
  clear hK K
  try simp only [Act.put, List.setIfInBounds_toArray, List.set_cons_zero, List.set_cons_succ]
  replace q := fun (W : World) (hW : Grow w1 W) => q W (Grow.trans (b1) hW)
  have B1 := bthen B0 b1
  have hn1 := own_len o1
  rw [List.nil_append] at o1 hn1
  repeat (first | (refine sreadx rfl rfl ?_; apply Exists.intro; apply And.intro; (· (intro W hW; first | (go_simp; done) | (go_simp; with_reducible rfl) | (go_simp; rw [if_neg (by omega)]; done) | (go_simp; rw [if_neg (by omega)]; with_reducible rfl))); simp only [Act.put, List.setIfInBounds_toArray, List.set_cons_zero, List.set_cons_succ]) | (refine sskip rfl rfl ?_; simp only [Act.put, List.setIfInBounds_toArray, List.set_cons_zero, List.set_cons_succ]))
  refine scall rfl rfl (fun K hK => ?_)
  go_simp
  refine (rowC_any A1 n1 c1 _ s.r.A s.r.n s.r.c rows _ (Rd.of_own o1) (HR.out.next (X0.out.next B1).2).r HK.out.r.1 HK.out.r.2 (by omega)).mono ?_; rintro e w2 ⟨A2, n2, c2, rfl, o2, b2⟩
  go_wp2_with fail
  refine hK.out _ _ (by exact b2) ?_
  clear hK K
  try simp only [Act.put, List.setIfInBounds_toArray, List.set_cons_zero, List.set_cons_succ]
  repeat (first | (refine sreadx rfl rfl ?_; apply Exists.intro; apply And.intro; (· (intro W hW; first | (go_simp; done) | (go_simp; with_reducible rfl) | (go_simp; rw [if_neg (by omega)]; done) | (go_simp; rw [if_neg (by omega)]; with_reducible rfl))); simp only [Act.put, List.setIfInBounds_toArray, List.set_cons_zero, List.set_cons_succ]) | (refine sskip rfl rfl ?_; simp only [Act.put, List.setIfInBounds_toArray, List.set_cons_zero, List.set_cons_succ]))
  refine sdone ?_
  have X2 := Lib.hid (X0.out.next (bthen B1 b2))
  have hn2 := own_len o2
  have RD2 := Lib.hid (Rd.of_own o2)
  rw [List.length_append] at hn2
  clear X0 B0 B1 b1 b2 o1 o2 q
  go_wp2_with fail
  refine wp_region_sched [(0, true), (1, true), (2, true), (4, true), (5, true), (3, false), (6, false), (7, true)] (by kernel_rfl) (by kernel_rfl) (fun _ _ d _ _ h => by cases d <;> exact h) ?_
  refine sbelow (w0 := w2) ((Below.refl _ _).drew) (fun B0 => ?_)
  refine swith (fun W hW => ((X2.out.next (bthen B0 hW.out)).cells)) (fun q => ?_)
  repeat (first | (refine sreadx rfl rfl ?_; apply Exists.intro; apply And.intro; (· (intro W hW; first | (go_simp; done) | (go_simp; with_reducible rfl) | (go_simp; rw [if_neg (by omega)]; done) | (go_simp; rw [if_neg (by omega)]; with_reducible rfl))); simp only [Act.put, List.setIfInBounds_toArray, List.set_cons_zero, List.set_cons_succ]) | (refine sskip rfl rfl ?_; simp only [Act.put, List.setIfInBounds_toArray, List.set_cons_zero, List.set_cons_succ]))
  refine scall rfl rfl (fun K hK => ?_)
  go_simp
  refine (rowI_any A2 n2 c2 _ s.i.A s.i.n s.i.c insts _ (RD2.out.next B0) (HR.out.next (X2.out.next B0).2).i HK.out.i.1 HK.out.i.2 (by omega)).mono ?_; rintro e w3 ⟨A3, n3, c3, rfl, o3, b3⟩
  go_wp2_with fail
  refine hK.out _ _ (by exact b3) ?_
  clear hK K
  try simp only [Act.put, List.setIfInBounds_toArray, List.set_cons_zero, List.set_cons_succ]
  replace q := fun (W : World) (hW : Grow w3 W) => q W (Grow.trans (b3) hW)
  have B3 := bthen B0 b3
  have hn3 := own_len o3
  rw [List.length_append, List.length_append] at hn3
  repeat (first | (refine sreadx rfl rfl ?_; apply Exists.intro; apply And.intro; (· (intro W hW; first | (go_simp; done) | (go_simp; with_reducible rfl) | (go_simp; rw [if_neg (by omega)]; done) | (go_simp; rw [if_neg (by omega)]; with_reducible rfl))); simp only [Act.put, List.setIfInBounds_toArray, List.set_cons_zero, List.set_cons_succ]) | (refine sskip rfl rfl ?_; simp only [Act.put, List.setIfInBounds_toArray, List.set_cons_zero, List.set_cons_succ]))
  refine scall rfl rfl (fun K hK => ?_)
  go_simp
  refine (rowN_any A3 n3 c3 _ s.o.A s.o.n s.o.c order _ (Rd.of_own o3) (HR.out.next (X2.out.next B3).2).o HK.out.o.1 HK.out.o.2 (by omega)).mono ?_; rintro e w4 ⟨A4, n4, c4, rfl, o4, b4⟩
  go_wp2_with fail
  refine hK.out _ _ (by exact b4) ?_
  clear hK K
  try simp only [Act.put, List.setIfInBounds_toArray, List.set_cons_zero, List.set_cons_succ]
  repeat (first | (refine sreadx rfl rfl ?_; apply Exists.intro; apply And.intro; (· (intro W hW; first | (go_simp; done) | (go_simp; with_reducible rfl) | (go_simp; rw [if_neg (by omega)]; done) | (go_simp; rw [if_neg (by omega)]; with_reducible rfl))); simp only [Act.put, List.setIfInBounds_toArray, List.set_cons_zero, List.set_cons_succ]) | (refine sskip rfl rfl ?_; simp only [Act.put, List.setIfInBounds_toArray, List.set_cons_zero, List.set_cons_succ]))
  refine sdone ?_
  have hsz := (X2.out.next B3).2.size
  go_wp2_with fail
  go_ret
  exact ⟨A4, n4, c4, rfl, by unfold putImg; rw [← List.append_assoc, ← List.append_assoc]; exact own_more o4 hsz, (X2.out.next (bthen B3 b4)).2⟩
end Go.Proofs.Ytpkoijlbbfffiaa.R
