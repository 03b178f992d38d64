/- The contracts of record's sameInst, SameImage, of slices.EqualFunc at instances and of slices.Equal at numbers. -/
/- The contracts of slices.Equal at numbers, of record.SameImage and of the reference's SameImage. -/
import Derived.Test.YtpkoijlbbfffiaaImgMem
import Derived.Test.YtpkoijlbbfffiaaRecSame
namespace Go.Proofs.Ytpkoijlbbfffiaa.R
open Go.RowKit O V

theorem Ins.same {x y : Ins} (h1 : x.id = y.id) (h2 : x.proc = y.proc) (h3 : x.piece = y.piece) (h4 : x.fin = y.fin) (h5 : x.emits = y.emits) (h6 : x.locals = y.locals) : x = y := by cases x; cases y; simp_all
def sameI (x y : Ins) : Bool := decide (x.id = y.id) && (decide (x.proc = y.proc) && (decide (x.piece = y.piece) && (decide (x.fin = y.fin) && (sameR x.emits y.emits && sameR x.locals y.locals))))
theorem sameI_iff {x y : Ins} : sameI x y = true ↔ x = y := by
  unfold sameI sameR
  simp only [Bool.and_eq_true, decide_eq_true_eq]
  constructor
  · rintro ⟨h1, h2, h3, h4, h5, h6⟩; exact Ins.same h1 h2 h3 h4 h5 h6
  · intro h; subst h; simp
instance : DecidableEq Ins := fun a b => if h : a.id = b.id ∧ a.proc = b.proc ∧ a.piece = b.piece ∧ a.fin = b.fin ∧ a.emits = b.emits ∧ a.locals = b.locals then isTrue (Ins.same h.1 h.2.1 h.2.2.1 h.2.2.2.1 h.2.2.2.2.1 h.2.2.2.2.2) else isFalse (fun e => h (by subst e; exact ⟨rfl, rfl, rfl, rfl, rfl, rfl⟩))
def sameIs (a b : List Ins) : Bool := decide (a = b)
theorem sameIs_len {a b : List Ins} (h : a.length ≠ b.length) : sameIs a b = false := by unfold sameIs; rw [decide_eq_false]; exact fun e => h (by rw [e])
theorem take_sameI {a b : List Ins} {k : Nat} (h1 : k < a.length) (h2 : k < b.length) (h : a.take k = b.take k) (he : sameI a[k] b[k] = true) : a.take (k + 1) = b.take (k + 1) := take_same h1 h2 h (sameI_iff.1 he)
theorem at_neI {a b : List Ins} {k : Nat} (h1 : k < a.length) (h2 : k < b.length) (he : sameI a[k] b[k] = false) : sameIs a b = false := by
  unfold sameIs
  rw [decide_eq_false]
  intro e
  subst e
  rw [sameI_iff.2 rfl] at he
  cases he
theorem sameIs_end {a b : List Ins} {n : Nat} (h : a.take n = b.take n) (ha : a.length = n) (hb : b.length = n) : sameIs a b = true := by
  unfold sameIs
  rw [decide_eq_true]
  rw [← ha, List.take_length] at h
  rw [h, ha, ← hb, List.take_length]
set_option maxHeartbeats 1000000 in
set_option maxRecDepth 100000 in
theorem sameInst_any (x y : Ins) (s s' t t' : Sl) (w : World) (h : VRow w s.A s.n s.c x.emits) (h2 : VRow w s'.A s'.n s'.c x.locals) (h' : VRow w t.A t.n t.c y.emits) (h2' : VRow w t'.A t'.n t'.c y.locals) :
    Calls Try.prog 119 #[inv x s s', inv y t t'] w fun e w' => e = .returned (.bool (sameI x y)) ∧ Below w.heap.size w w' := by
  obtain ⟨i1, p1, c1, f1, e1, l1⟩ := x
  obtain ⟨i2, p2, c2, f2, e2, l2⟩ := y
  have HV := Lib.hid h
  have HW := Lib.hid h2
  have HV' := Lib.hid h'
  have HW' := Lib.hid h2'
  clear h h2 h' h2'
  simp only [inv]
  have X0 : Hid (InsBox w ⟨i1, p1, c1, f1, e1, l1⟩ s s' w.heap.size ((w.alloc (.cells #[.int .i64 i1, .int .i64 p1, .int .i64 c1, .int .i64 f1, .slice s.A s.n s.c, .slice s'.A s'.n s'.c] 143)).alloc (.cells #[.int .i64 i2, .int .i64 p2, .int .i64 c2, .int .i64 f2, .slice t.A t.n t.c, .slice t'.A t'.n t'.c] 143))) :=
    Lib.hid ⟨alloc_old' (alloc_at rfl), ((Below.refl _ _).alloc (Nat.le_refl _) _).alloc (by simp) _⟩
  have Y0 : Hid (InsBox w ⟨i2, p2, c2, f2, e2, l2⟩ t t' (w.heap.size + 1) ((w.alloc (.cells #[.int .i64 i1, .int .i64 p1, .int .i64 c1, .int .i64 f1, .slice s.A s.n s.c, .slice s'.A s'.n s'.c] 143)).alloc (.cells #[.int .i64 i2, .int .i64 p2, .int .i64 c2, .int .i64 f2, .slice t.A t.n t.c, .slice t'.A t'.n t'.c] 143))) :=
    Lib.hid ⟨alloc_at (by simp), ((Below.refl _ _).alloc (Nat.le_refl _) _).alloc (by simp) _⟩
  by_cases q1 : i1 = i2
  · subst q1
    by_cases q2 : p1 = p2
    · subst q2
      by_cases q3 : c1 = c2
      · subst q3
        by_cases q4 : f1 = f2
        · subst q4
          go_enter Try.func119, Try.ntmps119
          go_wp2_with fail
          refine (equal_any s.A t.A s.n s.c t.n t.c e1 e2 _ (HV.out.next X0.out.2) (HV'.out.next X0.out.2)).mono ?_; rintro e w1 ⟨rfl, b1⟩
          have X1 := Lib.hid (X0.out.next b1)
          have Y1 := Lib.hid (Y0.out.next b1)
          clear b1 X0 Y0
          cases r1 : sameR e1 e2
          · go_wp2_with fail
            go_ret
            exact ⟨by simp [sameI, r1], X1.out.2⟩
          obtain ⟨⟨⟨x0, x1⟩, x2, x3⟩, x4, x5⟩ := X1.out.cells
          obtain ⟨⟨⟨y0, y1⟩, y2, y3⟩, y4, y5⟩ := Y1.out.cells
          go_wp2_with fail
          refine (equal_any s'.A t'.A s'.n s'.c t'.n t'.c l1 l2 _ (HW.out.next X1.out.2) (HW'.out.next X1.out.2)).mono ?_; rintro e w2 ⟨rfl, b2⟩
          clear x0 x1 x2 x3 x4 x5 y0 y1 y2 y3 y4 y5
          have X2 := Lib.hid (X1.out.next b2)
          clear b2 X1 Y1
          cases r2 : sameR l1 l2
          · go_wp2_with fail
            go_ret
            exact ⟨by simp [sameI, r1, r2], X2.out.2⟩
          · go_wp2_with fail
            go_ret
            exact ⟨by simp [sameI, r1, r2], X2.out.2⟩
        · have d : (f1 == f2) = false := by simpa using q4
          go_enter Try.func119, Try.ntmps119
          go_wp2_with fail
          go_ret
          exact ⟨by simp [sameI, q4], X0.out.2⟩
      · have d : (c1 == c2) = false := by simpa using q3
        go_enter Try.func119, Try.ntmps119
        go_wp2_with fail
        go_ret
        exact ⟨by simp [sameI, q3], X0.out.2⟩
    · have d : (p1 == p2) = false := by simpa using q2
      go_enter Try.func119, Try.ntmps119
      go_wp2_with fail
      go_ret
      exact ⟨by simp [sameI, q2], X0.out.2⟩
  · have d : (i1 == i2) = false := by simpa using q1
    go_enter Try.func119, Try.ntmps119
    go_wp2_with fail
    go_ret
    exact ⟨by simp [sameI, q1], X0.out.2⟩
set_option maxHeartbeats 1000000 in
set_option maxRecDepth 100000 in
theorem equalI_any (A A' : Option Addr) (n c n' c' : Nat) (a b : List Ins) (w : World) (h : IRow w A n c a) (h' : IRow w A' n' c' b) :
    Calls Try.prog 118 #[.slice A n c, .slice A' n' c', .func (.func 119) #[] #[]] w fun e w' => e = .returned (.bool (sameIs a b)) ∧ Below w.heap.size w w' := by
  have hl := h.len
  have hl' := h'.len
  have hcap := h.cap
  have hcap' := h'.cap
  by_cases hne : n = n'
  · subst hne
    have HV := Lib.hid h
    have HV' := Lib.hid h'
    have HL := Lib.hid hl
    have HL' := Lib.hid hl'
    clear h h' hl hl'
    go_enter Try.func118, Try.ntmps118
    go_wp2_with fail
    go_loopw [7, 8, 9, 17] (fun _ _ _ i wr => ∃ k : Nat, k ≤ n ∧ i = .int .i64 k ∧ Hid (a.take k = b.take k) ∧ Below w.heap.size w wr) (fun _ _ _ i _ => n - (intOf i).toNat)
    case atStart => exact ⟨0, by omega, rfl, Lib.hid (by simp), Below.refl _ _⟩
    case round =>
      obtain ⟨k, hk, rfl, H, hb⟩ := hrel
      by_cases hlt : k < n
      · have hlt' : k < a.length := by rw [HL.out]; exact hlt
        have hlt2 : k < b.length := by rw [HL'.out]; exact hlt
        obtain ⟨b1, off, s, s', rfl, hbl, hv, hw, _, hc⟩ := HV.out.at_ hlt'
        obtain ⟨b2, off2, t, t', rfl, hbl2, hv2, hw2, _, hc2⟩ := HV'.out.at_ hlt2
        obtain ⟨⟨⟨c0, c1⟩, c2, c3⟩, c4, c5⟩ := hc wr hb
        have hki : (k : Int) < (n : Int) := by omega
        have hst := Lib.hid (take_sameI hlt' hlt2 H.out)
        have hno := Lib.hid (at_neI hlt' hlt2)
        have HVr := Lib.hid hv
        have HVr2 := Lib.hid hv2
        have HWr := Lib.hid hw
        have HWr2 := Lib.hid hw2
        have HC2 := Lib.hid hc2
        have hbs := hb.size
        clear hc hc2 hv hv2 hw hw2
        generalize a[k] = x at *
        generalize b[k] = y at *
        obtain ⟨⟨⟨d0, d1⟩, d2, d3⟩, d4, d5⟩ := HC2.out (wr.alloc (.cells #[.int .i64 x.id, .int .i64 x.proc, .int .i64 x.piece, .int .i64 x.fin, .slice s.A s.n s.c, .slice s'.A s'.n s'.c] 143)) (hb.alloc hbs _)
        go_wp2_with fail
        have HB : Hid (∀ C D : Obj, Below w.heap.size w ((wr.alloc C).alloc D)) := Lib.hid (fun C D => (hb.alloc hbs _).alloc (by simp; omega) _)
        refine (sameInst_any x y s s' t t' _ (HVr.out.next (HB.out _ _)) (HWr.out.next (HB.out _ _)) (HVr2.out.next (HB.out _ _)) (HWr2.out.next (HB.out _ _))).mono ?_; rintro e w2 ⟨rfl, bb⟩
        have B2 : Below w.heap.size w w2 := (HB.out _ _).trans (bb.mono (HB.out _ _).size)
        cases hq : sameI x y
        · have hno' := Lib.hid (hno.out hq)
          go_wp2_with fail
          go_ret
          exact ⟨by rw [hno'.out]; rfl, B2⟩
        · have hst' := Lib.hid (hst.out hq)
          go_wp2_with fail
          go_roundw
          case rel => exact ⟨k + 1, by omega, by go_num, hst', B2⟩
          case measure => simp [intOf]; omega
      · obtain rfl : k = n := by omega
        go_wp2_with fail
        go_ret
        exact ⟨by rw [sameIs_end H.out HL.out HL'.out]; rfl, hb⟩
  · have hr : Hid (sameIs a b = false) := Lib.hid (sameIs_len (by omega))
    have d1 : ((n : Int) != (n' : Int)) = true := by simp; omega
    have d2 : ((n : Int) == (n' : Int)) = false := by simp; omega
    clear hl hl'
    go_enter Try.func118, Try.ntmps118
    go_wp2_with fail
    go_ret
    exact ⟨by rw [hr.out]; rfl, Below.refl _ _⟩
end Go.Proofs.Ytpkoijlbbfffiaa.R
namespace Go.Proofs.Ytpkoijlbbfffiaa.R
open Go.RowKit O V

def sameN (a b : List Int) : Bool := decide (a = b)
theorem sameN_len {a b : List Int} (h : a.length ≠ b.length) : sameN a b = false := by unfold sameN; rw [decide_eq_false]; exact fun e => h (by rw [e])
theorem at_neN {a b : List Int} {k : Nat} (h1 : k < a.length) (h2 : k < b.length) (he : a[k] ≠ b[k]) : sameN a b = false := by
  unfold sameN; rw [decide_eq_false]; intro e; subst e; exact he rfl
theorem sameN_end {a b : List Int} {n : Nat} (h : a.take n = b.take n) (ha : a.length = n) (hb : b.length = n) : sameN a b = true := by
  unfold sameN
  rw [decide_eq_true]
  rw [← ha, List.take_length] at h
  rw [h, ha, ← hb, List.take_length]
set_option maxHeartbeats 1000000 in
set_option maxRecDepth 100000 in
theorem equalN_any (A A' : Option Addr) (n c n' c' : Nat) (a b : List Int) (w : World) (h : NRow w A n c a) (h' : NRow w A' n' c' b) :
    Calls Try.prog 120 #[.slice A n c, .slice A' n' c'] w fun e w' => e = .returned (.bool (sameN a b)) ∧ Below w.heap.size w w' := by
  have hl := h.len
  have hl' := h'.len
  have hcap := h.cap
  have hcap' := h'.cap
  by_cases hne : n = n'
  · subst hne
    have HV := Lib.hid h
    have HV' := Lib.hid h'
    have HL := Lib.hid hl
    have HL' := Lib.hid hl'
    clear h h' hl hl'
    go_enter Try.func120, Try.ntmps120
    go_wp2_with fail
    go_loopw [5, 13] (fun _ i wr => ∃ k : Nat, k ≤ n ∧ i = .int .i64 k ∧ Hid (a.take k = b.take k) ∧ Below w.heap.size w wr) (fun _ i _ => n - (intOf i).toNat)
    case atStart => exact ⟨0, by omega, rfl, Lib.hid (by simp), Below.refl _ _⟩
    case round =>
      obtain ⟨k, hk, rfl, H, hb⟩ := hrel
      by_cases hlt : k < n
      · have hlt' : k < a.length := by rw [HL.out]; exact hlt
        have hlt2 : k < b.length := by rw [HL'.out]; exact hlt
        obtain ⟨b1, off, rfl, hbl, ho, hc⟩ := HV.out.at_ hlt'
        obtain ⟨b2, off2, rfl, hbl2, ho2, hc2⟩ := HV'.out.at_ hlt2
        have HC := Lib.hid hc
        have HC2 := Lib.hid hc2
        have hst := Lib.hid (take_same hlt' hlt2 H.out)
        have hno := Lib.hid (at_neN hlt' hlt2)
        clear hc hc2 ho ho2
        generalize a[k] = x at *
        generalize b[k] = y at *
        have hki : (k : Int) < (n : Int) := by omega
        by_cases he : x = y
        · subst he
          have hst' := Lib.hid (hst.out rfl)
          go_wp2_with fail
          refine wp_region_sched [(0, true), (1, true), (2, true), (3, true), (4, true), (5, true), (6, true), (7, true), (8, true)] (by kernel_rfl) (by kernel_rfl) (fun _ _ d _ _ h => by cases d <;> exact h) ?_
          refine swith (fun W hW => (HC.out W (hb.drew.trans (hW.out.mono hb.size)))) (fun q1 => ?_)
          refine swith (fun W hW => (HC2.out W (hb.drew.trans (hW.out.mono hb.size)))) (fun q2 => ?_)
          repeat (first | (refine sreadx rfl rfl ?_; apply Exists.intro; apply And.intro; (· (intro W hW; first | (go_simp; done) | (go_simp; with_reducible rfl) | (go_simp; rw [if_neg (by omega)]; done) | (go_simp; rw [if_neg (by omega)]; with_reducible rfl))); simp only [Act.put, List.setIfInBounds_toArray, List.set_cons_zero, List.set_cons_succ]) | (refine sskip rfl rfl ?_; simp only [Act.put, List.setIfInBounds_toArray, List.set_cons_zero, List.set_cons_succ]))
          refine sdone ?_
          go_wp2_with fail
          go_roundw
          case rel => exact ⟨k + 1, by omega, by go_num, hst', hb.drew⟩
          case measure => simp [intOf]; omega
        · have hno' := Lib.hid (hno.out he)
          have qn : (x != y) = true := by simpa using he
          have qn2 : (x == y) = false := by simpa using he
          go_wp2_with fail
          refine wp_region_sched [(0, true), (1, true), (2, true), (3, true), (4, true), (5, true), (6, true), (7, true), (8, true)] (by kernel_rfl) (by kernel_rfl) (fun _ _ d _ _ h => by cases d <;> exact h) ?_
          refine swith (fun W hW => (HC.out W (hb.drew.trans (hW.out.mono hb.size)))) (fun q1 => ?_)
          refine swith (fun W hW => (HC2.out W (hb.drew.trans (hW.out.mono hb.size)))) (fun q2 => ?_)
          repeat (first | (refine sreadx rfl rfl ?_; apply Exists.intro; apply And.intro; (· (intro W hW; first | (go_simp; done) | (go_simp; with_reducible rfl) | (go_simp; rw [if_neg (by omega)]; done) | (go_simp; rw [if_neg (by omega)]; with_reducible rfl))); simp only [Act.put, List.setIfInBounds_toArray, List.set_cons_zero, List.set_cons_succ]) | (refine sskip rfl rfl ?_; simp only [Act.put, List.setIfInBounds_toArray, List.set_cons_zero, List.set_cons_succ]))
          refine sdone ?_
          go_wp2_with fail
          go_ret
          exact ⟨by rw [hno'.out]; rfl, hb.drew⟩
      · obtain rfl : k = n := by omega
        go_wp2_with fail
        go_ret
        exact ⟨by rw [sameN_end H.out HL.out HL'.out]; rfl, hb⟩
  · have hr : Hid (sameN a b = false) := Lib.hid (sameN_len (by omega))
    have d1 : ((n : Int) != (n' : Int)) = true := by simp; omega
    have d2 : ((n : Int) == (n' : Int)) = false := by simp; omega
    clear hl hl'
    go_enter Try.func120, Try.ntmps120
    go_wp2_with fail
    go_ret
    exact ⟨by rw [hr.out]; rfl, Below.refl _ _⟩
def sameM (x y : Img) : Bool := decide (x.text = y.text) && (sameH x.rows y.rows && (sameIs x.insts y.insts && sameN x.order y.order))
theorem sameM_iff {x y : Img} : sameM x y = true ↔ x = y := by
  unfold sameM sameH sameIs sameN
  simp only [Bool.and_eq_true, decide_eq_true_eq]
  obtain ⟨a, b, c, d⟩ := x
  obtain ⟨a', b', c', d'⟩ := y
  constructor
  · rintro ⟨h1, h2, h3, h4⟩; simp_all
  · intro h; injection h with h1 h2 h3 h4; exact ⟨h1, h2, h3, h4⟩
set_option maxHeartbeats 2000000 in
set_option maxRecDepth 100000 in
theorem sameImage_any (x y : Img) (s t : IS) (w : World) (h : ImgAt w x s) (h' : ImgAt w y t) : Calls Try.prog 50 #[imv x s, imv y t] w fun e w' => e = .returned (.bool (sameM x y)) ∧ Below w.heap.size w w' := by
  obtain ⟨tx1, r1, i1, o1⟩ := x
  obtain ⟨tx2, r2, i2, o2⟩ := y
  have HR := Lib.hid h
  have HR' := Lib.hid h'
  clear h h'
  simp only [imv]
  have X0 : Hid (IBox w ⟨tx1, r1, i1, o1⟩ s w.heap.size ((w.alloc (.cells #[.string ⟨tx1.toArray⟩, .slice s.r.A s.r.n s.r.c, .slice s.i.A s.i.n s.i.c, .slice s.o.A s.o.n s.o.c] 76)).alloc (.cells #[.string ⟨tx2.toArray⟩, .slice t.r.A t.r.n t.r.c, .slice t.i.A t.i.n t.i.c, .slice t.o.A t.o.n t.o.c] 76))) := Lib.hid ⟨alloc_old' (alloc_at rfl), ((Below.refl _ _).alloc (Nat.le_refl _) _).alloc (by simp) _⟩
  have Y0 : Hid (IBox w ⟨tx2, r2, i2, o2⟩ t (w.heap.size + 1) ((w.alloc (.cells #[.string ⟨tx1.toArray⟩, .slice s.r.A s.r.n s.r.c, .slice s.i.A s.i.n s.i.c, .slice s.o.A s.o.n s.o.c] 76)).alloc (.cells #[.string ⟨tx2.toArray⟩, .slice t.r.A t.r.n t.r.c, .slice t.i.A t.i.n t.i.c, .slice t.o.A t.o.n t.o.c] 76))) := Lib.hid ⟨alloc_at (by simp), X0.out.2⟩
  by_cases q0 : tx1 = tx2
  · subst q0
    go_enter Try.func50, Try.ntmps50
    go_wp2_with fail
    refine (equalH_any s.r.A t.r.A s.r.n s.r.c t.r.n t.r.c r1 r2 _ (HR.out.next X0.out.2).r (HR'.out.next X0.out.2).r).mono ?_; rintro e w1 ⟨rfl, b1⟩
    have X1 := Lib.hid (X0.out.next b1)
    have Y1 := Lib.hid (Y0.out.next b1)
    clear b1 X0 Y0
    cases e1 : sameH r1 r2
    · go_wp2_with fail
      go_ret
      exact ⟨by simp [sameM, e1], X1.out.2⟩
    obtain ⟨⟨x0, x1⟩, x2, x3⟩ := X1.out.cells
    obtain ⟨⟨y0, y1⟩, y2, y3⟩ := Y1.out.cells
    go_wp2_with fail
    refine (equalI_any s.i.A t.i.A s.i.n s.i.c t.i.n t.i.c i1 i2 _ (HR.out.next X1.out.2).i (HR'.out.next X1.out.2).i).mono ?_; rintro e w2 ⟨rfl, b2⟩
    clear x0 x1 x2 x3 y0 y1 y2 y3
    have X2 := Lib.hid (X1.out.next b2)
    have Y2 := Lib.hid (Y1.out.next b2)
    clear b2 X1 Y1
    cases e2 : sameIs i1 i2
    · go_wp2_with fail
      go_ret
      exact ⟨by simp [sameM, e1, e2], X2.out.2⟩
    obtain ⟨⟨x0, x1⟩, x2, x3⟩ := X2.out.cells
    obtain ⟨⟨y0, y1⟩, y2, y3⟩ := Y2.out.cells
    go_wp2_with fail
    refine (equalN_any s.o.A t.o.A s.o.n s.o.c t.o.n t.o.c o1 o2 _ (HR.out.next X2.out.2).o (HR'.out.next X2.out.2).o).mono ?_; rintro e w3 ⟨rfl, b3⟩
    clear x0 x1 x2 x3 y0 y1 y2 y3
    have X3 := Lib.hid (X2.out.next b3)
    clear b3 X2 Y2
    cases e3 : sameN o1 o2
    · go_wp2_with fail
      go_ret
      exact ⟨by simp [sameM, e1, e2, e3], X3.out.2⟩
    · go_wp2_with fail
      go_ret
      exact ⟨by simp [sameM, e1, e2, e3], X3.out.2⟩
  · have d : (tx1 == tx2) = false := by simpa using q0
    go_enter Try.func50, Try.ntmps50
    go_wp2_with fail
    go_ret
    exact ⟨by simp [sameM, q0], X0.out.2⟩
theorem sameM_text {x y : Img} (h : x.text ≠ y.text) : sameM x y = false := by simp [sameM, h]
theorem sameM_rows {x y : Img} (h : sameH x.rows y.rows = false) : sameM x y = false := by simp [sameM, h]
theorem sameM_insts {x y : Img} (h : sameIs x.insts y.insts = false) : sameM x y = false := by simp [sameM, h]
theorem sameM_order {x y : Img} (h : sameN x.order y.order = false) : sameM x y = false := by simp [sameM, h]
theorem sameM_yes {x y : Img} (h1 : x.text = y.text) (h2 : sameH x.rows y.rows = true) (h3 : sameIs x.insts y.insts = true) (h4 : sameN x.order y.order = true) : sameM x y = true := by simp [sameM, h1, h2, h3, h4]
set_option maxHeartbeats 4000000 in
set_option maxRecDepth 100000 in
theorem rsameImage_any (x y : Img) (s t : IS) (w : World) (h : ImgAt w x s) (h' : ImgAt w y t) : Calls Try.prog 51 #[imv x s, imv y t] w fun e w' => e = .returned (.bool (sameM x y)) ∧ Below w.heap.size w w' := by
  obtain ⟨tx1, r1, i1, o1⟩ := x
  obtain ⟨tx2, r2, i2, o2⟩ := y
  have li := h.i.len
  have li' := h'.i.len
  have lo := h.o.len
  have lo' := h'.o.len
  have ci := h.i.cap
  have ci' := h'.i.cap
  have co := h.o.cap
  have co' := h'.o.cap
  obtain ⟨sr, ⟨A2, n2, c2⟩, ⟨A3, n3, c3⟩⟩ := s
  obtain ⟨tr, ⟨B2, m2, d2⟩, ⟨B3, m3, d3⟩⟩ := t
  dsimp only at li li' lo lo' ci ci' co co'
  have HR := Lib.hid h
  have HR' := Lib.hid h'
  clear h h'
  simp only [imv]
  have X0 : Hid (IBox w ⟨tx1, r1, i1, o1⟩ ⟨sr, ⟨A2, n2, c2⟩, ⟨A3, n3, c3⟩⟩ w.heap.size ((w.alloc (.cells #[.string ⟨tx1.toArray⟩, .slice sr.A sr.n sr.c, .slice A2 n2 c2, .slice A3 n3 c3] 76)).alloc (.cells #[.string ⟨tx2.toArray⟩, .slice tr.A tr.n tr.c, .slice B2 m2 d2, .slice B3 m3 d3] 76))) := Lib.hid ⟨alloc_old' (alloc_at rfl), ((Below.refl _ _).alloc (Nat.le_refl _) _).alloc (by simp) _⟩
  have Y0 : Hid (IBox w ⟨tx2, r2, i2, o2⟩ ⟨tr, ⟨B2, m2, d2⟩, ⟨B3, m3, d3⟩⟩ (w.heap.size + 1) ((w.alloc (.cells #[.string ⟨tx1.toArray⟩, .slice sr.A sr.n sr.c, .slice A2 n2 c2, .slice A3 n3 c3] 76)).alloc (.cells #[.string ⟨tx2.toArray⟩, .slice tr.A tr.n tr.c, .slice B2 m2 d2, .slice B3 m3 d3] 76))) := Lib.hid ⟨alloc_at (by simp), X0.out.2⟩
  by_cases q0 : tx1 = tx2
  · subst q0
    cases e1 : sameH r1 r2
    · have hm := Lib.hid (sameM_rows (x := ⟨tx1, r1, i1, o1⟩) (y := ⟨tx1, r2, i2, o2⟩) e1)
      clear li li' lo lo'
      go_enter Try.func51, Try.ntmps51
      go_wp2_with fail
      refine (rsameH_any sr.A tr.A sr.n sr.c tr.n tr.c r1 r2 _ (HR.out.next X0.out.2).r (HR'.out.next X0.out.2).r).mono ?_; rintro e w1 ⟨rfl, b1⟩
      have X1 := Lib.hid (X0.out.next b1)
      rw [e1]
      go_wp2_with fail
      go_ret
      exact ⟨by rw [hm.out]; rfl, X1.out.2⟩
    by_cases q1 : n2 = m2
    · subst q1
      by_cases q2 : n3 = m3
      · subst q2
        have HM := Lib.hid (fun h => sameM_insts (x := ⟨tx1, r1, i1, o1⟩) (y := ⟨tx1, r2, i2, o2⟩) h)
        have HN := Lib.hid (fun h => sameM_order (x := ⟨tx1, r1, i1, o1⟩) (y := ⟨tx1, r2, i2, o2⟩) h)
        have HY := Lib.hid (fun h h' => sameM_yes (x := ⟨tx1, r1, i1, o1⟩) (y := ⟨tx1, r2, i2, o2⟩) rfl e1 h h')
        have LI := Lib.hid li
        have LI' := Lib.hid li'
        have LO := Lib.hid lo
        have LO' := Lib.hid lo'
        clear li li' lo lo'
        generalize sameM ⟨tx1, r1, i1, o1⟩ ⟨tx1, r2, i2, o2⟩ = res at *
        go_enter Try.func51, Try.ntmps51
        go_wp2_with fail
        refine (rsameH_any sr.A tr.A sr.n sr.c tr.n tr.c r1 r2 _ (HR.out.next X0.out.2).r (HR'.out.next X0.out.2).r).mono ?_; rintro e w1 ⟨rfl, b1⟩
        have X1 := Lib.hid (X0.out.next b1)
        have Y1 := Lib.hid (Y0.out.next b1)
        clear b1 X0 Y0
        rw [e1]
        obtain ⟨⟨x0, x1⟩, x2, x3⟩ := X1.out.cells
        obtain ⟨⟨y0, y1⟩, y2, y3⟩ := Y1.out.cells
        go_wp2_with fail
        clear x0 x1 x2 x3 y0 y1 y2 y3
        go_loopw [5, 6, 7, 43] (fun _ _ _ i wr => ∃ k : Nat, k ≤ n2 ∧ i = .int .i64 k ∧ Hid (i1.take k = i2.take k) ∧ IBox w ⟨tx1, r1, i1, o1⟩ ⟨sr, ⟨A2, n2, c2⟩, ⟨A3, n3, c3⟩⟩ w.heap.size wr ∧ IBox w ⟨tx1, r2, i2, o2⟩ ⟨tr, ⟨B2, n2, d2⟩, ⟨B3, n3, d3⟩⟩ (w.heap.size + 1) wr) (fun _ _ _ i _ => n2 - (intOf i).toNat)
        case atStart => exact ⟨0, by omega, rfl, Lib.hid (by simp), X1.out, Y1.out⟩
        case round =>
          obtain ⟨k, hk, rfl, H, hX, hY⟩ := hrel
          clear X1 Y1
          have hb := hX.2
          have hbs := hb.size
          obtain ⟨⟨x0, x1⟩, x2, x3⟩ := hX.cells
          obtain ⟨⟨y0, y1⟩, y2, y3⟩ := hY.cells
          have HX := Lib.hid hX
          have HYb := Lib.hid hY
          clear hX hY
          by_cases hlt : k < n2
          · have hlt' : k < i1.length := by rw [LI.out]; exact hlt
            have hlt2 : k < i2.length := by rw [LI'.out]; exact hlt
            obtain ⟨b1, off, p, p', hA, hbl, hv, hw, _, hc⟩ := HR.out.i.at_ hlt'
            obtain ⟨b2, off2, u, u', hA2, hbl2, hv2, hw2, _, hc2⟩ := HR'.out.i.at_ hlt2
            have hA : A2 = some ⟨b1, off, none⟩ := hA
            have hA2 : B2 = some ⟨b2, off2, none⟩ := hA2
            subst hA hA2
            obtain ⟨⟨⟨c0, c1⟩, c2', c3'⟩, c4, c5⟩ := hc wr hb
            have hki : (k : Int) < (n2 : Int) := by omega
            have hst := Lib.hid (take_sameI hlt' hlt2 H.out)
            have hno := Lib.hid (at_neI hlt' hlt2)
            have HVr := Lib.hid hv
            have HVr2 := Lib.hid hv2
            have HWr := Lib.hid hw
            have HWr2 := Lib.hid hw2
            have HC2 := Lib.hid hc2
            clear hc hc2 hv hv2 hw hw2
            generalize i1[k] = x at *
            generalize i2[k] = y at *
            obtain ⟨f1, p1, g1, z1, em1, l1⟩ := x
            obtain ⟨f2, p2, g2, z2, em2, l2⟩ := y
            dsimp only at c0 c1 c2' c3' c4 c5
            have hm1 : Below wr.heap.size wr (wr.alloc (.cells #[.int .i64 f1, .int .i64 p1, .int .i64 g1, .int .i64 z1, .slice p.A p.n p.c, .slice p'.A p'.n p'.c] 143)) := (Below.refl _ _).alloc (Nat.le_refl _) _
            obtain ⟨⟨⟨d0, d1⟩, d2', d3'⟩, d4, d5⟩ := HC2.out _ (hb.trans (hm1.mono hbs))
            obtain ⟨⟨v0, v1⟩, v2, v3⟩ := (HYb.out.next hm1).cells
            dsimp only at d0 d1 d2' d3' d4 d5
            have Z0 : Hid (InsBox w ⟨f1, p1, g1, z1, em1, l1⟩ p p' wr.heap.size ((wr.alloc (.cells #[.int .i64 f1, .int .i64 p1, .int .i64 g1, .int .i64 z1, .slice p.A p.n p.c, .slice p'.A p'.n p'.c] 143)).alloc (.cells #[.int .i64 f2, .int .i64 p2, .int .i64 g2, .int .i64 z2, .slice u.A u.n u.c, .slice u'.A u'.n u'.c] 143))) := Lib.hid ⟨alloc_old' (alloc_at rfl), (hb.alloc hbs _).alloc (by simp; omega) _⟩
            have T0 : Hid (InsBox w ⟨f2, p2, g2, z2, em2, l2⟩ u u' (wr.heap.size + 1) ((wr.alloc (.cells #[.int .i64 f1, .int .i64 p1, .int .i64 g1, .int .i64 z1, .slice p.A p.n p.c, .slice p'.A p'.n p'.c] 143)).alloc (.cells #[.int .i64 f2, .int .i64 p2, .int .i64 g2, .int .i64 z2, .slice u.A u.n u.c, .slice u'.A u'.n u'.c] 143))) := Lib.hid ⟨alloc_at (by simp), Z0.out.2⟩
            have XX : Hid (∀ W, Below wr.heap.size wr W → IBox w ⟨tx1, r1, i1, o1⟩ ⟨sr, ⟨some ⟨b1, off, none⟩, n2, c2⟩, ⟨A3, n3, c3⟩⟩ w.heap.size W ∧ IBox w ⟨tx1, r2, i2, o2⟩ ⟨tr, ⟨some ⟨b2, off2, none⟩, n2, d2⟩, ⟨B3, n3, d3⟩⟩ (w.heap.size + 1) W) := Lib.hid (fun W b => ⟨HX.out.next b, HYb.out.next b⟩)
            have B2' : Hid (Below wr.heap.size wr ((wr.alloc (.cells #[.int .i64 f1, .int .i64 p1, .int .i64 g1, .int .i64 z1, .slice p.A p.n p.c, .slice p'.A p'.n p'.c] 143)).alloc (.cells #[.int .i64 f2, .int .i64 p2, .int .i64 g2, .int .i64 z2, .slice u.A u.n u.c, .slice u'.A u'.n u'.c] 143))) := Lib.hid (hm1.alloc (by simp) _)
            clear hm1 HX HYb HC2
            by_cases q1 : f1 = f2
            · subst q1
              by_cases q2 : p1 = p2
              · subst q2
                by_cases q3 : g1 = g2
                · subst q3
                  by_cases q4 : z1 = z2
                  · subst q4
                    go_wp2_with fail
                    refine (rsame_any p.A u.A p.n p.c u.n u.c em1 em2 _ (HVr.out.next Z0.out.2) (HVr2.out.next Z0.out.2)).mono ?_; rintro e w5 ⟨rfl, b5⟩
                    have Z1 := Lib.hid (Z0.out.next b5)
                    have T1 := Lib.hid (T0.out.next b5)
                    have B5 := Lib.hid (bthen B2'.out b5)
                    clear b5 Z0 T0 B2' c0 c1 c2' c3' c4 c5 d0 d1 d2' d3' d4 d5 x0 x1 x2 x3 y0 y1 y2 y3 v0 v1 v2 v3
                    cases e5 : sameR em1 em2
                    · have hno' := Lib.hid (hno.out (by simp [sameI, e5]))
                      go_wp2_with fail
                      go_ret
                      exact ⟨by rw [(HM.out hno'.out)]; rfl, Z1.out.2⟩
                    obtain ⟨⟨⟨c0, c1⟩, c2', c3'⟩, c4, c5⟩ := Z1.out.cells
                    obtain ⟨⟨⟨d0, d1⟩, d2', d3'⟩, d4, d5⟩ := T1.out.cells
                    go_wp2_with fail
                    refine (rsame_any p'.A u'.A p'.n p'.c u'.n u'.c l1 l2 _ (HWr.out.next Z1.out.2) (HWr2.out.next Z1.out.2)).mono ?_; rintro e w6 ⟨rfl, b6⟩
                    have Z2 := Lib.hid (Z1.out.next b6)
                    have B6 := Lib.hid (bthen B5.out b6)
                    clear b6 Z1 T1 B5 c0 c1 c2' c3' c4 c5 d0 d1 d2' d3' d4 d5
                    cases e6 : sameR l1 l2
                    · have hno' := Lib.hid (hno.out (by simp [sameI, e5, e6]))
                      go_wp2_with fail
                      go_ret
                      exact ⟨by rw [(HM.out hno'.out)]; rfl, Z2.out.2⟩
                    have hst' := Lib.hid (hst.out (by simp [sameI, e5, e6]))
                    have HXX := Lib.hid (XX.out _ B6.out)
                    go_wp2_with fail
                    go_roundw
                    case rel => exact ⟨k + 1, by omega, by go_num, hst', HXX.out.1, HXX.out.2⟩
                    case measure => simp [intOf]; omega
                  · have d : (z1 != z2) = true := by simpa using q4
                    have hno' := Lib.hid (hno.out (by simp [sameI, q4]))
                    go_wp2_with fail
                    go_ret
                    exact ⟨by rw [(HM.out hno'.out)]; rfl, Z0.out.2⟩
                · have d : (g1 != g2) = true := by simpa using q3
                  have hno' := Lib.hid (hno.out (by simp [sameI, q3]))
                  go_wp2_with fail
                  go_ret
                  exact ⟨by rw [(HM.out hno'.out)]; rfl, Z0.out.2⟩
              · have d : (p1 != p2) = true := by simpa using q2
                have hno' := Lib.hid (hno.out (by simp [sameI, q2]))
                go_wp2_with fail
                go_ret
                exact ⟨by rw [(HM.out hno'.out)]; rfl, Z0.out.2⟩
            · have d : (f1 != f2) = true := by simpa using q1
              have hno' := Lib.hid (hno.out (by simp [sameI, q1]))
              go_wp2_with fail
              go_ret
              exact ⟨by rw [(HM.out hno'.out)]; rfl, Z0.out.2⟩
          · obtain rfl : k = n2 := by omega
            have hend := Lib.hid (sameIs_end H.out LI.out LI'.out)
            go_wp2_with fail
            clear x0 x1 x2 x3 y0 y1 y2 y3
            go_loopw [8, 102] (fun _ i wr => ∃ j : Nat, j ≤ n3 ∧ i = .int .i64 j ∧ Hid (o1.take j = o2.take j) ∧ IBox w ⟨tx1, r1, i1, o1⟩ ⟨sr, ⟨A2, k, c2⟩, ⟨A3, n3, c3⟩⟩ w.heap.size wr ∧ IBox w ⟨tx1, r2, i2, o2⟩ ⟨tr, ⟨B2, k, d2⟩, ⟨B3, n3, d3⟩⟩ (w.heap.size + 1) wr) (fun _ i _ => n3 - (intOf i).toNat)
            case atStart => exact ⟨0, by omega, rfl, Lib.hid (by simp), HX.out, HYb.out⟩
            case round =>
              obtain ⟨j, hj, rfl, H3, hX, hY⟩ := hrel
              clear HX HYb hb hbs
              have hb := hX.2
              have HX := Lib.hid hX
              have HYb := Lib.hid hY
              clear hX hY
              by_cases hlt : j < n3
              · have hlt' : j < o1.length := by rw [LO.out]; exact hlt
                have hlt2 : j < o2.length := by rw [LO'.out]; exact hlt
                obtain ⟨b1, off, hA, hbl, ho, hc⟩ := HR.out.o.at_ hlt'
                obtain ⟨b2, off2, hA2, hbl2, ho2, hc2⟩ := HR'.out.o.at_ hlt2
                have hA : A3 = some ⟨b1, off, none⟩ := hA
                have hA2 : B3 = some ⟨b2, off2, none⟩ := hA2
                subst hA hA2
                have HC := Lib.hid hc
                have HC2 := Lib.hid hc2
                have hst := Lib.hid (take_same hlt' hlt2 H3.out)
                have hno := Lib.hid (at_neN hlt' hlt2)
                clear hc hc2 ho ho2
                generalize o1[j] = x at *
                generalize o2[j] = y at *
                have hji : (j : Int) < (n3 : Int) := by omega
                by_cases he : x = y
                · subst he
                  have hst' := Lib.hid (hst.out rfl)
                  go_wp2_with fail
                  refine wp_region_sched [(0, true), (1, true), (2, true), (3, true), (4, true), (5, true), (6, true), (7, true), (8, true), (9, true), (10, true)] (by kernel_rfl) (by kernel_rfl) (fun _ _ d _ _ h => by cases d <;> exact h) ?_
                  refine swith (fun W hW => (HC.out W (hb.drew.trans (hW.out.mono hb.size)))) (fun q1 => ?_)
                  refine swith (fun W hW => (HC2.out W (hb.drew.trans (hW.out.mono hb.size)))) (fun q2 => ?_)
                  refine swith (fun W hW => ((HX.out.next ((Below.refl _ _).drew.trans (hW.out.mono (Nat.le_refl _)))).cells)) (fun q3 => ?_)
                  refine swith (fun W hW => ((HYb.out.next ((Below.refl _ _).drew.trans (hW.out.mono (Nat.le_refl _)))).cells)) (fun q4 => ?_)
                  repeat (first | (refine sreadx rfl rfl ?_; apply Exists.intro; apply And.intro; (· (intro W hW; first | (go_simp; done) | (go_simp; with_reducible rfl) | (go_simp; rw [if_neg (by omega)]; done) | (go_simp; rw [if_neg (by omega)]; with_reducible rfl))); simp only [Act.put, List.setIfInBounds_toArray, List.set_cons_zero, List.set_cons_succ]) | (refine sskip rfl rfl ?_; simp only [Act.put, List.setIfInBounds_toArray, List.set_cons_zero, List.set_cons_succ]))
                  refine sdone ?_
                  have HX' := Lib.hid (HX.out.next (Below.refl _ _).drew)
                  have HY' := Lib.hid (HYb.out.next (Below.refl _ _).drew)
                  clear q1 q2 q3 q4
                  go_wp2_with fail
                  go_roundw
                  case rel => exact ⟨j + 1, by omega, by go_num, hst', HX'.out, HY'.out⟩
                  case measure => simp [intOf]; omega
                · have hno' := Lib.hid (hno.out he)
                  have qn : (x != y) = true := by simpa using he
                  have qn2 : (x == y) = false := by simpa using he
                  go_wp2_with fail
                  refine wp_region_sched [(0, true), (1, true), (2, true), (3, true), (4, true), (5, true), (6, true), (7, true), (8, true), (9, true), (10, true)] (by kernel_rfl) (by kernel_rfl) (fun _ _ d _ _ h => by cases d <;> exact h) ?_
                  refine swith (fun W hW => (HC.out W (hb.drew.trans (hW.out.mono hb.size)))) (fun q1 => ?_)
                  refine swith (fun W hW => (HC2.out W (hb.drew.trans (hW.out.mono hb.size)))) (fun q2 => ?_)
                  refine swith (fun W hW => ((HX.out.next ((Below.refl _ _).drew.trans (hW.out.mono (Nat.le_refl _)))).cells)) (fun q3 => ?_)
                  refine swith (fun W hW => ((HYb.out.next ((Below.refl _ _).drew.trans (hW.out.mono (Nat.le_refl _)))).cells)) (fun q4 => ?_)
                  repeat (first | (refine sreadx rfl rfl ?_; apply Exists.intro; apply And.intro; (· (intro W hW; first | (go_simp; done) | (go_simp; with_reducible rfl) | (go_simp; rw [if_neg (by omega)]; done) | (go_simp; rw [if_neg (by omega)]; with_reducible rfl))); simp only [Act.put, List.setIfInBounds_toArray, List.set_cons_zero, List.set_cons_succ]) | (refine sskip rfl rfl ?_; simp only [Act.put, List.setIfInBounds_toArray, List.set_cons_zero, List.set_cons_succ]))
                  refine sdone ?_
                  go_wp2_with fail
                  go_ret
                  exact ⟨by rw [HN.out hno'.out]; rfl, hb.drew⟩
              · obtain rfl : j = n3 := by omega
                go_wp2_with fail
                go_ret
                exact ⟨by rw [HY.out hend.out (sameN_end H3.out LO.out LO'.out)]; rfl, hb⟩
      · have d1 : ((n3 : Int) != (m3 : Int)) = true := by simp; omega
        have d2 : ((n3 : Int) == (m3 : Int)) = false := by simp; omega
        have hm : Hid (sameM ⟨tx1, r1, i1, o1⟩ ⟨tx1, r2, i2, o2⟩ = false) := Lib.hid (sameM_order (sameN_len (by dsimp only; omega)))
        clear li li' lo lo'
        go_enter Try.func51, Try.ntmps51
        go_wp2_with fail
        refine (rsameH_any sr.A tr.A sr.n sr.c tr.n tr.c r1 r2 _ (HR.out.next X0.out.2).r (HR'.out.next X0.out.2).r).mono ?_; rintro e w1 ⟨rfl, b1⟩
        have X1 := Lib.hid (X0.out.next b1)
        have Y1 := Lib.hid (Y0.out.next b1)
        rw [e1]
        obtain ⟨⟨x0, x1⟩, x2, x3⟩ := X1.out.cells
        obtain ⟨⟨y0, y1⟩, y2, y3⟩ := Y1.out.cells
        go_wp2_with fail
        go_ret
        exact ⟨by rw [hm.out]; rfl, X1.out.2⟩
    · have d1 : ((n2 : Int) != (m2 : Int)) = true := by simp; omega
      have d2 : ((n2 : Int) == (m2 : Int)) = false := by simp; omega
      have hm : Hid (sameM ⟨tx1, r1, i1, o1⟩ ⟨tx1, r2, i2, o2⟩ = false) := Lib.hid (sameM_insts (sameIs_len (by dsimp only; omega)))
      clear li li' lo lo'
      go_enter Try.func51, Try.ntmps51
      go_wp2_with fail
      refine (rsameH_any sr.A tr.A sr.n sr.c tr.n tr.c r1 r2 _ (HR.out.next X0.out.2).r (HR'.out.next X0.out.2).r).mono ?_; rintro e w1 ⟨rfl, b1⟩
      have X1 := Lib.hid (X0.out.next b1)
      have Y1 := Lib.hid (Y0.out.next b1)
      rw [e1]
      obtain ⟨⟨x0, x1⟩, x2, x3⟩ := X1.out.cells
      obtain ⟨⟨y0, y1⟩, y2, y3⟩ := Y1.out.cells
      go_wp2_with fail
      go_ret
      exact ⟨by rw [hm.out]; rfl, X1.out.2⟩
  · have d : (tx1 != tx2) = true := by simpa using q0
    have hm := Lib.hid (sameM_text (x := ⟨tx1, r1, i1, o1⟩) (y := ⟨tx2, r2, i2, o2⟩) q0)
    clear li li' lo lo'
    go_enter Try.func51, Try.ntmps51
    go_wp2_with fail
    go_ret
    exact ⟨by rw [hm.out]; rfl, X0.out.2⟩
end Go.Proofs.Ytpkoijlbbfffiaa.R
