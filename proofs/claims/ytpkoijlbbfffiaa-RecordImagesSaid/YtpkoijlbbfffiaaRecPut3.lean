/- The contracts of record's row of changes and of record.Put. -/
import Derived.Test.YtpkoijlbbfffiaaRecPut2
namespace Go.Proofs.Ytpkoijlbbfffiaa.R
open Go.RowKit O V

def putChgs (l : List Chg) : List UInt8 := l.flatMap chgL
theorem putChgs_step {l : List Chg} {k : Nat} (h : k < l.length) : putChgs (l.take (k + 1)) = putChgs (l.take k) ++ chgL l[k] := by
  unfold putChgs
  rw [List.take_succ_eq_append_getElem h, List.flatMap_append]
  simp
/-- What is known of a change that is written. -/
structure COk (x : Chg) : Prop where
  l : lightR x.row = true
  t0 : 0 ≤ x.table
  t1 : x.table ≤ 1073741824
  k1 : -9223372036854775808 ≤ x.key
  k2 : x.key ≤ 9223372036854775807
  o : ∀ v ∈ x.row, VOk v
theorem chgL_len (x : Chg) (h : COk x) : (chgL x).length ≤ 20040 := by
  obtain ⟨h20, h100⟩ := lightR_all h.l
  have h1 := uintL_len10 x.table.toNat (by have := h.t1; omega)
  have h2 := uintL_len10 (zig x.key) (zig_lt _ h.k1 h.k2)
  have h3 := uintL_len10 (x.row.length + 1) (by omega)
  have h4 := putVals_len x.row (fun v hv => ⟨h.o v hv, h100 v hv⟩)
  unfold chgL
  split <;> simp <;> omega
theorem putChgs_len : ∀ (a : List Chg), (∀ v ∈ a, COk v) → (putChgs a).length ≤ a.length * 20040
  | [], _ => by simp [putChgs]
  | v :: a, h => by
    have h1 := chgL_len v (h v (by simp))
    have h2 := putChgs_len a (fun u hu => h u (by simp [hu]))
    unfold putChgs at h2 ⊢
    rw [List.flatMap_cons, List.length_append, List.length_cons]
    omega
def rowCL (a : List Chg) : List UInt8 := uintL a.length ++ putChgs a
set_option maxHeartbeats 1000000 in
set_option maxRecDepth 100000 in
theorem rowC_any (A : Option Addr) (n c : Nat) (l : List UInt8) (A' : Option Addr) (n' c' : Nat) (a : List Chg) (w : World) (h : Rd w w.heap.size 1 A n (bv l)) (h' : HRow w A' n' c' a) (h20 : a.length ≤ 20) (hla : ∀ x ∈ a, COk x) (hn : n ≤ 1000000000) :
    Calls Try.prog 82 #[.slice A n c, .slice A' n' c', .func (.func 83) #[] #[]] w (RetB (l ++ rowCL a) w) := by
  have hl := h'.len
  have hcap := h'.cap
  have hpl : ∀ k, (putChgs (a.take k)).length ≤ 400800 := fun k => by
    have := putChgs_len (a.take k) (fun v hv => hla v (List.mem_of_mem_take hv))
    have h2 : (a.take k).length ≤ 20 := by simp; omega
    omega
  have hln : l.length = n := by have := h.1; simp at this; omega
  have hu10 := uintL_len10 n' (by omega)
  have HR := Lib.hid h
  have HV := Lib.hid h'
  have HL := Lib.hid hl
  have HLn := Lib.hid hln
  have HP := Lib.hid hpl
  have HK := Lib.hid hla
  have hn20 : n' ≤ 20 := by omega
  clear h h' hl hpl hla hln h20
  have HI : Hid (Rd (w.alloc (.cells #[.int .i64 (n' : Int)] 3)) (w.alloc (.cells #[.int .i64 (n' : Int)] 3)).heap.size 1 (some ⟨w.heap.size, 0, none⟩) 1 (iv [n'])) := Lib.hid (by have := Rd.built w (.int .i64 (n' : Int)) 3; simpa [iv] using this)
  go_enter Try.func82, Try.ntmps82
  go_wp2_with fail
  refine (numbers_any A n c l (some ⟨w.heap.size, 0, none⟩) 1 1 [n'] _ (HR.out.next ((Below.refl _ _).alloc (Nat.le_refl _) _)) HI.out (by simp; omega) (by omega) (by simp) (by simp)).mono ?_; rintro e w1 ⟨A1, n1, c1, rfl, o1, b1⟩
  have HO1 := Lib.hid (own_more o1 (show w.heap.size ≤ (w.alloc (.cells #[.int .i64 (n' : Int)] 3)).heap.size by simp))
  have HB1 := Lib.hid (((Below.refl w.heap.size w).alloc (Nat.le_refl _) (.cells #[.int .i64 (n' : Int)] 3)).trans (b1.mono (by simp)))
  clear o1 b1
  go_wp2_with fail
  go_loopw [0, 8, 16] (fun v _ i wr => ∃ (k : Nat) (A1 : Option Addr) (n1 c1 : Nat), k ≤ n' ∧ i = .int .i64 k ∧ v = .slice A1 n1 c1 ∧ wr.ownsRow w.heap.size 5 1 (.slice A1 n1 c1) n1 (bv ((l ++ uintL n') ++ putChgs (a.take k))) ∧ Below w.heap.size w wr) (fun _ _ i _ => n' - (intOf i).toNat)
  case atStart => exact ⟨0, A1, n1, c1, by omega, rfl, rfl, by simpa [putChgs, numsL] using HO1.out, HB1.out⟩
  case round =>
    obtain ⟨k, A2, n2, c2, hk, rfl, rfl, ho, hb⟩ := hrel
    clear HO1 HB1
    have hn2 : n2 ≤ 1000500000 := by
      have e1 := own_len ho
      have e2 := HP.out k
      have e3 := HLn.out
      simp at e1
      omega
    have HO := Lib.hid ho
    clear ho
    have hbs := hb.size
    by_cases hlt : k < n'
    · have hlt' : k < a.length := by rw [HL.out]; exact hlt
      obtain ⟨b, off, s, rfl, hbl, hv, _, hc⟩ := HV.out.at_ hlt'
      obtain ⟨⟨x0, x1⟩, x2, x3⟩ := hc wr hb
      have hst := Lib.hid (putChgs_step hlt')
      have HCO := Lib.hid (HK.out a[k] (List.getElem_mem hlt'))
      have HVr := Lib.hid hv
      clear hc hv
      generalize a[k] = x at *
      go_wp2_with fail
      refine (putChange_any A2 n2 c2 ((l ++ uintL n') ++ putChgs (a.take k)) x s _ ((Rd.of_own HO.out).next ((Below.refl _ _).alloc (Nat.le_refl _) _)) (HVr.out.next (hb.alloc hbs _)) HCO.out.l (by omega) HCO.out.t0 HCO.out.t1 HCO.out.k1 HCO.out.k2).mono ?_; rintro e w3 ⟨A3, n3, c3, rfl, o3, b3⟩
      have HO3 := Lib.hid o3
      have B3 : Below w.heap.size w w3 := (hb.alloc hbs _).trans (b3.mono (by simp; omega))
      clear o3 b3
      go_wp2_with fail
      go_roundw
      case rel => exact ⟨k + 1, A3, n3, c3, by omega, by go_num, rfl, by rw [hst.out, ← List.append_assoc]; exact own_more HO3.out (by simp; omega), B3⟩
      case measure => simp [intOf]; omega
    · obtain rfl : k = n' := by omega
      go_wp2_with fail
      go_ret
      have := HO.out
      rw [← HL.out, List.take_length, List.append_assoc] at this
      rw [HL.out] at this
      exact ⟨A2, n2, c2, rfl, by rw [rowCL, HL.out]; exact this, hb⟩
def putRec (r : Rec) : List UInt8 := uintL r.inst.toNat ++ (uintL r.proc.toNat ++ (uintL r.piece.toNat ++ (uintL r.fin.toNat ++ (rowL r.args ++ (rowL r.emits ++ (rowL r.locals ++ rowCL r.changes))))))
/-- What is known of a record that is written. -/
structure ROk (r : Rec) : Prop where
  n : ((0 ≤ r.inst ∧ r.inst ≤ 1073741824) ∧ 0 ≤ r.proc ∧ r.proc ≤ 1073741824) ∧ (0 ≤ r.piece ∧ r.piece ≤ 1073741824) ∧ 0 ≤ r.fin ∧ r.fin ≤ 1073741824
  a : lightR r.args = true
  e : lightR r.emits = true
  l : lightR r.locals = true
  c : r.changes.length ≤ 20 ∧ ∀ x ∈ r.changes, COk x
def rowOf (r : Rec) (k : Nat) : List Val := if k = 0 then r.args else if k = 1 then r.emits else r.locals
def slOf (s : RS) (k : Nat) : Sl := if k = 0 then s.a else if k = 1 then s.e else s.l
theorem RecAt.row {w : World} {r : Rec} {s : RS} (h : RecAt w r s) (k : Nat) : VRow w (slOf s k).A (slOf s k).n (slOf s k).c (rowOf r k) := by
  unfold slOf rowOf
  split
  · exact h.a
  · split
    · exact h.e
    · exact h.l
theorem ROk.row {r : Rec} (h : ROk r) (k : Nat) : lightR (rowOf r k) = true := by
  unfold rowOf
  split
  · exact h.a
  · split
    · exact h.e
    · exact h.l
def nums4 (r : Rec) : List UInt8 := numsL [r.inst.toNat, r.proc.toNat, r.piece.toNat, r.fin.toNat]
def rows3 (r : Rec) (k : Nat) : List UInt8 := (List.range k).flatMap fun j => rowL (rowOf r j)
theorem rows3_step (r : Rec) (k : Nat) : rows3 r (k + 1) = rows3 r k ++ rowL (rowOf r k) := by
  unfold rows3
  rw [List.range_succ, List.flatMap_append]
  simp
theorem putRec_eq (r : Rec) : putRec r = nums4 r ++ (rows3 r 3 ++ rowCL r.changes) := by
  simp [putRec, nums4, numsL, rows3, List.range_succ, rowOf]
theorem iv4 {a b c d : Int} (ha : 0 ≤ a) (hb : 0 ≤ b) (hc : 0 ≤ c) (hd : 0 ≤ d) : [Value.int .i64 a, .int .i64 b, .int .i64 c, .int .i64 d] = iv [a.toNat, b.toNat, c.toNat, d.toNat] := by
  simp [iv]; omega
set_option maxHeartbeats 2000000 in
set_option maxRecDepth 100000 in
theorem putRec_any (r : Rec) (s : RS) (w : World) (h : RecAt w r s) (hok : ROk r) : Calls Try.prog 28 #[rv r s] w (RetB (putRec r) w) := by
  obtain ⟨sa, se, sl, ⟨A4, n4, c4⟩⟩ := s
  have HR := Lib.hid h
  have HK := Lib.hid hok
  clear h hok
  simp only [rv]
  have X0 : Hid (RBox w r ⟨sa, se, sl, ⟨A4, n4, c4⟩⟩ w.heap.size (w.alloc (.cells #[.int .i64 r.inst, .int .i64 r.proc, .int .i64 r.piece, .int .i64 r.fin, .slice sa.A sa.n sa.c, .slice se.A se.n se.c, .slice sl.A sl.n sl.c, .slice A4 n4 c4] 37))) := Lib.hid ⟨alloc_at rfl, (Below.refl _ _).alloc (Nat.le_refl _) _⟩
  go_enter Try.func28, Try.ntmps28
  go_wp2_with fail
  have RI : Hid (Rd ((w.alloc (.cells #[.int .i64 r.inst, .int .i64 r.proc, .int .i64 r.piece, .int .i64 r.fin, .slice sa.A sa.n sa.c, .slice se.A se.n se.c, .slice sl.A sl.n sl.c, .slice A4 n4 c4] 37)).alloc (.cells #[.int .i64 r.inst, .int .i64 r.proc, .int .i64 r.piece, .int .i64 r.fin] 3)) ((w.alloc (.cells #[.int .i64 r.inst, .int .i64 r.proc, .int .i64 r.piece, .int .i64 r.fin, .slice sa.A sa.n sa.c, .slice se.A se.n se.c, .slice sl.A sl.n sl.c, .slice A4 n4 c4] 37)).alloc (.cells #[.int .i64 r.inst, .int .i64 r.proc, .int .i64 r.piece, .int .i64 r.fin] 3)).heap.size 1 (some ⟨w.heap.size + 1, 0, none⟩) 4 (iv [r.inst.toNat, r.proc.toNat, r.piece.toNat, r.fin.toNat])) := by
    refine Lib.hid ?_
    have := Rd.made (w.alloc (.cells #[.int .i64 r.inst, .int .i64 r.proc, .int .i64 r.piece, .int .i64 r.fin, .slice sa.A sa.n sa.c, .slice se.A se.n se.c, .slice sl.A sl.n sl.c, .slice A4 n4 c4] 37)) [.int .i64 r.inst, .int .i64 r.proc, .int .i64 r.piece, .int .i64 r.fin] (e := 3) (size := 1) (n := 4) (b := w.heap.size + 1) rfl (by simp)
    rw [← iv4 HK.out.n.1.1.1 HK.out.n.1.2.1 HK.out.n.2.1.1 HK.out.n.2.2.1]
    refine this.more ?_
    simp
  have hnn := HK.out.n
  refine (numbers_any none 0 0 [] _ 4 4 [r.inst.toNat, r.proc.toNat, r.piece.toNat, r.fin.toNat] _ Rd.nil_ RI.out (by simp; omega) (by omega) (by simp) (by simp)).mono ?_; rintro e w1 ⟨A1, n1, c1, rfl, o1, b1⟩
  clear RI hnn
  have X1 := Lib.hid ((X0.out.next ((Below.refl _ _).alloc (Nat.le_refl _) _)).next b1)
  have HO1 : Hid (w1.ownsRow w.heap.size 5 1 (.slice A1 n1 c1) n1 (bv (nums4 r ++ rows3 r 0))) := Lib.hid (by simpa [nums4, rows3] using own_more o1 (show w.heap.size ≤ _ by simp; omega))
  clear o1 b1 X0
  obtain ⟨⟨⟨x0, x1⟩, x2, x3⟩, ⟨x4, x5⟩, x6, x7⟩ := X1.out.cells
  go_wp2_with fail
  have Y2 : Hid ((w1.alloc (.cells #[.slice sa.A sa.n sa.c, .slice se.A se.n se.c, .slice sl.A sl.n sl.c] 34)).heap[w1.heap.size]? = some (.cells #[.slice sa.A sa.n sa.c, .slice se.A se.n se.c, .slice sl.A sl.n sl.c] 34 (0, 0))) := Lib.hid (alloc_at rfl)
  have X2 : Hid (RBox w r ⟨sa, se, sl, ⟨A4, n4, c4⟩⟩ w.heap.size (w1.alloc (.cells #[.slice sa.A sa.n sa.c, .slice se.A se.n se.c, .slice sl.A sl.n sl.c] 34))) := Lib.hid (X1.out.next ((Below.refl _ _).alloc (Nat.le_refl _) _))
  have HO2 : Hid ((w1.alloc (.cells #[.slice sa.A sa.n sa.c, .slice se.A se.n se.c, .slice sl.A sl.n sl.c] 34)).ownsRow w.heap.size 5 1 (.slice A1 n1 c1) n1 (bv (nums4 r ++ rows3 r 0))) := Lib.hid (HO1.out.alloc _)
  have hn1 := own_len HO1.out
  clear x0 x1 x2 x3 x4 x5 x6 x7 X1 HO1
  obtain ⟨g2, hg2⟩ : ∃ g2, w1.heap.size = g2 := ⟨_, rfl⟩
  rw [hg2] at Y2 ⊢
  obtain ⟨W0, hW0⟩ : ∃ W0, (w1.alloc (.cells #[.slice sa.A sa.n sa.c, .slice se.A se.n se.c, .slice sl.A sl.n sl.c] 34)) = W0 := ⟨_, rfl⟩
  rw [hW0] at X2 Y2 HO2 ⊢
  clear hW0 hg2 hn1
  have hl4 : (nums4 r).length ≤ 40 := nums_len [r.inst.toNat, r.proc.toNat, r.piece.toNat, r.fin.toNat] (by have := HK.out.n; simp; omega)
  have hl3 : ∀ k, k ≤ 3 → (rows3 r k).length ≤ k * 20010 := by
    intro k
    induction k with
    | zero => intro _; simp [rows3]
    | succ k ih =>
      intro hk
      rw [rows3_step, List.length_append]
      have := ih (by omega)
      have hl := lightR_all (HK.out.row k)
      have := rowL_len hl.1 (fun v hv => ⟨(HR.out.row k).oks v hv, hl.2 v hv⟩)
      omega
  have HL4 := Lib.hid hl4
  have HL3 := Lib.hid hl3
  clear hl4 hl3
  go_loopw [3, 5, 24] (fun v _ i wr => ∃ (k : Nat) (A1 : Option Addr) (n1 c1 : Nat), k ≤ 3 ∧ i = .int .i64 k ∧ v = .slice A1 n1 c1 ∧ wr.ownsRow w.heap.size 5 1 (.slice A1 n1 c1) n1 (bv (nums4 r ++ rows3 r k)) ∧ RBox w r ⟨sa, se, sl, ⟨A4, n4, c4⟩⟩ w.heap.size wr ∧ wr.heap[g2]? = some (.cells #[.slice sa.A sa.n sa.c, .slice se.A se.n se.c, .slice sl.A sl.n sl.c] 34 (0, 0))) (fun _ _ i _ => 3 - (intOf i).toNat)
  case atStart => exact ⟨0, A1, n1, c1, by omega, rfl, rfl, HO2.out, X2.out, Y2.out⟩
  case round =>
    obtain ⟨k, A2, n2, c2, hk, rfl, rfl, ho, hX, hY⟩ := hrel
    clear X2 Y2 HO2
    obtain ⟨y0, y1, y2⟩ := cells3 hY
    obtain ⟨⟨⟨x0, x1⟩, x2, x3⟩, ⟨x4, x5⟩, x6, x7⟩ := hX.cells
    have hn2 : n2 ≤ 1000000 := by
      have e1 := own_len ho
      have e2 := HL4.out
      have e3 := HL3.out k hk
      simp at e1
      omega
    have hwb := hX.2.size
    have HX := Lib.hid hX; clear hX
    have HY := Lib.hid hY; clear hY
    have HO := Lib.hid ho; clear ho
    obtain rfl | rfl | rfl | rfl : k = 0 ∨ k = 1 ∨ k = 2 ∨ k = 3 := by omega
    · go_wp2_with fail
      refine (rowV_any A2 n2 c2 (nums4 r ++ rows3 r 0) sa.A sa.n sa.c r.args _ (Rd.of_own HO.out) ((HR.out.next HX.out.2).row 0) (HK.out.row 0) (by omega)).mono ?_; rintro e w2 ⟨A5, n5, c5, rfl, o5, b5⟩
      have HO5 := Lib.hid (own_more o5 hwb)
      have X5 := Lib.hid (HX.out.next b5)
      have Y5 := Lib.hid (box_next HY.out b5)
      clear o5 b5
      go_wp2_with fail
      go_roundw
      case rel => exact ⟨0 + 1, A5, n5, c5, by omega, by go_num, rfl, by rw [rows3_step, ← List.append_assoc]; exact HO5.out, X5.out, Y5.out⟩
      case measure => simp [intOf]
    · go_wp2_with fail
      refine (rowV_any A2 n2 c2 (nums4 r ++ rows3 r 1) se.A se.n se.c r.emits _ (Rd.of_own HO.out) ((HR.out.next HX.out.2).row 1) (HK.out.row 1) (by omega)).mono ?_; rintro e w2 ⟨A5, n5, c5, rfl, o5, b5⟩
      have HO5 := Lib.hid (own_more o5 hwb)
      have X5 := Lib.hid (HX.out.next b5)
      have Y5 := Lib.hid (box_next HY.out b5)
      clear o5 b5
      go_wp2_with fail
      go_roundw
      case rel => exact ⟨1 + 1, A5, n5, c5, by omega, by go_num, rfl, by rw [rows3_step, ← List.append_assoc]; exact HO5.out, X5.out, Y5.out⟩
      case measure => simp [intOf]
    · go_wp2_with fail
      refine (rowV_any A2 n2 c2 (nums4 r ++ rows3 r 2) sl.A sl.n sl.c r.locals _ (Rd.of_own HO.out) ((HR.out.next HX.out.2).row 2) (HK.out.row 2) (by omega)).mono ?_; rintro e w2 ⟨A5, n5, c5, rfl, o5, b5⟩
      have HO5 := Lib.hid (own_more o5 hwb)
      have X5 := Lib.hid (HX.out.next b5)
      have Y5 := Lib.hid (box_next HY.out b5)
      clear o5 b5
      go_wp2_with fail
      go_roundw
      case rel => exact ⟨2 + 1, A5, n5, c5, by omega, by go_num, rfl, by rw [rows3_step, ← List.append_assoc]; exact HO5.out, X5.out, Y5.out⟩
      case measure => simp [intOf]
    · go_wp2_with fail
      refine (rowC_any A2 n2 c2 (nums4 r ++ rows3 r 3) A4 n4 c4 r.changes _ (Rd.of_own HO.out) (HR.out.next HX.out.2).c HK.out.c.1 HK.out.c.2 (by omega)).mono ?_; rintro e w2 ⟨A5, n5, c5, rfl, o5, b5⟩
      go_wp2_with fail
      go_ret
      exact ⟨A5, n5, c5, rfl, by rw [putRec_eq, ← List.append_assoc]; exact own_more o5 hwb, (HX.out.next b5).2⟩
end Go.Proofs.Ytpkoijlbbfffiaa.R
