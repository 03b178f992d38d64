/- The contracts of billhookref23's right functions. -/
import Derived.Test.YtpkoijlbbfffiaaRecRight
namespace Go.Proofs.Ytpkoijlbbfffiaa.R
open Go.RowKit O V

def ivz (ns : List Int) : List Value := ns.map fun k => Value.int .i64 k
set_option maxHeartbeats 1000000 in
set_option maxRecDepth 100000 in
theorem rrightNumbers_any (A : Option Addr) (n c : Nat) (l : List Int) (w : World) (h : Rd w w.heap.size 1 A n (ivz l)) (hn : n ≤ 1000) :
    Calls Try.prog 72 #[.slice A n c] w fun e w' => e = .returned (.bool (l.all okN)) ∧ w = w' := by
  have hl : l.length = n := by have := h.1; simp [ivz] at this; omega
  have HL := Lib.hid hl
  have HR := Lib.hid h
  clear h hl
  go_enter Try.func72, Try.ntmps72
  go_wp2_with fail
  go_loop [4, 7] (fun _ i => ∃ k : Nat, k ≤ n ∧ i = .int .i64 k ∧ Hid ((l.take k).all okN = true)) (fun _ i => n - (intOf i).toNat)
  case atStart => exact ⟨0, by omega, rfl, Lib.hid (by simp)⟩
  case round =>
    obtain ⟨k, hk, rfl, H⟩ := hrel
    by_cases hlt : k < n
    · have hlt' : k < l.length := by rw [HL.out]; exact hlt
      obtain ⟨b, off, rfl, hbl, hc⟩ := HR.out.pos hlt
      have hc0 := hc k hlt
      rw [show (ivz l)[k]? = some (.int .i64 l[k]) by simp [ivz, hlt']] at hc0
      have hn' := Lib.hid (allT_step hlt' H.out)
      have hno := Lib.hid (allT_no (p := okN) hlt')
      clear hc
      generalize l[k] = u at *
      by_cases h1 : u < 0
      · have d1 : decide (u < 0) = true := by simp; omega
        have hno' := Lib.hid (hno.out (by unfold okN; simp; omega))
        go_wp2_with fail
        go_ret
        exact ⟨by rw [hno'.out]; rfl, rfl⟩
      · have d1 : decide (u < 0) = false := by simp; omega
        by_cases h2 : u > 1073741824
        · have d2 : decide (u > 1073741824) = true := by simp; omega
          have hno' := Lib.hid (hno.out (by unfold okN; simp; omega))
          go_wp2_with fail
          go_ret
          exact ⟨by rw [hno'.out]; rfl, rfl⟩
        · have d2 : decide (u > 1073741824) = false := by simp; omega
          have hst := Lib.hid (show (l.take (k + 1)).all okN = true by rw [hn'.out]; unfold okN; simp; omega)
          go_wp2_with fail
          go_round
          case rel => exact ⟨k + 1, by omega, by go_num, hst⟩
          case measure => simp [intOf]; omega
    · obtain rfl : k = n := by omega
      go_wp2_with fail
      go_ret
      have := H.out
      rw [← HL.out, List.take_length] at this
      exact ⟨by rw [this]; rfl, rfl⟩
set_option maxHeartbeats 1000000 in
set_option maxRecDepth 100000 in
theorem rrightValues_any (A : Option Addr) (n c : Nat) (l : List Val) (w : World) (h : VRow w A n c l) (hla : ∀ v ∈ l, v.s.length ≤ 1000000000000) :
    Calls Try.prog 73 #[.slice A n c] w fun e w' => e = .returned (.bool (okR l)) ∧ Below w.heap.size w w' := by
  have hl := h.len
  have hcap := h.cap
  have HV := Lib.hid h
  have HL := Lib.hid hl
  clear h hl
  go_enter Try.func73, Try.ntmps73
  go_wp2_with fail
  go_loopw [4, 7] (fun _ i wr => ∃ k : Nat, k ≤ n ∧ i = .int .i64 k ∧ Hid ((l.take k).any badV = false) ∧ Below w.heap.size w wr) (fun _ i _ => n - (intOf i).toNat)
  case atStart => exact ⟨0, by omega, rfl, Lib.hid (by simp), Below.refl _ _⟩
  case round =>
    obtain ⟨k, hk, rfl, H, hb⟩ := hrel
    by_cases hlt : k < n
    · have hlt' : k < l.length := by rw [HL.out]; exact hlt
      obtain ⟨b, off, rfl, hbl, ho, hc⟩ := HV.out.at_ hlt'
      obtain ⟨c0, c1, c2⟩ := hc wr hb
      have hn := Lib.hid (anyT_step hlt' H.out)
      have hye := Lib.hid (any_find (p := badV) hlt')
      have hs := hla l[k] (List.getElem_mem hlt')
      have hbs := hb.size
      clear hc ho
      generalize l[k] = v at *
      by_cases hz : v = ⟨0, 0, []⟩
      · subst hz
        have hst := Lib.hid (show (l.take (k + 1)).any badV = false by rw [hn.out]; rfl)
        go_wp2_with fail
        go_roundw
        case rel => exact ⟨k + 1, by omega, by go_num, hst, hb.alloc hbs _⟩
        case measure => simp [intOf]; omega
      · have qn := fun w => nz_yes hz w
        have hbv : Hid (badV v = !right v) := Lib.hid (by simp [badV, hz])
        go_wp2_with fail
        refine (rright_any v _ hs).mono ?_; rintro e w2 ⟨rfl, b2⟩
        have B2 : Below w.heap.size w w2 := (hb.alloc hbs _).trans (b2.mono (by simp; omega))
        cases hq : right v
        · have hye' := Lib.hid (hye.out (by rw [hbv.out, hq]; rfl))
          go_wp2_with fail
          go_ret
          exact ⟨by unfold okR; rw [hye'.out]; rfl, B2⟩
        · have hst := Lib.hid (show (l.take (k + 1)).any badV = false by rw [hn.out, hbv.out, hq]; rfl)
          go_wp2_with fail
          go_roundw
          case rel => exact ⟨k + 1, by omega, by go_num, hst, B2⟩
          case measure => simp [intOf]; omega
    · obtain rfl : k = n := by omega
      go_wp2_with fail
      go_ret
      have := H.out
      rw [← HL.out, List.take_length] at this
      exact ⟨by unfold okR; rw [this]; rfl, hb⟩
theorem made1 (w : World) (l : List Int) {b : Nat} (hb : b = w.heap.size) : Rd (w.alloc (.cells (ivz l).toArray 3)) (w.alloc (.cells (ivz l).toArray 3)).heap.size 1 (some ⟨b, 0, none⟩) l.length (ivz l) := by
  refine (Rd.made w (ivz l) (by simp [ivz]) hb).more (by simp)
theorem okG_eq (v : Chg) (n : Nat) (h : v.row.length = n) : okG v = (okN v.table && (!(v.gone && decide ((n : Int) > 0)) && okR v.row)) := by
  unfold okG okN okR
  rw [h]
  by_cases h1 : v.table < 0
  · simp [h1]; omega
  · by_cases h2 : v.table > 1073741824
    · simp [h2]; omega
    · rw [decide_eq_false h1, decide_eq_false h2, decide_eq_true (show v.table ≥ 0 by omega), decide_eq_true (show v.table ≤ 1073741824 by omega)]
      simp
set_option maxHeartbeats 1000000 in
set_option maxRecDepth 100000 in
theorem rrightChanges_any (A : Option Addr) (n c : Nat) (l : List Chg) (w : World) (h : HRow w A n c l) (hla : ∀ x ∈ l, ∀ v ∈ x.row, v.s.length ≤ 1000000000000) :
    Calls Try.prog 74 #[.slice A n c] w fun e w' => e = .returned (.bool (l.all okG)) ∧ Below w.heap.size w w' := by
  have hl := h.len
  have hcap := h.cap
  have HV := Lib.hid h
  have HL := Lib.hid hl
  clear h hl
  go_enter Try.func74, Try.ntmps74
  go_wp2_with fail
  go_loopw [4, 7] (fun _ i wr => ∃ k : Nat, k ≤ n ∧ i = .int .i64 k ∧ Hid ((l.take k).all okG = true) ∧ Below w.heap.size w wr) (fun _ i _ => n - (intOf i).toNat)
  case atStart => exact ⟨0, by omega, rfl, Lib.hid (by simp), Below.refl _ _⟩
  case round =>
    obtain ⟨k, hk, rfl, H, hb⟩ := hrel
    by_cases hlt : k < n
    · have hlt' : k < l.length := by rw [HL.out]; exact hlt
      obtain ⟨b, off, s, rfl, hbl, hv, ho, hc⟩ := HV.out.at_ hlt'
      obtain ⟨⟨c0, c1⟩, c2, c3⟩ := hc wr hb
      have hst := Lib.hid (allT_step hlt' H.out)
      have hno := Lib.hid (allT_no (p := okG) hlt')
      have hs := hla l[k] (List.getElem_mem hlt')
      have hbs := hb.size
      have HVr := Lib.hid hv
      have hrl := hv.len
      have hrc : s.n ≤ s.c ∧ s.c ≤ 9223372036854775807 := hv.cap
      clear hc ho hv
      generalize l[k] = x at *
      obtain ⟨A2, n2, cc2⟩ := s
      have hrl : x.row.length = n2 := hrl
      have hok := Lib.hid (okG_eq x n2 hrl)
      clear hrl
      obtain ⟨tb, ky, gn, a⟩ := x
      dsimp only at c0 c1 c2 c3 hrc hs
      have HVr : Hid (VRow w A2 n2 cc2 a) := HVr
      have hI : Hid (Rd ((wr.alloc (.cells #[.int .i64 tb, .int .i64 ky, .bool gn, .slice A2 n2 cc2] 42)).alloc (.cells #[.int .i64 tb] 3)) ((wr.alloc (.cells #[.int .i64 tb, .int .i64 ky, .bool gn, .slice A2 n2 cc2] 42)).alloc (.cells #[.int .i64 tb] 3)).heap.size 1 (some ⟨wr.heap.size + 1, 0, none⟩) 1 (ivz [tb])) := Lib.hid (by
        have := made1 (wr.alloc (.cells #[.int .i64 tb, .int .i64 ky, .bool gn, .slice A2 n2 cc2] 42)) [tb] (b := wr.heap.size + 1) (by simp)
        exact this)
      have HB : Hid (∀ C D : Obj, Below w.heap.size w ((wr.alloc C).alloc D)) := Lib.hid (fun C D => (hb.alloc hbs _).alloc (by simp; omega) _)
      go_wp2_with fail
      refine (rrightNumbers_any _ 1 1 [tb] _ hI.out (by omega)).mono ?_; rintro e w2 ⟨rfl, rfl⟩
      have hon : [tb].all okN = okN tb := by simp
      rw [hon]
      clear hon
      cases hq : okN tb
      · have hno' := Lib.hid (hno.out (by rw [hok.out]; simp [hq]))
        go_wp2_with fail
        go_ret
        exact ⟨by rw [hno'.out]; rfl, HB.out _ _⟩
      · cases gn
        · go_wp2_with fail
          refine (rrightValues_any A2 n2 cc2 a _ (HVr.out.next (HB.out _ _)) hs).mono ?_; rintro e w3 ⟨rfl, b3⟩
          have B3 : Below w.heap.size w w3 := (HB.out _ _).trans (b3.mono (HB.out _ _).size)
          cases hq2 : okR a
          · have hno' := Lib.hid (hno.out (by rw [hok.out]; simp [hq, hq2]))
            go_wp2_with fail
            go_ret
            exact ⟨by rw [hno'.out]; rfl, B3⟩
          · have hst' := Lib.hid (show (l.take (k + 1)).all okG = true from hst.out.trans (by rw [hok.out]; simp [hq, hq2]))
            go_wp2_with fail
            go_roundw
            case rel => exact ⟨k + 1, by omega, by go_num, hst', B3⟩
            case measure => simp [intOf]; omega
        · by_cases hp : n2 > 0
          · have hno' := Lib.hid (hno.out (by rw [hok.out]; simp [hq, hp]))
            have d3 : decide ((n2 : Int) > 0) = true := by simp; omega
            have d3' : decide (0 < n2) = true := by simp; omega
            go_wp2_with fail
            go_ret
            exact ⟨by rw [hno'.out]; rfl, HB.out _ _⟩
          · have d3 : decide ((n2 : Int) > 0) = false := by simp; omega
            have d3' : decide (0 < n2) = false := by simp; omega
            have hp0 : n2 = 0 := by omega
            have HP0 := Lib.hid hp0
            clear hp0
            go_wp2_with fail
            refine (rrightValues_any A2 n2 cc2 a _ (HVr.out.next (HB.out _ _)) hs).mono ?_; rintro e w3 ⟨rfl, b3⟩
            have B3 : Below w.heap.size w w3 := (HB.out _ _).trans (b3.mono (HB.out _ _).size)
            cases hq2 : okR a
            · have hno' := Lib.hid (hno.out (by rw [hok.out]; simp [hq, hq2, HP0.out]))
              go_wp2_with fail
              go_ret
              exact ⟨by rw [hno'.out]; rfl, B3⟩
            · have hst' := Lib.hid (show (l.take (k + 1)).all okG = true from hst.out.trans (by rw [hok.out]; simp [hq, hq2, HP0.out]))
              go_wp2_with fail
              go_roundw
              case rel => exact ⟨k + 1, by omega, by go_num, hst', B3⟩
              case measure => simp [intOf]; omega
    · obtain rfl : k = n := by omega
      go_wp2_with fail
      go_ret
      have := H.out
      rw [← HL.out, List.take_length] at this
      exact ⟨by rw [this]; rfl, hb⟩
theorem rightRec_eq (r : Rec) : rightRec r = ([r.inst, r.proc, r.piece, r.fin].all okN && (okR r.args && (okR r.emits && (okR r.locals && r.changes.all okG)))) := by
  have h : [r.inst, r.proc, r.piece, r.fin].all okN = (okN r.inst && (okN r.proc && (okN r.piece && okN r.fin))) := by simp
  rw [h]
  unfold rightRec okR
  generalize (okN r.inst && (okN r.proc && (okN r.piece && okN r.fin))) = a
  cases r.args.any badV <;> cases r.emits.any badV <;> cases r.locals.any badV <;> cases r.changes.all okG <;> cases a <;> rfl
set_option maxHeartbeats 1000000 in
set_option maxRecDepth 100000 in
theorem rrightRec_any (r : Rec) (s : RS) (w : World) (h : RecAt w r s) (hsh : shortR r) : Calls Try.prog 25 #[rv r s] w fun e w' => e = .returned (.bool (rightRec r)) ∧ Below w.heap.size w w' := by
  have HR := Lib.hid h
  have HS := Lib.hid hsh
  have hr := Lib.hid (rightRec_eq r)
  clear h hsh
  simp only [rv]
  have X0 : Hid (RBox w r s w.heap.size (w.alloc (.cells #[.int .i64 r.inst, .int .i64 r.proc, .int .i64 r.piece, .int .i64 r.fin, .slice s.a.A s.a.n s.a.c, .slice s.e.A s.e.n s.e.c, .slice s.l.A s.l.n s.l.c, .slice s.c.A s.c.n s.c.c] 37))) := Lib.hid ⟨alloc_at rfl, (Below.refl _ _).alloc (Nat.le_refl _) _⟩
  go_enter Try.func25, Try.ntmps25
  go_wp2_with fail
  have hI : Hid (Rd ((w.alloc (.cells #[.int .i64 r.inst, .int .i64 r.proc, .int .i64 r.piece, .int .i64 r.fin, .slice s.a.A s.a.n s.a.c, .slice s.e.A s.e.n s.e.c, .slice s.l.A s.l.n s.l.c, .slice s.c.A s.c.n s.c.c] 37)).alloc (.cells #[.int .i64 r.inst, .int .i64 r.proc, .int .i64 r.piece, .int .i64 r.fin] 3)) _ 1 (some ⟨w.heap.size + 1, 0, none⟩) 4 (ivz [r.inst, r.proc, r.piece, r.fin])) := Lib.hid (by
    have := made1 (w.alloc (.cells #[.int .i64 r.inst, .int .i64 r.proc, .int .i64 r.piece, .int .i64 r.fin, .slice s.a.A s.a.n s.a.c, .slice s.e.A s.e.n s.e.c, .slice s.l.A s.l.n s.l.c, .slice s.c.A s.c.n s.c.c] 37)) [r.inst, r.proc, r.piece, r.fin] (b := w.heap.size + 1) (by simp)
    exact this)
  refine (rrightNumbers_any _ 4 4 [r.inst, r.proc, r.piece, r.fin] _ hI.out (by omega)).mono ?_; rintro e w1 ⟨rfl, rfl⟩
  have X1 := Lib.hid (X0.out.next ((Below.refl _ _).alloc (Nat.le_refl _) (.cells #[.int .i64 r.inst, .int .i64 r.proc, .int .i64 r.piece, .int .i64 r.fin] 3)))
  clear hI X0
  obtain ⟨q0, hq0'⟩ : ∃ q0, [r.inst, r.proc, r.piece, r.fin].all okN = q0 := ⟨_, rfl⟩
  rw [hq0'] at hr ⊢
  clear hq0'
  cases q0
  · go_wp2_with fail
    go_ret
    exact ⟨by rw [hr.out]; simp [], X1.out.2⟩
  obtain ⟨⟨⟨x0, x1⟩, x2, x3⟩, ⟨x4, x5⟩, x6, x7⟩ := X1.out.cells
  go_wp2_with fail
  refine (rrightValues_any s.a.A s.a.n s.a.c r.args _ (HR.out.next X1.out.2).a (HS.out.1 _ (by simp [rowsOf]))).mono ?_; rintro e w2 ⟨rfl, b2⟩
  have X2 := Lib.hid (X1.out.next b2)
  clear b2 X1 x0 x1 x2 x3 x4 x5 x6 x7
  cases q1 : okR r.args
  · go_wp2_with fail
    go_ret
    exact ⟨by rw [hr.out]; simp [q1], X2.out.2⟩
  obtain ⟨⟨⟨x0, x1⟩, x2, x3⟩, ⟨x4, x5⟩, x6, x7⟩ := X2.out.cells
  go_wp2_with fail
  refine (rrightValues_any s.e.A s.e.n s.e.c r.emits _ (HR.out.next X2.out.2).e (HS.out.1 _ (by simp [rowsOf]))).mono ?_; rintro e w3 ⟨rfl, b3⟩
  have X3 := Lib.hid (X2.out.next b3)
  clear b3 X2 x0 x1 x2 x3 x4 x5 x6 x7
  cases q2 : okR r.emits
  · go_wp2_with fail
    go_ret
    exact ⟨by rw [hr.out]; simp [q1, q2], X3.out.2⟩
  obtain ⟨⟨⟨x0, x1⟩, x2, x3⟩, ⟨x4, x5⟩, x6, x7⟩ := X3.out.cells
  go_wp2_with fail
  refine (rrightValues_any s.l.A s.l.n s.l.c r.locals _ (HR.out.next X3.out.2).l (HS.out.1 _ (by simp [rowsOf]))).mono ?_; rintro e w4 ⟨rfl, b4⟩
  have X4 := Lib.hid (X3.out.next b4)
  clear b4 X3 x0 x1 x2 x3 x4 x5 x6 x7
  cases q3 : okR r.locals
  · go_wp2_with fail
    go_ret
    exact ⟨by rw [hr.out]; simp [q1, q2, q3], X4.out.2⟩
  obtain ⟨⟨⟨x0, x1⟩, x2, x3⟩, ⟨x4, x5⟩, x6, x7⟩ := X4.out.cells
  go_wp2_with fail
  refine (rrightChanges_any s.c.A s.c.n s.c.c r.changes _ (HR.out.next X4.out.2).c HS.out.2).mono ?_; rintro e w5 ⟨rfl, b5⟩
  have X5 := Lib.hid (X4.out.next b5)
  clear b5 X4 x0 x1 x2 x3 x4 x5 x6 x7
  cases q4 : r.changes.all okG
  · go_wp2_with fail
    go_ret
    exact ⟨by rw [hr.out]; simp [q1, q2, q3, q4], X5.out.2⟩
  · go_wp2_with fail
    go_ret
    exact ⟨by rw [hr.out]; simp [q1, q2, q3, q4], X5.out.2⟩
end Go.Proofs.Ytpkoijlbbfffiaa.R
