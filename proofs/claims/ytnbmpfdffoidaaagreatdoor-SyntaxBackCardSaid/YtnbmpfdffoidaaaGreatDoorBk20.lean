/- Texts of the proof, joined: SynOpd2, SynStT, SynStm, SynEach. -/
import Derived.Test.YtnbmpfdffoidaaaGreatDoorBk19
set_option linter.unusedVariables false
set_option linter.unusedSimpArgs false
set_option maxHeartbeats 8000000
set_option maxRecDepth 100000
namespace Go.Proofs.YtnbmpfdffoidaaaGreatDoor.Y
open Go.RowKit O V S X
theorem opd_name (f : Nat) (hE : EC f) (g d : Nat) (l : List Tok) (w : World) (h : Ps w g d l) (hd : d ≤ 16) (hno : pOperand (f + 1) d l ≠ .oof) (hl : pLit l = none) (h40 : isT l [40] = false) (hh : isT l w_has = false) (hs : isT l w_sum = false) (hc : isT l w_count = false) :
  Calls Tryz.prog 180 #[.pointer (some ⟨g, 0, none⟩)] w (Out [g] g d w (pOperand (f + 1) d l) (ExG w.heap.size)) := by
 have HE := Lib.hid hE
 have hmf : ∀ (fn : Fn) (first cap : Array Value) (w : World), (Instr.makeFunc fn first cap).run Tryz.prog w = .ok (.func fn first cap) w := fun _ _ _ _ => rfl
 obtain ⟨RT, hRT⟩ : ∃ RT, pOperand (f + 1) d l = RT := ⟨_, rfl⟩
 rw [hRT] at hno ⊢
 rw [pOperand_none hl] at hRT
 have HRT := Lib.hid hRT
 have HNO := Lib.hid hno
 have HS := Lib.hid h
 have hlt := h.lt
 clear hRT hno h
 clear hE
 have hR := HRT.out
 rw [h40, hh, hs, hc] at hR
 simp only [Bool.false_eq_true, if_false] at hR
 have HR := Lib.hid hR
 clear hR HRT
 have HA : Hid (Below w.heap.size w ((w.alloc (.cells #[.pointer (some ⟨g, 0, none⟩)] 51)).alloc (.cells #[nv 0, nv 0, nv 0, sv [], sv [], sv [], nv 0, .slice none 0 0, nv 0, nv 0, nv 0] 59))) := Lib.hid (by repeat (first | exact Below.refl _ _ | refine Below.alloc ?_ (by simp <;> omega) _))
 have HB0 : Hid (((w.alloc (.cells #[.pointer (some ⟨g, 0, none⟩)] 51)).alloc (.cells #[nv 0, nv 0, nv 0, sv [], sv [], sv [], nv 0, .slice none 0 0, nv 0, nv 0, nv 0] 59)).heap[w.heap.size]? = some (.cells #[.pointer (some ⟨g, 0, none⟩)] 51 (0, 0))) := Lib.hid (alloc_old' (alloc_at rfl))
 have HB1 : Hid (((w.alloc (.cells #[.pointer (some ⟨g, 0, none⟩)] 51)).alloc (.cells #[nv 0, nv 0, nv 0, sv [], sv [], sv [], nv 0, .slice none 0 0, nv 0, nv 0, nv 0] 59)).heap[w.heap.size + 1]? = some (.cells #[nv 0, nv 0, nv 0, sv [], sv [], sv [], nv 0, .slice none 0 0, nv 0, nv 0, nv 0] 59 (0, 0))) := Lib.hid (alloc_at (by simp))
 have hz2 : ((w.alloc (.cells #[.pointer (some ⟨g, 0, none⟩)] 51)).alloc (.cells #[nv 0, nv 0, nv 0, sv [], sv [], sv [], nv 0, .slice none 0 0, nv 0, nv 0, nv 0] 59)).heap.size = w.heap.size + 2 := by simp
 go_enter Tryz.func180, Tryz.ntmps180
 go_wp2_with fail
 have HP2 := Lib.hid (HS.out.next HA.out)
 obtain ⟨w2, hw2⟩ : ∃ w2, ((w.alloc (.cells #[.pointer (some ⟨g, 0, none⟩)] 51)).alloc (.cells #[nv 0, nv 0, nv 0, sv [], sv [], sv [], nv 0, .slice none 0 0, nv 0, nv 0, nv 0] 59)) = w2 := ⟨_, rfl⟩
 rw [hw2] at HA HB0 HB1 hz2 HP2 ⊢
 clear hw2
 refine (here_any g d l _ HP2.out).mono ?_; rintro e w3 ⟨⟨p, q, z, rfl⟩, b3⟩
 have hb1 := box_next HB1.out b3
 obtain ⟨⟨⟨⟨y0, y1⟩, y2, y3⟩, ⟨y4, y5⟩, y6, y7⟩, ⟨y8, y9⟩, y10⟩ := cells11 hb1
 obtain ⟨⟨⟨⟨fr0, fr1⟩, fr2, fr3⟩, ⟨fr4, fr5⟩, fr6, fr7⟩, ⟨fr8, fr9⟩, fr10⟩ := frozen11 hb1
 have q0 : w3.cell? ⟨w.heap.size, 0, none⟩ = some (.pointer (some ⟨g, 0, none⟩)) := by rw [Lib.cell_of_heap (box_next HB0.out b3)]; rfl
 have hs3 := b3.size
 go_wp2_with fail
 have HB4 : Hid ((((w3.setCell ⟨w.heap.size + 1, 8, none⟩ (.int .i64 p)).setCell ⟨w.heap.size + 1, 9, none⟩ (.int .i64 q)).setCell ⟨w.heap.size + 1, 10, none⟩ (.int .i64 z)).heap[w.heap.size + 1]? = some (.cells #[nv 0, nv 0, nv 0, sv [], sv [], sv [], nv 0, .slice none 0 0, nv p, nv q, nv z] 59 (0, 0))) := Lib.hid (heap_set' (heap_set' (heap_set' hb1 _ 8 rfl) _ 9 rfl) _ 10 rfl)
 have HM4 : Hid (Mod [g] w (((w3.setCell ⟨w.heap.size + 1, 8, none⟩ (.int .i64 p)).setCell ⟨w.heap.size + 1, 9, none⟩ (.int .i64 q)).setCell ⟨w.heap.size + 1, 10, none⟩ (.int .i64 z))) := Lib.hid (((((Mod.of_below HA.out).then (.of_below b3)).set (.inr (by omega)) _).set (.inr (by omega)) _).set (.inr (by omega)) _)
 have HP4 := Lib.hid ((((HP2.out.next b3).set (b := w.heap.size + 1) (i := 8) (by omega) (.int .i64 p)).set (b := w.heap.size + 1) (i := 9) (by omega) (.int .i64 q)).set (b := w.heap.size + 1) (i := 10) (by omega) (.int .i64 z))
 have HB04 : Hid ((((w3.setCell ⟨w.heap.size + 1, 8, none⟩ (.int .i64 p)).setCell ⟨w.heap.size + 1, 9, none⟩ (.int .i64 q)).setCell ⟨w.heap.size + 1, 10, none⟩ (.int .i64 z)).heap[w.heap.size]? = some (.cells #[.pointer (some ⟨g, 0, none⟩)] 51 (0, 0))) := Lib.hid (by
  rw [Below.heap_setCell _ _ _ _ (by simp only; omega), Below.heap_setCell _ _ _ _ (by simp only; omega), Below.heap_setCell _ _ _ _ (by simp only; omega)]
  exact box_next HB0.out b3)
 have hz4 : (((w3.setCell ⟨w.heap.size + 1, 8, none⟩ (.int .i64 p)).setCell ⟨w.heap.size + 1, 9, none⟩ (.int .i64 q)).setCell ⟨w.heap.size + 1, 10, none⟩ (.int .i64 z)).heap.size = w3.heap.size := by simp
 obtain ⟨w4, hw4⟩ : ∃ w4, (((w3.setCell ⟨w.heap.size + 1, 8, none⟩ (.int .i64 p)).setCell ⟨w.heap.size + 1, 9, none⟩ (.int .i64 q)).setCell ⟨w.heap.size + 1, 10, none⟩ (.int .i64 z)) = w4 := ⟨_, rfl⟩
 rw [hw4] at HB4 HM4 HP4 HB04 hz4 ⊢
 clear hw4 b3 hb1 HB0 HB1 HA HP2 q0
 clear y0 y1 y2 y3 y4 y5 y6 y7 y8 y9 y10 fr0 fr1 fr2 fr3 fr4 fr5 fr6 fr7 fr8 fr9 fr10
 refine (literal_any g d l _ HP4.out).mono ?_; rintro e w5 ⟨m5, h5⟩
 rw [hl] at h5
 have HB5 := Lib.hid (m5.box HB4.out (by simp; omega))
 have HB05 := Lib.hid (m5.box HB04.out (by simp; omega))
 have HM5 := Lib.hid (HM4.out.then m5)
 have hs5 := m5.size
 clear m5 HB4 HB04 HM4 HP4
 obtain ⟨⟨a0, a1, a2, rfl⟩, p5⟩ := h5
 have P5 := Lib.hid p5
 clear p5
 have q0 : w5.cell? ⟨w.heap.size, 0, none⟩ = some (.pointer (some ⟨g, 0, none⟩)) := by rw [Lib.cell_of_heap HB05.out]; rfl
 have hs05 : w.heap.size < w5.heap.size := by omega
 go_wp2_with fail
 have HB6 := Lib.hid (alloc_old' (o := .cells #[nv a0, nv a1, sv a2] 57) HB5.out)
 have HB06 := Lib.hid (alloc_old' (o := .cells #[nv a0, nv a1, sv a2] 57) HB05.out)
 have HM6 := Lib.hid (HM5.out.alloc (.cells #[nv a0, nv a1, sv a2] 57))
 have P6 := Lib.hid (P5.out.alloc (.cells #[nv a0, nv a1, sv a2] 57))
 have hz6 : (w5.alloc (.cells #[nv a0, nv a1, sv a2] 57)).heap.size = w5.heap.size + 1 := by simp
 clear HB5 HB05 HM5 P5 q0
 generalize (w5.alloc (.cells #[nv a0, nv a1, sv a2] 57)) = w6 at *
 have q6 : w6.cell? ⟨w.heap.size, 0, none⟩ = some (.pointer (some ⟨g, 0, none⟩)) := by rw [Lib.cell_of_heap HB06.out]; rfl
 refine (is_any g d l [40] _ P6.out).mono ?_; rintro e w7 ⟨rfl, rfl⟩
 rw [h40]
 go_wp2_with fail
 refine (take_any g d l w_has w7 P6.out).mono ?_; rintro e w9 ⟨rfl, mt, pt⟩
 rw [hh] at pt ⊢
 simp only [if_false, Bool.false_eq_true] at pt
 replace HB6 := Lib.hid (mt.box HB6.out (by simp; omega))
 replace HB06 := Lib.hid (mt.box HB06.out (by simp; omega))
 replace HM6 := Lib.hid (HM6.out.then mt)
 have P6' := Lib.hid pt
 have hst9 := mt.size
 clear mt pt P6
 have P6 := P6'
 clear P6'
 have qt9 : w9.cell? ⟨w.heap.size, 0, none⟩ = some (.pointer (some ⟨g, 0, none⟩)) := by rw [Lib.cell_of_heap HB06.out]; rfl
 go_wp2_with fail
 refine (take_any g d l w_sum w9 P6.out).mono ?_; rintro e w10 ⟨rfl, mt, pt⟩
 rw [hs] at pt ⊢
 simp only [if_false, Bool.false_eq_true] at pt
 replace HB6 := Lib.hid (mt.box HB6.out (by simp; omega))
 replace HB06 := Lib.hid (mt.box HB06.out (by simp; omega))
 replace HM6 := Lib.hid (HM6.out.then mt)
 have P6' := Lib.hid pt
 have hst10 := mt.size
 clear mt pt P6
 have P6 := P6'
 clear P6'
 have qt10 : w10.cell? ⟨w.heap.size, 0, none⟩ = some (.pointer (some ⟨g, 0, none⟩)) := by rw [Lib.cell_of_heap HB06.out]; rfl
 go_wp2_with fail
 refine (take_any g d l w_count w10 P6.out).mono ?_; rintro e w11 ⟨rfl, mt, pt⟩
 rw [hc] at pt ⊢
 simp only [if_false, Bool.false_eq_true] at pt
 replace HB6 := Lib.hid (mt.box HB6.out (by simp; omega))
 replace HB06 := Lib.hid (mt.box HB06.out (by simp; omega))
 replace HM6 := Lib.hid (HM6.out.then mt)
 have P6' := Lib.hid pt
 have hst11 := mt.size
 clear mt pt P6
 have P6 := P6'
 clear P6'
 have qt11 : w11.cell? ⟨w.heap.size, 0, none⟩ = some (.pointer (some ⟨g, 0, none⟩)) := by rw [Lib.cell_of_heap HB06.out]; rfl
 go_wp2_with fail
 refine (name_any g d l w11 P6.out).mono ?_; rintro e w12 ⟨m12, h12⟩
 have HB12 := Lib.hid (m12.box HB6.out (by simp; omega))
 have HB012 := Lib.hid (m12.box HB06.out (by simp; omega))
 have HM12 := Lib.hid (HM6.out.then m12)
 have hs12 := m12.size
 clear m12 HB6 HB06 HM6 P6
 cases hp : pName l with
 | oof => rw [hp] at h12; exact h12.elim
 | bad =>
  rw [hp] at h12
  obtain ⟨er, ep, eq, ez, hne, rfl⟩ := h12
  have HN := Lib.hid hne
  clear hne
  have hq := (by have := HR.out; rw [hp] at this; exact this)
  simp only [bind_bad, bind_ok] at hq
  subst hq
  go_wp2_with fail
  exact ⟨rfl, HM12.out, er, ep, eq, ez, HN.out, rfl⟩
 | ok nm r1 =>
  rw [hp] at h12
  obtain ⟨p12, v, rfl, rfl, hnm⟩ := h12
  have hR1 := HR.out
  rw [hp] at hR1
  simp only [bind_ok] at hR1
  have HR1 := Lib.hid hR1
  have P12 := Lib.hid p12
  have q12 : w12.cell? ⟨w.heap.size, 0, none⟩ = some (.pointer (some ⟨g, 0, none⟩)) := by rw [Lib.cell_of_heap HB012.out]; rfl
  obtain ⟨⟨⟨⟨y0, y1⟩, y2, y3⟩, ⟨y4, y5⟩, y6, y7⟩, ⟨y8, y9⟩, y10⟩ := cells11 HB12.out
  obtain ⟨⟨⟨⟨fr0, fr1⟩, fr2, fr3⟩, ⟨fr4, fr5⟩, fr6, fr7⟩, ⟨fr8, fr9⟩, fr10⟩ := frozen11 HB12.out
  clear p12 hR1 hp HR hnm
  go_wp2_with fail
  clear y0 y1 y2 y3 y4 y5 y6 y7 y8 y9 y10 fr0 fr1 fr2 fr3 fr4 fr5 fr6 fr7 fr8 fr9 fr10
  have HB13 : Hid (((w12.setCell ⟨w.heap.size + 1, 0, none⟩ (.int .i64 2)).setCell ⟨w.heap.size + 1, 4, none⟩ (.string ⟨nm.toArray⟩)).heap[w.heap.size + 1]? = some (.cells #[nv 2, nv 0, nv 0, sv [], sv nm, sv [], nv 0, .slice none 0 0, nv p, nv q, nv z] 59 (0, 0))) := Lib.hid (heap_set' (heap_set' HB12.out _ 0 rfl) _ 4 rfl)
  have HB013 : Hid (((w12.setCell ⟨w.heap.size + 1, 0, none⟩ (.int .i64 2)).setCell ⟨w.heap.size + 1, 4, none⟩ (.string ⟨nm.toArray⟩)).heap[w.heap.size]? = some (.cells #[.pointer (some ⟨g, 0, none⟩)] 51 (0, 0))) := Lib.hid (by
   rw [Below.heap_setCell _ _ _ _ (by simp only; omega), Below.heap_setCell _ _ _ _ (by simp only; omega)]
   exact HB012.out)
  have HM13 := Lib.hid ((HM12.out.set (b := w.heap.size + 1) (i := 0) (.inr (by omega)) (.int .i64 2)).set (b := w.heap.size + 1) (i := 4) (.inr (by omega)) (.string ⟨nm.toArray⟩))
  have P13 := Lib.hid ((P12.out.set (b := w.heap.size + 1) (i := 0) (by omega) (.int .i64 2)).set (b := w.heap.size + 1) (i := 4) (by omega) (.string ⟨nm.toArray⟩))
  have hz13 : ((w12.setCell ⟨w.heap.size + 1, 0, none⟩ (.int .i64 2)).setCell ⟨w.heap.size + 1, 4, none⟩ (.string ⟨nm.toArray⟩)).heap.size = w12.heap.size := by simp
  obtain ⟨w13, hw13⟩ : ∃ w13, ((w12.setCell ⟨w.heap.size + 1, 0, none⟩ (.int .i64 2)).setCell ⟨w.heap.size + 1, 4, none⟩ (.string ⟨nm.toArray⟩)) = w13 := ⟨_, rfl⟩
  rw [hw13] at HB13 HB013 HM13 P13 hz13 ⊢
  clear hw13 HB12 HB012 HM12 P12 q12
  have q13 : w13.cell? ⟨w.heap.size, 0, none⟩ = some (.pointer (some ⟨g, 0, none⟩)) := by rw [Lib.cell_of_heap HB013.out]; rfl
  refine (is_any g d r1 [91] _ P13.out).mono ?_; rintro e w14 ⟨rfl, rfl⟩
  cases h91 : isT r1 [91] with
  | false =>
   have hR2 := HR1.out
   rw [h91] at hR2
   simp only [Bool.false_eq_true, if_false] at hR2
   obtain ⟨y, hy⟩ : ∃ y, y = Ex.var nm := ⟨_, rfl⟩
   have hrt : RT = .ok y r1 := by rw [hy]; exact hR2.symm
   subst hrt
   have e2 : ExR w14 (fun _ => False) y (exC y (.slice none 0 0) p q z) := by rw [hy]; exact ExR.leaf rfl (Nat.zero_le _) rfl
   have e1 : w14.heap[w.heap.size + 1]? = some (.cells (exC y (.slice none 0 0) p q z).toArray 59 (0, 0)) := by rw [hy]; exact HB13.out
   have e3 : ∀ b, (fun _ : Nat => False) b → w2.heap.size ≤ b ∧ b < w14.heap.size := fun _ h => h.elim
   clear hy hR2 HR1
   obtain ⟨S, hS⟩ : ∃ S, (fun _ : Nat => False) = S := ⟨_, rfl⟩
   rw [hS] at e2 e3
   have M7 := HM13
   have P7 := P13
   obtain ⟨w8, hw8⟩ : ∃ w8, w14 = w8 := ⟨_, rfl⟩
   rw [hw8] at e1 e2 e3 M7 P7 ⊢
   clear hw8 HM13 P13 HB13 HB013 q13
   obtain ⟨vs, hvs⟩ : ∃ vs, exC y (.slice none 0 0) p q z = vs := ⟨_, rfl⟩
   rw [hvs] at e1 e2
   clear hvs
   obtain ⟨A, n, c, p', q', z', rfl⟩ := e2.form
   have HB7 : Hid (w8.heap[w.heap.size + 1]? = some (.cells #[nv (hdK y), nv (hdV y).k, nv (hdV y).n, sv (hdV y).s, sv (hdN y), sv (hdC y), nv (hdO y : Nat), .slice A n c, nv p', nv q', nv z'] 59 (0, 0))) := Lib.hid e1
   have X7 := Lib.hid e2
   have S7 : Hid (∀ b, S b → w2.heap.size ≤ b ∧ b < w8.heap.size) := Lib.hid (fun b hb => by have := e3 b hb; omega)
   clear e1 e2 e3
   obtain ⟨⟨⟨⟨y0, y1⟩, y2, y3⟩, ⟨y4, y5⟩, y6, y7⟩, ⟨y8, y9⟩, y10⟩ := cells11 HB7.out
   obtain ⟨⟨⟨⟨fr0, fr1⟩, fr2, fr3⟩, ⟨fr4, fr5⟩, fr6, fr7⟩, ⟨fr8, fr9⟩, fr10⟩ := frozen11 HB7.out
   go_wp2_with fail
   refine bodyPost_ret (v := .agg #[nv (hdK y), nv (hdV y).k, nv (hdV y).n, sv (hdV y).s, sv (hdN y), sv (hdC y), nv (hdO y : Nat), .slice A n c, nv p', nv q', nv z']) (by simp [results, Tryz.results180, go_sem, y0, y1, y2, y3, y4, y5, y6, y7, y8, y9, y10]) rfl ?_
   have hns : ¬ S (w.heap.size + 1) := fun hh => by have := S7.out _ hh; omega
   refine ⟨?_, ?_, _, rfl, exC y (.slice A n c) p' q' z', S, rfl, ?_, ?_⟩
   ·repeat (first | (with_reducible exact M7.out) | refine Mod.set ?_ (.inr (Nat.le_succ _)) _)
   ·repeat (first | (with_reducible exact P7.out) | refine Ps.set ?_ (Nat.lt_succ_of_lt hlt) _)
   ·repeat (first | (with_reducible exact X7.out) | refine ExR.set ?_ hns _)
   ·intro b hb
    have := S7.out b hb
    simp
    omega
  | true =>
   have hR2 := HR1.out
   rw [h91] at hR2
   simp only [if_true] at hR2
   have hnoK := bind_no hR2 HNO.out
   have HR2 := Lib.hid hR2
   clear hR2 HR1
   go_wp2_with fail
   refine (key_any f HE.out g d r1 _ P13.out hd hnoK).mono ?_; rintro e w15 ⟨m15, h15⟩
   have HB15 := Lib.hid (m15.box HB13.out (by simp; omega))
   have HB015 := Lib.hid (m15.box HB013.out (by simp; omega))
   have HM15 := Lib.hid (HM13.out.then m15)
   have hs15 := m15.size
   clear m15 HB13 HB013 HM13 P13 q13
   cases hp : pKey f d r1 with
   | oof => exact absurd hp hnoK
   | bad =>
    rw [hp] at h15
    obtain ⟨er, ep, eq, ez, hne, rfl⟩ := h15
    have HN := Lib.hid hne
    clear hne
    have hq := (by have := HR2.out; rw [hp] at this; exact this)
    simp only [bind_bad, bind_ok] at hq
    subst hq
    go_wp2_with fail
    exact ⟨rfl, HM15.out, er, ep, eq, ez, HN.out, rfl⟩
   | ok kx r2 =>
    rw [hp] at h15
    obtain ⟨p15, v, rfl, vs, S, rfl, hx, hS⟩ := h15
    obtain ⟨A, n, c, pa, pb, pc, rfl⟩ := hx.form
    have hv : Value.agg (exC kx (.slice A n c) pa pb pc).toArray = .agg #[nv (hdK kx), nv (hdV kx).k, nv (hdV kx).n, sv (hdV kx).s, sv (hdN kx), sv (hdC kx), nv (hdO kx : Nat), .slice A n c, nv pa, nv pb, nv pc] := rfl
    rw [hv]
    have hR3 := HR2.out
    rw [hp] at hR3
    simp only [bind_ok] at hR3
    have HR3 := Lib.hid hR3
    have P15 := Lib.hid p15
    have X15 := Lib.hid hx
    have S15 := Lib.hid hS
    have q15 : w15.cell? ⟨w.heap.size, 0, none⟩ = some (.pointer (some ⟨g, 0, none⟩)) := by rw [Lib.cell_of_heap HB015.out]; rfl
    obtain ⟨⟨⟨⟨y0, y1⟩, y2, y3⟩, ⟨y4, y5⟩, y6, y7⟩, ⟨y8, y9⟩, y10⟩ := cells11 HB15.out
    obtain ⟨⟨⟨⟨fr0, fr1⟩, fr2, fr3⟩, ⟨fr4, fr5⟩, fr6, fr7⟩, ⟨fr8, fr9⟩, fr10⟩ := frozen11 HB15.out
    have hb15 : w.heap.size + 1 < w15.heap.size := (Array.getElem?_eq_some_iff.1 HB15.out).1
    have hb015 : w.heap.size < w15.heap.size := (Array.getElem?_eq_some_iff.1 HB015.out).1
    clear hv hR3 hp HR2 hnoK p15 hx hS
    go_wp2_with fail
    clear y0 y1 y2 y3 y4 y5 y6 y7 y8 y9 y10 fr0 fr1 fr2 fr3 fr4 fr5 fr6 fr7 fr8 fr9 fr10
    obtain ⟨w16, hw16⟩ : ∃ w16, w16 = (((w15.setCell ⟨w.heap.size + 1, 0, none⟩ (.int .i64 3)).setCell ⟨w.heap.size + 1, 7, none⟩ (.slice (some ⟨w15.heap.size, 0, none⟩) 1 1)).alloc (.cells #[nv (hdK kx), nv (hdV kx).k, nv (hdV kx).n, sv (hdV kx).s, sv (hdN kx), sv (hdC kx), nv (hdO kx : Nat), .slice A n c, nv pa, nv pb, nv pc] 59)).alloc (.cells #[sv [46]] 9) := ⟨_, rfl⟩
    have HB16 : Hid (w16.heap[w.heap.size + 1]? = some (.cells #[nv 3, nv 0, nv 0, sv [], sv nm, sv [], nv 0, .slice (some ⟨w15.heap.size, 0, none⟩) 1 1, nv p, nv q, nv z] 59 (0, 0))) := Lib.hid (by
     rw [hw16]
     exact alloc_old' (alloc_old' (heap_set' (heap_set' HB15.out _ 0 rfl) _ 7 rfl)))
    have HB016 : Hid (w16.heap[w.heap.size]? = some (.cells #[.pointer (some ⟨g, 0, none⟩)] 51 (0, 0))) := Lib.hid (by
     rw [hw16]
     refine alloc_old' (alloc_old' ?_)
     rw [Below.heap_setCell _ _ _ _ (by simp only; omega), Below.heap_setCell _ _ _ _ (by simp only; omega)]
     exact HB015.out)
    have HM16 : Hid (Mod [g] w w16) := Lib.hid (by
     rw [hw16]
     exact (((HM15.out.set (.inr (by omega)) _).set (.inr (by omega)) _).alloc _).alloc _)
    have P16 : Hid (Ps w16 g d r2) := Lib.hid (by
     rw [hw16]
     exact (((P15.out.set (by omega) _).set (by omega) _).alloc _).alloc _)
    have R16 : Hid (w16.heap[w15.heap.size]? = some (.cells (exC kx (.slice A n c) pa pb pc).toArray 59 (0, 0))) := Lib.hid (by
     rw [hw16]
     exact alloc_old' (alloc_at (by simp)))
    have D16 : Hid (w16.heap[w15.heap.size + 1]? = some (.cells #[sv [46]] 9 (0, 0))) := Lib.hid (by
     rw [hw16]
     exact alloc_at (by simp))
    have hz16 : w16.heap.size = w15.heap.size + 2 := by rw [hw16]; simp
    have X16 : Hid (ExR w16 S kx (exC kx (.slice A n c) pa pb pc)) := Lib.hid (ExR.keep (fun b hb => by
     have := S15.out b hb
     rw [hw16, Below.heap_alloc _ _ _ (by simp; omega), Below.heap_alloc _ _ _ (by simp; omega), Below.heap_setCell _ _ _ _ (by simp only; omega), Below.heap_setCell _ _ _ _ (by simp only; omega)]) _ _ X15.out)
    rw [← hw16]
    clear hw16 HB15 HB015 HM15 P15 X15 q15
    refine (want_any g d r2 [46] (w15.heap.size + 1) w16 P16.out (by omega) D16.out).mono ?_; rintro e w17 ⟨m17, h17⟩
    have HB17 := Lib.hid (m17.box HB16.out (by simp; omega))
    have HB017 := Lib.hid (m17.box HB016.out (by simp; omega))
    have HM17 := Lib.hid (HM16.out.then m17)
    have R17 := Lib.hid (m17.box R16.out (by simp; omega))
    have X17 : Hid (ExR w17 S kx (exC kx (.slice A n c) pa pb pc)) := Lib.hid (ExR.keep (fun b hb => m17.block b (by have := S15.out b hb; omega) (by have := S15.out b hb; simp; omega)) _ _ X16.out)
    have hs17 := m17.size
    clear m17 HB16 HB016 HM16 R16 X16 P16 D16
    cases hp : want r2 [46] with
    | oof => rw [hp] at h17; exact h17.elim
    | bad =>
     rw [hp] at h17
     obtain ⟨er, ep, eq, ez, hne, rfl⟩ := h17
     have HN := Lib.hid hne
     clear hne
     have hq := (by have := HR3.out; rw [hp] at this; exact this)
     simp only [bind_bad, bind_ok] at hq
     subst hq
     go_wp2_with fail
     exact ⟨rfl, HM17.out, er, ep, eq, ez, HN.out, rfl⟩
    | ok u3 r3 =>
     rw [hp] at h17
     obtain ⟨p17, v, rfl, rfl⟩ := h17
     have hR4 := HR3.out
     rw [hp] at hR4
     simp only [bind_ok] at hR4
     have HR4 := Lib.hid hR4
     have P17 := Lib.hid p17
     have q17 : w17.cell? ⟨w.heap.size, 0, none⟩ = some (.pointer (some ⟨g, 0, none⟩)) := by rw [Lib.cell_of_heap HB017.out]; rfl
     clear p17 hR4 hp HR3
     go_wp2_with fail
     refine (name_any g d r3 w17 P17.out).mono ?_; rintro e w18 ⟨m18, h18⟩
     have HB18 := Lib.hid (m18.box HB17.out (by simp; omega))
     have HM18 := Lib.hid (HM17.out.then m18)
     have R18 := Lib.hid (m18.box R17.out (by simp; omega))
     have X18 : Hid (ExR w18 S kx (exC kx (.slice A n c) pa pb pc)) := Lib.hid (ExR.keep (fun b hb => m18.block b (by have := S15.out b hb; omega) (by have := S15.out b hb; simp; omega)) _ _ X17.out)
     have hs18 := m18.size
     clear m18 HB17 HB017 HM17 R17 X17 P17 q17
     cases hp : pName r3 with
     | oof => rw [hp] at h18; exact h18.elim
     | bad =>
      rw [hp] at h18
      obtain ⟨er, ep, eq, ez, hne, rfl⟩ := h18
      have HN := Lib.hid hne
      clear hne
      have hq := (by have := HR4.out; rw [hp] at this; exact this)
      simp only [bind_bad, bind_ok] at hq
      subst hq
      go_wp2_with fail
      exact ⟨rfl, HM18.out, er, ep, eq, ez, HN.out, rfl⟩
     | ok cl r4 =>
      rw [hp] at h18
      obtain ⟨p18, v, rfl, rfl, hcn⟩ := h18
      obtain ⟨y, hy⟩ : ∃ y, y = Ex.cell nm cl kx := ⟨_, rfl⟩
      have hrt : RT = .ok y r4 := by rw [hy]; have := HR4.out; rw [hp] at this; exact this.symm
      subst hrt
      have P18 := Lib.hid p18
      obtain ⟨⟨⟨⟨y0, y1⟩, y2, y3⟩, ⟨y4, y5⟩, y6, y7⟩, ⟨y8, y9⟩, y10⟩ := cells11 HB18.out
      obtain ⟨⟨⟨⟨fr0, fr1⟩, fr2, fr3⟩, ⟨fr4, fr5⟩, fr6, fr7⟩, ⟨fr8, fr9⟩, fr10⟩ := frozen11 HB18.out
      clear p18 hp HR4 hcn
      go_wp2_with fail
      refine bodyPost_ret (v := .agg #[nv 3, nv 0, nv 0, sv [], sv nm, sv cl, nv 0, .slice (some ⟨w15.heap.size, 0, none⟩) 1 1, nv p, nv q, nv z]) (by simp [results, Tryz.results180, go_sem, y0, y1, y2, y3, y4, y5, y6, y7, y8, y9, y10]) rfl ?_
      have hns : ¬ (S (w.heap.size + 1) ∨ w.heap.size + 1 = w15.heap.size) := by
       rintro (hh | hh)
       ·have := S15.out _ hh; omega
       ·omega
      have hXf : ExR w18 (fun b => S b ∨ b = w15.heap.size) y (exC y (.slice (some ⟨w15.heap.size, 0, none⟩) 1 1) p q z) := by
       rw [hy]
       exact ExR.one rfl rfl (Row.of_block R18.out (.inr rfl) rfl (by omega) (by omega)) (ExR.mono (fun b hb => .inl hb) _ _ X18.out)
      refine ⟨?_, ?_, _, rfl, exC y (.slice (some ⟨w15.heap.size, 0, none⟩) 1 1) p q z, fun b => S b ∨ b = w15.heap.size, by rw [hy]; rfl, ?_, ?_⟩
      ·repeat (first | (with_reducible exact HM18.out) | refine Mod.set ?_ (.inr (Nat.le_succ _)) _)
      ·repeat (first | (with_reducible exact P18.out) | refine Ps.set ?_ (Nat.lt_succ_of_lt hlt) _)
      ·repeat (first | (with_reducible exact hXf) | refine ExR.set ?_ hns _)
      ·intro b hb
       have : w.heap.size ≤ b ∧ b < w18.heap.size := by
        rcases hb with hb | hb
        ·have := S15.out b hb; omega
        ·omega
       simp
       omega
theorem operand_step (f : Nat) (hE : EC f) : OC (f + 1) := by
 intro g d l w h hd hno
 cases hl : pLit l with
 | some v => exact opd_lit f hE g d l w h hd hno v hl
 | none =>
  cases h40 : isT l [40] with
  | true => exact opd_par f hE g d l w h hd hno hl h40
  | false =>
   cases hh : isT l w_has with
   | true => exact opd_has f hE g d l w h hd hno hl h40 hh
   | false =>
    cases hs : isT l w_sum with
    | true => exact opd_sum f hE g d l w h hd hno hl h40 hh hs
    | false =>
     cases hc : isT l w_count with
     | true => exact opd_cnt f hE g d l w h hd hno hl h40 hh hs hc
     | false => exact opd_name f hE g d l w h hd hno hl h40 hh hs hc
end Go.Proofs.YtnbmpfdffoidaaaGreatDoor.Y
namespace Go.Proofs.YtnbmpfdffoidaaaGreatDoor.Y
open Go.RowKit O V S X
theorem Out.parts {α : Type} {bs : List Nat} {g d : Nat} {w : World} {R : Res α} {good : α → World → Value → Prop} {e : Ending} {w' : World} (h : Out bs g d w R good e w') :
  (R = .bad ∧ Bad e) ∨ ∃ a l v, R = .ok a l ∧ Ps w' g d l ∧ e = .returned v ∧ good a w' v := by
 obtain ⟨_, h⟩ := h
 cases R with
 | oof => exact h.elim
 | bad => exact .inl ⟨rfl, h⟩
 | ok a l =>
  obtain ⟨p, v, e, hg⟩ := h
  exact .inr ⟨a, l, v, rfl, p, e, hg⟩
theorem exprs : ∀ f, EC f ∧ UC f ∧ OC f := by
 have z : EC 0 ∧ UC 0 ∧ OC 0 := ⟨fun _ _ _ _ _ _ _ h => absurd (by rw [pExpr]) h, fun _ _ _ _ _ _ h => absurd (by rw [pUnary]) h, fun _ _ _ _ _ _ h => absurd (by rw [pOperand]) h⟩
 have all : ∀ f f', f' ≤ f → EC f' ∧ UC f' ∧ OC f' := by
  intro f
  induction f with
  | zero =>
   intro f' h
   obtain rfl : f' = 0 := by omega
   exact z
  | succ f ih =>
   intro f' h
   rcases Nat.lt_or_ge f' (f + 1) with h1 | h1
   ·exact ih f' (by omega)
   ·obtain rfl : f' = f + 1 := by omega
    obtain ⟨he, hu, ho⟩ := ih f (Nat.le_refl _)
    exact ⟨expr_step f hu (fun k hk => (ih k hk).1), unary_step f hu ho, operand_step f he⟩
 exact fun f => all f f (Nat.le_refl _)
def TreeX (w : World) (lo : Nat) (x : Ex) (vs : List Value) : Prop := ∃ S, ExR w S x vs ∧ In lo w S
def RowX (w : World) (lo : Nat) (A : Option Addr) (n c : Nat) (l : List Ex) : Prop := ∃ xs S, Row w S 11 A n c xs ∧ Reps (ExR w S) l xs ∧ In lo w S
def RowS (w : World) (lo : Nat) (A : Option Addr) (n c : Nat) (b : Sts) : Prop := ∃ xs S, Row w S 11 A n c xs ∧ StsR w S b xs ∧ In lo w S
def TreeS (w : World) (lo : Nat) (s : St) (vs : List Value) : Prop := ∃ S, StR w S s vs ∧ In lo w S
section
variable {w w' : World} {lo lo' : Nat} {bs : List Nat}
theorem TreeX.mod {x : Ex} {vs : List Value} (h : TreeX w lo x vs) (m : Mod bs w w') (hb : ∀ b ∈ bs, b < lo) : TreeX w' lo x vs := by
 obtain ⟨S, h1, h2⟩ := h
 exact ⟨S, ExR.keep (h2.keeps m hb) _ _ h1, h2.next m.size⟩
theorem RowX.mod {A : Option Addr} {n c : Nat} {l : List Ex} (h : RowX w lo A n c l) (m : Mod bs w w') (hb : ∀ b ∈ bs, b < lo) : RowX w' lo A n c l := by
 obtain ⟨xs, S, h1, h2, h3⟩ := h
 exact ⟨xs, S, h1.keep (h3.keeps m hb), h2.imp fun x vs => ExR.keep (h3.keeps m hb) x vs, h3.next m.size⟩
theorem RowS.mod {A : Option Addr} {n c : Nat} {b : Sts} (h : RowS w lo A n c b) (m : Mod bs w w') (hb : ∀ b ∈ bs, b < lo) : RowS w' lo A n c b := by
 obtain ⟨xs, S, h1, h2, h3⟩ := h
 exact ⟨xs, S, h1.keep (h3.keeps m hb), StsR.keep (h3.keeps m hb) _ _ h2, h3.next m.size⟩
theorem TreeS.mod {s : St} {vs : List Value} (h : TreeS w lo s vs) (m : Mod bs w w') (hb : ∀ b ∈ bs, b < lo) : TreeS w' lo s vs := by
 obtain ⟨S, h1, h2⟩ := h
 exact ⟨S, StR.keep (h2.keeps m hb) _ _ h1, h2.next m.size⟩
theorem TreeX.more {x : Ex} {vs : List Value} (h : TreeX w lo x vs) (hl : lo' ≤ lo) : TreeX w lo' x vs := by
 obtain ⟨S, h1, h2⟩ := h
 exact ⟨S, h1, h2.more hl⟩
theorem RowX.more {A : Option Addr} {n c : Nat} {l : List Ex} (h : RowX w lo A n c l) (hl : lo' ≤ lo) : RowX w lo' A n c l := by
 obtain ⟨xs, S, h1, h2, h3⟩ := h
 exact ⟨xs, S, h1, h2, h3.more hl⟩
theorem RowS.more {A : Option Addr} {n c : Nat} {b : Sts} (h : RowS w lo A n c b) (hl : lo' ≤ lo) : RowS w lo' A n c b := by
 obtain ⟨xs, S, h1, h2, h3⟩ := h
 exact ⟨xs, S, h1, h2, h3.more hl⟩
theorem TreeS.more {s : St} {vs : List Value} (h : TreeS w lo s vs) (hl : lo' ≤ lo) : TreeS w lo' s vs := by
 obtain ⟨S, h1, h2⟩ := h
 exact ⟨S, h1, h2.more hl⟩
theorem RowX.nil_ : RowX w lo none 0 0 [] := ⟨[], fun _ => False, Row.nil_, rfl, fun _ h => h.elim⟩
theorem RowS.nil_ : RowS w lo none 0 0 .nil := ⟨[], fun _ => False, Row.nil_, (StsR_nil _).2 rfl, fun _ h => h.elim⟩
theorem RowX.one {b c : Nat} {x : Ex} {vs : List Value} (h : TreeX w lo x vs) (hb : w.heap[b]? = some (.cells vs.toArray 59 (0, 0))) (hl : lo ≤ b) (hc : c = 1) : RowX w lo (some ⟨b, 0, none⟩) 1 c [x] := by
 obtain ⟨S, h1, h2⟩ := h
 subst hc
 refine ⟨vs, fun k => S k ∨ k = b, Row.of_block hb (.inr rfl) (by rw [ExR.size _ _ h1]) (by omega) (by omega), .one (ExR.mono (fun k hk => .inl hk) _ _ h1), ?_⟩
 rintro k (hk | hk)
 ·exact h2 k hk
 ·exact ⟨by omega, by rw [hk]; exact (Array.getElem?_eq_some_iff.1 hb).1⟩
theorem RowX.two {b c : Nat} {x y : Ex} {vs us : List Value} (h : TreeX w lo x vs) (k : TreeX w lo y us) (hb : w.heap[b]? = some (.cells (vs ++ us).toArray 59 (0, 0))) (hl : lo ≤ b) (hc : c = 2) : RowX w lo (some ⟨b, 0, none⟩) 2 c [x, y] := by
 obtain ⟨S, h1, h2⟩ := h
 obtain ⟨S', k1, k2⟩ := k
 subst hc
 refine ⟨vs ++ us, fun k => (S k ∨ S' k) ∨ k = b, Row.of_block hb (.inr rfl) (by rw [List.length_append, ExR.size _ _ h1, ExR.size _ _ k1]) (by omega) (by omega), ⟨vs, us, rfl, ExR.mono (fun k hk => .inl (.inl hk)) _ _ h1, us, [], by simp, ExR.mono (fun k hk => .inl (.inr hk)) _ _ k1, rfl⟩, ?_⟩
 rintro k ((hk | hk) | hk)
 ·exact h2 k hk
 ·exact k2 k hk
 ·exact ⟨by omega, by rw [hk]; exact (Array.getElem?_eq_some_iff.1 hb).1⟩
theorem TreeX.form {x : Ex} {vs : List Value} (h : TreeX w lo x vs) : ∃ (A : Option Addr) (n c : Nat) (p q r : Int), vs = exC x (.slice A n c) p q r := by
 obtain ⟨S, h1, _⟩ := h
 exact h1.form
theorem TreeS.mk {s : St} {A B E : Option Addr} {n c m d k f : Nat} {p q r : Int} (h1 : RowX w lo A n c (stA s)) (hn : n = (stA s).length) (h2 : RowS w lo B m d (stB s)) (hm : m = (stB s).len) (h3 : RowS w lo E k f (stE s)) (hk : k = (stE s).len) :
  TreeS w lo s (stV s (.slice A n c) (.slice B m d) (.slice E k f) p q r) := by
 subst hn hm hk
 obtain ⟨es, S1, a1, a2, a3⟩ := h1
 obtain ⟨bs, S2, b1, b2, b3⟩ := h2
 obtain ⟨fs, S3, c1, c2, c3⟩ := h3
 refine ⟨fun b => S1 b ∨ S2 b ∨ S3 b, (StR_eq _ _).2 ⟨A, c, es, B, d, bs, E, f, fs, p, q, r, rfl, ⟨a1.mono fun _ h => .inl h, a2.imp fun x vs => ExR.mono (fun _ h => .inl h) x vs⟩, ⟨b1.mono fun _ h => .inr (.inl h), StsR.mono (fun _ h => .inr (.inl h)) _ _ b2⟩, c1.mono fun _ h => .inr (.inr h), StsR.mono (fun _ h => .inr (.inr h)) _ _ c2⟩, ?_⟩
 rintro b (hb | hb | hb)
 ·exact a3 b hb
 ·exact b3 b hb
 ·exact c3 b hb
theorem TreeS.form {s : St} {vs : List Value} (h : TreeS w lo s vs) : ∃ (A B E : Option Addr) (n c m d k f : Nat) (p q r : Int), vs = stV s (.slice A n c) (.slice B m d) (.slice E k f) p q r := by
 obtain ⟨S, h1, _⟩ := h
 obtain ⟨A, c, es, B, d, bs, E, f, fs, p, q, r, e, _⟩ := (StR_eq _ _).1 h1
 exact ⟨A, B, E, _, c, _, d, _, f, p, q, r, e⟩
theorem RowS.one {A : Option Addr} {n c : Nat} {b : Sts} (h : RowS w lo A n c b) : n = b.len ∧ n ≤ c ∧ c ≤ 9223372036854775807 := by
 obtain ⟨xs, S, h1, h2, _⟩ := h
 have := ((StsR_reps _ _).1 h2).length StR.size
 rw [h1.len, Sts.list_len] at this
 exact ⟨by omega, h1.cap⟩
end
theorem expr_t (f g d lvl : Nat) (l : List Tok) (w : World) (h : Ps w g d l) (hd : d ≤ 16) (hno : pExpr f lvl d l ≠ .oof) : Calls Tryz.prog 167 #[.pointer (some ⟨g, 0, none⟩), nv lvl] w (Out [g] g d w (pExpr f lvl d l) fun x w' v => ∃ vs, v = .agg vs.toArray ∧ TreeX w' w.heap.size x vs) :=
 ((exprs f).1 g d lvl l w h hd hno).mono fun e w' ho => ho.imp fun x w' v ⟨vs, S, e, h1, h2⟩ => ⟨vs, e, S, h1, h2⟩
theorem key_t (f g d : Nat) (l : List Tok) (w : World) (h : Ps w g d l) (hd : d ≤ 16) (hno : pKey f d l ≠ .oof) : Calls Tryz.prog 166 #[.pointer (some ⟨g, 0, none⟩)] w (Out [g] g d w (pKey f d l) fun x w' v => ∃ vs, v = .agg vs.toArray ∧ TreeX w' w.heap.size x vs) :=
 (key_any f (exprs f).1 g d l w h hd hno).mono fun e w' ho => ho.imp fun x w' v ⟨vs, S, e, h1, h2⟩ => ⟨vs, e, S, h1, h2⟩
theorem exV (x : Ex) (A : Option Addr) (n c : Nat) (p q r : Int) : Value.agg (exC x (.slice A n c) p q r).toArray = .agg #[nv (hdK x), nv (hdV x).k, nv (hdV x).n, sv (hdV x).s, sv (hdN x), sv (hdC x), nv (hdO x : Nat), .slice A n c, nv p, nv q, nv r] := rfl
end Go.Proofs.YtnbmpfdffoidaaaGreatDoor.Y
namespace Go.Proofs.YtnbmpfdffoidaaaGreatDoor.Y
open Go.RowKit O V S X
theorem line_t (f g d : Nat) (l : List Tok) (w : World) (h : Ps w g d l) (hd : d ≤ 16) (hno : pLine f d l ≠ .oof) : Calls Tryz.prog 165 #[.pointer (some ⟨g, 0, none⟩)] w (Out [g] g d w (pLine f d l) fun x w' v => ∃ vs, v = .agg vs.toArray ∧ TreeX w' w.heap.size x vs) := by
 obtain ⟨RT, hRT⟩ : ∃ RT, pLine f d l = RT := ⟨_, rfl⟩
 rw [hRT] at hno ⊢
 unfold pLine at hRT
 have HR := Lib.hid hRT
 have HNO := Lib.hid hno
 have HS := Lib.hid h
 have hlt := h.lt
 have hnoE := bind_no hRT hno
 clear hRT hno h
 go_enter Tryz.func165, Tryz.ntmps165
 go_wp2_with fail
 refine (expr_t f g d 0 l _ (HS.out.alloc (.cells #[nv 0, nv 0, nv 0, sv [], sv [], sv [], nv 0, .slice none 0 0, nv 0, nv 0, nv 0] 59)) hd hnoE).mono ?_; rintro e w1 h1
 have MW : Hid (Mod [g] w w1) := Lib.hid (((Mod.refl _ _).alloc _).then h1.1)
 have Z1 : Hid (w1.heap[w.heap.size]? = some (.cells #[nv 0, nv 0, nv 0, sv [], sv [], sv [], nv 0, .slice none 0 0, nv 0, nv 0, nv 0] 59 (0, 0))) := Lib.hid (h1.1.box (alloc_at rfl) (by simp; omega))
 rcases h1.parts with ⟨hp, er, ep, eq, ez, hne, rfl⟩ | ⟨x, r, v, hp, pN, rfl, vs, rfl, hT⟩
 ·have HN := Lib.hid hne
  clear hne
  have hq := HR.out
  rw [hp] at hq
  simp only [bind_bad] at hq
  subst hq
  try simp only [lastQ]
  go_wp2_with fail
  exact ⟨rfl, MW.out, er, ep, eq, ez, HN.out, rfl⟩
 have hq := HR.out
 rw [hp] at hq
 simp only [bind_ok] at hq
 replace HR := Lib.hid hq
 have PW := Lib.hid pN
 clear hq hp pN
 obtain ⟨A, n, c, p, q, z, rfl⟩ := hT.form
 have T1 : Hid (TreeX w1 (w.heap.size + 1) x (exC x (.slice A n c) p q z)) := Lib.hid (hT.more (by simp))
 rw [exV]
 clear h1 hT hnoE
 go_wp2_with fail
 have hz1 : w.heap.size < w1.heap.size := (Array.getElem?_eq_some_iff.1 Z1.out).1
 obtain ⟨w2, hw2⟩ : ∃ w2, w2 = (w1.alloc (.cells #[nv (hdK x), nv (hdV x).k, nv (hdV x).n, sv (hdV x).s, sv (hdN x), sv (hdC x), nv (hdO x : Nat), .slice A n c, nv p, nv q, nv z] 59)).alloc (.cells #[sv [59]] 9) := ⟨_, rfl⟩
 have m2 : Mod [g] w1 w2 := by rw [hw2]; exact ((Mod.refl _ _).alloc _).alloc _
 have E2 : Hid (w2.heap[w1.heap.size]? = some (.cells #[nv (hdK x), nv (hdV x).k, nv (hdV x).n, sv (hdV x).s, sv (hdN x), sv (hdC x), nv (hdO x : Nat), .slice A n c, nv p, nv q, nv z] 59 (0, 0))) := Lib.hid (by rw [hw2]; exact alloc_old' (alloc_at rfl))
 have D2 : w2.heap[w1.heap.size + 1]? = some (.cells #[sv [59]] 9 (0, 0)) := by rw [hw2]; exact alloc_at (by simp)
 have hz2 : w2.heap.size = w1.heap.size + 2 := by rw [hw2]; simp
 have P2 : Ps w2 g d r := by rw [hw2]; exact (PW.out.alloc _).alloc _
 rw [← hw2]
 clear hw2
 replace Z1 := Lib.hid (m2.box Z1.out (by simp; omega))
 replace T1 := Lib.hid (T1.out.mod m2 (fun b hb => by simp at hb; omega))
 replace MW := Lib.hid (MW.out.then m2)
 refine (want_any g d r [59] (w1.heap.size + 1) w2 P2 (by omega) D2).mono ?_; rintro e w3 h3
 replace Z1 := Lib.hid (h3.1.box Z1.out (by simp; omega))
 replace E2 := Lib.hid (h3.1.box E2.out (by simp; omega))
 replace T1 := Lib.hid (T1.out.mod h3.1 (fun b hb => by simp at hb; omega))
 replace MW := Lib.hid (MW.out.then h3.1)
 clear m2 D2 P2 PW
 rcases h3.parts with ⟨hp, er, ep, eq, ez, hne, rfl⟩ | ⟨u, r2, v, hp, pN, rfl, rfl⟩
 ·have HN := Lib.hid hne
  clear hne
  have hq := HR.out
  rw [hp] at hq
  simp only [bind_bad] at hq
  subst hq
  try simp only [lastQ]
  go_wp2_with fail
  exact ⟨rfl, MW.out, er, ep, eq, ez, HN.out, rfl⟩
 have hq := HR.out
 rw [hp] at hq
 simp only [bind_ok] at hq
 replace HR := Lib.hid hq
 have PW := Lib.hid pN
 clear hq hp pN
 have hq := HR.out
 subst hq
 clear h3
 obtain ⟨⟨⟨⟨x0, x1⟩, x2, x3⟩, ⟨x4, x5⟩, x6, x7⟩, ⟨x8, x9⟩, x10⟩ := cells11 E2.out
 obtain ⟨⟨⟨⟨y0, y1⟩, y2, y3⟩, ⟨y4, y5⟩, y6, y7⟩, ⟨y8, y9⟩, y10⟩ := cells11 Z1.out
 obtain ⟨⟨⟨⟨fr0, fr1⟩, fr2, fr3⟩, ⟨fr4, fr5⟩, fr6, fr7⟩, ⟨fr8, fr9⟩, fr10⟩ := frozen11 Z1.out
 go_wp2_with fail
 refine bodyPost_ret (v := .agg #[nv (hdK x), nv (hdV x).k, nv (hdV x).n, sv (hdV x).s, sv (hdN x), sv (hdC x), nv (hdO x : Nat), .slice A n c, nv p, nv q, nv z]) (by simp [results, Tryz.results165, go_sem, y0, y1, y2, y3, y4, y5, y6, y7, y8, y9, y10]) rfl ?_
 refine ⟨?_, ?_, _, rfl, exC x (.slice A n c) p q z, rfl, ?_⟩
 ·repeat (first | (with_reducible exact MW.out) | refine Mod.set ?_ (.inr (Nat.le_refl _)) _)
 ·repeat (first | (with_reducible exact PW.out) | refine Ps.set ?_ hlt _)
 ·refine ((T1.out.mod (bs := [w.heap.size]) ?_ (fun b hb => by simp at hb; omega))).more (Nat.le_succ _)
  repeat (first | (with_reducible exact Mod.refl _ _) | refine Mod.set ?_ (.inl (by simp)) _)
end Go.Proofs.YtnbmpfdffoidaaaGreatDoor.Y
namespace Go.Proofs.YtnbmpfdffoidaaaGreatDoor.Y
open Go.RowKit O V S X
def BC (f : Nat) : Prop := ∀ (g d : Nat) (l : List Tok) (w : World), Ps w g d l → d ≤ 16 → pBlock f d l ≠ .oof → Calls Tryz.prog 102 #[.pointer (some ⟨g, 0, none⟩)] w (Out [g] g d w (pBlock f d l) fun b w' v => ∃ A n c, v = .slice A n c ∧ RowS w' w.heap.size A n c b)
def GS (lo bs : Nat) (s : St) (w' : World) : Prop := ∃ vs, w'.heap[bs]? = some (.cells vs.toArray 44 (0, 0)) ∧ TreeS w' lo s vs
def pEach (f d : Nat) (l : List Tok) : Res St := (pName l).bind fun n r => (want r [105, 110]).bind fun _ r => (pName r).bind fun t r => (want r [102, 114, 111, 109]).bind fun _ r => (pExpr f 0 d r).bind fun lo r => (want r [116, 111]).bind fun _ r => (pExpr f 0 d r).bind fun hi r => (want r [109, 97, 120]).bind fun _ r => (pNum r).bind fun k r => (pBlock f d r).bind fun b r => .ok (.each n t lo hi k b) r
def pAssign (f d : Nat) (l : List Tok) : Res St := (pName l).bind fun n r => if isT r [91] then (pKey f d r).bind fun k r => (want r [46]).bind fun _ r => (pName r).bind fun c r => (want r [61]).bind fun _ r => (pLine f d r).bind fun x r => .ok (.put n c k x) r
      else (want r [61]).bind fun _ r => (pLine f d r).bind fun x r => .ok (.set n x) r
theorem each_t (f : Nat) (hB : BC f) (g d bs : Nat) (p q z : Int) (l : List Tok) (w : World) (h : Ps w g d l) (hd : d ≤ 16) (hno : pEach f d l ≠ .oof)
  (h1 : w.heap[bs]? = some (.cells #[nv 0, sv [], sv [], sv [], nv 0, .slice none 0 0, .slice none 0 0, .slice none 0 0, nv p, nv q, nv z] 44 (0, 0))) (hg : g < bs) :
  Calls Tryz.prog 168 #[.pointer (some ⟨g, 0, none⟩), .pointer (some ⟨bs, 0, none⟩)] w (Out [g, bs] g d w (pEach f d l) fun s w' v => v = .tuple #[] ∧ GS w.heap.size bs s w') := by
 obtain ⟨RT, hRT⟩ : ∃ RT, pEach f d l = RT := ⟨_, rfl⟩
 rw [hRT] at hno ⊢
 unfold pEach at hRT
 have HR := Lib.hid hRT
 have HNO := Lib.hid hno
 have PW := Lib.hid h
 have BX := Lib.hid h1
 have HB := Lib.hid hB
 have hbl : bs < w.heap.size := (Array.getElem?_eq_some_iff.1 h1).1
 have MW : Hid (Mod [g, bs] w w) := Lib.hid (Mod.refl _ _)
 clear hRT hno h h1 hB
 go_enter Tryz.func168, Tryz.ntmps168
 go_wp2_with fail
 refine (name_any g d l w PW.out).mono ?_; rintro e w1 hN
 have m := hN.1
 replace BX := Lib.hid (m.box BX.out (by simp; omega))
 replace MW := Lib.hid (MW.out.then (m.more (fun x hx => .inl (by simp at hx; simp [hx]))))
 try replace TT := Lib.hid (TT.out.mod m (fun b hb => by simp at hb; omega))
 try replace EE := Lib.hid (m.box EE.out (by simp; omega))
 rcases hN.parts with ⟨hp, er, ep, eq, ez, hne, rfl⟩ | ⟨nm, r1, v, hp, pN, rfl, rfl, hnm⟩
 ·have HN := Lib.hid hne
  clear hne
  have hq := HR.out
  rw [hp] at hq
  simp only [bind_bad] at hq
  subst hq
  try simp only [lastQ]
  go_wp2_with fail
  exact ⟨rfl, MW.out, er, ep, eq, ez, HN.out, rfl⟩
 have hq := HR.out
 rw [hp] at hq
 simp only [bind_ok] at hq
 replace HR := Lib.hid hq
 replace PW := Lib.hid pN
 clear hq hp pN
 clear hN hnm m
 obtain ⟨⟨⟨⟨y0, y1⟩, y2, y3⟩, ⟨y4, y5⟩, y6, y7⟩, ⟨y8, y9⟩, y10⟩ := cells11 BX.out
 obtain ⟨⟨⟨⟨fr0, fr1⟩, fr2, fr3⟩, ⟨fr4, fr5⟩, fr6, fr7⟩, ⟨fr8, fr9⟩, fr10⟩ := frozen11 BX.out
 go_wp2_with fail
 clear y0 y1 y2 y3 y4 y5 y6 y7 y8 y9 y10 fr0 fr1 fr2 fr3 fr4 fr5 fr6 fr7 fr8 fr9 fr10
 obtain ⟨w2, hw⟩ : ∃ W, W = (w1.setCell ⟨bs, 0, none⟩ (.int .i64 7)).setCell ⟨bs, 1, none⟩ (.string ⟨nm.toArray⟩) := ⟨_, rfl⟩
 have m : Mod [bs] w1 w2 := by rw [hw]; exact ((Mod.refl _ _).set (.inl (by simp)) _).set (.inl (by simp)) _
 replace BX : Hid (w2.heap[bs]? = some (.cells #[nv 7, sv nm, sv [], sv [], nv 0, .slice none 0 0, .slice none 0 0, .slice none 0 0, nv p, nv q, nv z] 44 (0, 0))) := Lib.hid (by rw [hw]; exact heap_set' (heap_set' BX.out _ 0 rfl) _ 1 rfl)
 replace PW := Lib.hid (PW.out.mod m (fun x hx => by simp at hx; omega))
 replace MW := Lib.hid (MW.out.then (m.more (fun x hx => .inl (by simp at hx; simp [hx]))))
 try replace TT := Lib.hid (TT.out.mod m (fun b hb => by simp at hb; omega))
 try replace EE := Lib.hid (m.box EE.out (by simp; omega))
 have hzw2 : w2.heap.size = w1.heap.size := by rw [hw]; simp
 rw [← hw]
 clear hw m
 refine (want_any g d r1 [105, 110] _ _ (PW.out.alloc _) (by have := PW.out.lt; omega) (alloc_at (by omega))).mono ?_; rintro e w3 hN
 have m : Mod [g] w2 w3 := ((Mod.refl _ _).alloc _).then hN.1
 replace BX := Lib.hid (m.box BX.out (by simp; omega))
 replace MW := Lib.hid (MW.out.then (m.more (fun x hx => .inl (by simp at hx; simp [hx]))))
 try replace TT := Lib.hid (TT.out.mod m (fun b hb => by simp at hb; omega))
 try replace EE := Lib.hid (m.box EE.out (by simp; omega))
 rcases hN.parts with ⟨hp, er, ep, eq, ez, hne, rfl⟩ | ⟨u, r2, v, hp, pN, rfl, rfl⟩
 ·have HN := Lib.hid hne
  clear hne
  have hq := HR.out
  rw [hp] at hq
  simp only [bind_bad] at hq
  subst hq
  try simp only [lastQ]
  go_wp2_with fail
  exact ⟨rfl, MW.out, er, ep, eq, ez, HN.out, rfl⟩
 have hq := HR.out
 rw [hp] at hq
 simp only [bind_ok] at hq
 replace HR := Lib.hid hq
 replace PW := Lib.hid pN
 clear hq hp pN
 clear hN m u
 go_wp2_with fail
 refine (name_any g d r2 w3 PW.out).mono ?_; rintro e w4 hN
 have m := hN.1
 replace BX := Lib.hid (m.box BX.out (by simp; omega))
 replace MW := Lib.hid (MW.out.then (m.more (fun x hx => .inl (by simp at hx; simp [hx]))))
 try replace TT := Lib.hid (TT.out.mod m (fun b hb => by simp at hb; omega))
 try replace EE := Lib.hid (m.box EE.out (by simp; omega))
 rcases hN.parts with ⟨hp, er, ep, eq, ez, hne, rfl⟩ | ⟨tb, r3, v, hp, pN, rfl, rfl, hnm⟩
 ·have HN := Lib.hid hne
  clear hne
  have hq := HR.out
  rw [hp] at hq
  simp only [bind_bad] at hq
  subst hq
  try simp only [lastQ]
  go_wp2_with fail
  exact ⟨rfl, MW.out, er, ep, eq, ez, HN.out, rfl⟩
 have hq := HR.out
 rw [hp] at hq
 simp only [bind_ok] at hq
 replace HR := Lib.hid hq
 replace PW := Lib.hid pN
 clear hq hp pN
 clear hN hnm m
 obtain ⟨⟨⟨⟨y0, y1⟩, y2, y3⟩, ⟨y4, y5⟩, y6, y7⟩, ⟨y8, y9⟩, y10⟩ := cells11 BX.out
 obtain ⟨⟨⟨⟨fr0, fr1⟩, fr2, fr3⟩, ⟨fr4, fr5⟩, fr6, fr7⟩, ⟨fr8, fr9⟩, fr10⟩ := frozen11 BX.out
 go_wp2_with fail
 clear y0 y1 y2 y3 y4 y5 y6 y7 y8 y9 y10 fr0 fr1 fr2 fr3 fr4 fr5 fr6 fr7 fr8 fr9 fr10
 obtain ⟨w5, hw⟩ : ∃ W, W = w4.setCell ⟨bs, 2, none⟩ (.string ⟨tb.toArray⟩) := ⟨_, rfl⟩
 have m : Mod [bs] w4 w5 := by rw [hw]; exact (Mod.refl _ _).set (.inl (by simp)) _
 replace BX : Hid (w5.heap[bs]? = some (.cells #[nv 7, sv nm, sv tb, sv [], nv 0, .slice none 0 0, .slice none 0 0, .slice none 0 0, nv p, nv q, nv z] 44 (0, 0))) := Lib.hid (by rw [hw]; exact heap_set' BX.out _ 2 rfl)
 replace PW := Lib.hid (PW.out.mod m (fun x hx => by simp at hx; omega))
 replace MW := Lib.hid (MW.out.then (m.more (fun x hx => .inl (by simp at hx; simp [hx]))))
 try replace TT := Lib.hid (TT.out.mod m (fun b hb => by simp at hb; omega))
 try replace EE := Lib.hid (m.box EE.out (by simp; omega))
 have hzw5 : w5.heap.size = w4.heap.size := by rw [hw]; simp
 rw [← hw]
 clear hw m
 refine (want_any g d r3 [102, 114, 111, 109] _ _ (PW.out.alloc _) (by have := PW.out.lt; omega) (alloc_at (by omega))).mono ?_; rintro e w6 hN
 have m : Mod [g] w5 w6 := ((Mod.refl _ _).alloc _).then hN.1
 replace BX := Lib.hid (m.box BX.out (by simp; omega))
 replace MW := Lib.hid (MW.out.then (m.more (fun x hx => .inl (by simp at hx; simp [hx]))))
 try replace TT := Lib.hid (TT.out.mod m (fun b hb => by simp at hb; omega))
 try replace EE := Lib.hid (m.box EE.out (by simp; omega))
 rcases hN.parts with ⟨hp, er, ep, eq, ez, hne, rfl⟩ | ⟨u, r4, v, hp, pN, rfl, rfl⟩
 ·have HN := Lib.hid hne
  clear hne
  have hq := HR.out
  rw [hp] at hq
  simp only [bind_bad] at hq
  subst hq
  try simp only [lastQ]
  go_wp2_with fail
  exact ⟨rfl, MW.out, er, ep, eq, ez, HN.out, rfl⟩
 have hq := HR.out
 rw [hp] at hq
 simp only [bind_ok] at hq
 replace HR := Lib.hid hq
 replace PW := Lib.hid pN
 clear hq hp pN
 clear hN m u
 go_wp2_with fail
 have hnoE := bind_no HR.out HNO.out
 refine (expr_t f g d 0 r4 w6 PW.out hd hnoE).mono ?_; rintro e w7 hN
 have m := hN.1
 have hs6 := MW.out.size
 replace BX := Lib.hid (m.box BX.out (by simp; omega))
 replace MW := Lib.hid (MW.out.then (m.more (fun x hx => .inl (by simp at hx; simp [hx]))))
 try replace TT := Lib.hid (TT.out.mod m (fun b hb => by simp at hb; omega))
 try replace EE := Lib.hid (m.box EE.out (by simp; omega))
 rcases hN.parts with ⟨hp, er, ep, eq, ez, hne, rfl⟩ | ⟨lo, r5, v, hp, pN, rfl, vs, rfl, hT⟩
 ·have HN := Lib.hid hne
  clear hne
  have hq := HR.out
  rw [hp] at hq
  simp only [bind_bad] at hq
  subst hq
  try simp only [lastQ]
  go_wp2_with fail
  exact ⟨rfl, MW.out, er, ep, eq, ez, HN.out, rfl⟩
 have hq := HR.out
 rw [hp] at hq
 simp only [bind_ok] at hq
 replace HR := Lib.hid hq
 replace PW := Lib.hid pN
 clear hq hp pN
 obtain ⟨A, n, c, p1, q1, z1, rfl⟩ := hT.form
 have TT := Lib.hid (hT.more hs6)
 rw [exV]
 have hb7 : bs < w7.heap.size := by have := MW.out.size; omega
 clear hN m hT hnoE hs6
 go_wp2_with fail
 obtain ⟨w8, hw⟩ : ∃ W, W = w7.alloc (.cells #[nv (hdK lo), nv (hdV lo).k, nv (hdV lo).n, sv (hdV lo).s, sv (hdN lo), sv (hdC lo), nv (hdO lo : Nat), .slice A n c, nv p1, nv q1, nv z1] 59) := ⟨_, rfl⟩
 have m : Mod [g] w7 w8 := by rw [hw]; exact (Mod.refl _ _).alloc _
 have E8 : Hid (w8.heap[w7.heap.size]? = some (.cells #[nv (hdK lo), nv (hdV lo).k, nv (hdV lo).n, sv (hdV lo).s, sv (hdN lo), sv (hdC lo), nv (hdO lo : Nat), .slice A n c, nv p1, nv q1, nv z1] 59 (0, 0))) := Lib.hid (by rw [hw]; exact alloc_at rfl)
 have hz8 : w8.heap.size = w7.heap.size + 1 := by rw [hw]; simp
 replace PW : Hid (Ps w8 g d r5) := Lib.hid (by rw [hw]; exact PW.out.alloc _)
 replace BX := Lib.hid (m.box BX.out (by simp; omega))
 replace MW := Lib.hid (MW.out.then (m.more (fun x hx => .inl (by simp at hx; simp [hx]))))
 try replace TT := Lib.hid (TT.out.mod m (fun b hb => by simp at hb; omega))
 try replace EE := Lib.hid (m.box EE.out (by simp; omega))
 rw [← hw]
 have EE := E8
 clear hw m E8
 refine (want_any g d r5 [116, 111] _ _ (PW.out.alloc _) (by have := PW.out.lt; omega) (alloc_at (by omega))).mono ?_; rintro e w9 hN
 have m : Mod [g] w8 w9 := ((Mod.refl _ _).alloc _).then hN.1
 replace BX := Lib.hid (m.box BX.out (by simp; omega))
 replace MW := Lib.hid (MW.out.then (m.more (fun x hx => .inl (by simp at hx; simp [hx]))))
 try replace TT := Lib.hid (TT.out.mod m (fun b hb => by simp at hb; omega))
 try replace EE := Lib.hid (m.box EE.out (by simp; omega))
 rcases hN.parts with ⟨hp, er, ep, eq, ez, hne, rfl⟩ | ⟨u, r6, v, hp, pN, rfl, rfl⟩
 ·have HN := Lib.hid hne
  clear hne
  have hq := HR.out
  rw [hp] at hq
  simp only [bind_bad] at hq
  subst hq
  try simp only [lastQ]
  go_wp2_with fail
  exact ⟨rfl, MW.out, er, ep, eq, ez, HN.out, rfl⟩
 have hq := HR.out
 rw [hp] at hq
 simp only [bind_ok] at hq
 replace HR := Lib.hid hq
 replace PW := Lib.hid pN
 clear hq hp pN
 clear hN m u
 go_wp2_with fail
 have hnoE := bind_no HR.out HNO.out
 refine wp_region_plan [w7.heap.size] (.read 0 (.read 1 (.read 2 (.call 3 (.call 4 (.read 5 (.read 6 (.call 7 .done)))))))) (by kernel_rfl) (by kernel_rfl) (fun _ _ d _ _ h => by cases d <;> exact h) ?_
 refine pwith (fun W hW => (cells11 ((hW w7.heap.size (by simp)).trans EE.out))) (fun k1 => ?_)
 repeat (first | (refine sreadxP rfl rfl ?_; apply Exists.intro; apply And.intro; (· (intro W hW; go_simp; try (first | with_reducible rfl | (rw [if_neg (by omega)]; try with_reducible rfl)))); simp only [Act.put, List.setIfInBounds_toArray, List.set_cons_zero, List.set_cons_succ]) | (refine pskip rfl rfl ?_; simp only [Act.put, List.setIfInBounds_toArray, List.set_cons_zero, List.set_cons_succ]))
 refine pcall rfl rfl (fun K hK => ?_)
 go_simp
 refine (expr_t f g d 0 r6 w9.drew (PW.out.next (Below.refl _ _).drew) hd hnoE).mono ?_; rintro e w10 hN
 have m : Mod [g] w9 w10 := (Mod.refl _ _).drew.then hN.1
 have hs9 := MW.out.size
 have hk9 : KB [w7.heap.size] w9.drew w10 := fun b hb => hN.1.block b (by simp at hb; show b < w9.heap.size; rw [hb]; exact (Array.getElem?_eq_some_iff.1 EE.out).1) (by simp at hb ⊢; omega)
 replace BX := Lib.hid (m.box BX.out (by simp; omega))
 replace MW := Lib.hid (MW.out.then (m.more (fun x hx => .inl (by simp at hx; simp [hx]))))
 try replace TT := Lib.hid (TT.out.mod m (fun b hb => by simp at hb; omega))
 try replace EE := Lib.hid (m.box EE.out (by simp; omega))
 rcases hN.parts with ⟨hp, er, ep, eq, ez, hne, rfl⟩ | ⟨hi, r7, v, hp, pN, rfl, vs, rfl, hT⟩
 ·have HN := Lib.hid hne
  clear hne
  have hq := HR.out
  rw [hp] at hq
  simp only [bind_bad] at hq
  subst hq
  try simp only [lastQ]
  go_wp2_with fail
  exact ⟨rfl, MW.out, er, ep, eq, ez, HN.out, rfl⟩
 have hq := HR.out
 rw [hp] at hq
 simp only [bind_ok] at hq
 replace HR := Lib.hid hq
 replace PW := Lib.hid pN
 clear hq hp pN
 obtain ⟨A2, n2, c2, p2, q2, z2, rfl⟩ := hT.form
 have T2 : Hid (TreeX w10 w.heap.size hi (exC hi (.slice A2 n2 c2) p2 q2 z2)) := Lib.hid (hT.more hs9)
 rw [exV]
 go_wp2_with fail
 refine hK.out _ _ hk9 ?_
 clear hK K k1 hN m hT hnoE hs9 hk9
 try simp only [Act.put, List.setIfInBounds_toArray, List.set_cons_zero, List.set_cons_succ]
 refine pcall rfl rfl (fun K hK => ?_)
 go_simp
 refine hK.out _ _ (fun b hb => Below.heap_alloc _ _ _ (by simp at hb; rw [hb]; exact (Array.getElem?_eq_some_iff.1 EE.out).1)) ?_
 clear hK K
 try simp only [Act.put, List.setIfInBounds_toArray, List.set_cons_zero, List.set_cons_succ]
 obtain ⟨w11, hw⟩ : ∃ W, W = w10.alloc (.cells #[nv (hdK lo), nv (hdV lo).k, nv (hdV lo).n, sv (hdV lo).s, sv (hdN lo), sv (hdC lo), nv (hdO lo : Nat), .slice A n c, nv p1, nv q1, nv z1, nv (hdK hi), nv (hdV hi).k, nv (hdV hi).n, sv (hdV hi).s, sv (hdN hi), sv (hdC hi), nv (hdO hi : Nat), .slice A2 n2 c2, nv p2, nv q2, nv z2] 59) := ⟨_, rfl⟩
 have m : Mod [g] w10 w11 := by rw [hw]; exact (Mod.refl _ _).alloc _
 have hr11 : w11.heap[w10.heap.size]? = some (.cells (exC lo (.slice A n c) p1 q1 z1 ++ exC hi (.slice A2 n2 c2) p2 q2 z2).toArray 59 (0, 0)) := by rw [hw]; exact alloc_at rfl
 have hz11 : w11.heap.size = w10.heap.size + 1 := by rw [hw]; simp
 replace PW : Hid (Ps w11 g d r7) := Lib.hid (by rw [hw]; exact PW.out.alloc _)
 have hs10 := MW.out.size
 replace BX := Lib.hid (m.box BX.out (by simp; omega))
 replace MW := Lib.hid (MW.out.then (m.more (fun x hx => .inl (by simp at hx; simp [hx]))))
 try replace TT := Lib.hid (TT.out.mod m (fun b hb => by simp at hb; omega))
 try replace EE := Lib.hid (m.box EE.out (by simp; omega))
 replace T2 := Lib.hid (T2.out.mod m (fun b hb => by simp at hb; omega))
 replace TT := Lib.hid (RowX.two TT.out T2.out hr11 hs10 rfl)
 rw [← hw]
 clear hw m T2 hr11 EE
 repeat (first | (refine sreadxP rfl rfl ?_; apply Exists.intro; apply And.intro; (· (intro W hW; go_simp; try (first | with_reducible rfl | (rw [if_neg (by omega)]; try with_reducible rfl)))); simp only [Act.put, List.setIfInBounds_toArray, List.set_cons_zero, List.set_cons_succ]) | (refine pskip rfl rfl ?_; simp only [Act.put, List.setIfInBounds_toArray, List.set_cons_zero, List.set_cons_succ]))
 obtain ⟨⟨⟨⟨y0, y1⟩, y2, y3⟩, ⟨y4, y5⟩, y6, y7⟩, ⟨y8, y9⟩, y10⟩ := cells11 BX.out
 obtain ⟨⟨⟨⟨fr0, fr1⟩, fr2, fr3⟩, ⟨fr4, fr5⟩, fr6, fr7⟩, ⟨fr8, fr9⟩, fr10⟩ := frozen11 BX.out
 refine pcall rfl rfl (fun K hK => ?_)
 go_simp
 refine hK.out _ _ (fun b hb => Below.heap_setCell _ _ _ _ (by simp at hb ⊢; omega)) ?_
 clear hK K
 try simp only [Act.put, List.setIfInBounds_toArray, List.set_cons_zero, List.set_cons_succ]
 refine pdone ?_
 clear y0 y1 y2 y3 y4 y5 y6 y7 y8 y9 y10 fr0 fr1 fr2 fr3 fr4 fr5 fr6 fr7 fr8 fr9 fr10
 obtain ⟨w12, hw⟩ : ∃ W, W = w11.setCell ⟨bs, 5, none⟩ (.slice (some ⟨w10.heap.size, 0, none⟩) 2 2) := ⟨_, rfl⟩
 have m : Mod [bs] w11 w12 := by rw [hw]; exact (Mod.refl _ _).set (.inl (by simp)) _
 replace BX : Hid (w12.heap[bs]? = some (.cells #[nv 7, sv nm, sv tb, sv [], nv 0, .slice (some ⟨w10.heap.size, 0, none⟩) 2 2, .slice none 0 0, .slice none 0 0, nv p, nv q, nv z] 44 (0, 0))) := Lib.hid (by rw [hw]; exact heap_set' BX.out _ 5 rfl)
 replace PW := Lib.hid (PW.out.mod m (fun x hx => by simp at hx; omega))
 replace MW := Lib.hid (MW.out.then (m.more (fun x hx => .inl (by simp at hx; simp [hx]))))
 try replace TT := Lib.hid (TT.out.mod m (fun b hb => by simp at hb; omega))
 try replace EE := Lib.hid (m.box EE.out (by simp; omega))
 have hzw12 : w12.heap.size = w11.heap.size := by rw [hw]; simp
 rw [← hw]
 clear hw m
 go_wp2_with fail
 refine (want_any g d r7 [109, 97, 120] _ _ (PW.out.alloc _) (by have := PW.out.lt; omega) (alloc_at (by omega))).mono ?_; rintro e w13 hN
 have m : Mod [g] w12 w13 := ((Mod.refl _ _).alloc _).then hN.1
 replace BX := Lib.hid (m.box BX.out (by simp; omega))
 replace MW := Lib.hid (MW.out.then (m.more (fun x hx => .inl (by simp at hx; simp [hx]))))
 try replace TT := Lib.hid (TT.out.mod m (fun b hb => by simp at hb; omega))
 try replace EE := Lib.hid (m.box EE.out (by simp; omega))
 rcases hN.parts with ⟨hp, er, ep, eq, ez, hne, rfl⟩ | ⟨u, r8, v, hp, pN, rfl, rfl⟩
 ·have HN := Lib.hid hne
  clear hne
  have hq := HR.out
  rw [hp] at hq
  simp only [bind_bad] at hq
  subst hq
  try simp only [lastQ]
  go_wp2_with fail
  exact ⟨rfl, MW.out, er, ep, eq, ez, HN.out, rfl⟩
 have hq := HR.out
 rw [hp] at hq
 simp only [bind_ok] at hq
 replace HR := Lib.hid hq
 replace PW := Lib.hid pN
 clear hq hp pN
 clear hN m u
 go_wp2_with fail
 refine (num_any g d r8 w13 PW.out).mono ?_; rintro e w14 hN
 have m := hN.1
 replace BX := Lib.hid (m.box BX.out (by simp; omega))
 replace MW := Lib.hid (MW.out.then (m.more (fun x hx => .inl (by simp at hx; simp [hx]))))
 try replace TT := Lib.hid (TT.out.mod m (fun b hb => by simp at hb; omega))
 try replace EE := Lib.hid (m.box EE.out (by simp; omega))
 rcases hN.parts with ⟨hp, er, ep, eq, ez, hne, rfl⟩ | ⟨kk, r9, v, hp, pN, rfl, rfl⟩
 ·have HN := Lib.hid hne
  clear hne
  have hq := HR.out
  rw [hp] at hq
  simp only [bind_bad] at hq
  subst hq
  try simp only [lastQ]
  go_wp2_with fail
  exact ⟨rfl, MW.out, er, ep, eq, ez, HN.out, rfl⟩
 have hq := HR.out
 rw [hp] at hq
 simp only [bind_ok] at hq
 replace HR := Lib.hid hq
 replace PW := Lib.hid pN
 clear hq hp pN
 clear hN m
 obtain ⟨⟨⟨⟨y0, y1⟩, y2, y3⟩, ⟨y4, y5⟩, y6, y7⟩, ⟨y8, y9⟩, y10⟩ := cells11 BX.out
 obtain ⟨⟨⟨⟨fr0, fr1⟩, fr2, fr3⟩, ⟨fr4, fr5⟩, fr6, fr7⟩, ⟨fr8, fr9⟩, fr10⟩ := frozen11 BX.out
 go_wp2_with fail
 clear y0 y1 y2 y3 y4 y5 y6 y7 y8 y9 y10 fr0 fr1 fr2 fr3 fr4 fr5 fr6 fr7 fr8 fr9 fr10
 obtain ⟨w15, hw⟩ : ∃ W, W = w14.setCell ⟨bs, 4, none⟩ (.int .i64 kk) := ⟨_, rfl⟩
 have m : Mod [bs] w14 w15 := by rw [hw]; exact (Mod.refl _ _).set (.inl (by simp)) _
 replace BX : Hid (w15.heap[bs]? = some (.cells #[nv 7, sv nm, sv tb, sv [], nv kk, .slice (some ⟨w10.heap.size, 0, none⟩) 2 2, .slice none 0 0, .slice none 0 0, nv p, nv q, nv z] 44 (0, 0))) := Lib.hid (by rw [hw]; exact heap_set' BX.out _ 4 rfl)
 replace PW := Lib.hid (PW.out.mod m (fun x hx => by simp at hx; omega))
 replace MW := Lib.hid (MW.out.then (m.more (fun x hx => .inl (by simp at hx; simp [hx]))))
 try replace TT := Lib.hid (TT.out.mod m (fun b hb => by simp at hb; omega))
 try replace EE := Lib.hid (m.box EE.out (by simp; omega))
 have hzw15 : w15.heap.size = w14.heap.size := by rw [hw]; simp
 rw [← hw]
 clear hw m
 have hnoB := bind_no HR.out HNO.out
 refine (HB.out g d r9 w15 PW.out hd hnoB).mono ?_; rintro e w16 hN
 have m := hN.1
 have hs15 := MW.out.size
 replace BX := Lib.hid (m.box BX.out (by simp; omega))
 replace MW := Lib.hid (MW.out.then (m.more (fun x hx => .inl (by simp at hx; simp [hx]))))
 try replace TT := Lib.hid (TT.out.mod m (fun b hb => by simp at hb; omega))
 try replace EE := Lib.hid (m.box EE.out (by simp; omega))
 rcases hN.parts with ⟨hp, er, ep, eq, ez, hne, rfl⟩ | ⟨bd, r10, v, hp, pN, rfl, Ab, nb, cb, rfl, hT⟩
 ·have HN := Lib.hid hne
  clear hne
  have hq := HR.out
  rw [hp] at hq
  simp only [bind_bad] at hq
  subst hq
  try simp only [lastQ]
  go_wp2_with fail
  exact ⟨rfl, MW.out, er, ep, eq, ez, HN.out, rfl⟩
 have hq := HR.out
 rw [hp] at hq
 simp only [bind_ok] at hq
 replace HR := Lib.hid hq
 replace PW := Lib.hid pN
 clear hq hp pN
 have TB := Lib.hid (hT.more hs15)
 clear hN m hT hnoB hs15
 obtain ⟨⟨⟨⟨y0, y1⟩, y2, y3⟩, ⟨y4, y5⟩, y6, y7⟩, ⟨y8, y9⟩, y10⟩ := cells11 BX.out
 obtain ⟨⟨⟨⟨fr0, fr1⟩, fr2, fr3⟩, ⟨fr4, fr5⟩, fr6, fr7⟩, ⟨fr8, fr9⟩, fr10⟩ := frozen11 BX.out
 go_wp2_with fail
 go_end0
 clear y0 y1 y2 y3 y4 y5 y6 y7 y8 y9 y10 fr0 fr1 fr2 fr3 fr4 fr5 fr6 fr7 fr8 fr9 fr10
 have hq := HR.out
 subst hq
 have m : Mod [bs] w16 (w16.setCell ⟨bs, 6, none⟩ (.slice Ab nb cb)) := (Mod.refl _ _).set (.inl (by simp)) _
 have hX := heap_set' BX.out (.slice Ab nb cb) 6 (cs' := #[nv 7, sv nm, sv tb, sv [], nv kk, .slice (some ⟨w10.heap.size, 0, none⟩) 2 2, .slice Ab nb cb, .slice none 0 0, nv p, nv q, nv z]) rfl
 exact ⟨MW.out.then (m.more (fun x hx => .inl (by simp at hx; simp [hx]))), PW.out.mod m (fun x hx => by simp at hx; omega), _, rfl, rfl, _, hX, TreeS.mk (s := .each nm tb lo hi kk bd) (TT.out.mod m (fun b hb => by simp at hb; omega)) rfl (TB.out.mod m (fun b hb => by simp at hb; omega)) TB.out.one.1 RowS.nil_ rfl⟩
end Go.Proofs.YtnbmpfdffoidaaaGreatDoor.Y
