/- The contracts of record.Same and of the references' Same. -/
import Derived.Test.YtpkoijlbbfffiaaRecMem
namespace Go.Proofs.Ytpkoijlbbfffiaa.R
open Go.RowKit O V

theorem Chg.same {x y : Chg} (h1 : x.table = y.table) (h2 : x.key = y.key) (h3 : x.gone = y.gone) (h4 : x.row = y.row) : x = y := by cases x; cases y; simp_all
instance : DecidableEq Chg := fun a b => if h : a.table = b.table ∧ a.key = b.key ∧ a.gone = b.gone ∧ a.row = b.row then isTrue (Chg.same h.1 h.2.1 h.2.2.1 h.2.2.2) else isFalse (fun e => h (by subst e; exact ⟨rfl, rfl, rfl, rfl⟩))
def sameG (x y : Chg) : Bool := decide (x = y)
def sameH (a b : List Chg) : Bool := decide (a = b)
theorem sameG_eq (x y : Chg) : sameG x y = (decide (x.table = y.table) && (decide (x.key = y.key) && (decide (x.gone = y.gone) && sameR x.row y.row))) := by
  unfold sameG sameR
  rw [Bool.eq_iff_iff]
  simp only [decide_eq_true_eq, Bool.and_eq_true]
  constructor
  · intro h; subst h; exact ⟨rfl, rfl, rfl, rfl⟩
  · rintro ⟨h1, h2, h3, h4⟩; exact Chg.same h1 h2 h3 h4
theorem sameG_no1 {x y : Chg} (h : x.table ≠ y.table) : sameG x y = false := by rw [sameG_eq, decide_eq_false h]; rfl
theorem sameG_no2 {x y : Chg} (h : x.key ≠ y.key) : sameG x y = false := by rw [sameG_eq, decide_eq_false h]; simp
theorem sameG_no3 {x y : Chg} (h : x.gone ≠ y.gone) : sameG x y = false := by rw [sameG_eq, decide_eq_false h]; simp
theorem sameG_row {x y : Chg} (h1 : x.table = y.table) (h2 : x.key = y.key) (h3 : x.gone = y.gone) : sameG x y = sameR x.row y.row := by rw [sameG_eq, decide_eq_true h1, decide_eq_true h2, decide_eq_true h3]; rfl
def cgv' (x : Chg) (s : Sl) : Value := .agg #[.int .i64 x.table, .int .i64 x.key, .bool x.gone, .slice s.A s.n s.c]
set_option maxHeartbeats 1000000 in
set_option maxRecDepth 100000 in
theorem sameChange_any (x y : Chg) (s t : Sl) (w : World) (h : VRow w s.A s.n s.c x.row) (h' : VRow w t.A t.n t.c y.row) :
    Calls Try.prog 77 #[cgv' x s, cgv' y t] w fun e w' => e = .returned (.bool (sameG x y)) ∧ Below w.heap.size w w' := by
  obtain ⟨t1, k1, g1, a1⟩ := x
  obtain ⟨t2, k2, g2, a2⟩ := y
  have HV : Hid (VRow w s.A s.n s.c a1) := Lib.hid h
  have HV' : Hid (VRow w t.A t.n t.c a2) := Lib.hid h'
  clear h h'
  have HB : Hid (∀ C D : Obj, Below w.heap.size w ((w.alloc C).alloc D)) := Lib.hid (fun C D => by repeat (first | exact Below.refl _ _ | refine Below.alloc ?_ (by simp <;> omega) _))
  simp only [cgv']
  by_cases e1 : t1 = t2
  · subst e1
    by_cases e2 : k1 = k2
    · subst e2
      by_cases e3 : g1 = g2
      · subst e3
        have hr := Lib.hid (sameG_row (x := ⟨t1, k1, g1, a1⟩) (y := ⟨t1, k1, g1, a2⟩) rfl rfl rfl)
        go_enter Try.func77, Try.ntmps77
        go_wp2_with fail
        refine (equal_any s.A t.A s.n s.c t.n t.c a1 a2 _ (HV.out.next (HB.out _ _)) (HV'.out.next (HB.out _ _))).mono ?_; rintro e w1 ⟨rfl, b1⟩
        cases hq : sameR a1 a2
        all_goals
          go_wp2_with fail
          go_ret
          exact ⟨by rw [hr.out, hq]; rfl, bthen (HB.out _ _) b1⟩
      · have hr := Lib.hid (sameG_no3 (x := ⟨t1, k1, g1, a1⟩) (y := ⟨t1, k1, g2, a2⟩) e3)
        have d : (g1 == g2) = false := by simpa using e3
        go_enter Try.func77, Try.ntmps77
        go_wp2_with fail
        go_ret
        exact ⟨by rw [hr.out]; rfl, HB.out _ _⟩
    · have hr := Lib.hid (sameG_no2 (x := ⟨t1, k1, g1, a1⟩) (y := ⟨t1, k2, g2, a2⟩) e2)
      have d : (k1 == k2) = false := by simpa using e2
      go_enter Try.func77, Try.ntmps77
      go_wp2_with fail
      go_ret
      exact ⟨by rw [hr.out]; rfl, HB.out _ _⟩
  · have hr := Lib.hid (sameG_no1 (x := ⟨t1, k1, g1, a1⟩) (y := ⟨t2, k2, g2, a2⟩) e1)
    have d : (t1 == t2) = false := by simpa using e1
    go_enter Try.func77, Try.ntmps77
    go_wp2_with fail
    go_ret
    exact ⟨by rw [hr.out]; rfl, HB.out _ _⟩
theorem sameH_len {a b : List Chg} (h : a.length ≠ b.length) : sameH a b = false := by unfold sameH; rw [decide_eq_false]; exact fun e => h (by rw [e])
theorem sameG_iff {x y : Chg} : sameG x y = true ↔ x = y := by simp [sameG]
theorem take_sameG {a b : List Chg} {k : Nat} (h1 : k < a.length) (h2 : k < b.length) (h : a.take k = b.take k) (he : sameG a[k] b[k] = true) : a.take (k + 1) = b.take (k + 1) := take_same h1 h2 h (sameG_iff.1 he)
theorem at_neG {a b : List Chg} {k : Nat} (h1 : k < a.length) (h2 : k < b.length) (he : sameG a[k] b[k] = false) : sameH a b = false := by
  unfold sameH; rw [decide_eq_false]; intro e; subst e; simp [sameG] at he
theorem sameH_end {a b : List Chg} {n : Nat} (h : a.take n = b.take n) (ha : a.length = n) (hb : b.length = n) : sameH a b = true := by
  rw [List.take_of_length_le (by omega), List.take_of_length_le (by omega)] at h
  subst h
  simp [sameH]
set_option maxHeartbeats 1000000 in
set_option maxRecDepth 100000 in
theorem equalH_any (A A' : Option Addr) (n c n' c' : Nat) (a b : List Chg) (w : World) (h : HRow w A n c a) (h' : HRow w A' n' c' b) :
    Calls Try.prog 76 #[.slice A n c, .slice A' n' c', .func (.func 77) #[] #[]] w fun e w' => e = .returned (.bool (sameH a b)) ∧ Below w.heap.size w w' := by
  have hl := h.len
  have hl' := h'.len
  have hcap := h.cap
  have hcap' := h'.cap
  by_cases hne : n = n'
  · subst hne
    have HV := Lib.hid h
    have HV' := Lib.hid h'
    have HL := Lib.hid hl
    have HL' := Lib.hid hl'
    clear h h' hl hl'
    go_enter Try.func76, Try.ntmps76
    go_wp2_with fail
    go_loopw [7, 8, 9, 17] (fun _ _ _ i wr => ∃ k : Nat, k ≤ n ∧ i = .int .i64 k ∧ Hid (a.take k = b.take k) ∧ Below w.heap.size w wr) (fun _ _ _ i _ => n - (intOf i).toNat)
    case atStart => exact ⟨0, by omega, rfl, Lib.hid (by simp), Below.refl _ _⟩
    case round =>
      obtain ⟨k, hk, rfl, H, hb⟩ := hrel
      by_cases hlt : k < n
      · have hlt' : k < a.length := by rw [HL.out]; exact hlt
        have hlt2 : k < b.length := by rw [HL'.out]; exact hlt
        obtain ⟨b1, off, s, rfl, hbl, hv, _, hc⟩ := HV.out.at_ hlt'
        obtain ⟨b2, off2, t, rfl, hbl2, hv2, _, hc2⟩ := HV'.out.at_ hlt2
        obtain ⟨⟨c0, c1⟩, c2, c3⟩ := hc wr hb
        have hki : (k : Int) < (n : Int) := by omega
        have hst := Lib.hid (take_sameG hlt' hlt2 H.out)
        have hno := Lib.hid (at_neG hlt' hlt2)
        have HVr := Lib.hid hv
        have HVr2 := Lib.hid hv2
        have HC2 := Lib.hid hc2
        have hbs := hb.size
        clear hc hc2 hv hv2
        generalize a[k] = x at *
        generalize b[k] = y at *
        obtain ⟨⟨d0, d1⟩, d2, d3⟩ := HC2.out (wr.alloc (.cells #[.int .i64 x.table, .int .i64 x.key, .bool x.gone, .slice s.A s.n s.c] 42)) (hb.alloc hbs _)
        go_wp2_with fail
        have HB : Hid (∀ C D : Obj, Below w.heap.size w ((wr.alloc C).alloc D)) := Lib.hid (fun C D => (hb.alloc hbs _).alloc (by simp; omega) _)
        refine (sameChange_any x y s t _ (HVr.out.next (HB.out _ _)) (HVr2.out.next (HB.out _ _))).mono ?_; rintro e w2 ⟨rfl, bb⟩
        have B2 : Below w.heap.size w w2 := (HB.out _ _).trans (bb.mono (HB.out _ _).size)
        cases hq : sameG x y
        · have hno' := Lib.hid (hno.out hq)
          go_wp2_with fail
          go_ret
          exact ⟨by rw [hno'.out]; rfl, B2⟩
        · have hst' := Lib.hid (hst.out hq)
          go_wp2_with fail
          go_roundw
          case rel => exact ⟨k + 1, by omega, by go_num, hst', B2⟩
          case measure => simp [intOf]; omega
      · obtain rfl : k = n := by omega
        go_wp2_with fail
        go_ret
        exact ⟨by rw [sameH_end H.out HL.out HL'.out]; rfl, hb⟩
  · have hr : Hid (sameH a b = false) := Lib.hid (sameH_len (by omega))
    have d1 : ((n : Int) != (n' : Int)) = true := by simp; omega
    have d2 : ((n : Int) == (n' : Int)) = false := by simp; omega
    clear hl hl'
    go_enter Try.func76, Try.ntmps76
    go_wp2_with fail
    go_ret
    exact ⟨by rw [hr.out]; rfl, Below.refl _ _⟩
set_option maxHeartbeats 2000000 in
set_option maxRecDepth 100000 in
theorem rsameH_any (A A' : Option Addr) (n c n' c' : Nat) (a b : List Chg) (w : World) (h : HRow w A n c a) (h' : HRow w A' n' c' b) :
    Calls Try.prog 78 #[.slice A n c, .slice A' n' c'] w fun e w' => e = .returned (.bool (sameH a b)) ∧ Below w.heap.size w w' := by
  have hl := h.len
  have hl' := h'.len
  have hcap := h.cap
  have hcap' := h'.cap
  by_cases hne : n = n'
  · subst hne
    have HV := Lib.hid h
    have HV' := Lib.hid h'
    have HL := Lib.hid hl
    have HL' := Lib.hid hl'
    clear h h' hl hl'
    go_enter Try.func78, Try.ntmps78
    go_wp2_with fail
    go_loopw [5, 13] (fun _ i wr => ∃ k : Nat, k ≤ n ∧ i = .int .i64 k ∧ Hid (a.take k = b.take k) ∧ Below w.heap.size w wr) (fun _ i _ => n - (intOf i).toNat)
    case atStart => exact ⟨0, by omega, rfl, Lib.hid (by simp), Below.refl _ _⟩
    case round =>
      obtain ⟨k, hk, rfl, H, hb⟩ := hrel
      by_cases hlt : k < n
      · have hlt' : k < a.length := by rw [HL.out]; exact hlt
        have hlt2 : k < b.length := by rw [HL'.out]; exact hlt
        obtain ⟨b1, off, s, rfl, hbl, hv, _, hc⟩ := HV.out.at_ hlt'
        obtain ⟨b2, off2, t, rfl, hbl2, hv2, _, hc2⟩ := HV'.out.at_ hlt2
        have hki : (k : Int) < (n : Int) := by omega
        have hst := Lib.hid (take_sameG hlt' hlt2 H.out)
        have hno := Lib.hid (at_neG hlt' hlt2)
        have HVr := Lib.hid hv
        have HVr2 := Lib.hid hv2
        have HC := Lib.hid hc
        have HC2 := Lib.hid hc2
        clear hc hc2 hv hv2
        generalize a[k] = x at *
        generalize b[k] = y at *
        obtain ⟨t1, k1, g1, a1⟩ := x
        obtain ⟨t2, k2, g2, a2⟩ := y
        by_cases e1 : t1 = t2
        · subst e1
          by_cases e2 : k1 = k2
          · subst e2
            by_cases e3 : g1 = g2
            · subst e3
              have hr := Lib.hid (sameG_row (x := ⟨t1, k1, g1, a1⟩) (y := ⟨t1, k1, g1, a2⟩) rfl rfl rfl)
              have dg : (g1 != g1) = false := by simp
              go_wp2_with fail
              refine wp_region_sched [(0, true), (1, true), (2, true), (3, true), (4, true), (5, true), (6, true), (7, true), (8, true), (9, true), (10, true), (11, true), (12, true), (13, true), (14, true), (15, true), (16, true), (17, true), (18, true), (19, true), (20, true), (21, true), (22, true), (23, true), (24, true), (25, true), (26, true), (27, true), (28, true), (29, true), (30, true), (31, true), (32, true), (33, true), (34, true), (35, true), (36, true), (37, true), (38, true), (39, true), (40, true), (41, true), (42, true), (43, true), (44, true), (45, true), (46, true), (47, true), (48, false), (49, true), (50, true)] (by kernel_rfl) (by kernel_rfl) (fun _ _ d _ _ h => by cases d <;> exact h) ?_
              refine swith (fun W hW => (HC.out W (hb.drew.trans (hW.out.mono hb.size)))) (fun q1 => ?_)
              refine swith (fun W hW => (HC2.out W (hb.drew.trans (hW.out.mono hb.size)))) (fun q2 => ?_)
              repeat (first | (refine sreadx rfl rfl ?_; apply Exists.intro; apply And.intro; (· (intro W hW; first | (go_simp; done) | (go_simp; with_reducible rfl) | (go_simp; rw [if_neg (by omega)]; done) | (go_simp; rw [if_neg (by omega)]; with_reducible rfl))); simp only [Act.put, List.setIfInBounds_toArray, List.set_cons_zero, List.set_cons_succ]) | (refine sskip rfl rfl ?_; simp only [Act.put, List.setIfInBounds_toArray, List.set_cons_zero, List.set_cons_succ]))
              refine scall rfl rfl (fun K hK => ?_)
              go_simp
              refine (rsame_any s.A t.A s.n s.c t.n t.c a1 a2 _ (HVr.out.next hb.drew) (HVr2.out.next hb.drew)).mono ?_; rintro e w2 ⟨rfl, bb⟩
              go_wp2_with fail
              refine hK.out _ _ (by exact bb) ?_
              clear hK K
              try simp only [Act.put, List.setIfInBounds_toArray, List.set_cons_zero, List.set_cons_succ]
              cases hq : sameR a1 a2
              · have hno' := Lib.hid (hno.out (by rw [hr.out, hq]))
                repeat (first | (refine sreadx rfl rfl ?_; apply Exists.intro; apply And.intro; (· (intro W hW; first | (go_simp; done) | (go_simp; with_reducible rfl) | (go_simp; rw [if_neg (by omega)]; done) | (go_simp; rw [if_neg (by omega)]; with_reducible rfl))); simp only [Act.put, List.setIfInBounds_toArray, List.set_cons_zero, List.set_cons_succ]) | (refine sskip rfl rfl ?_; simp only [Act.put, List.setIfInBounds_toArray, List.set_cons_zero, List.set_cons_succ]))
                refine sdone ?_
                go_wp2_with fail
                go_ret
                exact ⟨by rw [hno'.out]; rfl, hb.drew.trans (bb.mono hb.size)⟩
              · have hst' := Lib.hid (hst.out (by rw [hr.out, hq]))
                repeat (first | (refine sreadx rfl rfl ?_; apply Exists.intro; apply And.intro; (· (intro W hW; first | (go_simp; done) | (go_simp; with_reducible rfl) | (go_simp; rw [if_neg (by omega)]; done) | (go_simp; rw [if_neg (by omega)]; with_reducible rfl))); simp only [Act.put, List.setIfInBounds_toArray, List.set_cons_zero, List.set_cons_succ]) | (refine sskip rfl rfl ?_; simp only [Act.put, List.setIfInBounds_toArray, List.set_cons_zero, List.set_cons_succ]))
                refine sdone ?_
                go_wp2_with fail
                go_roundw
                case rel => exact ⟨k + 1, by omega, by go_num, hst', hb.drew.trans (bb.mono hb.size)⟩
                case measure => simp [intOf]; omega
            · have hno' := Lib.hid (hno.out (sameG_no3 e3))
              obtain ⟨rfl, rfl⟩ | ⟨rfl, rfl⟩ : (g1 = true ∧ g2 = false) ∨ (g1 = false ∧ g2 = true) := by revert e3; cases g1 <;> cases g2 <;> simp
              · go_wp2_with fail
                refine wp_region_sched [(0, true), (1, true), (2, true), (3, true), (4, true), (5, true), (6, true), (7, true), (8, true), (9, true), (10, true), (11, true), (12, true), (13, true), (14, true), (15, true), (16, true), (17, true), (18, true), (19, true), (20, true), (21, true), (22, true), (23, true), (24, true), (25, true), (26, true), (27, true), (28, true), (29, true), (30, true), (31, true), (32, true), (33, true), (34, true), (35, true), (36, true), (37, true), (38, true), (39, true), (40, true), (41, true), (42, true), (43, true), (44, true), (45, true), (46, true), (47, true), (48, false), (49, true), (50, true)] (by kernel_rfl) (by kernel_rfl) (fun _ _ d _ _ h => by cases d <;> exact h) ?_
                refine swith (fun W hW => (HC.out W (hb.drew.trans (hW.out.mono hb.size)))) (fun q1 => ?_)
                refine swith (fun W hW => (HC2.out W (hb.drew.trans (hW.out.mono hb.size)))) (fun q2 => ?_)
                repeat (first | (refine sreadx rfl rfl ?_; apply Exists.intro; apply And.intro; (· (intro W hW; first | (go_simp; done) | (go_simp; with_reducible rfl) | (go_simp; rw [if_neg (by omega)]; done) | (go_simp; rw [if_neg (by omega)]; with_reducible rfl))); simp only [Act.put, List.setIfInBounds_toArray, List.set_cons_zero, List.set_cons_succ]) | (refine sskip rfl rfl ?_; simp only [Act.put, List.setIfInBounds_toArray, List.set_cons_zero, List.set_cons_succ]))
                refine sdone ?_
                go_wp2_with fail
                go_ret
                exact ⟨by rw [hno'.out]; rfl, hb.drew⟩
              · go_wp2_with fail
                refine wp_region_sched [(0, true), (1, true), (2, true), (3, true), (4, true), (5, true), (6, true), (7, true), (8, true), (9, true), (10, true), (11, true), (12, true), (13, true), (14, true), (15, true), (16, true), (17, true), (18, true), (19, true), (20, true), (21, true), (22, true), (23, true), (24, true), (25, true), (26, true), (27, true), (28, true), (29, true), (30, true), (31, true), (32, true), (33, true), (34, true), (35, true), (36, true), (37, true), (38, true), (39, true), (40, true), (41, true), (42, true), (43, true), (44, true), (45, true), (46, true), (47, true), (48, false), (49, true), (50, true)] (by kernel_rfl) (by kernel_rfl) (fun _ _ d _ _ h => by cases d <;> exact h) ?_
                refine swith (fun W hW => (HC.out W (hb.drew.trans (hW.out.mono hb.size)))) (fun q1 => ?_)
                refine swith (fun W hW => (HC2.out W (hb.drew.trans (hW.out.mono hb.size)))) (fun q2 => ?_)
                repeat (first | (refine sreadx rfl rfl ?_; apply Exists.intro; apply And.intro; (· (intro W hW; first | (go_simp; done) | (go_simp; with_reducible rfl) | (go_simp; rw [if_neg (by omega)]; done) | (go_simp; rw [if_neg (by omega)]; with_reducible rfl))); simp only [Act.put, List.setIfInBounds_toArray, List.set_cons_zero, List.set_cons_succ]) | (refine sskip rfl rfl ?_; simp only [Act.put, List.setIfInBounds_toArray, List.set_cons_zero, List.set_cons_succ]))
                refine sdone ?_
                go_wp2_with fail
                go_ret
                exact ⟨by rw [hno'.out]; rfl, hb.drew⟩
          · have hno' := Lib.hid (hno.out (sameG_no2 e2))
            have d : (k1 != k2) = true := by simpa using e2
            go_wp2_with fail
            refine wp_region_sched [(0, true), (1, true), (2, true), (3, true), (4, true), (5, true), (6, true), (7, true), (8, true), (9, true), (10, true), (11, true), (12, true), (13, true), (14, true), (15, true), (16, true), (17, true), (18, true), (19, true), (20, true), (21, true), (22, true), (23, true), (24, true), (25, true), (26, true), (27, true), (28, true), (29, true), (30, true), (31, true), (32, true), (33, true), (34, true), (35, true), (36, true), (37, true), (38, true), (39, true), (40, true), (41, true), (42, true), (43, true), (44, true), (45, true), (46, true), (47, true), (48, false), (49, true), (50, true)] (by kernel_rfl) (by kernel_rfl) (fun _ _ d _ _ h => by cases d <;> exact h) ?_
            refine swith (fun W hW => (HC.out W (hb.drew.trans (hW.out.mono hb.size)))) (fun q1 => ?_)
            refine swith (fun W hW => (HC2.out W (hb.drew.trans (hW.out.mono hb.size)))) (fun q2 => ?_)
            repeat (first | (refine sreadx rfl rfl ?_; apply Exists.intro; apply And.intro; (· (intro W hW; first | (go_simp; done) | (go_simp; with_reducible rfl) | (go_simp; rw [if_neg (by omega)]; done) | (go_simp; rw [if_neg (by omega)]; with_reducible rfl))); simp only [Act.put, List.setIfInBounds_toArray, List.set_cons_zero, List.set_cons_succ]) | (refine sskip rfl rfl ?_; simp only [Act.put, List.setIfInBounds_toArray, List.set_cons_zero, List.set_cons_succ]))
            refine sdone ?_
            go_wp2_with fail
            go_ret
            exact ⟨by rw [hno'.out]; rfl, hb.drew⟩
        · have hno' := Lib.hid (hno.out (sameG_no1 e1))
          have d : (t1 != t2) = true := by simpa using e1
          go_wp2_with fail
          refine wp_region_sched [(0, true), (1, true), (2, true), (3, true), (4, true), (5, true), (6, true), (7, true), (8, true), (9, true), (10, true), (11, true), (12, true), (13, true), (14, true), (15, true), (16, true), (17, true), (18, true), (19, true), (20, true), (21, true), (22, true), (23, true), (24, true), (25, true), (26, true), (27, true), (28, true), (29, true), (30, true), (31, true), (32, true), (33, true), (34, true), (35, true), (36, true), (37, true), (38, true), (39, true), (40, true), (41, true), (42, true), (43, true), (44, true), (45, true), (46, true), (47, true), (48, false), (49, true), (50, true)] (by kernel_rfl) (by kernel_rfl) (fun _ _ d _ _ h => by cases d <;> exact h) ?_
          refine swith (fun W hW => (HC.out W (hb.drew.trans (hW.out.mono hb.size)))) (fun q1 => ?_)
          refine swith (fun W hW => (HC2.out W (hb.drew.trans (hW.out.mono hb.size)))) (fun q2 => ?_)
          repeat (first | (refine sreadx rfl rfl ?_; apply Exists.intro; apply And.intro; (· (intro W hW; first | (go_simp; done) | (go_simp; with_reducible rfl) | (go_simp; rw [if_neg (by omega)]; done) | (go_simp; rw [if_neg (by omega)]; with_reducible rfl))); simp only [Act.put, List.setIfInBounds_toArray, List.set_cons_zero, List.set_cons_succ]) | (refine sskip rfl rfl ?_; simp only [Act.put, List.setIfInBounds_toArray, List.set_cons_zero, List.set_cons_succ]))
          refine sdone ?_
          go_wp2_with fail
          go_ret
          exact ⟨by rw [hno'.out]; rfl, hb.drew⟩
      · obtain rfl : k = n := by omega
        go_wp2_with fail
        go_ret
        exact ⟨by rw [sameH_end H.out HL.out HL'.out]; rfl, hb⟩
  · have hr : Hid (sameH a b = false) := Lib.hid (sameH_len (by omega))
    have d1 : ((n : Int) != (n' : Int)) = true := by simp; omega
    have d2 : ((n : Int) == (n' : Int)) = false := by simp; omega
    clear hl hl'
    go_enter Try.func78, Try.ntmps78
    go_wp2_with fail
    go_ret
    exact ⟨by rw [hr.out]; rfl, Below.refl _ _⟩
theorem Rec.same {x y : Rec} (h1 : x.inst = y.inst) (h2 : x.proc = y.proc) (h3 : x.piece = y.piece) (h4 : x.fin = y.fin) (h5 : x.args = y.args) (h6 : x.emits = y.emits) (h7 : x.locals = y.locals) (h8 : x.changes = y.changes) : x = y := by cases x; cases y; simp_all
def sameRec (x y : Rec) : Bool := decide (x.inst = y.inst) && (decide (x.proc = y.proc) && (decide (x.piece = y.piece) && (decide (x.fin = y.fin) && (sameR x.args y.args && (sameR x.emits y.emits && (sameR x.locals y.locals && sameH x.changes y.changes))))))
theorem sameRec_iff {x y : Rec} : sameRec x y = true ↔ x = y := by
  unfold sameRec sameR sameH
  simp only [Bool.and_eq_true, decide_eq_true_eq]
  constructor
  · rintro ⟨h1, h2, h3, h4, h5, h6, h7, h8⟩; exact Rec.same h1 h2 h3 h4 h5 h6 h7 h8
  · intro h; subst h; simp
set_option maxHeartbeats 2000000 in
set_option maxRecDepth 100000 in
theorem sameRec_any (x y : Rec) (s t : RS) (w : World) (h : RecAt w x s) (h' : RecAt w y t) : Calls Try.prog 26 #[rv x s, rv y t] w fun e w' => e = .returned (.bool (sameRec x y)) ∧ Below w.heap.size w w' := by
  obtain ⟨i1, p1, c1, f1, a1, e1, l1, h1⟩ := x
  obtain ⟨i2, p2, c2, f2, a2, e2, l2, h2⟩ := y
  have HR := Lib.hid h
  have HR' := Lib.hid h'
  clear h h'
  simp only [rv]
  have X0 : Hid (RBox w ⟨i1, p1, c1, f1, a1, e1, l1, h1⟩ s w.heap.size ((w.alloc (.cells #[.int .i64 i1, .int .i64 p1, .int .i64 c1, .int .i64 f1, .slice s.a.A s.a.n s.a.c, .slice s.e.A s.e.n s.e.c, .slice s.l.A s.l.n s.l.c, .slice s.c.A s.c.n s.c.c] 37)).alloc (.cells #[.int .i64 i2, .int .i64 p2, .int .i64 c2, .int .i64 f2, .slice t.a.A t.a.n t.a.c, .slice t.e.A t.e.n t.e.c, .slice t.l.A t.l.n t.l.c, .slice t.c.A t.c.n t.c.c] 37))) := Lib.hid ⟨alloc_old' (alloc_at rfl), by repeat (first | exact Below.refl _ _ | refine Below.alloc ?_ (by simp <;> omega) _)⟩
  have Y0 : Hid (RBox w ⟨i2, p2, c2, f2, a2, e2, l2, h2⟩ t (w.heap.size + 1) ((w.alloc (.cells #[.int .i64 i1, .int .i64 p1, .int .i64 c1, .int .i64 f1, .slice s.a.A s.a.n s.a.c, .slice s.e.A s.e.n s.e.c, .slice s.l.A s.l.n s.l.c, .slice s.c.A s.c.n s.c.c] 37)).alloc (.cells #[.int .i64 i2, .int .i64 p2, .int .i64 c2, .int .i64 f2, .slice t.a.A t.a.n t.a.c, .slice t.e.A t.e.n t.e.c, .slice t.l.A t.l.n t.l.c, .slice t.c.A t.c.n t.c.c] 37))) := Lib.hid ⟨alloc_at (by simp), X0.out.2⟩
  by_cases q1 : i1 = i2
  · subst q1
    by_cases q2 : p1 = p2
    · subst q2
      by_cases q3 : c1 = c2
      · subst q3
        by_cases q4 : f1 = f2
        · subst q4
          go_enter Try.func26, Try.ntmps26
          go_wp2_with fail
          refine (equal_any s.a.A t.a.A s.a.n s.a.c t.a.n t.a.c a1 a2 _ (HR.out.next X0.out.2).a (HR'.out.next X0.out.2).a).mono ?_; rintro e w1 ⟨rfl, b1⟩
          have X1 := Lib.hid (X0.out.next b1)
          have Y1 := Lib.hid (Y0.out.next b1)
          clear b1 X0 Y0
          cases r1 : sameR a1 a2
          · go_wp2_with fail
            go_ret
            exact ⟨by simp [sameRec, r1], X1.out.2⟩
          obtain ⟨⟨⟨x0, x1⟩, x2, x3⟩, ⟨x4, x5⟩, x6, x7⟩ := X1.out.cells
          obtain ⟨⟨⟨y0, y1⟩, y2, y3⟩, ⟨y4, y5⟩, y6, y7⟩ := Y1.out.cells
          go_wp2_with fail
          refine (equal_any s.e.A t.e.A s.e.n s.e.c t.e.n t.e.c e1 e2 _ (HR.out.next X1.out.2).e (HR'.out.next X1.out.2).e).mono ?_; rintro e w2 ⟨rfl, b2⟩
          clear x0 x1 x2 x3 x4 x5 x6 x7 y0 y1 y2 y3 y4 y5 y6 y7
          have X2 := Lib.hid (X1.out.next b2)
          have Y2 := Lib.hid (Y1.out.next b2)
          clear b2 X1 Y1
          cases r2 : sameR e1 e2
          · go_wp2_with fail
            go_ret
            exact ⟨by simp [sameRec, r1, r2], X2.out.2⟩
          obtain ⟨⟨⟨x0, x1⟩, x2, x3⟩, ⟨x4, x5⟩, x6, x7⟩ := X2.out.cells
          obtain ⟨⟨⟨y0, y1⟩, y2, y3⟩, ⟨y4, y5⟩, y6, y7⟩ := Y2.out.cells
          go_wp2_with fail
          refine (equal_any s.l.A t.l.A s.l.n s.l.c t.l.n t.l.c l1 l2 _ (HR.out.next X2.out.2).l (HR'.out.next X2.out.2).l).mono ?_; rintro e w3 ⟨rfl, b3⟩
          clear x0 x1 x2 x3 x4 x5 x6 x7 y0 y1 y2 y3 y4 y5 y6 y7
          have X3 := Lib.hid (X2.out.next b3)
          have Y3 := Lib.hid (Y2.out.next b3)
          clear b3 X2 Y2
          cases r3 : sameR l1 l2
          · go_wp2_with fail
            go_ret
            exact ⟨by simp [sameRec, r1, r2, r3], X3.out.2⟩
          obtain ⟨⟨⟨x0, x1⟩, x2, x3⟩, ⟨x4, x5⟩, x6, x7⟩ := X3.out.cells
          obtain ⟨⟨⟨y0, y1⟩, y2, y3⟩, ⟨y4, y5⟩, y6, y7⟩ := Y3.out.cells
          go_wp2_with fail
          refine (equalH_any s.c.A t.c.A s.c.n s.c.c t.c.n t.c.c h1 h2 _ (HR.out.next X3.out.2).c (HR'.out.next X3.out.2).c).mono ?_; rintro e w4 ⟨rfl, b4⟩
          clear x0 x1 x2 x3 x4 x5 x6 x7 y0 y1 y2 y3 y4 y5 y6 y7
          have X4 := Lib.hid (X3.out.next b4)
          cases r4 : sameH h1 h2
          · go_wp2_with fail
            go_ret
            exact ⟨by simp [sameRec, r1, r2, r3, r4], X4.out.2⟩
          · go_wp2_with fail
            go_ret
            exact ⟨by simp [sameRec, r1, r2, r3, r4], X4.out.2⟩
        · have d : (f1 == f2) = false := by simpa using q4
          go_enter Try.func26, Try.ntmps26
          go_wp2_with fail
          go_ret
          exact ⟨by simp [sameRec, q4], X0.out.2⟩
      · have d : (c1 == c2) = false := by simpa using q3
        go_enter Try.func26, Try.ntmps26
        go_wp2_with fail
        go_ret
        exact ⟨by simp [sameRec, q3], X0.out.2⟩
    · have d : (p1 == p2) = false := by simpa using q2
      go_enter Try.func26, Try.ntmps26
      go_wp2_with fail
      go_ret
      exact ⟨by simp [sameRec, q2], X0.out.2⟩
  · have d : (i1 == i2) = false := by simpa using q1
    go_enter Try.func26, Try.ntmps26
    go_wp2_with fail
    go_ret
    exact ⟨by simp [sameRec, q1], X0.out.2⟩
set_option maxHeartbeats 2000000 in
set_option maxRecDepth 100000 in
theorem rsameRec_any (x y : Rec) (s t : RS) (w : World) (h : RecAt w x s) (h' : RecAt w y t) : Calls Try.prog 27 #[rv x s, rv y t] w fun e w' => e = .returned (.bool (sameRec x y)) ∧ Below w.heap.size w w' := by
  obtain ⟨i1, p1, c1, f1, a1, e1, l1, h1⟩ := x
  obtain ⟨i2, p2, c2, f2, a2, e2, l2, h2⟩ := y
  have HR := Lib.hid h
  have HR' := Lib.hid h'
  clear h h'
  simp only [rv]
  have X0 : Hid (RBox w ⟨i1, p1, c1, f1, a1, e1, l1, h1⟩ s w.heap.size ((w.alloc (.cells #[.int .i64 i1, .int .i64 p1, .int .i64 c1, .int .i64 f1, .slice s.a.A s.a.n s.a.c, .slice s.e.A s.e.n s.e.c, .slice s.l.A s.l.n s.l.c, .slice s.c.A s.c.n s.c.c] 37)).alloc (.cells #[.int .i64 i2, .int .i64 p2, .int .i64 c2, .int .i64 f2, .slice t.a.A t.a.n t.a.c, .slice t.e.A t.e.n t.e.c, .slice t.l.A t.l.n t.l.c, .slice t.c.A t.c.n t.c.c] 37))) := Lib.hid ⟨alloc_old' (alloc_at rfl), by repeat (first | exact Below.refl _ _ | refine Below.alloc ?_ (by simp <;> omega) _)⟩
  have Y0 : Hid (RBox w ⟨i2, p2, c2, f2, a2, e2, l2, h2⟩ t (w.heap.size + 1) ((w.alloc (.cells #[.int .i64 i1, .int .i64 p1, .int .i64 c1, .int .i64 f1, .slice s.a.A s.a.n s.a.c, .slice s.e.A s.e.n s.e.c, .slice s.l.A s.l.n s.l.c, .slice s.c.A s.c.n s.c.c] 37)).alloc (.cells #[.int .i64 i2, .int .i64 p2, .int .i64 c2, .int .i64 f2, .slice t.a.A t.a.n t.a.c, .slice t.e.A t.e.n t.e.c, .slice t.l.A t.l.n t.l.c, .slice t.c.A t.c.n t.c.c] 37))) := Lib.hid ⟨alloc_at (by simp), X0.out.2⟩
  by_cases q1 : i1 = i2
  · subst q1
    by_cases q2 : p1 = p2
    · subst q2
      by_cases q3 : c1 = c2
      · subst q3
        by_cases q4 : f1 = f2
        · subst q4
          go_enter Try.func27, Try.ntmps27
          go_wp2_with fail
          refine (rsame_any s.a.A t.a.A s.a.n s.a.c t.a.n t.a.c a1 a2 _ (HR.out.next X0.out.2).a (HR'.out.next X0.out.2).a).mono ?_; rintro e w1 ⟨rfl, b1⟩
          have X1 := Lib.hid (X0.out.next b1)
          have Y1 := Lib.hid (Y0.out.next b1)
          clear b1 X0 Y0
          cases r1 : sameR a1 a2
          · go_wp2_with fail
            go_ret
            exact ⟨by simp [sameRec, r1], X1.out.2⟩
          obtain ⟨⟨⟨x0, x1⟩, x2, x3⟩, ⟨x4, x5⟩, x6, x7⟩ := X1.out.cells
          obtain ⟨⟨⟨y0, y1⟩, y2, y3⟩, ⟨y4, y5⟩, y6, y7⟩ := Y1.out.cells
          go_wp2_with fail
          refine (rsame_any s.e.A t.e.A s.e.n s.e.c t.e.n t.e.c e1 e2 _ (HR.out.next X1.out.2).e (HR'.out.next X1.out.2).e).mono ?_; rintro e w2 ⟨rfl, b2⟩
          clear x0 x1 x2 x3 x4 x5 x6 x7 y0 y1 y2 y3 y4 y5 y6 y7
          have X2 := Lib.hid (X1.out.next b2)
          have Y2 := Lib.hid (Y1.out.next b2)
          clear b2 X1 Y1
          cases r2 : sameR e1 e2
          · go_wp2_with fail
            go_ret
            exact ⟨by simp [sameRec, r1, r2], X2.out.2⟩
          obtain ⟨⟨⟨x0, x1⟩, x2, x3⟩, ⟨x4, x5⟩, x6, x7⟩ := X2.out.cells
          obtain ⟨⟨⟨y0, y1⟩, y2, y3⟩, ⟨y4, y5⟩, y6, y7⟩ := Y2.out.cells
          go_wp2_with fail
          refine (rsame_any s.l.A t.l.A s.l.n s.l.c t.l.n t.l.c l1 l2 _ (HR.out.next X2.out.2).l (HR'.out.next X2.out.2).l).mono ?_; rintro e w3 ⟨rfl, b3⟩
          clear x0 x1 x2 x3 x4 x5 x6 x7 y0 y1 y2 y3 y4 y5 y6 y7
          have X3 := Lib.hid (X2.out.next b3)
          have Y3 := Lib.hid (Y2.out.next b3)
          clear b3 X2 Y2
          cases r3 : sameR l1 l2
          · go_wp2_with fail
            go_ret
            exact ⟨by simp [sameRec, r1, r2, r3], X3.out.2⟩
          obtain ⟨⟨⟨x0, x1⟩, x2, x3⟩, ⟨x4, x5⟩, x6, x7⟩ := X3.out.cells
          obtain ⟨⟨⟨y0, y1⟩, y2, y3⟩, ⟨y4, y5⟩, y6, y7⟩ := Y3.out.cells
          go_wp2_with fail
          refine (rsameH_any s.c.A t.c.A s.c.n s.c.c t.c.n t.c.c h1 h2 _ (HR.out.next X3.out.2).c (HR'.out.next X3.out.2).c).mono ?_; rintro e w4 ⟨rfl, b4⟩
          clear x0 x1 x2 x3 x4 x5 x6 x7 y0 y1 y2 y3 y4 y5 y6 y7
          have X4 := Lib.hid (X3.out.next b4)
          cases r4 : sameH h1 h2
          · go_wp2_with fail
            go_ret
            exact ⟨by simp [sameRec, r1, r2, r3, r4], X4.out.2⟩
          · go_wp2_with fail
            go_ret
            exact ⟨by simp [sameRec, r1, r2, r3, r4], X4.out.2⟩
        · have d : (f1 == f2) = false := by simpa using q4
          go_enter Try.func27, Try.ntmps27
          go_wp2_with fail
          go_ret
          exact ⟨by simp [sameRec, q4], X0.out.2⟩
      · have d : (c1 == c2) = false := by simpa using q3
        go_enter Try.func27, Try.ntmps27
        go_wp2_with fail
        go_ret
        exact ⟨by simp [sameRec, q3], X0.out.2⟩
    · have d : (p1 == p2) = false := by simpa using q2
      go_enter Try.func27, Try.ntmps27
      go_wp2_with fail
      go_ret
      exact ⟨by simp [sameRec, q2], X0.out.2⟩
  · have d : (i1 == i2) = false := by simpa using q1
    go_enter Try.func27, Try.ntmps27
    go_wp2_with fail
    go_ret
    exact ⟨by simp [sameRec, q1], X0.out.2⟩
end Go.Proofs.Ytpkoijlbbfffiaa.R
