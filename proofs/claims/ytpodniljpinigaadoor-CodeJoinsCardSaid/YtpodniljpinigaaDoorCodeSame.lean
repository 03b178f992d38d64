/- slices.Equal at instructions, code.Same and the reference's Same. -/
import Derived.Test.YtpodniljpinigaaDoorCodePrintA
import Derived.Deep.DeepCutAuto
namespace Go.Proofs.YtpodniljpinigaaDoor.C
open Go.RowKit O V

set_option maxHeartbeats 2000000 in
set_option maxRecDepth 100000 in
theorem iequal_any (A A' : Option Addr) (n c n' c' : Nat) (a b : List Ins) (w : World) (h : IRow w A n c a) (h' : IRow w A' n' c' b) (hn : n ≤ 100000) :
    Calls Tryd.prog 35 #[.slice A n c, .slice A' n' c'] w fun e w' => e = .returned (.bool (sameI a b)) ∧ Below w.heap.size w w' := by
  have hl := h.len
  have hl' := h'.len
  by_cases hne : n = n'
  · subst hne
    have HV := Lib.hid h
    have HV' := Lib.hid h'
    have HL := Lib.hid hl
    have HL' := Lib.hid hl'
    clear h h' hl hl'
    go_enter Tryd.func35, Tryd.ntmps35
    go_wp2_with fail
    go_loopw [5, 13] (fun _ i wr => ∃ k : Nat, k ≤ n ∧ i = .int .i64 k ∧ Hid (a.take k = b.take k) ∧ Below w.heap.size w wr) (fun _ i _ => n - (intOf i).toNat)
    case atStart => exact ⟨0, by omega, rfl, Lib.hid (by simp), Below.refl _ _⟩
    case round =>
      obtain ⟨k, hk, rfl, H, hb⟩ := hrel
      by_cases hlt : k < n
      · have hlt' : k < a.length := by rw [HL.out]; exact hlt
        have hlt2 : k < b.length := by rw [HL'.out]; exact hlt
        obtain ⟨b1, off, rfl, hbl, hc⟩ := HV.out.at8 hlt'
        obtain ⟨b2, off2, rfl, hbl2, hc2⟩ := HV'.out.at8 hlt2
        have HC := Lib.hid hc
        have HC2 := Lib.hid hc2
        have hst := Lib.hid (take_sameI hlt' hlt2 H.out)
        have hno := Lib.hid (at_neI hlt' hlt2)
        clear hc hc2
        generalize a[k] = x at *
        generalize b[k] = y at *
        have hki : (k : Int) < (n : Int) := by omega
        by_cases he : x = y
        · subst he
          have hst' := Lib.hid (hst.out rfl)
          have qn := fun w => ineq_no x w
          unfold insV insC at qn
          go_wp2_with fail
          refine wp_region_sched [(0, true), (1, true), (2, true), (3, true), (4, true), (5, true), (6, true), (7, true), (8, true)] (by kernel_rfl) (by kernel_rfl) (fun _ _ d _ _ h => by cases d <;> exact h) ?_
          refine swith (fun W hW => (HC.out W (hb.drew.trans (hW.out.mono hb.size)))) (fun q1 => ?_)
          refine swith (fun W hW => (HC2.out W (hb.drew.trans (hW.out.mono hb.size)))) (fun q2 => ?_)
          repeat (first | (refine sreadx rfl rfl ?_; apply Exists.intro; apply And.intro; (· (intro W hW; first | (go_simp; done) | (go_simp; with_reducible rfl) | (go_simp; rw [if_neg (by omega)]; done) | (go_simp; rw [if_neg (by omega)]; with_reducible rfl))); simp only [Act.put, List.setIfInBounds_toArray, List.set_cons_zero, List.set_cons_succ]) | (refine sskip rfl rfl ?_; simp only [Act.put, List.setIfInBounds_toArray, List.set_cons_zero, List.set_cons_succ]))
          refine sdone ?_
          go_wp2_with fail
          go_roundw
          case rel => exact ⟨k + 1, by omega, by go_num, hst', hb.drew⟩
          case measure => simp [intOf]; omega
        · have hno' := Lib.hid (hno.out he)
          have qn := fun w => ineq_yes he w
          unfold insV insC at qn
          go_wp2_with fail
          refine wp_region_sched [(0, true), (1, true), (2, true), (3, true), (4, true), (5, true), (6, true), (7, true), (8, true)] (by kernel_rfl) (by kernel_rfl) (fun _ _ d _ _ h => by cases d <;> exact h) ?_
          refine swith (fun W hW => (HC.out W (hb.drew.trans (hW.out.mono hb.size)))) (fun q1 => ?_)
          refine swith (fun W hW => (HC2.out W (hb.drew.trans (hW.out.mono hb.size)))) (fun q2 => ?_)
          repeat (first | (refine sreadx rfl rfl ?_; apply Exists.intro; apply And.intro; (· (intro W hW; first | (go_simp; done) | (go_simp; with_reducible rfl) | (go_simp; rw [if_neg (by omega)]; done) | (go_simp; rw [if_neg (by omega)]; with_reducible rfl))); simp only [Act.put, List.setIfInBounds_toArray, List.set_cons_zero, List.set_cons_succ]) | (refine sskip rfl rfl ?_; simp only [Act.put, List.setIfInBounds_toArray, List.set_cons_zero, List.set_cons_succ]))
          refine sdone ?_
          go_wp2_with fail
          go_ret
          exact ⟨by rw [hno'.out]; rfl, hb.drew⟩
      · obtain rfl : k = n := by omega
        go_wp2_with fail
        go_ret
        refine ⟨?_, hb⟩
        have := H.out
        rw [← HL.out, List.take_length, HL.out, ← HL'.out, List.take_length] at this
        rw [this, sameI, decide_eq_true rfl]
        rfl
  · have hr : Hid (sameI a b = false) := Lib.hid (sameI_len (by omega))
    have d1 : ((n : Int) != (n' : Int)) = true := by simp; omega
    have d2 : ((n : Int) == (n' : Int)) = false := by simp; omega
    clear hl hl'
    go_enter Tryd.func35, Tryd.ntmps35
    go_wp2_with fail
    go_ret
    exact ⟨by rw [hr.out]; rfl, Below.refl _ _⟩
def sameC (a b : Cd) : Bool := decide (a.r = b.r) && (decide (a.l = b.l) && (decide (a.k = b.k) && sameI a.ins b.ins))
theorem sameC_self (a : Cd) : sameC a a = true := by simp [sameC, sameI]
theorem sameC_no {a b : Cd} (h : a.r ≠ b.r ∨ a.l ≠ b.l ∨ a.k ≠ b.k ∨ sameI a.ins b.ins = false) : sameC a b = false := by
  unfold sameC
  rcases h with h | h | h | h <;> simp [h]
set_option maxHeartbeats 2000000 in
set_option maxRecDepth 100000 in
theorem csame_any (A A' : Option Addr) (n c n' c' : Nat) (r l k r' l' k' : Int) (a b : List Ins) (w : World) (h : IRow w A n c a) (h' : IRow w A' n' c' b) (hn : n ≤ 100000) :
    Calls Tryd.prog 16 #[cdV A n c r l k, cdV A' n' c' r' l' k'] w fun e w' => e = .returned (.bool (sameC ⟨r, l, k, a⟩ ⟨r', l', k', b⟩)) ∧ Below w.heap.size w w' := by
  unfold cdV
  have X1 := box_next (heap_alloc_new w (.cells #[.slice A n c, .int .i64 r, .int .i64 l, .int .i64 k] 24)) ((Below.refl _ _).alloc (Nat.le_refl _) (.cells #[.slice A' n' c', .int .i64 r', .int .i64 l', .int .i64 k'] 24))
  have X2 : ((w.alloc (.cells #[.slice A n c, .int .i64 r, .int .i64 l, .int .i64 k] 24)).alloc (.cells #[.slice A' n' c', .int .i64 r', .int .i64 l', .int .i64 k'] 24)).heap[w.heap.size + 1]? = some (.cells #[.slice A' n' c', .int .i64 r', .int .i64 l', .int .i64 k'] 24 (0, 0)) := alloc_at (by simp)
  have B2 : Below w.heap.size w ((w.alloc (.cells #[.slice A n c, .int .i64 r, .int .i64 l, .int .i64 k] 24)).alloc (.cells #[.slice A' n' c', .int .i64 r', .int .i64 l', .int .i64 k'] 24)) := ((Below.refl _ _).alloc (Nat.le_refl _) _).alloc (by simp) _
  obtain ⟨x0, x1, x2, x3⟩ := cells4d X1
  obtain ⟨y0, y1, y2, y3⟩ := cells4d X2
  have HB := Lib.hid B2
  by_cases e1 : r = r'
  · subst e1
    by_cases e2 : l = l'
    · subst e2
      by_cases e3 : k = k'
      · subst e3
        have HS : Hid (sameC ⟨r, l, k, a⟩ ⟨r, l, k, b⟩ = sameI a b) := Lib.hid (by simp [sameC])
        have R1 := Lib.hid (h.next B2)
        have R2 := Lib.hid (h'.next B2)
        clear X1 X2 B2 h h'
        go_enter Tryd.func16, Tryd.ntmps16
        go_wp2_with fail
        refine (iequal_any A A' n c n' c' a b _ R1.out R2.out hn).mono ?_; rintro e w1 ⟨rfl, b1⟩
        rw [← HS.out]
        go_wp2_with fail
        go_ret
        exact ⟨rfl, HB.out.trans (b1.mono HB.out.size)⟩
      · have HN : Hid (sameC ⟨r, l, k, a⟩ ⟨r, l, k', b⟩ = false) := Lib.hid (sameC_no (.inr (.inr (.inl e3))))
        have d1 : (k == k') = false := by simpa using e3
        clear X1 X2 B2 h h'
        go_enter Tryd.func16, Tryd.ntmps16
        go_wp2_with fail
        go_ret
        exact ⟨by rw [HN.out]; rfl, HB.out⟩
    · have HN : Hid (sameC ⟨r, l, k, a⟩ ⟨r, l', k', b⟩ = false) := Lib.hid (sameC_no (.inr (.inl e2)))
      have d1 : (l == l') = false := by simpa using e2
      clear X1 X2 B2 h h'
      go_enter Tryd.func16, Tryd.ntmps16
      go_wp2_with fail
      go_ret
      exact ⟨by rw [HN.out]; rfl, HB.out⟩
  · have HN : Hid (sameC ⟨r, l, k, a⟩ ⟨r', l', k', b⟩ = false) := Lib.hid (sameC_no (.inl e1))
    have d1 : (r == r') = false := by simpa using e1
    clear X1 X2 B2 h h'
    go_enter Tryd.func16, Tryd.ntmps16
    go_wp2_with fail
    go_ret
    exact ⟨by rw [HN.out]; rfl, HB.out⟩
set_option maxHeartbeats 4000000 in
set_option maxRecDepth 100000 in
theorem rsameC_any (A A' : Option Addr) (n c n' c' : Nat) (r l k r' l' k' : Int) (a b : List Ins) (w : World) (h : IRow w A n c a) (h' : IRow w A' n' c' b) (hn : n ≤ 100000) :
    Calls Tryd.prog 11 #[cdV A n c r l k, cdV A' n' c' r' l' k'] w fun e w' => e = .returned (.bool (sameC ⟨r, l, k, a⟩ ⟨r', l', k', b⟩)) ∧ Below w.heap.size w w' := by
  unfold cdV
  have X1 := box_next (heap_alloc_new w (.cells #[.slice A n c, .int .i64 r, .int .i64 l, .int .i64 k] 24)) ((Below.refl _ _).alloc (Nat.le_refl _) (.cells #[.slice A' n' c', .int .i64 r', .int .i64 l', .int .i64 k'] 24))
  have X2 : ((w.alloc (.cells #[.slice A n c, .int .i64 r, .int .i64 l, .int .i64 k] 24)).alloc (.cells #[.slice A' n' c', .int .i64 r', .int .i64 l', .int .i64 k'] 24)).heap[w.heap.size + 1]? = some (.cells #[.slice A' n' c', .int .i64 r', .int .i64 l', .int .i64 k'] 24 (0, 0)) := alloc_at (by simp)
  have B2 : Below w.heap.size w ((w.alloc (.cells #[.slice A n c, .int .i64 r, .int .i64 l, .int .i64 k] 24)).alloc (.cells #[.slice A' n' c', .int .i64 r', .int .i64 l', .int .i64 k'] 24)) := ((Below.refl _ _).alloc (Nat.le_refl _) _).alloc (by simp) _
  obtain ⟨x0, x1, x2, x3⟩ := cells4d X1
  obtain ⟨y0, y1, y2, y3⟩ := cells4d X2
  have HB := Lib.hid B2
  have hl := h.len
  have hl' := h'.len
  by_cases e1 : r = r'
  · subst e1
    have d1 : (r != r) = false := by simp
    by_cases e2 : l = l'
    · subst e2
      have d2 : (l != l) = false := by simp
      by_cases e3 : k = k'
      · subst e3
        have d3 : (k != k) = false := by simp
        have HS : Hid (sameC ⟨r, l, k, a⟩ ⟨r, l, k, b⟩ = sameI a b) := Lib.hid (by simp [sameC])
        by_cases hne : n = n'
        · subst hne
          have HL := Lib.hid hl
          have HL' := Lib.hid hl'
          have HV := Lib.hid h
          have HV' := Lib.hid h'
          have HX1' := Lib.hid X1
          have HX2' := Lib.hid X2
          clear X1 X2 B2 h h' hl hl'
          go_enter Tryd.func11, Tryd.ntmps11
          go_wp2_with fail
          go_loopw [5, 37] (fun _ i wr => ∃ k1 : Nat, k1 ≤ n ∧ i = .int .i64 k1 ∧ Hid (a.take k1 = b.take k1) ∧ Hid (wr.heap[w.heap.size]? = some (.cells #[.slice A n c, .int .i64 r, .int .i64 l, .int .i64 k] 24 (0, 0))) ∧ Hid (wr.heap[w.heap.size + 1]? = some (.cells #[.slice A' n c', .int .i64 r, .int .i64 l, .int .i64 k] 24 (0, 0))) ∧ Hid (Below w.heap.size w wr)) (fun _ i _ => n - (intOf i).toNat)
          case atStart => exact ⟨0, by omega, rfl, Lib.hid (by simp), HX1', HX2', HB⟩
          case round =>
            obtain ⟨k1, hk, rfl, H, HX1, HX2, hb⟩ := hrel
            clear HX1' HX2' HB x0 x1 x2 x3 y0 y1 y2 y3
            by_cases hlt : k1 < n
            · have hlt' : k1 < a.length := by rw [HL.out]; exact hlt
              have hlt2 : k1 < b.length := by rw [HL'.out]; exact hlt
              obtain ⟨b1, off, rfl, hbl, hc⟩ := HV.out.at8 hlt'
              obtain ⟨b2, off2, rfl, hbl2, hc2⟩ := HV'.out.at8 hlt2
              have HC := Lib.hid hc
              have HC2 := Lib.hid hc2
              have hst := Lib.hid (take_sameI hlt' hlt2 H.out)
              have hno := Lib.hid (at_neI hlt' hlt2)
              clear hc hc2
              generalize a[k1] = x at *
              generalize b[k1] = y at *
              have hki : (k1 : Int) < (n : Int) := by omega
              by_cases he : x = y
              · subst he
                have hst' := Lib.hid (hst.out rfl)
                have qn := fun w => ineq_no x w
                unfold insV insC at qn
                go_wp2_with fail
                refine wp_region_sched [(0, true), (1, true), (2, true), (3, true), (4, true), (5, true), (6, true), (7, true), (8, true), (9, true), (10, true)] (by kernel_rfl) (by kernel_rfl) (fun _ _ d _ _ h => by cases d <;> exact h) ?_
                refine swith (fun W hW => (HC.out W (hb.out.drew.trans (hW.out.mono hb.out.size)))) (fun q1 => ?_)
                refine swith (fun W hW => (HC2.out W (hb.out.drew.trans (hW.out.mono hb.out.size)))) (fun q2 => ?_)
                refine swith (fun W hW => (cells4d (box_next (show wr.drew.heap[w.heap.size]? = _ from HX1.out) hW.out))) (fun q3 => ?_)
                refine swith (fun W hW => (cells4d (box_next (show wr.drew.heap[w.heap.size + 1]? = _ from HX2.out) hW.out))) (fun q4 => ?_)
                repeat (first | (refine sreadx rfl rfl ?_; apply Exists.intro; apply And.intro; (· (intro W hW; first | (go_simp; done) | (go_simp; with_reducible rfl) | (go_simp; rw [if_neg (by omega)]; done) | (go_simp; rw [if_neg (by omega)]; with_reducible rfl))); simp only [Act.put, List.setIfInBounds_toArray, List.set_cons_zero, List.set_cons_succ]) | (refine sskip rfl rfl ?_; simp only [Act.put, List.setIfInBounds_toArray, List.set_cons_zero, List.set_cons_succ]))
                refine sdone ?_
                go_wp2_with fail
                go_roundw
                case rel => exact ⟨k1 + 1, by omega, by go_num, hst', HX1, HX2, Lib.hid hb.out.drew⟩
                case measure => simp [intOf]; omega
              · have hno' := Lib.hid (hno.out he)
                have qn := fun w => ineq_yes he w
                unfold insV insC at qn
                go_wp2_with fail
                refine wp_region_sched [(0, true), (1, true), (2, true), (3, true), (4, true), (5, true), (6, true), (7, true), (8, true), (9, true), (10, true)] (by kernel_rfl) (by kernel_rfl) (fun _ _ d _ _ h => by cases d <;> exact h) ?_
                refine swith (fun W hW => (HC.out W (hb.out.drew.trans (hW.out.mono hb.out.size)))) (fun q1 => ?_)
                refine swith (fun W hW => (HC2.out W (hb.out.drew.trans (hW.out.mono hb.out.size)))) (fun q2 => ?_)
                refine swith (fun W hW => (cells4d (box_next (show wr.drew.heap[w.heap.size]? = _ from HX1.out) hW.out))) (fun q3 => ?_)
                refine swith (fun W hW => (cells4d (box_next (show wr.drew.heap[w.heap.size + 1]? = _ from HX2.out) hW.out))) (fun q4 => ?_)
                repeat (first | (refine sreadx rfl rfl ?_; apply Exists.intro; apply And.intro; (· (intro W hW; first | (go_simp; done) | (go_simp; with_reducible rfl) | (go_simp; rw [if_neg (by omega)]; done) | (go_simp; rw [if_neg (by omega)]; with_reducible rfl))); simp only [Act.put, List.setIfInBounds_toArray, List.set_cons_zero, List.set_cons_succ]) | (refine sskip rfl rfl ?_; simp only [Act.put, List.setIfInBounds_toArray, List.set_cons_zero, List.set_cons_succ]))
                refine sdone ?_
                go_wp2_with fail
                go_ret
                exact ⟨by rw [HS.out, hno'.out]; rfl, hb.out.drew⟩
            · obtain rfl : k1 = n := by omega
              go_wp2_with fail
              go_ret
              refine ⟨?_, hb.out⟩
              have := H.out
              rw [← HL.out, List.take_length, HL.out, ← HL'.out, List.take_length] at this
              rw [HS.out, this, sameI, decide_eq_true rfl]
              rfl
        · have HN : Hid (sameC ⟨r, l, k, a⟩ ⟨r, l, k, b⟩ = false) := Lib.hid (by rw [HS.out]; exact sameI_len (by omega))
          have d4 : ((n : Int) != (n' : Int)) = true := by simp; omega
          have d5 : ((n : Int) == (n' : Int)) = false := by simp; omega
          clear X1 X2 B2 h h' hl hl'
          go_enter Tryd.func11, Tryd.ntmps11
          go_wp2_with fail
          go_ret
          exact ⟨by rw [HN.out]; rfl, HB.out⟩
      · have HN : Hid (sameC ⟨r, l, k, a⟩ ⟨r, l, k', b⟩ = false) := Lib.hid (sameC_no (.inr (.inr (.inl e3))))
        have d3 : (k != k') = true := by simpa using e3
        clear X1 X2 B2 h h' hl hl'
        go_enter Tryd.func11, Tryd.ntmps11
        go_wp2_with fail
        go_ret
        exact ⟨by rw [HN.out]; rfl, HB.out⟩
    · have HN : Hid (sameC ⟨r, l, k, a⟩ ⟨r, l', k', b⟩ = false) := Lib.hid (sameC_no (.inr (.inl e2)))
      have d1 : (l != l') = true := by simpa using e2
      clear X1 X2 B2 h h' hl hl'
      go_enter Tryd.func11, Tryd.ntmps11
      go_wp2_with fail
      go_ret
      exact ⟨by rw [HN.out]; rfl, HB.out⟩
  · have HN : Hid (sameC ⟨r, l, k, a⟩ ⟨r', l', k', b⟩ = false) := Lib.hid (sameC_no (.inl e1))
    have d1 : (r != r') = true := by simpa using e1
    clear X1 X2 B2 h h' hl hl'
    go_enter Tryd.func11, Tryd.ntmps11
    go_wp2_with fail
    go_ret
    exact ⟨by rw [HN.out]; rfl, HB.out⟩
end Go.Proofs.YtpodniljpinigaaDoor.C
