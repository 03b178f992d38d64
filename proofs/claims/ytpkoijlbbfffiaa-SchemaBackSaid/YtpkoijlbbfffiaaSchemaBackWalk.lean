/- SchemaBack's walk: for every table and every two rows it returns true. -/
import Derived.Test.YtpkoijlbbfffiaaSchOpen
import Derived.Test.YtpkoijlbbfffiaaSchPrint
import Derived.Deep.DeepCutAuto
namespace Go.Proofs.Ytpkoijlbbfffiaa.schemaBack
open Go.RowKit O V R S

theorem fits_right {x : Val} {k m : Int} (h : fitsV x k m = true) : right x = true := by
  unfold fitsV at h
  simp at h
  exact h.1.1.2
theorem fitsR_right {cols : List TCol} {a : List Val} (h : fitsR cols a = true) : a.length = cols.length ∧ ∀ v ∈ a, right v = true := by
  unfold fitsR at h
  simp only [Bool.and_eq_true, decide_eq_true_eq] at h
  refine ⟨h.2, fun v hv => ?_⟩
  obtain ⟨k, hk, rfl⟩ := List.getElem_of_mem hv
  have hz : k < (a.zip cols).length := by simp; omega
  have := List.all_eq_true.1 h.1 _ (List.getElem_mem hz)
  rw [List.getElem_zip] at this
  exact fits_right this
theorem putR_inj : ∀ {a b : List Val}, a.length = b.length → (∀ v ∈ a, right v = true ∧ VOk v) → (∀ v ∈ b, right v = true ∧ VOk v) → putR a = putR b → a = b
  | [], [], _, _, _, _ => rfl
  | [], _ :: _, h, _, _, _ => by simp at h
  | _ :: _, [], h, _, _, _ => by simp at h
  | x :: a, y :: b, h, ha, hb, he => by
    unfold putR at he
    rw [List.flatMap_cons, List.flatMap_cons] at he
    have hx := ha x (by simp)
    have hy := hb y (by simp)
    have g1 := getV_put [] (a.flatMap putV) x hx.1 hx.2.n1 hx.2.n2
    have g2 := getV_put [] (b.flatMap putV) y hy.1 hy.2.n1 hy.2.n2
    simp only [List.nil_append] at g1 g2
    rw [he, g2] at g1
    injection g1 with g1
    injection g1 with g1 _
    subst g1
    rw [putR_inj (a := a) (b := b) (by simpa using h) (fun v hv => ha v (by simp [hv])) (fun v hv => hb v (by simp [hv])) (List.append_cancel_left he)]
def TB (w : World) (t : Tab) (A : Option Addr) (n c : Nat) (W : World) : Prop :=
  W.heap[w.heap.size]? = some (.cells #[.string ⟨t.name.toArray⟩, .int .i64 t.rows, .slice A n c] 61 (0, 0)) ∧ Below w.heap.size w W
theorem TB.next {w W W' : World} {t : Tab} {A : Option Addr} {n c : Nat} (h : TB w t A n c W) (b : Below W.heap.size W W') : TB w t A n c W' := ⟨box_next h.1 b, bthen h.2 b⟩
theorem TB.cells {w W : World} {t : Tab} {A : Option Addr} {n c : Nat} (h : TB w t A n c W) : W.cell? ⟨w.heap.size, 0, none⟩ = some (.string ⟨t.name.toArray⟩) ∧ W.cell? ⟨w.heap.size, 1, none⟩ = some (.int .i64 t.rows) ∧ W.cell? ⟨w.heap.size, 2, none⟩ = some (.slice A n c) := cells3 h.1
set_option maxRecDepth 100000 in
set_option maxHeartbeats 4000000 in
theorem walk (v0 : Value) (t : Tab) (v1 : Value) (a : List Val) (v2 : Value) (b : List Val) (w : World) (h0 : IsTab w v0 t) (h1 : IsVals w v1 a) (h2 : IsVals w v2 b) :
    Calls Try.prog 14 #[v0, v1, v2] w fun e w' => e = .returned (.bool true) ∧ Below w.heap.size w w' := by
  obtain ⟨A, n, c, rfl, hc, hname, _, _⟩ := h0
  obtain ⟨A1, n1, c1, rfl, ha⟩ := h1
  obtain ⟨A2, n2, c2, rfl, hb⟩ := h2
  have HC := Lib.hid hc
  have HA := Lib.hid ha
  have HB := Lib.hid hb
  clear hc ha hb
  have X0 : Hid (TB w t A n c (w.alloc (.cells #[.string ⟨t.name.toArray⟩, .int .i64 t.rows, .slice A n c] 61))) := Lib.hid ⟨alloc_at rfl, (Below.refl _ _).alloc (Nat.le_refl _) _⟩
  cases hq0 : lightT t.name t.cols
  · simp only [tab]
    go_enter Try.func14, Try.ntmps14
    go_wp2_with fail
    refine (lightTab_any t.name t.rows A n c t.cols _ (HC.out.next X0.out.2) hname).mono ?_; rintro e w1 ⟨rfl, b1⟩
    rw [hq0]
    have X1 := Lib.hid (X0.out.next b1)
    clear b1
    obtain ⟨x0, x1, x2⟩ := X1.out.cells
    go_wp2_with fail
    refine (S.lives_any _).mono ?_; rintro e wL ⟨rfl, bL⟩
    go_wp2_with fail
    go_ret
    exact ⟨rfl, (X1.out.next bL).2⟩
  · cases hq1 : lightR a
    · simp only [tab]
      go_enter Try.func14, Try.ntmps14
      go_wp2_with fail
      refine (lightTab_any t.name t.rows A n c t.cols _ (HC.out.next X0.out.2) hname).mono ?_; rintro e w1 ⟨rfl, b1⟩
      rw [hq0]
      have X1 := Lib.hid (X0.out.next b1)
      clear b1
      obtain ⟨x0, x1, x2⟩ := X1.out.cells
      go_wp2_with fail
      refine (lightRow_any A1 n1 c1 a _ (HA.out.next X1.out.2)).mono ?_; rintro e w2 ⟨rfl, b2⟩
      rw [hq1]
      clear x0 x1 x2
      have X2 := Lib.hid (X1.out.next b2)
      clear b2
      obtain ⟨x0, x1, x2⟩ := X2.out.cells
      go_wp2_with fail
      refine (S.lives_any _).mono ?_; rintro e wL ⟨rfl, bL⟩
      go_wp2_with fail
      go_ret
      exact ⟨rfl, (X2.out.next bL).2⟩
    · cases hq2 : lightR b
      · simp only [tab]
        go_enter Try.func14, Try.ntmps14
        go_wp2_with fail
        refine (lightTab_any t.name t.rows A n c t.cols _ (HC.out.next X0.out.2) hname).mono ?_; rintro e w1 ⟨rfl, b1⟩
        rw [hq0]
        have X1 := Lib.hid (X0.out.next b1)
        clear b1
        obtain ⟨x0, x1, x2⟩ := X1.out.cells
        go_wp2_with fail
        refine (lightRow_any A1 n1 c1 a _ (HA.out.next X1.out.2)).mono ?_; rintro e w2 ⟨rfl, b2⟩
        rw [hq1]
        clear x0 x1 x2
        have X2 := Lib.hid (X1.out.next b2)
        clear b2
        obtain ⟨x0, x1, x2⟩ := X2.out.cells
        go_wp2_with fail
        refine (lightRow_any A2 n2 c2 b _ (HB.out.next X2.out.2)).mono ?_; rintro e w3 ⟨rfl, b3⟩
        rw [hq2]
        clear x0 x1 x2
        have X3 := Lib.hid (X2.out.next b3)
        clear b3
        obtain ⟨x0, x1, x2⟩ := X3.out.cells
        go_wp2_with fail
        refine (S.lives_any _).mono ?_; rintro e wL ⟨rfl, bL⟩
        go_wp2_with fail
        go_ret
        exact ⟨rfl, (X3.out.next bL).2⟩
      · cases hq3 : fitsR t.cols a
        · simp only [tab]
          go_enter Try.func14, Try.ntmps14
          go_wp2_with fail
          refine (lightTab_any t.name t.rows A n c t.cols _ (HC.out.next X0.out.2) hname).mono ?_; rintro e w1 ⟨rfl, b1⟩
          rw [hq0]
          have X1 := Lib.hid (X0.out.next b1)
          clear b1
          obtain ⟨x0, x1, x2⟩ := X1.out.cells
          go_wp2_with fail
          refine (lightRow_any A1 n1 c1 a _ (HA.out.next X1.out.2)).mono ?_; rintro e w2 ⟨rfl, b2⟩
          rw [hq1]
          clear x0 x1 x2
          have X2 := Lib.hid (X1.out.next b2)
          clear b2
          obtain ⟨x0, x1, x2⟩ := X2.out.cells
          go_wp2_with fail
          refine (lightRow_any A2 n2 c2 b _ (HB.out.next X2.out.2)).mono ?_; rintro e w3 ⟨rfl, b3⟩
          rw [hq2]
          clear x0 x1 x2
          have X3 := Lib.hid (X2.out.next b3)
          clear b3
          obtain ⟨x0, x1, x2⟩ := X3.out.cells
          go_wp2_with fail
          refine (fitsR_any t.name t.rows A n c t.cols A1 n1 c1 a _ (HC.out.next X3.out.2) (HA.out.next X3.out.2) (fun v hv => by have := (lightR_all hq1).2 v hv; omega)).mono ?_; rintro e w4 ⟨rfl, b4⟩
          rw [hq3]
          clear x0 x1 x2
          have X4 := Lib.hid (X3.out.next b4)
          clear b4
          obtain ⟨x0, x1, x2⟩ := X4.out.cells
          go_wp2_with fail
          refine (S.lives_any _).mono ?_; rintro e wL ⟨rfl, bL⟩
          go_wp2_with fail
          go_ret
          exact ⟨rfl, (X4.out.next bL).2⟩
        · cases hq4 : fitsR t.cols b
          · simp only [tab]
            go_enter Try.func14, Try.ntmps14
            go_wp2_with fail
            refine (lightTab_any t.name t.rows A n c t.cols _ (HC.out.next X0.out.2) hname).mono ?_; rintro e w1 ⟨rfl, b1⟩
            rw [hq0]
            have X1 := Lib.hid (X0.out.next b1)
            clear b1
            obtain ⟨x0, x1, x2⟩ := X1.out.cells
            go_wp2_with fail
            refine (lightRow_any A1 n1 c1 a _ (HA.out.next X1.out.2)).mono ?_; rintro e w2 ⟨rfl, b2⟩
            rw [hq1]
            clear x0 x1 x2
            have X2 := Lib.hid (X1.out.next b2)
            clear b2
            obtain ⟨x0, x1, x2⟩ := X2.out.cells
            go_wp2_with fail
            refine (lightRow_any A2 n2 c2 b _ (HB.out.next X2.out.2)).mono ?_; rintro e w3 ⟨rfl, b3⟩
            rw [hq2]
            clear x0 x1 x2
            have X3 := Lib.hid (X2.out.next b3)
            clear b3
            obtain ⟨x0, x1, x2⟩ := X3.out.cells
            go_wp2_with fail
            refine (fitsR_any t.name t.rows A n c t.cols A1 n1 c1 a _ (HC.out.next X3.out.2) (HA.out.next X3.out.2) (fun v hv => by have := (lightR_all hq1).2 v hv; omega)).mono ?_; rintro e w4 ⟨rfl, b4⟩
            rw [hq3]
            clear x0 x1 x2
            have X4 := Lib.hid (X3.out.next b4)
            clear b4
            obtain ⟨x0, x1, x2⟩ := X4.out.cells
            go_wp2_with fail
            refine (fitsR_any t.name t.rows A n c t.cols A2 n2 c2 b _ (HC.out.next X4.out.2) (HB.out.next X4.out.2) (fun v hv => by have := (lightR_all hq2).2 v hv; omega)).mono ?_; rintro e w5 ⟨rfl, b5⟩
            rw [hq4]
            clear x0 x1 x2
            have X5 := Lib.hid (X4.out.next b5)
            clear b5
            obtain ⟨x0, x1, x2⟩ := X5.out.cells
            go_wp2_with fail
            refine (S.lives_any _).mono ?_; rintro e wL ⟨rfl, bL⟩
            go_wp2_with fail
            go_ret
            exact ⟨rfl, (X5.out.next bL).2⟩
          · obtain ⟨hl20, hl100⟩ := lightR_all hq1
            obtain ⟨hfl, hfr⟩ := fitsR_right hq3
            obtain ⟨hgl, hgr⟩ := fitsR_right hq4
            have hcl := HC.out.len
            have hn20 : n ≤ 20 := by omega
            have hra : ∀ v ∈ a, right v = true ∧ VOk v ∧ v.s.length ≤ 100 := fun v hv => ⟨hfr v hv, HA.out.oks v hv, hl100 v hv⟩
            have hinj : (sameR a b = true ∧ (putR a == putR b) = true) ∨ (sameR a b = false ∧ (putR a == putR b) = false) := by
              by_cases e : a = b
              · subst e; exact .inl ⟨by simp [sameR], by simp⟩
              · refine .inr ⟨by simp [sameR, e], ?_⟩
                rw [beq_eq_false_iff_ne]
                exact fun h => e (putR_inj (by omega) (fun v hv => ⟨hfr v hv, HA.out.oks v hv⟩) (fun v hv => ⟨hgr v hv, HB.out.oks v hv⟩) h)
            have hpl : (putR a).length ≤ 20000 := by
              have := putR_len a (fun v hv => ⟨HA.out.oks v hv, hl100 v hv⟩)
              omega
            have HRA := Lib.hid hra
            have HI := Lib.hid hinj
            have hsa : sameR a a = true := by simp [sameR]
            have HSA := Lib.hid hsa
            clear hl20 hl100 hfl hfr hgl hgr hcl hra hinj hsa
            simp only [tab]
            go_enter Try.func14, Try.ntmps14
            go_wp2_with fail
            refine (lightTab_any t.name t.rows A n c t.cols _ (HC.out.next X0.out.2) hname).mono ?_; rintro e w1 ⟨rfl, b1⟩
            rw [hq0]
            have X1 := Lib.hid (X0.out.next b1)
            clear b1
            obtain ⟨x0, x1, x2⟩ := X1.out.cells
            go_wp2_with fail
            refine (lightRow_any A1 n1 c1 a _ (HA.out.next X1.out.2)).mono ?_; rintro e w2 ⟨rfl, b2⟩
            rw [hq1]
            clear x0 x1 x2
            have X2 := Lib.hid (X1.out.next b2)
            clear b2
            obtain ⟨x0, x1, x2⟩ := X2.out.cells
            go_wp2_with fail
            refine (lightRow_any A2 n2 c2 b _ (HB.out.next X2.out.2)).mono ?_; rintro e w3 ⟨rfl, b3⟩
            rw [hq2]
            clear x0 x1 x2
            have X3 := Lib.hid (X2.out.next b3)
            clear b3
            obtain ⟨x0, x1, x2⟩ := X3.out.cells
            go_wp2_with fail
            refine (fitsR_any t.name t.rows A n c t.cols A1 n1 c1 a _ (HC.out.next X3.out.2) (HA.out.next X3.out.2) (fun v hv => by have := (lightR_all hq1).2 v hv; omega)).mono ?_; rintro e w4 ⟨rfl, b4⟩
            rw [hq3]
            clear x0 x1 x2
            have X4 := Lib.hid (X3.out.next b4)
            clear b4
            obtain ⟨x0, x1, x2⟩ := X4.out.cells
            go_wp2_with fail
            refine (fitsR_any t.name t.rows A n c t.cols A2 n2 c2 b _ (HC.out.next X4.out.2) (HB.out.next X4.out.2) (fun v hv => by have := (lightR_all hq2).2 v hv; omega)).mono ?_; rintro e w5 ⟨rfl, b5⟩
            rw [hq4]
            clear x0 x1 x2
            have X5 := Lib.hid (X4.out.next b5)
            clear b5
            obtain ⟨x0, x1, x2⟩ := X5.out.cells
            go_wp2_with fail
            refine (putRow_any A1 n1 c1 a _ (HA.out.next X5.out.2) hq1).mono ?_; rintro e w6 ⟨A6, n6, c6, rfl, o6, b6⟩
            have hn6 : (putR a).length = n6 := own_len o6
            have hk6 := own_capG o6
            have R6 := Lib.hid (Rd.of_own o6)
            have X6 := Lib.hid (X5.out.next b6)
            clear b6 o6 x0 x1 x2
            obtain ⟨x0, x1, x2⟩ := X6.out.cells
            have HN6 := Lib.hid hn6
            have hn6' : n6 ≤ 20000 := by omega
            clear hn6 hpl
            go_wp2_with fail
            refine (getRow_back A6 n6 c6 t.name t.rows A n c t.cols a _ R6.out hk6.1 hk6.2 (by omega) (HC.out.next X6.out.2) hq3 HRA.out hn20).mono ?_; rintro e w7 ⟨A7, n7, c7, rfl, r7, b7⟩
            have X7 := Lib.hid (X6.out.next b7)
            have R7 := Lib.hid (R6.out.next b7)
            have V7 := Lib.hid r7
            clear b7 r7 x0 x1 x2 R6
            go_wp2_with fail
            rcases HI.out with ⟨i1, i2⟩ | ⟨i1, i2⟩
            · refine wp_region_sched [(0, true), (1, true), (2, true), (3, true), (4, true), (5, true), (6, true), (7, true), (8, true), (9, true), (10, false), (11, true), (12, true), (13, true), (14, true), (15, false), (16, true), (17, true), (18, true), (19, true), (20, true), (24, true), (25, true), (21, false), (22, true), (23, true), (26, false), (27, true), (28, true), (29, true), (30, true), (31, true), (33, true), (34, true), (32, false), (35, false), (36, true), (37, true), (38, true), (39, false), (40, true), (41, true)] (by kernel_rfl) (by kernel_rfl) (fun _ _ d _ _ h => by cases d <;> exact h) ?_
              refine sbelow (w0 := w7) ((Below.refl _ _).drew) (fun B0 => ?_)
              refine swith (fun W hW => (strq (c := c6) (R7.out.next (bthen B0 hW.out)))) (fun qs => ?_)
              repeat (first | (refine sreadx rfl rfl ?_; apply Exists.intro; apply And.intro; (· (intro W hW; first | (go_simp; done) | (go_simp; with_reducible rfl) | (go_simp; rw [if_neg (by omega)]; done) | (go_simp; rw [if_neg (by omega)]; with_reducible rfl))); simp only [Act.put, List.setIfInBounds_toArray, List.set_cons_zero, List.set_cons_succ]) | (refine sskip rfl rfl ?_; simp only [Act.put, List.setIfInBounds_toArray, List.set_cons_zero, List.set_cons_succ]))
              refine scall rfl rfl (fun K hK => ?_)
              go_simp
              refine (rsame_any A7 A1 n7 c7 n1 c1 a a _ (V7.out.next B0) (HA.out.next (X7.out.next B0).2)).mono ?_; rintro e w8 ⟨rfl, b8⟩; rw [HSA.out]
              go_wp2_with fail
              refine hK.out _ _ (by exact b8) ?_
              clear hK K
              try simp only [Act.put, List.setIfInBounds_toArray, List.set_cons_zero, List.set_cons_succ]
              replace qs := fun (W : World) (hW : Grow w8 W) => qs W (Grow.trans (b8) hW)
              have B8 := bthen B0 b8
              repeat (first | (refine sreadx rfl rfl ?_; apply Exists.intro; apply And.intro; (· (intro W hW; first | (go_simp; done) | (go_simp; with_reducible rfl) | (go_simp; rw [if_neg (by omega)]; done) | (go_simp; rw [if_neg (by omega)]; with_reducible rfl))); simp only [Act.put, List.setIfInBounds_toArray, List.set_cons_zero, List.set_cons_succ]) | (refine sskip rfl rfl ?_; simp only [Act.put, List.setIfInBounds_toArray, List.set_cons_zero, List.set_cons_succ]))
              refine scall rfl rfl (fun K hK => ?_)
              go_simp
              refine (R.same_any A1 A7 n1 c1 n7 c7 a a _ (HA.out.next (X7.out.next B8).2) (V7.out.next B8)).mono ?_; rintro e w9 ⟨rfl, b9⟩; rw [HSA.out]
              go_wp2_with fail
              refine hK.out _ _ (by exact b9) ?_
              clear hK K
              try simp only [Act.put, List.setIfInBounds_toArray, List.set_cons_zero, List.set_cons_succ]
              replace qs := fun (W : World) (hW : Grow w9 W) => qs W (Grow.trans (b9) hW)
              have B9 := bthen B8 b9
              repeat (first | (refine sreadx rfl rfl ?_; apply Exists.intro; apply And.intro; (· (intro W hW; first | (go_simp; done) | (go_simp; with_reducible rfl) | (go_simp; rw [if_neg (by omega)]; done) | (go_simp; rw [if_neg (by omega)]; with_reducible rfl))); simp only [Act.put, List.setIfInBounds_toArray, List.set_cons_zero, List.set_cons_succ]) | (refine sskip rfl rfl ?_; simp only [Act.put, List.setIfInBounds_toArray, List.set_cons_zero, List.set_cons_succ]))
              refine scall rfl rfl (fun K hK => ?_)
              go_simp
              refine (putRow_any A2 n2 c2 b _ (HB.out.next (X7.out.next B9).2) hq2).mono ?_; rintro e w10 ⟨A10, n10, c10, rfl, o10, b10⟩
              go_wp2_with fail
              refine hK.out _ _ (by exact b10) ?_
              clear hK K
              try simp only [Act.put, List.setIfInBounds_toArray, List.set_cons_zero, List.set_cons_succ]
              replace qs := fun (W : World) (hW : Grow w10 W) => qs W (Grow.trans (b10) hW)
              have B10 := bthen B9 b10
              refine swith (fun W hW => (strq (c := c10) ((Rd.of_own o10).next hW.out))) (fun qt => ?_)
              repeat (first | (refine sreadx rfl rfl ?_; apply Exists.intro; apply And.intro; (· (intro W hW; first | (go_simp; done) | (go_simp; with_reducible rfl) | (go_simp; rw [if_neg (by omega)]; done) | (go_simp; rw [if_neg (by omega)]; with_reducible rfl))); simp only [Act.put, List.setIfInBounds_toArray, List.set_cons_zero, List.set_cons_succ]) | (refine sskip rfl rfl ?_; simp only [Act.put, List.setIfInBounds_toArray, List.set_cons_zero, List.set_cons_succ]))
              refine scall rfl rfl (fun K hK => ?_)
              go_simp
              refine (rsame_any A1 A2 n1 c1 n2 c2 a b _ (HA.out.next (X7.out.next B10).2) (HB.out.next (X7.out.next B10).2)).mono ?_; rintro e w11 ⟨rfl, b11⟩; rw [i1]
              go_wp2_with fail
              refine hK.out _ _ (by exact b11) ?_
              clear hK K
              try simp only [Act.put, List.setIfInBounds_toArray, List.set_cons_zero, List.set_cons_succ]
              have B11 := bthen B10 b11
              repeat (first | (refine sreadx rfl rfl ?_; apply Exists.intro; apply And.intro; (· (intro W hW; first | (go_simp; done) | (go_simp; with_reducible rfl) | (go_simp; rw [if_neg (by omega)]; done) | (go_simp; rw [if_neg (by omega)]; with_reducible rfl))); simp only [Act.put, List.setIfInBounds_toArray, List.set_cons_zero, List.set_cons_succ]) | (refine sskip rfl rfl ?_; simp only [Act.put, List.setIfInBounds_toArray, List.set_cons_zero, List.set_cons_succ]))
              refine scall rfl rfl (fun K hK => ?_)
              go_simp
              refine (R.same_any A1 A2 n1 c1 n2 c2 a b _ (HA.out.next (X7.out.next B11).2) (HB.out.next (X7.out.next B11).2)).mono ?_; rintro e w12 ⟨rfl, b12⟩; rw [i1]
              go_wp2_with fail
              refine hK.out _ _ (by exact b12) ?_
              clear hK K
              try simp only [Act.put, List.setIfInBounds_toArray, List.set_cons_zero, List.set_cons_succ]
              have B12 := bthen B11 b12
              repeat (first | (refine sreadx rfl rfl ?_; apply Exists.intro; apply And.intro; (· (intro W hW; first | (go_simp; done) | (go_simp; with_reducible rfl) | (go_simp; rw [if_neg (by omega)]; done) | (go_simp; rw [if_neg (by omega)]; with_reducible rfl))); simp only [Act.put, List.setIfInBounds_toArray, List.set_cons_zero, List.set_cons_succ]) | (refine sskip rfl rfl ?_; simp only [Act.put, List.setIfInBounds_toArray, List.set_cons_zero, List.set_cons_succ]))
              refine scall rfl rfl (fun K hK => ?_)
              go_simp
              refine (rsame_any A1 A2 n1 c1 n2 c2 a b _ (HA.out.next (X7.out.next B12).2) (HB.out.next (X7.out.next B12).2)).mono ?_; rintro e w13 ⟨rfl, b13⟩; rw [i1]
              go_wp2_with fail
              refine hK.out _ _ (by exact b13) ?_
              clear hK K
              try simp only [Act.put, List.setIfInBounds_toArray, List.set_cons_zero, List.set_cons_succ]
              have B13 := bthen B12 b13
              repeat (first | (refine sreadx rfl rfl ?_; apply Exists.intro; apply And.intro; (· (intro W hW; first | (go_simp; done) | (go_simp; with_reducible rfl) | (go_simp; rw [if_neg (by omega)]; done) | (go_simp; rw [if_neg (by omega)]; with_reducible rfl))); simp only [Act.put, List.setIfInBounds_toArray, List.set_cons_zero, List.set_cons_succ]) | (refine sskip rfl rfl ?_; simp only [Act.put, List.setIfInBounds_toArray, List.set_cons_zero, List.set_cons_succ]))
              refine scall rfl rfl (fun K hK => ?_)
              go_simp
              refine (S.lives_any _).mono ?_; rintro e w14 ⟨rfl, b14⟩
              go_wp2_with fail
              refine hK.out _ _ (by exact b14) ?_
              clear hK K
              try simp only [Act.put, List.setIfInBounds_toArray, List.set_cons_zero, List.set_cons_succ]
              repeat (first | (refine sreadx rfl rfl ?_; apply Exists.intro; apply And.intro; (· (intro W hW; first | (go_simp; done) | (go_simp; with_reducible rfl) | (go_simp; rw [if_neg (by omega)]; done) | (go_simp; rw [if_neg (by omega)]; with_reducible rfl))); simp only [Act.put, List.setIfInBounds_toArray, List.set_cons_zero, List.set_cons_succ]) | (refine sskip rfl rfl ?_; simp only [Act.put, List.setIfInBounds_toArray, List.set_cons_zero, List.set_cons_succ]))
              refine sdone ?_
              go_wp2_with fail
              go_ret
              exact ⟨rfl, (X7.out.next (bthen B13 b14)).2⟩
            · refine wp_region_sched [(0, true), (1, true), (2, true), (3, true), (4, true), (5, true), (6, true), (7, true), (8, true), (9, true), (10, false), (11, true), (12, true), (13, true), (14, true), (15, false), (16, true), (17, true), (18, true), (19, true), (20, true), (24, true), (25, true), (21, false), (22, true), (23, true), (26, false), (27, true), (28, true), (29, true), (30, true), (31, true), (33, true), (34, true), (32, false), (35, false), (36, true), (37, true), (38, true), (39, false), (40, true), (41, true)] (by kernel_rfl) (by kernel_rfl) (fun _ _ d _ _ h => by cases d <;> exact h) ?_
              refine sbelow (w0 := w7) ((Below.refl _ _).drew) (fun B0 => ?_)
              refine swith (fun W hW => (strq (c := c6) (R7.out.next (bthen B0 hW.out)))) (fun qs => ?_)
              repeat (first | (refine sreadx rfl rfl ?_; apply Exists.intro; apply And.intro; (· (intro W hW; first | (go_simp; done) | (go_simp; with_reducible rfl) | (go_simp; rw [if_neg (by omega)]; done) | (go_simp; rw [if_neg (by omega)]; with_reducible rfl))); simp only [Act.put, List.setIfInBounds_toArray, List.set_cons_zero, List.set_cons_succ]) | (refine sskip rfl rfl ?_; simp only [Act.put, List.setIfInBounds_toArray, List.set_cons_zero, List.set_cons_succ]))
              refine scall rfl rfl (fun K hK => ?_)
              go_simp
              refine (rsame_any A7 A1 n7 c7 n1 c1 a a _ (V7.out.next B0) (HA.out.next (X7.out.next B0).2)).mono ?_; rintro e w8 ⟨rfl, b8⟩; rw [HSA.out]
              go_wp2_with fail
              refine hK.out _ _ (by exact b8) ?_
              clear hK K
              try simp only [Act.put, List.setIfInBounds_toArray, List.set_cons_zero, List.set_cons_succ]
              replace qs := fun (W : World) (hW : Grow w8 W) => qs W (Grow.trans (b8) hW)
              have B8 := bthen B0 b8
              repeat (first | (refine sreadx rfl rfl ?_; apply Exists.intro; apply And.intro; (· (intro W hW; first | (go_simp; done) | (go_simp; with_reducible rfl) | (go_simp; rw [if_neg (by omega)]; done) | (go_simp; rw [if_neg (by omega)]; with_reducible rfl))); simp only [Act.put, List.setIfInBounds_toArray, List.set_cons_zero, List.set_cons_succ]) | (refine sskip rfl rfl ?_; simp only [Act.put, List.setIfInBounds_toArray, List.set_cons_zero, List.set_cons_succ]))
              refine scall rfl rfl (fun K hK => ?_)
              go_simp
              refine (R.same_any A1 A7 n1 c1 n7 c7 a a _ (HA.out.next (X7.out.next B8).2) (V7.out.next B8)).mono ?_; rintro e w9 ⟨rfl, b9⟩; rw [HSA.out]
              go_wp2_with fail
              refine hK.out _ _ (by exact b9) ?_
              clear hK K
              try simp only [Act.put, List.setIfInBounds_toArray, List.set_cons_zero, List.set_cons_succ]
              replace qs := fun (W : World) (hW : Grow w9 W) => qs W (Grow.trans (b9) hW)
              have B9 := bthen B8 b9
              repeat (first | (refine sreadx rfl rfl ?_; apply Exists.intro; apply And.intro; (· (intro W hW; first | (go_simp; done) | (go_simp; with_reducible rfl) | (go_simp; rw [if_neg (by omega)]; done) | (go_simp; rw [if_neg (by omega)]; with_reducible rfl))); simp only [Act.put, List.setIfInBounds_toArray, List.set_cons_zero, List.set_cons_succ]) | (refine sskip rfl rfl ?_; simp only [Act.put, List.setIfInBounds_toArray, List.set_cons_zero, List.set_cons_succ]))
              refine scall rfl rfl (fun K hK => ?_)
              go_simp
              refine (putRow_any A2 n2 c2 b _ (HB.out.next (X7.out.next B9).2) hq2).mono ?_; rintro e w10 ⟨A10, n10, c10, rfl, o10, b10⟩
              go_wp2_with fail
              refine hK.out _ _ (by exact b10) ?_
              clear hK K
              try simp only [Act.put, List.setIfInBounds_toArray, List.set_cons_zero, List.set_cons_succ]
              replace qs := fun (W : World) (hW : Grow w10 W) => qs W (Grow.trans (b10) hW)
              have B10 := bthen B9 b10
              refine swith (fun W hW => (strq (c := c10) ((Rd.of_own o10).next hW.out))) (fun qt => ?_)
              repeat (first | (refine sreadx rfl rfl ?_; apply Exists.intro; apply And.intro; (· (intro W hW; first | (go_simp; done) | (go_simp; with_reducible rfl) | (go_simp; rw [if_neg (by omega)]; done) | (go_simp; rw [if_neg (by omega)]; with_reducible rfl))); simp only [Act.put, List.setIfInBounds_toArray, List.set_cons_zero, List.set_cons_succ]) | (refine sskip rfl rfl ?_; simp only [Act.put, List.setIfInBounds_toArray, List.set_cons_zero, List.set_cons_succ]))
              refine scall rfl rfl (fun K hK => ?_)
              go_simp
              refine (rsame_any A1 A2 n1 c1 n2 c2 a b _ (HA.out.next (X7.out.next B10).2) (HB.out.next (X7.out.next B10).2)).mono ?_; rintro e w11 ⟨rfl, b11⟩; rw [i1]
              go_wp2_with fail
              refine hK.out _ _ (by exact b11) ?_
              clear hK K
              try simp only [Act.put, List.setIfInBounds_toArray, List.set_cons_zero, List.set_cons_succ]
              have B11 := bthen B10 b11
              repeat (first | (refine sreadx rfl rfl ?_; apply Exists.intro; apply And.intro; (· (intro W hW; first | (go_simp; done) | (go_simp; with_reducible rfl) | (go_simp; rw [if_neg (by omega)]; done) | (go_simp; rw [if_neg (by omega)]; with_reducible rfl))); simp only [Act.put, List.setIfInBounds_toArray, List.set_cons_zero, List.set_cons_succ]) | (refine sskip rfl rfl ?_; simp only [Act.put, List.setIfInBounds_toArray, List.set_cons_zero, List.set_cons_succ]))
              refine scall rfl rfl (fun K hK => ?_)
              go_simp
              refine (R.same_any A1 A2 n1 c1 n2 c2 a b _ (HA.out.next (X7.out.next B11).2) (HB.out.next (X7.out.next B11).2)).mono ?_; rintro e w12 ⟨rfl, b12⟩; rw [i1]
              go_wp2_with fail
              refine hK.out _ _ (by exact b12) ?_
              clear hK K
              try simp only [Act.put, List.setIfInBounds_toArray, List.set_cons_zero, List.set_cons_succ]
              have B12 := bthen B11 b12
              repeat (first | (refine sreadx rfl rfl ?_; apply Exists.intro; apply And.intro; (· (intro W hW; first | (go_simp; done) | (go_simp; with_reducible rfl) | (go_simp; rw [if_neg (by omega)]; done) | (go_simp; rw [if_neg (by omega)]; with_reducible rfl))); simp only [Act.put, List.setIfInBounds_toArray, List.set_cons_zero, List.set_cons_succ]) | (refine sskip rfl rfl ?_; simp only [Act.put, List.setIfInBounds_toArray, List.set_cons_zero, List.set_cons_succ]))
              refine scall rfl rfl (fun K hK => ?_)
              go_simp
              refine (rsame_any A1 A2 n1 c1 n2 c2 a b _ (HA.out.next (X7.out.next B12).2) (HB.out.next (X7.out.next B12).2)).mono ?_; rintro e w13 ⟨rfl, b13⟩; rw [i1]
              go_wp2_with fail
              refine hK.out _ _ (by exact b13) ?_
              clear hK K
              try simp only [Act.put, List.setIfInBounds_toArray, List.set_cons_zero, List.set_cons_succ]
              have B13 := bthen B12 b13
              repeat (first | (refine sreadx rfl rfl ?_; apply Exists.intro; apply And.intro; (· (intro W hW; first | (go_simp; done) | (go_simp; with_reducible rfl) | (go_simp; rw [if_neg (by omega)]; done) | (go_simp; rw [if_neg (by omega)]; with_reducible rfl))); simp only [Act.put, List.setIfInBounds_toArray, List.set_cons_zero, List.set_cons_succ]) | (refine sskip rfl rfl ?_; simp only [Act.put, List.setIfInBounds_toArray, List.set_cons_zero, List.set_cons_succ]))
              refine scall rfl rfl (fun K hK => ?_)
              go_simp
              refine (S.lives_any _).mono ?_; rintro e w14 ⟨rfl, b14⟩
              go_wp2_with fail
              refine hK.out _ _ (by exact b14) ?_
              clear hK K
              try simp only [Act.put, List.setIfInBounds_toArray, List.set_cons_zero, List.set_cons_succ]
              repeat (first | (refine sreadx rfl rfl ?_; apply Exists.intro; apply And.intro; (· (intro W hW; first | (go_simp; done) | (go_simp; with_reducible rfl) | (go_simp; rw [if_neg (by omega)]; done) | (go_simp; rw [if_neg (by omega)]; with_reducible rfl))); simp only [Act.put, List.setIfInBounds_toArray, List.set_cons_zero, List.set_cons_succ]) | (refine sskip rfl rfl ?_; simp only [Act.put, List.setIfInBounds_toArray, List.set_cons_zero, List.set_cons_succ]))
              refine sdone ?_
              go_wp2_with fail
              go_ret
              exact ⟨rfl, (X7.out.next (bthen B13 b14)).2⟩
end Go.Proofs.Ytpkoijlbbfffiaa.schemaBack
