/- ValueApart's walk: for every two values and every type it returns true. -/
import Derived.Test.YtpkoijlbbfffiaaValPrint
import Derived.Test.YtpkoijlbbfffiaaValOpen
import Derived.Deep.DeepCutAuto
namespace Go.Proofs.Ytpkoijlbbfffiaa.valueApart
open Go.RowKit O V

theorem neq_yes {x y : Val} (h : x ≠ y) (w : World) : (binOp .neq 23 (.agg #[.int .i64 x.k, .int .i64 x.n, .string ⟨x.s.toArray⟩]) (.agg #[.int .i64 y.k, .int .i64 y.n, .string ⟨y.s.toArray⟩])).run Try.prog w = .ok (.bool true) w := by
  go_simp
  exact fun h1 h2 h3 => h (Val.same h1 h2 h3)
theorem neq_no (x : Val) (w : World) : (binOp .neq 23 (.agg #[.int .i64 x.k, .int .i64 x.n, .string ⟨x.s.toArray⟩]) (.agg #[.int .i64 x.k, .int .i64 x.n, .string ⟨x.s.toArray⟩])).run Try.prog w = .ok (.bool false) w := by
  go_simp
theorem take_ne {x y : Val} (hx : VOk x) (hy : VOk y) (h1 : right x = true) (h2 : right y = true) (hne : x ≠ y) (hle : (putV x).length ≤ (putV y).length) : ¬ (putV y).take (putV x).length = putV x := by
  intro e
  refine hne (putV_apart (r := (putV y).drop (putV x).length) h1 h2 hx.n1 hx.n2 hy.n1 hy.n2 ?_)
  conv => lhs; rw [← List.take_append_drop (putV x).length (putV y), e]
theorem ba_take (l : List UInt8) (k : Nat) : ((ByteArray.mk l.toArray).extract 0 k).toList = l.take k := by
  rw [ByteArray.toList_eq]
  simp [List.extract_eq_take_drop]
theorem zero_fits {k m : Int} (h : rightT k m = true) : fitsV (zeroT k m) k m = true := by
  unfold rightT at h
  simp at h
  simp [fitsV, zeroT, rightT, right, plainL]
  rcases h with ⟨h1 | h1, h2⟩ | ⟨⟨h1, h2⟩, h3⟩
  all_goals subst h1; simp_all
  all_goals omega
theorem fits_right {x : Val} {k m : Int} (h : fitsV x k m = true) : right x = true ∧ x.k = k := by
  unfold fitsV at h
  simp at h
  exact ⟨h.1.1.2, h.1.2⟩
/-- The three boxes of the law's own. -/
def Bx (w : World) (x y : Val) (t : Int × Int) (W : World) : Prop :=
  W.heap[w.heap.size]? = some (.cells #[.int .i64 x.k, .int .i64 x.n, .string ⟨x.s.toArray⟩] 23 (0, 0)) ∧
  W.heap[w.heap.size + 1]? = some (.cells #[.int .i64 y.k, .int .i64 y.n, .string ⟨y.s.toArray⟩] 23 (0, 0)) ∧
  W.heap[w.heap.size + 1 + 1]? = some (.cells #[.int .i64 t.1, .int .i64 t.2] 25 (0, 0)) ∧ Below w.heap.size w W
theorem Bx.next {w W W' : World} {x y : Val} {t : Int × Int} (h : Bx w x y t W) (b : Below W.heap.size W W') : Bx w x y t W' :=
  ⟨box_next h.1 b, box_next h.2.1 b, box_next h.2.2.1 b, bthen h.2.2.2 b⟩
theorem Bx.drew {w W : World} {x y : Val} {t : Int × Int} (h : Bx w x y t W) : Bx w x y t W.drew := ⟨h.1, h.2.1, h.2.2.1, h.2.2.2.drew⟩
theorem Bx.cells {w W : World} {x y : Val} {t : Int × Int} (h : Bx w x y t W) :
    (W.cell? ⟨w.heap.size, 0, none⟩ = some (.int .i64 x.k) ∧ W.cell? ⟨w.heap.size, 1, none⟩ = some (.int .i64 x.n) ∧ W.cell? ⟨w.heap.size, 2, none⟩ = some (.string ⟨x.s.toArray⟩)) ∧
    (W.cell? ⟨w.heap.size + 1, 0, none⟩ = some (.int .i64 y.k) ∧ W.cell? ⟨w.heap.size + 1, 1, none⟩ = some (.int .i64 y.n) ∧ W.cell? ⟨w.heap.size + 1, 2, none⟩ = some (.string ⟨y.s.toArray⟩)) ∧
    (W.cell? ⟨w.heap.size + 1 + 1, 0, none⟩ = some (.int .i64 t.1) ∧ W.cell? ⟨w.heap.size + 1 + 1, 1, none⟩ = some (.int .i64 t.2)) :=
  ⟨cells3 h.1, cells3 h.2.1, by rw [Lib.cell_of_heap h.2.2.1]; rfl, by rw [Lib.cell_of_heap h.2.2.1]; rfl⟩
set_option maxRecDepth 100000 in
set_option maxHeartbeats 4000000 in
theorem walk (v0 : Value) (x : Val) (v1 : Value) (y : Val) (v2 : Value) (t : Int × Int) (w : World) (h0 : IsVal v0 x) (h1 : IsVal v1 y) (h2 : IsTy v2 t) :
    Calls Try.prog 3 #[v0, v1, v2] w fun e w' => e = .returned (.bool true) ∧ Below w.heap.size w w' := by
  obtain ⟨rfl, ox⟩ := h0
  obtain ⟨rfl, oy⟩ := h1
  obtain ⟨rfl, ot⟩ := h2
  clear ot
  have lx := ox.s
  have ly := oy.s
  unfold maxLen at lx ly
  simp only [vv, tv]
  have hB : Bx w x y t (((w.alloc (.cells #[.int .i64 x.k, .int .i64 x.n, .string ⟨x.s.toArray⟩] 23)).alloc (.cells #[.int .i64 y.k, .int .i64 y.n, .string ⟨y.s.toArray⟩] 23)).alloc (.cells #[.int .i64 t.1, .int .i64 t.2] 25)) :=
    ⟨alloc_old' (alloc_old' (alloc_at rfl)), alloc_old' (alloc_at (by simp)), alloc_at (by simp), by repeat (first | exact Below.refl _ _ | refine Below.alloc ?_ (by simp <;> omega) _)⟩
  have HB := Lib.hid hB; clear hB
  by_cases hx : (x.s.length : Int) ≤ 100
  · by_cases hy : (y.s.length : Int) ≤ 100
    · have lx' : x.s.length ≤ 100 := by omega
      have ly' : y.s.length ≤ 100 := by omega
      go_enter Try.func3, Try.ntmps3
      go_wp2_with fail
      refine (light_any x _ (by omega)).mono ?_; rintro e w1 ⟨rfl, b1⟩
      have X1 := Lib.hid (HB.out.next b1)
      obtain ⟨⟨c0, c1, c2⟩, ⟨c3, c4, c5⟩, c6, c7⟩ := X1.out.cells
      clear HB b1
      go_wp2_with fail
      refine (light_any y _ (by omega)).mono ?_; rintro e w2 ⟨rfl, b2⟩
      have X2 := Lib.hid (X1.out.next b2)
      clear X1 b2 c0 c1 c2 c3 c4 c5 c6 c7
      go_upto_region 3 with fail
      go_cut [7, 8] (fun a b wx => a = .string ⟨(putV x).toArray⟩ ∧ b = .string ⟨(putV y).toArray⟩ ∧ Bx w x y t wx)
      case first =>
        refine wp_region_sched [(0, true), (3, true), (1, false), (2, true), (4, false), (5, true), (6, true), (7, true)] (by kernel_rfl) (by kernel_rfl) (fun _ _ d _ _ h => by cases d <;> exact h) ?_
        refine sbelow (w0 := w2) ((Below.refl _ _).drew) (fun B0 => ?_)
        refine swith (fun W hW => ((X2.out.next (bthen B0 hW.out)).cells)) (fun q => ?_)
        repeat (first | (refine sreadx rfl rfl ?_; apply Exists.intro; apply And.intro; (· (intro W hW; first | (go_simp; done) | (go_simp; with_reducible rfl) | (go_simp; rw [if_neg (by omega)]; done) | (go_simp; rw [if_neg (by omega)]; with_reducible rfl))); simp only [Act.put, List.setIfInBounds_toArray, List.set_cons_zero, List.set_cons_succ]) | (refine sskip rfl rfl ?_; simp only [Act.put, List.setIfInBounds_toArray, List.set_cons_zero, List.set_cons_succ]))
        refine scall rfl rfl (fun K hK => ?_)
        go_simp
        refine (put_any none 0 0 [] x _ Rd.nil_ (by omega) (fun _ => rfl) (by omega) ox.n1 ox.n2).mono ?_; rintro e w3 ⟨A3, n3, c3, rfl, o3, b3⟩
        go_wp2_with fail
        refine hK.out _ _ (by exact b3) ?_
        clear hK K
        try simp only [Act.put, List.setIfInBounds_toArray, List.set_cons_zero, List.set_cons_succ]
        replace q := fun (W : World) (hW : Grow w3 W) => q W (Grow.trans (b3) hW)
        have B3 := bthen B0 b3
        rw [List.nil_append] at o3
        refine swith (fun W hW => (strq (c := c3) ((Rd.of_own o3).next hW.out))) (fun q3 => ?_)
        repeat (first | (refine sreadx rfl rfl ?_; apply Exists.intro; apply And.intro; (· (intro W hW; first | (go_simp; done) | (go_simp; with_reducible rfl) | (go_simp; rw [if_neg (by omega)]; done) | (go_simp; rw [if_neg (by omega)]; with_reducible rfl))); simp only [Act.put, List.setIfInBounds_toArray, List.set_cons_zero, List.set_cons_succ]) | (refine sskip rfl rfl ?_; simp only [Act.put, List.setIfInBounds_toArray, List.set_cons_zero, List.set_cons_succ]))
        refine scall rfl rfl (fun K hK => ?_)
        go_simp
        refine (put_any none 0 0 [] y _ Rd.nil_ (by omega) (fun _ => rfl) (by omega) oy.n1 oy.n2).mono ?_; rintro e w4 ⟨A4, n4, c4, rfl, o4, b4⟩
        go_wp2_with fail
        refine hK.out _ _ (by exact b4) ?_
        clear hK K
        try simp only [Act.put, List.setIfInBounds_toArray, List.set_cons_zero, List.set_cons_succ]
        replace q := fun (W : World) (hW : Grow w4 W) => q W (Grow.trans (b4) hW)
        replace q3 := fun (W : World) (hW : Grow w4 W) => q3 W (Grow.trans (b4) hW)
        have B4 := bthen B3 b4
        rw [List.nil_append] at o4
        refine swith (fun W hW => (strq (c := c4) ((Rd.of_own o4).next hW.out))) (fun q4 => ?_)
        repeat (first | (refine sreadx rfl rfl ?_; apply Exists.intro; apply And.intro; (· (intro W hW; first | (go_simp; done) | (go_simp; with_reducible rfl) | (go_simp; rw [if_neg (by omega)]; done) | (go_simp; rw [if_neg (by omega)]; with_reducible rfl))); simp only [Act.put, List.setIfInBounds_toArray, List.set_cons_zero, List.set_cons_succ]) | (refine sskip rfl rfl ?_; simp only [Act.put, List.setIfInBounds_toArray, List.set_cons_zero, List.set_cons_succ]))
        refine sdone ?_
        go_wp2_with fail
        go_meet
        exact ⟨rfl, rfl, X2.out.next B4⟩
      case rest =>
        obtain ⟨rfl, rfl, X3⟩ := hcut
        have HX3 := Lib.hid X3
        obtain ⟨⟨c0, c1, c2⟩, ⟨c3, c4, c5⟩, c6, c7⟩ := X3.cells
        clear X3 X2
        have hpx : (ByteArray.mk (putV x).toArray).size = (putV x).length := by simp [ByteArray.size]
        have hpy : (ByteArray.mk (putV y).toArray).size = (putV y).length := by simp [ByteArray.size]
        go_upto_region 4 with fail
        go_cut [49] (fun a wx => a = .bool false ∧ Bx w x y t wx)
        case first =>
          cases hrx : right x
          · go_wp2_with fail
            refine (right_any x _ (by omega)).mono ?_; rintro e w4 ⟨rfl, b4⟩
            go_wp2_with fail
            go_meet
            exact ⟨by simp, HX3.out.next b4⟩
          · cases hry : right y
            · go_wp2_with fail
              refine (right_any x _ (by omega)).mono ?_; rintro e w4 ⟨rfl, b4⟩
              have X4 := Lib.hid (HX3.out.next b4)
              clear c0 c1 c2 c3 c4 c5 c6 c7 b4
              obtain ⟨⟨c0, c1, c2⟩, ⟨c3, c4, c5⟩, c6, c7⟩ := X4.out.cells
              go_wp2_with fail
              refine (right_any y _ (by omega)).mono ?_; rintro e w5 ⟨rfl, b5⟩
              go_wp2_with fail
              go_meet
              exact ⟨by simp, X4.out.next b5⟩
            · go_wp2_with fail
              refine (right_any x _ (by omega)).mono ?_; rintro e w4 ⟨rfl, b4⟩
              have X4 := Lib.hid (HX3.out.next b4)
              clear c0 c1 c2 c3 c4 c5 c6 c7 b4
              obtain ⟨⟨c0, c1, c2⟩, ⟨c3, c4, c5⟩, c6, c7⟩ := X4.out.cells
              go_wp2_with fail
              refine (right_any y _ (by omega)).mono ?_; rintro e w5 ⟨rfl, b5⟩
              have X5 := Lib.hid (X4.out.next b5)
              clear c0 c1 c2 c3 c4 c5 c6 c7 b5
              obtain ⟨⟨c0, c1, c2⟩, ⟨c3, c4, c5⟩, c6, c7⟩ := X5.out.cells
              by_cases hne : x = y
              · subst hne
                have q := fun w => neq_no x w
                go_wp2_with fail
                go_meet
                exact ⟨by simp, X5.out⟩
              · have q := fun w => neq_yes hne w
                by_cases hle : ((putV x).length : Int) ≤ ((putV y).length : Int)
                · have ht := take_ne ox oy hrx hry hne (by omega)
                  go_wp2_with fail
                  go_meet
                  refine ⟨?_, X5.out⟩
                  simp
                  rw [ba_take]
                  exact ht
                · go_wp2_with fail
                  go_meet
                  exact ⟨by simp, X5.out⟩
        case rest =>
          obtain ⟨rfl, X4⟩ := hcut
          have HX4 := Lib.hid X4
          clear c0 c1 c2 c3 c4 c5 c6 c7 HX3 hpx hpy
          obtain ⟨⟨c0, c1, c2⟩, ⟨c3, c4, c5⟩, c6, c7⟩ := X4.cells
          clear X4
          go_upto_region 6 with fail
          go_cut [64] (fun a wx => a = .bool false ∧ Bx w x y t wx)
          case first =>
            cases hf : fitsV x t.1 t.2
            · go_wp2_with fail
              refine (fits_any x t.1 t.2 _ (by omega)).mono ?_; rintro e w4 ⟨rfl, b4⟩
              go_wp2_with fail
              go_meet
              exact ⟨by simp, HX4.out.next b4⟩
            · obtain ⟨f1, f2⟩ := fits_right hf
              have f3 : (x.k == t.1) = true := by simp [f2]
              have HF2 := Lib.hid f2
              clear f2
              go_wp2_with fail
              refine (fits_any x t.1 t.2 _ (by omega)).mono ?_; rintro e w4 ⟨rfl, b4⟩
              have X5 := Lib.hid (HX4.out.next b4)
              clear c0 c1 c2 c3 c4 c5 c6 c7 b4
              obtain ⟨⟨c0, c1, c2⟩, ⟨c3, c4, c5⟩, c6, c7⟩ := X5.out.cells
              go_wp2_with fail
              refine (right_any x _ (by omega)).mono ?_; rintro e w5 ⟨rfl, b5⟩
              have X6 := Lib.hid (X5.out.next b5)
              clear c0 c1 c2 c3 c4 c5 c6 c7 b5
              obtain ⟨⟨c0, c1, c2⟩, ⟨c3, c4, c5⟩, c6, c7⟩ := X6.out.cells
              rw [HF2.out] at c0
              go_wp2_with fail
              go_meet
              exact ⟨by simp [HF2.out], X6.out⟩
          case rest =>
            obtain ⟨rfl, X5⟩ := hcut
            have HX5 := Lib.hid X5
            clear c0 c1 c2 c3 c4 c5 c6 c7 HX4
            obtain ⟨⟨c0, c1, c2⟩, ⟨c3, c4, c5⟩, c6, c7⟩ := X5.cells
            clear X5
            cases hrt : rightT t.1 t.2
            · go_wp2_with fail
              refine wp_region_sched [(0, true), (1, false), (2, true), (3, true), (4, true), (6, true), (5, false), (7, false), (8, true), (9, true), (10, false), (11, true), (12, true)] (by kernel_rfl) (by kernel_rfl) (fun _ _ d _ _ h => by cases d <;> exact h) ?_
              refine sbelow (w0 := wc) ((Below.refl _ _).drew) (fun B0 => ?_)
              refine swith (fun W hW => ((HX5.out.next (bthen B0 hW.out)).cells)) (fun q => ?_)
              repeat (first | (refine sreadx rfl rfl ?_; apply Exists.intro; apply And.intro; (· (intro W hW; first | (go_simp; done) | (go_simp; with_reducible rfl) | (go_simp; rw [if_neg (by omega)]; done) | (go_simp; rw [if_neg (by omega)]; with_reducible rfl))); simp only [Act.put, List.setIfInBounds_toArray, List.set_cons_zero, List.set_cons_succ]) | (refine sskip rfl rfl ?_; simp only [Act.put, List.setIfInBounds_toArray, List.set_cons_zero, List.set_cons_succ]))
              refine scall rfl rfl (fun K hK => ?_)
              go_simp
              refine (rightType_any t.1 t.2 _).mono ?_; rintro e w6 ⟨rfl, b6⟩
              go_wp2_with fail
              refine hK.out _ _ (by exact b6) ?_
              clear hK K
              try simp only [Act.put, List.setIfInBounds_toArray, List.set_cons_zero, List.set_cons_succ]
              replace q := fun (W : World) (hW : Grow w6 W) => q W (Grow.trans (b6) hW)
              have B6 := bthen B0 b6
              repeat (first | (refine sreadx rfl rfl ?_; apply Exists.intro; apply And.intro; (· (intro W hW; first | (go_simp; done) | (go_simp; with_reducible rfl) | (go_simp; rw [if_neg (by omega)]; done) | (go_simp; rw [if_neg (by omega)]; with_reducible rfl))); simp only [Act.put, List.setIfInBounds_toArray, List.set_cons_zero, List.set_cons_succ]) | (refine sskip rfl rfl ?_; simp only [Act.put, List.setIfInBounds_toArray, List.set_cons_zero, List.set_cons_succ]))
              refine scall rfl rfl (fun K hK => ?_)
              go_simp
              refine (lives_any _).mono ?_; rintro e w7 ⟨rfl, b7⟩
              go_wp2_with fail
              refine hK.out _ _ (by exact b7) ?_
              clear hK K
              try simp only [Act.put, List.setIfInBounds_toArray, List.set_cons_zero, List.set_cons_succ]
              repeat (first | (refine sreadx rfl rfl ?_; apply Exists.intro; apply And.intro; (· (intro W hW; first | (go_simp; done) | (go_simp; with_reducible rfl) | (go_simp; rw [if_neg (by omega)]; done) | (go_simp; rw [if_neg (by omega)]; with_reducible rfl))); simp only [Act.put, List.setIfInBounds_toArray, List.set_cons_zero, List.set_cons_succ]) | (refine sskip rfl rfl ?_; simp only [Act.put, List.setIfInBounds_toArray, List.set_cons_zero, List.set_cons_succ]))
              refine sdone ?_
              go_wp2_with fail
              go_ret
              exact ⟨rfl, (HX5.out.next (bthen B6 b7)).2.2.2⟩
            · have hz := zero_fits hrt
              have hzl : (zeroT t.1 t.2).s.length ≤ 1000000000000 := by unfold zeroT; split <;> simp
              go_wp2_with fail
              refine wp_region_sched [(0, true), (1, false), (2, true), (3, true), (4, true), (6, true), (5, false), (7, false), (8, true), (9, true), (10, false), (11, true), (12, true)] (by kernel_rfl) (by kernel_rfl) (fun _ _ d _ _ h => by cases d <;> exact h) ?_
              refine sbelow (w0 := wc) ((Below.refl _ _).drew) (fun B0 => ?_)
              refine swith (fun W hW => ((HX5.out.next (bthen B0 hW.out)).cells)) (fun q => ?_)
              repeat (first | (refine sreadx rfl rfl ?_; apply Exists.intro; apply And.intro; (· (intro W hW; first | (go_simp; done) | (go_simp; with_reducible rfl) | (go_simp; rw [if_neg (by omega)]; done) | (go_simp; rw [if_neg (by omega)]; with_reducible rfl))); simp only [Act.put, List.setIfInBounds_toArray, List.set_cons_zero, List.set_cons_succ]) | (refine sskip rfl rfl ?_; simp only [Act.put, List.setIfInBounds_toArray, List.set_cons_zero, List.set_cons_succ]))
              refine scall rfl rfl (fun K hK => ?_)
              go_simp
              refine (rightType_any t.1 t.2 _).mono ?_; rintro e w6 ⟨rfl, b6⟩
              go_wp2_with fail
              refine hK.out _ _ (by exact b6) ?_
              clear hK K
              try simp only [Act.put, List.setIfInBounds_toArray, List.set_cons_zero, List.set_cons_succ]
              replace q := fun (W : World) (hW : Grow w6 W) => q W (Grow.trans (b6) hW)
              have B6 := bthen B0 b6
              repeat (first | (refine sreadx rfl rfl ?_; apply Exists.intro; apply And.intro; (· (intro W hW; first | (go_simp; done) | (go_simp; with_reducible rfl) | (go_simp; rw [if_neg (by omega)]; done) | (go_simp; rw [if_neg (by omega)]; with_reducible rfl))); simp only [Act.put, List.setIfInBounds_toArray, List.set_cons_zero, List.set_cons_succ]) | (refine sskip rfl rfl ?_; simp only [Act.put, List.setIfInBounds_toArray, List.set_cons_zero, List.set_cons_succ]))
              refine scall rfl rfl (fun K hK => ?_)
              go_simp
              refine (zero_any t.1 t.2 _).mono ?_; rintro e w8 ⟨rfl, b8⟩
              go_wp2_with fail
              refine hK.out _ _ (by exact b8) ?_
              clear hK K
              try simp only [Act.put, List.setIfInBounds_toArray, List.set_cons_zero, List.set_cons_succ]
              replace q := fun (W : World) (hW : Grow w8 W) => q W (Grow.trans (b8) hW)
              have B8 := bthen B6 b8
              refine scall rfl rfl (fun K hK => ?_)
              go_simp
              refine (fits_any (zeroT t.1 t.2) t.1 t.2 _ hzl).mono ?_; rintro e w9 ⟨rfl, b9⟩
              go_wp2_with fail
              refine hK.out _ _ (by exact b9) ?_
              clear hK K
              try simp only [Act.put, List.setIfInBounds_toArray, List.set_cons_zero, List.set_cons_succ]
              replace q := fun (W : World) (hW : Grow w9 W) => q W (Grow.trans (b9) hW)
              have B9 := bthen B8 b9
              repeat (first | (refine sreadx rfl rfl ?_; apply Exists.intro; apply And.intro; (· (intro W hW; first | (go_simp; done) | (go_simp; with_reducible rfl) | (go_simp; rw [if_neg (by omega)]; done) | (go_simp; rw [if_neg (by omega)]; with_reducible rfl))); simp only [Act.put, List.setIfInBounds_toArray, List.set_cons_zero, List.set_cons_succ]) | (refine sskip rfl rfl ?_; simp only [Act.put, List.setIfInBounds_toArray, List.set_cons_zero, List.set_cons_succ]))
              refine scall rfl rfl (fun K hK => ?_)
              go_simp
              refine (lives_any _).mono ?_; rintro e w7 ⟨rfl, b7⟩
              go_wp2_with fail
              refine hK.out _ _ (by exact b7) ?_
              clear hK K
              try simp only [Act.put, List.setIfInBounds_toArray, List.set_cons_zero, List.set_cons_succ]
              repeat (first | (refine sreadx rfl rfl ?_; apply Exists.intro; apply And.intro; (· (intro W hW; first | (go_simp; done) | (go_simp; with_reducible rfl) | (go_simp; rw [if_neg (by omega)]; done) | (go_simp; rw [if_neg (by omega)]; with_reducible rfl))); simp only [Act.put, List.setIfInBounds_toArray, List.set_cons_zero, List.set_cons_succ]) | (refine sskip rfl rfl ?_; simp only [Act.put, List.setIfInBounds_toArray, List.set_cons_zero, List.set_cons_succ]))
              refine sdone ?_
              go_wp2_with fail
              go_ret
              exact ⟨rfl, (HX5.out.next (bthen B9 b7)).2.2.2⟩
    · go_enter Try.func3, Try.ntmps3
      go_wp2_with fail
      refine (light_any x _ (by omega)).mono ?_; rintro e w1 ⟨rfl, b1⟩
      have X1 := Lib.hid (HB.out.next b1)
      obtain ⟨⟨c0, c1, c2⟩, ⟨c3, c4, c5⟩, c6, c7⟩ := X1.out.cells
      clear HB b1
      go_wp2_with fail
      refine (light_any y _ (by omega)).mono ?_; rintro e w2 ⟨rfl, b2⟩
      have X2 := Lib.hid (X1.out.next b2)
      clear X1 b2 c0 c1 c2 c3 c4 c5 c6 c7
      rw [show decide ((y.s.length : Int) ≤ 100) = false by simp; omega]
      go_wp2_with fail
      refine (lives_any _).mono ?_; rintro e w3 ⟨rfl, b3⟩
      go_wp2_with fail
      go_ret
      exact ⟨rfl, (X2.out.next b3).2.2.2⟩
  · go_enter Try.func3, Try.ntmps3
    go_wp2_with fail
    refine (light_any x _ (by omega)).mono ?_; rintro e w1 ⟨rfl, b1⟩
    have X1 := Lib.hid (HB.out.next b1)
    clear HB b1
    go_wp2_with fail
    refine (lives_any _).mono ?_; rintro e w3 ⟨rfl, b3⟩
    go_wp2_with fail
    go_ret
    exact ⟨rfl, (X1.out.next b3).2.2.2⟩
end Go.Proofs.Ytpkoijlbbfffiaa.valueApart
