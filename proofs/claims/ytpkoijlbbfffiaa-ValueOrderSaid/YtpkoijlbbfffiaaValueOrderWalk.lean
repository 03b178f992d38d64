/- ValueOrder's walk: for every three values it returns true. -/
import Derived.Test.YtpkoijlbbfffiaaValCmp
import Derived.Test.YtpkoijlbbfffiaaValOpen
import Derived.Deep.DeepCutAuto
namespace Go.Proofs.Ytpkoijlbbfffiaa.valueOrder
open Go.RowKit O V

theorem eql_yes (x : Val) (w : World) : (binOp .eql 23 (.agg #[.int .i64 x.k, .int .i64 x.n, .string ⟨x.s.toArray⟩]) (.agg #[.int .i64 x.k, .int .i64 x.n, .string ⟨x.s.toArray⟩])).run Try.prog w = .ok (.bool true) w := by
  go_simp
theorem eql_no {x y : Val} (h : x ≠ y) (w : World) : (binOp .eql 23 (.agg #[.int .i64 x.k, .int .i64 x.n, .string ⟨x.s.toArray⟩]) (.agg #[.int .i64 y.k, .int .i64 y.n, .string ⟨y.s.toArray⟩])).run Try.prog w = .ok (.bool false) w := by
  go_simp
  exact fun h1 h2 h3 => h (Val.same h1 h2 h3)
theorem cmpL_three : ∀ a b : List UInt8, -1 ≤ cmpL a b ∧ cmpL a b ≤ 1
  | [], [] => by simp [cmpL]
  | [], _ :: _ => by simp [cmpL]
  | _ :: _, [] => by simp [cmpL]
  | a :: x, b :: y => by
    have := cmpL_three x y
    unfold cmpL
    split
    · omega
    · split <;> omega
theorem cmpV_three (a b : Val) : -1 ≤ cmpV a b ∧ cmpV a b ≤ 1 := by
  have := cmpL_three a.s b.s
  unfold cmpV or3 cmpI
  repeat' split
  all_goals omega
/-- The three boxes of the law's own. -/
def Bx (w : World) (x y z : Val) (W : World) : Prop :=
  W.heap[w.heap.size]? = some (.cells #[.int .i64 x.k, .int .i64 x.n, .string ⟨x.s.toArray⟩] 23 (0, 0)) ∧
  W.heap[w.heap.size + 1]? = some (.cells #[.int .i64 y.k, .int .i64 y.n, .string ⟨y.s.toArray⟩] 23 (0, 0)) ∧
  W.heap[w.heap.size + 1 + 1]? = some (.cells #[.int .i64 z.k, .int .i64 z.n, .string ⟨z.s.toArray⟩] 23 (0, 0)) ∧ Below w.heap.size w W
theorem Bx.next {w W W' : World} {x y z : Val} (h : Bx w x y z W) (b : Below W.heap.size W W') : Bx w x y z W' :=
  ⟨box_next h.1 b, box_next h.2.1 b, box_next h.2.2.1 b, bthen h.2.2.2 b⟩
theorem Bx.cells {w W : World} {x y z : Val} (h : Bx w x y z W) :
    (W.cell? ⟨w.heap.size, 0, none⟩ = some (.int .i64 x.k) ∧ W.cell? ⟨w.heap.size, 1, none⟩ = some (.int .i64 x.n) ∧ W.cell? ⟨w.heap.size, 2, none⟩ = some (.string ⟨x.s.toArray⟩)) ∧
    (W.cell? ⟨w.heap.size + 1, 0, none⟩ = some (.int .i64 y.k) ∧ W.cell? ⟨w.heap.size + 1, 1, none⟩ = some (.int .i64 y.n) ∧ W.cell? ⟨w.heap.size + 1, 2, none⟩ = some (.string ⟨y.s.toArray⟩)) ∧
    (W.cell? ⟨w.heap.size + 1 + 1, 0, none⟩ = some (.int .i64 z.k) ∧ W.cell? ⟨w.heap.size + 1 + 1, 1, none⟩ = some (.int .i64 z.n) ∧ W.cell? ⟨w.heap.size + 1 + 1, 2, none⟩ = some (.string ⟨z.s.toArray⟩)) :=
  ⟨cells3 h.1, cells3 h.2.1, cells3 h.2.2.1⟩
set_option maxRecDepth 100000 in
set_option maxHeartbeats 4000000 in
theorem walk (v0 : Value) (x : Val) (v1 : Value) (y : Val) (v2 : Value) (z : Val) (w : World) (h0 : IsVal v0 x) (h1 : IsVal v1 y) (h2 : IsVal v2 z) :
    Calls Try.prog 7 #[v0, v1, v2] w fun e w' => e = .returned (.bool true) ∧ Below w.heap.size w w' := by
  obtain ⟨rfl, ox⟩ := h0
  obtain ⟨rfl, oy⟩ := h1
  obtain ⟨rfl, oz⟩ := h2
  have lx := ox.s
  have ly := oy.s
  have lz := oz.s
  unfold maxLen at lx ly lz
  simp only [vv]
  have hB : Bx w x y z (((w.alloc (.cells #[.int .i64 x.k, .int .i64 x.n, .string ⟨x.s.toArray⟩] 23)).alloc (.cells #[.int .i64 y.k, .int .i64 y.n, .string ⟨y.s.toArray⟩] 23)).alloc (.cells #[.int .i64 z.k, .int .i64 z.n, .string ⟨z.s.toArray⟩] 23)) :=
    ⟨alloc_old' (alloc_old' (alloc_at rfl)), alloc_old' (alloc_at (by simp)), alloc_at (by simp), by repeat (first | exact Below.refl _ _ | refine Below.alloc ?_ (by simp <;> omega) _)⟩
  have HB := Lib.hid hB; clear hB
  by_cases hx : (x.s.length : Int) ≤ 100
  · by_cases hy : (y.s.length : Int) ≤ 100
    · by_cases hz : (z.s.length : Int) ≤ 100
      · have lx' : x.s.length ≤ 100 := by omega
        have ly' : y.s.length ≤ 100 := by omega
        go_enter Try.func7, Try.ntmps7
        go_wp2_with fail
        refine (light_any x _ (by omega)).mono ?_; rintro e w1 ⟨rfl, b1⟩
        have X1 := Lib.hid (HB.out.next b1)
        clear b1
        obtain ⟨⟨c0, c1, c2⟩, ⟨c3, c4, c5⟩, c6, c7, c8⟩ := X1.out.cells
        go_wp2_with fail
        refine (light_any y _ (by omega)).mono ?_; rintro e w2 ⟨rfl, b2⟩
        have X2 := Lib.hid (X1.out.next b2)
        clear b2
        clear c0 c1 c2 c3 c4 c5 c6 c7 c8
        obtain ⟨⟨c0, c1, c2⟩, ⟨c3, c4, c5⟩, c6, c7, c8⟩ := X2.out.cells
        go_wp2_with fail
        refine (light_any z _ (by omega)).mono ?_; rintro e w3 ⟨rfl, b3⟩
        have X3 := Lib.hid (X2.out.next b3)
        clear b3
        clear c0 c1 c2 c3 c4 c5 c6 c7 c8
        obtain ⟨⟨c0, c1, c2⟩, ⟨c3, c4, c5⟩, c6, c7, c8⟩ := X3.out.cells
        go_wp2_with fail
        refine (compare_any x y _).mono ?_; rintro e w4 ⟨rfl, b4⟩
        have X4 := Lib.hid (X3.out.next b4)
        clear b4
        clear c0 c1 c2 c3 c4 c5 c6 c7 c8
        obtain ⟨⟨c0, c1, c2⟩, ⟨c3, c4, c5⟩, c6, c7, c8⟩ := X4.out.cells
        have h3 := cmpV_three x y
        generalize hn : cmpV x y = n at *
        have Hn := Lib.hid hn; clear hn
        obtain ⟨h3a, h3b⟩ := h3
        go_upto_region 4 with fail
        go_cut [45] (fun a wx => a = .bool false ∧ Bx w x y z wx)
        case first =>
          go_wp2_with fail
          refine (rcompare_any x y _ (by omega) (by omega)).mono ?_; rintro e w5 ⟨rfl, b5⟩
          rw [Hn.out]
          have X5 := Lib.hid (X4.out.next b5)
          clear b5
          clear c0 c1 c2 c3 c4 c5 c6 c7 c8
          obtain ⟨⟨c0, c1, c2⟩, ⟨c3, c4, c5⟩, c6, c7, c8⟩ := X5.out.cells
          go_wp2_with fail
          refine (compare_any y x _).mono ?_; rintro e w6 ⟨rfl, b6⟩
          rw [show cmpV y x = -n by rw [cmpV_swap, Hn.out]]
          have X6 := Lib.hid (X5.out.next b6)
          clear b6
          clear c0 c1 c2 c3 c4 c5 c6 c7 c8
          obtain ⟨⟨c0, c1, c2⟩, ⟨c3, c4, c5⟩, c6, c7, c8⟩ := X6.out.cells
          by_cases hxy : x = y
          · have h0 : n = 0 := by rw [← Hn.out]; exact cmpV_zero.2 hxy
            subst hxy
            subst h0
            have q := fun w => eql_yes x w
            go_wp2_with fail
            go_meet
            exact ⟨by simp, X6.out⟩
          · have h0 : (n == 0) = false := by simp; rw [← Hn.out]; exact fun h => hxy (cmpV_zero.1 h)
            have q := fun w => eql_no hxy w
            go_wp2_with fail
            go_meet
            exact ⟨by simp, X6.out⟩
        case rest =>
          obtain ⟨rfl, X5'⟩ := hcut
          have X5 := Lib.hid X5'
          clear X5'
          clear c0 c1 c2 c3 c4 c5 c6 c7 c8
          obtain ⟨⟨c0, c1, c2⟩, ⟨c3, c4, c5⟩, c6, c7, c8⟩ := X5.out.cells
          by_cases hp : n > 0
          · have hp' : decide (n > 0) = true := by simp; omega
            go_wp2_with fail
            refine (lives_any _).mono ?_; rintro e w6 ⟨rfl, b6⟩
            go_wp2_with fail
            go_ret
            exact ⟨rfl, (X5.out.next b6).2.2.2⟩
          · have hp' : decide (n > 0) = false := by simp; omega
            go_wp2_with fail
            refine (compare_any y z _).mono ?_; rintro e w6 ⟨rfl, b6⟩
            have X6 := Lib.hid (X5.out.next b6)
            clear b6
            clear c0 c1 c2 c3 c4 c5 c6 c7 c8
            obtain ⟨⟨c0, c1, c2⟩, ⟨c3, c4, c5⟩, c6, c7, c8⟩ := X6.out.cells
            by_cases hp2 : cmpV y z > 0
            · have hp2' : decide (cmpV y z > 0) = true := by simp; omega
              go_wp2_with fail
              refine (lives_any _).mono ?_; rintro e w7 ⟨rfl, b7⟩
              go_wp2_with fail
              go_ret
              exact ⟨rfl, (X6.out.next b7).2.2.2⟩
            · have hp2' : decide (cmpV y z > 0) = false := by simp; omega
              have hxz : cmpV x z ≤ 0 := cmpV_trans (b := y) (by rw [Hn.out]; omega) (by omega)
              have hxz' : decide (cmpV x z ≤ 0) = true := by simp; omega
              go_wp2_with fail
              refine (compare_any x z _).mono ?_; rintro e w7 ⟨rfl, b7⟩
              have X7 := Lib.hid (X6.out.next b7)
              clear b7
              clear c0 c1 c2 c3 c4 c5 c6 c7 c8
              obtain ⟨⟨c0, c1, c2⟩, ⟨c3, c4, c5⟩, c6, c7, c8⟩ := X7.out.cells
              go_wp2_with fail
              refine (lives_any _).mono ?_; rintro e w8 ⟨rfl, b8⟩
              go_wp2_with fail
              go_ret
              exact ⟨rfl, (X7.out.next b8).2.2.2⟩
      · go_enter Try.func7, Try.ntmps7
        go_wp2_with fail
        refine (light_any x _ (by omega)).mono ?_; rintro e w1 ⟨rfl, b1⟩
        have X1 := Lib.hid (HB.out.next b1)
        clear b1
        obtain ⟨⟨c0, c1, c2⟩, ⟨c3, c4, c5⟩, c6, c7, c8⟩ := X1.out.cells
        go_wp2_with fail
        refine (light_any y _ (by omega)).mono ?_; rintro e w2 ⟨rfl, b2⟩
        have X2 := Lib.hid (X1.out.next b2)
        clear b2
        clear c0 c1 c2 c3 c4 c5 c6 c7 c8
        obtain ⟨⟨c0, c1, c2⟩, ⟨c3, c4, c5⟩, c6, c7, c8⟩ := X2.out.cells
        go_wp2_with fail
        refine (light_any z _ (by omega)).mono ?_; rintro e w3 ⟨rfl, b3⟩
        have X3 := Lib.hid (X2.out.next b3)
        rw [show decide ((z.s.length : Int) ≤ 100) = false by simp; omega]
        go_wp2_with fail
        refine (lives_any _).mono ?_; rintro e w4 ⟨rfl, b4⟩
        go_wp2_with fail
        go_ret
        exact ⟨rfl, (X3.out.next b4).2.2.2⟩
    · go_enter Try.func7, Try.ntmps7
      go_wp2_with fail
      refine (light_any x _ (by omega)).mono ?_; rintro e w1 ⟨rfl, b1⟩
      have X1 := Lib.hid (HB.out.next b1)
      clear b1
      obtain ⟨⟨c0, c1, c2⟩, ⟨c3, c4, c5⟩, c6, c7, c8⟩ := X1.out.cells
      go_wp2_with fail
      refine (light_any y _ (by omega)).mono ?_; rintro e w3 ⟨rfl, b3⟩
      have X3 := Lib.hid (X1.out.next b3)
      rw [show decide ((y.s.length : Int) ≤ 100) = false by simp; omega]
      go_wp2_with fail
      refine (lives_any _).mono ?_; rintro e w4 ⟨rfl, b4⟩
      go_wp2_with fail
      go_ret
      exact ⟨rfl, (X3.out.next b4).2.2.2⟩
  · go_enter Try.func7, Try.ntmps7
    go_wp2_with fail
    refine (light_any x _ (by omega)).mono ?_; rintro e w3 ⟨rfl, b3⟩
    have X3 := Lib.hid (HB.out.next b3)
    rw [show decide ((x.s.length : Int) ≤ 100) = false by simp; omega]
    go_wp2_with fail
    refine (lives_any _).mono ?_; rintro e w4 ⟨rfl, b4⟩
    go_wp2_with fail
    go_ret
    exact ⟨rfl, (X3.out.next b4).2.2.2⟩
end Go.Proofs.Ytpkoijlbbfffiaa.valueOrder
