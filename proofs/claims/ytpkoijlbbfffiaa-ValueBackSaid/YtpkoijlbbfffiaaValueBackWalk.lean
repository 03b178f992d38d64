/- ValueBack's walk: for every two values it returns true. -/
import Derived.Test.YtpkoijlbbfffiaaValParse
import Derived.Test.YtpkoijlbbfffiaaValGet
import Derived.Test.YtpkoijlbbfffiaaValCmp
import Derived.Test.YtpkoijlbbfffiaaValOpen
import Derived.Deep.DeepCutAuto
namespace Go.Proofs.Ytpkoijlbbfffiaa.valueBack
open Go.RowKit O V

theorem eql_yes (x : Val) (w : World) : (binOp .eql 23 (.agg #[.int .i64 x.k, .int .i64 x.n, .string ⟨x.s.toArray⟩]) (.agg #[.int .i64 x.k, .int .i64 x.n, .string ⟨x.s.toArray⟩])).run Try.prog w = .ok (.bool true) w := by
  go_simp
theorem eql_no {x y : Val} (h : x ≠ y) (w : World) : (binOp .eql 23 (.agg #[.int .i64 x.k, .int .i64 x.n, .string ⟨x.s.toArray⟩]) (.agg #[.int .i64 y.k, .int .i64 y.n, .string ⟨y.s.toArray⟩])).run Try.prog w = .ok (.bool false) w := by
  go_simp
  exact fun h1 h2 h3 => h (Val.same h1 h2 h3)
theorem neq_no (x : Val) (w : World) : (binOp .neq 23 (.agg #[.int .i64 x.k, .int .i64 x.n, .string ⟨x.s.toArray⟩]) (.agg #[.int .i64 x.k, .int .i64 x.n, .string ⟨x.s.toArray⟩])).run Try.prog w = .ok (.bool false) w := by
  go_simp
theorem get_put (x : Val) (hr : right x = true) (ox : VOk x) : getV (putV x) 0 = some (x, (putV x).length) := by
  have := getV_put [] [] x hr ox.n1 ox.n2
  simpa using this
theorem own_cap5 {w : World} {base e size n c : Nat} {A : Option Addr} {xs : List Value} (h : w.ownsRow base e size (.slice A n c) n xs) : n ≤ c ∧ c ≤ 9223372036854775807 := by
  rcases h.2 with ⟨hv, h0⟩ | ⟨g, cap, cur, hv, _, _, hnc, hcm, _⟩
  · injection hv with _ h1 h2; rw [h1, h2]; omega
  · injection hv with _ _ hc; rw [hc]; unfold maxLen at hcm; exact ⟨hnc, hcm⟩
theorem put_len (x : Val) (ox : VOk x) (hs : x.s.length ≤ 100) : (putV x).length ≤ 1000 := by
  unfold putV
  have := uintL_len10 (zig x.n) (zig_lt _ ox.n1 ox.n2)
  have := uintL_len10 x.s.length (by omega)
  unfold textL
  repeat' split
  all_goals simp
  all_goals omega
theorem print_len (x : Val) (ox : VOk x) (hs : x.s.length ≤ 100) : (printV x).length ≤ 1000 := by
  have h1 := decL_len x.n ox.n1 ox.n2
  have h2 := escL_len x.s
  unfold printV quoteL
  repeat' split
  all_goals simp
  all_goals omega
set_option maxRecDepth 100000 in
set_option maxHeartbeats 4000000 in
theorem walk (v0 : Value) (x : Val) (v1 : Value) (y : Val) (w : World) (h0 : IsVal v0 x) (h1 : IsVal v1 y) :
    Calls Try.prog 11 #[v0, v1] w fun e w' => e = .returned (.bool true) ∧ Below w.heap.size w w' := by
  obtain ⟨rfl, ox⟩ := h0
  obtain ⟨rfl, oy⟩ := h1
  have lx := ox.s
  have ly := oy.s
  unfold maxLen at lx ly
  simp only [vv]
  have HB := Lib.hid (B2.start w x y)
  by_cases hx : (x.s.length : Int) ≤ 100
  · by_cases hy : (y.s.length : Int) ≤ 100
    · have lx' : x.s.length ≤ 100 := by omega
      have ly' : y.s.length ≤ 100 := by omega
      cases hrx : right x
      · go_enter Try.func11, Try.ntmps11
        go_wp2_with fail
        refine (light_any x _ (by omega)).mono ?_; rintro e w1 ⟨rfl, b1⟩
        rw [show decide ((x.s.length : Int) ≤ 100) = true by simp; omega]
        have X1 := Lib.hid (HB.out.next b1)
        clear b1
        obtain ⟨⟨c0, c1, c2⟩, c3, c4, c5⟩ := X1.out.cells
        go_wp2_with fail
        refine (light_any y _ (by omega)).mono ?_; rintro e w2 ⟨rfl, b2⟩
        rw [show decide ((y.s.length : Int) ≤ 100) = true by simp; omega]
        clear c0 c1 c2 c3 c4 c5
        have X2 := Lib.hid (X1.out.next b2)
        clear b2
        obtain ⟨⟨c0, c1, c2⟩, c3, c4, c5⟩ := X2.out.cells
        go_wp2_with fail
        refine (right_any x _ (by omega)).mono ?_; rintro e w3 ⟨rfl, b3⟩
        rw [hrx]
        clear c0 c1 c2 c3 c4 c5
        have X3 := Lib.hid (X2.out.next b3)
        clear b3
        obtain ⟨⟨c0, c1, c2⟩, c3, c4, c5⟩ := X3.out.cells
        go_wp2_with fail
        refine (lives_any _).mono ?_; rintro e wL ⟨rfl, bL⟩
        go_wp2_with fail
        go_ret
        exact ⟨rfl, (X3.out.next bL).2.2⟩
      · cases hry : right y
        · go_enter Try.func11, Try.ntmps11
          go_wp2_with fail
          refine (light_any x _ (by omega)).mono ?_; rintro e w1 ⟨rfl, b1⟩
          rw [show decide ((x.s.length : Int) ≤ 100) = true by simp; omega]
          have X1 := Lib.hid (HB.out.next b1)
          clear b1
          obtain ⟨⟨c0, c1, c2⟩, c3, c4, c5⟩ := X1.out.cells
          go_wp2_with fail
          refine (light_any y _ (by omega)).mono ?_; rintro e w2 ⟨rfl, b2⟩
          rw [show decide ((y.s.length : Int) ≤ 100) = true by simp; omega]
          clear c0 c1 c2 c3 c4 c5
          have X2 := Lib.hid (X1.out.next b2)
          clear b2
          obtain ⟨⟨c0, c1, c2⟩, c3, c4, c5⟩ := X2.out.cells
          go_wp2_with fail
          refine (right_any x _ (by omega)).mono ?_; rintro e w3 ⟨rfl, b3⟩
          rw [hrx]
          clear c0 c1 c2 c3 c4 c5
          have X3 := Lib.hid (X2.out.next b3)
          clear b3
          obtain ⟨⟨c0, c1, c2⟩, c3, c4, c5⟩ := X3.out.cells
          go_wp2_with fail
          refine (right_any y _ (by omega)).mono ?_; rintro e w4 ⟨rfl, b4⟩
          rw [hry]
          clear c0 c1 c2 c3 c4 c5
          have X4 := Lib.hid (X3.out.next b4)
          clear b4
          obtain ⟨⟨c0, c1, c2⟩, c3, c4, c5⟩ := X4.out.cells
          go_wp2_with fail
          refine (lives_any _).mono ?_; rintro e wL ⟨rfl, bL⟩
          go_wp2_with fail
          go_ret
          exact ⟨rfl, (X4.out.next bL).2.2⟩
        · have hg := Lib.hid (get_put x hrx ox)
          have hp := Lib.hid ((parseV_iff (s := printV x)).2 ⟨⟨hrx, ox.n1, ox.n2⟩, rfl⟩)
          have pl := put_len x ox lx'
          have pl2 := put_len y oy ly'
          have pr := print_len x ox lx'
          have heq : (x = y ∧ True) ∨ (x ≠ y ∧ (putV x == putV y) = false ∧ (printV x == printV y) = false) := by
            by_cases e : x = y
            · exact .inl ⟨e, trivial⟩
            · refine .inr ⟨e, ?_, ?_⟩
              · rw [beq_eq_false_iff_ne]; exact fun h => e ((putV_inj hrx hry ox.n1 ox.n2 oy.n1 oy.n2).1 h)
              · rw [beq_eq_false_iff_ne]; exact fun h => e (printV_inj ⟨hrx, ox.n1, ox.n2⟩ ⟨hry, oy.n1, oy.n2⟩ h)
          have HEQ := Lib.hid heq
          clear heq
          have qn := fun w => neq_no x w
          go_enter Try.func11, Try.ntmps11
          go_wp2_with fail
          refine (light_any x _ (by omega)).mono ?_; rintro e w1 ⟨rfl, b1⟩
          rw [show decide ((x.s.length : Int) ≤ 100) = true by simp; omega]
          have X1 := Lib.hid (HB.out.next b1)
          clear b1
          obtain ⟨⟨c0, c1, c2⟩, c3, c4, c5⟩ := X1.out.cells
          go_wp2_with fail
          refine (light_any y _ (by omega)).mono ?_; rintro e w2 ⟨rfl, b2⟩
          rw [show decide ((y.s.length : Int) ≤ 100) = true by simp; omega]
          clear c0 c1 c2 c3 c4 c5
          have X2 := Lib.hid (X1.out.next b2)
          clear b2
          obtain ⟨⟨c0, c1, c2⟩, c3, c4, c5⟩ := X2.out.cells
          go_wp2_with fail
          refine (right_any x _ (by omega)).mono ?_; rintro e w3 ⟨rfl, b3⟩
          rw [hrx]
          clear c0 c1 c2 c3 c4 c5
          have X3 := Lib.hid (X2.out.next b3)
          clear b3
          obtain ⟨⟨c0, c1, c2⟩, c3, c4, c5⟩ := X3.out.cells
          go_wp2_with fail
          refine (right_any y _ (by omega)).mono ?_; rintro e w4 ⟨rfl, b4⟩
          rw [hry]
          clear c0 c1 c2 c3 c4 c5
          have X4 := Lib.hid (X3.out.next b4)
          clear b4
          obtain ⟨⟨c0, c1, c2⟩, c3, c4, c5⟩ := X4.out.cells
          go_wp2_with fail
          refine (put_any none 0 0 [] x _ Rd.nil_ (by omega) (fun _ => rfl) (by omega) ox.n1 ox.n2).mono ?_; rintro e w5 ⟨A5, n5, k5, rfl, o5, b5⟩
          rw [List.nil_append] at o5
          have hn5 : n5 ≤ 1000 := by have := own_len o5; omega
          have hk5 := own_cap5 o5
          go_wp2_with fail
          refine (get_any A5 n5 k5 0 (putV x) _ (Rd.of_own o5) hk5.1 (by omega) hk5.2).mono ?_; rintro e w6 ⟨rfl, b6⟩
          rw [hg.out]
          simp only [resV, vv, Int.zero_add]
          have X6 := Lib.hid (X4.out.next (bthen b5 b6))
          clear b5 b6 o5
          clear c0 c1 c2 c3 c4 c5
          have X7 := Lib.hid (X6.out.next ((Below.refl _ _).alloc (Nat.le_refl _) (.cells #[.int .i64 x.k, .int .i64 x.n, .string ⟨x.s.toArray⟩] 23)))
          have Y7 : (w6.alloc (.cells #[.int .i64 x.k, .int .i64 x.n, .string ⟨x.s.toArray⟩] 23)).heap[w6.heap.size]? = some (.cells #[.int .i64 x.k, .int .i64 x.n, .string ⟨x.s.toArray⟩] 23 (0, 0)) := alloc_at rfl
          have HY7 := Lib.hid Y7; clear Y7
          obtain ⟨⟨c0, c1, c2⟩, c3, c4, c5⟩ := X7.out.cells
          go_wp2_with fail
          refine (print_any x _ (by omega) ox.n1 ox.n2).mono ?_; rintro e w8 ⟨rfl, b8⟩
          go_wp2_with fail
          refine (parse_any (printV x) _ (by omega)).mono ?_; rintro e w9 ⟨rfl, b9⟩
          rw [hp.out]
          simp only [resP, vv]
          have X9 := Lib.hid (X7.out.next (bthen b8 b9))
          have Y9 := box_next HY7.out (bthen b8 b9)
          clear c0 c1 c2 c3 c4 c5 b8 b9
          have BA : Below w9.heap.size w9 (w9.alloc (.cells #[.int .i64 x.k, .int .i64 x.n, .string ⟨x.s.toArray⟩] 23)) := (Below.refl _ _).alloc (Nat.le_refl _) _
          have XA := Lib.hid (X9.out.next BA)
          have YA := cells3 (box_next Y9 BA)
          have ZA : (w9.alloc (.cells #[.int .i64 x.k, .int .i64 x.n, .string ⟨x.s.toArray⟩] 23)).heap[w9.heap.size]? = some (.cells #[.int .i64 x.k, .int .i64 x.n, .string ⟨x.s.toArray⟩] 23 (0, 0)) := alloc_at rfl
          have HZA := Lib.hid ZA; clear ZA
          clear BA Y9
          obtain ⟨d0, d1, d2⟩ := YA
          obtain ⟨⟨c0, c1, c2⟩, c3, c4, c5⟩ := XA.out.cells
          go_wp2_with fail
          refine (put_any none 0 0 [] x _ Rd.nil_ (by omega) (fun _ => rfl) (by omega) ox.n1 ox.n2).mono ?_; rintro e wB ⟨AB, nB, kB, rfl, oB, bB⟩
          rw [List.nil_append] at oB
          have hnB : nB = (putV x).length := (own_len oB).symm
          subst hnB
          have XB := Lib.hid (XA.out.next bB)
          clear bB oB c0 c1 c2 c3 c4 c5 d0 d1 d2
          obtain ⟨⟨c0, c1, c2⟩, c3, c4, c5⟩ := XB.out.cells
          go_wp2_with fail
          rcases HEQ.out with ⟨en, _⟩ | ⟨en, e1, e2⟩
          · subst en
            have qe := fun w => eql_yes x w
            refine wp_region_sched [(0, true), (3, true), (7, true), (8, true), (9, true), (1, false), (2, true), (4, false), (5, true), (6, true), (10, true), (11, true), (12, true), (14, true), (17, true), (18, true), (19, true), (13, false), (15, false), (16, true), (20, true), (21, true), (22, true), (23, false), (24, true), (25, true)] (by kernel_rfl) (by kernel_rfl) (fun _ _ d _ _ h => by cases d <;> exact h) ?_
            refine sbelow (w0 := wB) ((Below.refl _ _).drew) (fun B0 => ?_)
            refine swith (fun W hW => ((XB.out.next (bthen B0 hW.out)).cells)) (fun q => ?_)
            repeat (first | (refine sreadx rfl rfl ?_; apply Exists.intro; apply And.intro; (· (intro W hW; first | (go_simp; done) | (go_simp; with_reducible rfl) | (go_simp; rw [if_neg (by omega)]; done) | (go_simp; rw [if_neg (by omega)]; with_reducible rfl))); simp only [Act.put, List.setIfInBounds_toArray, List.set_cons_zero, List.set_cons_succ]) | (refine sskip rfl rfl ?_; simp only [Act.put, List.setIfInBounds_toArray, List.set_cons_zero, List.set_cons_succ]))
            refine scall rfl rfl (fun K hK => ?_)
            go_simp
            refine (put_any none 0 0 [] x _ Rd.nil_ (by omega) (fun _ => rfl) (by omega) ox.n1 ox.n2).mono ?_; rintro e w13 ⟨A3, n3, k3, rfl, o3, b3⟩
            go_wp2_with fail
            refine hK.out _ _ (by exact b3) ?_
            clear hK K
            try simp only [Act.put, List.setIfInBounds_toArray, List.set_cons_zero, List.set_cons_succ]
            replace q := fun (W : World) (hW : Grow w13 W) => q W (Grow.trans (b3) hW)
            have B3 := bthen B0 b3
            rw [List.nil_append] at o3
            refine swith (fun W hW => (strq (c := k3) ((Rd.of_own o3).next hW.out))) (fun q3 => ?_)
            repeat (first | (refine sreadx rfl rfl ?_; apply Exists.intro; apply And.intro; (· (intro W hW; first | (go_simp; done) | (go_simp; with_reducible rfl) | (go_simp; rw [if_neg (by omega)]; done) | (go_simp; rw [if_neg (by omega)]; with_reducible rfl))); simp only [Act.put, List.setIfInBounds_toArray, List.set_cons_zero, List.set_cons_succ]) | (refine sskip rfl rfl ?_; simp only [Act.put, List.setIfInBounds_toArray, List.set_cons_zero, List.set_cons_succ]))
            refine scall rfl rfl (fun K hK => ?_)
            go_simp
            refine (put_any none 0 0 [] x _ Rd.nil_ (by omega) (fun _ => rfl) (by omega) ox.n1 ox.n2).mono ?_; rintro e w14 ⟨A4, n4, k4, rfl, o4, b4⟩
            go_wp2_with fail
            refine hK.out _ _ (by exact b4) ?_
            clear hK K
            try simp only [Act.put, List.setIfInBounds_toArray, List.set_cons_zero, List.set_cons_succ]
            replace q := fun (W : World) (hW : Grow w14 W) => q W (Grow.trans (b4) hW)
            replace q3 := fun (W : World) (hW : Grow w14 W) => q3 W (Grow.trans (b4) hW)
            have B4 := bthen B3 b4
            rw [List.nil_append] at o4
            refine swith (fun W hW => (strq (c := k4) ((Rd.of_own o4).next hW.out))) (fun q4 => ?_)
            repeat (first | (refine sreadx rfl rfl ?_; apply Exists.intro; apply And.intro; (· (intro W hW; first | (go_simp; done) | (go_simp; with_reducible rfl) | (go_simp; rw [if_neg (by omega)]; done) | (go_simp; rw [if_neg (by omega)]; with_reducible rfl))); simp only [Act.put, List.setIfInBounds_toArray, List.set_cons_zero, List.set_cons_succ]) | (refine sskip rfl rfl ?_; simp only [Act.put, List.setIfInBounds_toArray, List.set_cons_zero, List.set_cons_succ]))
            refine scall rfl rfl (fun K hK => ?_)
            go_simp
            refine (print_any x _ (by omega) ox.n1 ox.n2).mono ?_; rintro e w15 ⟨rfl, b5⟩
            go_wp2_with fail
            refine hK.out _ _ (by exact b5) ?_
            clear hK K
            try simp only [Act.put, List.setIfInBounds_toArray, List.set_cons_zero, List.set_cons_succ]
            replace q := fun (W : World) (hW : Grow w15 W) => q W (Grow.trans (b5) hW)
            have B5 := bthen B4 b5
            repeat (first | (refine sreadx rfl rfl ?_; apply Exists.intro; apply And.intro; (· (intro W hW; first | (go_simp; done) | (go_simp; with_reducible rfl) | (go_simp; rw [if_neg (by omega)]; done) | (go_simp; rw [if_neg (by omega)]; with_reducible rfl))); simp only [Act.put, List.setIfInBounds_toArray, List.set_cons_zero, List.set_cons_succ]) | (refine sskip rfl rfl ?_; simp only [Act.put, List.setIfInBounds_toArray, List.set_cons_zero, List.set_cons_succ]))
            refine scall rfl rfl (fun K hK => ?_)
            go_simp
            refine (print_any x _ (by omega) ox.n1 ox.n2).mono ?_; rintro e w16 ⟨rfl, b6⟩
            go_wp2_with fail
            refine hK.out _ _ (by exact b6) ?_
            clear hK K
            try simp only [Act.put, List.setIfInBounds_toArray, List.set_cons_zero, List.set_cons_succ]
            replace q := fun (W : World) (hW : Grow w16 W) => q W (Grow.trans (b6) hW)
            have B6 := bthen B5 b6
            repeat (first | (refine sreadx rfl rfl ?_; apply Exists.intro; apply And.intro; (· (intro W hW; first | (go_simp; done) | (go_simp; with_reducible rfl) | (go_simp; rw [if_neg (by omega)]; done) | (go_simp; rw [if_neg (by omega)]; with_reducible rfl))); simp only [Act.put, List.setIfInBounds_toArray, List.set_cons_zero, List.set_cons_succ]) | (refine sskip rfl rfl ?_; simp only [Act.put, List.setIfInBounds_toArray, List.set_cons_zero, List.set_cons_succ]))
            refine scall rfl rfl (fun K hK => ?_)
            go_simp
            refine (lives_any _).mono ?_; rintro e w17 ⟨rfl, b7⟩
            go_wp2_with fail
            refine hK.out _ _ (by exact b7) ?_
            clear hK K
            try simp only [Act.put, List.setIfInBounds_toArray, List.set_cons_zero, List.set_cons_succ]
            repeat (first | (refine sreadx rfl rfl ?_; apply Exists.intro; apply And.intro; (· (intro W hW; first | (go_simp; done) | (go_simp; with_reducible rfl) | (go_simp; rw [if_neg (by omega)]; done) | (go_simp; rw [if_neg (by omega)]; with_reducible rfl))); simp only [Act.put, List.setIfInBounds_toArray, List.set_cons_zero, List.set_cons_succ]) | (refine sskip rfl rfl ?_; simp only [Act.put, List.setIfInBounds_toArray, List.set_cons_zero, List.set_cons_succ]))
            refine sdone ?_
            go_wp2_with fail
            go_ret
            exact ⟨rfl, (XB.out.next (bthen B6 b7)).2.2⟩
          · have qe := fun w => eql_no en w
            refine wp_region_sched [(0, true), (3, true), (7, true), (8, true), (9, true), (1, false), (2, true), (4, false), (5, true), (6, true), (10, true), (11, true), (12, true), (14, true), (17, true), (18, true), (19, true), (13, false), (15, false), (16, true), (20, true), (21, true), (22, true), (23, false), (24, true), (25, true)] (by kernel_rfl) (by kernel_rfl) (fun _ _ d _ _ h => by cases d <;> exact h) ?_
            refine sbelow (w0 := wB) ((Below.refl _ _).drew) (fun B0 => ?_)
            refine swith (fun W hW => ((XB.out.next (bthen B0 hW.out)).cells)) (fun q => ?_)
            repeat (first | (refine sreadx rfl rfl ?_; apply Exists.intro; apply And.intro; (· (intro W hW; first | (go_simp; done) | (go_simp; with_reducible rfl) | (go_simp; rw [if_neg (by omega)]; done) | (go_simp; rw [if_neg (by omega)]; with_reducible rfl))); simp only [Act.put, List.setIfInBounds_toArray, List.set_cons_zero, List.set_cons_succ]) | (refine sskip rfl rfl ?_; simp only [Act.put, List.setIfInBounds_toArray, List.set_cons_zero, List.set_cons_succ]))
            refine scall rfl rfl (fun K hK => ?_)
            go_simp
            refine (put_any none 0 0 [] x _ Rd.nil_ (by omega) (fun _ => rfl) (by omega) ox.n1 ox.n2).mono ?_; rintro e w13 ⟨A3, n3, k3, rfl, o3, b3⟩
            go_wp2_with fail
            refine hK.out _ _ (by exact b3) ?_
            clear hK K
            try simp only [Act.put, List.setIfInBounds_toArray, List.set_cons_zero, List.set_cons_succ]
            replace q := fun (W : World) (hW : Grow w13 W) => q W (Grow.trans (b3) hW)
            have B3 := bthen B0 b3
            rw [List.nil_append] at o3
            refine swith (fun W hW => (strq (c := k3) ((Rd.of_own o3).next hW.out))) (fun q3 => ?_)
            repeat (first | (refine sreadx rfl rfl ?_; apply Exists.intro; apply And.intro; (· (intro W hW; first | (go_simp; done) | (go_simp; with_reducible rfl) | (go_simp; rw [if_neg (by omega)]; done) | (go_simp; rw [if_neg (by omega)]; with_reducible rfl))); simp only [Act.put, List.setIfInBounds_toArray, List.set_cons_zero, List.set_cons_succ]) | (refine sskip rfl rfl ?_; simp only [Act.put, List.setIfInBounds_toArray, List.set_cons_zero, List.set_cons_succ]))
            refine scall rfl rfl (fun K hK => ?_)
            go_simp
            refine (put_any none 0 0 [] y _ Rd.nil_ (by omega) (fun _ => rfl) (by omega) oy.n1 oy.n2).mono ?_; rintro e w14 ⟨A4, n4, k4, rfl, o4, b4⟩
            go_wp2_with fail
            refine hK.out _ _ (by exact b4) ?_
            clear hK K
            try simp only [Act.put, List.setIfInBounds_toArray, List.set_cons_zero, List.set_cons_succ]
            replace q := fun (W : World) (hW : Grow w14 W) => q W (Grow.trans (b4) hW)
            replace q3 := fun (W : World) (hW : Grow w14 W) => q3 W (Grow.trans (b4) hW)
            have B4 := bthen B3 b4
            rw [List.nil_append] at o4
            refine swith (fun W hW => (strq (c := k4) ((Rd.of_own o4).next hW.out))) (fun q4 => ?_)
            repeat (first | (refine sreadx rfl rfl ?_; apply Exists.intro; apply And.intro; (· (intro W hW; first | (go_simp; done) | (go_simp; with_reducible rfl) | (go_simp; rw [if_neg (by omega)]; done) | (go_simp; rw [if_neg (by omega)]; with_reducible rfl))); simp only [Act.put, List.setIfInBounds_toArray, List.set_cons_zero, List.set_cons_succ]) | (refine sskip rfl rfl ?_; simp only [Act.put, List.setIfInBounds_toArray, List.set_cons_zero, List.set_cons_succ]))
            refine scall rfl rfl (fun K hK => ?_)
            go_simp
            refine (print_any x _ (by omega) ox.n1 ox.n2).mono ?_; rintro e w15 ⟨rfl, b5⟩
            go_wp2_with fail
            refine hK.out _ _ (by exact b5) ?_
            clear hK K
            try simp only [Act.put, List.setIfInBounds_toArray, List.set_cons_zero, List.set_cons_succ]
            replace q := fun (W : World) (hW : Grow w15 W) => q W (Grow.trans (b5) hW)
            have B5 := bthen B4 b5
            repeat (first | (refine sreadx rfl rfl ?_; apply Exists.intro; apply And.intro; (· (intro W hW; first | (go_simp; done) | (go_simp; with_reducible rfl) | (go_simp; rw [if_neg (by omega)]; done) | (go_simp; rw [if_neg (by omega)]; with_reducible rfl))); simp only [Act.put, List.setIfInBounds_toArray, List.set_cons_zero, List.set_cons_succ]) | (refine sskip rfl rfl ?_; simp only [Act.put, List.setIfInBounds_toArray, List.set_cons_zero, List.set_cons_succ]))
            refine scall rfl rfl (fun K hK => ?_)
            go_simp
            refine (print_any y _ (by omega) oy.n1 oy.n2).mono ?_; rintro e w16 ⟨rfl, b6⟩
            go_wp2_with fail
            refine hK.out _ _ (by exact b6) ?_
            clear hK K
            try simp only [Act.put, List.setIfInBounds_toArray, List.set_cons_zero, List.set_cons_succ]
            replace q := fun (W : World) (hW : Grow w16 W) => q W (Grow.trans (b6) hW)
            have B6 := bthen B5 b6
            repeat (first | (refine sreadx rfl rfl ?_; apply Exists.intro; apply And.intro; (· (intro W hW; first | (go_simp; done) | (go_simp; with_reducible rfl) | (go_simp; rw [if_neg (by omega)]; done) | (go_simp; rw [if_neg (by omega)]; with_reducible rfl))); simp only [Act.put, List.setIfInBounds_toArray, List.set_cons_zero, List.set_cons_succ]) | (refine sskip rfl rfl ?_; simp only [Act.put, List.setIfInBounds_toArray, List.set_cons_zero, List.set_cons_succ]))
            refine scall rfl rfl (fun K hK => ?_)
            go_simp
            refine (lives_any _).mono ?_; rintro e w17 ⟨rfl, b7⟩
            go_wp2_with fail
            refine hK.out _ _ (by exact b7) ?_
            clear hK K
            try simp only [Act.put, List.setIfInBounds_toArray, List.set_cons_zero, List.set_cons_succ]
            repeat (first | (refine sreadx rfl rfl ?_; apply Exists.intro; apply And.intro; (· (intro W hW; first | (go_simp; done) | (go_simp; with_reducible rfl) | (go_simp; rw [if_neg (by omega)]; done) | (go_simp; rw [if_neg (by omega)]; with_reducible rfl))); simp only [Act.put, List.setIfInBounds_toArray, List.set_cons_zero, List.set_cons_succ]) | (refine sskip rfl rfl ?_; simp only [Act.put, List.setIfInBounds_toArray, List.set_cons_zero, List.set_cons_succ]))
            refine sdone ?_
            go_wp2_with fail
            go_ret
            exact ⟨rfl, (XB.out.next (bthen B6 b7)).2.2⟩
    · go_enter Try.func11, Try.ntmps11
      go_wp2_with fail
      refine (light_any x _ (by omega)).mono ?_; rintro e w1 ⟨rfl, b1⟩
      rw [show decide ((x.s.length : Int) ≤ 100) = true by simp; omega]
      have X1 := Lib.hid (HB.out.next b1)
      clear b1
      obtain ⟨⟨c0, c1, c2⟩, c3, c4, c5⟩ := X1.out.cells
      go_wp2_with fail
      refine (light_any y _ (by omega)).mono ?_; rintro e w2 ⟨rfl, b2⟩
      rw [show decide ((y.s.length : Int) ≤ 100) = false by simp; omega]
      clear c0 c1 c2 c3 c4 c5
      have X2 := Lib.hid (X1.out.next b2)
      clear b2
      obtain ⟨⟨c0, c1, c2⟩, c3, c4, c5⟩ := X2.out.cells
      go_wp2_with fail
      refine (lives_any _).mono ?_; rintro e wL ⟨rfl, bL⟩
      go_wp2_with fail
      go_ret
      exact ⟨rfl, (X2.out.next bL).2.2⟩
  · go_enter Try.func11, Try.ntmps11
    go_wp2_with fail
    refine (light_any x _ (by omega)).mono ?_; rintro e w1 ⟨rfl, b1⟩
    rw [show decide ((x.s.length : Int) ≤ 100) = false by simp; omega]
    have X1 := Lib.hid (HB.out.next b1)
    clear b1
    obtain ⟨⟨c0, c1, c2⟩, c3, c4, c5⟩ := X1.out.cells
    go_wp2_with fail
    refine (lives_any _).mono ?_; rintro e wL ⟨rfl, bL⟩
    go_wp2_with fail
    go_ret
    exact ⟨rfl, (X1.out.next bL).2.2⟩
end Go.Proofs.Ytpkoijlbbfffiaa.valueBack
