/- The contracts of value.Print and of the laws' lives. -/
import Derived.Test.YtpkoijlbbfffiaaValText
import Derived.Test.YtpkoijlbbfffiaaValPut
import Derived.Test.YtpkoijlbbfffiaaOctGet2
import Derived.Test.YtpkoijlbbfffiaaValFns2
import Derived.Test.YtpkoijlbbfffiaaSchedP
namespace Go.Proofs.Ytpkoijlbbfffiaa.V
open Go.RowKit O

theorem printV_no {v : Val} (h : right v = false) : printV v = [] := by rw [printV, h]; rfl
theorem printV_one {n : Int} {s : List UInt8} (h : right ⟨1, n, s⟩ = true) : printV ⟨1, n, s⟩ = decL n := by rw [printV, if_pos h]; simp
theorem printV_two {n : Int} {s : List UInt8} (h : right ⟨2, n, s⟩ = true) : printV ⟨2, n, s⟩ = if n = 1 then [116, 114, 117, 101] else [102, 97, 108, 115, 101] := by rw [printV, if_pos h]; simp
theorem printV_three {n : Int} {s : List UInt8} (h : right ⟨3, n, s⟩ = true) : printV ⟨3, n, s⟩ = quoteL s := by rw [printV, if_pos h]; simp
theorem box_nextD {w w' : World} {g : Nat} {o : Obj} (h : w.heap[g]? = some o) (b : Below w.drew.heap.size w.drew w') : w'.heap[g]? = some o := box_next (w := w.drew) h b
theorem cells3 {W : World} {g : Nat} {x y z : Value} {T : TypeId} (h : W.heap[g]? = some (.cells #[x, y, z] T (0, 0))) : W.cell? ⟨g, 0, none⟩ = some x ∧ W.cell? ⟨g, 1, none⟩ = some y ∧ W.cell? ⟨g, 2, none⟩ = some z :=
  ⟨by rw [Lib.cell_of_heap h]; rfl, by rw [Lib.cell_of_heap h]; rfl, by rw [Lib.cell_of_heap h]; rfl⟩
set_option maxRecDepth 100000 in
set_option maxHeartbeats 1000000 in
theorem print_any (v : Val) (w : World) (hs : v.s.length ≤ 1000000000) (h1 : -9223372036854775808 ≤ v.n) (h2 : v.n ≤ 9223372036854775807) :
    Calls Try.prog 37 #[vv v] w fun e w' => e = .returned (.string ⟨(printV v).toArray⟩) ∧ Below w.heap.size w w' := by
  obtain ⟨k, m, s⟩ := v
  have hs' : (⟨k, m, s⟩ : Val).s.length ≤ 1000000000000 := by omega
  have hs2 : s.length ≤ 1000000000 := hs
  clear hs
  have h1' : -9223372036854775808 ≤ m := h1
  have h2' : m ≤ 9223372036854775807 := h2
  clear h1 h2
  simp only [vv]
  cases hr : right ⟨k, m, s⟩
  · have hp := printV_no hr
    have Hhp := Lib.hid hp; clear hp
    go_enter Try.func37, Try.ntmps37
    go_wp2_with fail
    refine (right_any ⟨k, m, s⟩ _ hs').mono ?_; rintro e w1 ⟨rfl, b1⟩
    have B1 : Below w.heap.size w w1 := bthen (by repeat (first | exact Below.refl _ _ | refine Below.alloc ?_ (by simp <;> omega) _)) b1
    go_wp2_with fail
    go_ret
    exact ⟨by rw [Hhp.out]; rfl, B1⟩
  · rcases (show k = 1 ∨ (k = 2 ∧ s = [] ∧ (m = 0 ∨ m = 1)) ∨ (k = 3 ∧ m = 0) by rcases right_cases hr with ⟨e, _⟩ | ⟨e, e2, e3⟩ | ⟨e, e2, _⟩ <;> simp_all) with rfl | ⟨rfl, rfl, hm⟩ | ⟨rfl, rfl⟩
    · have hp := printV_one hr
      have Hhp := Lib.hid hp; clear hp
      go_enter Try.func37, Try.ntmps37
      go_wp2_with fail
      refine (right_any ⟨1, m, s⟩ _ hs').mono ?_; rintro e w1 ⟨rfl, b1⟩
      have B1 : Below w.heap.size w w1 := bthen (by repeat (first | exact Below.refl _ _ | refine Below.alloc ?_ (by simp <;> omega) _)) b1
      have x : w1.heap[w.heap.size]? = some (.cells #[.int .i64 1, .int .i64 m, .string ⟨s.toArray⟩] 23 (0, 0)) := box_next (by repeat (first | (refine alloc_at ?_; simp; done) | refine alloc_old' ?_)) b1
      have xc0 : w1.cell? ⟨w.heap.size, 0, none⟩ = some (.int .i64 1) := by rw [Lib.cell_of_heap x]; rfl
      have xf0 : w1.frozen? ⟨w.heap.size, 0, none⟩ = false := Lib.frozen_of_heap x 0
      have xc1 : w1.cell? ⟨w.heap.size, 1, none⟩ = some (.int .i64 m) := by rw [Lib.cell_of_heap x]; rfl
      have xf1 : w1.frozen? ⟨w.heap.size, 1, none⟩ = false := Lib.frozen_of_heap x 1
      have xc2 : w1.cell? ⟨w.heap.size, 2, none⟩ = some (.string ⟨s.toArray⟩) := by rw [Lib.cell_of_heap x]; rfl
      have xf2 : w1.frozen? ⟨w.heap.size, 2, none⟩ = false := Lib.frozen_of_heap x 2
      go_wp2_with fail
      refine (dec_any m _ h1' h2').mono ?_; rintro e w2 ⟨rfl, b2⟩
      go_wp2_with fail
      go_ret
      exact ⟨by rw [Hhp.out]; rfl, bthen B1 b2⟩
    · have hp := printV_two hr
      have Hhp := Lib.hid hp; clear hp
      rcases hm with rfl | rfl
      · go_enter Try.func37, Try.ntmps37
        go_wp2_with fail
        refine (right_any ⟨2, 0, []⟩ _ hs').mono ?_; rintro e w1 ⟨rfl, b1⟩
        have B1 : Below w.heap.size w w1 := bthen (by repeat (first | exact Below.refl _ _ | refine Below.alloc ?_ (by simp <;> omega) _)) b1
        have x : w1.heap[w.heap.size]? = some (.cells #[.int .i64 2, .int .i64 0, .string ⟨#[]⟩] 23 (0, 0)) := box_next (by repeat (first | (refine alloc_at ?_; simp; done) | refine alloc_old' ?_)) b1
        have xc0 : w1.cell? ⟨w.heap.size, 0, none⟩ = some (.int .i64 2) := by rw [Lib.cell_of_heap x]; rfl
        have xf0 : w1.frozen? ⟨w.heap.size, 0, none⟩ = false := Lib.frozen_of_heap x 0
        have xc1 : w1.cell? ⟨w.heap.size, 1, none⟩ = some (.int .i64 0) := by rw [Lib.cell_of_heap x]; rfl
        have xf1 : w1.frozen? ⟨w.heap.size, 1, none⟩ = false := Lib.frozen_of_heap x 1
        have xc2 : w1.cell? ⟨w.heap.size, 2, none⟩ = some (.string ⟨#[]⟩) := by rw [Lib.cell_of_heap x]; rfl
        have xf2 : w1.frozen? ⟨w.heap.size, 2, none⟩ = false := Lib.frozen_of_heap x 2
        go_wp2_with fail
        refine wp_region_sched [(0, true), (1, false), (2, true), (3, true)] (by kernel_rfl) (by kernel_rfl) (fun _ _ d _ _ h => by cases d <;> exact h) ?_
        refine swith (fun W hW => (cells3 (box_next (w := w1.drew) x hW.out))) (fun q => ?_)
        repeat (first | (refine sreadx rfl rfl ?_; apply Exists.intro; apply And.intro; (· (intro W hW; first | (go_simp; done) | (go_simp; with_reducible rfl) | (go_simp; rw [if_neg (by omega)]; done) | (go_simp; rw [if_neg (by omega)]; with_reducible rfl))); simp only [Act.put, List.setIfInBounds_toArray, List.set_cons_zero, List.set_cons_succ]) | (refine sskip rfl rfl ?_; simp only [Act.put, List.setIfInBounds_toArray, List.set_cons_zero, List.set_cons_succ]))
        refine scall rfl rfl (fun K hK => ?_)
        go_simp
        refine (bool_any true _).mono ?_; rintro e w2 ⟨rfl, b2⟩
        go_wp2_with fail
        refine hK.out _ _ (by exact b2) ?_
        clear hK K
        try simp only [Act.put, List.setIfInBounds_toArray, List.set_cons_zero, List.set_cons_succ]
        simp only [vv, if_true]
        repeat (first | (refine sreadx rfl rfl ?_; apply Exists.intro; apply And.intro; (· (intro W hW; first | (go_simp; done) | (go_simp; with_reducible rfl) | (go_simp; rw [if_neg (by omega)]; done) | (go_simp; rw [if_neg (by omega)]; with_reducible rfl))); simp only [Act.put, List.setIfInBounds_toArray, List.set_cons_zero, List.set_cons_succ]) | (refine sskip rfl rfl ?_; simp only [Act.put, List.setIfInBounds_toArray, List.set_cons_zero, List.set_cons_succ]))
        refine sdone ?_
        clear q
        have B2 := bthen (B1.drew) b2
        have x' : w2.heap[w.heap.size]? = some (.cells #[.int .i64 2, .int .i64 0, .string ⟨#[]⟩] 23 (0, 0)) := box_nextD x b2
        have x'c0 : w2.cell? ⟨w.heap.size, 0, none⟩ = some (.int .i64 2) := by rw [Lib.cell_of_heap x']; rfl
        have x'f0 : w2.frozen? ⟨w.heap.size, 0, none⟩ = false := Lib.frozen_of_heap x' 0
        have x'c1 : w2.cell? ⟨w.heap.size, 1, none⟩ = some (.int .i64 0) := by rw [Lib.cell_of_heap x']; rfl
        have x'f1 : w2.frozen? ⟨w.heap.size, 1, none⟩ = false := Lib.frozen_of_heap x' 1
        have x'c2 : w2.cell? ⟨w.heap.size, 2, none⟩ = some (.string ⟨#[]⟩) := by rw [Lib.cell_of_heap x']; rfl
        have x'f2 : w2.frozen? ⟨w.heap.size, 2, none⟩ = false := Lib.frozen_of_heap x' 2
        clear xc0 xc1 xc2 xf0 xf1 xf2
        go_wp2_with fail
        refine wp_region_sched [(0, true), (1, false), (2, true), (3, true)] (by kernel_rfl) (by kernel_rfl) (fun _ _ d _ _ h => by cases d <;> exact h) ?_
        refine swith (fun W hW => (cells3 (box_next (w := w2.drew) x' hW.out))) (fun q => ?_)
        repeat (first | (refine sreadx rfl rfl ?_; apply Exists.intro; apply And.intro; (· (intro W hW; first | (go_simp; done) | (go_simp; with_reducible rfl) | (go_simp; rw [if_neg (by omega)]; done) | (go_simp; rw [if_neg (by omega)]; with_reducible rfl))); simp only [Act.put, List.setIfInBounds_toArray, List.set_cons_zero, List.set_cons_succ]) | (refine sskip rfl rfl ?_; simp only [Act.put, List.setIfInBounds_toArray, List.set_cons_zero, List.set_cons_succ]))
        refine scall rfl rfl (fun K hK => ?_)
        go_simp
        refine (bool_any false _).mono ?_; rintro e w3 ⟨rfl, b3⟩
        go_wp2_with fail
        refine hK.out _ _ (by exact b3) ?_
        clear hK K
        try simp only [Act.put, List.setIfInBounds_toArray, List.set_cons_zero, List.set_cons_succ]
        simp only [vv, if_true, Bool.false_eq_true, if_false]
        repeat (first | (refine sreadx rfl rfl ?_; apply Exists.intro; apply And.intro; (· (intro W hW; first | (go_simp; done) | (go_simp; with_reducible rfl) | (go_simp; rw [if_neg (by omega)]; done) | (go_simp; rw [if_neg (by omega)]; with_reducible rfl))); simp only [Act.put, List.setIfInBounds_toArray, List.set_cons_zero, List.set_cons_succ]) | (refine sskip rfl rfl ?_; simp only [Act.put, List.setIfInBounds_toArray, List.set_cons_zero, List.set_cons_succ]))
        refine sdone ?_
        clear q
        go_wp2_with fail
        go_ret
        exact ⟨by rw [Hhp.out]; rfl, bthen (B2.drew) b3⟩
      · go_enter Try.func37, Try.ntmps37
        go_wp2_with fail
        refine (right_any ⟨2, 1, []⟩ _ hs').mono ?_; rintro e w1 ⟨rfl, b1⟩
        have B1 : Below w.heap.size w w1 := bthen (by repeat (first | exact Below.refl _ _ | refine Below.alloc ?_ (by simp <;> omega) _)) b1
        have x : w1.heap[w.heap.size]? = some (.cells #[.int .i64 2, .int .i64 1, .string ⟨#[]⟩] 23 (0, 0)) := box_next (by repeat (first | (refine alloc_at ?_; simp; done) | refine alloc_old' ?_)) b1
        have xc0 : w1.cell? ⟨w.heap.size, 0, none⟩ = some (.int .i64 2) := by rw [Lib.cell_of_heap x]; rfl
        have xf0 : w1.frozen? ⟨w.heap.size, 0, none⟩ = false := Lib.frozen_of_heap x 0
        have xc1 : w1.cell? ⟨w.heap.size, 1, none⟩ = some (.int .i64 1) := by rw [Lib.cell_of_heap x]; rfl
        have xf1 : w1.frozen? ⟨w.heap.size, 1, none⟩ = false := Lib.frozen_of_heap x 1
        have xc2 : w1.cell? ⟨w.heap.size, 2, none⟩ = some (.string ⟨#[]⟩) := by rw [Lib.cell_of_heap x]; rfl
        have xf2 : w1.frozen? ⟨w.heap.size, 2, none⟩ = false := Lib.frozen_of_heap x 2
        go_wp2_with fail
        refine wp_region_sched [(0, true), (1, false), (2, true), (3, true)] (by kernel_rfl) (by kernel_rfl) (fun _ _ d _ _ h => by cases d <;> exact h) ?_
        refine swith (fun W hW => (cells3 (box_next (w := w1.drew) x hW.out))) (fun q => ?_)
        repeat (first | (refine sreadx rfl rfl ?_; apply Exists.intro; apply And.intro; (· (intro W hW; first | (go_simp; done) | (go_simp; with_reducible rfl) | (go_simp; rw [if_neg (by omega)]; done) | (go_simp; rw [if_neg (by omega)]; with_reducible rfl))); simp only [Act.put, List.setIfInBounds_toArray, List.set_cons_zero, List.set_cons_succ]) | (refine sskip rfl rfl ?_; simp only [Act.put, List.setIfInBounds_toArray, List.set_cons_zero, List.set_cons_succ]))
        refine scall rfl rfl (fun K hK => ?_)
        go_simp
        refine (bool_any true _).mono ?_; rintro e w2 ⟨rfl, b2⟩
        go_wp2_with fail
        refine hK.out _ _ (by exact b2) ?_
        clear hK K
        try simp only [Act.put, List.setIfInBounds_toArray, List.set_cons_zero, List.set_cons_succ]
        simp only [vv, if_true, Bool.false_eq_true, if_false]
        repeat (first | (refine sreadx rfl rfl ?_; apply Exists.intro; apply And.intro; (· (intro W hW; first | (go_simp; done) | (go_simp; with_reducible rfl) | (go_simp; rw [if_neg (by omega)]; done) | (go_simp; rw [if_neg (by omega)]; with_reducible rfl))); simp only [Act.put, List.setIfInBounds_toArray, List.set_cons_zero, List.set_cons_succ]) | (refine sskip rfl rfl ?_; simp only [Act.put, List.setIfInBounds_toArray, List.set_cons_zero, List.set_cons_succ]))
        refine sdone ?_
        clear q
        go_wp2_with fail
        go_ret
        exact ⟨by rw [Hhp.out]; rfl, bthen (B1.drew) b2⟩
    · have hp := printV_three hr
      have Hhp := Lib.hid hp; clear hp
      go_enter Try.func37, Try.ntmps37
      go_wp2_with fail
      refine (right_any ⟨3, 0, s⟩ _ hs').mono ?_; rintro e w1 ⟨rfl, b1⟩
      have B1 : Below w.heap.size w w1 := bthen (by repeat (first | exact Below.refl _ _ | refine Below.alloc ?_ (by simp <;> omega) _)) b1
      have x : w1.heap[w.heap.size]? = some (.cells #[.int .i64 3, .int .i64 0, .string ⟨s.toArray⟩] 23 (0, 0)) := box_next (by repeat (first | (refine alloc_at ?_; simp; done) | refine alloc_old' ?_)) b1
      have xc0 : w1.cell? ⟨w.heap.size, 0, none⟩ = some (.int .i64 3) := by rw [Lib.cell_of_heap x]; rfl
      have xf0 : w1.frozen? ⟨w.heap.size, 0, none⟩ = false := Lib.frozen_of_heap x 0
      have xc1 : w1.cell? ⟨w.heap.size, 1, none⟩ = some (.int .i64 0) := by rw [Lib.cell_of_heap x]; rfl
      have xf1 : w1.frozen? ⟨w.heap.size, 1, none⟩ = false := Lib.frozen_of_heap x 1
      have xc2 : w1.cell? ⟨w.heap.size, 2, none⟩ = some (.string ⟨s.toArray⟩) := by rw [Lib.cell_of_heap x]; rfl
      have xf2 : w1.frozen? ⟨w.heap.size, 2, none⟩ = false := Lib.frozen_of_heap x 2
      go_wp2_with fail
      refine wp_region_sched [(0, true), (1, false), (2, true), (3, true)] (by kernel_rfl) (by kernel_rfl) (fun _ _ d _ _ h => by cases d <;> exact h) ?_
      refine swith (fun W hW => (cells3 (box_next (w := w1.drew) x hW.out))) (fun q => ?_)
      repeat (first | (refine sreadx rfl rfl ?_; apply Exists.intro; apply And.intro; (· (intro W hW; first | (go_simp; done) | (go_simp; with_reducible rfl) | (go_simp; rw [if_neg (by omega)]; done) | (go_simp; rw [if_neg (by omega)]; with_reducible rfl))); simp only [Act.put, List.setIfInBounds_toArray, List.set_cons_zero, List.set_cons_succ]) | (refine sskip rfl rfl ?_; simp only [Act.put, List.setIfInBounds_toArray, List.set_cons_zero, List.set_cons_succ]))
      refine scall rfl rfl (fun K hK => ?_)
      go_simp
      refine (bool_any true _).mono ?_; rintro e w2 ⟨rfl, b2⟩
      go_wp2_with fail
      refine hK.out _ _ (by exact b2) ?_
      clear hK K
      try simp only [Act.put, List.setIfInBounds_toArray, List.set_cons_zero, List.set_cons_succ]
      simp only [vv, if_true, Bool.false_eq_true, if_false]
      repeat (first | (refine sreadx rfl rfl ?_; apply Exists.intro; apply And.intro; (· (intro W hW; first | (go_simp; done) | (go_simp; with_reducible rfl) | (go_simp; rw [if_neg (by omega)]; done) | (go_simp; rw [if_neg (by omega)]; with_reducible rfl))); simp only [Act.put, List.setIfInBounds_toArray, List.set_cons_zero, List.set_cons_succ]) | (refine sskip rfl rfl ?_; simp only [Act.put, List.setIfInBounds_toArray, List.set_cons_zero, List.set_cons_succ]))
      refine sdone ?_
      clear q
      have B2 := bthen (B1.drew) b2
      have x' : w2.heap[w.heap.size]? = some (.cells #[.int .i64 3, .int .i64 0, .string ⟨s.toArray⟩] 23 (0, 0)) := box_nextD x b2
      have x'c0 : w2.cell? ⟨w.heap.size, 0, none⟩ = some (.int .i64 3) := by rw [Lib.cell_of_heap x']; rfl
      have x'f0 : w2.frozen? ⟨w.heap.size, 0, none⟩ = false := Lib.frozen_of_heap x' 0
      have x'c1 : w2.cell? ⟨w.heap.size, 1, none⟩ = some (.int .i64 0) := by rw [Lib.cell_of_heap x']; rfl
      have x'f1 : w2.frozen? ⟨w.heap.size, 1, none⟩ = false := Lib.frozen_of_heap x' 1
      have x'c2 : w2.cell? ⟨w.heap.size, 2, none⟩ = some (.string ⟨s.toArray⟩) := by rw [Lib.cell_of_heap x']; rfl
      have x'f2 : w2.frozen? ⟨w.heap.size, 2, none⟩ = false := Lib.frozen_of_heap x' 2
      clear xc0 xc1 xc2 xf0 xf1 xf2
      go_wp2_with fail
      refine wp_region_sched [(0, true), (1, false), (2, true), (3, true)] (by kernel_rfl) (by kernel_rfl) (fun _ _ d _ _ h => by cases d <;> exact h) ?_
      refine swith (fun W hW => (cells3 (box_next (w := w2.drew) x' hW.out))) (fun q => ?_)
      repeat (first | (refine sreadx rfl rfl ?_; apply Exists.intro; apply And.intro; (· (intro W hW; first | (go_simp; done) | (go_simp; with_reducible rfl) | (go_simp; rw [if_neg (by omega)]; done) | (go_simp; rw [if_neg (by omega)]; with_reducible rfl))); simp only [Act.put, List.setIfInBounds_toArray, List.set_cons_zero, List.set_cons_succ]) | (refine sskip rfl rfl ?_; simp only [Act.put, List.setIfInBounds_toArray, List.set_cons_zero, List.set_cons_succ]))
      refine scall rfl rfl (fun K hK => ?_)
      go_simp
      refine (bool_any false _).mono ?_; rintro e w3 ⟨rfl, b3⟩
      go_wp2_with fail
      refine hK.out _ _ (by exact b3) ?_
      clear hK K
      try simp only [Act.put, List.setIfInBounds_toArray, List.set_cons_zero, List.set_cons_succ]
      simp only [vv, if_true, Bool.false_eq_true, if_false]
      repeat (first | (refine sreadx rfl rfl ?_; apply Exists.intro; apply And.intro; (· (intro W hW; first | (go_simp; done) | (go_simp; with_reducible rfl) | (go_simp; rw [if_neg (by omega)]; done) | (go_simp; rw [if_neg (by omega)]; with_reducible rfl))); simp only [Act.put, List.setIfInBounds_toArray, List.set_cons_zero, List.set_cons_succ]) | (refine sskip rfl rfl ?_; simp only [Act.put, List.setIfInBounds_toArray, List.set_cons_zero, List.set_cons_succ]))
      refine sdone ?_
      clear q
      have B3 := bthen (B2.drew) b3
      have x'' : w3.heap[w.heap.size]? = some (.cells #[.int .i64 3, .int .i64 0, .string ⟨s.toArray⟩] 23 (0, 0)) := box_nextD x' b3
      have x''c0 : w3.cell? ⟨w.heap.size, 0, none⟩ = some (.int .i64 3) := by rw [Lib.cell_of_heap x'']; rfl
      have x''f0 : w3.frozen? ⟨w.heap.size, 0, none⟩ = false := Lib.frozen_of_heap x'' 0
      have x''c1 : w3.cell? ⟨w.heap.size, 1, none⟩ = some (.int .i64 0) := by rw [Lib.cell_of_heap x'']; rfl
      have x''f1 : w3.frozen? ⟨w.heap.size, 1, none⟩ = false := Lib.frozen_of_heap x'' 1
      have x''c2 : w3.cell? ⟨w.heap.size, 2, none⟩ = some (.string ⟨s.toArray⟩) := by rw [Lib.cell_of_heap x'']; rfl
      have x''f2 : w3.frozen? ⟨w.heap.size, 2, none⟩ = false := Lib.frozen_of_heap x'' 2
      clear x'c0 x'c1 x'c2
      go_wp2_with fail
      refine (quoted_any s _ hs2).mono ?_; rintro e w4 ⟨rfl, b4⟩
      go_wp2_with fail
      go_ret
      exact ⟨by rw [Hhp.out]; rfl, bthen B3 b4⟩
theorem dec_m7 : decL (-7) = [45, 55] := by simp [decL, digN]
theorem lives_any (w : World) : Calls Try.prog 16 #[] w fun e w' => e = .returned (.bool true) ∧ Below w.heap.size w w' := by
  have p1 : printV ⟨3, 0, [97, 34, 98]⟩ = [34, 97, 92, 34, 98, 34] := by decide +kernel
  have p2 : putV ⟨2, 1, []⟩ = [2, 1] := by decide +kernel
  have p3 : printV ⟨1, -7, []⟩ = [45, 55] := by rw [printV_one (by decide +kernel), dec_m7]
  have Hp1 := Lib.hid p1; clear p1
  have Hp2 := Lib.hid p2; clear p2
  have Hp3 := Lib.hid p3; clear p3
  go_enter Try.func16, Try.ntmps16
  go_wp2_with fail
  refine (text_any [97, 34, 98] _).mono ?_; rintro e w1 ⟨rfl, b1⟩
  go_wp2_with fail
  refine (print_any ⟨3, 0, [97, 34, 98]⟩ _ (by simp) (by decide) (by decide)).mono ?_; rintro e w2 ⟨rfl, b2⟩
  rw [Hp1.out]
  go_wp2_with fail
  refine (bool_any true _).mono ?_; rintro e w3 ⟨rfl, b3⟩
  go_wp2_with fail
  refine (put_any none 0 0 [] ⟨2, 1, []⟩ _ Rd.nil_ (by omega) (fun _ => rfl) (by simp) (by decide) (by decide)).mono ?_; rintro e w4 ⟨A4, n4, c4, rfl, o4, b4⟩
  rw [Hp2.out] at o4
  have q4 := strq (c := c4) (Rd.of_own o4)
  go_wp2_with fail
  refine (int_any (-7) _).mono ?_; rintro e w5 ⟨rfl, b5⟩
  go_wp2_with fail
  refine (print_any ⟨1, -7, []⟩ _ (by simp) (by decide) (by decide)).mono ?_; rintro e w6 ⟨rfl, b6⟩
  rw [Hp3.out]
  go_wp2_with fail
  go_ret
  exact ⟨rfl, bthen (bthen (bthen (bthen (bthen b1 b2) b3) b4) b5) b6⟩
end Go.Proofs.Ytpkoijlbbfffiaa.V
