/- Texts of the proof, joined: ValPrint, SchFns, SynFns, SynFns2, LexPrint. -/
import Derived.Test.YtnbmpfdffoidaaaGreatDoorBk01
import Derived.Test.YtnbmpfdffoidaaaGreatDoorBk05
import Derived.Test.YtnbmpfdffoidaaaGreatDoorBk07
import Derived.Outline
set_option linter.unusedVariables false
set_option linter.unusedSimpArgs false
set_option maxHeartbeats 8000000
set_option maxRecDepth 100000
namespace Go.Proofs.YtnbmpfdffoidaaaGreatDoor.V
open Go.RowKit O
theorem printV_no {v : Val} (h : right v = false) : printV v = [] := by rw [printV, h]; rfl
theorem printV_one {n : Int} {s : List UInt8} (h : right ⟨1, n, s⟩ = true) : printV ⟨1, n, s⟩ = decL n := by rw [printV, if_pos h]; simp
theorem printV_two {n : Int} {s : List UInt8} (h : right ⟨2, n, s⟩ = true) : printV ⟨2, n, s⟩ = if n = 1 then [116, 114, 117, 101] else [102, 97, 108, 115, 101] := by rw [printV, if_pos h]; simp
theorem printV_three {n : Int} {s : List UInt8} (h : right ⟨3, n, s⟩ = true) : printV ⟨3, n, s⟩ = quoteL s := by rw [printV, if_pos h]; simp
theorem box_nextD {w w' : World} {g : Nat} {o : Obj} (h : w.heap[g]? = some o) (b : Below w.drew.heap.size w.drew w') : w'.heap[g]? = some o := box_next (w := w.drew) h b
theorem cells3 {W : World} {g : Nat} {x y z : Value} {T : TypeId} (h : W.heap[g]? = some (.cells #[x, y, z] T (0, 0))) : W.cell? ⟨g, 0, none⟩ = some x ∧ W.cell? ⟨g, 1, none⟩ = some y ∧ W.cell? ⟨g, 2, none⟩ = some z :=
 ⟨by rw [Lib.cell_of_heap h]; rfl, by rw [Lib.cell_of_heap h]; rfl, by rw [Lib.cell_of_heap h]; rfl⟩
theorem print_any (v : Val) (w : World) (hs : v.s.length ≤ 1000000000) (h1 : -9223372036854775808 ≤ v.n) (h2 : v.n ≤ 9223372036854775807) :
  Calls Tryz.prog 51 #[vv v] w fun e w' => e = .returned (.string ⟨(printV v).toArray⟩) ∧ Below w.heap.size w w' := by
 obtain ⟨k, m, s⟩ := v
 have hs' : (⟨k, m, s⟩ : Val).s.length ≤ 1000000000000 := by omega
 have hs2 : s.length ≤ 1000000000 := hs
 clear hs
 have h1' : -9223372036854775808 ≤ m := h1
 have h2' : m ≤ 9223372036854775807 := h2
 clear h1 h2
 simp only [vv]
 cases hr : right ⟨k, m, s⟩
 ·have hp := printV_no hr
  have Hhp := Lib.hid hp; clear hp
  go_enter Tryz.func51, Tryz.ntmps51
  go_wp2_with fail
  refine (right_any ⟨k, m, s⟩ _ hs').mono ?_; rintro e w1 ⟨rfl, b1⟩
  have B1 : Below w.heap.size w w1 := bthen (by repeat (first | exact Below.refl _ _ | refine Below.alloc ?_ (by simp <;> omega) _)) b1
  go_wp2_with fail
  go_ret
  exact ⟨by rw [Hhp.out]; rfl, B1⟩
 ·rcases (show k = 1 ∨ (k = 2 ∧ s = [] ∧ (m = 0 ∨ m = 1)) ∨ (k = 3 ∧ m = 0) by rcases right_cases hr with ⟨e, _⟩ | ⟨e, e2, e3⟩ | ⟨e, e2, _⟩ <;> simp_all) with rfl | ⟨rfl, rfl, hm⟩ | ⟨rfl, rfl⟩
  ·have hp := printV_one hr
   have Hhp := Lib.hid hp; clear hp
   go_enter Tryz.func51, Tryz.ntmps51
   go_wp2_with fail
   refine (right_any ⟨1, m, s⟩ _ hs').mono ?_; rintro e w1 ⟨rfl, b1⟩
   have B1 : Below w.heap.size w w1 := bthen (by repeat (first | exact Below.refl _ _ | refine Below.alloc ?_ (by simp <;> omega) _)) b1
   have x : w1.heap[w.heap.size]? = some (.cells #[.int .i64 1, .int .i64 m, .string ⟨s.toArray⟩] 57 (0, 0)) := box_next (by repeat (first | (refine alloc_at ?_; simp; done) | refine alloc_old' ?_)) b1
   have xc0 : w1.cell? ⟨w.heap.size, 0, none⟩ = some (.int .i64 1) := by rw [Lib.cell_of_heap x]; rfl
   have xf0 : w1.frozen? ⟨w.heap.size, 0, none⟩ = false := Lib.frozen_of_heap x 0
   have xc1 : w1.cell? ⟨w.heap.size, 1, none⟩ = some (.int .i64 m) := by rw [Lib.cell_of_heap x]; rfl
   have xf1 : w1.frozen? ⟨w.heap.size, 1, none⟩ = false := Lib.frozen_of_heap x 1
   have xc2 : w1.cell? ⟨w.heap.size, 2, none⟩ = some (.string ⟨s.toArray⟩) := by rw [Lib.cell_of_heap x]; rfl
   have xf2 : w1.frozen? ⟨w.heap.size, 2, none⟩ = false := Lib.frozen_of_heap x 2
   go_wp2_with fail
   refine (dec_any m _ h1' h2').mono ?_; rintro e w2 ⟨rfl, b2⟩
   go_wp2_with fail
   go_ret
   exact ⟨by rw [Hhp.out]; rfl, bthen B1 b2⟩
  ·have hp := printV_two hr
   have Hhp := Lib.hid hp; clear hp
   rcases hm with rfl | rfl
   ·go_enter Tryz.func51, Tryz.ntmps51
    go_wp2_with fail
    refine (right_any ⟨2, 0, []⟩ _ hs').mono ?_; rintro e w1 ⟨rfl, b1⟩
    have B1 : Below w.heap.size w w1 := bthen (by repeat (first | exact Below.refl _ _ | refine Below.alloc ?_ (by simp <;> omega) _)) b1
    have x : w1.heap[w.heap.size]? = some (.cells #[.int .i64 2, .int .i64 0, .string ⟨#[]⟩] 57 (0, 0)) := box_next (by repeat (first | (refine alloc_at ?_; simp; done) | refine alloc_old' ?_)) b1
    have xc0 : w1.cell? ⟨w.heap.size, 0, none⟩ = some (.int .i64 2) := by rw [Lib.cell_of_heap x]; rfl
    have xf0 : w1.frozen? ⟨w.heap.size, 0, none⟩ = false := Lib.frozen_of_heap x 0
    have xc1 : w1.cell? ⟨w.heap.size, 1, none⟩ = some (.int .i64 0) := by rw [Lib.cell_of_heap x]; rfl
    have xf1 : w1.frozen? ⟨w.heap.size, 1, none⟩ = false := Lib.frozen_of_heap x 1
    have xc2 : w1.cell? ⟨w.heap.size, 2, none⟩ = some (.string ⟨#[]⟩) := by rw [Lib.cell_of_heap x]; rfl
    have xf2 : w1.frozen? ⟨w.heap.size, 2, none⟩ = false := Lib.frozen_of_heap x 2
    go_wp2_with fail
    refine wp_region_sched [(0, true), (1, false), (2, true), (3, true)] (by kernel_rfl) (by kernel_rfl) (fun _ _ d _ _ h => by cases d <;> exact h) ?_
    refine swith (fun W hW => (cells3 (box_next (w := w1.drew) x hW.out))) (fun q => ?_)
    repeat (first | (refine sreadx rfl rfl ?_; apply Exists.intro; apply And.intro; (· (intro W hW; go_simp; try (first | with_reducible rfl | (rw [if_neg (by omega)]; try with_reducible rfl)))); simp only [Act.put, List.setIfInBounds_toArray, List.set_cons_zero, List.set_cons_succ]) | (refine sskip rfl rfl ?_; simp only [Act.put, List.setIfInBounds_toArray, List.set_cons_zero, List.set_cons_succ]))
    refine scall rfl rfl (fun K hK => ?_)
    go_simp
    refine (bool_any true _).mono ?_; rintro e w2 ⟨rfl, b2⟩
    go_wp2_with fail
    refine hK.out _ _ (by exact b2) ?_
    clear hK K
    try simp only [Act.put, List.setIfInBounds_toArray, List.set_cons_zero, List.set_cons_succ]
    simp only [vv, if_true]
    repeat (first | (refine sreadx rfl rfl ?_; apply Exists.intro; apply And.intro; (· (intro W hW; go_simp; try (first | with_reducible rfl | (rw [if_neg (by omega)]; try with_reducible rfl)))); simp only [Act.put, List.setIfInBounds_toArray, List.set_cons_zero, List.set_cons_succ]) | (refine sskip rfl rfl ?_; simp only [Act.put, List.setIfInBounds_toArray, List.set_cons_zero, List.set_cons_succ]))
    refine sdone ?_
    clear q
    have B2 := bthen (B1.drew) b2
    have x' : w2.heap[w.heap.size]? = some (.cells #[.int .i64 2, .int .i64 0, .string ⟨#[]⟩] 57 (0, 0)) := box_nextD x b2
    have x'c0 : w2.cell? ⟨w.heap.size, 0, none⟩ = some (.int .i64 2) := by rw [Lib.cell_of_heap x']; rfl
    have x'f0 : w2.frozen? ⟨w.heap.size, 0, none⟩ = false := Lib.frozen_of_heap x' 0
    have x'c1 : w2.cell? ⟨w.heap.size, 1, none⟩ = some (.int .i64 0) := by rw [Lib.cell_of_heap x']; rfl
    have x'f1 : w2.frozen? ⟨w.heap.size, 1, none⟩ = false := Lib.frozen_of_heap x' 1
    have x'c2 : w2.cell? ⟨w.heap.size, 2, none⟩ = some (.string ⟨#[]⟩) := by rw [Lib.cell_of_heap x']; rfl
    have x'f2 : w2.frozen? ⟨w.heap.size, 2, none⟩ = false := Lib.frozen_of_heap x' 2
    clear xc0 xc1 xc2 xf0 xf1 xf2
    go_wp2_with fail
    refine wp_region_sched [(0, true), (1, false), (2, true), (3, true)] (by kernel_rfl) (by kernel_rfl) (fun _ _ d _ _ h => by cases d <;> exact h) ?_
    refine swith (fun W hW => (cells3 (box_next (w := w2.drew) x' hW.out))) (fun q => ?_)
    repeat (first | (refine sreadx rfl rfl ?_; apply Exists.intro; apply And.intro; (· (intro W hW; go_simp; try (first | with_reducible rfl | (rw [if_neg (by omega)]; try with_reducible rfl)))); simp only [Act.put, List.setIfInBounds_toArray, List.set_cons_zero, List.set_cons_succ]) | (refine sskip rfl rfl ?_; simp only [Act.put, List.setIfInBounds_toArray, List.set_cons_zero, List.set_cons_succ]))
    refine scall rfl rfl (fun K hK => ?_)
    go_simp
    refine (bool_any false _).mono ?_; rintro e w3 ⟨rfl, b3⟩
    go_wp2_with fail
    refine hK.out _ _ (by exact b3) ?_
    clear hK K
    try simp only [Act.put, List.setIfInBounds_toArray, List.set_cons_zero, List.set_cons_succ]
    simp only [vv, if_true, Bool.false_eq_true, if_false]
    repeat (first | (refine sreadx rfl rfl ?_; apply Exists.intro; apply And.intro; (· (intro W hW; go_simp; try (first | with_reducible rfl | (rw [if_neg (by omega)]; try with_reducible rfl)))); simp only [Act.put, List.setIfInBounds_toArray, List.set_cons_zero, List.set_cons_succ]) | (refine sskip rfl rfl ?_; simp only [Act.put, List.setIfInBounds_toArray, List.set_cons_zero, List.set_cons_succ]))
    refine sdone ?_
    clear q
    go_wp2_with fail
    go_ret
    exact ⟨by rw [Hhp.out]; rfl, bthen (B2.drew) b3⟩
   ·go_enter Tryz.func51, Tryz.ntmps51
    go_wp2_with fail
    refine (right_any ⟨2, 1, []⟩ _ hs').mono ?_; rintro e w1 ⟨rfl, b1⟩
    have B1 : Below w.heap.size w w1 := bthen (by repeat (first | exact Below.refl _ _ | refine Below.alloc ?_ (by simp <;> omega) _)) b1
    have x : w1.heap[w.heap.size]? = some (.cells #[.int .i64 2, .int .i64 1, .string ⟨#[]⟩] 57 (0, 0)) := box_next (by repeat (first | (refine alloc_at ?_; simp; done) | refine alloc_old' ?_)) b1
    have xc0 : w1.cell? ⟨w.heap.size, 0, none⟩ = some (.int .i64 2) := by rw [Lib.cell_of_heap x]; rfl
    have xf0 : w1.frozen? ⟨w.heap.size, 0, none⟩ = false := Lib.frozen_of_heap x 0
    have xc1 : w1.cell? ⟨w.heap.size, 1, none⟩ = some (.int .i64 1) := by rw [Lib.cell_of_heap x]; rfl
    have xf1 : w1.frozen? ⟨w.heap.size, 1, none⟩ = false := Lib.frozen_of_heap x 1
    have xc2 : w1.cell? ⟨w.heap.size, 2, none⟩ = some (.string ⟨#[]⟩) := by rw [Lib.cell_of_heap x]; rfl
    have xf2 : w1.frozen? ⟨w.heap.size, 2, none⟩ = false := Lib.frozen_of_heap x 2
    go_wp2_with fail
    refine wp_region_sched [(0, true), (1, false), (2, true), (3, true)] (by kernel_rfl) (by kernel_rfl) (fun _ _ d _ _ h => by cases d <;> exact h) ?_
    refine swith (fun W hW => (cells3 (box_next (w := w1.drew) x hW.out))) (fun q => ?_)
    repeat (first | (refine sreadx rfl rfl ?_; apply Exists.intro; apply And.intro; (· (intro W hW; go_simp; try (first | with_reducible rfl | (rw [if_neg (by omega)]; try with_reducible rfl)))); simp only [Act.put, List.setIfInBounds_toArray, List.set_cons_zero, List.set_cons_succ]) | (refine sskip rfl rfl ?_; simp only [Act.put, List.setIfInBounds_toArray, List.set_cons_zero, List.set_cons_succ]))
    refine scall rfl rfl (fun K hK => ?_)
    go_simp
    refine (bool_any true _).mono ?_; rintro e w2 ⟨rfl, b2⟩
    go_wp2_with fail
    refine hK.out _ _ (by exact b2) ?_
    clear hK K
    try simp only [Act.put, List.setIfInBounds_toArray, List.set_cons_zero, List.set_cons_succ]
    simp only [vv, if_true, Bool.false_eq_true, if_false]
    repeat (first | (refine sreadx rfl rfl ?_; apply Exists.intro; apply And.intro; (· (intro W hW; go_simp; try (first | with_reducible rfl | (rw [if_neg (by omega)]; try with_reducible rfl)))); simp only [Act.put, List.setIfInBounds_toArray, List.set_cons_zero, List.set_cons_succ]) | (refine sskip rfl rfl ?_; simp only [Act.put, List.setIfInBounds_toArray, List.set_cons_zero, List.set_cons_succ]))
    refine sdone ?_
    clear q
    go_wp2_with fail
    go_ret
    exact ⟨by rw [Hhp.out]; rfl, bthen (B1.drew) b2⟩
  ·have hp := printV_three hr
   have Hhp := Lib.hid hp; clear hp
   go_enter Tryz.func51, Tryz.ntmps51
   go_wp2_with fail
   refine (right_any ⟨3, 0, s⟩ _ hs').mono ?_; rintro e w1 ⟨rfl, b1⟩
   have B1 : Below w.heap.size w w1 := bthen (by repeat (first | exact Below.refl _ _ | refine Below.alloc ?_ (by simp <;> omega) _)) b1
   have x : w1.heap[w.heap.size]? = some (.cells #[.int .i64 3, .int .i64 0, .string ⟨s.toArray⟩] 57 (0, 0)) := box_next (by repeat (first | (refine alloc_at ?_; simp; done) | refine alloc_old' ?_)) b1
   have xc0 : w1.cell? ⟨w.heap.size, 0, none⟩ = some (.int .i64 3) := by rw [Lib.cell_of_heap x]; rfl
   have xf0 : w1.frozen? ⟨w.heap.size, 0, none⟩ = false := Lib.frozen_of_heap x 0
   have xc1 : w1.cell? ⟨w.heap.size, 1, none⟩ = some (.int .i64 0) := by rw [Lib.cell_of_heap x]; rfl
   have xf1 : w1.frozen? ⟨w.heap.size, 1, none⟩ = false := Lib.frozen_of_heap x 1
   have xc2 : w1.cell? ⟨w.heap.size, 2, none⟩ = some (.string ⟨s.toArray⟩) := by rw [Lib.cell_of_heap x]; rfl
   have xf2 : w1.frozen? ⟨w.heap.size, 2, none⟩ = false := Lib.frozen_of_heap x 2
   go_wp2_with fail
   refine wp_region_sched [(0, true), (1, false), (2, true), (3, true)] (by kernel_rfl) (by kernel_rfl) (fun _ _ d _ _ h => by cases d <;> exact h) ?_
   refine swith (fun W hW => (cells3 (box_next (w := w1.drew) x hW.out))) (fun q => ?_)
   repeat (first | (refine sreadx rfl rfl ?_; apply Exists.intro; apply And.intro; (· (intro W hW; go_simp; try (first | with_reducible rfl | (rw [if_neg (by omega)]; try with_reducible rfl)))); simp only [Act.put, List.setIfInBounds_toArray, List.set_cons_zero, List.set_cons_succ]) | (refine sskip rfl rfl ?_; simp only [Act.put, List.setIfInBounds_toArray, List.set_cons_zero, List.set_cons_succ]))
   refine scall rfl rfl (fun K hK => ?_)
   go_simp
   refine (bool_any true _).mono ?_; rintro e w2 ⟨rfl, b2⟩
   go_wp2_with fail
   refine hK.out _ _ (by exact b2) ?_
   clear hK K
   try simp only [Act.put, List.setIfInBounds_toArray, List.set_cons_zero, List.set_cons_succ]
   simp only [vv, if_true, Bool.false_eq_true, if_false]
   repeat (first | (refine sreadx rfl rfl ?_; apply Exists.intro; apply And.intro; (· (intro W hW; go_simp; try (first | with_reducible rfl | (rw [if_neg (by omega)]; try with_reducible rfl)))); simp only [Act.put, List.setIfInBounds_toArray, List.set_cons_zero, List.set_cons_succ]) | (refine sskip rfl rfl ?_; simp only [Act.put, List.setIfInBounds_toArray, List.set_cons_zero, List.set_cons_succ]))
   refine sdone ?_
   clear q
   have B2 := bthen (B1.drew) b2
   have x' : w2.heap[w.heap.size]? = some (.cells #[.int .i64 3, .int .i64 0, .string ⟨s.toArray⟩] 57 (0, 0)) := box_nextD x b2
   have x'c0 : w2.cell? ⟨w.heap.size, 0, none⟩ = some (.int .i64 3) := by rw [Lib.cell_of_heap x']; rfl
   have x'f0 : w2.frozen? ⟨w.heap.size, 0, none⟩ = false := Lib.frozen_of_heap x' 0
   have x'c1 : w2.cell? ⟨w.heap.size, 1, none⟩ = some (.int .i64 0) := by rw [Lib.cell_of_heap x']; rfl
   have x'f1 : w2.frozen? ⟨w.heap.size, 1, none⟩ = false := Lib.frozen_of_heap x' 1
   have x'c2 : w2.cell? ⟨w.heap.size, 2, none⟩ = some (.string ⟨s.toArray⟩) := by rw [Lib.cell_of_heap x']; rfl
   have x'f2 : w2.frozen? ⟨w.heap.size, 2, none⟩ = false := Lib.frozen_of_heap x' 2
   clear xc0 xc1 xc2 xf0 xf1 xf2
   go_wp2_with fail
   refine wp_region_sched [(0, true), (1, false), (2, true), (3, true)] (by kernel_rfl) (by kernel_rfl) (fun _ _ d _ _ h => by cases d <;> exact h) ?_
   refine swith (fun W hW => (cells3 (box_next (w := w2.drew) x' hW.out))) (fun q => ?_)
   repeat (first | (refine sreadx rfl rfl ?_; apply Exists.intro; apply And.intro; (· (intro W hW; go_simp; try (first | with_reducible rfl | (rw [if_neg (by omega)]; try with_reducible rfl)))); simp only [Act.put, List.setIfInBounds_toArray, List.set_cons_zero, List.set_cons_succ]) | (refine sskip rfl rfl ?_; simp only [Act.put, List.setIfInBounds_toArray, List.set_cons_zero, List.set_cons_succ]))
   refine scall rfl rfl (fun K hK => ?_)
   go_simp
   refine (bool_any false _).mono ?_; rintro e w3 ⟨rfl, b3⟩
   go_wp2_with fail
   refine hK.out _ _ (by exact b3) ?_
   clear hK K
   try simp only [Act.put, List.setIfInBounds_toArray, List.set_cons_zero, List.set_cons_succ]
   simp only [vv, if_true, Bool.false_eq_true, if_false]
   repeat (first | (refine sreadx rfl rfl ?_; apply Exists.intro; apply And.intro; (· (intro W hW; go_simp; try (first | with_reducible rfl | (rw [if_neg (by omega)]; try with_reducible rfl)))); simp only [Act.put, List.setIfInBounds_toArray, List.set_cons_zero, List.set_cons_succ]) | (refine sskip rfl rfl ?_; simp only [Act.put, List.setIfInBounds_toArray, List.set_cons_zero, List.set_cons_succ]))
   refine sdone ?_
   clear q
   have B3 := bthen (B2.drew) b3
   have x'' : w3.heap[w.heap.size]? = some (.cells #[.int .i64 3, .int .i64 0, .string ⟨s.toArray⟩] 57 (0, 0)) := box_nextD x' b3
   have x''c0 : w3.cell? ⟨w.heap.size, 0, none⟩ = some (.int .i64 3) := by rw [Lib.cell_of_heap x'']; rfl
   have x''f0 : w3.frozen? ⟨w.heap.size, 0, none⟩ = false := Lib.frozen_of_heap x'' 0
   have x''c1 : w3.cell? ⟨w.heap.size, 1, none⟩ = some (.int .i64 0) := by rw [Lib.cell_of_heap x'']; rfl
   have x''f1 : w3.frozen? ⟨w.heap.size, 1, none⟩ = false := Lib.frozen_of_heap x'' 1
   have x''c2 : w3.cell? ⟨w.heap.size, 2, none⟩ = some (.string ⟨s.toArray⟩) := by rw [Lib.cell_of_heap x'']; rfl
   have x''f2 : w3.frozen? ⟨w.heap.size, 2, none⟩ = false := Lib.frozen_of_heap x'' 2
   clear x'c0 x'c1 x'c2
   go_wp2_with fail
   refine (quoted_any s _ hs2).mono ?_; rintro e w4 ⟨rfl, b4⟩
   go_wp2_with fail
   go_ret
   exact ⟨by rw [Hhp.out]; rfl, bthen B3 b4⟩
end Go.Proofs.YtnbmpfdffoidaaaGreatDoor.V
namespace Go.Proofs.YtnbmpfdffoidaaaGreatDoor.S
open Go.RowKit O V
theorem small_any (c : UInt8) (w : World) : Calls Tryz.prog 161 #[.int .u8 (c.toNat : Int)] w fun e w' => e = .returned (.bool (smallC c)) ∧ w = w' := by
 by_cases h : 97 ≤ (c.toNat : Int)
 ·have hd : decide ((c.toNat : Int) ≥ 97) = true := by simpa using h
  have hr : Hid (smallC c = decide ((c.toNat : Int) ≤ 122)) := Lib.hid (by unfold smallC; rw [decide_eq_true (by omega), Bool.true_and]; simp; omega)
  go_enter Tryz.func161, Tryz.ntmps161
  go_wp2_with fail
  go_ret
  exact ⟨by rw [hr.out]; rfl, rfl⟩
 ·have hd : decide ((c.toNat : Int) ≥ 97) = false := by simpa using h
  have hr : Hid (smallC c = false) := Lib.hid (by unfold smallC; rw [decide_eq_false (by omega)]; rfl)
  go_enter Tryz.func161, Tryz.ntmps161
  go_wp2_with fail
  go_ret
  exact ⟨by rw [hr.out]; rfl, rfl⟩
theorem isWord_any (s : List UInt8) (w : World) : Calls Tryz.prog 162 #[.string ⟨s.toArray⟩] w fun e w' => e = .returned (.bool (isWordL s)) ∧ w = w' := by
 go_enter Tryz.func162, Tryz.ntmps162
 go_wp2_with fail
 all_goals go_ret
 all_goals (refine ⟨?_, rfl⟩; unfold isWordL words; simp_all)
theorem name_end {s : List UInt8} (h : goodL (s.take s.length) = true) : isNameL s = ((decide (1 ≤ s.length) && decide (s.length ≤ 16)) && !isWordL s) := by
 rw [List.take_length] at h
 unfold isNameL
 rw [h]; rfl
theorem isName_any (s : List UInt8) (w : World) (hs : s.length ≤ 1000000000000) : Calls Tryz.prog 137 #[.string ⟨s.toArray⟩] w fun e w' => e = .returned (.bool (isNameL s)) ∧ w = w' := by
 have hsz : (ByteArray.mk s.toArray).size = s.length := by simp [ByteArray.size]
 go_enter Tryz.func137, Tryz.ntmps137
 go_wp2_with fail
 go_loop [2, 3, 6] (fun _ _ i => ∃ k : Nat, k ≤ s.length ∧ i = .int .i64 k ∧ Hid (goodL (s.take k) = true)) (fun _ _ i => s.length - (intOf i).toNat)
 case atStart => exact ⟨0, by omega, rfl, Lib.hid (by simp [goodL])⟩
 case round =>
  obtain ⟨k, hk, rfl, H⟩ := hrel
  by_cases hlt : k < s.length
  ·have hn := Lib.hid (good_step hlt H.out)
   have hno := Lib.hid (isNameL_no (s := s) (k := k + 1))
   generalize hc : s[k] = c at hn
   have hx := ba_at s k hlt hc
   cases ho : smallC c
   ·by_cases h0 : k = 0
    ·have hno' := Lib.hid (hno.out (by rw [hn.out, if_pos h0, ho]))
     subst h0
     go_wp2_with fail
     refine (small_any c _).mono ?_; rintro e w1 ⟨rfl, rfl⟩
     rw [ho]
     go_wp2_with fail
     go_ret
     exact ⟨by rw [hno'.out]; rfl, rfl⟩
    ·have hk0 : ((k : Int) == 0) = false := by simp; omega
     by_cases h95 : c.toNat = 95
     ·have g1 : ((c.toNat : Int) != 95) = false := by simp; omega
      have hst := Lib.hid (show goodL (s.take (k + 1)) = true by rw [hn.out, if_neg h0]; simp [restC, otherC, h95])
      clear h95 hn hno
      go_wp2_with fail
      refine (small_any c _).mono ?_; rintro e w1 ⟨rfl, rfl⟩
      rw [ho]
      go_wp2_with fail
      go_round
      case rel => exact ⟨k + 1, by omega, by go_num, hst⟩
      case measure => simp [intOf]; omega
     ·have g1 : ((c.toNat : Int) != 95) = true := by simp; omega
      by_cases h48 : (c.toNat : Int) < 48
      ·have hno' := Lib.hid (hno.out (by rw [hn.out, if_neg h0]; simp [restC, otherC, h95, ho]; omega))
       have g2 : decide ((c.toNat : Int) < 48) = true := by simp; omega
       go_wp2_with fail
       refine (small_any c _).mono ?_; rintro e w1 ⟨rfl, rfl⟩
       rw [ho]
       go_wp2_with fail
       go_ret
       exact ⟨by rw [hno'.out]; rfl, rfl⟩
      ·have g2 : decide ((c.toNat : Int) < 48) = false := by simp; omega
       by_cases h57 : (c.toNat : Int) > 57
       ·have hno' := Lib.hid (hno.out (by rw [hn.out, if_neg h0]; simp [restC, otherC, h95, ho]; omega))
        have g3 : decide ((c.toNat : Int) > 57) = true := by simp; omega
        go_wp2_with fail
        refine (small_any c _).mono ?_; rintro e w1 ⟨rfl, rfl⟩
        rw [ho]
        go_wp2_with fail
        go_ret
        exact ⟨by rw [hno'.out]; rfl, rfl⟩
       ·have g3 : decide ((c.toNat : Int) > 57) = false := by simp; omega
        go_wp2_with fail
        refine (small_any c _).mono ?_; rintro e w1 ⟨rfl, rfl⟩
        rw [ho]
        go_wp2_with fail
        go_round
        case rel => exact ⟨k + 1, by omega, by go_num, Lib.hid (by rw [hn.out, if_neg h0]; simp [restC, otherC]; omega)⟩
        case measure => simp [intOf]; omega
   ·go_wp2_with fail
    refine (small_any c _).mono ?_; rintro e w1 ⟨rfl, rfl⟩
    rw [ho]
    go_wp2_with fail
    go_round
    case rel => exact ⟨k + 1, by omega, by go_num, Lib.hid (by rw [hn.out]; split <;> simp [restC, ho])⟩
    case measure => simp [intOf]; omega
  ·obtain rfl : k = s.length := by omega
   have he := Lib.hid (name_end H.out)
   by_cases h1 : (1 : Int) ≤ (s.length : Int)
   ·have d1 : decide ((s.length : Int) ≥ 1) = true := by simp; omega
    by_cases h2 : (s.length : Int) ≤ 16
    ·have d2 : decide ((s.length : Int) ≤ 16) = true := by simp; omega
     have he' := Lib.hid (show isNameL s = !isWordL s by rw [he.out, decide_eq_true (by omega), decide_eq_true (by omega)]; rfl)
     go_wp2_with fail
     refine (isWord_any s _).mono ?_; rintro e w1 ⟨rfl, rfl⟩
     go_wp2_with fail
     go_ret
     exact ⟨by rw [he'.out]; rfl, rfl⟩
    ·have d2 : decide ((s.length : Int) ≤ 16) = false := by simp; omega
     have he' := Lib.hid (show isNameL s = false by rw [he.out, decide_eq_true (by omega), decide_eq_false (by omega)]; rfl)
     go_wp2_with fail
     go_ret
     exact ⟨by rw [he'.out]; rfl, rfl⟩
   ·have d1 : decide ((s.length : Int) ≥ 1) = false := by simp; omega
    have he' := Lib.hid (show isNameL s = false by rw [he.out, decide_eq_false (by omega)]; rfl)
    go_wp2_with fail
    go_ret
    exact ⟨by rw [he'.out]; rfl, rfl⟩
def printT (k m : Int) : List UInt8 := if rightT k m then (if k = 1 then [105, 110, 116] else if k = 2 then [98, 111, 111, 108] else [116, 101, 120, 116, 32] ++ decL m) else []
theorem rightT_cases {k m : Int} (h : rightT k m = true) : k = 1 ∨ k = 2 ∨ (k = 3 ∧ 1 ≤ m ∧ m ≤ 32) := by
 unfold rightT at h
 simp at h
 omega
theorem printType_any (k m : Int) (w : World) : Calls Tryz.prog 54 #[tv k m] w fun e w' => e = .returned (.string ⟨(printT k m).toArray⟩) ∧ Below w.heap.size w w' := by
 simp only [tv]
 cases hr : rightT k m
 ·have hp : Hid (printT k m = []) := Lib.hid (by rw [printT, hr]; rfl)
  go_enter Tryz.func54, Tryz.ntmps54
  go_wp2_with fail
  refine (rightType_any k m _).mono ?_; rintro e w1 ⟨rfl, b1⟩
  rw [hr]
  have B1 : Below w.heap.size w w1 := bthen (by repeat (first | exact Below.refl _ _ | refine Below.alloc ?_ (by simp <;> omega) _)) b1
  go_wp2_with fail
  go_ret
  exact ⟨by rw [hp.out]; rfl, B1⟩
 ·rcases rightT_cases hr with rfl | rfl | ⟨rfl, m1, m2⟩
  ·have hp : Hid (printT 1 m = [105, 110, 116]) := Lib.hid (by rw [printT, hr]; rfl)
   go_enter Tryz.func54, Tryz.ntmps54
   go_wp2_with fail
   refine (rightType_any 1 m _).mono ?_; rintro e w1 ⟨rfl, b1⟩
   rw [hr]
   have B1 : Below w.heap.size w w1 := bthen (by repeat (first | exact Below.refl _ _ | refine Below.alloc ?_ (by simp <;> omega) _)) b1
   have x : w1.heap[w.heap.size]? = some (.cells #[.int .i64 1, .int .i64 m] 70 (0, 0)) := box_next (by repeat (first | (refine alloc_at ?_; simp; done) | refine alloc_old' ?_)) b1
   have xc0 : w1.cell? ⟨w.heap.size, 0, none⟩ = some (.int .i64 1) := by rw [Lib.cell_of_heap x]; rfl
   have xf0 : w1.frozen? ⟨w.heap.size, 0, none⟩ = false := Lib.frozen_of_heap x 0
   have xc1 : w1.cell? ⟨w.heap.size, 1, none⟩ = some (.int .i64 m) := by rw [Lib.cell_of_heap x]; rfl
   have xf1 : w1.frozen? ⟨w.heap.size, 1, none⟩ = false := Lib.frozen_of_heap x 1
   go_wp2_with fail
   go_ret
   exact ⟨by rw [hp.out]; rfl, B1⟩
  ·have hp : Hid (printT 2 m = [98, 111, 111, 108]) := Lib.hid (by rw [printT, hr]; rfl)
   go_enter Tryz.func54, Tryz.ntmps54
   go_wp2_with fail
   refine (rightType_any 2 m _).mono ?_; rintro e w1 ⟨rfl, b1⟩
   rw [hr]
   have B1 : Below w.heap.size w w1 := bthen (by repeat (first | exact Below.refl _ _ | refine Below.alloc ?_ (by simp <;> omega) _)) b1
   have x : w1.heap[w.heap.size]? = some (.cells #[.int .i64 2, .int .i64 m] 70 (0, 0)) := box_next (by repeat (first | (refine alloc_at ?_; simp; done) | refine alloc_old' ?_)) b1
   have xc0 : w1.cell? ⟨w.heap.size, 0, none⟩ = some (.int .i64 2) := by rw [Lib.cell_of_heap x]; rfl
   have xf0 : w1.frozen? ⟨w.heap.size, 0, none⟩ = false := Lib.frozen_of_heap x 0
   have xc1 : w1.cell? ⟨w.heap.size, 1, none⟩ = some (.int .i64 m) := by rw [Lib.cell_of_heap x]; rfl
   have xf1 : w1.frozen? ⟨w.heap.size, 1, none⟩ = false := Lib.frozen_of_heap x 1
   go_wp2_with fail
   go_ret
   exact ⟨by rw [hp.out]; rfl, B1⟩
  ·have hp : Hid (printT 3 m = [116, 101, 120, 116, 32] ++ decL m) := Lib.hid (by rw [printT, hr]; rfl)
   have hl := digN_len20 m.natAbs (by omega)
   have hl2 : (decL m).length ≤ 21 := by unfold decL; split <;> first | omega | (simp; omega)
   have hlim : (5 : Nat) + (decL m).length ≤ 9223372036854775807 := by omega
   go_enter Tryz.func54, Tryz.ntmps54
   go_wp2_with fail
   refine (rightType_any 3 m _).mono ?_; rintro e w1 ⟨rfl, b1⟩
   rw [hr]
   have B1 : Below w.heap.size w w1 := bthen (by repeat (first | exact Below.refl _ _ | refine Below.alloc ?_ (by simp <;> omega) _)) b1
   have x : w1.heap[w.heap.size]? = some (.cells #[.int .i64 3, .int .i64 m] 70 (0, 0)) := box_next (by repeat (first | (refine alloc_at ?_; simp; done) | refine alloc_old' ?_)) b1
   have xc0 : w1.cell? ⟨w.heap.size, 0, none⟩ = some (.int .i64 3) := by rw [Lib.cell_of_heap x]; rfl
   have xf0 : w1.frozen? ⟨w.heap.size, 0, none⟩ = false := Lib.frozen_of_heap x 0
   have xc1 : w1.cell? ⟨w.heap.size, 1, none⟩ = some (.int .i64 m) := by rw [Lib.cell_of_heap x]; rfl
   have xf1 : w1.frozen? ⟨w.heap.size, 1, none⟩ = false := Lib.frozen_of_heap x 1
   go_wp2_with fail
   refine (dec_any m _ (by omega) (by omega)).mono ?_; rintro e w2 ⟨rfl, b2⟩
   go_wp2_with fail
   go_ret
   rw [show (ByteArray.mk #[116, 101, 120, 116, 32]) = ByteArray.mk [116, 101, 120, 116, 32].toArray from rfl, ba_append]
   exact ⟨by rw [hp.out]; rfl, bthen B1 b2⟩
end Go.Proofs.YtnbmpfdffoidaaaGreatDoor.S
namespace Go.Proofs.YtnbmpfdffoidaaaGreatDoor.Y
open Go.RowKit O V S X
theorem Ps.alloc {w : World} {g d : Nat} {l : List Tok} (h : Ps w g d l) (o : Obj) : Ps (w.alloc o) g d l := h.next ((Below.refl _ _).alloc (Nat.le_refl _) _)
def pNext (k : Int) (l : List Tok) : Res Tok := match l with
 | [] => .bad
 | t :: r => if t.1 = k then .ok t r else .bad
def tokV (t : Tok) (p q r : Int) : Value := .agg #[nv t.1, sv t.2.1, nv t.2.2.k, nv t.2.2.n, sv t.2.2.s, nv p, nv q, nv r]
theorem tok_f1 (a k n p q r : Int) (x s : List UInt8) (w : World) : (Instr.field 101 (.agg #[nv a, sv x, nv k, nv n, sv s, nv p, nv q, nv r]) 1).run Tryz.prog w = .ok (sv x) w := by kernel_rfl
theorem tok_f2 (a k n p q r : Int) (x s : List UInt8) (w : World) : (Instr.field 101 (.agg #[nv a, sv x, nv k, nv n, sv s, nv p, nv q, nv r]) 2).run Tryz.prog w = .ok (.agg #[nv k, nv n, sv s]) w := by kernel_rfl
theorem tok_f3 (a k n p q r : Int) (x s : List UInt8) (w : World) : (Instr.field 101 (.agg #[nv a, sv x, nv k, nv n, sv s, nv p, nv q, nv r]) 3).run Tryz.prog w = .ok (.agg #[nv p, nv q, nv r]) w := by kernel_rfl
theorem val_f1 (k n : Int) (s : List UInt8) (w : World) : (Instr.field 57 (.agg #[nv k, nv n, sv s]) 1).run Tryz.prog w = .ok (nv n) w := by kernel_rfl
theorem next_any (g d : Nat) (l : List Tok) (k : Int) (w : World) (h : Ps w g d l) : Calls Tryz.prog 136 #[.pointer (some ⟨g, 0, none⟩), nv k] w (Out [g] g d w (pNext k l) fun t _ v => ∃ p q r, v = tokV t p q r) := by
 have HS := Lib.hid h
 obtain ⟨A, n, c, ea, eb, ec, hp⟩ := h
 have hlen := hp.row.len
 have hcap := hp.row.cap
 obtain ⟨⟨x0, x4⟩, x1, x2, x3⟩ := hp.cells
 obtain ⟨xf0, xf4⟩ := hp.free
 have hlt := hp.lt
 have HP := Lib.hid hp
 cases l with
 | nil =>
  obtain rfl : n = 0 := by simpa using hlen.symm
  clear hp
  go_enter Tryz.func136, Tryz.ntmps136
  go_wp2_with fail
  refine (wrong_any g d [] _ (HS.out.next ((Below.refl _ _).alloc (Nat.le_refl _) _))).mono ?_; rintro e w1 ⟨⟨er, p, q, r, hne, rfl⟩, b1⟩
  have HN := Lib.hid hne
  clear hne
  go_wp2_with fail
  refine ⟨rfl, .of_below (bthen ((Below.refl _ _).alloc (Nat.le_refl _) _) b1), er, p, q, r, HN.out, rfl⟩
 | cons t l =>
  obtain ⟨b, off, tp, tq, tr, rfl, hb, ⟨⟨y0, y1⟩, y2, y3, y4⟩, ⟨y5, y6⟩, y7⟩ := hp.row.head
  obtain ⟨tk, tt, tv⟩ := t
  dsimp only at y0 y1 y2 y3 y4
  clear hp
  have hn : 1 ≤ n := by simp at hlen; omega
  have hn0 : n ≠ 0 := by omega
  have hc1 : 1 ≤ c := by omega
  have hcn := hcap.1
  have hbw : b < w.heap.size := by omega
  by_cases hk : tk = k
  ·subst hk
   have hR : pNext tk ((tk, tt, tv) :: l) = .ok (tk, tt, tv) l := if_pos rfl
   rw [hR]
   have e1 : (tk != tk) = false := by simp
   clear hR
   go_enter Tryz.func136, Tryz.ntmps136
   go_wp2_with fail
   ·refine bodyPost_ret (v := tokV (tk, tt, tv) tp tq tr) (by simp [results, Tryz.results136, go_sem, tokV]) rfl ?_
    obtain ⟨m1, m2⟩ := HP.out.past (Below.refl _ _) 0 rfl (A' := some ⟨b, off, none⟩) (c' := 0) (fun h => absurd (by assumption) h) rfl (by omega)
    exact ⟨(m1.alloc _).alloc _, (m2.alloc _).alloc _, _, rfl, _, _, _, rfl⟩
   ·refine bodyPost_ret (v := tokV (tk, tt, tv) tp tq tr) (by simp [results, Tryz.results136, go_sem, tokV]) rfl ?_
    obtain ⟨m1, m2⟩ := HP.out.past (Below.refl _ _) 0 rfl (A' := some ⟨b, off + 8, none⟩) (fun _ => rfl) rfl rfl
    exact ⟨(m1.alloc _).alloc _, (m2.alloc _).alloc _, _, rfl, _, _, _, rfl⟩
  ·have hR : pNext k ((tk, tt, tv) :: l) = .bad := if_neg hk
   rw [hR]
   have e1 : (tk != k) = true := by simpa using hk
   clear hR hk
   go_enter Tryz.func136, Tryz.ntmps136
   go_wp2_with fail
   refine (wrong_any g d _ _ (HS.out.next ((Below.refl _ _).alloc (Nat.le_refl _) _))).mono ?_; rintro e w1 ⟨⟨er, p, q, r, hne, rfl⟩, b1⟩
   have HN := Lib.hid hne
   clear hne
   go_wp2_with fail
   refine ⟨rfl, .of_below (bthen ((Below.refl _ _).alloc (Nat.le_refl _) _) b1), er, p, q, r, HN.out, rfl⟩
theorem isName_p (g d : Nat) (l : List Tok) (w : World) (h : Ps w g d l) : Calls Tryz.prog 100 #[.pointer (some ⟨g, 0, none⟩)] w fun e w' => e = .returned (.bool (isN l)) ∧ w' = w := by
 obtain ⟨A, n, c, ea, eb, ec, hp⟩ := h
 have hlen := hp.row.len
 have hcap := hp.row.cap
 obtain ⟨⟨x0, x4⟩, x1, x2, x3⟩ := hp.cells
 obtain ⟨xf0, xf4⟩ := hp.free
 have hlt := hp.lt
 have HP := Lib.hid hp
 cases l with
 | nil =>
  obtain rfl : n = 0 := by simpa using hlen.symm
  clear hp
  go_enter Tryz.func100, Tryz.ntmps100
  go_wp2_with fail
  go_ret
  exact ⟨rfl, rfl⟩
 | cons t l =>
  have hx := hp.txt t (by simp)
  obtain ⟨b, off, tp, tq, tr, rfl, hb, ⟨⟨y0, y1⟩, y2, y3, y4⟩, ⟨y5, y6⟩, y7⟩ := hp.row.head
  obtain ⟨tk, tt, tv⟩ := t
  dsimp only at y0 y1 y2 y3 y4
  dsimp only at hx
  clear hp
  have hn : 0 < n := by simp at hlen; omega
  have d1 : decide ((n : Int) > 0) = true := by simp; omega
  by_cases hk : tk = 1
  ·subst hk
   have hR : isN ((1, tt, tv) :: l) = isNameL tt := by unfold isN; simp
   rw [hR]
   clear hR
   go_enter Tryz.func100, Tryz.ntmps100
   go_wp2_with fail
   refine (isName_any tt _ (by omega)).mono ?_; rintro e w1 ⟨rfl, rfl⟩
   go_wp2_with fail
   go_ret
   exact ⟨rfl, rfl⟩
  ·have e1 : (tk == 1) = false := by simpa using hk
   have hR : isN ((tk, tt, tv) :: l) = false := by unfold isN; simp [hk]
   rw [hR]
   clear hR hk
   go_enter Tryz.func100, Tryz.ntmps100
   go_wp2_with fail
   go_ret
   exact ⟨rfl, rfl⟩
theorem Bad.out {α : Type} {bs : List Nat} {g d : Nat} {w w' : World} {good : α → World → Value → Prop} {e : Ending} (h : Bad e) (m : Mod bs w w') : Out bs g d w .bad good e w' := ⟨m, h⟩
theorem pName_eq (l : List Tok) : pName l = if isN l then (pNext 1 l).bind fun t r => .ok t.2.1 r else .bad := by
 cases l with
 | nil => rfl
 | cons t r =>
  unfold pName isN pNext
  by_cases h1 : t.1 = 1 <;> by_cases h2 : isNameL t.2.1 = true <;> simp [h1, h2]
theorem name_any (g d : Nat) (l : List Tok) (w : World) (h : Ps w g d l) : Calls Tryz.prog 97 #[.pointer (some ⟨g, 0, none⟩)] w (Out [g] g d w (pName l) fun n _ v => v = sv n ∧ isNameL n = true) := by
 have HS := Lib.hid h
 clear h
 rw [pName_eq]
 cases hi : isN l with
 | false =>
  go_enter Tryz.func97, Tryz.ntmps97
  go_wp2_with fail
  refine (isName_p g d l _ HS.out).mono ?_; rintro e w1 ⟨rfl, rfl⟩
  rw [hi]
  go_wp2_with fail
  refine (wrong_any g d l _ HS.out).mono ?_; rintro e w2 ⟨⟨er, p, q, r, hne, rfl⟩, b1⟩
  have HN := Lib.hid hne
  clear hne
  go_wp2_with fail
  exact ⟨rfl, .of_below b1, er, p, q, r, HN.out, rfl⟩
 | true =>
  obtain ⟨t, r, rfl⟩ : ∃ t r, l = t :: r := by
   cases l with
   | nil => cases hi
   | cons t r => exact ⟨t, r, rfl⟩
  have hi2 := hi
  unfold isN at hi2
  simp only [Bool.and_eq_true, decide_eq_true_eq] at hi2
  have hR : pNext 1 (t :: r) = .ok t r := if_pos hi2.1
  have HI := Lib.hid hi2.2
  clear hi2
  rw [hR]
  go_enter Tryz.func97, Tryz.ntmps97
  go_wp2_with fail
  refine (isName_p g d _ _ HS.out).mono ?_; rintro e w1 ⟨rfl, rfl⟩
  rw [hi]
  go_wp2_with fail
  refine (next_any g d _ 1 _ HS.out).mono ?_; rintro e w2 h2
  rw [hR] at h2
  obtain ⟨m2, p2, v, rfl, p, q, z, rfl⟩ := h2
  have M2 := Lib.hid m2
  have P2 := Lib.hid p2
  clear m2 p2
  unfold tokV
  have f1 := tok_f1 t.1 t.2.2.k t.2.2.n p q z t.2.1 t.2.2.s w2
  go_wp2_with fail
  go_ret
  exact ⟨M2.out, P2.out, _, rfl, rfl, HI.out⟩
theorem pNum_eq (l : List Tok) : pNum l = (pNext 2 l).bind fun t r => .ok t.2.2.n r := by
 cases l with
 | nil => rfl
 | cons t r =>
  unfold pNum pNext
  by_cases h1 : t.1 = 2 <;> simp [h1]
theorem num_any (g d : Nat) (l : List Tok) (w : World) (h : Ps w g d l) : Calls Tryz.prog 98 #[.pointer (some ⟨g, 0, none⟩)] w (Out [g] g d w (pNum l) fun n _ v => v = nv n) := by
 have HS := Lib.hid h
 clear h
 obtain ⟨R, hR0⟩ : ∃ R, pNum l = R := ⟨_, rfl⟩
 rw [hR0]
 rw [pNum_eq] at hR0
 have HR := Lib.hid hR0
 clear hR0
 go_enter Tryz.func98, Tryz.ntmps98
 go_wp2_with fail
 refine (next_any g d l 2 _ HS.out).mono ?_; rintro e w2 h2
 cases hR : pNext 2 l with
 | oof => rw [hR] at h2; exact h2.2.elim
 | bad =>
  have hq := HR.out
  rw [hR] at h2 hq
  subst hq
  obtain ⟨m2, er, p, q, r, hne, rfl⟩ := h2
  have HN := Lib.hid hne
  have M2 := Lib.hid m2
  clear hne m2
  go_wp2_with fail
  exact ⟨rfl, M2.out, er, p, q, r, HN.out, rfl⟩
 | ok t r =>
  have hq := HR.out
  rw [hR] at h2 hq
  subst hq
  obtain ⟨m2, p2, v, rfl, p, q, z, rfl⟩ := h2
  have M2 := Lib.hid m2
  have P2 := Lib.hid p2
  clear m2 p2
  unfold tokV
  have f1 := tok_f2 t.1 t.2.2.k t.2.2.n p q z t.2.1 t.2.2.s w2
  have f2 := val_f1 t.2.2.k t.2.2.n t.2.2.s w2
  go_wp2_with fail
  go_ret
  exact ⟨M2.out, P2.out, _, rfl, rfl⟩
theorem want_any (g d : Nat) (l : List Tok) (s : List UInt8) (b : Nat) (w : World) (h : Ps w g d l) (hg : g < b) (hb : w.heap[b]? = some (.cells #[sv s] 9 (0, 0))) : Calls Tryz.prog 96 #[.pointer (some ⟨g, 0, none⟩), .slice (some ⟨b, 0, none⟩) 1 1] w (Out [g] g d w (want l s) fun _ _ v => v = .tuple #[]) := by
 have HS := Lib.hid h
 have hc : w.cell? ⟨b, 0, none⟩ = some (sv s) := by rw [Lib.cell_of_heap hb]; rfl
 clear h hb
 obtain ⟨R, hR0⟩ : ∃ R, want l s = R := ⟨_, rfl⟩
 rw [hR0]
 have HR := Lib.hid hR0
 clear hR0
 go_enter Tryz.func96, Tryz.ntmps96
 go_wp2_with fail
 go_loopw [5, 8] (fun _ i wr => (i = nv 0 ∧ wr = w) ∨ (i = nv 1 ∧ isT l s = true ∧ Hid (Mod [g] w wr) ∧ Hid (Ps wr g d l.tail))) (fun _ i _ => 1 - (intOf i).toNat)
 case atStart => exact .inl ⟨rfl, rfl⟩
 case round =>
  rcases hrel with ⟨rfl, rfl⟩ | ⟨rfl, hi, HM, HT⟩
  ·go_wp2_with fail
   refine (take_any g d l s _ HS.out).mono ?_; rintro e w1 ⟨rfl, m1, p1⟩
   cases hi : isT l s with
   | false =>
    rw [hi] at p1
    have P1 : Hid (Ps w1 g d l) := Lib.hid p1
    have M1 := Lib.hid m1
    clear m1 p1
    go_wp2_with fail
    refine (wrong_any g d l _ P1.out).mono ?_; rintro e w2 ⟨⟨er, p, q, r, hne, rfl⟩, b1⟩
    have HN := Lib.hid hne
    have B1 := Lib.hid b1
    clear hne b1
    have hq : Res.bad = R := by rw [← HR.out, want, hi]; rfl
    subst hq
    go_wp2_with fail
    exact ⟨rfl, M1.out.then (.of_below B1.out), er, p, q, r, HN.out, rfl⟩
   | true =>
    rw [hi] at p1
    have P1 : Hid (Ps w1 g d l.tail) := Lib.hid p1
    have M1 := Lib.hid m1
    clear m1 p1
    go_wp2_with fail
    go_roundw
    case rel => exact .inr ⟨by go_num, hi, M1, P1⟩
    case measure => simp [intOf]
  ·go_wp2_with fail
   go_end0
   have hq : Res.ok () l.tail = R := by rw [← HR.out, want, hi]; rfl
   subst hq
   exact ⟨HM.out, HT.out, _, rfl, rfl⟩
end Go.Proofs.YtnbmpfdffoidaaaGreatDoor.Y
namespace Go.Proofs.YtnbmpfdffoidaaaGreatDoor.Y
open Go.RowKit O V S X
theorem binary_any (s : List UInt8) (w : World) : Calls Tryz.prog 142 #[sv s] w fun e w' => e = .returned (.tuple #[nv (binS s).1, nv (binS s).2]) ∧ w' = w := by
 go_enter Tryz.func142, Tryz.ntmps142
 go_wp2_with fail
 all_goals
  go_ret2
  refine ⟨?_, rfl⟩
  simp_all [binS]
theorem operator_any (g d : Nat) (l : List Tok) (w : World) (h : Ps w g d l) : Calls Tryz.prog 177 #[.pointer (some ⟨g, 0, none⟩)] w fun e w' => e = .returned (.tuple #[nv (opT l).1, nv (opT l).2]) ∧ w' = w := by
 obtain ⟨A, n, c, ea, eb, ec, hp⟩ := h
 have hlen := hp.row.len
 have hcap := hp.row.cap
 obtain ⟨⟨x0, x4⟩, x1, x2, x3⟩ := hp.cells
 obtain ⟨xf0, xf4⟩ := hp.free
 have hlt := hp.lt
 have HP := Lib.hid hp
 cases l with
 | nil =>
  obtain rfl : n = 0 := by simpa using hlen.symm
  clear hp
  go_enter Tryz.func177, Tryz.ntmps177
  go_wp2_with fail
  go_ret2
  exact ⟨rfl, rfl⟩
 | cons t l =>
  obtain ⟨b, off, tp, tq, tr, rfl, hb, ⟨⟨y0, y1⟩, y2, y3, y4⟩, ⟨y5, y6⟩, y7⟩ := hp.row.head
  obtain ⟨tk, tt, tv⟩ := t
  dsimp only at y0 y1 y2 y3 y4
  clear hp
  have hn : n ≠ 0 := by simp at hlen; omega
  by_cases hk : tk = 4
  ·subst hk
   obtain ⟨o1, ho1⟩ : ∃ o : Nat, (binS tt).1 = o := ⟨_, rfl⟩
   obtain ⟨o2, ho2⟩ : ∃ o : Nat, (binS tt).2 = o := ⟨_, rfl⟩
   have hR : opT ((4, tt, tv) :: l) = (o1, o2) := by rw [← ho1, ← ho2]; rfl
   have HO := Lib.hid (And.intro ho1 ho2)
   rw [hR]
   clear hR ho1 ho2
   go_enter Tryz.func177, Tryz.ntmps177
   go_wp2_with fail
   refine (binary_any tt _).mono ?_; rintro e w1 ⟨rfl, rfl⟩
   rw [HO.out.1, HO.out.2]
   go_wp2_with fail
   go_ret2
   exact ⟨rfl, rfl⟩
  ·have e1 : (tk != 4) = true := by simpa using hk
   have hR : opT ((tk, tt, tv) :: l) = (0, 0) := if_neg hk
   rw [hR]
   clear hR hk
   go_enter Tryz.func177, Tryz.ntmps177
   go_wp2_with fail
   go_ret2
   exact ⟨rfl, rfl⟩
def After {α : Type} (g : Nat) (G : α → World → Prop) (a : α) (w' : World) (v : Value) : Prop := v = .tuple #[] ∧ ∃ W, G a W ∧ Mod [g] W w'
theorem within_any {α : Type} (g d : Nat) (l : List Tok) (F : Nat) (caps : Array Value) (bs : List Nat) (R : Res α) (G : α → World → Prop) (w : World) (h : Ps w g d l) (hl : l ≠ []) (hd : d ≤ 16) (hg : g ∈ bs)
  (hcall : ∀ args w, (callFunc F args).run Tryz.prog w = .ok (.enter F args) w)
  (hc : d < 16 → ∀ W, Mod [g] w W → Ps W g (d + 1) l.tail → Calls Tryz.prog F caps W (Out bs g (d + 1) W R fun a w' v => v = .tuple #[] ∧ G a w')) :
  Calls Tryz.prog 163 #[.pointer (some ⟨g, 0, none⟩), .func (.func F) #[] caps] w (Out bs g d w (if d = 16 then .bad else R) (After g G)) := by
 have HS := Lib.hid h
 have HC := Lib.hid hc
 have HG := Lib.hid hg
 clear hc hg
 by_cases h16 : d = 16
 ·subst h16
  rw [if_pos rfl]
  obtain ⟨A, n, c, ea, eb, ec, hp⟩ := h
  have hlen := hp.row.len
  have hcap := hp.row.cap
  obtain ⟨⟨x0, x4⟩, x1, x2, x3⟩ := hp.cells
  obtain ⟨xf0, xf4⟩ := hp.free
  have hlt := hp.lt
  have HP := Lib.hid hp
  clear hp
  go_enter Tryz.func163, Tryz.ntmps163
  go_wp2_with fail
  refine (here_any g 16 l _ HS.out).mono ?_; rintro e w1 ⟨⟨p, q, r, rfl⟩, b1⟩
  go_wp2_with fail
  exact ⟨rfl, .of_below b1, _, _, _, _, by decide, rfl⟩
 ·rw [if_neg h16]
  obtain ⟨A, n, c, ea, eb, ec, hp⟩ := h
  have hlen := hp.row.len
  have hcap := hp.row.cap
  obtain ⟨⟨x0, x4⟩, x1, x2, x3⟩ := hp.cells
  obtain ⟨xf0, xf4⟩ := hp.free
  have hlt := hp.lt
  have HP := Lib.hid hp
  cases l with
  | nil => exact absurd rfl hl
  | cons t l =>
   have hn : 1 ≤ n := by simp at hlen; omega
   have hc1 : 1 ≤ c := by omega
   have hcn := hcap.1
   obtain ⟨b, off, tp, tq, tr, rfl, hb, _⟩ := hp.row.head
   have hP1 : ∀ A' c' (x : Int), x = ((d + 1 : Nat) : Int) → (c ≠ 1 → A' = some ⟨b, off + 8, none⟩) → c' = c - 1 → Hid (Mod [g] w ((w.setCell ⟨g, 4, none⟩ (nv x)).setCell ⟨g, 0, none⟩ (.slice A' (n - 1) c'))) ∧ Hid (Ps ((w.setCell ⟨g, 4, none⟩ (nv x)).setCell ⟨g, 0, none⟩ (.slice A' (n - 1) c')) g (d + 1) l) := fun A' c' x hx hA hc' => by
    subst hc' hx
    refine ⟨Lib.hid (((Mod.refl _ _).set (.inl (by simp)) _).set (.inl (by simp)) _), Lib.hid ⟨A', n - 1, c - 1, ea, eb, ec, ?_, (hp.row.tail hA).keep fun k hk => ?_, hp.ok.rest, fun t ht => hp.txt t (by simp [ht])⟩⟩
    ·have := heap_set (i := 0) (heap_set (i := 4) hp.box (nv (d + 1 : Nat))) (.slice A' (n - 1) (c - 1))
     exact this
    ·rw [Below.heap_setCell _ _ _ _ (by simp only; omega), Below.heap_setCell _ _ _ _ (by simp only; omega)]
   have HP1 := Lib.hid hP1
   have d0 : ((d : Int) == 16) = false := by simp; omega
   have hd2 : d < 16 := by omega
   clear hp hP1
   go_enter Tryz.func163, Tryz.ntmps163
   go_wp2_with fail
   ·have hq := HP1.out (some ⟨b, off, none⟩) 0 ((d : Int) + 1) (by omega) (fun h => absurd (by assumption) h) (by omega)
    obtain ⟨M1, P1⟩ := hq
    refine (HC.out hd2 _ M1.out P1.out).mono ?_; rintro e w2 ⟨m2, h2⟩
    have M2 := Lib.hid m2
    clear m2
    cases R with
    | oof => exact h2.elim
    | bad =>
     obtain ⟨er, p, q, r, hne, rfl⟩ := h2
     have HN := Lib.hid hne
     clear hne
     go_wp2_with fail
     exact ⟨rfl, (M1.out.more (fun x hx => .inl (by simp at hx; subst hx; exact HG.out))).then M2.out, er, p, q, r, HN.out, rfl⟩
    | ok a r =>
     obtain ⟨⟨A2, n2, c2, ea2, eb2, ec2, p2⟩, v, rfl, rfl, hG⟩ := h2
     obtain ⟨⟨z0, z4⟩, z1, z2, z3⟩ := p2.cells
     obtain ⟨zf0, zf4⟩ := p2.free
     have P2 := Lib.hid p2
     have HGG := Lib.hid hG
     clear p2 hG
     go_wp2_with fail
     go_end0
     refine ⟨((M1.out.more (fun x hx => .inl (by simp at hx; subst hx; exact HG.out))).then M2.out).set (.inl HG.out) _, ⟨A2, n2, c2, ea2, eb2, ec2, ?_, P2.out.row.keep fun k hk => ?_, P2.out.ok, P2.out.txt⟩, _, rfl, rfl, w2, HGG.out, ?_⟩
     ·have := heap_set (i := 4) P2.out.box (nv (d : Nat))
      exact this
     ·rw [Below.heap_setCell _ _ _ _ (by simp only; omega)]
     ·exact (Mod.refl _ _).set (.inl (by simp)) _
   ·have hq := HP1.out (some ⟨b, off + 8, none⟩) (c - 1) ((d : Int) + 1) (by omega) (fun _ => rfl) rfl
    obtain ⟨M1, P1⟩ := hq
    refine (HC.out hd2 _ M1.out P1.out).mono ?_; rintro e w2 ⟨m2, h2⟩
    have M2 := Lib.hid m2
    clear m2
    cases R with
    | oof => exact h2.elim
    | bad =>
     obtain ⟨er, p, q, r, hne, rfl⟩ := h2
     have HN := Lib.hid hne
     clear hne
     go_wp2_with fail
     exact ⟨rfl, (M1.out.more (fun x hx => .inl (by simp at hx; subst hx; exact HG.out))).then M2.out, er, p, q, r, HN.out, rfl⟩
    | ok a r =>
     obtain ⟨⟨A2, n2, c2, ea2, eb2, ec2, p2⟩, v, rfl, rfl, hG⟩ := h2
     obtain ⟨⟨z0, z4⟩, z1, z2, z3⟩ := p2.cells
     obtain ⟨zf0, zf4⟩ := p2.free
     have P2 := Lib.hid p2
     have HGG := Lib.hid hG
     clear p2 hG
     go_wp2_with fail
     go_end0
     refine ⟨((M1.out.more (fun x hx => .inl (by simp at hx; subst hx; exact HG.out))).then M2.out).set (.inl HG.out) _, ⟨A2, n2, c2, ea2, eb2, ec2, ?_, P2.out.row.keep fun k hk => ?_, P2.out.ok, P2.out.txt⟩, _, rfl, rfl, w2, HGG.out, ?_⟩
     ·have := heap_set (i := 4) P2.out.box (nv (d : Nat))
      exact this
     ·rw [Below.heap_setCell _ _ _ _ (by simp only; omega)]
     ·exact (Mod.refl _ _).set (.inl (by simp)) _
theorem around1_any {α : Type} (g d : Nat) (l : List Tok) (tt : List UInt8) (F : Nat) (caps : Array Value) (bs : List Nat) (R : Res α) (G : α → World → Prop) (b0 b1 b2 : Nat) (w : World) (hg : g ∈ bs)
  (hcall : ∀ args w, (callFunc F args).run Tryz.prog w = .ok (.enter F args) w)
  (h0 : w.heap[b0]? = some (.cells #[.func (.func F) #[] caps] 1 (0, 0))) (h1 : w.heap[b1]? = some (.cells #[.pointer (some ⟨g, 0, none⟩)] 51 (0, 0))) (h2 : w.heap[b2]? = some (.cells #[sv tt] 9 (0, 0)))
  (hn1 : b1 ∉ bs) (hn2 : b2 ∉ bs)
  (hc : Calls Tryz.prog F caps w (Out bs g d w R fun a w' v => v = .tuple #[] ∧ G a w')) :
  Calls Tryz.prog 164 #[.pointer (some ⟨b0, 0, none⟩), .pointer (some ⟨b1, 0, none⟩), .pointer (some ⟨b2, 0, none⟩)] w (Out bs g d w (R.bind fun x r => (want r tt).bind fun _ r => .ok x r) (After g G)) := by
 have HC := Lib.hid hc
 have HG := Lib.hid hg
 have H1 := Lib.hid h1
 have H2 := Lib.hid h2
 have N1 := Lib.hid hn1
 have N2 := Lib.hid hn2
 have x0 : w.cell? ⟨b0, 0, none⟩ = some (.func (.func F) #[] caps) := by rw [Lib.cell_of_heap h0]; rfl
 clear hc hg h0 h1 h2 hn1 hn2
 obtain ⟨RT, hRT⟩ : ∃ RT, (R.bind fun x r => (want r tt).bind fun _ r => .ok x r) = RT := ⟨_, rfl⟩
 rw [hRT]
 have HRT := Lib.hid hRT
 clear hRT
 go_enter Tryz.func164, Tryz.ntmps164
 go_wp2_with fail
 refine HC.out.mono ?_; rintro e w1 ⟨m1, h1⟩
 have M1 := Lib.hid m1
 clear m1
 cases R with
 | oof => exact h1.elim
 | bad =>
  obtain ⟨er, p, q, r, hne, rfl⟩ := h1
  have HN := Lib.hid hne
  clear hne
  have hq := HRT.out
  simp only [bind_bad] at hq
  subst hq
  go_wp2_with fail
  exact ⟨rfl, M1.out, er, p, q, r, HN.out, rfl⟩
 | ok a r =>
  obtain ⟨p1, v, rfl, rfl, hG⟩ := h1
  have P1 := Lib.hid p1
  have HGG := Lib.hid hG
  have x1 : w1.cell? ⟨b1, 0, none⟩ = some (.pointer (some ⟨g, 0, none⟩)) := by rw [Lib.cell_of_heap (M1.out.box H1.out N1.out)]; rfl
  have x2 : w1.cell? ⟨b2, 0, none⟩ = some (sv tt) := by rw [Lib.cell_of_heap (M1.out.box H2.out N2.out)]; rfl
  have hlt := p1.lt
  clear p1 hG
  obtain ⟨R, hR0⟩ : ∃ R, want r tt = R := ⟨_, rfl⟩
  have hq := HRT.out
  simp only [bind_ok, hR0] at hq
  have HQ := Lib.hid hq
  have HR := Lib.hid hR0
  clear hR0 hq
  go_wp2_with fail
  refine (want_any g d r tt w1.heap.size _ (P1.out.alloc _) hlt (alloc_at rfl)).mono ?_; rintro e w2 ⟨m2, h2⟩
  rw [HR.out] at h2
  have M2 : Hid (Mod [g] w1 w2) := Lib.hid (((Mod.refl _ _).alloc _).then m2)
  clear m2
  cases R with
  | oof => exact h2.elim
  | bad =>
   obtain ⟨er, p, q, r, hne, rfl⟩ := h2
   have HN := Lib.hid hne
   clear hne
   have hq := HQ.out
   simp only [bind_bad] at hq
   subst hq
   go_wp2_with fail
   exact ⟨rfl, M1.out.then (M2.out.more (fun x hx => .inl (by simp at hx; subst hx; exact HG.out))), er, p, q, r, HN.out, rfl⟩
  | ok u r2 =>
   obtain ⟨p2, v, rfl, rfl⟩ := h2
   have P2 := Lib.hid p2
   clear p2
   have hq := HQ.out
   simp only [bind_ok] at hq
   subst hq
   go_wp2_with fail
   go_end0
   exact ⟨M1.out.then (M2.out.more (fun x hx => .inl (by simp at hx; subst hx; exact HG.out))), P2.out, _, rfl, rfl, w1, HGG.out, M2.out⟩
theorem around_any {α : Type} (g d : Nat) (l : List Tok) (fr tt : List UInt8) (F : Nat) (caps : Array Value) (bs : List Nat) (k : Nat → List Tok → Res α) (G : α → World → Prop) (w : World) (h : Ps w g d l) (hd : d ≤ 16) (hg : g ∈ bs) (hbs : ∀ x ∈ bs, x < w.heap.size)
  (hcall : ∀ args w, (callFunc F args).run Tryz.prog w = .ok (.enter F args) w)
  (hc : isT l fr = true → d < 16 → ∀ W, Mod [g] w W → Ps W g (d + 1) l.tail → Calls Tryz.prog F caps W (Out bs g (d + 1) W (k (d + 1) l.tail) fun a w' v => v = .tuple #[] ∧ G a w')) :
  Calls Tryz.prog 139 #[.pointer (some ⟨g, 0, none⟩), sv fr, sv tt, .func (.func F) #[] caps] w (Out bs g d w (Y.around fr tt d l k) (After g G)) := by
 have HS := Lib.hid h
 have HC := Lib.hid hc
 have HG := Lib.hid hg
 have HB := Lib.hid hbs
 have hlt := h.lt
 clear hc hg h hbs
 have hmf : ∀ (fn : Fn) (first cap : Array Value) (w : World), (Instr.makeFunc fn first cap).run Tryz.prog w = .ok (.func fn first cap) w := fun _ _ _ _ => rfl
 unfold Y.around
 cases hi : isT l fr with
 | false =>
  clear HC
  simp only [Bool.false_eq_true, if_false]
  go_enter Tryz.func139, Tryz.ntmps139
  go_wp2_with fail
  have B3 : Below w.heap.size w (((w.alloc (Obj.cells #[Value.pointer (some ⟨g, 0, none⟩)] 51)).alloc (Obj.cells #[sv tt] 9)).alloc (Obj.cells #[Value.func (Fn.func F) #[] caps] 1)) := by repeat (first | exact Below.refl _ _ | refine Below.alloc ?_ (by simp <;> omega) _)
  have Y0 : Hid ((((w.alloc (Obj.cells #[Value.pointer (some ⟨g, 0, none⟩)] 51)).alloc (Obj.cells #[sv tt] 9)).alloc (Obj.cells #[Value.func (Fn.func F) #[] caps] 1)).heap[w.heap.size]? = some (.cells #[.pointer (some ⟨g, 0, none⟩)] 51 (0, 0))) := Lib.hid (alloc_old' (alloc_old' (alloc_at rfl)))
  have Y1 : Hid ((((w.alloc (Obj.cells #[Value.pointer (some ⟨g, 0, none⟩)] 51)).alloc (Obj.cells #[sv tt] 9)).alloc (Obj.cells #[Value.func (Fn.func F) #[] caps] 1)).heap[w.heap.size + 1]? = some (.cells #[sv tt] 9 (0, 0))) := Lib.hid (alloc_old' (alloc_at (by simp)))
  have Y2 : Hid ((((w.alloc (Obj.cells #[Value.pointer (some ⟨g, 0, none⟩)] 51)).alloc (Obj.cells #[sv tt] 9)).alloc (Obj.cells #[Value.func (Fn.func F) #[] caps] 1)).heap[w.heap.size + 1 + 1]? = some (.cells #[.func (.func F) #[] caps] 1 (0, 0))) := Lib.hid (alloc_at (by simp))
  have HS3 := Lib.hid (HS.out.next B3)
  have HB3 := Lib.hid B3
  clear B3
  generalize (((w.alloc (Obj.cells #[Value.pointer (some ⟨g, 0, none⟩)] 51)).alloc (Obj.cells #[sv tt] 9)).alloc (Obj.cells #[Value.func (Fn.func F) #[] caps] 1)) = w3 at *
  have z0 : w3.cell? ⟨w.heap.size, 0, none⟩ = some (.pointer (some ⟨g, 0, none⟩)) := by rw [Lib.cell_of_heap Y0.out]; rfl
  have z1 : w3.cell? ⟨w.heap.size + 1, 0, none⟩ = some (sv tt) := by rw [Lib.cell_of_heap Y1.out]; rfl
  have z2 : w3.cell? ⟨w.heap.size + 1 + 1, 0, none⟩ = some (.func (.func F) #[] caps) := by rw [Lib.cell_of_heap Y2.out]; rfl
  refine (is_any g d l fr _ HS3.out).mono ?_; rintro e w4 ⟨rfl, rfl⟩
  rw [hi]
  go_wp2_with fail
  refine (wrong_any g d l _ HS3.out).mono ?_; rintro e w4 ⟨⟨er, p, q, r, hne, rfl⟩, b1⟩
  have HN := Lib.hid hne
  clear hne
  go_wp2_with fail
  exact ⟨rfl, (Mod.of_below HB3.out).then (.of_below b1), er, p, q, r, HN.out, rfl⟩
 | true =>
  have HI := Lib.hid (HC.out hi)
  have hl : l ≠ [] := by rintro rfl; cases hi
  obtain ⟨R, hR0⟩ : ∃ R, (k (d + 1) l.tail).bind (fun x r => (want r tt).bind fun _ r => .ok x r) = R := ⟨_, rfl⟩
  have hR1 : (if d = 16 then Res.bad else (k (d + 1) l.tail).bind fun x r => (want r tt).bind fun _ r => .ok x r) = if d = 16 then .bad else R := by rw [hR0]
  simp only [if_true]
  rw [hR1]
  have HR := Lib.hid hR0
  obtain ⟨R2, hR2⟩ : ∃ R2, (if d = 16 then Res.bad else R) = R2 := ⟨_, rfl⟩
  rw [hR2]
  have HR2 := Lib.hid hR2
  clear hR0 hR1 hR2
  clear HC
  have hc1 := Tryz.call164
  go_enter Tryz.func139, Tryz.ntmps139
  go_wp2_with fail
  have B3 : Below w.heap.size w (((w.alloc (Obj.cells #[Value.pointer (some ⟨g, 0, none⟩)] 51)).alloc (Obj.cells #[sv tt] 9)).alloc (Obj.cells #[Value.func (Fn.func F) #[] caps] 1)) := by repeat (first | exact Below.refl _ _ | refine Below.alloc ?_ (by simp <;> omega) _)
  have Y0 : Hid ((((w.alloc (Obj.cells #[Value.pointer (some ⟨g, 0, none⟩)] 51)).alloc (Obj.cells #[sv tt] 9)).alloc (Obj.cells #[Value.func (Fn.func F) #[] caps] 1)).heap[w.heap.size]? = some (.cells #[.pointer (some ⟨g, 0, none⟩)] 51 (0, 0))) := Lib.hid (alloc_old' (alloc_old' (alloc_at rfl)))
  have Y1 : Hid ((((w.alloc (Obj.cells #[Value.pointer (some ⟨g, 0, none⟩)] 51)).alloc (Obj.cells #[sv tt] 9)).alloc (Obj.cells #[Value.func (Fn.func F) #[] caps] 1)).heap[w.heap.size + 1]? = some (.cells #[sv tt] 9 (0, 0))) := Lib.hid (alloc_old' (alloc_at (by simp)))
  have Y2 : Hid ((((w.alloc (Obj.cells #[Value.pointer (some ⟨g, 0, none⟩)] 51)).alloc (Obj.cells #[sv tt] 9)).alloc (Obj.cells #[Value.func (Fn.func F) #[] caps] 1)).heap[w.heap.size + 1 + 1]? = some (.cells #[.func (.func F) #[] caps] 1 (0, 0))) := Lib.hid (alloc_at (by simp))
  have HS3 := Lib.hid (HS.out.next B3)
  have HB3 := Lib.hid B3
  clear B3
  generalize (((w.alloc (Obj.cells #[Value.pointer (some ⟨g, 0, none⟩)] 51)).alloc (Obj.cells #[sv tt] 9)).alloc (Obj.cells #[Value.func (Fn.func F) #[] caps] 1)) = w3 at *
  have z0 : w3.cell? ⟨w.heap.size, 0, none⟩ = some (.pointer (some ⟨g, 0, none⟩)) := by rw [Lib.cell_of_heap Y0.out]; rfl
  have z1 : w3.cell? ⟨w.heap.size + 1, 0, none⟩ = some (sv tt) := by rw [Lib.cell_of_heap Y1.out]; rfl
  have z2 : w3.cell? ⟨w.heap.size + 1 + 1, 0, none⟩ = some (.func (.func F) #[] caps) := by rw [Lib.cell_of_heap Y2.out]; rfl
  refine (is_any g d l fr _ HS3.out).mono ?_; rintro e w4 ⟨rfl, rfl⟩
  rw [hi]
  go_wp2_with fail
  refine (within_any (α := α) g d l 164 #[.pointer (some ⟨w.heap.size + 1 + 1, 0, none⟩), .pointer (some ⟨w.heap.size, 0, none⟩), .pointer (some ⟨w.heap.size + 1, 0, none⟩)] bs R (fun a w' => ∃ W, G a W ∧ Mod [g] W w') w4 HS3.out hl hd HG.out hc1 (fun hd2 W mW pW => ?_)).mono ?_
  ·have mW2 : Mod [g] w W := (Mod.of_below HB3.out).then mW
   have := around1_any (α := α) g (d + 1) l.tail tt F caps bs (k (d + 1) l.tail) G (w.heap.size + 1 + 1) w.heap.size (w.heap.size + 1) W HG.out hcall (mW.box Y2.out (by simp; omega)) (mW.box Y0.out (by simp; omega)) (mW.box Y1.out (by simp; omega)) (fun hx => by have := HB.out _ hx; omega) (fun hx => by have := HB.out _ hx; omega) (HI.out hd2 W mW2 pW)
   rw [HR.out] at this
   exact this
  rintro e w5 ⟨m5, h5⟩
  have M5 : Hid (Mod bs w w5) := Lib.hid ((Mod.of_below HB3.out).then m5)
  rw [HR2.out] at h5
  clear m5
  cases R2 with
  | oof => exact h5.elim
  | bad =>
   obtain ⟨er, p, q, r, hne, rfl⟩ := h5
   have HN := Lib.hid hne
   clear hne
   go_wp2_with fail
   exact ⟨rfl, M5.out, er, p, q, r, HN.out, rfl⟩
  | ok a r =>
   obtain ⟨p5, v, rfl, rfl, W1, ⟨W2, hG, m2⟩, m3⟩ := h5
   have P5 := Lib.hid p5
   have HGG := Lib.hid hG
   have M3 := Lib.hid (m2.then m3)
   clear p5 hG m2 m3
   go_wp2_with fail
   go_end0
   exact ⟨M5.out, P5.out, _, rfl, rfl, W2, HGG.out, M3.out⟩
end Go.Proofs.YtnbmpfdffoidaaaGreatDoor.Y
namespace Go.Proofs.YtnbmpfdffoidaaaGreatDoor.X
open Go.RowKit O V S
theorem joinB_cons (x : List UInt8) (r : List (List UInt8)) : joinB (x :: r) = x ++ Lib.joinTail [32] r := by
 induction r generalizing x with
 | nil => simp [joinB, Lib.joinTail]
 | cons y r ih =>
  have e : joinB (x :: y :: r) = x ++ 32 :: joinB (y :: r) := rfl
  rw [e, ih y]
  simp [Lib.joinTail]
theorem joinB_eq (l : List (List UInt8)) : Lib.join l [32] = joinB l := by
 cases l with
 | nil => rfl
 | cons x r => rw [Lib.join_cons, joinB_cons]
abbrev strV (s : List UInt8) : Value := .string ⟨s.toArray⟩
theorem strE : Elem Tryz.prog 62 9 1 16 (.string ByteArray.empty) := by
 obtain ⟨i, hi, h1, h2, h3⟩ := info_parts (show (Tryz.prog.info? 9).map (fun i => (i.zero, i.size, i.bytes)) = some (some (.string ByteArray.empty), 1, 16) by kernel_rfl)
 exact ⟨Tryz.underlying62, i, hi, h1, h2, h3, rfl, by omega⟩
theorem own_cap {w : World} {base e size n c : Nat} {A : Option Addr} {xs : List Value} (h : w.ownsRow base e size (.slice A n c) n xs) : n ≤ c := by
 rcases h.2 with ⟨hv, h0⟩ | ⟨g, cap, cur, hv, _, _, hnc, _⟩
 ·rw [h0]; exact Nat.zero_le _
 ·injection hv with _ _ hc; rw [hc]; exact hnc
theorem join_rd {w : World} {A : Option Addr} {n c : Nat} (l : List (List UInt8)) (sep : List UInt8) (h : Rd w w.heap.size 1 A n (l.map strV)) (hnc : n ≤ c) (hN : n ≤ 140737488355328) (hlen : (Lib.join l sep).length ≤ 140737488355328) :
  Calls Tryz.prog 23 #[.slice A n c, .string ⟨sep.toArray⟩] w fun e w' => e = .returned (.string ⟨(Lib.join l sep).toArray⟩) ∧ Below w.heap.size w w' := by
 have hl : l.length = n := by have := h.1; simp at this; omega
 rcases Nat.eq_zero_or_pos n with h0 | hn
 ·subst h0
  obtain rfl : l = [] := List.eq_nil_of_length_eq_zero hl
  refine (Tryz.strings_Join_none A c ⟨sep.toArray⟩ w).mono ?_
  rintro e w' ⟨rfl, rfl⟩
  exact ⟨rfl, Below.refl _ _⟩
 obtain ⟨b, off, rfl, hb, hc⟩ := h.pos hn
 have he : (l.map fun s => ByteArray.mk s.toArray).map (·.data.toList) = l := by rw [List.map_map]; exact List.map_id l
 have := Tryz.strings_Join b off c (l.map fun s => ⟨s.toArray⟩) ⟨sep.toArray⟩ w (fun j x hx => by
  have hj : j < l.length := by
   rcases Nat.lt_or_ge j l.length with h | h
   ·exact h
   ·rw [List.getElem?_eq_none (by simpa using h)] at hx; cases hx
  rw [hc j (by omega)]
  simp [hj] at hx
  subst hx
  simp [hj, strV]) hb (by rw [List.length_map]; omega) (by rw [List.length_map]; omega) (by rw [he]; exact hlen)
 rw [he, List.length_map, hl] at this
 exact this
def texts (l : List Tk) : List (List UInt8) := l.map (·.text)
end Go.Proofs.YtnbmpfdffoidaaaGreatDoor.X
