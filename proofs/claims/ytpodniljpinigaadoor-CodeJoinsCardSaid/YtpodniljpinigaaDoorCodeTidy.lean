/- The contract of the reference's Tidy. -/
import Derived.Test.YtpodniljpinigaaDoorCodeOpen2
namespace Go.Proofs.YtpodniljpinigaaDoor.C
open Go.RowKit O V

theorem vneq_yes {x y : Val} (h : x ≠ y) (w : World) : (binOp .neq 27 (.agg #[.int .i64 x.k, .int .i64 x.n, .string ⟨x.s.toArray⟩]) (.agg #[.int .i64 y.k, .int .i64 y.n, .string ⟨y.s.toArray⟩])).run Tryd.prog w = .ok (.bool true) w := by
  go_simp
  exact fun h1 h2 h3 => h (Val.same h1 h2 h3)
theorem vneq_no (x : Val) (w : World) : (binOp .neq 27 (.agg #[.int .i64 x.k, .int .i64 x.n, .string ⟨x.s.toArray⟩]) (.agg #[.int .i64 x.k, .int .i64 x.n, .string ⟨x.s.toArray⟩])).run Tryd.prog w = .ok (.bool false) w := by
  go_simp
/-- What Tidy says. -/
def RetT (x : Ins) (w : World) (e : Ending) (w' : World) : Prop := (∃ f, e = .returned (.bool f) ∧ (f = true → tidy x)) ∧ Below w.heap.size w w'
theorem retT_no {x : Ins} {w w' : World} (b : Below w.heap.size w w') : RetT x w (.returned (.bool false)) w' := ⟨⟨false, rfl, fun h => by cases h⟩, b⟩
set_option maxHeartbeats 4000000 in
set_option maxRecDepth 100000 in
theorem rtidy_any (x : Ins) (w : World) (hs : x.v.s.length ≤ 1000) (hf : ∀ n ∈ fl x, fit n) (hv : fit x.v.n) : Calls Tryd.prog 8 #[insV x] w (RetT x w) := by
  obtain ⟨op, a, b, c, d, v⟩ := x
  have HFT := Lib.hid hf
  have hX1 := heap_alloc_new w (.cells (insC ⟨op, a, b, c, d, v⟩).toArray 29)
  have hW1 : Below w.heap.size w (w.alloc (.cells (insC ⟨op, a, b, c, d, v⟩).toArray 29)) := (Below.refl _ _).alloc (Nat.le_refl _) _
  clear hf
  unfold insV
  unfold insC at *
  dsimp only at hX1 hW1 hs hv ⊢
  have HW1 := Lib.hid hW1
  have hsz : (ByteArray.mk v.s.toArray).size = v.s.length := by simp [ByteArray.size]
  by_cases h1 : op < 1
  · have d1 : decide (op < 1) = true := by simpa using h1
    obtain ⟨x0, x1, x2, x3, x4, x5, x6, x7⟩ := cells8c hX1
    go_enter Tryd.func8, Tryd.ntmps8
    go_wp2_with fail
    go_ret
    exact retT_no HW1.out
  · have d1 : decide (op < 1) = false := by simpa using h1
    by_cases h2 : op > 17
    · have d2 : decide (op > 17) = true := by simpa using h2
      obtain ⟨x0, x1, x2, x3, x4, x5, x6, x7⟩ := cells8c hX1
      go_enter Tryd.func8, Tryd.ntmps8
      go_wp2_with fail
      go_ret
      exact retT_no HW1.out
    · have d2 : decide (op > 17) = false := by simpa using h2
      have hlo : 1 ≤ op := by omega
      have hhi : op ≤ 17 := by omega
      by_cases h3 : op = 1
      · have d3 : (op != 1) = false := by simpa using h3
        have d4 : (op == 1) = true := by simpa using h3
        cases hr : right v
        · obtain ⟨x0, x1, x2, x3, x4, x5, x6, x7⟩ := cells8c hX1
          clear h1 h2 h3
          go_enter Tryd.func8, Tryd.ntmps8
          go_wp2_with fail
          refine (rright_any v _ (by omega)).mono ?_; rintro e w3 ⟨rfl, b3⟩
          rw [hr]
          go_wp2_with fail
          go_ret
          exact retT_no (bthen HW1.out b3)
        · have HV0 : Hid (op ≠ 1 → v = zV) := Lib.hid (fun h => absurd h3 h)
          have HV1 : Hid (op = 1 → goodV v) := Lib.hid (fun _ => ⟨hr, hv⟩)
          obtain ⟨x0, x1, x2, x3, x4, x5, x6, x7⟩ := cells8c hX1
          have HX1 := Lib.hid hX1
          clear h1 h2 h3 hX1 hW1
          go_enter Tryd.func8, Tryd.ntmps8
          go_wp2_with fail
          refine (rright_any v _ (by omega)).mono ?_; rintro e w3 ⟨rfl, b3⟩
          rw [hr]
          have hX3 := box_next HX1.out b3
          have hW3 := bthen HW1.out b3
          clear x0 x1 x2 x3 x4 x5 x6 x7 HX1 HW1 b3 hr
          generalize hV1 : w3 = V1 at *
          clear hV1
          have hP2 := heap_alloc_new V1 (.cells #[.int .i64 a, .int .i64 b, .int .i64 c, .int .i64 d] 3)
          have hX2 := box_next hX3 ((Below.refl V1.heap.size V1).alloc (Nat.le_refl _) (.cells #[.int .i64 a, .int .i64 b, .int .i64 c, .int .i64 d] 3))
          have HW2 := Lib.hid (bthen hW3 ((Below.refl V1.heap.size V1).alloc (Nat.le_refl _) (.cells #[.int .i64 a, .int .i64 b, .int .i64 c, .int .i64 d] 3)))
          have HP2 := Lib.hid hP2
          obtain ⟨x0, x1, x2, x3, x4, x5, x6, x7⟩ := cells8c hX3
          obtain ⟨y0, y1, y2, y3, y4, y5, y6, y7⟩ := cells8c hX2
          clear hP2 hX2
          clear hX3 hW3
          go_wp2_with fail
          obtain ⟨F, hF⟩ : ∃ F, fieldsI op = F := ⟨_, rfl⟩
          have hF4 := fields_le op
          rw [hF] at hF4
          have HFF := Lib.hid hF
          clear hF
          generalize V1.alloc (.cells #[.int .i64 a, .int .i64 b, .int .i64 c, .int .i64 d] 3) = V2 at *
          generalize V1.heap.size = gb at *
          go_loop [2, 45] (fun _ iv => ∃ j : Nat, j ≤ 4 ∧ iv = .int .i64 (j : Int) ∧ Hid (∀ i, F ≤ i → i < j → ([a, b, c, d] : List Int).getD i 0 = 0)) (fun _ iv => 4 - (intOf iv).toNat)
          case atStart => exact ⟨0, by omega, rfl, Lib.hid (fun i _ h => by omega)⟩
          case round =>
            obtain ⟨j, hj, rfl, HZ⟩ := hrel
            by_cases hlt : j < 4
            · have hji : (j : Int) < 4 := by omega
              obtain ⟨n, hn⟩ : ∃ n, ([a, b, c, d] : List Int).getD j 0 = n := ⟨_, rfl⟩
              have q1 : V2.cell? ⟨gb, j, none⟩ = some (.int .i64 n) := by
                rw [Lib.cell_of_heap HP2.out, ← hn]
                match j, hlt with
                | 0, _ => rfl
                | 1, _ => rfl
                | 2, _ => rfl
                | 3, _ => rfl
              have HN := Lib.hid hn
              clear hn
              go_wp2_with fail
              refine (rfields_any op _).mono ?_; rintro e w2 ⟨rfl, rfl⟩
              rw [HFF.out]
              by_cases hjF : (j : Int) ≥ (F : Int)
              · have d1 : decide ((j : Int) ≥ (F : Int)) = true := by simpa using hjF
                by_cases hn0 : n = 0
                · have d2 : (n != 0) = false := by simpa using hn0
                  go_wp2_with fail
                  go_round
                  case rel => exact ⟨j + 1, by omega, by go_num, Lib.hid (fun i h1 h2 => by
                    rcases Nat.lt_or_ge i j with h | h
                    · exact HZ.out i h1 h
                    · obtain rfl : i = j := by omega
                      rw [HN.out, hn0])⟩
                  case measure => simp [intOf]; omega
                · have d2 : (n != 0) = true := by simpa using hn0
                  go_wp2_with fail
                  go_ret
                  exact retT_no HW2.out
              · have d1 : decide ((j : Int) ≥ (F : Int)) = false := by simpa using hjF
                have hjF2 : j < F := by omega
                go_wp2_with fail
                go_round
                case rel => exact ⟨j + 1, by omega, by go_num, Lib.hid (fun i h1 h2 => HZ.out i h1 (by omega))⟩
                case measure => simp [intOf]; omega
            · obtain rfl : j = 4 := by omega
              go_wp2_with fail
              go_ret
              refine ⟨⟨true, rfl, fun _ => ⟨by assumption, by assumption, HV0.out, HV1.out, fun i hi => ?_, HFT.out⟩⟩, HW2.out⟩
              rcases Nat.lt_or_ge i 4 with h | h
              · exact HZ.out i (by rw [← HFF.out]; exact hi) h
              · simp only [fl]
                rw [List.getD_eq_getElem?_getD, List.getElem?_eq_none (by simpa using h)]; rfl
      · have d3 : (op != 1) = true := by simpa using h3
        have d4 : (op == 1) = false := by simpa using h3
        obtain ⟨x0, x1, x2, x3, x4, x5, x6, x7⟩ := cells8c hX1
        by_cases h5 : v = zV
        · have qn : ∀ w, (binOp .neq 27 (.agg #[.int .i64 v.k, .int .i64 v.n, .string ⟨v.s.toArray⟩]) (.agg #[.int .i64 0, .int .i64 0, .string ⟨#[]⟩])).run Tryd.prog w = .ok (.bool false) w := fun w => by
            rw [h5]; exact vneq_no zV w
          have HV0 : Hid (op ≠ 1 → v = zV) := Lib.hid (fun _ => h5)
          have HV1 : Hid (op = 1 → goodV v) := Lib.hid (fun h => absurd h h3)
          have hX3 := hX1
          have hW3 := HW1.out
          clear h1 h2 h3 h5 hX1 hW1 HW1
          go_enter Tryd.func8, Tryd.ntmps8
          go_wp2_with fail
          have hS : (w.alloc (.cells #[.int .i64 op, .int .i64 a, .int .i64 b, .int .i64 c, .int .i64 d, .int .i64 v.k, .int .i64 v.n, .string ⟨v.s.toArray⟩] 29)).heap.size = w.heap.size + 1 := by simp
          clear x0 x1 x2 x3 x4 x5 x6 x7
          generalize (w.alloc (.cells #[.int .i64 op, .int .i64 a, .int .i64 b, .int .i64 c, .int .i64 d, .int .i64 v.k, .int .i64 v.n, .string ⟨v.s.toArray⟩] 29)) = V1 at *
          rw [← hS]
          have hP2 := heap_alloc_new V1 (.cells #[.int .i64 a, .int .i64 b, .int .i64 c, .int .i64 d] 3)
          have hX2 := box_next hX3 ((Below.refl V1.heap.size V1).alloc (Nat.le_refl _) (.cells #[.int .i64 a, .int .i64 b, .int .i64 c, .int .i64 d] 3))
          have HW2 := Lib.hid (bthen hW3 ((Below.refl V1.heap.size V1).alloc (Nat.le_refl _) (.cells #[.int .i64 a, .int .i64 b, .int .i64 c, .int .i64 d] 3)))
          have HP2 := Lib.hid hP2
          obtain ⟨x0, x1, x2, x3, x4, x5, x6, x7⟩ := cells8c hX3
          obtain ⟨y0, y1, y2, y3, y4, y5, y6, y7⟩ := cells8c hX2
          clear hP2 hX2
          clear hX3 hW3 hS
          obtain ⟨F, hF⟩ : ∃ F, fieldsI op = F := ⟨_, rfl⟩
          have hF4 := fields_le op
          rw [hF] at hF4
          have HFF := Lib.hid hF
          clear hF
          generalize V1.alloc (.cells #[.int .i64 a, .int .i64 b, .int .i64 c, .int .i64 d] 3) = V2 at *
          generalize V1.heap.size = gb at *
          go_loop [2, 45] (fun _ iv => ∃ j : Nat, j ≤ 4 ∧ iv = .int .i64 (j : Int) ∧ Hid (∀ i, F ≤ i → i < j → ([a, b, c, d] : List Int).getD i 0 = 0)) (fun _ iv => 4 - (intOf iv).toNat)
          case atStart => exact ⟨0, by omega, rfl, Lib.hid (fun i _ h => by omega)⟩
          case round =>
            obtain ⟨j, hj, rfl, HZ⟩ := hrel
            by_cases hlt : j < 4
            · have hji : (j : Int) < 4 := by omega
              obtain ⟨n, hn⟩ : ∃ n, ([a, b, c, d] : List Int).getD j 0 = n := ⟨_, rfl⟩
              have q1 : V2.cell? ⟨gb, j, none⟩ = some (.int .i64 n) := by
                rw [Lib.cell_of_heap HP2.out, ← hn]
                match j, hlt with
                | 0, _ => rfl
                | 1, _ => rfl
                | 2, _ => rfl
                | 3, _ => rfl
              have HN := Lib.hid hn
              clear hn
              go_wp2_with fail
              refine (rfields_any op _).mono ?_; rintro e w2 ⟨rfl, rfl⟩
              rw [HFF.out]
              by_cases hjF : (j : Int) ≥ (F : Int)
              · have d1 : decide ((j : Int) ≥ (F : Int)) = true := by simpa using hjF
                by_cases hn0 : n = 0
                · have d2 : (n != 0) = false := by simpa using hn0
                  go_wp2_with fail
                  go_round
                  case rel => exact ⟨j + 1, by omega, by go_num, Lib.hid (fun i h1 h2 => by
                    rcases Nat.lt_or_ge i j with h | h
                    · exact HZ.out i h1 h
                    · obtain rfl : i = j := by omega
                      rw [HN.out, hn0])⟩
                  case measure => simp [intOf]; omega
                · have d2 : (n != 0) = true := by simpa using hn0
                  go_wp2_with fail
                  go_ret
                  exact retT_no HW2.out
              · have d1 : decide ((j : Int) ≥ (F : Int)) = false := by simpa using hjF
                have hjF2 : j < F := by omega
                go_wp2_with fail
                go_round
                case rel => exact ⟨j + 1, by omega, by go_num, Lib.hid (fun i h1 h2 => HZ.out i h1 (by omega))⟩
                case measure => simp [intOf]; omega
            · obtain rfl : j = 4 := by omega
              go_wp2_with fail
              go_ret
              refine ⟨⟨true, rfl, fun _ => ⟨by assumption, by assumption, HV0.out, HV1.out, fun i hi => ?_, HFT.out⟩⟩, HW2.out⟩
              rcases Nat.lt_or_ge i 4 with h | h
              · exact HZ.out i (by rw [← HFF.out]; exact hi) h
              · simp only [fl]
                rw [List.getD_eq_getElem?_getD, List.getElem?_eq_none (by simpa using h)]; rfl
        · have qn : ∀ w, (binOp .neq 27 (.agg #[.int .i64 v.k, .int .i64 v.n, .string ⟨v.s.toArray⟩]) (.agg #[.int .i64 0, .int .i64 0, .string ⟨#[]⟩])).run Tryd.prog w = .ok (.bool true) w := fun w => vneq_yes (y := zV) h5 w
          clear h1 h2 h3 h5
          go_enter Tryd.func8, Tryd.ntmps8
          go_wp2_with fail
          go_ret
          exact retT_no HW1.out
end Go.Proofs.YtpodniljpinigaaDoor.C
