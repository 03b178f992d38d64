/- Arguments of law22, opened: rows of numbers, rows of rows, two numbers. -/
import Derived.Test.YtpdfhbgemmpleaaWtRow
import Derived.OpenShut
import Derived.ProofKit
namespace Go.Proofs.Ytpdfhbgemmpleaa
open Go.ChangeShapes Go.WideShapes Go.ChangeAt Go.RowKit Go.Deep T

/-- A row of numbers that came in. -/
def IsNs (w : World) (v : Value) (l : List Int) : Prop := ∃ A n c, v = .slice A n c ∧ NRow w A n c l ∧ (∀ x ∈ l, wf x) ∧ c ≤ maxLen
/-- Rows of numbers that came in. -/
def IsFs (w : World) (v : Value) (l : List (List Int)) : Prop := ∃ A n c, v = .slice A n c ∧ FRow w A n c l ∧ (∀ f ∈ l, ∀ x ∈ f, wf x) ∧ c ≤ maxLen
def IsTwo (v : Value) (x : Int × Int) : Prop := v = .agg #[.int .i64 x.1, .int .i64 x.2] ∧ wf x.1 ∧ wf x.2
section
variable {H : Type} {enc : TypeId × Value → H} {W : World} {base : Nat} {spare : Nat → Bool} {held : Bool}
def IC (n : Int) (cs : List Value) : Prop := cs = [.int .i64 n] ∧ (Lit.int .i64 n).wf = true
theorem IC.size : ∀ (n : Int) (vs : List Value), IC n vs → vs.length = 1 := by rintro n vs ⟨rfl, _⟩; rfl
theorem IC.out : ∀ {l : List Int} {xs : List Value}, Reps IC l xs → xs = iv l ∧ ∀ x ∈ l, wf x
  | [], xs, h => by simp only [Reps] at h; subst h; exact ⟨rfl, by simp⟩
  | n :: l, xs, h => by
    obtain ⟨vs, ys, rfl, ⟨rfl, hw⟩, k⟩ := h
    obtain ⟨rfl, h2⟩ := IC.out k
    refine ⟨rfl, fun x hx => ?_⟩
    rcases List.mem_cons.1 hx with rfl | hx
    · exact wf.of hw
    · exact h2 x hx
def FC (w : World) (l : List Int) (cs : List Value) : Prop := ∃ A n c xs, cs = [.slice A n c] ∧ Rd w w.heap.size 1 A n xs ∧ Reps IC l xs ∧ n ≤ c ∧ c ≤ maxLen
theorem FC.size (w : World) : ∀ (l : List Int) (vs : List Value), FC w l vs → vs.length = 1 := by rintro l vs ⟨A, n, c, xs, rfl, _⟩; rfl
theorem FC.out {w : World} : ∀ {l : List (List Int)} {xs : List Value}, Reps (FC w) l xs → Reps (NsC w) l xs ∧ ∀ f ∈ l, ∀ x ∈ f, wf x
  | [], xs, h => by simp only [Reps] at h; subst h; exact ⟨rfl, by simp⟩
  | f :: l, xs, h => by
    obtain ⟨vs, ys, rfl, ⟨A, n, c, zs, rfl, h1, h2, h3, _⟩, k⟩ := h
    obtain ⟨rfl, h5⟩ := IC.out h2
    obtain ⟨h6, h7⟩ := FC.out k
    refine ⟨⟨_, _, rfl, ⟨A, n, c, rfl, ⟨h1, h3⟩⟩, h6⟩, fun g hg => ?_⟩
    rcases List.mem_cons.1 hg with rfl | hg
    · exact h5
    · exact h7 g hg
theorem opens_i : Opens enc Try.prog W base spare held 3 IC := opens_int Try.underlying3
theorem opens_f : Opens enc Try.prog W base spare held 22 (FC W) := by
  intro fuel cs x h
  obtain ⟨l, A, n, c, xs, h1, h2, h3, h4, h5⟩ := opens_rows IC.size (by omega) Try.underlying22 (by kernel_rfl) opens_i _ _ _ h
  exact ⟨l, A, n, c, xs, h1, h2, h3, h4, h5⟩
theorem open_row_int {r : Reach} {b0 : Nat} {v : Value} {d : DataW H} {p : List MemPlace} (hv : Value.okWide Try.prog W r b0 22 v) (h : DataW.Trod enc Try.prog W base spare held 22 v d p) : ∃ x, IsNs W v x := by
  obtain ⟨l, A, n, c, xs, rfl, h1, h2, h3, h4⟩ := open_rows_arg IC.size (by omega) Try.underlying22 (by kernel_rfl) opens_i hv h
  obtain ⟨rfl, hw⟩ := IC.out h2
  exact ⟨l, A, n, c, rfl, ⟨h1, h3⟩, hw, h4⟩
theorem open_rows_int {r : Reach} {b0 : Nat} {v : Value} {d : DataW H} {p : List MemPlace} (hv : Value.okWide Try.prog W r b0 23 v) (h : DataW.Trod enc Try.prog W base spare held 23 v d p) : ∃ x, IsFs W v x := by
  obtain ⟨l, A, n, c, xs, rfl, h1, h2, h3, h4⟩ := open_rows_arg (FC.size W) (by omega) Try.underlying23 (by kernel_rfl) opens_f hv h
  obtain ⟨h5, h6⟩ := FC.out h2
  exact ⟨l, A, n, c, rfl, ⟨⟨xs, h1, h5⟩, h3⟩, h6, h4⟩
theorem open_two_int {r : Reach} {b0 : Nat} {v : Value} {d : DataW H} {p : List MemPlace} (hv : Value.okWide Try.prog W r b0 24 v) (h : DataW.Trod enc Try.prog W base spare held 24 v d p) : ∃ x, IsTwo v x := by
  have hu := Try.underlying24
  unfold Value.okWide at hv
  rw [hu] at hv
  obtain ⟨cs, rfl, _, _⟩ := hv
  obtain ⟨fuel, hf⟩ := h
  obtain ⟨xs, m, _, _, hl, hxl, hi⟩ := DataW.trod_array hu hf
  have h2 : cs.toList.length = 2 := hl.trans (by kernel_rfl)
  have hc : Try.prog.cellsOf 3 = 1 := by kernel_rfl
  obtain ⟨cl⟩ := cs
  simp only [Value.cells] at hi h2
  match cl, h2 with
  | [v0, v1], _ =>
    have i0 := hi 0 (by omega)
    have i1 := hi 1 (by omega)
    rw [hc, List.getElem?_eq_getElem (by omega)] at i0 i1
    obtain ⟨a, e0, _, ha⟩ := DataW.trod_int (k := .i64) Try.underlying3 i0
    obtain ⟨b, e1, _, hb⟩ := DataW.trod_int (k := .i64) Try.underlying3 i1
    simp at e0 e1
    subst e0 e1
    exact ⟨(a, b), rfl, wf.of ha, wf.of hb⟩
end
end Go.Proofs.Ytpdfhbgemmpleaa
