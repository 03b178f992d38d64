/- Arguments that are rows of values, or tables, opened. -/
import Derived.Test.YtpkoijlbbfffiaaSchRow
namespace Go.Proofs.Ytpkoijlbbfffiaa
open Go.ChangeShapes Go.WideShapes Go.ChangeAt Go.RowKit Go.Deep V R

def IsVals (w : World) (v : Value) (l : List Val) : Prop := ∃ A n c, v = .slice A n c ∧ VRow w A n c l
structure Tab where
  name : List UInt8
  rows : Int
  cols : List TCol
def IsTab (w : World) (v : Value) (t : Tab) : Prop := ∃ A n c, v = tab t.name t.rows A n c ∧ CRow w A n c t.cols ∧ t.name.length ≤ 9223372036854775807 ∧ -9223372036854775808 ≤ t.rows ∧ t.rows ≤ 9223372036854775807
section
variable {H : Type} {enc : TypeId × Value → H} {W : World} {base : Nat} {spare : Nat → Bool} {held : Bool}
set_option maxRecDepth 100000 in
theorem open_rows_api_Value {r : Reach} {b0 : Nat} {v : Value} {d : DataW H} {p : List MemPlace} (hv : Value.okWide Try.prog W r b0 34 v) (h : DataW.Trod enc Try.prog W base spare held 34 v d p) : ∃ x, IsVals W v x := by
  obtain ⟨l, A, n, c, xs, e, h1, h2, h3, h4⟩ := open_rows_arg ValC.size (by omega) Try.underlying34 (by kernel_rfl) opens_val hv h
  exact ⟨l, A, n, c, e, xs, h1, h2, h3, h4⟩
set_option maxRecDepth 100000 in
theorem opens_col : Opens enc Try.prog W base spare held 131 ColC := by
  intro fuel cs x h
  obtain ⟨xs, n, _, _, hl, hlen, hf⟩ := DataW.trod_struct Try.underlying131 h
  have h3 : cs.length = 3 := hl.trans (by kernel_rfl)
  match cs, h3 with
  | [v0, v1, v2], _ =>
    have t0 : DataW.trod enc Try.prog W base spare held n 9 (([v0, v1, v2].drop 0).take (Try.prog.cellsOf 9)) = xs[0]? := hf 0 _ rfl
    have t1 : DataW.trod enc Try.prog W base spare held n 25 (([v0, v1, v2].drop 1).take (Try.prog.cellsOf 25)) = xs[1]? := hf 1 _ rfl
    rw [show Try.prog.cellsOf 9 = 1 by kernel_rfl] at t0
    rw [show Try.prog.cellsOf 25 = 2 by kernel_rfl] at t1
    have hx2 : xs.length = 2 := hlen
    rw [List.getElem?_eq_getElem (by omega)] at t0 t1
    obtain ⟨l, e0, hb⟩ := opens_string Try.underlying9 _ _ _ t0
    obtain ⟨y, e1, hy⟩ := opens_ty _ _ _ t1
    simp at e0 e1
    obtain ⟨e1, e2⟩ := e1
    subst e0 e1 e2
    exact ⟨⟨l, y.1, y.2⟩, rfl, hb⟩
set_option maxRecDepth 100000 in
theorem open_api_Table {r : Reach} {b0 : Nat} {v : Value} {d : DataW H} {p : List MemPlace} (hv : Value.okWide Try.prog W r b0 61 v) (h : DataW.Trod enc Try.prog W base spare held 61 v d p) : ∃ x, IsTab W v x := by
  obtain ⟨cs, rfl, _⟩ := okWide_struct Try.underlying61 hv
  obtain ⟨fuel, hf⟩ := h
  obtain ⟨hl, n, hff⟩ := opens_fields Try.underlying61 (by kernel_rfl) hf
  have h3 : cs.toList.length = 3 := hl.trans (by kernel_rfl)
  obtain ⟨cl⟩ := cs
  simp only [Value.cells] at hff h3
  match cl, h3 with
  | [v0, v1, v2], _ =>
    obtain ⟨y0, t0⟩ := hff 0 _ v0 rfl rfl
    obtain ⟨y1, t1⟩ := hff 1 _ v1 rfl rfl
    obtain ⟨y2, t2⟩ := hff 2 _ v2 rfl rfl
    obtain ⟨l, e0, hb⟩ := opens_string Try.underlying9 _ _ _ t0
    obtain ⟨m, e1, _, hm⟩ := DataW.trod_int (k := .i64) Try.underlying3 t1
    obtain ⟨cols, A, len, cap, xs, e2, h1, h2, h4, h5⟩ := opens_rows ColC.size (by omega) Try.underlying59 (by kernel_rfl) opens_col _ _ _ t2
    injection e0 with e0
    injection e1 with e1
    injection e2 with e2
    subst e0 e1 e2
    have hm' := bounds_i64 hm
    exact ⟨⟨l, m, cols⟩, A, len, cap, rfl, ⟨xs, h1, h2, h4, h5⟩, hb, hm'.1, hm'.2⟩
end
end Go.Proofs.Ytpkoijlbbfffiaa
