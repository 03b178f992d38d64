/- An argument that is a row of tables, opened. -/
import Derived.Test.YtpkoijlbbfffiaaSchChk
namespace Go.Proofs.Ytpkoijlbbfffiaa
open Go.ChangeShapes Go.WideShapes Go.ChangeAt Go.RowKit Go.Deep V R
def IsTabs (w : World) (v : Value) (l : List Tab) : Prop := ∃ A n c, v = .slice A n c ∧ TRow w A n c l
section
variable {H : Type} {enc : TypeId × Value → H} {W : World} {base : Nat} {spare : Nat → Bool} {held : Bool}
set_option maxRecDepth 100000 in
theorem opens_tab : Opens enc Try.prog W base spare held 61 (TabC W) := by
  intro fuel cs x h
  obtain ⟨hl, n, hff⟩ := opens_fields Try.underlying61 (by kernel_rfl) h
  have h3 : cs.length = 3 := hl.trans (by kernel_rfl)
  match cs, h3 with
  | [v0, v1, v2], _ =>
    obtain ⟨y0, t0⟩ := hff 0 _ v0 rfl rfl
    obtain ⟨y1, t1⟩ := hff 1 _ v1 rfl rfl
    obtain ⟨y2, t2⟩ := hff 2 _ v2 rfl rfl
    obtain ⟨l, e0, hb⟩ := opens_string Try.underlying9 _ _ _ t0
    obtain ⟨m, e1, _, hm⟩ := DataW.trod_int (k := .i64) Try.underlying3 t1
    obtain ⟨cols, A, len, cap, xs, e2, h1, h2, h4, h5⟩ := opens_rows ColC.size (by omega) Try.underlying59 (by kernel_rfl) opens_col _ _ _ t2
    injection e0 with e0
    injection e1 with e1
    injection e2 with e2
    subst e0 e1 e2
    have hm' := bounds_i64 hm
    exact ⟨⟨l, m, cols⟩, ⟨A, len, cap⟩, rfl, ⟨xs, h1, h2, h4, h5⟩, hb, hm'.1, hm'.2⟩
set_option maxRecDepth 100000 in
theorem open_rows_api_Table {r : Reach} {b0 : Nat} {v : Value} {d : DataW H} {p : List MemPlace} (hv : Value.okWide Try.prog W r b0 58 v) (h : DataW.Trod enc Try.prog W base spare held 58 v d p) : ∃ x, IsTabs W v x := by
  obtain ⟨l, A, n, c, xs, e, h1, h2, h3, h4⟩ := open_rows_arg TabC.size (by omega) Try.underlying58 (by kernel_rfl) opens_tab hv h
  exact ⟨l, A, n, c, e, xs, h1, h2, h3, h4⟩
end
end Go.Proofs.Ytpkoijlbbfffiaa
