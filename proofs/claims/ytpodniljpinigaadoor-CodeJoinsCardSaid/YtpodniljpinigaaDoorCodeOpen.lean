/- Arguments that are instructions, opened. -/
import Derived.Test.YtpodniljpinigaaDoorCodePrint
import Derived.Test.YtpodniljpinigaaDoorValOpen
namespace Go.Proofs.YtpodniljpinigaaDoor
open Go.ChangeShapes Go.WideShapes Go.ChangeAt Go.RowKit Go.Deep V C

structure InsOk (x : Ins) : Prop where
  op : -9223372036854775808 ≤ x.op ∧ x.op ≤ 9223372036854775807
  fl : ∀ n ∈ fl x, fit n
  v : VOk x.v
def InC (x : Ins) (cs : List Value) : Prop := cs = insC x ∧ InsOk x
def IsIns (v : Value) (x : Ins) : Prop := v = insV x ∧ InsOk x
section
variable {H : Type} {enc : TypeId × Value → H} {W : World} {base : Nat} {spare : Nat → Bool} {held : Bool}
set_option maxRecDepth 100000 in
theorem opens_ins : Opens enc Tryd.prog W base spare held 29 InC := by
  intro fuel cs x h
  obtain ⟨xs, n, _, _, hl, hx, hf⟩ := DataW.trod_struct Tryd.underlying29 h
  have h8 : cs.length = 8 := hl.trans (by kernel_rfl)
  have hx6 : xs.length = 6 := hx
  have he : ∀ i, i < 6 → ∃ y, xs[i]? = some y := fun i hi => ⟨xs[i], List.getElem?_eq_getElem (by omega)⟩
  have c1 : Tryd.prog.cellsOf 3 = 1 := by kernel_rfl
  have c3 : Tryd.prog.cellsOf 27 = 3 := by kernel_rfl
  obtain ⟨y0, q0⟩ := he 0 (by omega)
  obtain ⟨y1, q1⟩ := he 1 (by omega)
  obtain ⟨y2, q2⟩ := he 2 (by omega)
  obtain ⟨y3, q3⟩ := he 3 (by omega)
  obtain ⟨y4, q4⟩ := he 4 (by omega)
  obtain ⟨y5, q5⟩ := he 5 (by omega)
  obtain ⟨a0, e0, _, h0⟩ := DataW.trod_int (k := .i64) Tryd.underlying3 ((hf 0 _ rfl).trans q0)
  obtain ⟨a1, e1, _, h1⟩ := DataW.trod_int (k := .i64) Tryd.underlying3 ((hf 1 _ rfl).trans q1)
  obtain ⟨a2, e2, _, h2⟩ := DataW.trod_int (k := .i64) Tryd.underlying3 ((hf 2 _ rfl).trans q2)
  obtain ⟨a3, e3, _, h3⟩ := DataW.trod_int (k := .i64) Tryd.underlying3 ((hf 3 _ rfl).trans q3)
  obtain ⟨a4, e4, _, h4⟩ := DataW.trod_int (k := .i64) Tryd.underlying3 ((hf 4 _ rfl).trans q4)
  obtain ⟨v, e5, hv⟩ := opens_val _ _ _ ((hf 5 _ rfl).trans q5)
  replace e0 : List.take (Tryd.prog.cellsOf 3) (cs.drop 0) = [.int .i64 a0] := e0
  replace e1 : List.take (Tryd.prog.cellsOf 3) (cs.drop 1) = [.int .i64 a1] := e1
  replace e2 : List.take (Tryd.prog.cellsOf 3) (cs.drop 2) = [.int .i64 a2] := e2
  replace e3 : List.take (Tryd.prog.cellsOf 3) (cs.drop 3) = [.int .i64 a3] := e3
  replace e4 : List.take (Tryd.prog.cellsOf 3) (cs.drop 4) = [.int .i64 a4] := e4
  replace e5 : List.take (Tryd.prog.cellsOf 27) (cs.drop 5) = [.int .i64 v.k, .int .i64 v.n, .string ⟨v.s.toArray⟩] := e5
  rw [c1] at e0 e1 e2 e3 e4
  rw [c3] at e5
  match cs, h8 with
  | [u0, u1, u2, u3, u4, u5, u6, u7], _ =>
    simp at e0 e1 e2 e3 e4 e5
    obtain ⟨rfl, rfl, rfl⟩ := e5
    subst e0 e1 e2 e3 e4
    refine ⟨⟨a0, a1, a2, a3, a4, v⟩, rfl, bounds_i64 h0, ?_, hv⟩
    intro n hn
    simp only [C.fl, List.mem_cons, List.not_mem_nil, or_false] at hn
    rcases hn with rfl | rfl | rfl | rfl
    · exact bounds_i64 h1
    · exact bounds_i64 h2
    · exact bounds_i64 h3
    · exact bounds_i64 h4
set_option maxRecDepth 100000 in
theorem open_api_Ins {r : Reach} {b0 : Nat} {v : Value} {d : DataW H} {p : List MemPlace} (hv : Value.okWide Tryd.prog W r b0 29 v) (h : DataW.Trod enc Tryd.prog W base spare held 29 v d p) : ∃ x, IsIns v x := by
  obtain ⟨cs, rfl, _⟩ := okWide_struct Tryd.underlying29 hv
  obtain ⟨fuel, hf⟩ := h
  obtain ⟨x, hx, ho⟩ := opens_ins _ _ _ hf
  exact ⟨x, by rw [insV]; congr; apply Array.ext'; simpa [Value.cells] using hx, ho⟩
end
end Go.Proofs.YtpodniljpinigaaDoor
