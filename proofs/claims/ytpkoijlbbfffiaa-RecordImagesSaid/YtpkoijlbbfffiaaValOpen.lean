/- Arguments that are values or types, opened. -/
import Derived.Test.YtpkoijlbbfffiaaValFns
import Derived.Test.YtpkoijlbbfffiaaReps
namespace Go.Proofs.Ytpkoijlbbfffiaa
open Go.ChangeShapes Go.WideShapes Go.ChangeAt Go.RowKit Go.Deep V

/-- What is known of a value that came in. -/
structure VOk (x : Val) : Prop where
  n1 : -9223372036854775808 ≤ x.n
  n2 : x.n ≤ 9223372036854775807
  k1 : -9223372036854775808 ≤ x.k
  k2 : x.k ≤ 9223372036854775807
  s : x.s.length ≤ maxLen
def ValC (x : Val) (cs : List Value) : Prop := cs = [.int .i64 x.k, .int .i64 x.n, .string ⟨x.s.toArray⟩] ∧ VOk x
def IsVal (v : Value) (x : Val) : Prop := v = vv x ∧ VOk x
def IsTy (v : Value) (x : Int × Int) : Prop := v = tv x.1 x.2 ∧ -9223372036854775808 ≤ x.1 ∧ x.1 ≤ 9223372036854775807 ∧ -9223372036854775808 ≤ x.2 ∧ x.2 ≤ 9223372036854775807
section
variable {H : Type} {enc : TypeId × Value → H} {W : World} {base : Nat} {spare : Nat → Bool} {held : Bool}
theorem opens_val : Opens enc Try.prog W base spare held 23 ValC := by
  intro fuel cs x h
  obtain ⟨hl, n, hf⟩ := opens_fields Try.underlying23 (by kernel_rfl) h
  have h3 : cs.length = 3 := hl.trans (by kernel_rfl)
  match cs, h3 with
  | [v0, v1, v2], _ =>
    obtain ⟨y0, t0⟩ := hf 0 _ v0 rfl rfl
    obtain ⟨y1, t1⟩ := hf 1 _ v1 rfl rfl
    obtain ⟨y2, t2⟩ := hf 2 _ v2 rfl rfl
    obtain ⟨k, e0, _, hk⟩ := DataW.trod_int (k := .i64) Try.underlying3 t0
    obtain ⟨m, e1, _, hm⟩ := DataW.trod_int (k := .i64) Try.underlying2 t1
    obtain ⟨l, e2, hb⟩ := opens_string Try.underlying9 _ _ _ t2
    injection e0 with e0
    injection e1 with e1
    injection e2 with e2
    subst e0 e1 e2
    have hk' := bounds_i64 hk
    have hm' := bounds_i64 hm
    exact ⟨⟨k, m, l⟩, rfl, hm'.1, hm'.2, hk'.1, hk'.2, hb⟩
theorem opens_ty : Opens enc Try.prog W base spare held 25 fun (x : Int × Int) cs => cs = [.int .i64 x.1, .int .i64 x.2] ∧ -9223372036854775808 ≤ x.1 ∧ x.1 ≤ 9223372036854775807 ∧ -9223372036854775808 ≤ x.2 ∧ x.2 ≤ 9223372036854775807 := by
  intro fuel cs x h
  obtain ⟨hl, n, hf⟩ := opens_fields Try.underlying25 (by kernel_rfl) h
  have h3 : cs.length = 2 := hl.trans (by kernel_rfl)
  match cs, h3 with
  | [v0, v1], _ =>
    obtain ⟨y0, t0⟩ := hf 0 _ v0 rfl rfl
    obtain ⟨y1, t1⟩ := hf 1 _ v1 rfl rfl
    obtain ⟨k, e0, _, hk⟩ := DataW.trod_int (k := .i64) Try.underlying3 t0
    obtain ⟨m, e1, _, hm⟩ := DataW.trod_int (k := .i64) Try.underlying3 t1
    injection e0 with e0
    injection e1 with e1
    subst e0 e1
    have hk' := bounds_i64 hk
    have hm' := bounds_i64 hm
    exact ⟨⟨k, m⟩, rfl, hk'.1, hk'.2, hm'.1, hm'.2⟩
set_option maxRecDepth 100000 in
theorem open_api_Value {r : Reach} {b0 : Nat} {v : Value} {d : DataW H} {p : List MemPlace} (hv : Value.okWide Try.prog W r b0 23 v) (h : DataW.Trod enc Try.prog W base spare held 23 v d p) : ∃ x, IsVal v x := by
  obtain ⟨cs, rfl, _⟩ := okWide_struct Try.underlying23 hv
  obtain ⟨fuel, hf⟩ := h
  obtain ⟨x, hx, ho⟩ := opens_val _ _ _ hf
  exact ⟨x, by rw [vv]; congr; apply Array.ext'; simpa [Value.cells] using hx, ho⟩
set_option maxRecDepth 100000 in
theorem open_api_Type {r : Reach} {b0 : Nat} {v : Value} {d : DataW H} {p : List MemPlace} (hv : Value.okWide Try.prog W r b0 25 v) (h : DataW.Trod enc Try.prog W base spare held 25 v d p) : ∃ x, IsTy v x := by
  obtain ⟨cs, rfl, _⟩ := okWide_struct Try.underlying25 hv
  obtain ⟨fuel, hf⟩ := h
  obtain ⟨x, hx, ho⟩ := opens_ty _ _ _ hf
  exact ⟨x, by rw [tv]; congr; apply Array.ext'; simpa [Value.cells] using hx, ho⟩
end
end Go.Proofs.Ytpkoijlbbfffiaa
