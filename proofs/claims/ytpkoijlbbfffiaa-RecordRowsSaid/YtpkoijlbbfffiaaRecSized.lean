/- A record as an argument, with how long its changes and what it tells may be. -/
import Derived.Test.YtpkoijlbbfffiaaRecOpen
import Derived.Test.YtpkoijlbbfffiaaSized
namespace Go.Proofs.Ytpkoijlbbfffiaa
open Go.ChangeShapes Go.WideShapes Go.ChangeAt Go.RowKit Go.Deep V R
def IsRecW (w : World) (v : Value) (x : Rec) : Prop := IsRec w v x ∧ x.changes.length * 48 ≤ 140737488351232 ∧ x.emits.length * 32 ≤ 140737488351232
section
variable {H : Type} {enc : TypeId × Value → H} {W : World} {base : Nat} {spare : Nat → Bool} {held : Bool}
theorem bytesChg : Try.prog.bytesOf 42 = 48 := by kernel_rfl
theorem bytesVal : Try.prog.bytesOf 23 = 32 := by kernel_rfl
set_option maxRecDepth 100000 in
theorem open_api_RecordW {r : Reach} {b0 : Nat} {v : Value} {d : DataW H} {p : List MemPlace} (hv : Value.okWide Try.prog W r b0 37 v) (h : DataW.Trod enc Try.prog W base spare held 37 v d p) (hw : ∀ n ∈ d.weights Try.prog 37, n ≤ reachBytes) : ∃ x, IsRecW W v x := by
  obtain ⟨x, s, hs, hr, ho⟩ := open_api_Record hv h
  refine ⟨x, ⟨s, hs, hr, ho⟩, ?_⟩
  subst hs
  obtain ⟨fuel, hf⟩ := h
  obtain ⟨hl, n, hff⟩ := opens_fieldsW Try.underlying37 (by kernel_rfl) hf hw
  obtain ⟨y5, t5, u5⟩ := hff 5 _ _ rfl rfl
  obtain ⟨y7, t7, u7⟩ := hff 7 _ _ rfl rfl
  have g5 := slice_weight Try.underlying34 t5 u5
  have g7 := slice_weight Try.underlying35 t7 u7
  rw [bytesVal, ← hr.e.len] at g5
  rw [bytesChg, ← hr.c.len] at g7
  unfold reachBytes at g5 g7
  exact ⟨g7, g5⟩
end
end Go.Proofs.Ytpkoijlbbfffiaa
