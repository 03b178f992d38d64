/- A row of things to do, as an argument. -/
import Derived.Test.YtkcehoejcklmfaaDiskOps
namespace Go.Proofs.Ytkcehoejcklmfaa
open Go.ChangeShapes Go.WideShapes Go.ChangeAt Go.RowKit Go.Deep K

section
variable {H : Type} {enc : TypeId × Value → H} {W : World} {base : Nat} {spare : Nat → Bool} {held : Bool}
theorem opens_op : Opens enc Try.prog W base spare held 33 (OpC W W.heap.size) := by
  intro fuel cs x h
  obtain ⟨hl, n, hf⟩ := opens_fields Try.underlying33 (by kernel_rfl) h
  have h3 : cs.length = 3 := hl.trans (by kernel_rfl)
  match cs, h3 with
  | [v0, v1, v2], _ =>
    obtain ⟨y0, t0⟩ := hf 0 _ v0 rfl rfl
    obtain ⟨y1, t1⟩ := hf 1 _ v1 rfl rfl
    obtain ⟨y2, t2⟩ := hf 2 _ v2 rfl rfl
    obtain ⟨k, e0, _, hk⟩ := DataW.trod_int (k := .u64) Try.underlying30 t0
    obtain ⟨m, e1, _, hm⟩ := DataW.trod_int (k := .i64) Try.underlying3 t1
    obtain ⟨l, A, len, cap, e2, hb, hlc, hcm⟩ := opens_bytes Try.underlying31 Try.underlying5 (by kernel_rfl) _ _ _ t2
    injection e0 with e0
    injection e1 with e1
    injection e2 with e2
    subst e0 e1 e2
    have hk' := bounds_u64 hk
    refine ⟨⟨k.toNat, m, l⟩, A, len, cap, ?_, hb, hlc, hcm⟩
    have : ((k.toNat : Nat) : Int) = k := by omega
    simp [this]
set_option maxRecDepth 100000 in
theorem open_billhooklaw03_Op {r : Reach} {b0 : Nat} {v : Value} {d : DataW H} {p : List MemPlace} (hv : Value.okWide Try.prog W r b0 22 v) (h : DataW.Trod enc Try.prog W base spare held 22 v d p) : ∃ l, IsOps W W.heap.size v l := by
  obtain ⟨l, A, n, c, xs, h1⟩ := open_rows_arg OpC.size (by omega) Try.underlying22 (by kernel_rfl) opens_op hv h
  exact ⟨l, A, n, c, xs, h1⟩
end
end Go.Proofs.Ytkcehoejcklmfaa
