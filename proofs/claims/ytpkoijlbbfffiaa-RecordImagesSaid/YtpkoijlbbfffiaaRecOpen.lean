/- Arguments that are changes or records, opened; billhooklaw23's lives. -/
import Derived.Test.YtpkoijlbbfffiaaSchOpen
import Derived.Test.YtpkoijlbbfffiaaRecPut3
namespace Go.Proofs.Ytpkoijlbbfffiaa
open Go.ChangeShapes Go.WideShapes Go.ChangeAt Go.RowKit Go.Deep V R

def IsChg (w : World) (v : Value) (x : Chg) : Prop := ∃ s : Sl, v = cgv x s ∧ VRow w s.A s.n s.c x.row ∧ (-9223372036854775808 ≤ x.table ∧ x.table ≤ 9223372036854775807) ∧ -9223372036854775808 ≤ x.key ∧ x.key ≤ 9223372036854775807
def IsRec (w : World) (v : Value) (x : Rec) : Prop := ∃ s : RS, v = rv x s ∧ RecAt w x s ∧ ((-9223372036854775808 ≤ x.inst ∧ x.inst ≤ 9223372036854775807) ∧ (-9223372036854775808 ≤ x.proc ∧ x.proc ≤ 9223372036854775807)) ∧ (-9223372036854775808 ≤ x.piece ∧ x.piece ≤ 9223372036854775807) ∧ -9223372036854775808 ≤ x.fin ∧ x.fin ≤ 9223372036854775807
section
variable {H : Type} {enc : TypeId × Value → H} {W : World} {base : Nat} {spare : Nat → Bool} {held : Bool}
set_option maxRecDepth 100000 in
theorem opens_vals : Opens enc Try.prog W base spare held 34 fun (l : List Val) cs => ∃ s : Sl, cs = [.slice s.A s.n s.c] ∧ VRow W s.A s.n s.c l := by
  intro fuel cs x h
  obtain ⟨l, A, n, c, xs, e, h1, h2, h3, h4⟩ := opens_rows ValC.size (by omega) Try.underlying34 (by kernel_rfl) opens_val _ _ _ h
  exact ⟨l, ⟨A, n, c⟩, e, xs, h1, h2, h3, h4⟩
set_option maxRecDepth 100000 in
theorem opens_chg : Opens enc Try.prog W base spare held 42 (ChC W) := by
  intro fuel cs x h
  obtain ⟨hl, n, hf⟩ := opens_fields Try.underlying42 (by kernel_rfl) h
  have h4 : cs.length = 4 := hl.trans (by kernel_rfl)
  match cs, h4 with
  | [v0, v1, v2, v3], _ =>
    obtain ⟨y0, t0⟩ := hf 0 _ v0 rfl rfl
    obtain ⟨y1, t1⟩ := hf 1 _ v1 rfl rfl
    obtain ⟨y2, t2⟩ := hf 2 _ v2 rfl rfl
    obtain ⟨y3, t3⟩ := hf 3 _ v3 rfl rfl
    obtain ⟨k, e0, _, hk⟩ := DataW.trod_int (k := .i64) Try.underlying3 t0
    obtain ⟨m, e1, _, hm⟩ := DataW.trod_int (k := .i64) Try.underlying2 t1
    obtain ⟨g, e2, _⟩ := DataW.trod_bool Try.underlying4 t2
    obtain ⟨l, s, e3, hv⟩ := opens_vals _ _ _ t3
    injection e0 with e0
    injection e1 with e1
    injection e2 with e2
    injection e3 with e3
    subst e0 e1 e2 e3
    exact ⟨⟨k, m, g, l⟩, s, rfl, hv, bounds_i64 hk, bounds_i64 hm⟩
set_option maxRecDepth 100000 in
theorem opens_chgs : Opens enc Try.prog W base spare held 35 fun (l : List Chg) cs => ∃ s : Sl, cs = [.slice s.A s.n s.c] ∧ HRow W s.A s.n s.c l := by
  intro fuel cs x h
  obtain ⟨l, A, n, c, xs, e, h1, h2, h3, h4⟩ := opens_rows ChC.size (by omega) Try.underlying35 (by kernel_rfl) opens_chg _ _ _ h
  exact ⟨l, ⟨A, n, c⟩, e, xs, h1, h2, h3, h4⟩
set_option maxRecDepth 100000 in
theorem open_api_Change {r : Reach} {b0 : Nat} {v : Value} {d : DataW H} {p : List MemPlace} (hv : Value.okWide Try.prog W r b0 42 v) (h : DataW.Trod enc Try.prog W base spare held 42 v d p) : ∃ x, IsChg W v x := by
  obtain ⟨cs, rfl, _⟩ := okWide_struct Try.underlying42 hv
  obtain ⟨fuel, hf⟩ := h
  obtain ⟨x, s, hx, ho⟩ := opens_chg _ _ _ hf
  refine ⟨x, s, ?_, ho⟩
  rw [cgv]; congr; apply Array.ext'; simpa [Value.cells] using hx
set_option maxRecDepth 100000 in
theorem open_api_Record {r : Reach} {b0 : Nat} {v : Value} {d : DataW H} {p : List MemPlace} (hv : Value.okWide Try.prog W r b0 37 v) (h : DataW.Trod enc Try.prog W base spare held 37 v d p) : ∃ x, IsRec W v x := by
  obtain ⟨cs, rfl, _⟩ := okWide_struct Try.underlying37 hv
  obtain ⟨fuel, hf⟩ := h
  obtain ⟨hl, n, hff⟩ := opens_fields Try.underlying37 (by kernel_rfl) hf
  have h8 : cs.toList.length = 8 := hl.trans (by kernel_rfl)
  obtain ⟨cl⟩ := cs
  simp only [Value.cells] at hff h8
  match cl, h8 with
  | [v0, v1, v2, v3, v4, v5, v6, v7], _ =>
    obtain ⟨y0, t0⟩ := hff 0 _ v0 rfl rfl
    obtain ⟨y1, t1⟩ := hff 1 _ v1 rfl rfl
    obtain ⟨y2, t2⟩ := hff 2 _ v2 rfl rfl
    obtain ⟨y3, t3⟩ := hff 3 _ v3 rfl rfl
    obtain ⟨y4, t4⟩ := hff 4 _ v4 rfl rfl
    obtain ⟨y5, t5⟩ := hff 5 _ v5 rfl rfl
    obtain ⟨y6, t6⟩ := hff 6 _ v6 rfl rfl
    obtain ⟨y7, t7⟩ := hff 7 _ v7 rfl rfl
    obtain ⟨i, e0, _, hi⟩ := DataW.trod_int (k := .i64) Try.underlying3 t0
    obtain ⟨p, e1, _, hp⟩ := DataW.trod_int (k := .i64) Try.underlying3 t1
    obtain ⟨c, e2, _, hc⟩ := DataW.trod_int (k := .i64) Try.underlying3 t2
    obtain ⟨f, e3, _, hz⟩ := DataW.trod_int (k := .i64) Try.underlying3 t3
    obtain ⟨l4, s4, e4, r4⟩ := opens_vals _ _ _ t4
    obtain ⟨l5, s5, e5, r5⟩ := opens_vals _ _ _ t5
    obtain ⟨l6, s6, e6, r6⟩ := opens_vals _ _ _ t6
    obtain ⟨l7, s7, e7, r7⟩ := opens_chgs _ _ _ t7
    injection e0 with e0
    injection e1 with e1
    injection e2 with e2
    injection e3 with e3
    injection e4 with e4
    injection e5 with e5
    injection e6 with e6
    injection e7 with e7
    subst e0 e1 e2 e3 e4 e5 e6 e7
    exact ⟨⟨i, p, c, f, l4, l5, l6, l7⟩, ⟨s4, s5, s6, s7⟩, rfl, ⟨r4, r5, r6, r7⟩, ⟨bounds_i64 hi, bounds_i64 hp⟩, bounds_i64 hc, bounds_i64 hz⟩
end
end Go.Proofs.Ytpkoijlbbfffiaa
namespace Go.Proofs.Ytpkoijlbbfffiaa.R
open Go.RowKit O V
def nilS : Sl := ⟨none, 0, 0⟩
theorem VRow.nil (w : World) : VRow w none 0 0 [] := ⟨[], Rd.nil_, rfl, Nat.le_refl _, by omega⟩
theorem HRow.nil (w : World) : HRow w none 0 0 [] := ⟨[], Rd.nil_, rfl, Nat.le_refl _, by omega⟩
set_option maxRecDepth 100000 in
theorem livesR_any (w : World) : Calls Try.prog 23 #[] w fun e w' => e = .returned (.bool true) ∧ Below w.heap.size w w' := by
  have hp : putRec ⟨1, 0, 0, 0, [], [], [], []⟩ = [1, 0, 0, 0, 0, 0, 0, 0] := by decide +kernel
  have HP := Lib.hid hp
  clear hp
  go_enter Try.func23, Try.ntmps23
  go_wp2_with fail
  refine (putRec_any ⟨1, 0, 0, 0, [], [], [], []⟩ ⟨nilS, nilS, nilS, nilS⟩ _ ⟨VRow.nil _, VRow.nil _, VRow.nil _, HRow.nil _⟩ ⟨by decide, rfl, rfl, rfl, by simp, by simp⟩).mono ?_; rintro e w1 ⟨A1, n1, c1, rfl, o1, b1⟩
  rw [HP.out] at o1
  have q := strq (c := c1) (Rd.of_own o1)
  go_wp2_with fail
  go_ret
  exact ⟨rfl, b1⟩
end Go.Proofs.Ytpkoijlbbfffiaa.R
