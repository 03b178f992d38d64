/- Arguments that are codes, opened; the reference's Tidy. -/
import Derived.Test.YtpodniljpinigaaDoorCodeAll2
namespace Go.Proofs.YtpodniljpinigaaDoor
open Go.ChangeShapes Go.WideShapes Go.ChangeAt Go.RowKit Go.Deep V C

structure CdOk (x : Cd) : Prop where
  i : ∀ y ∈ x.ins, InsOk y
  r : fit x.r
  l : fit x.l
  k : fit x.k
def IsCode (w : World) (v : Value) (x : Cd) : Prop := ∃ A n c, v = cdV A n c x.r x.l x.k ∧ IRow w A n c x.ins ∧ CdOk x ∧ c ≤ maxLen
section
variable {H : Type} {enc : TypeId × Value → H} {W : World} {base : Nat} {spare : Nat → Bool} {held : Bool}
theorem InC.size : ∀ (x : Ins) (vs : List Value), InC x vs → vs.length = 8 := by rintro x vs ⟨rfl, _⟩; rfl
set_option maxRecDepth 100000 in
theorem open_api_Code {r : Reach} {b0 : Nat} {v : Value} {d : DataW H} {p : List MemPlace} (hv : Value.okWide Tryd.prog W r b0 24 v) (h : DataW.Trod enc Tryd.prog W base spare held 24 v d p) : ∃ x, IsCode W v x := by
  obtain ⟨cs, rfl, _⟩ := okWide_struct Tryd.underlying24 hv
  obtain ⟨fuel, hf⟩ := h
  obtain ⟨hlen, n, hff⟩ := opens_fields Tryd.underlying24 (by kernel_rfl) hf
  have h4 : cs.toList.length = 4 := hlen.trans (by kernel_rfl)
  obtain ⟨cl⟩ := cs
  simp only [Value.cells] at hff h4
  match cl, h4 with
  | [v0, v1, v2, v3], _ =>
    obtain ⟨y0, t0⟩ := hff 0 _ v0 rfl rfl
    obtain ⟨y1, t1⟩ := hff 1 _ v1 rfl rfl
    obtain ⟨y2, t2⟩ := hff 2 _ v2 rfl rfl
    obtain ⟨y3, t3⟩ := hff 3 _ v3 rfl rfl
    obtain ⟨xs, A, n, c, vs, e0, h1, h2, h3, h4⟩ := opens_rows InC.size (by omega) Tryd.underlying22 (by kernel_rfl) opens_ins _ _ _ t0
    obtain ⟨r, e1, _, hr⟩ := DataW.trod_int (k := .i64) Tryd.underlying3 t1
    obtain ⟨l, e2, _, hl⟩ := DataW.trod_int (k := .i64) Tryd.underlying3 t2
    obtain ⟨k, e3, _, hk⟩ := DataW.trod_int (k := .i64) Tryd.underlying3 t3
    injection e0 with e0
    injection e1 with e1
    injection e2 with e2
    injection e3 with e3
    subst e0 e1 e2 e3
    exact ⟨⟨r, l, k, xs⟩, A, n, c, rfl, ⟨⟨vs, h1, h2.imp InsD.of⟩, h3⟩, ⟨Reps.ok (fun _ _ h => h.2) h2, bounds_i64 hr, bounds_i64 hl, bounds_i64 hk⟩, h4⟩
end
end Go.Proofs.YtpodniljpinigaaDoor
namespace Go.Proofs.YtpodniljpinigaaDoor.C
open Go.RowKit O V
theorem InsOk.okP {x : Ins} (h : InsOk x) (hs : x.v.s.length ≤ 1000) : okP x := ⟨hs, h.fl, h.v.n1, h.v.n2⟩
/-- An instruction of little text is short. -/
theorem light_len {x : Ins} (h : okP x) (hs : x.v.s.length ≤ 100) : (printI x).length ≤ 1500 := by
  have h1 := jn_len (wordsI x.op ((fl x).take (fieldsI x.op)) x.v) 230 (by
    intro w hw
    unfold wordsI at hw
    simp only [List.mem_cons, List.mem_append, List.mem_map] at hw
    rcases hw with rfl | ⟨n, hn, rfl⟩ | hw
    · have := name_len x.op; omega
    · have hf := h.f n (List.mem_of_mem_take hn); have := V.decL_len n hf.1 hf.2; omega
    · unfold tailI at hw
      split at hw
      · rw [List.mem_singleton] at hw; rw [hw]; have := printV_len x.v h.v; omega
      · simp at hw)
  have h2 : (wordsI x.op ((fl x).take (fieldsI x.op)) x.v).length ≤ 6 := by
    have : ((fl x).take (fieldsI x.op)).length ≤ 4 := by rw [List.length_take]; have : (fl x).length = 4 := rfl; omega
    have ht : (tailI x.op x.v).length ≤ 1 := by unfold tailI; split <;> simp
    unfold wordsI
    rw [List.length_cons, List.length_append, List.length_map]
    omega
  unfold printI
  exact Nat.le_trans h1 (Nat.le_trans (Nat.mul_le_mul_right _ h2) (by decide))
end Go.Proofs.YtpodniljpinigaaDoor.C
