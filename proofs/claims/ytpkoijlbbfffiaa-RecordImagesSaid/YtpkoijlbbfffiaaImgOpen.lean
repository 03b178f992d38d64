/- Arguments that are images, opened; what LightImage and RightImage say of an image. -/
import Derived.Test.YtpkoijlbbfffiaaImgGet
import Derived.Test.YtpkoijlbbfffiaaImgRef
import Derived.Test.YtpkoijlbbfffiaaRecordFacts
namespace Go.Proofs.Ytpkoijlbbfffiaa
open Go.ChangeShapes Go.WideShapes Go.ChangeAt Go.RowKit Go.Deep V R

def IsImg (w : World) (v : Value) (m : Img) : Prop := ∃ s : IS, v = imv m s ∧ ImgAt w m s
theorem intC_out : ∀ {l : List Int} {xs : List Value}, Reps (fun (n : Int) cs => cs = [Value.int .i64 n] ∧ (Lit.int .i64 n).wf = true) l xs → xs = ivz l ∧ ∀ x ∈ l, In64 x
  | [], xs, h => by simp only [Reps] at h; subst h; exact ⟨rfl, by simp⟩
  | n :: l, xs, h => by
    obtain ⟨vs, ys, rfl, ⟨rfl, hw⟩, k⟩ := h
    obtain ⟨rfl, h2⟩ := intC_out k
    refine ⟨rfl, fun x hx => ?_⟩
    rcases List.mem_cons.1 hx with rfl | hx
    · exact bounds_i64 hw
    · exact h2 x hx
section
variable {H : Type} {enc : TypeId × Value → H} {W : World} {base : Nat} {spare : Nat → Bool} {held : Bool}
set_option maxRecDepth 100000 in
theorem opens_inst : Opens enc Try.prog W base spare held 143 (InC W) := by
  intro fuel cs x h
  obtain ⟨hl, n, hf⟩ := opens_fields Try.underlying143 (by kernel_rfl) h
  have h6 : cs.length = 6 := hl.trans (by kernel_rfl)
  match cs, h6 with
  | [v0, v1, v2, v3, v4, v5], _ =>
    obtain ⟨y0, t0⟩ := hf 0 _ v0 rfl rfl
    obtain ⟨y1, t1⟩ := hf 1 _ v1 rfl rfl
    obtain ⟨y2, t2⟩ := hf 2 _ v2 rfl rfl
    obtain ⟨y3, t3⟩ := hf 3 _ v3 rfl rfl
    obtain ⟨y4, t4⟩ := hf 4 _ v4 rfl rfl
    obtain ⟨y5, t5⟩ := hf 5 _ v5 rfl rfl
    obtain ⟨i, e0, _, hi⟩ := DataW.trod_int (k := .i64) Try.underlying3 t0
    obtain ⟨p, e1, _, hp⟩ := DataW.trod_int (k := .i64) Try.underlying3 t1
    obtain ⟨c, e2, _, hc⟩ := DataW.trod_int (k := .i64) Try.underlying3 t2
    obtain ⟨f, e3, _, hz⟩ := DataW.trod_int (k := .i64) Try.underlying3 t3
    obtain ⟨l4, s4, e4, r4⟩ := opens_vals _ _ _ t4
    obtain ⟨l5, s5, e5, r5⟩ := opens_vals _ _ _ t5
    injection e0 with e0
    injection e1 with e1
    injection e2 with e2
    injection e3 with e3
    injection e4 with e4
    injection e5 with e5
    subst e0 e1 e2 e3 e4 e5
    exact ⟨⟨i, p, c, f, l4, l5⟩, s4, s5, rfl, r4, r5, ⟨bounds_i64 hi, bounds_i64 hp⟩, bounds_i64 hc, bounds_i64 hz⟩
set_option maxRecDepth 100000 in
theorem opens_insts : Opens enc Try.prog W base spare held 73 fun (l : List Ins) cs => ∃ s : Sl, cs = [.slice s.A s.n s.c] ∧ IRow W s.A s.n s.c l := by
  intro fuel cs x h
  obtain ⟨l, A, n, c, xs, e, h1, h2, h3, h4⟩ := opens_rows InC.size (by omega) Try.underlying73 (by kernel_rfl) opens_inst _ _ _ h
  exact ⟨l, ⟨A, n, c⟩, e, xs, h1, h2, h3, h4⟩
set_option maxRecDepth 100000 in
theorem opens_ints : Opens enc Try.prog W base spare held 74 fun (l : List Int) cs => ∃ s : Sl, cs = [.slice s.A s.n s.c] ∧ R.NRow W s.A s.n s.c l := by
  intro fuel cs x h
  obtain ⟨l, A, n, c, xs, e, h1, h2, h3, h4⟩ := opens_rows (rep := fun (n : Int) cs => cs = [Value.int .i64 n] ∧ (Lit.int .i64 n).wf = true) (size := 1) (by rintro a vs ⟨rfl, _⟩; rfl) (by omega) Try.underlying74 (by kernel_rfl) (opens_int Try.underlying3) _ _ _ h
  obtain ⟨rfl, hw⟩ := intC_out h2
  exact ⟨l, ⟨A, n, c⟩, e, h1, h3, h4, hw⟩
set_option maxRecDepth 100000 in
theorem open_api_Image {r : Reach} {b0 : Nat} {v : Value} {d : DataW H} {p : List MemPlace} (hv : Value.okWide Try.prog W r b0 76 v) (h : DataW.Trod enc Try.prog W base spare held 76 v d p) : ∃ x, IsImg W v x := by
  obtain ⟨cs, rfl, _⟩ := okWide_struct Try.underlying76 hv
  obtain ⟨fuel, hf⟩ := h
  obtain ⟨hl, n, hff⟩ := opens_fields Try.underlying76 (by kernel_rfl) hf
  have h4 : cs.toList.length = 4 := hl.trans (by kernel_rfl)
  obtain ⟨cl⟩ := cs
  simp only [Value.cells] at hff h4
  match cl, h4 with
  | [v0, v1, v2, v3], _ =>
    obtain ⟨y0, t0⟩ := hff 0 _ v0 rfl rfl
    obtain ⟨y1, t1⟩ := hff 1 _ v1 rfl rfl
    obtain ⟨y2, t2⟩ := hff 2 _ v2 rfl rfl
    obtain ⟨y3, t3⟩ := hff 3 _ v3 rfl rfl
    obtain ⟨tx, e0, _⟩ := opens_string Try.underlying9 _ _ _ t0
    obtain ⟨l1, s1, e1, r1⟩ := opens_chgs _ _ _ t1
    obtain ⟨l2, s2, e2, r2⟩ := opens_insts _ _ _ t2
    obtain ⟨l3, s3, e3, r3⟩ := opens_ints _ _ _ t3
    injection e0 with e0
    injection e1 with e1
    injection e2 with e2
    injection e3 with e3
    subst e0 e1 e2 e3
    exact ⟨⟨tx, l1, l2, l3⟩, ⟨s1, s2, s3⟩, rfl, r1, r2, r3⟩
end
end Go.Proofs.Ytpkoijlbbfffiaa
namespace Go.Proofs.Ytpkoijlbbfffiaa.R
open Go.RowKit O V
theorem light_img {m : Img} (h : lightImg m = true) : (m.insts.length ≤ 20 ∧ m.order.length ≤ 40) ∧ m.text.length ≤ 1500 ∧ lightH m.rows = true ∧ m.insts.all lightI = true := by
  unfold lightImg at h
  simp only [Bool.and_eq_true, decide_eq_true_eq] at h
  exact ⟨⟨h.1, h.2.1⟩, h.2.2.1, h.2.2.2.1, h.2.2.2.2⟩
theorem light_shortM {m : Img} (h : lightImg m = true) : ShortM m := by
  obtain ⟨⟨_, h2⟩, _, h4, h5⟩ := light_img h
  unfold lightH at h4
  simp only [Bool.and_eq_true] at h4
  have f : ∀ {l : List Val}, lightR l = true → ∀ v ∈ l, v.s.length ≤ 1000000000000 := fun hl v hv => by have := (lightR_all hl).2 v hv; omega
  refine ⟨fun c hc => f (List.all_eq_true.1 h4.2 c hc), fun x hx => ?_, by omega⟩
  have := List.all_eq_true.1 h5 x hx
  unfold lightI at this
  simp only [Bool.and_eq_true] at this
  exact ⟨f this.1, f this.2⟩
theorem irow_facts {w : World} {A : Option Addr} {n c : Nat} {l : List Ins} (h : IRow w A n c l) : ∀ x ∈ l, (∀ v ∈ x.emits, VOk v) ∧ ∀ v ∈ x.locals, VOk v := by
  intro x hx
  obtain ⟨k, hk, rfl⟩ := List.getElem_of_mem hx
  obtain ⟨b, off, e, s, _, _, hv, hw, _⟩ := h.at_ hk
  exact ⟨hv.oks, hw.oks⟩
theorem okI_parts {x : Ins} (h : okI x = true) : (((0 ≤ x.id ∧ x.id ≤ 1073741824) ∧ 0 ≤ x.proc ∧ x.proc ≤ 1073741824) ∧ (0 ≤ x.piece ∧ x.piece ≤ 1073741824) ∧ 0 ≤ x.fin ∧ x.fin ≤ 1073741824) ∧ okR x.emits = true ∧ okR x.locals = true := by
  unfold okI at h
  simp only [Bool.and_eq_true] at h
  obtain ⟨h1, h2, h3⟩ := h
  simp [okN] at h1
  exact ⟨by omega, h2, h3⟩
theorem mok {w : World} {m : Img} {s : IS} (h : ImgAt w m s) (hl : lightImg m = true) (hr : rightImg m = true) : MOk m := by
  obtain ⟨⟨h1, h2⟩, h3, h4, h5⟩ := light_img hl
  unfold rightImg at hr
  simp only [Bool.and_eq_true] at hr
  obtain ⟨r1, r2, r3⟩ := hr
  unfold lightH at h4
  simp only [Bool.and_eq_true, decide_eq_true_eq] at h4
  refine ⟨h3, ⟨h4.1, fun x hx => ?_⟩, ⟨h1, fun x hx => ?_⟩, h2, fun x hx => ?_⟩
  · have g := hrow_facts h.r x hx
    have hx1 := List.all_eq_true.1 h4.2 x hx
    have hx2 := List.all_eq_true.1 r2 x hx
    rw [okG_eq x _ rfl] at hx2
    simp [okN] at hx2
    exact ⟨hx1, hx2.1.1, hx2.1.2, g.2.1, g.2.2, g.1⟩
  · have g := irow_facts h.i x hx
    have hx1 := List.all_eq_true.1 h5 x hx
    have hx2 := okI_parts (List.all_eq_true.1 r1 x hx)
    unfold lightI at hx1
    simp only [Bool.and_eq_true] at hx1
    exact ⟨hx2.1, hx1.1, hx1.2, g.1, g.2⟩
  · have hx2 := List.all_eq_true.1 r3 x hx
    simp [okN] at hx2
    exact hx2
theorem mok2 {w : World} {m : Img} {s : IS} (h : ImgAt w m s) (hl : lightImg m = true) (hr : rightImg m = true) : MOk2 m := by
  have hk := mok h hl hr
  unfold rightImg at hr
  simp only [Bool.and_eq_true] at hr
  obtain ⟨r1, r2, r3⟩ := hr
  have f : ∀ {l : List Val}, okR l = true → (∀ v ∈ l, VOk v) → lightR l = true → (∀ v ∈ l, badV v = false ∧ VOk v) ∧ l.length ≤ 20 := fun h1 h2 h3 => by
    refine ⟨fun v hv => ⟨?_, h2 v hv⟩, (lightR_all h3).1⟩
    unfold okR at h1
    simp at h1
    exact h1 v hv
  refine ⟨hk.t, ⟨fun x hx => ?_, hk.r.1⟩, ⟨fun x hx => ?_, hk.i.1⟩, hk.o.2, hk.o.1⟩
  · have c := hk.r.2 x hx
    have hx2 := List.all_eq_true.1 r2 x hx
    rw [okG_eq x _ rfl] at hx2
    simp only [Bool.and_eq_true] at hx2
    have g := f hx2.2.2 c.o c.l
    refine ⟨c.t0, c.t1, c.k1, c.k2, g.1, g.2, fun hg => ?_⟩
    have := hx2.2.1
    rw [hg] at this
    simp at this
    exact this
  · have c := hk.i.2 x hx
    have hx2 := okI_parts (List.all_eq_true.1 r1 x hx)
    exact ⟨hx2.1, f hx2.2.1 c.ve c.e, f hx2.2.2 c.vl c.l⟩
end Go.Proofs.Ytpkoijlbbfffiaa.R
