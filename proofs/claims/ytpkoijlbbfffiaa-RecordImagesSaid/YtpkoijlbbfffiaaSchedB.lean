/- As Sched, for regions whose reads look at some blocks alone, which the calls and stores let alone. -/
import Derived.Test.YtpkoijlbbfffiaaBase
import Derived.OrdersHeld
import Derived.Deep.RegionHeld
import Derived.Deep.RegionHeld3
namespace Go.Proofs.Ytpkoijlbbfffiaa
open Go.RowKit

/-- The blocks bs lie as they lay. -/
def KB (bs : List Nat) (w W : World) : Prop := ∀ b ∈ bs, W.heap[b]? = w.heap[b]?
theorem KB.refl (bs : List Nat) (w : World) : KB bs w w := fun _ _ => rfl
theorem KB.trans {bs : List Nat} {a b c : World} (h : KB bs a b) (k : KB bs b c) : KB bs a c := fun x hx => (k x hx).trans (h x hx)
theorem KB.one {b : Nat} {w W : World} (h : KB [b] w W) {o : Obj} (hb : w.heap[b]? = some o) : W.heap[b]? = some o := (h b (by simp)).trans hb
theorem KB.of_below {bs : List Nat} {w W : World} (h : Below w.heap.size w W) (hb : ∀ b ∈ bs, b < w.heap.size) : KB bs w W := fun b hx => h.block b (hb b hx)

section
variable {P : Program} {ops : Array Oper} {Q : Exit → Act → World → Prop} {md : Region.Mode} {bs : List Nat}

theorem wpAnyH_impB {S S' : World → Prop} (h : ∀ W, S' W → S W) : ∀ (fuel : Nat) (listed : Array Bool) (a : Act) (w : World), wpAnyH P md ops Q S' fuel listed a w → wpAnyH P md ops Q S fuel listed a w
  | 0, _, _, _, hh => hh
  | fuel + 1, _, _, _, hh => ⟨hh.1, fun i hi => wpOp_mono (fun a' w' h' => ⟨h w' h'.1, wpAnyH_impB h fuel _ a' w' h'.2⟩) (hh.2 i hi)⟩

/-- The schedule's walk: (i, true): operation i reads; (i, false): it is carried out. -/
def wpSchedB (bs : List Nat) (P : Program) (ops : Array Oper) (Q : Exit → Act → World → Prop) : List (Nat × Bool) → Act → World → Prop
  | [], a, w => Q .normal a w
  | (i, true) :: rest, a, w => ∃ o, ops[i]? = some o ∧
      ((Region.wanted o (yielded ops a.tmps) = true ∧ ∃ v, (∀ W, KB bs w W → (execOp a.eval o).run P W = .ok (.value v) W) ∧ wpSchedB bs P ops Q rest (a.put o.dst v) w) ∨
       (Region.wanted o (yielded ops a.tmps) = false ∧ wpSchedB bs P ops Q rest (a.put o.dst undef) w))
  | (i, false) :: rest, a, w => ∃ o, ops[i]? = some o ∧
      ((Region.wanted o (yielded ops a.tmps) = true ∧ o.wp P a w (fun a' w' => KB bs w w' ∧ wpSchedB bs P ops Q rest a' w') Q) ∨
       (Region.wanted o (yielded ops a.tmps) = false ∧ wpSchedB bs P ops Q rest (a.put o.dst undef) w))

/-- Is the schedule one that serves every order? -/
def schedOkB (md : Region.Mode) (ops : Array Oper) : Array Bool → List (Nat × Bool) → Bool
  | listed, [] => (Region.ready md ops listed).isEmpty
  | listed, (i, true) :: rest => Region.free md ops listed i && (Region.ready md ops listed).contains i && schedOkB md ops (listed.setIfInBounds i true) rest
  | listed, (i, false) :: rest => (Region.ready md ops listed == [i]) && schedOkB md ops (listed.setIfInBounds i true) rest

theorem wpAnyH_schedB (hs : Region.noSelect ops = true) (hQ : ∀ c a d v w, Q (.panic c) (a.put d v) w → Q (.panic c) a w) :
    ∀ (steps : List (Nat × Bool)) (listed : Array Bool) (a : Act) (w : World), schedOkB md ops listed steps = true → wpSchedB bs P ops Q steps a w → wpAnyH P md ops Q (KB bs w) steps.length listed a w
  | [], listed, a, w, hok, h => ⟨by simpa [schedOkB] using hok, h⟩
  | (i, true) :: rest, listed, a, w, hok, h => by
    simp only [schedOkB, Bool.and_eq_true] at hok
    obtain ⟨⟨hf, hr⟩, hok⟩ := hok
    obtain ⟨o, hi, h⟩ := h
    rcases h with ⟨hw, v, hv, h⟩ | ⟨hw, h⟩
    · exact wpAnyH_take (v := v) hi hs hf hr (fun c a w => hQ c a o.dst v w) (.inl ⟨hw, hv⟩) (KB.refl bs w) (wpAnyH_schedB hs hQ rest _ _ w hok h)
    · exact wpAnyH_take (v := undef) hi hs hf hr (fun c a w => hQ c a o.dst undef w) (.inr ⟨hw, rfl⟩) (KB.refl bs w) (wpAnyH_schedB hs hQ rest _ _ w hok h)
  | (i, false) :: rest, listed, a, w, hok, h => by
    simp only [schedOkB, Bool.and_eq_true, beq_iff_eq] at hok
    obtain ⟨hr, hok⟩ := hok
    obtain ⟨o, hi, h⟩ := h
    refine wpAnyH_all hr (by simp) fun j hj => ?_
    obtain rfl : j = i := by simpa using hj
    unfold wpOp
    simp only [hi]
    rcases h with ⟨hw, h⟩ | ⟨hw, h⟩
    · simp only [hw, if_true]
      refine .inl (Oper.wp_mono (fun a' w' h' => ⟨h'.1, ?_⟩) h)
      exact wpAnyH_impB (fun W hW => KB.trans h'.1 hW) _ _ _ _ (wpAnyH_schedB hs hQ rest _ a' w' hok h'.2)
    · simp only [hw, Bool.false_eq_true, if_false]
      exact ⟨KB.refl bs w, wpAnyH_schedB hs hQ rest _ _ w hok h⟩

theorem wp_region_schedB (bs : List Nat) {id : Nat} {a : Act} {w : World} (steps : List (Nat × Bool)) (hm : P.follows .mixedOrders = true)
    (hok : (Region.noSelect ops && steps.length == ops.size && schedOkB .any ops (Array.replicate ops.size false) steps) = true)
    (hQ : ∀ c a d v w, Q (.panic c) (a.put d v) w → Q (.panic c) a w) (h : wpSchedB bs P ops Q steps a w.drew) : (Code.region id ops true).wp P Q a w := by
  simp only [Bool.and_eq_true, beq_iff_eq] at hok
  obtain ⟨⟨hs, hl⟩, hok⟩ := hok
  refine wp_region_held (S := KB bs w.drew) hm ?_
  rw [← hl]
  exact wpAnyH_schedB hs hQ steps _ a w.drew (by rw [hl]; exact hok) h

/-- A step that reads. -/
theorem bread {l : List Oper} {i : Nat} {rest : List (Nat × Bool)} {a : Act} {w : World} {o : Oper} {v : Value} (hi : l[i]? = some o) (hw : Region.wanted o (yielded l.toArray a.tmps) = true)
    (hv : ∀ W, KB bs w W → (execOp a.eval o).run P W = .ok (.value v) W) (h : wpSchedB bs P l.toArray Q rest (a.put o.dst v) w) : wpSchedB bs P l.toArray Q ((i, true) :: rest) a w := ⟨o, by simpa using hi, .inl ⟨hw, v, hv, h⟩⟩
/-- A step that is not wanted. -/
theorem bskip {l : List Oper} {i : Nat} {b : Bool} {rest : List (Nat × Bool)} {a : Act} {w : World} {o : Oper} (hi : l[i]? = some o) (hw : Region.wanted o (yielded l.toArray a.tmps) = false)
    (h : wpSchedB bs P l.toArray Q rest (a.put o.dst undef) w) : wpSchedB bs P l.toArray Q ((i, b) :: rest) a w := by cases b <;> exact ⟨o, by simpa using hi, .inr ⟨hw, h⟩⟩
theorem bdone {a : Act} {w : World} (h : Q .normal a w) : wpSchedB bs P ops Q [] a w := h
/-- A step that is carried out. -/
theorem bcall {l : List Oper} {i : Nat} {rest : List (Nat × Bool)} {a : Act} {w : World} {o : Oper} (hi : l[i]? = some o) (hw : Region.wanted o (yielded l.toArray a.tmps) = true)
    (h : ∀ K : Act → World → Prop, Shut (∀ a' w', KB bs w w' → wpSchedB bs P l.toArray Q rest a' w' → K a' w') → o.wp P a w K Q) : wpSchedB bs P l.toArray Q ((i, false) :: rest) a w :=
  ⟨o, by simpa using hi, .inl ⟨hw, h _ (fun _ _ hg hk => ⟨hg, hk⟩)⟩⟩
/-- A step that reads, its value left open. -/
theorem sreadxB {l : List Oper} {i : Nat} {rest : List (Nat × Bool)} {a : Act} {w : World} {o : Oper} (hi : l[i]? = some o) (hw : Region.wanted o (yielded l.toArray a.tmps) = true)
    (h : ∃ v, (∀ W, KB bs w W → (execOp a.eval o).run P W = .ok (.value v) W) ∧ wpSchedB bs P l.toArray Q rest (a.put o.dst v) w) : wpSchedB bs P l.toArray Q ((i, true) :: rest) a w := ⟨o, by simpa using hi, .inl ⟨hw, h⟩⟩
theorem KB.lay {steps : List (Nat × Bool)} {a : Act} {w0 w : World} (h : Below w0.heap.size w0 w) (h2 : Below w0.heap.size w0 w → wpSchedB bs P ops Q steps a w) : wpSchedB bs P ops Q steps a w := h2 h
theorem bwith {steps : List (Nat × Bool)} {a : Act} {w : World} {p : World → Prop} (h1 : ∀ W, KB bs w W → p W) (h2 : (∀ W, KB bs w W → p W) → wpSchedB bs P ops Q steps a w) : wpSchedB bs P ops Q steps a w := h2 h1
end
end Go.Proofs.Ytpkoijlbbfffiaa
