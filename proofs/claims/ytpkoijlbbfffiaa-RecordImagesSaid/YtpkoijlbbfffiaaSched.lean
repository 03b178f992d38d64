/- A region that draws its order and holds calls that make memory: one schedule serves every order, if each operation either reads (its value stays the same in every later world) or is the only one that may come up then and leaves old memory as it was. No program in sight. -/
import Derived.Test.YtpkoijlbbfffiaaBase
import Derived.OrdersHeld
import Derived.Deep.RegionHeld
import Derived.Deep.RegionHeld3
namespace Go.Proofs.Ytpkoijlbbfffiaa
open Go.RowKit

/-- A later world: what was there is as it was. -/
def Grow (w W : World) : Prop := Below w.heap.size w W
theorem Grow.out {w W : World} (h : Grow w W) : Below w.heap.size w W := h
theorem Grow.refl (w : World) : Grow w w := Below.refl _ _
theorem Grow.trans {a b c : World} (h : Grow a b) (k : Grow b c) : Grow a c := bthen h k

section
variable {P : Program} {ops : Array Oper} {Q : Exit → Act → World → Prop} {md : Region.Mode}

theorem wpAnyH_imp {S S' : World → Prop} (h : ∀ W, S' W → S W) : ∀ (fuel : Nat) (listed : Array Bool) (a : Act) (w : World), wpAnyH P md ops Q S' fuel listed a w → wpAnyH P md ops Q S fuel listed a w
  | 0, _, _, _, hh => hh
  | fuel + 1, _, _, _, hh => ⟨hh.1, fun i hi => wpOp_mono (fun a' w' h' => ⟨h w' h'.1, wpAnyH_imp h fuel _ a' w' h'.2⟩) (hh.2 i hi)⟩

/-- The schedule's walk: (i, true): operation i reads; (i, false): it is carried out. -/
def wpSched (P : Program) (ops : Array Oper) (Q : Exit → Act → World → Prop) : List (Nat × Bool) → Act → World → Prop
  | [], a, w => Q .normal a w
  | (i, true) :: rest, a, w => ∃ o, ops[i]? = some o ∧
      ((Region.wanted o (yielded ops a.tmps) = true ∧ ∃ v, (∀ W, Grow w W → (execOp a.eval o).run P W = .ok (.value v) W) ∧ wpSched P ops Q rest (a.put o.dst v) w) ∨
       (Region.wanted o (yielded ops a.tmps) = false ∧ wpSched P ops Q rest (a.put o.dst undef) w))
  | (i, false) :: rest, a, w => ∃ o, ops[i]? = some o ∧
      ((Region.wanted o (yielded ops a.tmps) = true ∧ o.wp P a w (fun a' w' => Grow w w' ∧ wpSched P ops Q rest a' w') Q) ∨
       (Region.wanted o (yielded ops a.tmps) = false ∧ wpSched P ops Q rest (a.put o.dst undef) w))

/-- Is the schedule one that serves every order? -/
def schedOk (md : Region.Mode) (ops : Array Oper) : Array Bool → List (Nat × Bool) → Bool
  | listed, [] => (Region.ready md ops listed).isEmpty
  | listed, (i, true) :: rest => Region.free md ops listed i && (Region.ready md ops listed).contains i && schedOk md ops (listed.setIfInBounds i true) rest
  | listed, (i, false) :: rest => (Region.ready md ops listed == [i]) && schedOk md ops (listed.setIfInBounds i true) rest

theorem wpAnyH_sched (hs : Region.noSelect ops = true) (hQ : ∀ c a d v w, Q (.panic c) (a.put d v) w → Q (.panic c) a w) :
    ∀ (steps : List (Nat × Bool)) (listed : Array Bool) (a : Act) (w : World), schedOk md ops listed steps = true → wpSched P ops Q steps a w → wpAnyH P md ops Q (Grow w) steps.length listed a w
  | [], listed, a, w, hok, h => ⟨by simpa [schedOk] using hok, h⟩
  | (i, true) :: rest, listed, a, w, hok, h => by
    simp only [schedOk, Bool.and_eq_true] at hok
    obtain ⟨⟨hf, hr⟩, hok⟩ := hok
    obtain ⟨o, hi, h⟩ := h
    rcases h with ⟨hw, v, hv, h⟩ | ⟨hw, h⟩
    · exact wpAnyH_take (v := v) hi hs hf hr (fun c a w => hQ c a o.dst v w) (.inl ⟨hw, hv⟩) (Grow.refl w) (wpAnyH_sched hs hQ rest _ _ w hok h)
    · exact wpAnyH_take (v := undef) hi hs hf hr (fun c a w => hQ c a o.dst undef w) (.inr ⟨hw, rfl⟩) (Grow.refl w) (wpAnyH_sched hs hQ rest _ _ w hok h)
  | (i, false) :: rest, listed, a, w, hok, h => by
    simp only [schedOk, Bool.and_eq_true, beq_iff_eq] at hok
    obtain ⟨hr, hok⟩ := hok
    obtain ⟨o, hi, h⟩ := h
    refine wpAnyH_all hr (by simp) fun j hj => ?_
    obtain rfl : j = i := by simpa using hj
    unfold wpOp
    simp only [hi]
    rcases h with ⟨hw, h⟩ | ⟨hw, h⟩
    · simp only [hw, if_true]
      refine .inl (Oper.wp_mono (fun a' w' h' => ⟨h'.1, ?_⟩) h)
      exact wpAnyH_imp (fun W hW => h'.1.trans hW) _ _ _ _ (wpAnyH_sched hs hQ rest _ a' w' hok h'.2)
    · simp only [hw, Bool.false_eq_true, if_false]
      exact ⟨Grow.refl w, wpAnyH_sched hs hQ rest _ _ w hok h⟩

theorem wp_region_sched {id : Nat} {a : Act} {w : World} (steps : List (Nat × Bool)) (hm : P.follows .mixedOrders = true)
    (hok : (Region.noSelect ops && steps.length == ops.size && schedOk .any ops (Array.replicate ops.size false) steps) = true)
    (hQ : ∀ c a d v w, Q (.panic c) (a.put d v) w → Q (.panic c) a w) (h : wpSched P ops Q steps a w.drew) : (Code.region id ops true).wp P Q a w := by
  simp only [Bool.and_eq_true, beq_iff_eq] at hok
  obtain ⟨⟨hs, hl⟩, hok⟩ := hok
  refine wp_region_held (S := Grow w.drew) hm ?_
  rw [← hl]
  exact wpAnyH_sched hs hQ steps _ a w.drew (by rw [hl]; exact hok) h

/-- A step that reads. -/
theorem sread {l : List Oper} {i : Nat} {rest : List (Nat × Bool)} {a : Act} {w : World} {o : Oper} {v : Value} (hi : l[i]? = some o) (hw : Region.wanted o (yielded l.toArray a.tmps) = true)
    (hv : ∀ W, Grow w W → (execOp a.eval o).run P W = .ok (.value v) W) (h : wpSched P l.toArray Q rest (a.put o.dst v) w) : wpSched P l.toArray Q ((i, true) :: rest) a w := ⟨o, by simpa using hi, .inl ⟨hw, v, hv, h⟩⟩
/-- A step that is not wanted. -/
theorem sskip {l : List Oper} {i : Nat} {b : Bool} {rest : List (Nat × Bool)} {a : Act} {w : World} {o : Oper} (hi : l[i]? = some o) (hw : Region.wanted o (yielded l.toArray a.tmps) = false)
    (h : wpSched P l.toArray Q rest (a.put o.dst undef) w) : wpSched P l.toArray Q ((i, b) :: rest) a w := by cases b <;> exact ⟨o, by simpa using hi, .inr ⟨hw, h⟩⟩
theorem sdone {a : Act} {w : World} (h : Q .normal a w) : wpSched P ops Q [] a w := h
/-- A step that is carried out. -/
theorem scall {l : List Oper} {i : Nat} {rest : List (Nat × Bool)} {a : Act} {w : World} {o : Oper} (hi : l[i]? = some o) (hw : Region.wanted o (yielded l.toArray a.tmps) = true)
    (h : ∀ K : Act → World → Prop, Shut (∀ a' w', Grow w w' → wpSched P l.toArray Q rest a' w' → K a' w') → o.wp P a w K Q) : wpSched P l.toArray Q ((i, false) :: rest) a w :=
  ⟨o, by simpa using hi, .inl ⟨hw, h _ (fun _ _ hg hk => ⟨hg, hk⟩)⟩⟩
/-- A step that reads, its value left open. -/
theorem sreadx {l : List Oper} {i : Nat} {rest : List (Nat × Bool)} {a : Act} {w : World} {o : Oper} (hi : l[i]? = some o) (hw : Region.wanted o (yielded l.toArray a.tmps) = true)
    (h : ∃ v, (∀ W, Grow w W → (execOp a.eval o).run P W = .ok (.value v) W) ∧ wpSched P l.toArray Q rest (a.put o.dst v) w) : wpSched P l.toArray Q ((i, true) :: rest) a w := ⟨o, by simpa using hi, .inl ⟨hw, h⟩⟩
/-- What holds of every later world, laid for the steps. -/
theorem swith {steps : List (Nat × Bool)} {a : Act} {w : World} {p : World → Prop} (h1 : ∀ W, Grow w W → p W) (h2 : (∀ W, Grow w W → p W) → wpSched P ops Q steps a w) : wpSched P ops Q steps a w := h2 h1
theorem sbelow {steps : List (Nat × Bool)} {a : Act} {w w0 : World} (h : Below w0.heap.size w0 w) (k : Below w0.heap.size w0 w → wpSched P ops Q steps a w) : wpSched P ops Q steps a w := k h
end
end Go.Proofs.Ytpkoijlbbfffiaa
