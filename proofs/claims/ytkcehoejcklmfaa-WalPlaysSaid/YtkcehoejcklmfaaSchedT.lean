/- As Sched, for regions whose reads look at no memory: then whatever the calls and stores do is let in. -/
import Derived.Test.YtkcehoejcklmfaaBase
import Derived.OrdersHeld
import Derived.Deep.RegionHeld
import Derived.Deep.RegionHeld3
namespace Go.Proofs.Ytkcehoejcklmfaa
open Go.RowKit

/-- Whatever world comes: for regions whose reads look at no memory. -/
def Free (_ _ : World) : Prop := True
theorem Free.refl (w : World) : Free w w := trivial
theorem Free.trans {a b c : World} (_ : Free a b) (_ : Free b c) : Free a c := trivial

section
variable {P : Program} {ops : Array Oper} {Q : Exit → Act → World → Prop} {md : Region.Mode}

theorem wpAnyH_impT {S S' : World → Prop} (h : ∀ W, S' W → S W) : ∀ (fuel : Nat) (listed : Array Bool) (a : Act) (w : World), wpAnyH P md ops Q S' fuel listed a w → wpAnyH P md ops Q S fuel listed a w
  | 0, _, _, _, hh => hh
  | fuel + 1, _, _, _, hh => ⟨hh.1, fun i hi => wpOp_mono (fun a' w' h' => ⟨h w' h'.1, wpAnyH_impT h fuel _ a' w' h'.2⟩) (hh.2 i hi)⟩

/-- The schedule's walk: (i, true): operation i reads; (i, false): it is carried out. -/
def wpSchedT (P : Program) (ops : Array Oper) (Q : Exit → Act → World → Prop) : List (Nat × Bool) → Act → World → Prop
  | [], a, w => Q .normal a w
  | (i, true) :: rest, a, w => ∃ o, ops[i]? = some o ∧
      ((Region.wanted o (yielded ops a.tmps) = true ∧ ∃ v, (∀ W, Free w W → (execOp a.eval o).run P W = .ok (.value v) W) ∧ wpSchedT P ops Q rest (a.put o.dst v) w) ∨
       (Region.wanted o (yielded ops a.tmps) = false ∧ wpSchedT P ops Q rest (a.put o.dst undef) w))
  | (i, false) :: rest, a, w => ∃ o, ops[i]? = some o ∧
      ((Region.wanted o (yielded ops a.tmps) = true ∧ o.wp P a w (fun a' w' => Free w w' ∧ wpSchedT P ops Q rest a' w') Q) ∨
       (Region.wanted o (yielded ops a.tmps) = false ∧ wpSchedT P ops Q rest (a.put o.dst undef) w))

/-- Is the schedule one that serves every order? -/
def schedOkT (md : Region.Mode) (ops : Array Oper) : Array Bool → List (Nat × Bool) → Bool
  | listed, [] => (Region.ready md ops listed).isEmpty
  | listed, (i, true) :: rest => Region.free md ops listed i && (Region.ready md ops listed).contains i && schedOkT md ops (listed.setIfInBounds i true) rest
  | listed, (i, false) :: rest => (Region.ready md ops listed == [i]) && schedOkT md ops (listed.setIfInBounds i true) rest

theorem wpAnyH_schedT (hs : Region.noSelect ops = true) (hQ : ∀ c a d v w, Q (.panic c) (a.put d v) w → Q (.panic c) a w) :
    ∀ (steps : List (Nat × Bool)) (listed : Array Bool) (a : Act) (w : World), schedOkT md ops listed steps = true → wpSchedT P ops Q steps a w → wpAnyH P md ops Q (Free w) steps.length listed a w
  | [], listed, a, w, hok, h => ⟨by simpa [schedOkT] using hok, h⟩
  | (i, true) :: rest, listed, a, w, hok, h => by
    simp only [schedOkT, Bool.and_eq_true] at hok
    obtain ⟨⟨hf, hr⟩, hok⟩ := hok
    obtain ⟨o, hi, h⟩ := h
    rcases h with ⟨hw, v, hv, h⟩ | ⟨hw, h⟩
    · exact wpAnyH_take (v := v) hi hs hf hr (fun c a w => hQ c a o.dst v w) (.inl ⟨hw, hv⟩) (Free.refl w) (wpAnyH_schedT hs hQ rest _ _ w hok h)
    · exact wpAnyH_take (v := undef) hi hs hf hr (fun c a w => hQ c a o.dst undef w) (.inr ⟨hw, rfl⟩) (Free.refl w) (wpAnyH_schedT hs hQ rest _ _ w hok h)
  | (i, false) :: rest, listed, a, w, hok, h => by
    simp only [schedOkT, Bool.and_eq_true, beq_iff_eq] at hok
    obtain ⟨hr, hok⟩ := hok
    obtain ⟨o, hi, h⟩ := h
    refine wpAnyH_all hr (by simp) fun j hj => ?_
    obtain rfl : j = i := by simpa using hj
    unfold wpOp
    simp only [hi]
    rcases h with ⟨hw, h⟩ | ⟨hw, h⟩
    · simp only [hw, if_true]
      refine .inl (Oper.wp_mono (fun a' w' h' => ⟨h'.1, ?_⟩) h)
      exact wpAnyH_impT (fun W hW => h'.1.trans hW) _ _ _ _ (wpAnyH_schedT hs hQ rest _ a' w' hok h'.2)
    · simp only [hw, Bool.false_eq_true, if_false]
      exact ⟨Free.refl w, wpAnyH_schedT hs hQ rest _ _ w hok h⟩

theorem wp_region_schedT {id : Nat} {a : Act} {w : World} (steps : List (Nat × Bool)) (hm : P.follows .mixedOrders = true)
    (hok : (Region.noSelect ops && steps.length == ops.size && schedOkT .any ops (Array.replicate ops.size false) steps) = true)
    (hQ : ∀ c a d v w, Q (.panic c) (a.put d v) w → Q (.panic c) a w) (h : wpSchedT P ops Q steps a w.drew) : (Code.region id ops true).wp P Q a w := by
  simp only [Bool.and_eq_true, beq_iff_eq] at hok
  obtain ⟨⟨hs, hl⟩, hok⟩ := hok
  refine wp_region_held (S := Free w.drew) hm ?_
  rw [← hl]
  exact wpAnyH_schedT hs hQ steps _ a w.drew (by rw [hl]; exact hok) h

/-- A step that reads. -/
theorem tread {l : List Oper} {i : Nat} {rest : List (Nat × Bool)} {a : Act} {w : World} {o : Oper} {v : Value} (hi : l[i]? = some o) (hw : Region.wanted o (yielded l.toArray a.tmps) = true)
    (hv : ∀ W, Free w W → (execOp a.eval o).run P W = .ok (.value v) W) (h : wpSchedT P l.toArray Q rest (a.put o.dst v) w) : wpSchedT P l.toArray Q ((i, true) :: rest) a w := ⟨o, by simpa using hi, .inl ⟨hw, v, hv, h⟩⟩
/-- A step that is not wanted. -/
theorem tskip {l : List Oper} {i : Nat} {b : Bool} {rest : List (Nat × Bool)} {a : Act} {w : World} {o : Oper} (hi : l[i]? = some o) (hw : Region.wanted o (yielded l.toArray a.tmps) = false)
    (h : wpSchedT P l.toArray Q rest (a.put o.dst undef) w) : wpSchedT P l.toArray Q ((i, b) :: rest) a w := by cases b <;> exact ⟨o, by simpa using hi, .inr ⟨hw, h⟩⟩
theorem tdone {a : Act} {w : World} (h : Q .normal a w) : wpSchedT P ops Q [] a w := h
/-- A step that is carried out. -/
theorem tcall {l : List Oper} {i : Nat} {rest : List (Nat × Bool)} {a : Act} {w : World} {o : Oper} (hi : l[i]? = some o) (hw : Region.wanted o (yielded l.toArray a.tmps) = true)
    (h : ∀ K : Act → World → Prop, Shut (∀ a' w', Free w w' → wpSchedT P l.toArray Q rest a' w' → K a' w') → o.wp P a w K Q) : wpSchedT P l.toArray Q ((i, false) :: rest) a w :=
  ⟨o, by simpa using hi, .inl ⟨hw, h _ (fun _ _ hg hk => ⟨hg, hk⟩)⟩⟩
/-- A step that reads, its value left open. -/
theorem sreadxT {l : List Oper} {i : Nat} {rest : List (Nat × Bool)} {a : Act} {w : World} {o : Oper} (hi : l[i]? = some o) (hw : Region.wanted o (yielded l.toArray a.tmps) = true)
    (h : ∃ v, (∀ W, Free w W → (execOp a.eval o).run P W = .ok (.value v) W) ∧ wpSchedT P l.toArray Q rest (a.put o.dst v) w) : wpSchedT P l.toArray Q ((i, true) :: rest) a w := ⟨o, by simpa using hi, .inl ⟨hw, h⟩⟩
end
end Go.Proofs.Ytkcehoejcklmfaa
