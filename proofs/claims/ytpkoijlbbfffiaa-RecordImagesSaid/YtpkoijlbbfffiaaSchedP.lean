/- As SchedB, where at some point two operations may come up in either order: a plan with two branches there. No program in sight. -/
import Derived.Test.YtpkoijlbbfffiaaSchedB
namespace Go.Proofs.Ytpkoijlbbfffiaa
open Go.RowKit

inductive Plan where
  | done
  | read (i : Nat) (rest : Plan)
  | call (i : Nat) (rest : Plan)
  | two (i j : Nat) (l r : Plan)
def Plan.len : Plan → Nat
  | .done => 0
  | .read _ rest => rest.len + 1
  | .call _ rest => rest.len + 1
  | .two _ _ l _ => l.len + 1
section
variable {P : Program} {ops : Array Oper} {Q : Exit → Act → World → Prop} {md : Region.Mode} {bs : List Nat}
def wpPlan (bs : List Nat) (P : Program) (ops : Array Oper) (Q : Exit → Act → World → Prop) : Plan → Act → World → Prop
  | .done, a, w => Q .normal a w
  | .read i rest, a, w => ∃ o, ops[i]? = some o ∧
      ((Region.wanted o (yielded ops a.tmps) = true ∧ ∃ v, (∀ W, KB bs w W → (execOp a.eval o).run P W = .ok (.value v) W) ∧ wpPlan bs P ops Q rest (a.put o.dst v) w) ∨
       (Region.wanted o (yielded ops a.tmps) = false ∧ wpPlan bs P ops Q rest (a.put o.dst undef) w))
  | .call i rest, a, w => ∃ o, ops[i]? = some o ∧
      ((Region.wanted o (yielded ops a.tmps) = true ∧ o.wp P a w (fun a' w' => KB bs w w' ∧ wpPlan bs P ops Q rest a' w') Q) ∨
       (Region.wanted o (yielded ops a.tmps) = false ∧ wpPlan bs P ops Q rest (a.put o.dst undef) w))
  | .two i j l r, a, w => (∃ o, ops[i]? = some o ∧ Region.wanted o (yielded ops a.tmps) = true ∧ o.wp P a w (fun a' w' => KB bs w w' ∧ wpPlan bs P ops Q l a' w') Q) ∧
      (∃ o, ops[j]? = some o ∧ Region.wanted o (yielded ops a.tmps) = true ∧ o.wp P a w (fun a' w' => KB bs w w' ∧ wpPlan bs P ops Q r a' w') Q)
def planOk (md : Region.Mode) (ops : Array Oper) : Array Bool → Plan → Bool
  | listed, .done => (Region.ready md ops listed).isEmpty
  | listed, .read i rest => Region.free md ops listed i && (Region.ready md ops listed).contains i && planOk md ops (listed.setIfInBounds i true) rest
  | listed, .call i rest => (Region.ready md ops listed == [i]) && planOk md ops (listed.setIfInBounds i true) rest
  | listed, .two i j l r => (Region.ready md ops listed == [i, j]) && (l.len == r.len && (planOk md ops (listed.setIfInBounds i true) l && planOk md ops (listed.setIfInBounds j true) r))
theorem wpAnyH_plan (hs : Region.noSelect ops = true) (hQ : ∀ c a d v w, Q (.panic c) (a.put d v) w → Q (.panic c) a w) :
    ∀ (steps : Plan) (listed : Array Bool) (a : Act) (w : World), planOk md ops listed steps = true → wpPlan bs P ops Q steps a w → wpAnyH P md ops Q (KB bs w) steps.len listed a w
  | .done, listed, a, w, hok, h => ⟨by simpa [planOk] using hok, h⟩
  | .read i rest, listed, a, w, hok, h => by
    simp only [planOk, Bool.and_eq_true] at hok
    obtain ⟨⟨hf, hr⟩, hok⟩ := hok
    obtain ⟨o, hi, h⟩ := h
    rcases h with ⟨hw, v, hv, h⟩ | ⟨hw, h⟩
    · exact wpAnyH_take (v := v) hi hs hf hr (fun c a w => hQ c a o.dst v w) (.inl ⟨hw, hv⟩) (KB.refl bs w) (wpAnyH_plan hs hQ rest _ _ w hok h)
    · exact wpAnyH_take (v := undef) hi hs hf hr (fun c a w => hQ c a o.dst undef w) (.inr ⟨hw, rfl⟩) (KB.refl bs w) (wpAnyH_plan hs hQ rest _ _ w hok h)
  | .call i rest, listed, a, w, hok, h => by
    simp only [planOk, Bool.and_eq_true, beq_iff_eq] at hok
    obtain ⟨hr, hok⟩ := hok
    obtain ⟨o, hi, h⟩ := h
    refine wpAnyH_all hr (by simp) fun j hj => ?_
    obtain rfl : j = i := by simpa using hj
    unfold wpOp
    simp only [hi]
    rcases h with ⟨hw, h⟩ | ⟨hw, h⟩
    · simp only [hw, if_true]
      refine .inl (Oper.wp_mono (fun a' w' h' => ⟨h'.1, ?_⟩) h)
      exact wpAnyH_impB (fun W hW => KB.trans h'.1 hW) _ _ _ _ (wpAnyH_plan hs hQ rest _ a' w' hok h'.2)
    · simp only [hw, Bool.false_eq_true, if_false]
      exact ⟨KB.refl bs w, wpAnyH_plan hs hQ rest _ _ w hok h⟩
  | .two i j l r, listed, a, w, hok, h => by
    simp only [planOk, Bool.and_eq_true, beq_iff_eq] at hok
    obtain ⟨hr, hlen, hl, hrr⟩ := hok
    obtain ⟨⟨o, hi, hw, h⟩, ⟨o', hj, hw', h'⟩⟩ := h
    refine wpAnyH_all hr (by simp) fun k hk => ?_
    have hk2 : k = i ∨ k = j := by simpa using hk
    rcases hk2 with rfl | rfl
    · unfold wpOp
      simp only [hi, hw, if_true]
      refine .inl (Oper.wp_mono (fun a' w' h' => ⟨h'.1, ?_⟩) h)
      exact wpAnyH_impB (fun W hW => KB.trans h'.1 hW) _ _ _ _ (wpAnyH_plan hs hQ l _ a' w' hl h'.2)
    · unfold wpOp
      simp only [hj, hw', if_true]
      refine .inl (Oper.wp_mono (fun a' w' h' => ⟨h'.1, ?_⟩) h')
      have := wpAnyH_impB (fun W hW => KB.trans h'.1 hW) _ _ _ _ (wpAnyH_plan hs hQ r _ a' w' hrr h'.2)
      rwa [← hlen] at this
theorem wp_region_plan (bs : List Nat) {id : Nat} {a : Act} {w : World} (steps : Plan) (hm : P.follows .mixedOrders = true)
    (hok : (Region.noSelect ops && steps.len == ops.size && planOk .any ops (Array.replicate ops.size false) steps) = true)
    (hQ : ∀ c a d v w, Q (.panic c) (a.put d v) w → Q (.panic c) a w) (h : wpPlan bs P ops Q steps a w.drew) : (Code.region id ops true).wp P Q a w := by
  simp only [Bool.and_eq_true, beq_iff_eq] at hok
  obtain ⟨⟨hs, hl⟩, hok⟩ := hok
  refine wp_region_held (S := KB bs w.drew) hm ?_
  rw [← hl]
  exact wpAnyH_plan hs hQ steps _ a w.drew (by rw [hl]; exact hok) h
theorem pskip {l : List Oper} {i : Nat} {rest : Plan} {a : Act} {w : World} {o : Oper} (hi : l[i]? = some o) (hw : Region.wanted o (yielded l.toArray a.tmps) = false)
    (h : wpPlan bs P l.toArray Q rest (a.put o.dst undef) w) : wpPlan bs P l.toArray Q (.read i rest) a w := ⟨o, by simpa using hi, .inr ⟨hw, h⟩⟩
theorem pskip' {l : List Oper} {i : Nat} {rest : Plan} {a : Act} {w : World} {o : Oper} (hi : l[i]? = some o) (hw : Region.wanted o (yielded l.toArray a.tmps) = false)
    (h : wpPlan bs P l.toArray Q rest (a.put o.dst undef) w) : wpPlan bs P l.toArray Q (.call i rest) a w := ⟨o, by simpa using hi, .inr ⟨hw, h⟩⟩
theorem pdone {a : Act} {w : World} (h : Q .normal a w) : wpPlan bs P ops Q .done a w := h
theorem pcall {l : List Oper} {i : Nat} {rest : Plan} {a : Act} {w : World} {o : Oper} (hi : l[i]? = some o) (hw : Region.wanted o (yielded l.toArray a.tmps) = true)
    (h : ∀ K : Act → World → Prop, Shut (∀ a' w', KB bs w w' → wpPlan bs P l.toArray Q rest a' w' → K a' w') → o.wp P a w K Q) : wpPlan bs P l.toArray Q (.call i rest) a w :=
  ⟨o, by simpa using hi, .inl ⟨hw, h _ (fun _ _ hg hk => ⟨hg, hk⟩)⟩⟩
theorem ptwo {l : List Oper} {i j : Nat} {r1 r2 : Plan} {a : Act} {w : World} {o o' : Oper} (hi : l[i]? = some o) (hw : Region.wanted o (yielded l.toArray a.tmps) = true) (hj : l[j]? = some o') (hw' : Region.wanted o' (yielded l.toArray a.tmps) = true)
    (h : ∀ K : Act → World → Prop, Shut (∀ a' w', KB bs w w' → wpPlan bs P l.toArray Q r1 a' w' → K a' w') → o.wp P a w K Q)
    (h' : ∀ K : Act → World → Prop, Shut (∀ a' w', KB bs w w' → wpPlan bs P l.toArray Q r2 a' w' → K a' w') → o'.wp P a w K Q) : wpPlan bs P l.toArray Q (.two i j r1 r2) a w :=
  ⟨⟨o, by simpa using hi, hw, h _ (fun _ _ hg hk => ⟨hg, hk⟩)⟩, ⟨o', by simpa using hj, hw', h' _ (fun _ _ hg hk => ⟨hg, hk⟩)⟩⟩
theorem sreadxP {l : List Oper} {i : Nat} {rest : Plan} {a : Act} {w : World} {o : Oper} (hi : l[i]? = some o) (hw : Region.wanted o (yielded l.toArray a.tmps) = true)
    (h : ∃ v, (∀ W, KB bs w W → (execOp a.eval o).run P W = .ok (.value v) W) ∧ wpPlan bs P l.toArray Q rest (a.put o.dst v) w) : wpPlan bs P l.toArray Q (.read i rest) a w := ⟨o, by simpa using hi, .inl ⟨hw, h⟩⟩
theorem pwith {steps : Plan} {a : Act} {w : World} {p : World → Prop} (h1 : ∀ W, KB bs w W → p W) (h2 : (∀ W, KB bs w W → p W) → wpPlan bs P ops Q steps a w) : wpPlan bs P ops Q steps a w := h2 h1
end
end Go.Proofs.Ytpkoijlbbfffiaa
