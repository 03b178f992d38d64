/- A region that draws its order and ends with one operation that waits for all others (a store into a cell that it loads): the others by a plan, the last one behind them. No program in sight. -/
import Derived.Test.YtpdfhbgemmpleaaSchedP
namespace Go.Proofs.Ytpdfhbgemmpleaa
open Go.RowKit

section
variable {P : Program} {Q : Exit → Act → World → Prop} {md : Region.Mode}
/-- What is asked behind all operations but the last. -/
def lastQ (P : Program) (ops : Array Oper) (Q : Exit → Act → World → Prop) (m : Nat) : Exit → Act → World → Prop
  | .normal, a, w => wpOp P ops Q m (Q .normal) a w
  | .exit id, a, w => Q (.exit id) a w
  | .goto n, a, w => Q (.goto n) a w
  | .ret, a, w => Q .ret a w
  | .panic c, a, w => Q (.panic c) a w
  | .outgrown, a, w => Q .outgrown a w
theorem wp_lastQ {ops : Array Oper} {m : Nat} {o : Oper} {a : Act} {w : World} {K K' : Act → World → Prop} (hK : ∀ a w, K a w → K' a w) (h : o.wp P a w K (lastQ P ops Q m)) : o.wp P a w K' Q := by
  unfold Oper.wp at *
  generalize (execOp a.eval o).run P w = r at *
  cases r with
  | ok n w' =>
    cases n <;> simp only [Oper.upon] at h ⊢
    case value u => exact hK _ _ h
    case skip => exact hK _ _ h
    case defer d => exact hK _ _ h
    case enter f args =>
      refine Calls.mono h fun e w'' he => ?_
      cases e with
      | returned u => exact hK _ _ he
      | panicked c => exact he
      | outgrown => exact he
    case row row args => exact Rows.mono h fun u w'' he => hK _ _ he
  | halt x w' =>
    cases x <;> simp only [Oper.upon] at h ⊢
    case panic u => exact h
/-- Does the last operation wait for every other one, and every operation for earlier ones alone? -/
def lastB (md : Region.Mode) (l : List Oper) (o : Oper) : Bool :=
  o.after.all (fun e => decide (e.on < l.length)) &&
  (List.range l.length).all fun j => (match l[j]? with
    | some oj => oj.after.all (fun e => decide (e.on < j)) && (match oj.guard with
      | none => true
      | some (g, _) => decide (g < l.length))
    | none => true) && o.after.any fun e => Region.binds md e && e.on == j
structure LastOk (md : Region.Mode) (l : List Oper) (o : Oper) : Prop where
  last : ∀ e ∈ o.after, e.on < l.length
  b : ∀ (j : Nat) (oj : Oper), l[j]? = some oj → ∀ e ∈ oj.after, e.on < j
  g : ∀ (j : Nat) (oj : Oper) (g : Nat) (b : Bool), l[j]? = some oj → oj.guard = some (g, b) → g < l.length
  w : ∀ j, j < l.length → ∃ e ∈ o.after, Region.binds md e = true ∧ e.on = j
theorem lastB_ok {l : List Oper} {o : Oper} (h : lastB md l o = true) : LastOk md l o := by
  unfold lastB at h
  simp only [Bool.and_eq_true, List.all_eq_true, Array.all_eq_true', Array.any_eq_true', List.mem_range, decide_eq_true_eq] at h
  obtain ⟨h1, h2⟩ := h
  refine ⟨h1, fun j oj hj e he => ?_, fun j oj g b hj hg => ?_, fun j hj => ?_⟩
  · have hjl : j < l.length := (List.getElem?_eq_some_iff.1 hj).1
    have h3 := (h2 j hjl).1
    rw [hj] at h3
    simp only [Bool.and_eq_true, Array.all_eq_true', decide_eq_true_eq] at h3
    exact h3.1 e he
  · have hjl : j < l.length := (List.getElem?_eq_some_iff.1 hj).1
    have h3 := (h2 j hjl).1
    rw [hj] at h3
    simp only [Bool.and_eq_true] at h3
    have h4 := h3.2
    rw [hg] at h4
    simpa using h4
  · obtain ⟨e, he, h3⟩ := (h2 j hj).2
    simp only [Bool.and_eq_true, beq_iff_eq] at h3
    exact ⟨e, he, h3⟩
variable {l : List Oper} {o : Oper}
theorem push_old {listed : Array Bool} {i : Nat} {d : Bool} (h : i < listed.size) : (listed.push false).getD i d = listed.getD i d := by
  rw [Array.getD_eq_getD_getElem?, Array.getD_eq_getD_getElem?, Array.getElem?_push_lt h, Array.getElem?_eq_getElem h]
theorem push_new {listed : Array Bool} {d : Bool} : (listed.push false).getD listed.size d = false := by
  rw [Array.getD_eq_getD_getElem?, Array.getElem?_push_size]; rfl
theorem ops_old {i : Nat} (h : i < l.length) : (l ++ [o]).toArray[i]? = l[i]? := by simp [List.getElem?_append_left h]
theorem ops_new : (l ++ [o]).toArray[l.length]? = some o := by simp
theorem ready_old {listed : Array Bool} (ok : LastOk md l o) (hs : listed.size = l.length) {i : Nat} (hi : i < l.length) :
    i ∈ Region.ready md (l ++ [o]).toArray (listed.push false) ↔ i ∈ Region.ready md l.toArray listed := by
  rw [mem_ready, mem_ready, push_old (by omega), ops_old hi]
  simp only [List.getElem?_toArray]
  constructor
  · rintro ⟨h1, oj, h2, h3⟩
    exact ⟨h1, oj, h2, fun e he hb => by have := h3 e he hb; rwa [push_old (by have := ok.b i oj h2 e he; omega)] at this⟩
  · rintro ⟨h1, oj, h2, h3⟩
    exact ⟨h1, oj, h2, fun e he hb => by rw [push_old (by have := ok.b i oj h2 e he; omega)]; exact h3 e he hb⟩
theorem ready_lt {ops : Array Oper} {listed : Array Bool} {i : Nat} (h : i ∈ Region.ready md ops listed) : i < ops.size := by
  obtain ⟨_, oj, h2, _⟩ := mem_ready.1 h
  exact (Array.getElem?_eq_some_iff.1 h2).1
/-- Where nothing is ready all are listed. -/
theorem all_listed {listed : Array Bool} (ok : LastOk md l o) (hs : listed.size = l.length) (h : Region.ready md l.toArray listed = []) : ∀ i, i < l.length → listed.getD i false = true := by
  intro i
  induction i using Nat.strongRecOn with
  | _ i ih =>
    intro hi
    cases hl : listed.getD i false with
    | true => rfl
    | false =>
      have h1 : listed.getD i true = false := by
        rw [Array.getD_eq_getD_getElem?, Array.getElem?_eq_getElem (by omega)] at hl ⊢
        exact hl
      have : i ∈ Region.ready md l.toArray listed := mem_ready.2 ⟨h1, l[i], by simp [hi], fun e he _ => ih e.on (ok.b i l[i] (by simp [hi]) e he) (by have := ok.b i l[i] (by simp [hi]) e he; omega)⟩
      rw [h] at this; cases this
theorem ready_last {listed : Array Bool} (ok : LastOk md l o) (hs : listed.size = l.length) (h : ∀ i, i < l.length → listed.getD i false = true) : l.length ∈ Region.ready md (l ++ [o]).toArray (listed.push false) :=
  mem_ready.2 ⟨by rw [← hs]; exact push_new, o, ops_new, fun e he _ => by have h1 := ok.last e he; rw [push_old (by omega)]; exact h _ h1⟩
theorem listed_last {listed : Array Bool} (ok : LastOk md l o) (hs : listed.size = l.length) (h : l.length ∈ Region.ready md (l ++ [o]).toArray (listed.push false)) : ∀ i, i < l.length → listed.getD i false = true := by
  intro i hi
  obtain ⟨_, oj, h2, h3⟩ := mem_ready.1 h
  rw [ops_new] at h2
  injection h2 with h2
  subst h2
  obtain ⟨e, he, hb, rfl⟩ := ok.w i hi
  have := h3 e he hb
  rwa [push_old (by omega)] at this
theorem none_ready {listed : Array Bool} (hs : listed.size = l.length) (h : ∀ i, i < l.length → listed.getD i false = true) : Region.ready md l.toArray listed = [] := by
  refine List.eq_nil_iff_forall_not_mem.2 fun i hi => ?_
  have hil : i < l.length := by have := ready_lt hi; simpa using this
  have h1 := (mem_ready.1 hi).1
  have h2 := h i hil
  rw [Array.getD_eq_getD_getElem?, Array.getElem?_eq_getElem (by omega)] at h1 h2
  simp at h1 h2
  rw [h1] at h2; cases h2
theorem none_last {listed : Array Bool} (ok : LastOk md l o) (hs : listed.size = l.length) (h : ∀ i, i < l.length → listed.getD i false = true) : Region.ready md (l ++ [o]).toArray ((listed.push false).setIfInBounds l.length true) = [] := by
  have e : (listed.push false).setIfInBounds l.length true = listed.push true := by
    apply Array.ext
    · simp
    · intro i h1 h2
      simp only [Array.size_push, hs] at h2
      rcases Nat.lt_or_ge i l.length with h3 | h3
      · rw [Array.getElem_setIfInBounds_ne (by simp; omega) (by omega), Array.getElem_push_lt (by omega), Array.getElem_push_lt (by omega)]
      · have : i = l.length := by omega
        subst this
        rw [Array.getElem_setIfInBounds_self]
        simp [← hs]
  rw [e]
  refine List.eq_nil_iff_forall_not_mem.2 fun i hi => ?_
  have hil : i < l.length + 1 := by have := ready_lt hi; simpa using this
  have h1 := (mem_ready.1 hi).1
  rcases Nat.lt_or_ge i l.length with h3 | h3
  · have h2 := h i h3
    rw [Array.getD_eq_getD_getElem?, Array.getElem?_push_lt (by omega)] at h1
    rw [Array.getD_eq_getD_getElem?, Array.getElem?_eq_getElem (by omega)] at h2
    simp at h1 h2
    rw [h1] at h2; cases h2
  · have : i = listed.size := by omega
    subst this
    rw [Array.getD_eq_getD_getElem?, Array.getElem?_push_size] at h1
    cases h1
theorem wpOp_old {Q' : Exit → Act → World → Prop} (hQ' : Q' = lastQ P (l ++ [o]).toArray Q l.length) (ok : LastOk md l o) {i : Nat} (hi : i < l.length) {K K' : Act → World → Prop} (hK : ∀ a w, K a w → K' a w) {a : Act} {w : World} (h : wpOp P l.toArray Q' i K a w) : wpOp P (l ++ [o]).toArray Q i K' a w := by
  subst hQ'
  have hli : l.toArray[i]? = some l[i] := by simp [hi]
  have hoi : (l ++ [o]).toArray[i]? = some l[i] := by rw [ops_old hi]; simp [hi]
  unfold wpOp at h ⊢
  simp only [hli] at h
  simp only [hoi]
  have hw : Region.wanted l[i] (yielded (l ++ [o]).toArray a.tmps) = Region.wanted l[i] (yielded l.toArray a.tmps) := by
    unfold Region.wanted
    cases hg : l[i].guard with
    | none => rfl
    | some p =>
      obtain ⟨g, b⟩ := p
      have hgl := ok.g i l[i] g b (by simp [hi]) hg
      show (yielded (l ++ [o]).toArray a.tmps g == some b) = (yielded l.toArray a.tmps g == some b)
      have : yielded (l ++ [o]).toArray a.tmps g = yielded l.toArray a.tmps g := by
        unfold yielded
        rw [ops_old hgl, List.getElem?_toArray]
      rw [this]
  rw [hw]
  split at h
  · rename_i hx
    rw [if_pos hx]
    rcases h with h | ⟨h1, h2⟩
    · exact .inl (wp_lastQ hK h)
    · exact .inr ⟨h1, h2⟩
  · rename_i hx
    rw [if_neg hx]
    exact hK _ _ h
theorem any_done {ops : Array Oper} {listed : Array Bool} {a : Act} {w : World} (hr : Region.ready md ops listed = []) (h : Q .normal a w) : ∀ fuel, wpAny P md ops Q fuel listed a w
  | 0 => ⟨hr, h⟩
  | _ + 1 => ⟨fun _ => h, by rw [hr]; simp⟩
theorem any_last (ok : LastOk md l o) : ∀ (fuel : Nat) (listed : Array Bool) (a : Act) (w : World), listed.size = l.length → wpAny P md l.toArray (lastQ P (l ++ [o]).toArray Q l.length) fuel listed a w → wpAny P md (l ++ [o]).toArray Q (fuel + 1) (listed.push false) a w := by
  have fin : ∀ (fuel : Nat) (listed : Array Bool) (a : Act) (w : World), listed.size = l.length → (∀ i, i < l.length → listed.getD i false = true) → lastQ P (l ++ [o]).toArray Q l.length .normal a w → wpOp P (l ++ [o]).toArray Q l.length (wpAny P md (l ++ [o]).toArray Q fuel ((listed.push false).setIfInBounds l.length true)) a w :=
    fun fuel listed a w hs hall h => wpOp_mono (fun a' w' h' => any_done (none_last ok hs hall) h' fuel) h
  intro fuel
  induction fuel with
  | zero =>
    intro listed a w hs h
    have hall := all_listed ok hs h.1
    refine ⟨fun h0 => (by have := ready_last ok hs hall; rw [h0] at this; cases this), fun i hi => ?_⟩
    have hil : i < l.length + 1 := by have := ready_lt hi; simpa using this
    rcases Nat.lt_or_ge i l.length with h3 | h3
    · have := (ready_old ok hs h3).1 hi
      rw [h.1] at this; cases this
    · have : i = l.length := by omega
      subst this
      exact fin 0 listed a w hs hall h.2
  | succ fuel ih =>
    intro listed a w hs h
    have hset : ∀ i, i < l.length → (listed.push false).setIfInBounds i true = (listed.setIfInBounds i true).push false := by
      intro i hi
      apply Array.ext
      · simp
      · intro j h1 h2
        simp only [Array.size_push, Array.size_setIfInBounds, hs] at h2
        rcases Nat.lt_or_ge j l.length with h3 | h3
        · rw [Array.getElem_push_lt (by simp; omega)]
          by_cases e : i = j
          · subst e; simp
          · rw [Array.getElem_setIfInBounds_ne (by simp; omega) e, Array.getElem_setIfInBounds_ne (by omega) e, Array.getElem_push_lt (by omega)]
        · have : j = l.length := by omega
          subst this
          rw [Array.getElem_setIfInBounds_ne (by simp; omega) (by omega)]
          simp [Array.getElem_push, hs]
    refine ⟨fun h0 => ?_, fun i hi => ?_⟩
    · exfalso
      have hr : Region.ready md l.toArray listed = [] := List.eq_nil_iff_forall_not_mem.2 fun i hi => by
        have hil : i < l.length := by have := ready_lt hi; simpa using this
        have := (ready_old ok hs hil).2 hi
        rw [h0] at this; cases this
      have := ready_last ok hs (all_listed ok hs hr)
      rw [h0] at this; cases this
    · have hil : i < l.length + 1 := by have := ready_lt hi; simpa using this
      rcases Nat.lt_or_ge i l.length with h3 | h3
      · have h4 := h.2 i ((ready_old ok hs h3).1 hi)
        refine wpOp_old rfl ok h3 (fun a' w' h5 => ?_) h4
        rw [hset i h3]
        exact ih _ a' w' (by simp [hs]) h5
      · have : i = l.length := by omega
        subst this
        have hall := listed_last ok hs hi
        exact fin (fuel + 1) listed a w hs hall (h.1 (none_ready hs hall))
theorem wp_region_last (bs : List Nat) {id : Nat} {a : Act} {w : World} (steps : Plan) (hm : P.follows .mixedOrders = true) (hl : lastB .any l o = true)
    (hok : (Region.noSelect l.toArray && steps.len == l.length && planOk .any l.toArray (Array.replicate l.length false) steps) = true)
    (hQ : ∀ c a d v w, Q (.panic c) (a.put d v) w → Q (.panic c) a w) (h : wpPlan bs P l.toArray (lastQ P (l ++ [o]).toArray Q l.length) steps a w.drew) : (Code.region id (l ++ [o]).toArray true).wp P Q a w := by
  simp only [Bool.and_eq_true, beq_iff_eq] at hok
  obtain ⟨⟨hs, hlen⟩, hok⟩ := hok
  have h1 := wpAnyH_plan (Q := lastQ P (l ++ [o]).toArray Q l.length) hs (fun c a d v w h => hQ c a d v w h) steps _ a w.drew hok h
  rw [hlen] at h1
  have h2 := any_last (lastB_ok hl) _ _ _ _ (by simp) (wpAny_of_held _ _ _ _ h1)
  refine wp_region_any hm ?_
  have e : (Array.replicate l.length false).push false = Array.replicate (l ++ [o]).toArray.size false := by simp [Array.replicate_succ]
  rw [e] at h2
  have e2 : (l ++ [o]).toArray.size = l.length + 1 := by simp
  rw [e2] at h2 ⊢
  exact h2
/-- The last operation. -/
theorem last_step {a : Act} {w : World} (hg : o.guard = none) (h : ∀ K : Act → World → Prop, Shut (∀ a' w', Q .normal a' w' → K a' w') → o.wp P a w K Q) : lastQ P (l ++ [o]).toArray Q l.length .normal a w := by
  show wpOp P (l ++ [o]).toArray Q l.length (Q .normal) a w
  unfold wpOp
  simp only [ops_new]
  have : Region.wanted o (yielded (l ++ [o]).toArray a.tmps) = true := by unfold Region.wanted; rw [hg]
  rw [if_pos this]
  exact .inl (h _ (fun _ _ hk => hk))
end
end Go.Proofs.Ytpdfhbgemmpleaa
