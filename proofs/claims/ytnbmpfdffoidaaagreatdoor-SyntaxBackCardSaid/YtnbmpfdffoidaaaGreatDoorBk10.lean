/- Texts of the proof, joined: SchedE, SchedApp, SynTree. -/
import Derived.Test.YtnbmpfdffoidaaaGreatDoorBk01
import Derived.Test.YtnbmpfdffoidaaaGreatDoorBk06
import Derived.Test.YtnbmpfdffoidaaaGreatDoorBk07
import Derived.Test.YtnbmpfdffoidaaaGreatDoorBk09
set_option linter.unusedVariables false
set_option linter.unusedSimpArgs false
set_option maxHeartbeats 8000000
set_option maxRecDepth 100000
namespace Go.Proofs.YtnbmpfdffoidaaaGreatDoor
open Go.RowKit
section
variable {P : Program} {Q : Exit → Act → World → Prop} {md : Region.Mode}
def lastQ (P : Program) (ops : Array Oper) (Q : Exit → Act → World → Prop) (m : Nat) : Exit → Act → World → Prop
 | .normal, a, w => wpOp P ops Q m (Q .normal) a w
 | .exit id, a, w => Q (.exit id) a w
 | .goto n, a, w => Q (.goto n) a w
 | .ret, a, w => Q .ret a w
 | .panic c, a, w => Q (.panic c) a w
 | .outgrown, a, w => Q .outgrown a w
theorem wp_lastQ {ops : Array Oper} {m : Nat} {o : Oper} {a : Act} {w : World} {K K' : Act → World → Prop} (hK : ∀ a w, K a w → K' a w) (h : o.wp P a w K (lastQ P ops Q m)) : o.wp P a w K' Q := by
 unfold Oper.wp at *
 generalize (execOp a.eval o).run P w = r at *
 cases r with
 | ok n w' =>
  cases n <;> simp only [Oper.upon] at h ⊢
  case value u => exact hK _ _ h
  case skip => exact hK _ _ h
  case defer d => exact hK _ _ h
  case enter f args =>
   refine Calls.mono h fun e w'' he => ?_
   cases e with
   | returned u => exact hK _ _ he
   | panicked c => exact he
   | outgrown => exact he
  case row row args => exact Rows.mono h fun u w'' he => hK _ _ he
 | halt x w' =>
  cases x <;> simp only [Oper.upon] at h ⊢
  case panic u => exact h
def lastB (md : Region.Mode) (l : List Oper) (o : Oper) : Bool :=
 o.after.all (fun e => decide (e.on < l.length)) &&
 (List.range l.length).all fun j => (match l[j]? with
  | some oj => oj.after.all (fun e => decide (e.on < j)) && (match oj.guard with
   | none => true
   | some (g, _) => decide (g < l.length))
  | none => true) && ((o.after.any fun e => Region.binds md e && e.on == j) || (List.range l.length).any fun k => (o.after.any fun e => Region.binds md e && e.on == k) && (match l[k]? with
   | some ok => ok.after.any fun e => Region.binds md e && e.on == j
   | none => false))
structure LastOk (md : Region.Mode) (l : List Oper) (o : Oper) : Prop where
 last : ∀ e ∈ o.after, e.on < l.length
 b : ∀ (j : Nat) (oj : Oper), l[j]? = some oj → ∀ e ∈ oj.after, e.on < j
 g : ∀ (j : Nat) (oj : Oper) (g : Nat) (b : Bool), l[j]? = some oj → oj.guard = some (g, b) → g < l.length
 w : ∀ j, j < l.length → (∃ e ∈ o.after, Region.binds md e = true ∧ e.on = j) ∨ ∃ k ok, l[k]? = some ok ∧ (∃ e ∈ o.after, Region.binds md e = true ∧ e.on = k) ∧ ∃ e ∈ ok.after, Region.binds md e = true ∧ e.on = j
def Closed (md : Region.Mode) (l : List Oper) (listed : Array Bool) : Prop := ∀ (j : Nat) (oj : Oper), l[j]? = some oj → listed.getD j false = true → ∀ e ∈ oj.after, Region.binds md e = true → listed.getD e.on false = true
theorem getD_set {listed : Array Bool} {i j : Nat} : (listed.setIfInBounds i true).getD j false = true ↔ (listed.getD j false = true ∨ (i = j ∧ j < listed.size)) := by
 rw [Array.getD_eq_getD_getElem?, Array.getD_eq_getD_getElem?, Array.getElem?_setIfInBounds]
 by_cases h : i = j
 ·subst h
  by_cases h2 : i < listed.size <;> simp [h2]
 ·simp [h]
theorem lastB_ok {l : List Oper} {o : Oper} (h : lastB md l o = true) : LastOk md l o := by
 unfold lastB at h
 simp only [Bool.and_eq_true, List.all_eq_true, Array.all_eq_true', Array.any_eq_true', List.mem_range, decide_eq_true_eq] at h
 obtain ⟨h1, h2⟩ := h
 refine ⟨h1, fun j oj hj e he => ?_, fun j oj g b hj hg => ?_, fun j hj => ?_⟩
 ·have hjl : j < l.length := (List.getElem?_eq_some_iff.1 hj).1
  have h3 := (h2 j hjl).1
  rw [hj] at h3
  simp only [Bool.and_eq_true, Array.all_eq_true', decide_eq_true_eq] at h3
  exact h3.1 e he
 ·have hjl : j < l.length := (List.getElem?_eq_some_iff.1 hj).1
  have h3 := (h2 j hjl).1
  rw [hj] at h3
  simp only [Bool.and_eq_true] at h3
  have h4 := h3.2
  rw [hg] at h4
  simpa using h4
 ·have h3 := (h2 j hj).2
  simp only [Bool.or_eq_true, Array.any_eq_true', List.any_eq_true, Bool.and_eq_true, beq_iff_eq] at h3
  rcases h3 with ⟨e, he, h3⟩ | ⟨k, _, ⟨e, he, h3⟩, h4⟩
  ·exact .inl ⟨e, he, h3⟩
  ·refine .inr ?_
   cases hk : l[k]? with
   | none => rw [hk] at h4; cases h4
   | some ok =>
    rw [hk] at h4
    simp only [Array.any_eq_true', Bool.and_eq_true, beq_iff_eq] at h4
    obtain ⟨e2, he2, h5⟩ := h4
    exact ⟨k, ok, hk, ⟨e, he, h3⟩, e2, he2, h5⟩
variable {l : List Oper} {o : Oper}
theorem push_old {listed : Array Bool} {i : Nat} {d : Bool} (h : i < listed.size) : (listed.push false).getD i d = listed.getD i d := by
 rw [Array.getD_eq_getD_getElem?, Array.getD_eq_getD_getElem?, Array.getElem?_push_lt h, Array.getElem?_eq_getElem h]
theorem push_new {listed : Array Bool} {d : Bool} : (listed.push false).getD listed.size d = false := by
 rw [Array.getD_eq_getD_getElem?, Array.getElem?_push_size]; rfl
theorem ops_old {i : Nat} (h : i < l.length) : (l ++ [o]).toArray[i]? = l[i]? := by simp [List.getElem?_append_left h]
theorem ops_new : (l ++ [o]).toArray[l.length]? = some o := by simp
theorem ready_old {listed : Array Bool} (ok : LastOk md l o) (hs : listed.size = l.length) {i : Nat} (hi : i < l.length) :
  i ∈ Region.ready md (l ++ [o]).toArray (listed.push false) ↔ i ∈ Region.ready md l.toArray listed := by
 rw [mem_ready, mem_ready, push_old (by omega), ops_old hi]
 simp only [List.getElem?_toArray]
 constructor
 ·rintro ⟨h1, oj, h2, h3⟩
  exact ⟨h1, oj, h2, fun e he hb => by have := h3 e he hb; rwa [push_old (by have := ok.b i oj h2 e he; omega)] at this⟩
 ·rintro ⟨h1, oj, h2, h3⟩
  exact ⟨h1, oj, h2, fun e he hb => by rw [push_old (by have := ok.b i oj h2 e he; omega)]; exact h3 e he hb⟩
theorem ready_lt {ops : Array Oper} {listed : Array Bool} {i : Nat} (h : i ∈ Region.ready md ops listed) : i < ops.size := by
 obtain ⟨_, oj, h2, _⟩ := mem_ready.1 h
 exact (Array.getElem?_eq_some_iff.1 h2).1
theorem all_listed {listed : Array Bool} (ok : LastOk md l o) (hs : listed.size = l.length) (h : Region.ready md l.toArray listed = []) : ∀ i, i < l.length → listed.getD i false = true := by
 intro i
 induction i using Nat.strongRecOn with
 | _ i ih =>
  intro hi
  cases hl : listed.getD i false with
  | true => rfl
  | false =>
   have h1 : listed.getD i true = false := by
    rw [Array.getD_eq_getD_getElem?, Array.getElem?_eq_getElem (by omega)] at hl ⊢
    exact hl
   have : i ∈ Region.ready md l.toArray listed := mem_ready.2 ⟨h1, l[i], by simp [hi], fun e he _ => ih e.on (ok.b i l[i] (by simp [hi]) e he) (by have := ok.b i l[i] (by simp [hi]) e he; omega)⟩
   rw [h] at this; cases this
theorem ready_last {listed : Array Bool} (ok : LastOk md l o) (hs : listed.size = l.length) (h : ∀ i, i < l.length → listed.getD i false = true) : l.length ∈ Region.ready md (l ++ [o]).toArray (listed.push false) :=
 mem_ready.2 ⟨by rw [← hs]; exact push_new, o, ops_new, fun e he _ => by have h1 := ok.last e he; rw [push_old (by omega)]; exact h _ h1⟩
theorem listed_last {listed : Array Bool} (ok : LastOk md l o) (hs : listed.size = l.length) (hc : Closed md l listed) (h : l.length ∈ Region.ready md (l ++ [o]).toArray (listed.push false)) : ∀ i, i < l.length → listed.getD i false = true := by
 intro i hi
 obtain ⟨_, oj, h2, h3⟩ := mem_ready.1 h
 rw [ops_new] at h2
 injection h2 with h2
 subst h2
 rcases ok.w i hi with ⟨e, he, hb, rfl⟩ | ⟨k, oc, hk, ⟨e, he, hb, rfl⟩, e2, he2, hb2, rfl⟩
 ·have := h3 e he hb
  rwa [push_old (by omega)] at this
 ·have h4 := h3 e he hb
  rw [push_old (by have := ok.last e he; omega)] at h4
  exact hc _ _ hk h4 e2 he2 hb2
theorem closed_step {listed : Array Bool} {i : Nat} (hs : listed.size = l.length) (hc : Closed md l listed) (h : i ∈ Region.ready md l.toArray listed) : Closed md l (listed.setIfInBounds i true) := by
 intro j oj hj hl e he hb
 rw [getD_set]
 rcases getD_set.1 hl with h1 | ⟨rfl, h1⟩
 ·exact .inl (hc j oj hj h1 e he hb)
 ·obtain ⟨_, oi, h2, h3⟩ := mem_ready.1 h
  rw [List.getElem?_toArray, hj] at h2
  injection h2 with h2
  subst h2
  exact .inl (h3 e he hb)
theorem none_ready {listed : Array Bool} (hs : listed.size = l.length) (h : ∀ i, i < l.length → listed.getD i false = true) : Region.ready md l.toArray listed = [] := by
 refine List.eq_nil_iff_forall_not_mem.2 fun i hi => ?_
 have hil : i < l.length := by have := ready_lt hi; simpa using this
 have h1 := (mem_ready.1 hi).1
 have h2 := h i hil
 rw [Array.getD_eq_getD_getElem?, Array.getElem?_eq_getElem (by omega)] at h1 h2
 simp at h1 h2
 rw [h1] at h2; cases h2
theorem none_last {listed : Array Bool} (ok : LastOk md l o) (hs : listed.size = l.length) (h : ∀ i, i < l.length → listed.getD i false = true) : Region.ready md (l ++ [o]).toArray ((listed.push false).setIfInBounds l.length true) = [] := by
 have e : (listed.push false).setIfInBounds l.length true = listed.push true := by
  apply Array.ext
  ·simp
  ·intro i h1 h2
   simp only [Array.size_push, hs] at h2
   rcases Nat.lt_or_ge i l.length with h3 | h3
   ·rw [Array.getElem_setIfInBounds_ne (by simp; omega) (by omega), Array.getElem_push_lt (by omega), Array.getElem_push_lt (by omega)]
   ·have : i = l.length := by omega
    subst this
    rw [Array.getElem_setIfInBounds_self]
    simp [← hs]
 rw [e]
 refine List.eq_nil_iff_forall_not_mem.2 fun i hi => ?_
 have hil : i < l.length + 1 := by have := ready_lt hi; simpa using this
 have h1 := (mem_ready.1 hi).1
 rcases Nat.lt_or_ge i l.length with h3 | h3
 ·have h2 := h i h3
  rw [Array.getD_eq_getD_getElem?, Array.getElem?_push_lt (by omega)] at h1
  rw [Array.getD_eq_getD_getElem?, Array.getElem?_eq_getElem (by omega)] at h2
  simp at h1 h2
  rw [h1] at h2; cases h2
 ·have : i = listed.size := by omega
  subst this
  rw [Array.getD_eq_getD_getElem?, Array.getElem?_push_size] at h1
  cases h1
theorem wpOp_old {Q' : Exit → Act → World → Prop} (hQ' : Q' = lastQ P (l ++ [o]).toArray Q l.length) (ok : LastOk md l o) {i : Nat} (hi : i < l.length) {K K' : Act → World → Prop} (hK : ∀ a w, K a w → K' a w) {a : Act} {w : World} (h : wpOp P l.toArray Q' i K a w) : wpOp P (l ++ [o]).toArray Q i K' a w := by
 subst hQ'
 have hli : l.toArray[i]? = some l[i] := by simp [hi]
 have hoi : (l ++ [o]).toArray[i]? = some l[i] := by rw [ops_old hi]; simp [hi]
 unfold wpOp at h ⊢
 simp only [hli] at h
 simp only [hoi]
 have hw : Region.wanted l[i] (yielded (l ++ [o]).toArray a.tmps) = Region.wanted l[i] (yielded l.toArray a.tmps) := by
  unfold Region.wanted
  cases hg : l[i].guard with
  | none => rfl
  | some p =>
   obtain ⟨g, b⟩ := p
   have hgl := ok.g i l[i] g b (by simp [hi]) hg
   show (yielded (l ++ [o]).toArray a.tmps g == some b) = (yielded l.toArray a.tmps g == some b)
   have : yielded (l ++ [o]).toArray a.tmps g = yielded l.toArray a.tmps g := by
    unfold yielded
    rw [ops_old hgl, List.getElem?_toArray]
   rw [this]
 rw [hw]
 split at h
 ·rename_i hx
  rw [if_pos hx]
  rcases h with h | ⟨h1, h2⟩
  ·exact .inl (wp_lastQ hK h)
  ·exact .inr ⟨h1, h2⟩
 ·rename_i hx
  rw [if_neg hx]
  exact hK _ _ h
theorem any_done {ops : Array Oper} {listed : Array Bool} {a : Act} {w : World} (hr : Region.ready md ops listed = []) (h : Q .normal a w) : ∀ fuel, wpAny P md ops Q fuel listed a w
 | 0 => ⟨hr, h⟩
 | _ + 1 => ⟨fun _ => h, by rw [hr]; simp⟩
theorem any_last (ok : LastOk md l o) : ∀ (fuel : Nat) (listed : Array Bool) (a : Act) (w : World), listed.size = l.length → Closed md l listed → wpAny P md l.toArray (lastQ P (l ++ [o]).toArray Q l.length) fuel listed a w → wpAny P md (l ++ [o]).toArray Q (fuel + 1) (listed.push false) a w := by
 have fin : ∀ (fuel : Nat) (listed : Array Bool) (a : Act) (w : World), listed.size = l.length → (∀ i, i < l.length → listed.getD i false = true) → lastQ P (l ++ [o]).toArray Q l.length .normal a w → wpOp P (l ++ [o]).toArray Q l.length (wpAny P md (l ++ [o]).toArray Q fuel ((listed.push false).setIfInBounds l.length true)) a w :=
  fun fuel listed a w hs hall h => wpOp_mono (fun a' w' h' => any_done (none_last ok hs hall) h' fuel) h
 intro fuel
 induction fuel with
 | zero =>
  intro listed a w hs hc h
  have hall := all_listed ok hs h.1
  refine ⟨fun h0 => (by have := ready_last ok hs hall; rw [h0] at this; cases this), fun i hi => ?_⟩
  have hil : i < l.length + 1 := by have := ready_lt hi; simpa using this
  rcases Nat.lt_or_ge i l.length with h3 | h3
  ·have := (ready_old ok hs h3).1 hi
   rw [h.1] at this; cases this
  ·have : i = l.length := by omega
   subst this
   exact fin 0 listed a w hs hall h.2
 | succ fuel ih =>
  intro listed a w hs hc h
  have hset : ∀ i, i < l.length → (listed.push false).setIfInBounds i true = (listed.setIfInBounds i true).push false := by
   intro i hi
   apply Array.ext
   ·simp
   ·intro j h1 h2
    simp only [Array.size_push, Array.size_setIfInBounds, hs] at h2
    rcases Nat.lt_or_ge j l.length with h3 | h3
    ·rw [Array.getElem_push_lt (by simp; omega)]
     by_cases e : i = j
     ·subst e; simp
     ·rw [Array.getElem_setIfInBounds_ne (by simp; omega) e, Array.getElem_setIfInBounds_ne (by omega) e, Array.getElem_push_lt (by omega)]
    ·have : j = l.length := by omega
     subst this
     rw [Array.getElem_setIfInBounds_ne (by simp; omega) (by omega)]
     simp [Array.getElem_push, hs]
  refine ⟨fun h0 => ?_, fun i hi => ?_⟩
  ·exfalso
   have hr : Region.ready md l.toArray listed = [] := List.eq_nil_iff_forall_not_mem.2 fun i hi => by
    have hil : i < l.length := by have := ready_lt hi; simpa using this
    have := (ready_old ok hs hil).2 hi
    rw [h0] at this; cases this
   have := ready_last ok hs (all_listed ok hs hr)
   rw [h0] at this; cases this
  ·have hil : i < l.length + 1 := by have := ready_lt hi; simpa using this
   rcases Nat.lt_or_ge i l.length with h3 | h3
   ·have h4 := h.2 i ((ready_old ok hs h3).1 hi)
    refine wpOp_old rfl ok h3 (fun a' w' h5 => ?_) h4
    rw [hset i h3]
    exact ih _ a' w' (by simp [hs]) (closed_step hs hc ((ready_old ok hs h3).1 hi)) h5
   ·have : i = l.length := by omega
    subst this
    have hall := listed_last ok hs hc hi
    exact fin (fuel + 1) listed a w hs hall (h.1 (none_ready hs hall))
theorem wp_region_last (bs : List Nat) {id : Nat} {a : Act} {w : World} (steps : Plan) (hm : P.follows .mixedOrders = true) (hl : lastB .any l o = true)
  (hok : (Region.noSelect l.toArray && steps.len == l.length && planOk .any l.toArray (Array.replicate l.length false) steps) = true)
  (hQ : ∀ c a d v w, Q (.panic c) (a.put d v) w → Q (.panic c) a w) (h : wpPlan bs P l.toArray (lastQ P (l ++ [o]).toArray Q l.length) steps a w.drew) : (Code.region id (l ++ [o]).toArray true).wp P Q a w := by
 simp only [Bool.and_eq_true, beq_iff_eq] at hok
 obtain ⟨⟨hs, hlen⟩, hok⟩ := hok
 have h1 := wpAnyH_plan (Q := lastQ P (l ++ [o]).toArray Q l.length) hs (fun c a d v w h => hQ c a d v w h) steps _ a w.drew hok h
 rw [hlen] at h1
 have h2 := any_last (lastB_ok hl) _ _ _ _ (by simp) (fun j oj _ h => by simp [Array.getD_eq_getD_getElem?, Array.getElem?_replicate] at h; split at h <;> simp at h) (wpAny_of_held _ _ _ _ h1)
 refine wp_region_any hm ?_
 have e : (Array.replicate l.length false).push false = Array.replicate (l ++ [o]).toArray.size false := by simp [Array.replicate_succ]
 rw [e] at h2
 have e2 : (l ++ [o]).toArray.size = l.length + 1 := by simp
 rw [e2] at h2 ⊢
 exact h2
theorem last_step {a : Act} {w : World} (hg : o.guard = none) (h : ∀ K : Act → World → Prop, Shut (∀ a' w', Q .normal a' w' → K a' w') → o.wp P a w K Q) : lastQ P (l ++ [o]).toArray Q l.length .normal a w := by
 show wpOp P (l ++ [o]).toArray Q l.length (Q .normal) a w
 unfold wpOp
 simp only [ops_new]
 have : Region.wanted o (yielded (l ++ [o]).toArray a.tmps) = true := by unfold Region.wanted; rw [hg]
 rw [if_pos this]
 exact .inl (h _ (fun _ _ hk => hk))
end
end Go.Proofs.YtnbmpfdffoidaaaGreatDoor
namespace Go.Proofs.YtnbmpfdffoidaaaGreatDoor
open Go.RowKit
end Go.Proofs.YtnbmpfdffoidaaaGreatDoor
namespace Go.Proofs.YtnbmpfdffoidaaaGreatDoor.Y
open Go.RowKit O V S X
theorem heap_set' {w : World} {b : Nat} {cs : Array Value} {T : TypeId} (hb : w.heap[b]? = some (.cells cs T (0, 0))) (v : Value) (i : Nat) {cs' : Array Value} (e : cs.setIfInBounds i v = cs') : (w.setCell ⟨b, i, none⟩ v).heap[b]? = some (.cells cs' T (0, 0)) := by
 subst e
 exact heap_set hb v
theorem box11_set {w : World} {b : Nat} {vs : List Value} {T : TypeId} (hb : w.heap[b]? = some (.cells vs.toArray T (0, 0))) (hl : vs.length = 11) (u0 u1 u2 u3 u4 u5 u6 u7 u8 u9 u10 : Value) :
  (((((((((((w.setCell ⟨b, 0, none⟩ u0).setCell ⟨b, 1, none⟩ u1).setCell ⟨b, 2, none⟩ u2).setCell ⟨b, 3, none⟩ u3).setCell ⟨b, 4, none⟩ u4).setCell ⟨b, 5, none⟩ u5).setCell ⟨b, 6, none⟩ u6).setCell ⟨b, 7, none⟩ u7).setCell ⟨b, 8, none⟩ u8).setCell ⟨b, 9, none⟩ u9).setCell ⟨b, 10, none⟩ u10).heap[b]? = some (.cells #[u0, u1, u2, u3, u4, u5, u6, u7, u8, u9, u10] T (0, 0)) := by
 match vs, hl with
 | [a0, a1, a2, a3, a4, a5, a6, a7, a8, a9, a10], _ =>
  have h0 := heap_set' hb u0 0 (cs' := #[u0, a1, a2, a3, a4, a5, a6, a7, a8, a9, a10]) rfl
  have h1 := heap_set' h0 u1 1 (cs' := #[u0, u1, a2, a3, a4, a5, a6, a7, a8, a9, a10]) rfl
  have h2 := heap_set' h1 u2 2 (cs' := #[u0, u1, u2, a3, a4, a5, a6, a7, a8, a9, a10]) rfl
  have h3 := heap_set' h2 u3 3 (cs' := #[u0, u1, u2, u3, a4, a5, a6, a7, a8, a9, a10]) rfl
  have h4 := heap_set' h3 u4 4 (cs' := #[u0, u1, u2, u3, u4, a5, a6, a7, a8, a9, a10]) rfl
  have h5 := heap_set' h4 u5 5 (cs' := #[u0, u1, u2, u3, u4, u5, a6, a7, a8, a9, a10]) rfl
  have h6 := heap_set' h5 u6 6 (cs' := #[u0, u1, u2, u3, u4, u5, u6, a7, a8, a9, a10]) rfl
  have h7 := heap_set' h6 u7 7 (cs' := #[u0, u1, u2, u3, u4, u5, u6, u7, a8, a9, a10]) rfl
  have h8 := heap_set' h7 u8 8 (cs' := #[u0, u1, u2, u3, u4, u5, u6, u7, u8, a9, a10]) rfl
  have h9 := heap_set' h8 u9 9 (cs' := #[u0, u1, u2, u3, u4, u5, u6, u7, u8, u9, a10]) rfl
  have h10 := heap_set' h9 u10 10 (cs' := #[u0, u1, u2, u3, u4, u5, u6, u7, u8, u9, u10]) rfl
  exact h10
def set11 (w : World) (b : Nat) (u0 u1 u2 u3 u4 u5 u6 u7 u8 u9 u10 : Value) : World :=
 (((((((((((w.setCell ⟨b, 0, none⟩ u0).setCell ⟨b, 1, none⟩ u1).setCell ⟨b, 2, none⟩ u2).setCell ⟨b, 3, none⟩ u3).setCell ⟨b, 4, none⟩ u4).setCell ⟨b, 5, none⟩ u5).setCell ⟨b, 6, none⟩ u6).setCell ⟨b, 7, none⟩ u7).setCell ⟨b, 8, none⟩ u8).setCell ⟨b, 9, none⟩ u9).setCell ⟨b, 10, none⟩ u10)
section
variable {w : World} {b : Nat} {u0 u1 u2 u3 u4 u5 u6 u7 u8 u9 u10 : Value}
theorem set11_box {vs : List Value} {T : TypeId} (hb : w.heap[b]? = some (.cells vs.toArray T (0, 0))) (hl : vs.length = 11) : (set11 w b u0 u1 u2 u3 u4 u5 u6 u7 u8 u9 u10).heap[b]? = some (.cells #[u0, u1, u2, u3, u4, u5, u6, u7, u8, u9, u10] T (0, 0)) :=
 box11_set hb hl u0 u1 u2 u3 u4 u5 u6 u7 u8 u9 u10
theorem set11_mod : Mod [b] w (set11 w b u0 u1 u2 u3 u4 u5 u6 u7 u8 u9 u10) := by
 unfold set11
 iterate 11 refine Mod.set ?_ (.inl (by simp)) _
 exact Mod.refl _ _
theorem set11_size : (set11 w b u0 u1 u2 u3 u4 u5 u6 u7 u8 u9 u10).heap.size = w.heap.size := by
 unfold set11
 simp
theorem set11_other {k : Nat} (hk : k ≠ b) : (set11 w b u0 u1 u2 u3 u4 u5 u6 u7 u8 u9 u10).heap[k]? = w.heap[k]? := by
 unfold set11
 iterate 11 rw [Below.heap_setCell _ _ _ _ hk]
end
theorem cells11 {W : World} {g : Nat} {x0 x1 x2 x3 x4 x5 x6 x7 x8 x9 x10 : Value} {T : TypeId} (h : W.heap[g]? = some (.cells #[x0, x1, x2, x3, x4, x5, x6, x7, x8, x9, x10] T (0, 0))) :
  (((W.cell? ⟨g, 0, none⟩ = some x0 ∧ W.cell? ⟨g, 1, none⟩ = some x1) ∧ (W.cell? ⟨g, 2, none⟩ = some x2 ∧ W.cell? ⟨g, 3, none⟩ = some x3)) ∧
  ((W.cell? ⟨g, 4, none⟩ = some x4 ∧ W.cell? ⟨g, 5, none⟩ = some x5) ∧ (W.cell? ⟨g, 6, none⟩ = some x6 ∧ W.cell? ⟨g, 7, none⟩ = some x7))) ∧ (W.cell? ⟨g, 8, none⟩ = some x8 ∧ W.cell? ⟨g, 9, none⟩ = some x9) ∧ W.cell? ⟨g, 10, none⟩ = some x10 := by
 refine ⟨⟨⟨⟨?_, ?_⟩, ?_, ?_⟩, ⟨?_, ?_⟩, ?_, ?_⟩, ⟨?_, ?_⟩, ?_⟩ <;> (rw [Lib.cell_of_heap h]; rfl)
theorem frozen11 {W : World} {g : Nat} {cs : Array Value} {T : TypeId} (h : W.heap[g]? = some (.cells cs T (0, 0))) :
  (((W.frozen? ⟨g, 0, none⟩ = false ∧ W.frozen? ⟨g, 1, none⟩ = false) ∧ (W.frozen? ⟨g, 2, none⟩ = false ∧ W.frozen? ⟨g, 3, none⟩ = false)) ∧
  ((W.frozen? ⟨g, 4, none⟩ = false ∧ W.frozen? ⟨g, 5, none⟩ = false) ∧ (W.frozen? ⟨g, 6, none⟩ = false ∧ W.frozen? ⟨g, 7, none⟩ = false))) ∧ (W.frozen? ⟨g, 8, none⟩ = false ∧ W.frozen? ⟨g, 9, none⟩ = false) ∧ W.frozen? ⟨g, 10, none⟩ = false :=
 ⟨⟨⟨⟨Lib.frozen_of_heap h 0, Lib.frozen_of_heap h 1⟩, Lib.frozen_of_heap h 2, Lib.frozen_of_heap h 3⟩, ⟨Lib.frozen_of_heap h 4, Lib.frozen_of_heap h 5⟩, Lib.frozen_of_heap h 6, Lib.frozen_of_heap h 7⟩, ⟨Lib.frozen_of_heap h 8, Lib.frozen_of_heap h 9⟩, Lib.frozen_of_heap h 10⟩
theorem Row.of_block {w : World} {S : Nat → Prop} {size n c b : Nat} {xs : List Value} {T : TypeId} (h : w.heap[b]? = some (.cells xs.toArray T (0, 0))) (hS : S b) (hl : xs.length = n * size) (hn : n ≤ c) (hc : c ≤ 9223372036854775807) : Row w S size (some ⟨b, 0, none⟩) n c xs :=
 ⟨hl, ⟨hn, hc⟩, fun hp => ⟨b, 0, rfl, hS, fun j hj => by
  rw [Nat.zero_add, Lib.cell_of_heap h]
  simp⟩⟩
def ExG (lo : Nat) (x : Ex) (w' : World) (v : Value) : Prop := ∃ vs S, v = .agg vs.toArray ∧ ExR w' S x vs ∧ In lo w' S
theorem ExR.leaf {w : World} {S : Nat → Prop} {x : Ex} {vs : List Value} (hx : parts x = []) {A : Option Addr} {c : Nat} {p q r : Int} (hc : c ≤ 9223372036854775807) (e : vs = exC x (.slice A 0 c) p q r) : ExR w S x vs := by
 rw [ExR_eq, hx]
 exact ⟨A, c, [], p, q, r, e, ⟨by simp, ⟨Nat.zero_le _, hc⟩, fun h => absurd h (by simp)⟩, rfl⟩
theorem ExR.one {w : World} {S : Nat → Prop} {x y : Ex} {vs us : List Value} (hx : parts x = [y]) {A : Option Addr} {c : Nat} {p q r : Int} (e : vs = exC x (.slice A 1 c) p q r) (hr : Row w S 11 A 1 c us) (hy : ExR w S y us) : ExR w S x vs := by
 rw [ExR_eq, hx]
 exact ⟨A, c, us, p, q, r, e, hr, us, [], by simp, hy, rfl⟩
theorem ExR.two {w : World} {S : Nat → Prop} {x y z : Ex} {vs us ts : List Value} (hx : parts x = [y, z]) {A : Option Addr} {c : Nat} {p q r : Int} (e : vs = exC x (.slice A 2 c) p q r) (hr : Row w S 11 A 2 c (us ++ ts)) (hy : ExR w S y us) (hz : ExR w S z ts) : ExR w S x vs := by
 rw [ExR_eq, hx]
 exact ⟨A, c, us ++ ts, p, q, r, e, hr, us, ts, rfl, hy, ts, [], by simp, hz, rfl⟩
theorem ExR.form {w : World} {S : Nat → Prop} {x : Ex} {vs : List Value} (h : ExR w S x vs) : ∃ (A : Option Addr) (n c : Nat) (p q r : Int), vs = exC x (.slice A n c) p q r := by
 obtain ⟨A, c, es, p, q, r, e, _⟩ := (ExR_eq x vs).1 h
 exact ⟨A, _, c, p, q, r, e⟩
theorem pExpr_succ (f lvl d : Nat) (l : List Tok) : pExpr (f + 1) lvl d l = (pUnary f d l).bind fun x r => pLoop f lvl d x r := by rw [pExpr]
theorem pLoop_succ (f lvl d : Nat) (x : Ex) (l : List Tok) : pLoop (f + 1) lvl d x l = if (opT l).2 ≤ lvl then .ok x l else (pExpr f (opT l).2 d l.tail).bind fun y r => pLoop f lvl d (.bin (opT l).1 x y) r := by rw [pLoop]
theorem pLoop_zero (lvl d : Nat) (x : Ex) (l : List Tok) : pLoop 0 lvl d x l = .oof := by rw [pLoop]
theorem opT_some {l : List Tok} (h : (opT l).2 ≠ 0) : ∃ t r, l = t :: r ∧ t.1 = 4 ∧ pNext 4 l = .ok t r := by
 cases l with
 | nil => exact absurd rfl h
 | cons t r =>
  unfold opT at h
  simp only at h
  by_cases h4 : t.1 = 4
  ·exact ⟨t, r, rfl, h4, if_pos h4⟩
  ·rw [if_neg h4] at h; exact absurd rfl h
def Left {α : Type} (n : Nat) : Res α → Prop
 | .ok _ r => r.length ≤ n
 | _ => True
theorem Left.bind {α β : Type} {n m : Nat} {p : Res α} {k : α → List Tok → Res β} (h : Left n p) (hk : ∀ a r, r.length ≤ n → Left m (k a r)) : Left m (p.bind k) := by
 cases p with
 | oof => trivial
 | bad => trivial
 | ok a r => exact hk a r h
theorem Left.mono {α : Type} {n m : Nat} {p : Res α} (h : Left n p) (hn : n ≤ m) : Left m p := by
 cases p with
 | oof => trivial
 | bad => trivial
 | ok a r => exact Nat.le_trans h hn
theorem want_left (l : List Tok) (s : List UInt8) : Left l.length (want l s) := by
 unfold want
 split
 ·show l.tail.length ≤ _; simp
 ·trivial
theorem name_left (l : List Tok) : Left l.length (pName l) := by
 cases l with
 | nil => trivial
 | cons t r =>
  show Left _ (if t.1 = 1 ∧ isNameL t.2.1 = true then Res.ok t.2.1 r else .bad)
  split
  ·show r.length ≤ _; simp
  ·trivial
theorem around_left {α : Type} (a b : List UInt8) (d : Nat) (l : List Tok) {k : Nat → List Tok → Res α} (hk : ∀ d r, Left r.length (k d r)) : Left l.length (Y.around a b d l k) := by
 unfold Y.around
 split
 ·split
  ·trivial
  ·refine Left.bind (n := l.length) ((hk _ _).mono (by simp)) fun x r hr => ?_
   exact Left.bind (want_left _ _) fun _ r2 hr2 => Nat.le_trans hr2 hr
 ·trivial
theorem expr_left : ∀ f, (∀ lvl d l, Left l.length (pExpr f lvl d l)) ∧ (∀ lvl d x l, Left l.length (pLoop f lvl d x l)) ∧ (∀ d l, Left l.length (pUnary f d l)) ∧ (∀ d l, Left l.length (pOperand f d l))
 | 0 => by
  refine ⟨fun _ _ _ => ?_, fun _ _ _ _ => ?_, fun _ _ => ?_, fun _ _ => ?_⟩
  ·rw [pExpr]; trivial
  ·rw [pLoop]; trivial
  ·rw [pUnary]; trivial
  ·rw [pOperand]; trivial
 | f + 1 => by
  obtain ⟨he, hl, hu, ho⟩ := expr_left f
  have tl : ∀ l : List Tok, l.tail.length ≤ l.length := fun l => by simp
  refine ⟨fun lvl d l => ?_, fun lvl d x l => ?_, fun d l => ?_, fun d l => ?_⟩
  ·rw [pExpr]
   exact Left.bind (hu d l) fun x r hr => (hl lvl d x r).mono hr
  ·rw [pLoop]
   split
   ·exact Nat.le_refl _
   ·exact Left.bind ((he _ d l.tail).mono (tl l)) fun y r hr => (hl lvl d _ r).mono hr
  ·rw [pUnary]
   split
   ·split
    ·trivial
    ·exact Left.bind ((hu (d + 1) l.tail).mono (tl l)) fun x r hr => hr
   ·split
    ·split
     ·trivial
     ·exact Left.bind ((hu (d + 1) l.tail).mono (tl l)) fun x r hr => hr
    ·exact ho d l
  ·rw [pOperand]
   split
   ·exact tl l
   ·split
    ·exact around_left _ _ _ _ fun d r => he 0 d r
    ·split
     ·refine (around_left _ _ _ _ fun d r => ?_).mono (tl l)
      refine Left.bind (name_left r) fun n r1 h1 => Left.bind ((want_left r1 _).mono h1) fun _ r2 h2 => Left.bind ((he 0 d r2).mono h2) fun a r3 h3 => h3
     ·split
      ·refine (around_left _ _ _ _ fun d r => ?_).mono (tl l)
       refine Left.bind (name_left r) fun n r1 h1 => Left.bind ((want_left r1 _).mono h1) fun _ r2 h2 => Left.bind ((name_left r2).mono h2) fun c r3 h3 => Left.bind ((want_left r3 _).mono h3) fun _ r4 h4 => Left.bind ((he 0 d r4).mono h4) fun a r5 h5 => Left.bind ((want_left r5 _).mono h5) fun _ r6 h6 => Left.bind ((he 0 d r6).mono h6) fun b r7 h7 => h7
      ·split
       ·refine (around_left _ _ _ _ fun d r => ?_).mono (tl l)
        refine Left.bind (name_left r) fun n r1 h1 => Left.bind ((want_left r1 _).mono h1) fun _ r4 h4 => Left.bind ((he 0 d r4).mono h4) fun a r5 h5 => Left.bind ((want_left r5 _).mono h5) fun _ r6 h6 => Left.bind ((he 0 d r6).mono h6) fun b r7 h7 => h7
       ·refine Left.bind (name_left l) fun n r h => ?_
        split
        ·exact Left.bind ((around_left _ _ _ _ fun d r => he 0 d r).mono h) fun k r2 h2 => Left.bind ((want_left r2 _).mono h2) fun _ r3 h3 => Left.bind ((name_left r3).mono h3) fun c r4 h4 => h4
        ·exact h
end Go.Proofs.YtnbmpfdffoidaaaGreatDoor.Y
