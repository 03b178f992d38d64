/- What the reference does with rows of numbers, in plain Lean. No program in sight. -/
import Derived.Test.YtpdfhbgemmpleaaWtPlain
namespace Go.Proofs.Ytpdfhbgemmpleaa.T

theorem forE_at {L : Gr} {x : Int} {j : Nat} (hj : j < L.length) (h : ∀ p ∈ L.take j, p.1 ≠ x) (he : L[j].1 = x) : forE L x = L[j].2 := by
  induction L generalizing j with
  | nil => simp at hj
  | cons p L ih =>
    cases j with
    | zero =>
      have he' : p.1 = x := he
      unfold forE; rw [if_pos he']; rfl
    | succ j =>
      unfold forE
      rw [if_neg (h p (by simp))]
      simp at hj he ⊢
      exact ih hj (fun q hq => h q (by simp [hq])) he
/-- Numbers that are not there yet, behind. -/
def adds (out ys : List Int) : List Int := ys.foldl (fun o y => if y ∈ o then o else o ++ [y]) out
theorem adds_snoc (out ys : List Int) (y : Int) : adds out (ys ++ [y]) = if y ∈ adds out ys then adds out ys else adds out ys ++ [y] := by
  unfold adds; rw [List.foldl_append]; rfl
theorem mem_adds {z : Int} : ∀ {ys out : List Int}, z ∈ adds out ys ↔ z ∈ out ∨ z ∈ ys
  | [], out => by simp [adds]
  | y :: ys, out => by
    show z ∈ adds (if y ∈ out then out else out ++ [y]) ys ↔ _
    rw [mem_adds]
    split
    · rename_i h
      simp only [List.mem_cons]
      constructor
      · rintro (h1 | h1)
        · exact .inl h1
        · exact .inr (.inr h1)
      · rintro (h1 | rfl | h1)
        · exact .inl h1
        · exact .inl h
        · exact .inr h1
    · simp only [List.mem_append, List.mem_cons, List.not_mem_nil, or_false]
      constructor
      · rintro ((h1 | h1) | h1)
        · exact .inl h1
        · exact .inr (.inl h1)
        · exact .inr (.inr h1)
      · rintro (h1 | h1 | h1)
        · exact .inl (.inl h1)
        · exact .inl (.inr h1)
        · exact .inr h1
theorem adds_nodup : ∀ {ys out : List Int}, out.Nodup → (adds out ys).Nodup
  | [], out, h => h
  | y :: ys, out, h => by
    show (adds (if y ∈ out then out else out ++ [y]) ys).Nodup
    refine adds_nodup ?_
    split
    · exact h
    · rename_i hy
      rw [List.nodup_append]
      exact ⟨h, by simp, fun a ha b hb e => by simp at hb; subst hb; exact hy (e ▸ ha)⟩
theorem adds_pre : ∀ (ys out : List Int), ∃ t, adds out ys = out ++ t
  | [], out => ⟨[], by simp [adds]⟩
  | y :: ys, out => by
    obtain ⟨t, ht⟩ := adds_pre ys (if y ∈ out then out else out ++ [y])
    have e : adds out (y :: ys) = adds (if y ∈ out then out else out ++ [y]) ys := rfl
    rw [e, ht]
    split
    · exact ⟨t, rfl⟩
    · exact ⟨y :: t, by simp⟩
/-- What was found, and how far it was gone through. -/
structure BI (E : Int → List Int) (who : Int) (out : List Int) (i : Nat) : Prop where
  nd : out.Nodup
  s : ∀ x ∈ out, Reach E who x
  c0 : ∀ y ∈ E who, y ∈ out
  c : ∀ x ∈ out.take i, ∀ y ∈ E x, y ∈ out
  i : i ≤ out.length
theorem BI.start (E : Int → List Int) (who : Int) : BI E who (adds [] (E who)) 0 :=
  ⟨adds_nodup List.nodup_nil, fun x hx => .one ((mem_adds.1 hx).resolve_left (by simp)), fun y hy => mem_adds.2 (.inr hy), by simp, Nat.zero_le _⟩
theorem BI.step {E : Int → List Int} {who : Int} {out : List Int} {i : Nat} (h : BI E who out i) (hi : i < out.length) : BI E who (adds out (E out[i])) (i + 1) := by
  obtain ⟨t, ht⟩ := adds_pre (E out[i]) out
  refine ⟨adds_nodup h.nd, fun x hx => ?_, fun y hy => mem_adds.2 (.inl (h.c0 y hy)), fun x hx y hy => mem_adds.2 ?_, ?_⟩
  · rcases mem_adds.1 hx with hx | hx
    · exact h.s x hx
    · exact .more (h.s _ (List.getElem_mem hi)) hx
  · rw [ht, List.take_append_of_le_length (by omega), List.take_succ_eq_append_getElem hi] at hx
    rcases List.mem_append.1 hx with hx | hx
    · exact .inl (h.c x hx y hy)
    · rw [List.mem_singleton] at hx; rw [hx] at hy; exact .inr hy
  · rw [ht, List.length_append]; omega
theorem BI.fin {E : Int → List Int} {who : Int} {out : List Int} (h : BI E who out out.length) (x : Int) : x ∈ out ↔ Reach E who x := by
  have hc := h.c
  rw [List.take_length] at hc
  refine ⟨h.s x, fun hr => ?_⟩
  induction hr with
  | one h1 => exact h.c0 _ h1
  | more _ h2 ih => exact hc _ ih _ h2
/-- A number laid into a row in order. -/
theorem ins_row {p out : List Int} {x : Int} {k : Nat} (h : IsRow (· ∈ p) out) (hx : x ∉ p) (hk : k ≤ out.length) (hd : ∀ y ∈ out.drop k, x < y) (ht : ∀ h : 0 < k, out[k - 1]'(by omega) ≤ x) : IsRow (· ∈ p ++ [x]) (out.take k ++ x :: out.drop k) := by
  have hxo : x ∉ out := fun h2 => hx ((h.mem x).1 h2)
  have hl : ∀ y ∈ out.take k, y < x := by
    intro y hy
    obtain ⟨j, hj, e⟩ := List.getElem_of_mem hy
    rw [List.length_take] at hj
    rw [List.getElem_take] at e
    have h1 := ht (by omega)
    have h2 : y ≤ out[k - 1]'(by omega) := by
      rcases Nat.lt_or_ge j (k - 1) with h3 | h3
      · have := List.pairwise_iff_getElem.1 h.up j (k - 1) (by omega) (by omega) h3
        omega
      · have e3 : j = k - 1 := by omega
        subst e3
        omega
    have h4 : y ≠ x := fun e2 => hxo (e2 ▸ List.mem_of_mem_take hy)
    omega
  refine ⟨?_, fun y => ?_⟩
  · rw [List.pairwise_append]
    refine ⟨h.up.sublist (List.take_sublist _ _), ?_, fun a ha b hb => ?_⟩
    · rw [List.pairwise_cons]
      exact ⟨hd, h.up.sublist (List.drop_sublist _ _)⟩
    · have h1 := hl a ha
      rcases List.mem_cons.1 hb with rfl | hb
      · exact h1
      · have := hd b hb; omega
  · rw [List.mem_append, List.mem_cons, List.mem_append, List.mem_singleton, ← h.mem y]
    conv => rhs; lhs; rw [← List.take_append_drop k out, List.mem_append]
    constructor
    · rintro (h1 | h1 | h1)
      · exact .inl (.inl h1)
      · exact .inr h1
      · exact .inl (.inr h1)
    · rintro ((h1 | h1) | h1)
      · exact .inl h1
      · exact .inr (.inr h1)
      · exact .inr (.inl h1)
end Go.Proofs.Ytpdfhbgemmpleaa.T
