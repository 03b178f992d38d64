/- Who waits for whom, in plain Lean: what somebody comes to; rows of numbers in order. No program in sight. -/
import Derived.Test.YtpdfhbgemmpleaaBase
namespace Go.Proofs.Ytpdfhbgemmpleaa.T

abbrev Gr := List (Int × List Int)
/-- For whom somebody waits: the first of his rows. -/
def forE : Gr → Int → List Int
  | [], _ => []
  | p :: L, x => if p.1 = x then p.2 else forE L x
theorem forE_mem {L : Gr} {x : Int} (h : ∀ p ∈ L, p.1 ≠ x) : forE L x = [] := by
  induction L with
  | nil => rfl
  | cons p L ih =>
    unfold forE
    rw [if_neg (h p (by simp)), ih (fun q hq => h q (by simp [hq]))]
theorem forE_some {L : Gr} {x y : Int} (h : y ∈ forE L x) : ∃ p ∈ L, p.1 = x ∧ y ∈ p.2 := by
  induction L with
  | nil => simp [forE] at h
  | cons p L ih =>
    unfold forE at h
    split at h
    · rename_i e; exact ⟨p, by simp, e, h⟩
    · obtain ⟨q, hq, e⟩ := ih h; exact ⟨q, by simp [hq], e⟩
theorem forE_in (L : Gr) (x : Int) : forE L x = [] ∨ (x, forE L x) ∈ L := by
  induction L with
  | nil => exact .inl rfl
  | cons p L ih =>
    unfold forE
    split
    · rename_i e; right; rw [← e]; simp
    · rcases ih with h | h
      · exact .inl h
      · right; simp [h]
/-- Behind a row more, at its end. -/
theorem forE_snoc {L : Gr} {p : Int × List Int} {x : Int} (h : ∀ q ∈ L, q.1 ≠ p.1) : forE (L ++ [p]) x = if p.1 = x then p.2 else forE L x := by
  induction L with
  | nil => simp [forE]
  | cons q L ih =>
    have ih := ih (fun q hq => h q (by simp [hq]))
    rw [List.cons_append, forE, forE, ih]
    by_cases e : q.1 = x
    · rw [if_pos e, if_pos e, if_neg (fun e2 => h q (by simp) (by rw [e, e2]))]
    · rw [if_neg e, if_neg e]
theorem forE_twice {L : Gr} {p : Int × List Int} {x : Int} (h : ∃ q ∈ L, q.1 = p.1) : forE (L ++ [p]) x = forE L x := by
  induction L with
  | nil => simp at h
  | cons q L ih =>
    rw [List.cons_append, forE, forE]
    by_cases e : q.1 = x
    · rw [if_pos e, if_pos e]
    · rw [if_neg e, if_neg e]
      by_cases hq : ∃ q ∈ L, q.1 = p.1
      · exact ih hq
      · obtain ⟨r, hr, hrp⟩ := h
        have hqp : q.1 = p.1 := by
          rcases List.mem_cons.1 hr with rfl | hr
          · exact hrp
          · exact absurd ⟨r, hr, hrp⟩ hq
        rw [forE_snoc (fun z hz e2 => hq ⟨z, hz, e2⟩), if_neg (fun e2 => e (by rw [hqp, e2]))]
/-- What somebody comes to. -/
inductive Reach (E : Int → List Int) : Int → Int → Prop
  | one {x y : Int} : y ∈ E x → Reach E x y
  | more {x y z : Int} : Reach E x y → z ∈ E y → Reach E x z
theorem Reach.trans {E : Int → List Int} {x y z : Int} (h : Reach E x y) (k : Reach E y z) : Reach E x z := by
  induction k with
  | one h2 => exact .more h h2
  | more _ h2 ih => exact .more ih h2
theorem Reach.head {E : Int → List Int} {x y z : Int} (h : y ∈ E x) (k : Reach E y z) : Reach E x z := (Reach.one h).trans k
theorem Reach.mono {E E' : Int → List Int} (hm : ∀ x y, y ∈ E x → y ∈ E' x) {x y : Int} (h : Reach E x y) : Reach E' x y := by
  induction h with
  | one h => exact .one (hm _ _ h)
  | more _ h2 ih => exact .more ih (hm _ _ h2)
theorem Reach.ne {E : Int → List Int} {x y : Int} (h : Reach E x y) : E x ≠ [] := by
  induction h with
  | one h => exact List.ne_nil_of_mem h
  | more _ _ ih => exact ih
theorem Reach.into {E : Int → List Int} {x y : Int} (h : Reach E x y) : ∃ z, y ∈ E z := by
  cases h with
  | one h => exact ⟨_, h⟩
  | more _ h => exact ⟨_, h⟩
/-- All that anybody waits for. -/
def allE (L : Gr) : List Int := L.flatMap (·.2)
theorem Reach.inAll {L : Gr} {x y : Int} (h : Reach (forE L) x y) : y ∈ allE L := by
  obtain ⟨z, hz⟩ := h.into
  obtain ⟨p, hp, _, hy⟩ := forE_some hz
  exact List.mem_flatMap.2 ⟨p, hp, hy⟩
theorem allE_len {L : Gr} {n m : Nat} (h1 : L.length ≤ n) (h2 : ∀ p ∈ L, p.2.length ≤ m) : (allE L).length ≤ n * m := by
  have : ∀ L : Gr, (∀ p ∈ L, p.2.length ≤ m) → (allE L).length ≤ L.length * m := by
    intro L
    induction L with
    | nil => simp [allE]
    | cons p L ih =>
      intro h
      have := ih (fun q hq => h q (by simp [hq]))
      have h3 := h p (by simp)
      unfold allE at this ⊢
      rw [List.flatMap_cons, List.length_append, List.length_cons, Nat.succ_mul]
      omega
  exact Nat.le_trans (this L h2) (Nat.mul_le_mul_right _ h1)
theorem nodup_len : ∀ {S U : List Int}, S.Nodup → (∀ x ∈ S, x ∈ U) → S.length ≤ U.length
  | [], _, _, _ => Nat.zero_le _
  | x :: S, U, hn, hs => by
    obtain ⟨h1, h2⟩ := List.nodup_cons.1 hn
    obtain ⟨a, b, rfl⟩ := List.append_of_mem (hs x (by simp))
    have := nodup_len (S := S) (U := a ++ b) h2 (fun y hy => by
      have := hs y (by simp [hy])
      have hne : y ≠ x := fun e => h1 (e ▸ hy)
      simp only [List.mem_append, List.mem_cons] at this ⊢
      rcases this with h | h | h
      · exact .inl h
      · exact absurd h hne
      · exact .inr h)
    simp only [List.length_append, List.length_cons] at this ⊢
    omega
/-- What was met, and what is still to do. -/
structure CI (E : Int → List Int) (who : Int) (S todo : List Int) : Prop where
  nd : S.Nodup
  s : ∀ x ∈ S, Reach E who x
  t : ∀ x ∈ todo, Reach E who x
  c0 : ∀ y ∈ E who, y ∈ S ∨ y ∈ todo
  c : ∀ x ∈ S, ∀ y ∈ E x, y ∈ S ∨ y ∈ todo
theorem CI.start (E : Int → List Int) (who : Int) : CI E who [] (E who) := ⟨List.nodup_nil, by simp, fun _ h => .one h, fun _ h => .inr h, by simp⟩
theorem CI.fin {E : Int → List Int} {who : Int} {S : List Int} (h : CI E who S []) (x : Int) : x ∈ S ↔ Reach E who x := by
  refine ⟨h.s x, fun hr => ?_⟩
  induction hr with
  | one h1 => exact (h.c0 _ h1).resolve_right (by simp)
  | more _ h2 ih => exact (h.c _ ih _ h2).resolve_right (by simp)
theorem CI.skip {E : Int → List Int} {who x : Int} {S t : List Int} (h : CI E who S (t ++ [x])) (hx : x ∈ S) : CI E who S t := by
  have e : ∀ y, y ∈ S ∨ y ∈ t ++ [x] → y ∈ S ∨ y ∈ t := fun y hy => by
    rcases hy with hy | hy
    · exact .inl hy
    · rcases List.mem_append.1 hy with hy | hy
      · exact .inr hy
      · rw [List.mem_singleton] at hy; exact .inl (hy ▸ hx)
  exact ⟨h.nd, h.s, fun y hy => h.t y (by simp [hy]), fun y hy => e y (h.c0 y hy), fun z hz y hy => e y (h.c z hz y hy)⟩
theorem CI.add {E : Int → List Int} {who x : Int} {S t : List Int} (h : CI E who S (t ++ [x])) (hx : x ∉ S) : CI E who (x :: S) (t ++ E x) := by
  have hr := h.t x (by simp)
  have e : ∀ y, y ∈ S ∨ y ∈ t ++ [x] → y ∈ x :: S ∨ y ∈ t ++ E x := fun y hy => by
    rcases hy with hy | hy
    · exact .inl (by simp [hy])
    · rcases List.mem_append.1 hy with hy | hy
      · exact .inr (by simp [hy])
      · rw [List.mem_singleton] at hy; exact .inl (by simp [hy])
  refine ⟨List.nodup_cons.2 ⟨hx, h.nd⟩, fun y hy => ?_, fun y hy => ?_, fun y hy => e y (h.c0 y hy), fun z hz y hy => ?_⟩
  · rcases List.mem_cons.1 hy with rfl | hy
    · exact hr
    · exact h.s y hy
  · rcases List.mem_append.1 hy with hy | hy
    · exact h.t y (by simp [hy])
    · exact .more hr hy
  · rcases List.mem_cons.1 hz with rfl | hz
    · exact .inr (by simp [hy])
    · exact e y (h.c z hz y hy)
/-- A row of numbers in order, of all that p is so of. -/
structure IsRow (p : Int → Prop) (l : List Int) : Prop where
  up : l.Pairwise (· < ·)
  mem : ∀ x, x ∈ l ↔ p x
theorem row_uniq : ∀ {l m : List Int}, l.Pairwise (· < ·) → m.Pairwise (· < ·) → (∀ x, x ∈ l ↔ x ∈ m) → l = m
  | [], [], _, _, _ => rfl
  | [], b :: s, _, _, h => by have := (h b).2 (by simp); simp at this
  | a :: r, [], _, _, h => by have := (h a).1 (by simp); simp at this
  | a :: r, b :: s, h1, h2, h => by
    obtain ⟨a1, a2⟩ := List.pairwise_cons.1 h1
    obtain ⟨b1, b2⟩ := List.pairwise_cons.1 h2
    have hab : a = b := by
      rcases List.mem_cons.1 ((h a).1 (by simp)) with e | ha
      · exact e
      · rcases List.mem_cons.1 ((h b).2 (by simp)) with e | hb
        · exact e.symm
        · have := a1 b hb; have := b1 a ha; omega
    subst hab
    rw [row_uniq a2 b2 (fun x => ⟨fun hx => by
      rcases List.mem_cons.1 ((h x).1 (by simp [hx])) with rfl | h'
      · have := a1 x hx; omega
      · exact h', fun hx => by
      rcases List.mem_cons.1 ((h x).2 (by simp [hx])) with rfl | h'
      · have := b1 x hx; omega
      · exact h'⟩)]
theorem IsRow.uniq {p : Int → Prop} {l m : List Int} (h : IsRow p l) (k : IsRow p m) : l = m := row_uniq h.up k.up (fun x => (h.mem x).trans (k.mem x).symm)
theorem IsRow.imp {p q : Int → Prop} {l : List Int} (h : IsRow p l) (k : ∀ x, p x ↔ q x) : IsRow q l := ⟨h.up, fun x => (h.mem x).trans (k x)⟩
theorem IsRow.nodup {p : Int → Prop} {l : List Int} (h : IsRow p l) : l.Nodup := h.up.imp (fun {a b} h => by omega)
/-- Sorting numbers none of which stands twice. -/
theorem sorted_row {l : List Int} (h : l.Nodup) : IsRow (· ∈ l) (l.mergeSort fun x y => decide (x ≤ y)) := by
  have hp := List.mergeSort_perm l (fun x y => decide (x ≤ y))
  have hs := List.pairwise_mergeSort (le := fun (x y : Int) => decide (x ≤ y)) (fun a b c h1 h2 => by simp at *; omega) (fun a b => by simp; omega) l
  have hn := (hp.nodup_iff).2 h
  refine ⟨?_, fun x => hp.mem_iff⟩
  have := hs.and hn
  exact this.imp (fun {a b} h => by obtain ⟨h1, h2⟩ := h; simp at h1; omega)
end Go.Proofs.Ytpdfhbgemmpleaa.T
