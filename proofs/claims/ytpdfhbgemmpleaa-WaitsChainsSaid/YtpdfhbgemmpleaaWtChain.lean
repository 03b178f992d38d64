/- Chains and rings of waits, in plain Lean. -/
import Derived.Test.YtpdfhbgemmpleaaWtOpen
namespace Go.Proofs.Ytpdfhbgemmpleaa.T
open Go.RowKit

def chainP (f : Int) : Nat → Gr
  | 0 => []
  | m + 1 => chainP f m ++ [(f + m, [f + m + 1])]
theorem chainP_len (f : Int) : ∀ m, (chainP f m).length = m
  | 0 => rfl
  | m + 1 => by simp [chainP, chainP_len f m]
theorem chainP_mem {f : Int} {p : Int × List Int} : ∀ {m : Nat}, p ∈ chainP f m → ∃ i : Nat, i < m ∧ p = (f + i, [f + i + 1])
  | 0, h => by simp [chainP] at h
  | m + 1, h => by
    rcases List.mem_append.1 h with h | h
    · obtain ⟨i, hi, e⟩ := chainP_mem h; exact ⟨i, by omega, e⟩
    · rw [List.mem_singleton] at h; exact ⟨m, by omega, h⟩
theorem chain_for (f x : Int) : ∀ m : Nat, forE (chainP f m) x = if f ≤ x ∧ x < f + m then [x + 1] else []
  | 0 => by
    rw [if_neg (by omega)]; rfl
  | m + 1 => by
    show forE (chainP f m ++ [(f + m, [f + m + 1])]) x = _
    rw [forE_snoc (fun q hq e => by obtain ⟨i, hi, rfl⟩ := chainP_mem hq; dsimp only at e; omega), chain_for f x m]
    dsimp only
    by_cases e : f + m = x
    · rw [if_pos e, if_pos (by simp; omega), e]
    · rw [if_neg e]
      by_cases h : f ≤ x ∧ x < f + m
      · rw [if_pos h, if_pos (by simp; omega)]
      · rw [if_neg h, if_neg (by simp; omega)]
def ringP (f : Int) (m : Nat) : Gr := chainP f m ++ [(f + m, [f])]
theorem ring_for (f x : Int) (m : Nat) : forE (ringP f m) x = if f ≤ x ∧ x < f + m then [x + 1] else if f + m = x then [f] else [] := by
  unfold ringP
  rw [forE_snoc (fun q hq e => by obtain ⟨i, hi, rfl⟩ := chainP_mem hq; dsimp only at e; omega), chain_for f x m]
  dsimp only
  by_cases e : f + m = x
  · rw [if_pos e, if_neg (by omega), if_pos e]
  · rw [if_neg e, if_neg e]
theorem chain_ok {f : Int} {m : Nat} (h0 : 0 ≤ f) (h1 : f ≤ 1000) (hm : m ≤ 30) : GOk (chainP f m) := by
  refine ⟨by rw [chainP_len]; omega, ?_, ?_, ?_⟩ <;> intro p hp <;> obtain ⟨i, hi, rfl⟩ := chainP_mem hp
  · simp
  · unfold wf; dsimp only; omega
  · intro y hy; simp at hy; subst hy; unfold wf; omega
theorem ring_ok {f : Int} {m : Nat} (h0 : 0 ≤ f) (h1 : f ≤ 1000) (hm : m ≤ 30) : GOk (ringP f m) := by
  have h := chain_ok h0 h1 hm
  refine ⟨by unfold ringP; simp [chainP_len]; omega, ?_, ?_, ?_⟩ <;> intro p hp <;> rcases List.mem_append.1 hp with hp | hp
  · exact h.m p hp
  · rw [List.mem_singleton] at hp; subst hp; simp
  · exact h.w p hp
  · rw [List.mem_singleton] at hp; subst hp; unfold wf; dsimp only; omega
  · exact h.e p hp
  · rw [List.mem_singleton] at hp; subst hp; intro y hy; simp at hy; subst hy; unfold wf; omega
theorem chain_reach {f : Int} {m : Nat} {x y : Int} (h : Reach (forE (chainP f m)) x y) : f ≤ x ∧ x < y ∧ y ≤ f + m := by
  induction h with
  | one h =>
    rw [chain_for] at h
    split at h
    · simp at h; omega
    · simp at h
  | more _ h ih =>
    rw [chain_for] at h
    split at h
    · simp at h; omega
    · simp at h
theorem chain_up {f : Int} {m : Nat} {x : Int} (hx : f ≤ x) : ∀ d : Nat, x + (d + 1 : Nat) ≤ f + m → Reach (forE (chainP f m)) x (x + (d + 1 : Nat))
  | 0, h => .one (by rw [chain_for, if_pos (by omega)]; simp)
  | d + 1, h => by
    refine .more (chain_up hx d (by omega)) ?_
    rw [chain_for, if_pos (by omega)]
    simp; omega
theorem chain_to {f : Int} {m : Nat} {x y : Int} (hx : f ≤ x) (hxy : x < y) (hy : y ≤ f + m) : Reach (forE (chainP f m)) x y := by
  have := chain_up (f := f) (m := m) hx (y - x - 1).toNat (by omega)
  have e : x + (((y - x - 1).toNat + 1 : Nat) : Int) = y := by omega
  rwa [e] at this
theorem chain_round {f : Int} {m : Nat} {x y : Int} : ¬ roundP (chainP f m) x y := fun h => by
  have h1 := chain_reach h.1
  have h2 := chain_reach h.2
  omega
theorem chain_runs {f : Int} {m i : Nat} (hi : i < m) (y : Int) : runsP (chainP f m) (f + i) y ↔ y = f + m := by
  unfold runsP
  rw [chain_for]
  constructor
  · rintro ⟨h1, h2⟩
    split at h2
    · cases h2
    · rcases h1 with h1 | rfl
      · have := chain_reach h1; omega
      · omega
  · rintro rfl
    exact ⟨.inl (chain_to (by omega) (by omega) (by omega)), by rw [if_neg (by omega)]⟩
theorem chain_stuck {f : Int} {m : Nat} {x : Int} : ¬ stuckP (chainP f m) x := by
  rintro ⟨h1, h2⟩
  rw [chain_for] at h1
  split at h1
  · rename_i h
    have e : x = f + ((x - f).toNat : Int) := by omega
    refine h2 (f + m) ?_
    rw [e]
    exact (chain_runs (by omega) _).2 rfl
  · exact h1 rfl
theorem ring_up {f : Int} {m : Nat} {x y : Int} (h : Reach (forE (chainP f m)) x y) : Reach (forE (ringP f m)) x y := by
  refine h.mono fun a b hb => ?_
  rw [chain_for] at hb
  split at hb
  · rename_i h
    rw [ring_for, if_pos h]; exact hb
  · simp at hb
theorem ring_reach {f : Int} {m : Nat} {x y : Int} (h : Reach (forE (ringP f m)) x y) : (f ≤ x ∧ x ≤ f + m) ∧ f ≤ y ∧ y ≤ f + m := by
  induction h with
  | one h =>
    rw [ring_for] at h
    split at h
    · simp at h; omega
    · split at h
      · simp at h; omega
      · simp at h
  | more _ h ih =>
    rw [ring_for] at h
    split at h
    · simp at h; omega
    · split at h
      · simp at h; omega
      · simp at h
theorem ring_to {f : Int} {m : Nat} {x y : Int} (hx : f ≤ x) (hx2 : x ≤ f + m) (hy : f ≤ y) (hy2 : y ≤ f + m) : Reach (forE (ringP f m)) x y := by
  have back : Reach (forE (ringP f m)) (f + m) f := .one (by rw [ring_for, if_neg (by omega), if_pos rfl]; simp)
  have up : x = f + m ∨ Reach (forE (ringP f m)) x (f + m) := by
    rcases Int.lt_or_le x (f + m) with h | h
    · exact .inr (ring_up (chain_to hx h (Int.le_refl _)))
    · exact .inl (by omega)
  have h1 : Reach (forE (ringP f m)) x f := by
    rcases up with rfl | h
    · exact back
    · exact h.trans back
  rcases Int.lt_or_le f y with h | h
  · exact h1.trans (ring_up (chain_to (Int.le_refl _) h hy2))
  · have : y = f := by omega
    subst this; exact h1
/-- Numbers one behind the other. -/
def runI (f : Int) (k : Nat) : List Int := (List.range k).map fun (i : Nat) => f + i
theorem runI_row (f : Int) (k : Nat) : IsRow (fun x => f ≤ x ∧ x < f + k) (runI f k) := by
  refine ⟨?_, fun x => ?_⟩
  · unfold runI
    rw [List.pairwise_map]
    exact List.pairwise_lt_range.imp (fun h => by omega)
  · unfold runI
    rw [List.mem_map]
    constructor
    · rintro ⟨i, hi, rfl⟩; rw [List.mem_range] at hi; omega
    · rintro ⟨h1, h2⟩; exact ⟨(x - f).toNat, by rw [List.mem_range]; omega, by omega⟩
theorem runI_len (f : Int) (k : Nat) : (runI f k).length = k := by simp [runI]
theorem runI_last (f : Int) (m : Nat) : lastI (runI f (m + 1)) = f + m := by
  unfold lastI
  rw [runI_len, List.getD_eq_getElem?_getD]
  simp [runI]
theorem ring_round {f : Int} {m : Nat} {l : List Int} (h : IsRow (roundP (ringP f m) f) l) : l = runI f (m + 1) := by
  refine h.uniq ((runI_row f (m + 1)).imp fun x => ?_)
  constructor
  · rintro ⟨h1, h2⟩
    exact ⟨ring_to (by omega) (by omega) h1 (by omega), ring_to h1 (by omega) (by omega) (by omega)⟩
  · rintro ⟨h1, _⟩
    have := ring_reach h1
    omega
theorem ring_stuck {f : Int} {m : Nat} {l : List Int} (h : IsRow (stuckP (ringP f m)) l) : l = runI f (m + 1) := by
  refine h.uniq ((runI_row f (m + 1)).imp fun x => ?_)
  have hne : ∀ y, (f ≤ y ∧ y < f + (m + 1 : Nat)) ↔ forE (ringP f m) y ≠ [] := fun y => by
    rw [ring_for]
    constructor
    · rintro ⟨h1, h2⟩
      split
      · simp
      · rw [if_pos (by omega)]; simp
    · intro h
      split at h
      · omega
      · split at h
        · omega
        · exact absurd rfl h
  constructor
  · intro hx
    refine ⟨(hne x).1 hx, fun y hy => ?_⟩
    rcases hy.1 with h1 | rfl
    · have := ring_reach h1
      exact (hne y).1 (by omega) hy.2
    · exact (hne y).1 hx hy.2
  · rintro ⟨h1, _⟩
    exact (hne x).2 h1
theorem chain_runsRow {f : Int} {m i : Nat} (hi : i < m) {l : List Int} (h : IsRow (runsP (chainP f m) (f + i)) l) : l = [f + m] :=
  h.uniq ⟨by simp, fun x => by rw [chain_runs hi, List.mem_singleton]⟩
end Go.Proofs.Ytpdfhbgemmpleaa.T
