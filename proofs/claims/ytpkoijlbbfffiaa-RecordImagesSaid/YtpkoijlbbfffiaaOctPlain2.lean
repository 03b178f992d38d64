/- Plain facts on getting numbers and texts out of bytes (no program in sight). -/
import Derived.Test.YtpkoijlbbfffiaaOctPlain
namespace Go.Proofs.Ytpkoijlbbfffiaa.O
open Go

/-- The place of the first byte below 128. -/
def fst128 : List UInt8 → Option Nat
  | [] => none
  | c :: l => if c.toNat < 128 then some 0 else (fst128 l).map (· + 1)
def valN : List UInt8 → Nat
  | [] => 0
  | c :: l => c.toNat % 128 + 128 * valN l
/-- The number that bytes begin with, and how many bytes it has. -/
def getU (l : List UInt8) : Option (Nat × Nat) :=
  match fst128 l with
  | none => none
  | some i => if 10 ≤ i ∨ ((l.getD i 0).toNat = 0 ∧ 0 < i) ∨ (i = 9 ∧ 1 < (l.getD i 0).toNat) then none else some (valN (l.take (i + 1)), i + 1)

def Big (q : List UInt8) : Prop := ∀ a ∈ q, 128 ≤ a.toNat
theorem Big.tail {a : UInt8} {q : List UInt8} (h : Big (a :: q)) : Big q := fun x hx => h x (by simp [hx])
theorem Big.head {a : UInt8} {q : List UInt8} (h : Big (a :: q)) : 128 ≤ a.toNat := h a (by simp)

theorem fst128_some {l : List UInt8} {i : Nat} (h : fst128 l = some i) : ∃ q c r, l = q ++ c :: r ∧ q.length = i ∧ Big q ∧ c.toNat < 128 := by
  induction l generalizing i with
  | nil => simp [fst128] at h
  | cons a l ih =>
    simp only [fst128] at h
    split at h
    · rename_i ha
      injection h with h
      subst h
      exact ⟨[], a, l, rfl, rfl, fun _ hx => by simp at hx, ha⟩
    · rename_i ha
      cases hf : fst128 l with
      | none => rw [hf] at h; simp at h
      | some j =>
        rw [hf] at h
        simp at h
        obtain ⟨q, c, r, rfl, hq, hb, hc⟩ := ih hf
        refine ⟨a :: q, c, r, by simp, by simp; omega, fun x hx => ?_, hc⟩
        rcases List.mem_cons.1 hx with rfl | hx
        · omega
        · exact hb x hx
theorem fst128_at {q : List UInt8} {c : UInt8} {r : List UInt8} (hb : Big q) (hc : c.toNat < 128) : fst128 (q ++ c :: r) = some q.length := by
  induction q with
  | nil => simp [fst128, hc]
  | cons a q ih =>
    have := hb.head
    simp only [List.cons_append, fst128, if_neg (show ¬ a.toNat < 128 by omega), ih hb.tail, Option.map_some, List.length_cons]
theorem fst128_none {l : List UInt8} (h : Big l) : fst128 l = none := by
  induction l with
  | nil => rfl
  | cons a l ih =>
    have := h.head
    simp only [fst128, if_neg (show ¬ a.toNat < 128 by omega), ih h.tail, Option.map_none]
theorem fst128_big {l : List UInt8} (h : fst128 l = none) : Big l := by
  induction l with
  | nil => exact fun _ hx => by simp at hx
  | cons a l ih =>
    simp only [fst128] at h
    split at h
    · simp at h
    · rename_i ha
      intro x hx
      rcases List.mem_cons.1 hx with rfl | hx
      · omega
      · exact ih (by simpa using h) x hx

theorem valN_pos {q : List UInt8} {c : UInt8} (hc : c.toNat < 128) (h0 : c.toNat ≠ 0) : 0 < valN (q ++ [c]) := by
  induction q with
  | nil => simp [valN]; omega
  | cons a q ih => simp only [List.cons_append, valN]; omega
theorem valN_lt {q : List UInt8} {c : UInt8} (hc : c.toNat < 128) : valN (q ++ [c]) < 128 ^ q.length * (c.toNat + 1) ∧ 128 ^ q.length * c.toNat ≤ valN (q ++ [c]) := by
  induction q with
  | nil => simp [valN]; omega
  | cons a q ih =>
    simp only [List.cons_append, valN, List.length_cons, Nat.pow_succ]
    obtain ⟨h1, h2⟩ := ih
    have e1 : 128 ^ q.length * 128 * (c.toNat + 1) = 128 * (128 ^ q.length * (c.toNat + 1)) := by rw [Nat.mul_comm (128 ^ q.length) 128, Nat.mul_assoc]
    have e2 : 128 ^ q.length * 128 * c.toNat = 128 * (128 ^ q.length * c.toNat) := by rw [Nat.mul_comm (128 ^ q.length) 128, Nat.mul_assoc]
    rw [e1, e2]
    omega
theorem ofNat_toNat (c : UInt8) (n : Nat) (h : n = c.toNat) : UInt8.ofNat n = c := by subst h; simp
theorem uintL_valN {q : List UInt8} {c : UInt8} (hb : Big q) (hc : c.toNat < 128) (h0 : q = [] ∨ c.toNat ≠ 0) : uintL (valN (q ++ [c])) = q ++ [c] := by
  induction q with
  | nil =>
    have e : valN [c] = c.toNat := by simp [valN]; omega
    simp only [List.nil_append, e]
    rw [uintL_lt hc, ofNat_toNat c _ rfl]
  | cons a q ih =>
    have hc0 : c.toNat ≠ 0 := by rcases h0 with h | h
                                 · cases h
                                 · exact h
    have hp := valN_pos (q := q) hc hc0
    have ha := hb.head
    have ha2 := a.toNat_lt
    simp only [List.cons_append, valN]
    rw [uintL_ge (by omega)]
    rw [ofNat_toNat a _ (by omega), show (a.toNat % 128 + 128 * valN (q ++ [c])) / 128 = valN (q ++ [c]) by omega, ih hb.tail (.inr hc0)]
theorem uintL_form (n : Nat) : ∃ q c, uintL n = q ++ [c] ∧ Big q ∧ c.toNat < 128 ∧ (q = [] ∨ c.toNat ≠ 0) ∧ valN (q ++ [c]) = n := by
  induction n using Nat.strongRecOn with
  | ind n ih =>
    by_cases h : n < 128
    · refine ⟨[], UInt8.ofNat n, by rw [uintL_lt h]; rfl, fun _ hx => by simp at hx, by simp; omega, .inl rfl, ?_⟩
      simp [valN]; omega
    · obtain ⟨q, c, e, hb, hc, h0, hv⟩ := ih (n / 128) (by omega)
      have ho : (UInt8.ofNat (n % 128 + 128)).toNat = n % 128 + 128 := by simp; omega
      refine ⟨UInt8.ofNat (n % 128 + 128) :: q, c, by rw [uintL_ge (by omega), e]; rfl, fun x hx => ?_, hc, .inr ?_, ?_⟩
      · rcases List.mem_cons.1 hx with rfl | hx
        · omega
        · exact hb x hx
      · rcases h0 with rfl | h0
        · simp [valN] at hv; omega
        · exact h0
      · simp only [List.cons_append, valN, ho, hv]; omega

/-- What is put in front is got. -/
theorem getU_put (n : Nat) (r : List UInt8) (h : n < 18446744073709551616) : getU (uintL n ++ r) = some (n, (uintL n).length) := by
  obtain ⟨q, c, e, hb, hc, h0, hv⟩ := uintL_form n
  have hl := uintL_len10 n h
  rw [e] at hl ⊢
  have hlt := valN_lt (q := q) hc
  rw [hv] at hlt
  have hq : q.length ≤ 9 := by simp at hl; omega
  have hg : (q ++ c :: r).getD q.length 0 = c := by simp
  simp only [getU, List.append_assoc, List.singleton_append, fst128_at hb hc, hg]
  have hno : ¬ (10 ≤ q.length ∨ (c.toNat = 0 ∧ 0 < q.length) ∨ (q.length = 9 ∧ 1 < c.toNat)) := by
    rintro (h | ⟨h1, h2⟩ | ⟨h1, h2⟩)
    · omega
    · rcases h0 with rfl | h0
      · simp at h2
      · exact h0 h1
    · rw [h1] at hlt
      omega
  rw [if_neg hno]
  have ht : (q ++ c :: r).take (q.length + 1) = q ++ [c] := by
    rw [List.take_append, List.take_of_length_le (by omega)]; simp
  rw [ht, hv]
  simp
/-- What is got stands there, byte for byte. -/
theorem getU_some {l : List UInt8} {n k : Nat} (h : getU l = some (n, k)) : n < 18446744073709551616 ∧ l.take k = uintL n ∧ k = (uintL n).length ∧ k ≤ l.length := by
  unfold getU at h
  split at h
  · cases h
  · rename_i i hf
    obtain ⟨q, c, r, rfl, hq, hb, hc⟩ := fst128_some hf
    have hg : (q ++ c :: r).getD i 0 = c := by subst hq; simp
    rw [hg] at h
    split at h
    · cases h
    · rename_i hno
      injection h with h
      injection h with h1 h2
      have ht : (q ++ c :: r).take (i + 1) = q ++ [c] := by
        subst hq
        rw [List.take_append, List.take_of_length_le (by omega)]; simp
      rw [ht] at h1
      have h0 : q = [] ∨ c.toNat ≠ 0 := by
        rcases q with _ | ⟨a, q⟩
        · exact .inl rfl
        · refine .inr fun e => hno (.inr (.inl ⟨e, by simp at hq; omega⟩))
      have hu := uintL_valN hb hc h0
      rw [h1] at hu
      have hlt := valN_lt (q := q) hc
      rw [h1, hq] at hlt
      refine ⟨?_, by rw [← h2, ht, hu], by rw [hu]; simp; omega, by simp; omega⟩
      rcases Nat.lt_or_ge i 9 with h9 | h9
      · have : 128 ^ i ≤ 128 ^ 8 := Nat.pow_le_pow_right (by omega) (by omega)
        have : 128 ^ i * (c.toNat + 1) ≤ 128 ^ 8 * 128 := Nat.mul_le_mul this (by omega)
        omega
      · have : i = 9 := by omega
        subst this
        have hc1 : c.toNat ≤ 1 := by omega
        have : 128 ^ 9 * (c.toNat + 1) ≤ 128 ^ 9 * 2 := Nat.mul_le_mul_left _ (by omega)
        omega
/-- Just what is put is got. -/
theorem getU_iff {l : List UInt8} {n k : Nat} : getU l = some (n, k) ↔ n < 18446744073709551616 ∧ k = (uintL n).length ∧ l.take k = uintL n := by
  constructor
  · intro h
    obtain ⟨h1, h2, h3, _⟩ := getU_some h
    exact ⟨h1, h3, h2⟩
  · rintro ⟨h1, h2, h3⟩
    have := getU_put n (l.drop k) h1
    rw [← h3, List.take_append_drop, h3, ← h2] at this
    exact this

theorem valN_snoc (l : List UInt8) (c : UInt8) : valN (l ++ [c]) = valN l + 128 ^ l.length * (c.toNat % 128) := by
  induction l with
  | nil => simp [valN]
  | cons a l ih =>
    simp only [List.cons_append, valN, ih, List.length_cons, Nat.pow_succ]
    have : 128 * (128 ^ l.length * (c.toNat % 128)) = 128 ^ l.length * 128 * (c.toNat % 128) := by rw [Nat.mul_comm (128 ^ l.length) 128, Nat.mul_assoc]
    omega
theorem valN_bound (l : List UInt8) : valN l < 128 ^ l.length := by
  induction l with
  | nil => simp [valN]
  | cons a l ih => simp only [valN, List.length_cons, Nat.pow_succ]; omega
theorem valN_step (d : List UInt8) (t : Nat) (h : t < d.length) : valN (d.take (t + 1)) = valN (d.take t) + 128 ^ t * ((d[t]).toNat % 128) := by
  rw [List.take_succ_eq_append_getElem h, valN_snoc, List.length_take, Nat.min_eq_left (by omega)]
theorem valN_take (d : List UInt8) (t : Nat) (h : t ≤ d.length) : valN (d.take t) < 128 ^ t := by
  have := valN_bound (d.take t)
  rwa [List.length_take, Nat.min_eq_left h] at this

def getUAt (l : List UInt8) (at_ : Int) : Option (Nat × Nat) := if 0 ≤ at_ ∧ at_ ≤ l.length then getU (l.drop at_.toNat) else none
/-- The number with a sign. -/
def zag (u : Nat) : Int := if u % 2 = 1 then -((u / 2 : Nat) : Int) - 1 else ((u / 2 : Nat) : Int)
theorem zag_zig (x : Int) : zag (zig x) = x := by unfold zag zig; split <;> split <;> omega
theorem zig_zag (u : Nat) : zig (zag u) = u := by unfold zag zig; split <;> split <;> omega
theorem zag_bounds (u : Nat) (h : u < 18446744073709551616) : -9223372036854775808 ≤ zag u ∧ zag u ≤ 9223372036854775807 := by unfold zag; split <;> omega
def getTAt (l : List UInt8) (at_ most : Int) : Option (List UInt8 × Nat) :=
  match getUAt l at_ with
  | none => none
  | some (n, k) => if most < 0 ∨ most < n ∨ (l.length : Int) - at_ - k < n then none else some ((l.drop (at_.toNat + k)).take n, k + n)
end Go.Proofs.Ytpkoijlbbfffiaa.O
