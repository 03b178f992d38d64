/- How texts are taken as values, plainly (no program in sight). -/
import Derived.Test.YtpkoijlbbfffiaaValPlain2
import Derived.WalkKit
namespace Go.Proofs.Ytpkoijlbbfffiaa.V
open Go O RowKit

theorem digN_mem (n : Nat) : ∀ c ∈ digN n, 48 ≤ c.toNat ∧ c.toNat ≤ 57 := by
  induction n using Nat.strongRecOn with
  | ind n ih =>
    by_cases h : n < 10
    · rw [digN_lt h]
      intro c hc
      simp at hc
      subst hc
      simp
      omega
    · rw [digN_ge (by omega)]
      intro c hc
      simp at hc
      rcases hc with hc | hc
      · exact ih (n / 10) (by omega) c hc
      · subst hc
        simp
        omega
theorem digN_cons (n : Nat) : ∃ c r, digN n = c :: r ∧ 48 ≤ c.toNat ∧ c.toNat ≤ 57 := by
  have hm := digN_mem n
  cases h : digN n with
  | nil =>
    exfalso
    by_cases g : n < 10
    · rw [digN_lt g] at h; cases h
    · rw [digN_ge (by omega)] at h; simp at h
  | cons c r => exact ⟨c, r, rfl, hm c (by rw [h]; simp)⟩
/-- Of bytes a number: ten times, and the next sign; modulo 2^64. -/
def numStep (n : Nat) (c : UInt8) : Nat := (10 * n + (c.toNat + 208) % 256) % 18446744073709551616
def numF (l : List UInt8) : Nat := l.foldl numStep 0
theorem numF_snoc (l : List UInt8) (c : UInt8) : numF (l ++ [c]) = numStep (numF l) c := by simp [numF]
theorem numF_lt (l : List UInt8) : numF l < 18446744073709551616 := by
  rcases List.eq_nil_or_concat l with rfl | ⟨l', c, rfl⟩
  · simp [numF]
  · rw [List.concat_eq_append, numF_snoc]; exact Nat.mod_lt _ (by omega)
theorem numF_dig (n : Nat) (h : n < 18446744073709551616) : numF (digN n) = n := by
  induction n using Nat.strongRecOn with
  | ind n ih =>
    by_cases g : n < 10
    · rw [digN_lt g]
      have : (UInt8.ofNat (48 + n)).toNat = 48 + n := by simp; omega
      simp only [numF, List.foldl_cons, List.foldl_nil, numStep, this]
      omega
    · rw [digN_ge (by omega), numF_snoc, ih (n / 10) (by omega) (by omega)]
      have : (UInt8.ofNat (48 + n % 10)).toNat = 48 + n % 10 := by simp; omega
      simp only [numStep, this]
      omega
def toI (n : Nat) : Int := if n < 9223372036854775808 then n else (n : Int) - 18446744073709551616
def numS (s : List UInt8) : Int := match s with
  | [] => 0
  | c :: r => if c.toNat = 45 then toI ((18446744073709551616 - numF r) % 18446744073709551616) else toI (numF (c :: r))
theorem numS_bounds (s : List UInt8) : -9223372036854775808 ≤ numS s ∧ numS s ≤ 9223372036854775807 := by
  unfold numS
  split
  · omega
  · rename_i c r
    have h1 := numF_lt r
    have h2 := numF_lt (c :: r)
    unfold toI
    split <;> split <;> omega
theorem numS_dec (n : Int) (h1 : -9223372036854775808 ≤ n) (h2 : n ≤ 9223372036854775807) : numS (decL n) = n := by
  unfold decL
  split
  · unfold numS
    have := numF_dig n.natAbs (by omega)
    simp only [show ((45 : UInt8).toNat = 45) from rfl, if_true, this]
    unfold toI
    split <;> omega
  · obtain ⟨c, r, e, hc1, hc2⟩ := digN_cons n.natAbs
    have := numF_dig n.natAbs (by omega)
    rw [e] at this ⊢
    unfold numS
    simp only [if_neg (show ¬ c.toNat = 45 by omega), this]
    unfold toI
    split <;> omega
/-- The text between quotes, without the signs ahead of its signs. -/
def unqM : List UInt8 → List UInt8
  | [] => []
  | [c] => if c.toNat = 92 then [] else [c]
  | c :: d :: r => if c.toNat = 92 then d :: unqM r else c :: unqM (d :: r)
theorem unqM_cons {c : UInt8} (h : ¬ c.toNat = 92) (r : List UInt8) : unqM (c :: r) = c :: unqM r := by
  cases r with
  | nil => unfold unqM; rw [if_neg h]
  | cons d r => conv => lhs; unfold unqM
                rw [if_neg h]
theorem unqM_two {c : UInt8} (h : c.toNat = 92) (d : UInt8) (r : List UInt8) : unqM (c :: d :: r) = d :: unqM r := by
  conv => lhs; unfold unqM
  rw [if_pos h]
theorem unqM_one {c : UInt8} (h : c.toNat = 92) : unqM [c] = [] := by unfold unqM; rw [if_pos h]
theorem unqM_esc (t : List UInt8) : unqM (escL t) = t := by
  induction t with
  | nil => rfl
  | cons c t ih =>
    have e : escL (c :: t) = esc c ++ escL t := by simp [escL]
    rw [e]
    unfold esc
    split
    · simp only [List.cons_append, List.nil_append]
      rw [unqM_two rfl, ih]
    · rename_i h
      simp only [List.cons_append, List.nil_append]
      rw [unqM_cons (by omega), ih]
/-- The same, but that a sign alone at the end stays. -/
def unqR : List UInt8 → List UInt8
  | [] => []
  | [c] => [c]
  | c :: d :: r => if c.toNat = 92 then d :: unqR r else c :: unqR (d :: r)
theorem unqR_cons {c : UInt8} (h : ¬ c.toNat = 92) (r : List UInt8) : unqR (c :: r) = c :: unqR r := by
  cases r with
  | nil => rfl
  | cons d r => conv => lhs; unfold unqR
                rw [if_neg h]
theorem unqR_two {c : UInt8} (h : c.toNat = 92) (d : UInt8) (r : List UInt8) : unqR (c :: d :: r) = d :: unqR r := by
  conv => lhs; unfold unqR
  rw [if_pos h]
theorem unqR_esc (t : List UInt8) : unqR (escL t) = t := by
  induction t with
  | nil => rfl
  | cons c t ih =>
    have e : escL (c :: t) = esc c ++ escL t := by simp [escL]
    rw [e]
    unfold esc
    split
    · simp only [List.cons_append, List.nil_append]
      rw [unqR_two rfl, ih]
    · rename_i h
      simp only [List.cons_append, List.nil_append]
      rw [unqR_cons (by omega), ih]
def mid (s : List UInt8) : List UInt8 := (s.drop 1).take (s.length - 2)
theorem mid_quote (t : List UInt8) : mid (quoteL t) = escL t := by simp [mid, quoteL]
/-! ### the reference's number -/
def rstep (n : Int) (c : UInt8) : Int := if 48 ≤ c.toNat ∧ c.toNat ≤ 57 then wrap64 (wrap64 (wrap64 (n * 10) - c.toNat) + 48) else n
def rnum0 (s : List UInt8) : Int := s.foldl rstep 0
theorem rnum0_snoc (l : List UInt8) (c : UInt8) : rnum0 (l ++ [c]) = rstep (rnum0 l) c := by simp [rnum0]
theorem rnum0_dig (n : Nat) (h : n ≤ 9223372036854775808) : rnum0 (digN n) = -(n : Int) := by
  induction n using Nat.strongRecOn with
  | ind n ih =>
    by_cases g : n < 10
    · rw [digN_lt g]
      have : (UInt8.ofNat (48 + n)).toNat = 48 + n := by simp; omega
      simp only [rnum0, List.foldl_cons, List.foldl_nil, rstep, this]
      rw [if_pos (by omega)]
      simp only [wrap64, IntKind.wrap, IntKind.signed, IntKind.bits]
      simp
      omega
    · rw [digN_ge (by omega), rnum0_snoc, ih (n / 10) (by omega) (by omega)]
      have : (UInt8.ofNat (48 + n % 10)).toNat = 48 + n % 10 := by simp; omega
      simp only [rstep, this]
      rw [if_pos (by omega)]
      simp only [wrap64, IntKind.wrap, IntKind.signed, IntKind.bits]
      simp
      omega
def rnum (s : List UInt8) : Int := if s.head?.map (·.toNat) = some 45 then rnum0 (s.take 21) else wrap64 (-rnum0 (s.take 21))
theorem decL_len (n : Int) (h1 : -9223372036854775808 ≤ n) (h2 : n ≤ 9223372036854775807) : (decL n).length ≤ 21 := by
  have := digN_len20 n.natAbs (by omega)
  unfold decL
  split <;> simp <;> omega
theorem rnum_dec (n : Int) (h1 : -9223372036854775808 ≤ n) (h2 : n ≤ 9223372036854775807) : rnum (decL n) = n := by
  unfold rnum
  rw [List.take_of_length_le (decL_len n h1 h2)]
  unfold decL
  split
  · have e : rnum0 (45 :: digN n.natAbs) = rnum0 (digN n.natAbs) := by simp [rnum0, rstep]
    rw [if_pos (by simp), e, rnum0_dig _ (by omega)]
    omega
  · obtain ⟨c, r, e, hc1, hc2⟩ := digN_cons n.natAbs
    rw [if_neg (by rw [e]; simp; omega), rnum0_dig _ (by omega)]
    simp only [wrap64, IntKind.wrap, IntKind.signed, IntKind.bits]
    simp
    omega
/-! ### parse -/
theorem val_pos (v : Val) (hr : right v = true) (h1 : -9223372036854775808 ≤ v.n) (h2 : v.n ≤ 9223372036854775807) :
    (v = ⟨1, numS (printV v), []⟩ ∧ ∃ c r, printV v = c :: r ∧ (c.toNat = 45 ∨ (48 ≤ c.toNat ∧ c.toNat ≤ 57))) ∨
    (v = ⟨2, 1, []⟩ ∧ printV v = [116, 114, 117, 101]) ∨ (v = ⟨2, 0, []⟩ ∧ printV v = [102, 97, 108, 115, 101]) ∨
    (v = ⟨3, 0, unqM (mid (printV v))⟩ ∧ v = ⟨3, 0, unqR (mid (printV v))⟩ ∧ printV v = quoteL v.s) := by
  obtain ⟨k, n, s⟩ := v
  have hp : printV ⟨k, n, s⟩ = _ := if_pos hr
  rcases right_cases hr with ⟨e1, e2⟩ | ⟨e1, e2, e3⟩ | ⟨e1, e2, e3⟩
  · simp only at e1 e2 h1 h2
    subst e1 e2
    left
    have e : printV ⟨1, n, []⟩ = decL n := by rw [hp]; simp
    rw [e, numS_dec n h1 h2]
    refine ⟨rfl, ?_⟩
    unfold decL
    split
    · exact ⟨45, _, rfl, .inl rfl⟩
    · obtain ⟨c, r, e, hc⟩ := digN_cons n.natAbs
      exact ⟨c, r, e, .inr hc⟩
  · simp only at e1 e2 e3
    subst e1 e2
    rcases e3 with rfl | rfl
    · exact .inr (.inr (.inl ⟨rfl, by rw [hp]; simp⟩))
    · exact .inr (.inl ⟨rfl, by rw [hp]; simp⟩)
  · simp only at e1 e2
    subst e1 e2
    have e : printV ⟨3, 0, s⟩ = quoteL s := by rw [hp]; simp
    refine .inr (.inr (.inr ⟨?_, ?_, e⟩))
    · rw [e, mid_quote, unqM_esc]
    · rw [e, mid_quote, unqR_esc]
def goodV (v : Val) : Prop := right v = true ∧ -9223372036854775808 ≤ v.n ∧ v.n ≤ 9223372036854775807
/-- Of two right values the texts are alike just if they are. -/
theorem printV_inj {u v : Val} (hu : goodV u) (hv : goodV v) (h : printV u = printV v) : u = v := by
  rcases val_pos u hu.1 hu.2.1 hu.2.2 with ⟨a, c, r, e, hc⟩ | ⟨a, e⟩ | ⟨a, e⟩ | ⟨a, _, e⟩ <;> rcases val_pos v hv.1 hv.2.1 hv.2.2 with ⟨a', c', r', e', hc'⟩ | ⟨a', e'⟩ | ⟨a', e'⟩ | ⟨a', _, e'⟩
  all_goals first
    | (rw [a, a']; done)
    | (rw [a, a', h]; done)
    | (exfalso; rw [e, e'] at h; first | (injection h with h _; subst h; revert hc; decide) | (injection h with h _; subst h; revert hc'; decide) | (simp [quoteL] at h; done) | (simp [quoteL] at h; obtain ⟨rfl, _⟩ := h; revert hc; decide) | (simp [quoteL] at h; obtain ⟨rfl, _⟩ := h; revert hc'; decide))
end Go.Proofs.Ytpkoijlbbfffiaa.V
