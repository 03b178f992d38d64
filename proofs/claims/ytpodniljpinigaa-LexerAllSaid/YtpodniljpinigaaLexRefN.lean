/- Numbers: what the reference's Parse says of digits. No program in sight. -/
import Derived.Test.YtpodniljpinigaaValPlain4
import Derived.Test.YtpodniljpinigaaLexPlain
import Derived.Test.YtpodniljpinigaaLexNum
namespace Go.Proofs.Ytpodniljpinigaa.X
open O V S

theorem numV_snoc (l : List UInt8) (c : UInt8) : numV (l ++ [c]) = 10 * numV l + (c.toNat - 48) := by simp [numV]
theorem dig1 (n : Nat) (h : n < 10) : (UInt8.ofNat (48 + n)).toNat = 48 + n := by
  simp; omega
theorem numV_dig (n : Nat) : numV (digN n) = n := by
  induction n using Nat.strongRecOn with
  | _ n ih =>
    by_cases h : n < 10
    · rw [digN_lt h]
      have := dig1 n h
      simp only [numV, List.foldl_cons, List.foldl_nil, this]
      omega
    · rw [digN_ge (by omega), numV_snoc, ih (n / 10) (by omega), dig1 (n % 10) (by omega)]
      omega
theorem dig_pos (n : Nat) : 0 < (digN n).length := by
  obtain ⟨c, r, h, _⟩ := digN_cons n
  rw [h]; simp
theorem getD_app (a b : List UInt8) (h : 0 < a.length) : (a ++ b).getD 0 0 = a.getD 0 0 := by
  cases a with
  | nil => simp at h
  | cons _ _ => rfl
theorem dig_head (n : Nat) : ((digN n).getD 0 0).toNat ≠ 48 ∨ (digN n).length = 1 := by
  induction n using Nat.strongRecOn with
  | _ n ih =>
    by_cases h : n < 10
    · right; rw [digN_lt h]; rfl
    · left
      rw [digN_ge (by omega), getD_app _ _ (dig_pos _)]
      rcases ih (n / 10) (by omega) with h1 | h1
      · exact h1
      · intro h2
        obtain ⟨c, hc⟩ : ∃ c, digN (n / 10) = [c] := List.length_eq_one_iff.1 h1
        have h3 := numV_dig (n / 10)
        rw [hc] at h2 h3
        simp [numV] at h2 h3
        omega
theorem chr_back (c : UInt8) (h : digitC c = true) : UInt8.ofNat (48 + (c.toNat - 48)) = c := by
  simp only [digitC, Bool.and_eq_true, decide_eq_true_eq] at h
  apply UInt8.toNat_inj.1
  simp; omega
/-- Digits with no 0 too many are those of their number. -/
theorem dig_of : ∀ (n : Nat) (d : List UInt8), d.length = n + 1 → d.all digitC = true → ((d.getD 0 0).toNat ≠ 48 ∨ d.length = 1) → digN (numV d) = d
  | 0, d, hl, hd, _ => by
    obtain ⟨c, rfl⟩ : ∃ c, d = [c] := List.length_eq_one_iff.1 hl
    simp only [List.all_cons, List.all_nil, Bool.and_true] at hd
    have hb := chr_back c hd
    have hc : c.toNat - 48 < 10 := by simp only [digitC, Bool.and_eq_true, decide_eq_true_eq] at hd; omega
    have : numV [c] = c.toNat - 48 := by simp [numV]
    rw [this, digN_lt hc, hb]
  | n + 1, d, hl, hd, h0 => by
    have hne : d ≠ [] := by intro e; rw [e] at hl; simp at hl
    obtain ⟨a, c, rfl⟩ : ∃ a c, d = a ++ [c] := ⟨d.dropLast, d.getLast hne, (List.dropLast_concat_getLast hne).symm⟩
    rw [List.length_append] at hl
    simp at hl
    rw [List.all_append, Bool.and_eq_true] at hd
    obtain ⟨ha, hc⟩ := hd
    simp only [List.all_cons, List.all_nil, Bool.and_true] at hc
    have hz : (a.getD 0 0).toNat ≠ 48 := by
      rcases h0 with h1 | h1
      · rwa [getD_app _ _ (by omega)] at h1
      · rw [List.length_append] at h1; simp only [List.length_cons, List.length_nil] at h1; omega
    have ih := dig_of n a hl ha (.inl hz)
    have hpos : 1 ≤ numV a := by
      rcases Nat.eq_zero_or_pos (numV a) with h1 | h1
      · rw [h1] at ih
        rw [← ih] at hz
        exact absurd (by decide +kernel) hz
      · exact h1
    have hb := chr_back c hc
    have hc10 : c.toNat - 48 < 10 := by simp only [digitC, Bool.and_eq_true, decide_eq_true_eq] at hc; omega
    rw [numV_snoc, digN_ge (by omega), show (10 * numV a + (c.toNat - 48)) / 10 = numV a by omega, show (10 * numV a + (c.toNat - 48)) % 10 = c.toNat - 48 by omega, ih, hb]
theorem parseR_dig (d : List UInt8) (hp : 0 < d.length) (hd : d.all digitC = true) : parseR d = if numOk d = true then some ⟨1, (numV d : Nat), []⟩ else none := by
  obtain ⟨c, r, rfl⟩ : ∃ c r, d = c :: r := by
    cases d with
    | nil => simp at hp
    | cons c r => exact ⟨c, r, rfl⟩
  have hc : digitC c = true := by simp only [List.all_cons, Bool.and_eq_true] at hd; exact hd.1
  simp only [digitC, Bool.and_eq_true, decide_eq_true_eq] at hc
  have h1 : ∀ (x : UInt8) (y : List UInt8), 57 < x.toNat → c :: r ≠ x :: y := by
    intro x y hx e
    injection e with e _
    rw [← e] at hx; omega
  unfold parseR
  rw [if_neg (h1 116 _ (by decide)), if_neg (h1 102 _ (by decide)), if_neg (by simp; omega)]
  by_cases hok : numOk (c :: r) = true
  · rw [if_pos hok]
    simp only [numOk, Bool.and_eq_true, decide_eq_true_eq, Bool.or_eq_true] at hok
    have h2 := dig_of r.length (c :: r) rfl hd hok.2
    have h3 : decL ((numV (c :: r) : Nat) : Int) = c :: r := by
      unfold decL; rw [if_neg (by omega), Int.natAbs_natCast, h2]
    have h4 := rnum_dec ((numV (c :: r) : Nat) : Int) (by omega) (by omega)
    rw [h3] at h4
    rw [h4, if_pos h3]
  · rw [if_neg hok, if_neg]
    intro h
    apply hok
    have hb := rnum_bounds (c :: r)
    have hnn : 0 ≤ rnum (c :: r) := by
      rcases Int.lt_or_le (rnum (c :: r)) 0 with hneg | hneg
      · unfold decL at h
        rw [if_pos hneg] at h
        injection h with h _
        rw [← h] at hc
        exact absurd hc (by decide)
      · exact hneg
    unfold decL at h
    rw [if_neg (by omega)] at h
    have h5 := numV_dig (rnum (c :: r)).natAbs
    have h6 := dig_head (rnum (c :: r)).natAbs
    rw [h] at h5 h6
    simp only [numOk, Bool.and_eq_true, decide_eq_true_eq, Bool.or_eq_true]
    exact ⟨by omega, h6⟩
end Go.Proofs.Ytpodniljpinigaa.X
