/- The contracts of octets.GetText and GetWord. -/
import Derived.Test.YtpkoijlbbfffiaaOctGet
namespace Go.Proofs.Ytpkoijlbbfffiaa.O
open Go.RowKit

theorem strq {W : World} {B n c : Nat} {A : Option Addr} {l : List UInt8} (h : Rd W B 1 A n (bv l)) : (convert 28 9 (.slice A n c)).run Try.prog W = .ok (.string ⟨l.toArray⟩) W :=
  run_str W Try.underlying28 Try.underlying5 Try.underlying9 h

/-- What GetText returns. -/
def resT (o : Option (List UInt8 × Nat)) (x : Int) : Value := match o with
  | none => .tuple #[.string ⟨#[]⟩, .int .i64 0, .bool false]
  | some (s, k) => .tuple #[.string ⟨s.toArray⟩, .int .i64 (x + k), .bool true]

set_option maxRecDepth 100000 in
set_option maxHeartbeats 2000000 in
theorem getText_any (A : Option Addr) (n c : Nat) (x most : Int) (l : List UInt8) (w : World) (h : Rd w w.heap.size 1 A n (bv l)) (hnc : n ≤ c) (hn : n ≤ 1000000000000000000) (hc : c ≤ 9223372036854775807)
    (hm1 : -9223372036854775808 ≤ most) (hm2 : most ≤ 9223372036854775807) :
    Calls Try.prog 102 #[.slice A n c, .int .i64 x, .int .i64 most] w fun e w' => e = .returned (resT (getTAt l x most) x) ∧ w = w' := by
  have hl : l.length = n := by have := h.1; simp at this; omega
  have hg := getUint_any A n c x l w h hnc hn hc
  cases hu : getUAt l x with
  | none =>
    rw [hu] at hg
    have HT : Hid (getTAt l x most = none) := Lib.hid (by rw [getTAt, hu])
    have HG := Lib.hid hg; clear hg hu hl
    go_enter Try.func102, Try.ntmps102
    go_wp2_with fail
    refine HG.out.mono ?_; rintro e w1 ⟨rfl, rfl⟩
    clear HG
    simp only [resU]
    go_wp2_with fail
    go_ret3
    exact ⟨by rw [HT.out]; rfl, rfl⟩
  | some p =>
    obtain ⟨u, k⟩ := p
    obtain ⟨hb1, hb2, hb3, hb4, hb5⟩ := getUAt_lt hu
    have hTe : getTAt l x most = if most < 0 ∨ most < u ∨ (l.length : Int) - x - k < u then none else some ((l.drop (x.toNat + k)).take u, k + u) := by rw [getTAt, hu]
    rw [hu] at hg
    have HG := Lib.hid hg; clear hg hu
    rw [hl] at hb3 hTe
    by_cases hno : most < 0 ∨ most < u ∨ (n : Int) - x - k < u
    · have HT : Hid (getTAt l x most = none) := Lib.hid (by rw [hTe, if_pos hno])
      clear hTe hl
      rcases (show (n : Int) - (x + k) < u ∨ (u ≤ (n : Int) - (x + k) ∧ most < 0) ∨ (u ≤ (n : Int) - (x + k) ∧ 0 ≤ most ∧ most < u) by omega) with h1 | ⟨h1, h2⟩ | ⟨h1, h2, h3⟩
      all_goals
        clear hno
        go_enter Try.func102, Try.ntmps102
        go_wp2_with fail
        refine HG.out.mono ?_; rintro e w1 ⟨rfl, rfl⟩
        clear HG
        simp only [resU]
        go_wp2_with fail
        go_ret3
        exact ⟨by rw [HT.out]; rfl, rfl⟩
    · have HT : Hid (getTAt l x most = some ((l.drop (x.toNat + k)).take u, k + u)) := Lib.hid (by rw [hTe, if_neg hno])
      obtain ⟨y, rfl⟩ := Int.eq_ofNat_of_zero_le hb2
      rw [Int.toNat_natCast] at HT
      have h1 : u ≤ n := by omega
      have h2 : (u : Int) ≤ (n : Int) - (y + k) := by omega
      have h3 : 0 ≤ most := by omega
      have h4 : (u : Int) ≤ most := by omega
      clear hTe hl hno
      by_cases hck : c = y + k
      · have hu0 : u = 0 := by omega
        subst hu0
        subst hck
        have q : ∀ A' c', (convert 28 9 (.slice A' 0 c')).run Try.prog w = .ok (.string ⟨#[]⟩) w := fun A' c' => strq (B := 0) (l := []) Rd.nil_
        go_enter Try.func102, Try.ntmps102
        go_wp2_with fail
        refine HG.out.mono ?_; rintro e w1 ⟨rfl, rfl⟩
        clear HG
        simp only [resU]
        go_wp2_with fail
        go_ret3
        exact ⟨by rw [HT.out]; simp [resT], rfl⟩
      · have q := strq (c := c - (y + k)) (h.mid (k := y + k) (u := u) (by omega))
        go_enter Try.func102, Try.ntmps102
        go_wp2_with fail
        refine HG.out.mono ?_; rintro e w1 ⟨rfl, rfl⟩
        clear HG
        simp only [resU]
        go_wp2_with fail
        go_ret3
        exact ⟨by rw [HT.out]; simp [resT]; omega, rfl⟩

/-- The word at the beginning of bytes. -/
def wordN (l : List UInt8) : Nat := ((((l.getD 0 0).toNat * 256 + (l.getD 1 0).toNat) * 256) + (l.getD 2 0).toNat) * 256 + (l.getD 3 0).toNat
def wordTo (l : List UInt8) : Nat → Nat
  | 0 => 0
  | k + 1 => wordTo l k * 256 + (l.getD k 0).toNat
theorem wordTo_lt (l : List UInt8) : ∀ k, wordTo l k < 256 ^ k
  | 0 => by simp [wordTo]
  | k + 1 => by
    have := wordTo_lt l k
    have h8 := (l.getD k 0).toNat_lt
    simp only [wordTo, Nat.pow_succ]
    omega
def getWAt (l : List UInt8) (x : Int) : Option Nat := if 0 ≤ x ∧ x ≤ (l.length : Int) - 4 then some (wordTo (l.drop x.toNat) 4) else none
def resW (o : Option Nat) (x : Int) : Value := match o with
  | none => .tuple #[.int .u32 0, .int .i64 0, .bool false]
  | some n => .tuple #[.int .u32 n, .int .i64 (x + 4), .bool true]

theorem or_word (d : List UInt8) (k : Nat) (hk : k < 4) (h : k < d.length) :
    bits .or .u32 (((wordTo d k : Nat) : Int) * 256 % 4294967296) (((d[k]).toNat : Int) % 4294967296) = ((wordTo d (k + 1) : Nat) : Int) := by
  have h1 := wordTo_lt d k
  have h2 : (256 : Nat) ^ k ≤ 256 ^ 3 := Nat.pow_le_pow_right (by omega) (by omega)
  have h8 := (d[k]).toNat_lt
  have e1 : ((wordTo d k : Nat) : Int) * 256 % 4294967296 = ((wordTo d k * 256 : Nat) : Int) := by omega
  have e2 : ((d[k]).toNat : Int) % 4294967296 = (((d[k]).toNat : Nat) : Int) := by omega
  rw [e1, e2, u32_or_nat _ _ (by omega) (by omega), nat_join 8 _ _ (by omega) (by omega)]
  simp [wordTo, h]

end Go.Proofs.Ytpkoijlbbfffiaa.O
