/- Values as plain data: which are right, how they stand, their bytes and their texts (no program in sight). -/
import Derived.Test.YtpkoijlbbfffiaaOctPlain2
namespace Go.Proofs.Ytpkoijlbbfffiaa.V
open Go O

/-- A value: its kind, its number, its text. -/
structure Val where
  k : Int
  n : Int
  s : List UInt8
theorem Val.same {a b : Val} (h1 : a.k = b.k) (h2 : a.n = b.n) (h3 : a.s = b.s) : a = b := by cases a; cases b; simp_all
theorem Val.same_iff {a b : Val} : a = b ↔ a.k = b.k ∧ a.n = b.n ∧ a.s = b.s := ⟨fun h => by subst h; exact ⟨rfl, rfl, rfl⟩, fun ⟨h1, h2, h3⟩ => Val.same h1 h2 h3⟩
def okC (c : UInt8) : Bool := decide (32 ≤ c.toNat) && decide (c.toNat ≤ 126)
def plainL (s : List UInt8) : Bool := s.all okC && decide (s.length ≤ 32)
def right (v : Val) : Bool := if v.k = 1 then v.s.isEmpty else if v.k = 2 then v.s.isEmpty && (v.n == 0 || v.n == 1) else if v.k = 3 then v.n == 0 && plainL v.s else false
theorem right_cases {v : Val} (h : right v = true) : (v.k = 1 ∧ v.s = []) ∨ (v.k = 2 ∧ v.s = [] ∧ (v.n = 0 ∨ v.n = 1)) ∨ (v.k = 3 ∧ v.n = 0 ∧ plainL v.s = true) := by
  unfold right at h
  split at h
  · exact .inl ⟨by assumption, by simpa using h⟩
  · split at h
    · simp at h; exact .inr (.inl ⟨by assumption, h⟩)
    · split at h
      · simp at h; exact .inr (.inr ⟨by assumption, h⟩)
      · cases h

/-! ### how two stand -/
def cmpI (a b : Int) : Int := if a < b then -1 else if b < a then 1 else 0
def cmpL : List UInt8 → List UInt8 → Int
  | [], [] => 0
  | [], _ :: _ => -1
  | _ :: _, [] => 1
  | a :: x, b :: y => if a.toNat < b.toNat then -1 else if b.toNat < a.toNat then 1 else cmpL x y
def or3 (x y z : Int) : Int := if x ≠ 0 then x else if y ≠ 0 then y else z
def cmpV (a b : Val) : Int := or3 (cmpI a.k b.k) (cmpI a.n b.n) (cmpL a.s b.s)
theorem cmpI_swap (a b : Int) : cmpI b a = - cmpI a b := by unfold cmpI; split <;> split <;> omega
theorem cmpI_zero {a b : Int} : cmpI a b = 0 ↔ a = b := by unfold cmpI; split <;> (try split) <;> omega
theorem cmpI_le {a b : Int} : cmpI a b ≤ 0 ↔ a ≤ b := by unfold cmpI; split <;> (try split) <;> omega
theorem cmpL_swap : ∀ a b : List UInt8, cmpL b a = - cmpL a b
  | [], [] => rfl
  | [], _ :: _ => rfl
  | _ :: _, [] => rfl
  | a :: x, b :: y => by
    have := cmpL_swap x y
    unfold cmpL
    split <;> split <;> (try split) <;> omega
theorem cmpL_zero : ∀ {a b : List UInt8}, cmpL a b = 0 ↔ a = b
  | [], [] => by simp [cmpL]
  | [], _ :: _ => by simp [cmpL]
  | _ :: _, [] => by simp [cmpL]
  | a :: x, b :: y => by
    have ih := cmpL_zero (a := x) (b := y)
    unfold cmpL
    split
    · rename_i h
      simp
      intro e; subst e; omega
    · split
      · rename_i h
        simp
        intro e; subst e; omega
      · have : a = b := UInt8.toNat_inj.1 (by omega)
        subst this
        simp [ih]
theorem cmpL_trans : ∀ {a b c : List UInt8}, cmpL a b ≤ 0 → cmpL b c ≤ 0 → cmpL a c ≤ 0
  | [], _, [] => by simp [cmpL]
  | [], _, _ :: _ => by simp [cmpL]
  | _ :: _, [], _ => by simp [cmpL]
  | _ :: _, _ :: _, [] => by simp [cmpL]
  | a :: x, b :: y, c :: z => by
    have ih := cmpL_trans (a := x) (b := y) (c := z)
    simp only [cmpL]
    repeat' split
    all_goals first | omega | (intro h1 h2; exact ih h1 h2)
theorem cmpV_swap (a b : Val) : cmpV b a = - cmpV a b := by
  unfold cmpV or3
  rw [cmpI_swap a.k b.k, cmpI_swap a.n b.n, cmpL_swap a.s b.s]
  repeat' split
  all_goals omega
theorem cmpV_zero {a b : Val} : cmpV a b = 0 ↔ a = b := by
  rw [Val.same_iff]
  have h1 := cmpI_zero (a := a.k) (b := b.k)
  have h2 := cmpI_zero (a := a.n) (b := b.n)
  have h3 := cmpL_zero (a := a.s) (b := b.s)
  rw [← h1, ← h2, ← h3]
  unfold cmpV or3
  split
  · omega
  · split <;> omega
theorem cmpV_le {a b : Val} : cmpV a b ≤ 0 ↔ a.k < b.k ∨ (a.k = b.k ∧ (a.n < b.n ∨ (a.n = b.n ∧ cmpL a.s b.s ≤ 0))) := by
  unfold cmpV or3 cmpI
  generalize cmpL a.s b.s = z
  repeat' split
  all_goals omega
theorem cmpV_trans {a b c : Val} (h1 : cmpV a b ≤ 0) (h2 : cmpV b c ≤ 0) : cmpV a c ≤ 0 := by
  have l := cmpL_trans (a := a.s) (b := b.s) (c := c.s)
  rw [cmpV_le] at *
  omega

/-! ### bytes -/
def putV (v : Val) : List UInt8 := if right v then UInt8.ofNat v.k.toNat :: (if v.k = 1 then uintL (zig v.n) else if v.k = 2 then [UInt8.ofNat v.n.toNat] else textL v.s) else []
def getV (l : List UInt8) (x : Int) : Option (Val × Nat) :=
  if 0 ≤ x ∧ x < l.length then
    if (l.getD x.toNat 0).toNat = 1 then (match getUAt l (x + 1) with | none => none | some (u, k) => some (⟨1, zag u, []⟩, k + 1))
    else if (l.getD x.toNat 0).toNat = 2 then (if x + 1 < l.length ∧ (l.getD (x.toNat + 1) 0).toNat ≤ 1 then some (⟨2, (l.getD (x.toNat + 1) 0).toNat, []⟩, 2) else none)
    else if (l.getD x.toNat 0).toNat = 3 then (match getTAt l (x + 1) 32 with | none => none | some (s, k) => if plainL s then some (⟨3, 0, s⟩, k + 1) else none)
    else none
  else none
theorem getUAt_put (pre r : List UInt8) (u : Nat) (h : u < 18446744073709551616) : getUAt (pre ++ (uintL u ++ r)) (pre.length : Nat) = some (u, (uintL u).length) := by
  unfold getUAt
  rw [if_pos (by simp; omega), Int.toNat_natCast, List.drop_left, getU_put u r h]
theorem getTAt_put (pre r s : List UInt8) (most : Int) (h : s.length < 1000000000000000000) (hm : (s.length : Int) ≤ most) : getTAt (pre ++ (textL s ++ r)) (pre.length : Nat) most = some (s, (textL s).length) := by
  unfold getTAt
  have := getUAt_put pre (s ++ r) s.length (by omega)
  rw [show pre ++ (textL s ++ r) = pre ++ (uintL s.length ++ (s ++ r)) by simp [textL], this]
  simp only
  rw [if_neg (by simp; omega), Int.toNat_natCast]
  congr 2
  · rw [show pre ++ (uintL s.length ++ (s ++ r)) = (pre ++ uintL s.length) ++ (s ++ r) by simp, show pre.length + (uintL s.length).length = (pre ++ uintL s.length).length by simp, List.drop_left, List.take_left]
  · simp [textL]
theorem plain_len {s : List UInt8} (h : plainL s = true) : s.length ≤ 32 := by unfold plainL at h; simp at h; exact h.2
/-- What is put behind any bytes is got there. -/
theorem getV_put (pre r : List UInt8) (v : Val) (hr : right v = true) (h1 : -9223372036854775808 ≤ v.n) (h2 : v.n ≤ 9223372036854775807) :
    getV (pre ++ (putV v ++ r)) (pre.length : Nat) = some (v, (putV v).length) := by
  obtain ⟨k, n, s⟩ := v
  have hin : (0 : Int) ≤ (pre.length : Nat) ∧ ((pre.length : Nat) : Int) < (pre ++ (putV ⟨k, n, s⟩ ++ r)).length := by
    refine ⟨by omega, ?_⟩
    rw [putV, if_pos hr]; simp; omega
  unfold getV
  rw [if_pos hin, Int.toNat_natCast]
  have e1 : ((pre.length : Nat) : Int) + 1 = ((pre.length + 1 : Nat) : Int) := by omega
  rcases right_cases hr with ⟨rfl, rfl⟩ | ⟨rfl, rfl, hn⟩ | ⟨rfl, rfl, hp⟩
  · have hz := zig_lt n h1 h2
    have e : putV ⟨1, n, []⟩ = 1 :: uintL (zig n) := by rw [putV, if_pos hr]; simp
    rw [e, show pre ++ (1 :: uintL (zig n) ++ r) = (pre ++ [1]) ++ (uintL (zig n) ++ r) by simp, e1]
    have := getUAt_put (pre ++ [1]) r (zig n) hz
    rw [show (pre ++ [(1 : UInt8)]).length = pre.length + 1 by simp] at this
    rw [this, show ((pre ++ [(1 : UInt8)]) ++ (uintL (zig n) ++ r)).getD pre.length 0 = 1 by simp]
    simp [zag_zig]
  · have e : putV ⟨2, n, []⟩ = [2, UInt8.ofNat n.toNat] := by rw [putV, if_pos hr]; simp
    rw [e, show (pre ++ ([2, UInt8.ofNat n.toNat] ++ r)).getD pre.length 0 = 2 by simp, show (pre ++ ([2, UInt8.ofNat n.toNat] ++ r)).getD (pre.length + 1) 0 = UInt8.ofNat n.toNat by simp [List.getElem?_append]]
    rcases hn with rfl | rfl <;> simp <;> omega
  · have hs : s.length ≤ 32 := plain_len hp
    have e : putV ⟨3, 0, s⟩ = 3 :: textL s := by rw [putV, if_pos hr]; simp
    rw [e, show pre ++ (3 :: textL s ++ r) = (pre ++ [3]) ++ (textL s ++ r) by simp, e1]
    have := getTAt_put (pre ++ [3]) r s 32 (by omega) (by omega)
    rw [show (pre ++ [(3 : UInt8)]).length = pre.length + 1 by simp] at this
    rw [this, show ((pre ++ [(3 : UInt8)]) ++ (textL s ++ r)).getD pre.length 0 = 3 by simp]
    simp only
    rw [if_neg (by decide), if_neg (by decide), if_pos (by decide), hp]
    simp
/-- No bytes of a value are a beginning of another one's. -/
theorem putV_apart {v u : Val} {r : List UInt8} (hv : right v = true) (hu : right u = true) (h1 : -9223372036854775808 ≤ v.n) (h2 : v.n ≤ 9223372036854775807) (g1 : -9223372036854775808 ≤ u.n) (g2 : u.n ≤ 9223372036854775807)
    (h : putV u = putV v ++ r) : v = u := by
  have a := getV_put [] r v hv h1 h2
  have b := getV_put [] [] u hu g1 g2
  simp only [List.nil_append, List.append_nil] at a b
  rw [← h, b] at a
  injection a with a
  injection a with a _
  exact a.symm
theorem putV_inj {v u : Val} (hv : right v = true) (hu : right u = true) (h1 : -9223372036854775808 ≤ v.n) (h2 : v.n ≤ 9223372036854775807) (g1 : -9223372036854775808 ≤ u.n) (g2 : u.n ≤ 9223372036854775807) :
    putV v = putV u ↔ v = u := ⟨fun h => putV_apart (r := []) hv hu h1 h2 g1 g2 (by simpa using h.symm), fun h => by rw [h]⟩
end Go.Proofs.Ytpkoijlbbfffiaa.V
