/- How a text is cut into tokens, in plain Lean. No program in sight. -/
import Derived.Test.YtpodniljpinigaaSchPlain
import Derived.Test.YtpodniljpinigaaValPlain2
namespace Go.Proofs.Ytpodniljpinigaa.X
open O V S

def blankC (c : UInt8) : Bool := decide (c.toNat = 32) || (decide (c.toNat = 9) || (decide (c.toNat = 10) || decide (c.toNat = 13)))
def digitC (c : UInt8) : Bool := decide (48 ≤ c.toNat) && decide (c.toNat ≤ 57)
def wordC (c : UInt8) : Bool := smallC c || (digitC c || decide (c.toNat = 95))
def noteC (c : UInt8) : Bool := decide (c.toNat ≠ 10)
/-- How many at the front are such. -/
def runLen (p : UInt8 → Bool) : List UInt8 → Nat
  | [] => 0
  | c :: r => if p c then runLen p r + 1 else 0
theorem runLen_le (p : UInt8 → Bool) : ∀ l, runLen p l ≤ l.length
  | [] => by simp [runLen]
  | c :: r => by unfold runLen; split <;> simp [runLen_le p r]
theorem drop_run (p : UInt8 → Bool) : ∀ l : List UInt8, l.drop (runLen p l) = l.dropWhile p
  | [] => rfl
  | c :: r => by
    unfold runLen List.dropWhile
    cases h : p c
    · simp
    · simp [drop_run p r]
theorem while_len (p : UInt8 → Bool) (l : List UInt8) : (l.dropWhile p).length ≤ l.length := by
  rw [← drop_run]; simp
/-- Past blanks and notes. -/
def skip : List UInt8 → List UInt8
  | [] => []
  | c :: r => if blankC c then skip r else if c.toNat = 35 then skip (r.dropWhile noteC) else c :: r
termination_by l => l.length
decreasing_by
  · simp
  · have := while_len noteC r; simp; omega
theorem skip_nil : skip [] = [] := by rw [skip]
theorem skip_blank {c : UInt8} (r : List UInt8) (h : blankC c = true) : skip (c :: r) = skip r := by rw [skip, if_pos h]
theorem skip_note {c : UInt8} (r : List UInt8) (h : c.toNat = 35) : skip (c :: r) = skip (r.dropWhile noteC) := by
  rw [skip, if_neg (by simp [blankC, h]), if_pos h]
theorem skip_stop {c : UInt8} (r : List UInt8) (h : blankC c = false) (h2 : c.toNat ≠ 35) : skip (c :: r) = c :: r := by
  rw [skip, if_neg (by simp [h]), if_neg h2]
theorem skip_len : ∀ (n : Nat) (l : List UInt8), l.length ≤ n → (skip l).length ≤ l.length
  | _, [], _ => by simp [skip_nil]
  | 0, c :: r, h => by simp at h
  | n + 1, c :: r, h => by
    simp at h
    by_cases h1 : blankC c = true
    · rw [skip_blank r h1]
      have := skip_len n r h
      simp; omega
    · by_cases h2 : c.toNat = 35
      · rw [skip_note r h2]
        have h3 := while_len noteC r
        have := skip_len n (r.dropWhile noteC) (by omega)
        simp; omega
      · rw [skip_stop r (by simpa using h1) h2]
        simp
theorem skip_while : ∀ l : List UInt8, skip (l.dropWhile blankC) = skip l
  | [] => rfl
  | c :: r => by
    by_cases h : blankC c = true
    · rw [skip_blank r h, List.dropWhile_cons, if_pos h, skip_while r]
    · rw [List.dropWhile_cons, if_neg h]
/-- What stands behind the blanks and notes. -/
def Stops (l : List UInt8) : Prop := l = [] ∨ ∃ c r, l = c :: r ∧ blankC c = false ∧ c.toNat ≠ 35
theorem skip_stops : ∀ (n : Nat) (l : List UInt8), l.length ≤ n → Stops (skip l)
  | _, [], _ => by rw [skip_nil]; exact .inl rfl
  | 0, c :: r, h => by simp at h
  | n + 1, c :: r, h => by
    simp at h
    by_cases h1 : blankC c = true
    · rw [skip_blank r h1]; exact skip_stops n r h
    · by_cases h2 : c.toNat = 35
      · rw [skip_note r h2]
        have h3 := while_len noteC r
        exact skip_stops n _ (by omega)
      · rw [skip_stop r (by simpa using h1) h2]
        exact .inr ⟨c, r, rfl, by simpa using h1, h2⟩
theorem skip_suffix : ∀ (n : Nat) (l : List UInt8), l.length ≤ n → ∃ k, k ≤ l.length ∧ skip l = l.drop k
  | _, [], _ => ⟨0, by simp, by simp [skip_nil]⟩
  | 0, c :: r, h => by simp at h
  | n + 1, c :: r, h => by
    simp at h
    by_cases h1 : blankC c = true
    · obtain ⟨k, hk, e⟩ := skip_suffix n r h
      exact ⟨k + 1, by simp; omega, by rw [skip_blank r h1, e]; simp⟩
    · by_cases h2 : c.toNat = 35
      · obtain ⟨k, hk, e⟩ := skip_suffix n (r.dropWhile noteC) (by have := while_len noteC r; omega)
        have h3 := while_len noteC r
        have hle := runLen_le noteC r
        refine ⟨k + runLen noteC r + 1, ?_, ?_⟩
        · rw [← drop_run] at hk; simp at hk; simp; omega
        · rw [skip_note r h2, e, ← drop_run, List.drop_drop, List.drop_succ_cons]
          congr 1; omega
      · exact ⟨0, by simp, by rw [skip_stop r (by simpa using h1) h2]; simp⟩
/-- A text in quotes, behind its first sign: where it ends, what it says, and the first sign in it that may not be. -/
structure Quo where
  n : Nat
  s : List UInt8
  bad : Option Nat
def wrongC (c : UInt8) : Bool := decide (c.toNat < 32) || decide (c.toNat > 126)
def escC (c : UInt8) : Bool := decide (c.toNat = 34) || decide (c.toNat = 92)
def orE (a b : Option Nat) : Option Nat := match a with | some k => some k | none => b
def quoS : List UInt8 → Nat → Quo → Option Quo
  | [], _, _ => none
  | [c], k, q => if c.toNat = 34 then some ⟨k, q.s, q.bad⟩ else none
  | c :: d :: r, k, q =>
    if c.toNat = 34 then some ⟨k, q.s, q.bad⟩
    else if c.toNat = 92 then quoS r (k + 2) ⟨0, q.s ++ [d], orE q.bad (if (!escC d || wrongC d) = true then some (k + 1) else none)⟩
    else quoS (d :: r) (k + 1) ⟨0, q.s ++ [c], orE q.bad (if wrongC c = true then some k else none)⟩
/-- What stands at the front of a text: an error (and how many bytes are ahead of it), or a token. -/
structure TokR where
  e : Int
  off : Nat
  k : Int
  n : Nat
  v : Val
def zeroV : Val := ⟨0, 0, []⟩
def two (a b : Nat) : Bool := (decide (a = 38) && decide (b = 38)) || ((decide (a = 124) && decide (b = 124)) || ((decide (a = 61) && decide (b = 61)) || ((decide (a = 33) && decide (b = 61)) || ((decide (a = 60) && decide (b = 61)) || (decide (a = 43) && decide (b = 43))))))
def signs : List Nat := [123, 125, 40, 41, 91, 93, 59, 44, 46, 61, 60, 43, 45, 42, 47, 37, 33]
def one (c : Nat) : Bool := signs.any (· = c)
def signL : List UInt8 → Nat
  | [] => 0
  | [c] => if one c.toNat then 1 else 0
  | c :: d :: _ => if two c.toNat d.toNat then 2 else if one c.toNat then 1 else 0
/-- A number's digits: what they say, if it is below 2^63 and they begin with no 0 too many. -/
def numV (l : List UInt8) : Nat := l.foldl (fun n c => 10 * n + (c.toNat - 48)) 0
def numOk (l : List UInt8) : Bool := decide (numV l < 9223372036854775808) && (decide ((l.getD 0 0).toNat ≠ 48) || decide (l.length = 1))
def quoL (t : List UInt8) : TokR := match quoS (t.drop 1) 1 ⟨0, [], none⟩ with
  | none => ⟨12, t.length, 3, 0, zeroV⟩
  | some q => match q.bad with
    | some k => ⟨10, k, 3, 0, zeroV⟩
    | none => if q.s.length > 32 then ⟨2, 0, 3, 0, zeroV⟩ else ⟨0, 0, 3, q.n + 1, ⟨3, 0, q.s⟩⟩
def tokL : List UInt8 → TokR
  | [] => ⟨10, 0, 4, 0, zeroV⟩
  | c :: r =>
    if smallC c then (if runLen wordC (c :: r) > 16 then ⟨2, 0, 1, 0, zeroV⟩ else ⟨0, 0, 1, runLen wordC (c :: r), zeroV⟩)
    else if digitC c then (if numOk ((c :: r).take (runLen digitC (c :: r))) then ⟨0, 0, 2, runLen digitC (c :: r), ⟨1, (numV ((c :: r).take (runLen digitC (c :: r))) : Nat), []⟩⟩ else ⟨11, 0, 2, 0, zeroV⟩)
    else if c.toNat = 34 then quoL (c :: r)
    else if signL (c :: r) = 0 then ⟨10, 0, 4, 0, zeroV⟩ else ⟨0, 0, 4, signL (c :: r), zeroV⟩
/-- A token, and the index at which it stands. -/
structure Tk where
  k : Int
  text : List UInt8
  v : Val
  i : Nat
/-- The line of an index, and where that line begins. -/
def lineOf (s : List UInt8) : Nat → Nat
  | 0 => 1
  | i + 1 => if (s.getD i 0).toNat = 10 then lineOf s i + 1 else lineOf s i
def startOf (s : List UInt8) : Nat → Nat
  | 0 => 0
  | i + 1 => if (s.getD i 0).toNat = 10 then i + 1 else startOf s i
theorem startOf_le (s : List UInt8) : ∀ i, startOf s i ≤ i
  | 0 => Nat.le_refl _
  | i + 1 => by
    have := startOf_le s i
    unfold startOf
    split <;> omega
theorem lineOf_le (s : List UInt8) : ∀ i, lineOf s i ≤ i + 1
  | 0 => Nat.le_refl _
  | i + 1 => by
    have := lineOf_le s i
    unfold lineOf
    split <;> omega
theorem start_no (s : List UInt8) (i : Nat) : ∀ n, (∀ j, i ≤ j → j < i + n → (s.getD j 0).toNat ≠ 10) → startOf s (i + n) = startOf s i
  | 0, _ => rfl
  | n + 1, h => by
    rw [← Nat.add_assoc, startOf, if_neg (h (i + n) (by omega) (by omega))]
    exact start_no s i n (fun j h1 h2 => h j h1 (by omega))
theorem start_at (s : List UInt8) (i p n : Nat) (hp : p < n) (h : (s.getD (i + p) 0).toNat = 10) (hn : ∀ j, p < j → j < n → (s.getD (i + j) 0).toNat ≠ 10) : startOf s (i + n) = i + p + 1 := by
  have := start_no s (i + p + 1) (n - p - 1) (fun j h1 h2 => by have := hn (j - i) (by omega) (by omega); rwa [show i + (j - i) = j by omega] at this)
  rw [show i + p + 1 + (n - p - 1) = i + n by omega] at this
  rw [this, startOf, if_pos h]
theorem ten_iff (c : UInt8) : c.toNat = 10 ↔ c = 10 := by
  constructor
  · intro h; exact UInt8.toNat_inj.1 h
  · intro h; subst h; rfl
theorem line_add (s : List UInt8) (i : Nat) : ∀ n, i + n ≤ s.length → lineOf s (i + n) = lineOf s i + ((s.drop i).take n).count 10
  | 0, _ => by simp
  | n + 1, h => by
    have hd : n < (s.drop i).length := by simp; omega
    have hg : s.getD (i + n) 0 = (s.drop i)[n] := by
      rw [List.getElem_drop, List.getD_eq_getElem?_getD, List.getElem?_eq_getElem (by omega)]; rfl
    rw [← Nat.add_assoc, lineOf, line_add s i n (by omega), List.take_succ_eq_append_getElem hd, List.count_append, hg]
    by_cases hc : ((s.drop i)[n]).toNat = 10
    · rw [if_pos hc, (ten_iff _).1 hc]
      simp; omega
    · rw [if_neg hc]
      have : (s.drop i)[n] ≠ 10 := fun e => hc ((ten_iff _).2 e)
      rw [List.count_singleton, if_neg (by simpa using this)]; rfl
def lexS (s : List UInt8) (f : Nat) (i : Nat) : List Tk × Int × Nat := match f with
  | 0 => ([], 0, 0)
  | f + 1 =>
    let t := skip (s.drop i)
    let j := s.length - t.length
    if t.length = 0 then ([], 0, 0)
    else
      let r := tokL t
      if r.e ≠ 0 then ([], r.e, j + r.off)
      else
        let x := lexS s f (j + r.n)
        (⟨r.k, t.take r.n, r.v, j⟩ :: x.1, x.2)
end Go.Proofs.Ytpodniljpinigaa.X
