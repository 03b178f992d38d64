/- Parsing, plainly: the program's way and the reference's give the same value (no program in sight). -/
import Derived.Test.YtpkoijlbbfffiaaValPlain3
namespace Go.Proofs.Ytpkoijlbbfffiaa.V
open Go O RowKit

def cands (s : List UInt8) : List Val := [⟨1, numS s, []⟩, ⟨2, 1, []⟩, ⟨2, 0, []⟩, ⟨3, 0, unqM (mid s)⟩]
def fitP (s : List UInt8) (v : Val) : Bool := right v && printV v == s
def parseV (s : List UInt8) : Option Val := (cands s).find? (fitP s)
theorem fitP_iff {s : List UInt8} {v : Val} : fitP s v = true ↔ right v = true ∧ printV v = s := by unfold fitP; simp
theorem cand_bounds {s : List UInt8} {v : Val} (h : v ∈ cands s) : -9223372036854775808 ≤ v.n ∧ v.n ≤ 9223372036854775807 := by
  have := numS_bounds s
  simp only [cands, List.mem_cons, List.not_mem_nil, or_false] at h
  rcases h with rfl | rfl | rfl | rfl <;> simp <;> omega
theorem parseV_iff {s : List UInt8} {v : Val} : parseV s = some v ↔ goodV v ∧ printV v = s := by
  constructor
  · intro h
    have h1 := List.find?_some h
    have h2 := List.mem_of_find?_eq_some h
    rw [fitP_iff] at h1
    exact ⟨⟨h1.1, cand_bounds h2⟩, h1.2⟩
  · rintro ⟨hg, hp⟩
    have hm : v ∈ cands s := by
      subst hp
      rcases val_pos v hg.1 hg.2.1 hg.2.2 with ⟨a, _⟩ | ⟨a, _⟩ | ⟨a, _⟩ | ⟨a, _⟩
      all_goals (unfold cands; rw [List.mem_cons, List.mem_cons, List.mem_cons, List.mem_cons]; simp [← a])
    cases h : parseV s with
    | none =>
      have := List.find?_eq_none.1 h v hm
      exact absurd (fitP_iff.2 ⟨hg.1, hp⟩) this
    | some u =>
      have h1 := List.find?_some h
      have h2 := List.mem_of_find?_eq_some h
      rw [fitP_iff] at h1
      rw [printV_inj ⟨h1.1, cand_bounds h2⟩ hg (h1.2.trans hp.symm)]
def parseR (s : List UInt8) : Option Val :=
  if s = [116, 114, 117, 101] then some ⟨2, 1, []⟩ else if s = [102, 97, 108, 115, 101] then some ⟨2, 0, []⟩
  else if 2 ≤ s.length ∧ s.head?.map (·.toNat) = some 34 then (if fitP s ⟨3, 0, unqR (mid s)⟩ then some ⟨3, 0, unqR (mid s)⟩ else none)
  else if decL (rnum s) = s then some ⟨1, rnum s, []⟩ else none
theorem w64 (x : Int) : -9223372036854775808 ≤ wrap64 x ∧ wrap64 x ≤ 9223372036854775807 := by
  unfold wrap64
  omega
theorem rfold (l : List UInt8) : ∀ n : Int, -9223372036854775808 ≤ n ∧ n ≤ 9223372036854775807 → -9223372036854775808 ≤ l.foldl rstep n ∧ l.foldl rstep n ≤ 9223372036854775807 := by
  induction l with
  | nil => intro n h; exact h
  | cons c l ih =>
    intro n h
    rw [List.foldl_cons]
    refine ih _ ?_
    unfold rstep
    split
    · exact w64 _
    · exact h
theorem rnum_bounds (s : List UInt8) : -9223372036854775808 ≤ rnum s ∧ rnum s ≤ 9223372036854775807 := by
  unfold rnum
  split
  · exact rfold _ _ (by omega)
  · exact w64 _
theorem print1 {n : Int} : printV ⟨1, n, []⟩ = decL n := by unfold printV; simp [right]
theorem quote_head (t : List UInt8) : 2 ≤ (quoteL t).length ∧ (quoteL t).head?.map (·.toNat) = some 34 := by simp [quoteL]
theorem parseR_iff {s : List UInt8} {v : Val} : parseR s = some v ↔ goodV v ∧ printV v = s := by
  have hT : ∀ b : Int, (b = 0 ∨ b = 1) → goodV ⟨2, b, []⟩ := by rintro b (rfl | rfl) <;> exact ⟨by decide, by simp, by simp⟩
  have p1 : printV ⟨2, 1, []⟩ = [116, 114, 117, 101] := by decide
  have p0 : printV ⟨2, 0, []⟩ = [102, 97, 108, 115, 101] := by decide
  unfold parseR
  constructor
  · intro h
    split at h
    · rename_i e; cases h; exact ⟨hT 1 (.inr rfl), by rw [p1, e]⟩
    · split at h
      · rename_i e; cases h; exact ⟨hT 0 (.inl rfl), by rw [p0, e]⟩
      · split at h
        · split at h
          · rename_i hf
            cases h
            rw [fitP_iff] at hf
            exact ⟨⟨hf.1, by simp, by simp⟩, hf.2⟩
          · cases h
        · split at h
          · rename_i hd
            cases h
            have hb := rnum_bounds s
            exact ⟨⟨by simp [right], hb.1, hb.2⟩, by rw [print1, hd]⟩
          · cases h
  · rintro ⟨hg, hp⟩
    subst hp
    rcases val_pos v hg.1 hg.2.1 hg.2.2 with ⟨a, c, r, e, hc⟩ | ⟨a, e⟩ | ⟨a, e⟩ | ⟨_, a, e⟩
    · have hv : printV v = decL v.n := by
        have ek : v.k = 1 := by rw [a]
        have es : v.s = [] := by rw [a]
        have : v = ⟨1, v.n, []⟩ := Val.same ek rfl es
        rw [this, print1]
      have hn : rnum (printV v) = v.n := by rw [hv, rnum_dec _ hg.2.1 hg.2.2]
      rw [if_neg (by rw [e]; intro h; injection h with h _; subst h; revert hc; decide), if_neg (by rw [e]; intro h; injection h with h _; subst h; revert hc; decide), if_neg (by rw [e]; simp; intro _; omega), hn, if_pos hv.symm]
      have ek : v.k = 1 := by rw [a]
      have es : v.s = [] := by rw [a]
      congr 1
      exact Val.same ek.symm rfl es.symm
    · rw [if_pos e, a]
    · rw [if_neg (by rw [e]; decide), if_pos e, a]
    · have hq := quote_head v.s
      rw [← e] at hq
      rw [if_neg (by rw [e]; simp [quoteL]), if_neg (by rw [e]; simp [quoteL]), if_pos hq, ← a, if_pos (fitP_iff.2 ⟨hg.1, rfl⟩)]
theorem parse_same (s : List UInt8) : parseV s = parseR s := by
  apply Option.ext
  intro v
  rw [parseV_iff, parseR_iff]
end Go.Proofs.Ytpkoijlbbfffiaa.V
