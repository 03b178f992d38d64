/- How the reference reads an instruction's line, in plain Lean. No program in sight. -/
import Derived.Test.YtpodniljpinigaaDoorCodePlain
namespace Go.Proofs.YtpodniljpinigaaDoor.C
open O V

/-- Words that must all be numbers. -/
def wordsR : Nat → List UInt8 → Option (List Int × List UInt8)
  | 0, r => some ([], r)
  | k + 1, r => match parseV (cutW r) with
    | none => none
    | some v => if v.k = 1 then (match wordsR k (cutR r) with | none => none | some p => some (v.n :: p.1, p.2)) else none
theorem wordsR_some : ∀ (k : Nat) (r : List UInt8) (p : List Int × List UInt8), wordsR k r = some p → p = ((words k r).1.map num, (words k r).2)
  | 0, r, p, h => by simp only [wordsR] at h; injection h with h; rw [← h]; rfl
  | k + 1, r, p, h => by
    unfold wordsR at h
    cases hv : parseV (cutW r) with
    | none => rw [hv] at h; cases h
    | some v =>
      rw [hv] at h
      simp only at h
      split at h
      · cases hw : wordsR k (cutR r) with
        | none => rw [hw] at h; cases h
        | some q =>
          rw [hw] at h
          simp only at h
          injection h with h
          have ih := wordsR_some k (cutR r) q hw
          have hn : num (cutW r) = v.n := by unfold num; rw [hv]
          rw [← h, ih]
          show _ = (num (cutW r) :: (words k (cutR r)).1.map num, (words k (cutR r)).2)
          rw [hn]
      · cases h
theorem wordsR_jn (t : List (List UInt8)) : ∀ ns : List Int, (∀ n ∈ ns, fit n) → wordsR ns.length (jn (ns.map decL ++ t)) = some (ns, jn t)
  | [], _ => rfl
  | n :: ns, h => by
    have hc := cut_jn (dec_nb n) (ns.map decL ++ t)
    have ih := wordsR_jn t ns (fun x hx => h x (by simp [hx]))
    show wordsR (ns.length + 1) (jn (decL n :: (ns.map decL ++ t))) = _
    unfold wordsR
    rw [hc.1, hc.2, parse_dec (h n (by simp)), ih]
    rfl
def parseRf (s : List UInt8) : Option Ins :=
  if opOf (cutW s) = 0 then none
  else match wordsR (fieldsI (opOf (cutW s))) (cutR s) with
    | none => none
    | some p => if opOf (cutW s) = 1 then (match parseV p.2 with | none => none | some v => okI s (mk (opOf (cutW s)) p.1 v)) else okI s (mk (opOf (cutW s)) p.1 zV)
/-- Both read alike. -/
theorem parseRf_eq (s : List UInt8) : parseRf s = parseM s := by
  cases hm : parseM s with
  | none =>
    unfold parseRf
    split
    · rfl
    · rename_i h0
      cases hw : wordsR (fieldsI (opOf (cutW s))) (cutR s) with
      | none => rfl
      | some p =>
        have hp := wordsR_some _ _ _ hw
        unfold parseM at hm
        simp only at hm
        rw [if_neg h0] at hm
        rw [hp]
        exact hm
  | some x =>
    obtain ⟨ht, hp⟩ := parseM_iff.1 hm
    have hn := op_name x.op.toNat (by have := ht.lo; omega) (by have := ht.hi; omega)
    rw [show ((x.op.toNat : Nat) : Int) = x.op by have := ht.lo; omega] at hn
    obtain ⟨n1, n2, n3⟩ := hn
    have hcut := cut_jn n2 (((fl x).take (fieldsI x.op)).map decL ++ tailI x.op x.v)
    have hs : s = jn (nameI x.op :: (((fl x).take (fieldsI x.op)).map decL ++ tailI x.op x.v)) := hp.symm
    rw [← hs] at hcut
    have hl : ((fl x).take (fieldsI x.op)).length = fieldsI x.op := by
      rw [List.length_take]; have : (fl x).length = 4 := rfl; omega
    have hw := wordsR_jn (tailI x.op x.v) ((fl x).take (fieldsI x.op)) (fun n hn => ht.fit n (List.mem_of_mem_take hn))
    rw [hl] at hw
    have hmk := tidy_eq ht
    have h0 : x.op ≠ 0 := by have := ht.lo; omega
    unfold parseRf
    rw [hcut.1, hcut.2, n1, if_neg h0, hw]
    by_cases hop : x.op = 1
    · have htl : jn (tailI x.op x.v) = printV x.v := by unfold tailI; rw [if_pos hop]; simp [jn]
      have hpv : parseV (printV x.v) = some x.v := parseV_iff.2 ⟨ht.v1 hop, rfl⟩
      simp only
      rw [if_pos hop, htl, hpv]
      simp only [okI, hmk, hp, if_true]
    · simp only
      rw [if_neg hop, ← ht.v0 hop]
      simp only [okI, hmk, hp, if_true]
/-- A word and what is behind it, by places. -/
theorem drop_cut (s : List UInt8) (at_ : Nat) : s.drop (at_ + ((cutW (s.drop at_)).length + 1)) = cutR (s.drop at_) := by
  have h : ∀ r : List UInt8, r.drop (r.takeWhile nb).length = r.dropWhile nb := by
    intro r
    induction r with
    | nil => rfl
    | cons c r ih =>
      rw [List.takeWhile_cons, List.dropWhile_cons]
      split
      · simp [ih]
      · rfl
  unfold cutW cutR
  rw [← h (s.drop at_), List.drop_drop, List.drop_drop]
theorem parse_nil : parseV [] = none := by
  cases h : parseV [] with
  | none => rfl
  | some v =>
    have h1 := parseV_iff.1 h
    rcases val_pos v h1.1.1 h1.1.2.1 h1.1.2.2 with ⟨_, c, r, e, _⟩ | ⟨_, e⟩ | ⟨_, e⟩ | ⟨_, _, e⟩ <;> (rw [e] at h1; have := h1.2; simp [quoteL] at this)
end Go.Proofs.YtpodniljpinigaaDoor.C
