/- Codes and their texts, in plain Lean. No program in sight. -/
import Derived.Test.YtpodniljpinigaaDoorCodePlain2
import Derived.Lib.SplitLaws
namespace Go.Proofs.YtpodniljpinigaaDoor.C
open O V

/-- The pieces that end with c, and what stands behind the last c. -/
def cutL (c : UInt8) : List UInt8 → List (List UInt8) × List UInt8
  | [] => ([], [])
  | b :: s => if b = c then ([] :: (cutL c s).1, (cutL c s).2) else match (cutL c s).1 with
    | [] => ([], b :: (cutL c s).2)
    | l :: ls => ((b :: l) :: ls, (cutL c s).2)
def glue (c : UInt8) (ls : List (List UInt8)) (t : List UInt8) : List UInt8 := (ls.map (· ++ [c])).flatten ++ t
theorem glue_cons (c : UInt8) (l : List UInt8) (ls : List (List UInt8)) (t : List UInt8) : glue c (l :: ls) t = l ++ c :: glue c ls t := by simp [glue]
theorem cutL_none {c : UInt8} : ∀ {t : List UInt8}, c ∉ t → cutL c t = ([], t)
  | [], _ => rfl
  | b :: t, h => by
    simp only [List.mem_cons, not_or] at h
    unfold cutL
    rw [if_neg (fun e => h.1 e.symm), cutL_none h.2]
theorem cutL_cons {c : UInt8} (r : List UInt8) : ∀ {l : List UInt8}, c ∉ l → cutL c (l ++ c :: r) = (l :: (cutL c r).1, (cutL c r).2)
  | [], _ => by simp [cutL]
  | b :: l, h => by
    simp only [List.mem_cons, not_or] at h
    rw [List.cons_append, cutL, if_neg (fun e => h.1 e.symm), cutL_cons r h.2]
theorem cutL_glue {c : UInt8} {t : List UInt8} (ht : c ∉ t) : ∀ {ls : List (List UInt8)}, (∀ l ∈ ls, c ∉ l) → cutL c (glue c ls t) = (ls, t)
  | [], _ => by simpa [glue] using cutL_none ht
  | l :: ls, h => by
    rw [glue_cons, cutL_cons _ (h l (by simp)), cutL_glue ht (fun x hx => h x (by simp [hx]))]
theorem cutL_no (c : UInt8) : ∀ s : List UInt8, (∀ l ∈ (cutL c s).1, c ∉ l) ∧ c ∉ (cutL c s).2
  | [] => by simp [cutL]
  | b :: s => by
    have ih := cutL_no c s
    unfold cutL
    split
    · exact ⟨fun l hl => by
        rcases List.mem_cons.1 hl with rfl | hl
        · simp
        · exact ih.1 l hl, ih.2⟩
    · rename_i hb
      cases h : (cutL c s).1 with
      | nil => exact ⟨by simp, by simp only [List.mem_cons, not_or]; exact ⟨fun e => hb e.symm, ih.2⟩⟩
      | cons l ls =>
        rw [h] at ih
        refine ⟨fun x hx => ?_, ih.2⟩
        rcases List.mem_cons.1 hx with rfl | hx
        · simp only [List.mem_cons, not_or]; exact ⟨fun e => hb e.symm, ih.1 l (by simp)⟩
        · exact ih.1 x (by simp [hx])
theorem glue_cutL (c : UInt8) : ∀ s : List UInt8, glue c (cutL c s).1 (cutL c s).2 = s
  | [] => rfl
  | b :: s => by
    have ih := glue_cutL c s
    unfold cutL
    split
    · rename_i hb; rw [glue_cons, ih, hb]; rfl
    · cases h : (cutL c s).1 with
      | nil => rw [h] at ih; simp only [glue, List.map_nil, List.flatten_nil, List.nil_append] at ih ⊢; rw [ih]
      | cons l ls => rw [h, glue_cons] at ih; simp only [glue_cons, List.cons_append]; rw [ih]
theorem cutL_iff {c : UInt8} {s t : List UInt8} {ls : List (List UInt8)} (h1 : ∀ l ∈ ls, c ∉ l) (h2 : c ∉ t) (h : s = glue c ls t) : cutL c s = (ls, t) := by rw [h]; exact cutL_glue h2 h1
/-- One more octet. -/
theorem cutL_snoc {c b : UInt8} {s t : List UInt8} {ls : List (List UInt8)} (h : cutL c s = (ls, t)) : cutL c (s ++ [b]) = if b = c then (ls ++ [t], []) else (ls, t ++ [b]) := by
  have hn := cutL_no c s
  have hg := glue_cutL c s
  rw [h] at hn hg
  simp only at hn hg
  split
  · rename_i hb
    refine cutL_iff (fun l hl => ?_) (by simp) ?_
    · rcases List.mem_append.1 hl with hl | hl
      · exact hn.1 l hl
      · rw [List.mem_singleton] at hl; rw [hl]; exact hn.2
    · rw [← hg, hb]; simp [glue]
  · rename_i hb
    refine cutL_iff hn.1 (by simp only [List.mem_append, List.mem_singleton, not_or]; exact ⟨hn.2, fun e => hb e.symm⟩) ?_
    rw [← hg]; simp [glue]
/-- Behind an end, the rest is cut by itself. -/
theorem cutL_app {c : UInt8} {a b : List UInt8} {la : List (List UInt8)} (h : cutL c a = (la, [])) : cutL c (a ++ b) = (la ++ (cutL c b).1, (cutL c b).2) := by
  have hn := cutL_no c a
  have hg := glue_cutL c a
  have hn2 := cutL_no c b
  have hg2 := glue_cutL c b
  rw [h] at hn hg
  refine cutL_iff (fun l hl => ?_) hn2.2 ?_
  · rcases List.mem_append.1 hl with hl | hl
    · exact hn.1 l hl
    · exact hn2.1 l hl
  · conv => lhs; rw [← hg, ← hg2]
    simp [glue]
theorem cutL_len (c : UInt8) (s : List UInt8) : (cutL c s).1.length ≤ s.length ∧ (cutL c s).2.length ≤ s.length ∧ ∀ l ∈ (cutL c s).1, l.length ≤ s.length := by
  have hg := glue_cutL c s
  have h1 : ∀ (ls : List (List UInt8)) (t : List UInt8), ls.length + t.length ≤ (glue c ls t).length ∧ ∀ l ∈ ls, l.length ≤ (glue c ls t).length := by
    intro ls t
    induction ls with
    | nil => simp [glue]
    | cons l ls ih =>
      rw [glue_cons]
      simp only [List.length_append, List.length_cons]
      refine ⟨by omega, fun x hx => ?_⟩
      rcases List.mem_cons.1 hx with rfl | hx
      · omega
      · have := ih.2 x hx; omega
  have := h1 (cutL c s).1 (cutL c s).2
  rw [hg] at this
  exact ⟨by omega, by omega, this.2⟩
theorem index_one {c : UInt8} (r : List UInt8) : ∀ {l : List UInt8}, c ∉ l → Lib.index (l ++ c :: r) [c] = (l.length : Int)
  | [], _ => by simp [Lib.index]
  | b :: l, h => by
    simp only [List.mem_cons, not_or] at h
    have ih := index_one r h.2
    have hb : (c == b) = false := by simpa using h.1
    rw [List.cons_append, Lib.index, ih]
    simp [List.isPrefixOf, hb]
    try omega
theorem split_glue {c : UInt8} {t : List UInt8} (ht : c ∉ t) : ∀ {ls : List (List UInt8)}, (∀ l ∈ ls, c ∉ l) → Lib.split (glue c ls t) [c] = ls ++ [t]
  | [], _ => by
    unfold Lib.split
    have : Lib.count (glue c [] t) [c] = 0 := by rw [Lib.count_one]; simpa [glue] using List.count_eq_zero.2 ht
    rw [this]; simp [Lib.splitK, glue]
  | l :: ls, h => by
    have hl := h l (by simp)
    have ih := split_glue ht (ls := ls) (fun x hx => h x (by simp [hx]))
    unfold Lib.split at ih ⊢
    rw [glue_cons]
    have hc : Lib.count (l ++ c :: glue c ls t) [c] = Lib.count (glue c ls t) [c] + 1 := by
      rw [Lib.count_one, Lib.count_one, List.count_append, List.count_eq_zero.2 hl, List.count_cons_self]; omega
    have hi : (Lib.index (l ++ c :: glue c ls t) [c] == -1) = false := by rw [index_one _ hl, beq_eq_false_iff_ne]; omega
    rw [hc, Lib.splitK, hi, index_one _ hl]
    simp only [Bool.false_eq_true, if_false, Int.toNat_natCast, Nat.add_zero, List.length_singleton]
    rw [List.take_left' rfl, show l ++ c :: glue c ls t = (l ++ [c]) ++ glue c ls t by simp, List.drop_left' (by simp), ih]
    rfl
theorem split_cutL (c : UInt8) (s : List UInt8) : Lib.split s [c] = (cutL c s).1 ++ [(cutL c s).2] := by
  have hn := cutL_no c s
  have := split_glue hn.2 hn.1
  rwa [glue_cutL] at this
def codeW : List UInt8 := [99, 111, 100, 101]
def headL (r l k : Int) : List UInt8 := jn [codeW, decL r, decL l, decL k]
structure Cd where
  r : Int
  l : Int
  k : Int
  ins : List Ins
def zC : Cd := ⟨0, 0, 0, []⟩
def inB (n : Int) : Prop := 0 ≤ n ∧ n ≤ 1000000
instance (n : Int) : Decidable (inB n) := by unfold inB; infer_instance
def rowsL (xs : List Ins) : List UInt8 := (xs.map (fun x => printI x ++ [10])).flatten
def printA (c : Cd) : List UInt8 := headL c.r c.l c.k ++ [10] ++ rowsL c.ins
def headM (s : List UInt8) : Option (Int × Int × Int) := match cutL 32 s with
  | ([_, a, b], d) => if headL (num a) (num b) (num d) = s ∧ inB (num a) ∧ inB (num b) ∧ inB (num d) then some (num a, num b, num d) else none
  | _ => none
theorem inB.fit {n : Int} (h : inB n) : fit n := ⟨by have := h.1; omega, by have := h.2; omega⟩
theorem nb_mem {l : List UInt8} (h : l.all nb = true) : (32 : UInt8) ∉ l := by
  intro hm
  have := (List.all_eq_true.1 h) 32 hm
  simp [nb] at this
theorem headM_iff {s : List UInt8} {r l k : Int} : headM s = some (r, l, k) ↔ headL r l k = s ∧ inB r ∧ inB l ∧ inB k := by
  constructor
  · intro h
    unfold headM at h
    split at h
    · split at h
      · rename_i hc; cases h; exact hc
      · cases h
    · cases h
  · rintro ⟨h, h1, h2, h3⟩
    have hc : cutL 32 s = ([codeW, decL r, decL l], decL k) := by
      refine cutL_iff (fun x hx => ?_) (nb_mem (dec_nb k)) ?_
      · simp only [List.mem_cons, List.not_mem_nil, or_false] at hx
        rcases hx with rfl | rfl | rfl
        · decide
        · exact nb_mem (dec_nb r)
        · exact nb_mem (dec_nb l)
      · rw [← h]; simp [headL, jn, glue]
    unfold headM
    rw [hc]
    simp only [num_dec h1.fit, num_dec h2.fit, num_dec h3.fit]
    rw [if_pos ⟨h, h1, h2, h3⟩]
/-- Words that must all be numbers up to a million. -/
def wordsH : Nat → List UInt8 → Option (List Int × List UInt8)
  | 0, r => some ([], r)
  | k + 1, r => match parseV (cutW r) with
    | none => none
    | some v => if v.k = 1 ∧ inB v.n then (match wordsH k (cutR r) with | none => none | some p => some (v.n :: p.1, p.2)) else none
def headR (s : List UInt8) : Option (Int × Int × Int) := if cutW s = codeW then (match wordsH 3 (cutR s) with
  | some ([a, b, d], _) => if headL a b d = s then some (a, b, d) else none
  | _ => none) else none
theorem wordsH_jn (t : List (List UInt8)) : ∀ ns : List Int, (∀ n ∈ ns, inB n) → wordsH ns.length (jn (ns.map decL ++ t)) = some (ns, jn t)
  | [], _ => rfl
  | n :: ns, h => by
    have hc := cut_jn (dec_nb n) (ns.map decL ++ t)
    have hb := h n (by simp)
    have ih := wordsH_jn t ns (fun x hx => h x (by simp [hx]))
    show wordsH (ns.length + 1) (jn (decL n :: (ns.map decL ++ t))) = _
    unfold wordsH
    rw [hc.1, hc.2, parse_dec hb.fit, ih]
    simp only
    rw [if_pos ⟨trivial, hb⟩]
theorem wordsH_in : ∀ (k : Nat) (r : List UInt8) (p : List Int × List UInt8), wordsH k r = some p → ∀ n ∈ p.1, inB n
  | 0, r, p, h => by simp only [wordsH] at h; cases h; simp
  | k + 1, r, p, h => by
    unfold wordsH at h
    cases hv : parseV (cutW r) with
    | none => rw [hv] at h; cases h
    | some v =>
      rw [hv] at h
      simp only at h
      split at h
      · rename_i hc
        cases hw : wordsH k (cutR r) with
        | none => rw [hw] at h; cases h
        | some q =>
          rw [hw] at h
          simp only at h
          cases h
          intro n hn
          rcases List.mem_cons.1 hn with rfl | hn
          · exact hc.2
          · exact wordsH_in k (cutR r) q hw n hn
      · cases h
theorem headR_eq (s : List UInt8) : headR s = headM s := by
  have h1 : ∀ p, headR s = some p → headM s = some p := by
    rintro ⟨a, b, d⟩ h
    unfold headR at h
    split at h
    · split at h
      · rename_i x y z q hw
        split at h
        · rename_i hs
          cases h
          have := wordsH_in _ _ _ hw
          exact headM_iff.2 ⟨hs, this a (by simp), this b (by simp), this d (by simp)⟩
        · cases h
      · cases h
    · cases h
  have h2 : ∀ p, headM s = some p → headR s = some p := by
    rintro ⟨a, b, d⟩ h
    obtain ⟨hs, i1, i2, i3⟩ := headM_iff.1 h
    have hc := cut_jn (x := codeW) (by decide) [decL a, decL b, decL d]
    have hj : jn [codeW, decL a, decL b, decL d] = s := hs
    rw [hj] at hc
    have hw := wordsH_jn [] [a, b, d] (by
      intro n hn
      simp only [List.mem_cons, List.not_mem_nil, or_false] at hn
      rcases hn with rfl | rfl | rfl <;> assumption)
    simp only [List.map_cons, List.map_nil, List.append_nil, List.length_cons, List.length_nil] at hw
    unfold headR
    rw [if_pos hc.1, hc.2, hw]
    simp only
    rw [if_pos hs]
  cases h : headR s with
  | none => cases h' : headM s with
    | none => rfl
    | some p => rw [h2 p h'] at h; cases h
  | some p => exact (h1 p h).symm
/-- Lines as instructions, or the number of the first one that is none. -/
def parseLs : List (List UInt8) → Nat → Nat ⊕ List Ins
  | [], _ => .inr []
  | s :: ls, n => match parseM s with
    | none => .inl n
    | some x => match parseLs ls (n + 1) with
      | .inl k => .inl k
      | .inr xs => .inr (x :: xs)
def parseA (s : List UInt8) : Cd × Nat := match cutL 10 s with
  | ([], _) => (zC, 1)
  | (l0 :: ls, t) => match headM l0 with
    | none => (zC, 1)
    | some (r, l, k) => match parseLs ls 2 with
      | .inl n => (zC, n)
      | .inr xs => if t = [] then (⟨r, l, k, xs⟩, 0) else (zC, ls.length + 2)
theorem parseLs_app (rest : List (List UInt8)) : ∀ (pre : List (List UInt8)) (xs : List Ins) (n : Nat), pre.map parseM = xs.map some → parseLs (pre ++ rest) n = match parseLs rest (n + pre.length) with
    | .inl k => .inl k
    | .inr ys => .inr (xs ++ ys)
  | [], xs, n, h => by
    cases xs with
    | nil => simp only [List.nil_append, List.length_nil, Nat.add_zero]; cases parseLs rest n <;> rfl
    | cons _ _ => cases h
  | p :: pre, xs, n, h => by
    cases xs with
    | nil => cases h
    | cons x xs =>
      simp only [List.map_cons, List.cons.injEq] at h
      have ih := parseLs_app rest pre xs (n + 1) h.2
      rw [List.cons_append, parseLs, h.1, ih, List.length_cons, show n + 1 + pre.length = n + (pre.length + 1) by omega]
      simp only
      cases parseLs rest (n + (pre.length + 1)) <;> rfl
theorem parseLs_iff : ∀ (ls : List (List UInt8)) (n : Nat) (xs : List Ins), parseLs ls n = .inr xs → ls.map parseM = xs.map some
  | [], n, xs, h => by simp only [parseLs] at h; cases h; rfl
  | s :: ls, n, xs, h => by
    unfold parseLs at h
    cases hp : parseM s with
    | none => rw [hp] at h; cases h
    | some x =>
      rw [hp] at h
      simp only at h
      cases hl : parseLs ls (n + 1) with
      | inl k => rw [hl] at h; cases h
      | inr ys =>
        rw [hl] at h
        simp only at h
        cases h
        rw [List.map_cons, List.map_cons, hp, parseLs_iff ls (n + 1) ys hl]
theorem dec_no (n : Int) : (10 : UInt8) ∉ decL n := by
  have : ∀ m, (10 : UInt8) ∉ digN m := fun m hm => by have := digN_mem m 10 hm; simp at this
  unfold decL
  split
  · simp only [List.mem_cons, not_or]; exact ⟨by decide, this _⟩
  · exact this _
theorem esc_no {l : List UInt8} (h : l.all okC = true) : (10 : UInt8) ∉ escL l := by
  intro hm
  unfold escL at hm
  obtain ⟨c, hc, hm⟩ := List.mem_flatMap.1 hm
  have ho := List.all_eq_true.1 h c hc
  unfold esc at hm
  split at hm
  · simp only [List.mem_cons, List.not_mem_nil, or_false] at hm
    rcases hm with hm | hm
    · exact absurd hm (by decide)
    · rw [← hm] at ho; exact absurd ho (by decide)
  · rw [List.mem_singleton] at hm
    rw [← hm] at ho; exact absurd ho (by decide)
theorem val_no {v : Val} (h : goodV v) : (10 : UInt8) ∉ printV v := by
  unfold printV
  rw [if_pos h.1]
  rcases right_cases h.1 with ⟨e, _⟩ | ⟨e, _, e2⟩ | ⟨e, _, e2⟩
  · rw [if_pos e]; exact dec_no _
  · rw [if_neg (by omega), if_pos e]; split <;> decide
  · rw [if_neg (by omega), if_neg (by omega)]
    unfold plainL at e2
    rw [Bool.and_eq_true] at e2
    have := esc_no e2.1
    unfold quoteL
    simp only [List.cons_append, List.mem_cons, List.mem_append, List.not_mem_nil, or_false, not_or]
    exact ⟨by decide, this, by decide⟩
theorem jn_no {c : UInt8} (hc : c ≠ 32) : ∀ {l : List (List UInt8)}, (∀ x ∈ l, c ∉ x) → c ∉ jn l
  | [], _ => by simp [jn]
  | x :: r, h => by
    unfold jn
    rw [List.mem_append, not_or]
    refine ⟨h x (by simp), fun hm => ?_⟩
    rw [List.mem_flatten] at hm
    obtain ⟨y, hy, hm⟩ := hm
    obtain ⟨z, hz, rfl⟩ := List.mem_map.1 hy
    rcases List.mem_cons.1 hm with hm | hm
    · exact hc hm
    · exact h z (by simp [hz]) hm
theorem name_no (op : Int) : (10 : UInt8) ∉ nameI op := by
  have h : ∀ x ∈ names, (10 : UInt8) ∉ x := by decide
  unfold nameI
  split
  · rename_i k _
    by_cases hk : k < names.length
    · rw [List.getD_eq_getElem?_getD, List.getElem?_eq_getElem hk]; exact h _ (List.getElem_mem hk)
    · rw [List.getD_eq_getElem?_getD, List.getElem?_eq_none (by omega)]; simp
  · simp
theorem print_no {x : Ins} (h : tidy x) : (10 : UInt8) ∉ printI x := by
  refine jn_no (by decide) fun w hw => ?_
  unfold wordsI at hw
  rcases List.mem_cons.1 hw with rfl | hw
  · exact name_no _
  rcases List.mem_append.1 hw with hw | hw
  · obtain ⟨n, _, rfl⟩ := List.mem_map.1 hw; exact dec_no n
  · unfold tailI at hw
    split at hw
    · rename_i h1; rw [List.mem_singleton] at hw; rw [hw]; exact val_no (h.v1 h1)
    · simp at hw
theorem head_no (r l k : Int) : (10 : UInt8) ∉ headL r l k := by
  refine jn_no (by decide) fun w hw => ?_
  simp only [List.mem_cons, List.not_mem_nil, or_false] at hw
  rcases hw with rfl | rfl | rfl | rfl
  · decide
  · exact dec_no _
  · exact dec_no _
  · exact dec_no _
theorem rowsL_glue (xs : List Ins) (t : List UInt8) : rowsL xs ++ t = glue 10 (xs.map printI) t := by simp [rowsL, glue, List.map_map, Function.comp_def]
theorem printA_glue (c : Cd) (t : List UInt8) : printA c ++ t = glue 10 (headL c.r c.l c.k :: c.ins.map printI) t := by
  rw [glue_cons, ← rowsL_glue]; simp [printA]
theorem parse_tidy {xs : List Ins} (h : ∀ x ∈ xs, tidy x) : (xs.map printI).map parseM = xs.map some := by
  rw [List.map_map]
  exact List.map_congr_left fun x hx => parseM_iff.2 ⟨h x hx, rfl⟩
theorem parseLs_tidy {xs : List Ins} (h : ∀ x ∈ xs, tidy x) (n : Nat) : parseLs (xs.map printI) n = .inr xs := by
  have := parseLs_app [] (xs.map printI) xs n (parse_tidy h)
  rw [List.append_nil] at this
  rw [this]; simp [parseLs]
theorem rows_no {c : Cd} (h : ∀ x ∈ c.ins, tidy x) : ∀ l ∈ headL c.r c.l c.k :: c.ins.map printI, (10 : UInt8) ∉ l := by
  intro l hl
  rcases List.mem_cons.1 hl with rfl | hl
  · exact head_no _ _ _
  · obtain ⟨x, hx, rfl⟩ := List.mem_map.1 hl; exact print_no (h x hx)
/-- What is printed is parsed as the same. -/
theorem parseA_print {c : Cd} (h : ∀ x ∈ c.ins, tidy x) (h1 : inB c.r) (h2 : inB c.l) (h3 : inB c.k) : parseA (printA c) = (c, 0) := by
  have hc : cutL 10 (printA c) = _ := cutL_iff (t := []) (rows_no h) (by simp) (by rw [← printA_glue, List.append_nil])
  unfold parseA
  rw [hc]
  simp only
  rw [headM_iff.2 ⟨rfl, h1, h2, h3⟩]
  simp only
  rw [parseLs_tidy h]
  rfl
theorem parsed_tidy {ls : List (List UInt8)} {xs : List Ins} (h : ls.map parseM = xs.map some) : xs.map printI = ls ∧ ∀ x ∈ xs, tidy x := by
  induction ls generalizing xs with
  | nil => cases xs with
    | nil => simp
    | cons _ _ => cases h
  | cons s ls ih => cases xs with
    | nil => cases h
    | cons x xs =>
      simp only [List.map_cons, List.cons.injEq] at h
      obtain ⟨i1, i2⟩ := ih h.2
      obtain ⟨j1, j2⟩ := parseM_iff.1 h.1
      exact ⟨by rw [List.map_cons, i1, j2], fun y hy => by
        rcases List.mem_cons.1 hy with rfl | hy
        · exact j1
        · exact i2 y hy⟩
/-- What is parsed is printed as it was, and has only what may be. -/
theorem parseA_back {s : List UInt8} {c : Cd} (h : parseA s = (c, 0)) : printA c = s ∧ (∀ x ∈ c.ins, tidy x) ∧ inB c.r ∧ inB c.l ∧ inB c.k ∧ c.ins.length ≤ s.length := by
  have hg := glue_cutL 10 s
  have hll := (cutL_len 10 s).1
  unfold parseA at h
  split at h
  · cases h
  · rename_i l0 ls t hc
    rw [hc] at hg hll
    simp only at hg hll
    split at h
    · cases h
    · rename_i r l k hm
      obtain ⟨e, i1, i2, i3⟩ := headM_iff.1 hm
      split at h
      · rename_i n hn
        exfalso
        have : ∀ (ls : List (List UInt8)) (m n : Nat), parseLs ls (m + 1) = .inl n → n ≠ 0 := by
          intro ls
          induction ls with
          | nil => intro m n h; cases h
          | cons s ls ih =>
            intro m n h
            unfold parseLs at h
            split at h
            · cases h; omega
            · split at h
              · rename_i hh; cases h; exact ih (m + 1) _ hh
              · cases h
        have := this ls 1 n hn
        injection h with _ h
        exact this h
      · rename_i xs hx
        split at h
        · rename_i ht
          cases h
          obtain ⟨j1, j2⟩ := parsed_tidy (parseLs_iff _ _ _ hx)
          refine ⟨?_, j2, i1, i2, i3, ?_⟩
          · rw [← hg, ht, ← j1, ← e]
            exact (List.append_nil _).symm.trans (printA_glue ⟨r, l, k, xs⟩ [])
          · have := congrArg List.length j1; simp at this hll ⊢; omega
        · cases h
theorem parseA_zero {s : List UInt8} (h : (parseA s).2 ≠ 0) : (parseA s).1 = zC := by
  unfold parseA at h ⊢
  split
  · rfl
  · split
    · rfl
    · split
      · rfl
      · split
        · rename_i ht
          exfalso
          apply h
          simp_all
        · rfl
/-- The first line that is none is told by its number. -/
theorem parseA_bad {c : Cd} (h : ∀ x ∈ c.ins, tidy x) (h1 : inB c.r) (h2 : inB c.l) (h3 : inB c.k) {line : List UInt8} (hl : (10 : UInt8) ∉ line) (hp : parseM line = none) (d : List UInt8) : (parseA (printA c ++ (line ++ 10 :: d))).2 = c.ins.length + 2 := by
  have hc : cutL 10 (printA c) = (headL c.r c.l c.k :: c.ins.map printI, []) := cutL_iff (rows_no h) (by simp) (by rw [← printA_glue, List.append_nil])
  have h0 := cutL_app (b := line ++ 10 :: d) hc
  rw [cutL_cons d hl] at h0
  unfold parseA
  rw [h0]
  simp only [List.cons_append]
  rw [headM_iff.2 ⟨rfl, h1, h2, h3⟩]
  simp only
  rw [parseLs_app _ _ _ _ (parse_tidy h)]
  simp only [parseLs, hp]
  simp; omega
theorem printA_app (r l k : Int) (a b : List Ins) : printA ⟨r, l, k, a ++ b⟩ = printA ⟨r, l, k, a⟩ ++ rowsL b := by simp [printA, rowsL]
end Go.Proofs.YtpodniljpinigaaDoor.C
