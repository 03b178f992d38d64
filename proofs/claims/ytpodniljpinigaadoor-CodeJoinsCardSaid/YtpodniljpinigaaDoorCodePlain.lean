/- Instructions and their lines, in plain Lean. No program in sight. -/
import Derived.Test.YtpodniljpinigaaDoorValPlain4
import Derived.Lib.Join
namespace Go.Proofs.YtpodniljpinigaaDoor.C
open O V

structure Ins where
  op : Int
  a : Int
  b : Int
  c : Int
  d : Int
  v : Val
def zV : Val := ⟨0, 0, []⟩
def zI : Ins := ⟨0, 0, 0, 0, 0, zV⟩
def names : List (List UInt8) := [[118, 97, 108, 117, 101], [109, 111, 118, 101], [117, 110, 97, 114, 121], [98, 105, 110, 97, 114, 121], [99, 101, 108, 108], [104, 97, 115], [115, 117, 109], [99, 111, 117, 110, 116], [112, 117, 116], [100, 101, 108], [106, 117, 109, 112], [102, 97, 108, 115, 101], [107, 101, 121, 115], [110, 101, 120, 116], [101, 109, 105, 116], [98, 97, 99, 107], [101, 110, 100]]
def counts : List Nat := [1, 2, 3, 4, 4, 3, 4, 3, 4, 2, 1, 2, 4, 3, 1, 0, 0]
/-- An instruction's kind: which of the 17 it is. -/
def kindI (op : Int) : Option Nat := if 1 ≤ op ∧ op ≤ 17 then some (op.toNat - 1) else none
def nameI (op : Int) : List UInt8 := match kindI op with
  | some k => names.getD k []
  | none => []
def fieldsI (op : Int) : Nat := match kindI op with
  | some k => counts.getD k 0
  | none => 0
/-- Words with a blank between each two. -/
def jn : List (List UInt8) → List UInt8
  | [] => []
  | x :: r => x ++ (r.map (32 :: ·)).flatten
theorem jn_eq : ∀ l, Lib.join l [32] = jn l
  | [] => rfl
  | x :: r => by rw [Lib.join_cons]; rfl
theorem jn_two (x y : List UInt8) (r : List (List UInt8)) : jn (x :: y :: r) = x ++ 32 :: jn (y :: r) := by simp [jn]
def fl (x : Ins) : List Int := [x.a, x.b, x.c, x.d]
def tailI (op : Int) (v : Val) : List (List UInt8) := if op = 1 then [printV v] else []
def wordsI (op : Int) (ns : List Int) (v : Val) : List (List UInt8) := nameI op :: (ns.map decL ++ tailI op v)
def printI (x : Ins) : List UInt8 := jn (wordsI x.op ((fl x).take (fieldsI x.op)) x.v)
/-- The word up to the next blank, and what is behind that. -/
def nb (c : UInt8) : Bool := decide (c.toNat ≠ 32)
def cutW (s : List UInt8) : List UInt8 := s.takeWhile nb
def cutR (s : List UInt8) : List UInt8 := (s.dropWhile nb).drop 1
theorem cut_jn {x : List UInt8} (h : x.all nb = true) : ∀ r, cutW (jn (x :: r)) = x ∧ cutR (jn (x :: r)) = jn r := by
  have h1 : ∀ (x : List UInt8) (y : List UInt8), x.all nb = true → (x ++ y).takeWhile nb = x ++ y.takeWhile nb ∧ (x ++ y).dropWhile nb = y.dropWhile nb := by
    intro x y
    induction x with
    | nil => intro _; exact ⟨rfl, rfl⟩
    | cons c x ih =>
      intro h
      simp only [List.all_cons, Bool.and_eq_true] at h
      obtain ⟨e1, e2⟩ := ih h.2
      simp [List.takeWhile_cons, List.dropWhile_cons, h.1, e1, e2]
  intro r
  unfold cutW cutR
  cases r with
  | nil =>
    have e : jn [x] = x ++ [] := by simp [jn]
    rw [e, (h1 x [] h).1, (h1 x [] h).2]
    simp [jn]
  | cons y r =>
    rw [jn_two, (h1 x _ h).1, (h1 x _ h).2]
    have hb : nb 32 = false := by decide
    simp [List.takeWhile_cons, List.dropWhile_cons, hb]
/-- A number's text as a number; 0 where it is none. -/
def num (w : List UInt8) : Int := match parseV w with
  | some v => v.n
  | none => 0
def fit (n : Int) : Prop := -9223372036854775808 ≤ n ∧ n ≤ 9223372036854775807
theorem parse_dec {n : Int} (h : fit n) : parseV (decL n) = some ⟨1, n, []⟩ := parseV_iff.2 ⟨⟨by simp [right], h.1, h.2⟩, print1⟩
theorem num_dec {n : Int} (h : fit n) : num (decL n) = n := by unfold num; rw [parse_dec h]
theorem dec_nb (n : Int) : (decL n).all nb = true := by
  have : ∀ m, (digN m).all nb = true := fun m => by
    rw [List.all_eq_true]; intro c hc
    have := digN_mem m c hc
    unfold nb; simp; omega
  unfold decL
  split
  · rw [List.all_cons, this]; decide
  · exact this _
def words : Nat → List UInt8 → List (List UInt8) × List UInt8
  | 0, r => ([], r)
  | k + 1, r => (cutW r :: (words k (cutR r)).1, (words k (cutR r)).2)
theorem words_jn (t : List (List UInt8)) : ∀ ws : List (List UInt8), (∀ w ∈ ws, w.all nb = true) → words ws.length (jn (ws ++ t)) = (ws, jn t)
  | [], _ => rfl
  | w :: ws, h => by
    have hc := cut_jn (h w (by simp)) (ws ++ t)
    have ih := words_jn t ws (fun x hx => h x (by simp [hx]))
    show (cutW (jn (w :: (ws ++ t))) :: (words ws.length (cutR (jn (w :: (ws ++ t))))).1, (words ws.length (cutR (jn (w :: (ws ++ t))))).2) = _
    rw [hc.1, hc.2, ih]
/-- Which kind has that name. -/
def opOf (w : List UInt8) : Int := match names.findIdx? (· == w) with
  | some k => k + 1
  | none => 0
def mk (op : Int) (ns : List Int) (v : Val) : Ins := ⟨op, ns.getD 0 0, ns.getD 1 0, ns.getD 2 0, ns.getD 3 0, v⟩
def okI (s : List UInt8) (x : Ins) : Option Ins := if printI x = s then some x else none
/-- How the code reads a line. -/
def parseM (s : List UInt8) : Option Ins :=
  let op := opOf (cutW s)
  if op = 0 then none
  else
    let p := words (fieldsI op) (cutR s)
    if op = 1 then (match parseV p.2 with | none => none | some v => okI s (mk op (p.1.map num) v)) else okI s (mk op (p.1.map num) zV)
/-- Has an instruction only what its kind has? -/
structure tidy (x : Ins) : Prop where
  lo : 1 ≤ x.op
  hi : x.op ≤ 17
  v0 : x.op ≠ 1 → x.v = zV
  v1 : x.op = 1 → goodV x.v
  rest : ∀ i, fieldsI x.op ≤ i → (fl x).getD i 0 = 0
  fit : ∀ n ∈ fl x, fit n
theorem op_facts {op : Int} {w : List UInt8} (h : opOf w = op) (h0 : op ≠ 0) : 1 ≤ op ∧ op ≤ 17 ∧ nameI op = w := by
  unfold opOf at h
  cases hf : names.findIdx? (· == w) with
  | none => rw [hf] at h; exact absurd h.symm h0
  | some k =>
    rw [hf] at h
    simp only at h
    rw [List.findIdx?_eq_some_iff_getElem] at hf
    obtain ⟨hk, he, _⟩ := hf
    have hk17 : k < 17 := hk
    refine ⟨by omega, by omega, ?_⟩
    have : kindI op = some k := by unfold kindI; rw [if_pos (by omega)]; congr 1; omega
    unfold nameI
    rw [this]
    simp only [List.getD_eq_getElem?_getD, List.getElem?_eq_getElem hk]
    simpa using he
theorem op_name : ∀ op : Nat, 1 ≤ op → op ≤ 17 → opOf (nameI (op : Int)) = op ∧ (nameI (op : Int)).all nb = true ∧ fieldsI (op : Int) ≤ 4 := by
  intro op h1 h2
  have : ∀ k : Fin 17, opOf (nameI ((k.val + 1 : Nat) : Int)) = ((k.val + 1 : Nat) : Int) ∧ (nameI ((k.val + 1 : Nat) : Int)).all nb = true ∧ fieldsI ((k.val + 1 : Nat) : Int) ≤ 4 := by decide +kernel
  have := this ⟨op - 1, by omega⟩
  simp only [show op - 1 + 1 = op by omega] at this
  exact this
theorem fl_mk (op : Int) (ns : List Int) (v : Val) (h : ns.length ≤ 4) : fl (mk op ns v) = ns ++ List.replicate (4 - ns.length) 0 := by
  match ns, h with
  | [], _ => rfl
  | [_], _ => rfl
  | [_, _], _ => rfl
  | [_, _, _], _ => rfl
  | [_, _, _, _], _ => rfl
theorem words_len : ∀ (k : Nat) (r : List UInt8), (words k r).1.length = k
  | 0, _ => rfl
  | k + 1, r => by simp [words, words_len k]
theorem num_fit (w : List UInt8) : fit (num w) := by
  unfold num
  cases h : parseV w with
  | none => exact ⟨by decide, by decide⟩
  | some v => exact (parseV_iff.1 h).1.2
theorem tidy_mk {op : Int} {ns : List Int} {v : Val} (h1 : 1 ≤ op) (h2 : op ≤ 17) (hl : ns.length = fieldsI op) (hf : ∀ n ∈ ns, fit n) (hv0 : op ≠ 1 → v = zV) (hv1 : op = 1 → goodV v) : tidy (mk op ns v) := by
  have h4 : fieldsI op ≤ 4 := by have := (op_name op.toNat (by omega) (by omega)).2.2; rwa [show ((op.toNat : Nat) : Int) = op by omega] at this
  have hfl := fl_mk op ns v (by omega)
  refine ⟨h1, h2, hv0, hv1, fun i hi => ?_, fun n hn => ?_⟩
  · rw [hfl]
    have hi' : ns.length ≤ i := by rw [hl]; exact hi
    rw [List.getD_eq_getElem?_getD, List.getElem?_append_right hi']
    rcases Nat.lt_or_ge (i - ns.length) (4 - ns.length) with h | h
    · rw [List.getElem?_replicate, if_pos h]; rfl
    · rw [List.getElem?_replicate, if_neg (by omega)]; rfl
  · rw [hfl, List.mem_append] at hn
    rcases hn with hn | hn
    · exact hf n hn
    · rw [List.mem_replicate] at hn; rw [hn.2]; exact ⟨by decide, by decide⟩
theorem tidy_eq {x : Ins} (h : tidy x) : mk x.op ((fl x).take (fieldsI x.op)) x.v = x := by
  have hr := h.rest
  obtain ⟨op, a, b, c, d, v⟩ := x
  unfold mk
  have e : ∀ i, i < 4 → ((fl ⟨op, a, b, c, d, v⟩).take (fieldsI op)).getD i 0 = (fl ⟨op, a, b, c, d, v⟩).getD i 0 := by
    intro i hi
    rcases Nat.lt_or_ge i (fieldsI op) with hlt | hge
    · rw [List.getD_eq_getElem?_getD, List.getElem?_take, if_pos hlt, ← List.getD_eq_getElem?_getD]
    · rw [hr i hge, List.getD_eq_getElem?_getD, List.getElem?_take, if_neg (by omega)]; rfl
  simp only [e 0 (by omega), e 1 (by omega), e 2 (by omega), e 3 (by omega)]
  rfl
theorem parseM_iff {s : List UInt8} {x : Ins} : parseM s = some x ↔ tidy x ∧ printI x = s := by
  constructor
  · intro h
    unfold parseM at h
    simp only at h
    split at h
    · cases h
    · rename_i h0
      obtain ⟨h1, h2, h3⟩ := op_facts rfl h0
      have hfit : ∀ n ∈ (words (fieldsI (opOf (cutW s))) (cutR s)).1.map num, fit n := by
        intro n hn; rw [List.mem_map] at hn; obtain ⟨w, _, rfl⟩ := hn; exact num_fit w
      split at h
      · rename_i hop
        cases hp : parseV (words (fieldsI (opOf (cutW s))) (cutR s)).2 with
        | none => rw [hp] at h; cases h
        | some v =>
          rw [hp] at h
          simp only [okI] at h
          split at h
          · rename_i hpr
            cases h
            exact ⟨tidy_mk h1 h2 (by rw [List.length_map, words_len]) hfit (fun h => absurd hop h) (fun _ => (parseV_iff.1 hp).1), hpr⟩
          · cases h
      · rename_i hop
        simp only [okI] at h
        split at h
        · rename_i hpr
          cases h
          exact ⟨tidy_mk h1 h2 (by rw [List.length_map, words_len]) hfit (fun _ => rfl) (fun h => absurd h hop), hpr⟩
        · cases h
  · rintro ⟨ht, hp⟩
    have hn := op_name x.op.toNat (by have := ht.lo; omega) (by have := ht.hi; omega)
    rw [show ((x.op.toNat : Nat) : Int) = x.op by have := ht.lo; omega] at hn
    obtain ⟨n1, n2, n3⟩ := hn
    have hcut := cut_jn n2 (((fl x).take (fieldsI x.op)).map decL ++ tailI x.op x.v)
    have hs : s = jn (nameI x.op :: (((fl x).take (fieldsI x.op)).map decL ++ tailI x.op x.v)) := hp.symm
    rw [← hs] at hcut
    have hl : (((fl x).take (fieldsI x.op)).map decL).length = fieldsI x.op := by
      rw [List.length_map, List.length_take]; have : (fl x).length = 4 := rfl; omega
    have hw := words_jn (tailI x.op x.v) (((fl x).take (fieldsI x.op)).map decL) (fun w hw => by rw [List.mem_map] at hw; obtain ⟨n, _, rfl⟩ := hw; exact dec_nb n)
    rw [hl] at hw
    have hnum : (((fl x).take (fieldsI x.op)).map decL).map num = (fl x).take (fieldsI x.op) := by
      rw [List.map_map]
      conv => rhs; rw [← List.map_id ((fl x).take (fieldsI x.op))]
      refine List.map_congr_left fun n hn => ?_
      exact num_dec (ht.fit n (List.mem_of_mem_take hn))
    have hm := tidy_eq ht
    unfold parseM
    simp only [hcut.1, hcut.2, n1, hw, hnum]
    have h0 : x.op ≠ 0 := by have := ht.lo; omega
    rw [if_neg h0]
    by_cases hop : x.op = 1
    · have htl : jn (tailI x.op x.v) = printV x.v := by unfold tailI; rw [if_pos hop]; simp [jn]
      have hpv : parseV (printV x.v) = some x.v := parseV_iff.2 ⟨ht.v1 hop, rfl⟩
      rw [if_pos hop, htl, hpv]
      simp only [okI, hm, hp, if_true]
    · rw [if_neg hop, ← ht.v0 hop]
      simp only [okI, hm, hp, if_true]
end Go.Proofs.YtpodniljpinigaaDoor.C
