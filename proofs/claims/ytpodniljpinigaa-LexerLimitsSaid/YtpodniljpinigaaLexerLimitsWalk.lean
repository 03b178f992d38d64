/- LexerLimits' walk: for every number it returns true. -/
import Derived.Test.YtpodniljpinigaaLexAll2
import Derived.Test.YtpodniljpinigaaOpen
namespace Go.Proofs.Ytpodniljpinigaa.lexerLimits
open Go.RowKit O V S X

/-- What All hands back of any text that is not too long for the walk. -/
def AllY (s : List UInt8) (A : Option Addr) (n : Nat) (er a b d : Int) (w : World) : Prop := (16384 < s.length ∧ er = 2) ∨ (s.length ≤ 16384 ∧ AllX s A n er a b d w)
theorem all_y (s : List UInt8) (w : World) (hs : s.length ≤ 20000) : Calls Try.prog 20 #[.string ⟨s.toArray⟩] w fun e w' => (∃ A n c er a b d, e = .returned (.tuple #[.slice A n c, .int .i64 er, pv a b d]) ∧ AllY s A n er a b d w' ∧ (n : Int) ≤ 16384) ∧ Below w.heap.size w w' := by
  by_cases h : s.length ≤ 16384
  · refine (all_x s w h).mono ?_
    rintro e w' ⟨⟨A, n, c, er, a, b, d, rfl, h1, h2⟩, h3⟩
    exact ⟨⟨A, n, c, er, a, b, d, rfl, .inr ⟨h, h1⟩, h2⟩, h3⟩
  · refine (all_any s w hs).mono fun e w' ⟨h1, b⟩ => ⟨?_, b⟩
    unfold RetAll at h1
    rw [if_pos (by omega)] at h1
    exact ⟨none, 0, 0, 2, _, _, _, h1, .inl ⟨by omega, rfl⟩, by omega⟩
theorem rep_succ (n : Nat) (c : UInt8) : List.replicate (n + 1) c = c :: List.replicate n c := rfl
theorem run_rep {p : UInt8 → Bool} {c : UInt8} (h : p c = true) (w : List UInt8) (hw : runLen p w = 0) : ∀ n, runLen p (List.replicate n c ++ w) = n
  | 0 => by simpa using hw
  | n + 1 => by rw [rep_succ, List.cons_append]; simp [runLen, h, run_rep h w hw n]
theorem skip_rep (c : UInt8) (h : blankC c = false) (h2 : c.toNat ≠ 35) (n : Nat) (w : List UInt8) : skip (c :: w) = c :: w := skip_stop w h h2
theorem tok_a (n : Nat) (hn : 1 ≤ n) : tokL (List.replicate n 97) = if n > 16 then ⟨2, 0, 1, 0, zeroV⟩ else ⟨0, 0, 1, n, zeroV⟩ := by
  obtain ⟨m, rfl⟩ : ∃ m, n = m + 1 := ⟨n - 1, by omega⟩
  have hr := run_rep (p := wordC) (c := 97) (by decide) [] rfl (m + 1)
  rw [List.append_nil] at hr
  rw [rep_succ] at hr ⊢
  rw [tokL_cons, if_pos (by decide), hr]
theorem lex_a (n : Nat) (hn : 1 ≤ n) : ∃ l o, LexU (List.replicate n 97) l (if n > 16 then 2 else 0) o := by
  have ht := tok_a n hn
  have hs : skip (List.replicate n 97) = List.replicate n 97 := by
    obtain ⟨m, rfl⟩ : ∃ m, n = m + 1 := ⟨n - 1, by omega⟩
    rw [rep_succ, skip_stop _ (by decide) (by decide)]
  have hne : List.replicate n (97 : UInt8) ≠ [] := by intro e; have := congrArg List.length e; simp at this; omega
  by_cases h : n > 16
  · rw [if_pos h] at ht ⊢
    have := LexU.err hs hne (by rw [ht]; decide)
    rw [ht] at this
    exact ⟨_, _, this⟩
  · rw [if_neg h] at ht ⊢
    have := LexU.tok (l := []) (e := 0) (o := 0) hs hne (by rw [ht]) (by
      rw [ht]; simp only [List.drop_replicate, Nat.sub_self]; exact .fin skip_nil)
    exact ⟨_, _, this⟩
theorem tok_s (n : Nat) : tokL (List.replicate (n + 1) 59) = ⟨0, 0, 4, 1, zeroV⟩ := by
  have hs : signL (List.replicate (n + 1) 59) = 1 := by
    match n with
    | 0 => decide
    | m + 1 => rw [rep_succ, rep_succ]; rfl
  rw [rep_succ] at hs ⊢
  rw [tokL_cons, if_neg (by decide), if_neg (by decide), if_neg (by decide), hs, if_neg (by decide)]
theorem lex_s : ∀ n, ∃ l, LexU (List.replicate n 59) l 0 0 ∧ l.length = n
  | 0 => ⟨[], .fin skip_nil, rfl⟩
  | n + 1 => by
    obtain ⟨l, h1, h2⟩ := lex_s n
    have ht := tok_s n
    have := LexU.tok (u := List.replicate (n + 1) 59) (l := l) (e := 0) (o := 0) rfl (by rw [rep_succ, skip_stop _ (by decide) (by decide)]; simp) (by rw [rep_succ, skip_stop _ (by decide) (by decide), ← rep_succ, ht]) (by
      rw [rep_succ, skip_stop _ (by decide) (by decide), ← rep_succ, ht, rep_succ]; exact h1)
    exact ⟨_, this, by simp [h2]⟩
theorem quo_rep : ∀ (m k : Nat) (b : List UInt8), quoS (List.replicate m 97 ++ [34]) k ⟨0, b, none⟩ = some ⟨k + m, b ++ List.replicate m 97, none⟩
  | 0, k, b => by
    simp only [List.replicate_zero, List.nil_append, List.append_nil, Nat.add_zero]
    rw [quoS_cons, if_pos (by decide)]
  | m + 1, k, b => by
    rw [rep_succ, List.cons_append, quoS_cons, if_neg (by decide), if_neg (by decide)]
    have : orE (none : Option Nat) (if wrongC 97 = true then some k else none) = none := by rw [if_neg (by decide)]; rfl
    rw [this, quo_rep m (k + 1) (b ++ [97])]
    simp only [List.append_assoc, List.singleton_append]
    congr 2; omega
theorem tok_q (m : Nat) : tokL (34 :: (List.replicate m 97 ++ [34])) = if m > 32 then ⟨2, 0, 3, 0, zeroV⟩ else ⟨0, 0, 3, m + 2, ⟨3, 0, List.replicate m 97⟩⟩ := by
  rw [tokL_cons, if_neg (by decide), if_neg (by decide), if_pos (by decide)]
  have hq : quoS ((34 :: (List.replicate m 97 ++ [34])).drop 1) 1 ⟨0, [], none⟩ = some ⟨1 + m, List.replicate m 97, none⟩ := by
    have := quo_rep m 1 []
    simpa using this
  rw [quoL_ok hq rfl]
  simp only [List.length_replicate]
  split
  · rfl
  · congr 1; omega
theorem lex_q (m : Nat) : ∃ l o, LexU (34 :: (List.replicate m 97 ++ [34])) l (if m > 32 then 2 else 0) o ∧ (m ≤ 32 → ∃ k x v, l = [(k, x, v)] ∧ v.s.length = m) := by
  have ht := tok_q m
  have hs : skip (34 :: (List.replicate m 97 ++ [34])) = 34 :: (List.replicate m 97 ++ [34]) := skip_stop _ (by decide) (by decide)
  by_cases h : m > 32
  · rw [if_pos h] at ht ⊢
    have := LexU.err hs (by simp) (by rw [ht]; decide)
    rw [ht] at this
    exact ⟨_, _, this, fun h' => by omega⟩
  · rw [if_neg h] at ht ⊢
    have := LexU.tok (l := []) (e := 0) (o := 0) hs (by simp) (by rw [ht]) (by
      rw [ht, List.drop_of_length_le (by simp)]; exact .fin skip_nil)
    exact ⟨_, _, this, fun _ => ⟨_, _, _, rfl, by rw [ht]; simp⟩⟩
section
variable {A : Option Addr} {n n' : Nat} {er a b d : Int} {w : World}
theorem lim_a (hn : 1 ≤ n) (h : AllY (List.replicate n 97) A n' er a b d w) : er = 0 ↔ n ≤ 16 := by
  rcases h with ⟨h1, h2⟩ | ⟨h1, l, o, h2, _⟩
  · simp at h1; omega
  · obtain ⟨l', o', h3⟩ := lex_a n hn
    obtain ⟨_, e, _⟩ := h2.det h3
    rw [e]; split <;> omega
theorem lim_s (h : AllY (List.replicate n 59) A n' er a b d w) : (er = 0 ↔ n ≤ 16384) ∧ (er = 0 → n' = n) := by
  rcases h with ⟨h1, h2⟩ | ⟨h1, l, o, h2, h4, _⟩
  · simp at h1; omega
  · obtain ⟨l', h3, h5⟩ := lex_s n
    obtain ⟨e1, e, _⟩ := h2.det h3
    simp at h1
    refine ⟨by omega, fun he => ?_⟩
    obtain ⟨_, _, _, x, x2, x3⟩ := h4 he
    have := x3.len
    rw [← e1, ← x2] at h5
    simp at h5; omega
theorem lim_q {m : Nat} (h : AllX (34 :: (List.replicate m 97 ++ [34])) A n' er a b d w) : (er = 0 ↔ m ≤ 32) ∧ (er = 0 → n' = 1 ∧ ∃ bk off y, A = some ⟨bk, off, none⟩ ∧ bk < w.heap.size ∧ w.cell? ⟨bk, off + 4, none⟩ = some (.string ⟨y⟩) ∧ y.size = m) := by
  obtain ⟨l, o, h2, h4, _⟩ := h
  obtain ⟨l', o', h3, h5⟩ := lex_q m
  obtain ⟨e1, e, _⟩ := h2.det h3
  have hiff : er = 0 ↔ m ≤ 32 := by rw [e]; split <;> omega
  refine ⟨hiff, fun he => ?_⟩
  obtain ⟨k, x, v, hl, hv⟩ := h5 (hiff.1 he)
  obtain ⟨_, _, _, y, y2, y3⟩ := h4 he
  rw [e1, hl] at y2
  obtain ⟨t, rfl⟩ : ∃ t, y = [t] := by
    cases y with
    | nil => simp at y2
    | cons t r => cases r with
      | nil => exact ⟨t, rfl⟩
      | cons _ _ => simp at y2
  have hlen := y3.len
  obtain ⟨bk, off, hA, hb, hc⟩ := y3.at_ (k := 0) (by simp)
  have hc4 := (hc w (Below.refl _ _)).2.2.2
  simp [core] at y2
  refine ⟨by simpa using hlen.symm, bk, off, t.v.s.toArray, hA, hb, by simpa using hc4, ?_⟩
  rw [List.size_toArray, y2.2.2]; exact hv
end
/-- A row of bytes that is being filled. -/
def Fill (g n k : Nat) (c : UInt8) (W : World) : Prop := ∃ cs : List Value, W.heap[g]? = some (.cells cs.toArray 5 (0, 0)) ∧ cs.length = n ∧ ∀ j, j < k → cs[j]? = some (.int .u8 c.toNat)
theorem Fill.lt {g n k : Nat} {c : UInt8} {W : World} (h : Fill g n k c W) : g < W.heap.size := by
  obtain ⟨cs, h1, _⟩ := h
  exact (Array.getElem?_eq_some_iff.1 h1).1
theorem Fill.cell {g n k : Nat} {c : UInt8} {W : World} (h : Fill g n k c W) {j : Nat} (hj : j < n) : (∃ v, W.cell? ⟨g, j, none⟩ = some v) ∧ W.frozen? ⟨g, j, none⟩ = false := by
  obtain ⟨cs, h1, h2, _⟩ := h
  exact ⟨⟨cs[j], by rw [Lib.cell_of_heap h1]; simp [h2, hj]⟩, Lib.frozen_of_heap h1 j⟩
theorem Fill.set {g n k : Nat} {c : UInt8} {W : World} (h : Fill g n k c W) (hk : k < n) : Fill g n (k + 1) c (W.setCell ⟨g, k, none⟩ (.int .u8 c.toNat)) := by
  obtain ⟨cs, h1, h2, h3⟩ := h
  refine ⟨cs.set k (.int .u8 c.toNat), ?_, by simpa using h2, fun j hj => ?_⟩
  · have := heap_set (i := k) h1 (.int .u8 c.toNat)
    simpa using this
  · rcases Nat.lt_or_ge j k with hl | hl
    · rw [List.getElem?_set_ne (by omega)]; exact h3 j hl
    · obtain rfl : j = k := by omega
      rw [List.getElem?_set_self (by omega)]
theorem Fill.start {g n k : Nat} {c c' : UInt8} {W : World} (h : Fill g n k c W) : Fill g n 0 c' W := by
  obtain ⟨cs, h1, h2, _⟩ := h
  exact ⟨cs, h1, h2, fun j hj => by omega⟩
theorem Fill.next {g n k : Nat} {c : UInt8} {W W' : World} (h : Fill g n k c W) (b : Below W.heap.size W W') : Fill g n k c W' := by
  obtain ⟨cs, h1, h2, h3⟩ := h
  exact ⟨cs, box_next h1 b, h2, h3⟩
theorem Fill.rd {g n : Nat} {c : UInt8} {W : World} (h : Fill g n n c W) : Rd W W.heap.size 1 (some ⟨g, 0, none⟩) n (bv (List.replicate n c)) := by
  have hlt := h.lt
  obtain ⟨cs, h1, h2, h3⟩ := h
  refine ⟨by simp, fun _ => ⟨g, 0, rfl, hlt, fun j hj => ?_⟩⟩
  simp at hj
  rw [Nat.zero_add, Lib.cell_of_heap h1, bv_get _ _ (by simpa using hj)]
  have := h3 j hj
  simp [this]
theorem Fill.made {w' : World} {g n : Nat} {xs : List Value} {base : Nat} (h : w'.ownsRow base 5 1 (.slice (some ⟨g, 0, none⟩) n n) n xs) : Fill g n 0 97 w' := by
  rcases h.2 with ⟨h1, _⟩ | ⟨g', cap, cur, h1, _, h3, _, _, h5, _⟩
  · cases h1
  · injection h1 with h1 _ h6
    injection h1 with h1
    injection h1 with h1
    subst h1 h6
    refine ⟨cur.toList, by simpa using h3, by simpa using h5, fun j hj => by omega⟩
theorem strq {W : World} {B n c : Nat} {A : Option Addr} {l : List UInt8} (h : Rd W B 1 A n (bv l)) : (convert 49 9 (.slice A n c)).run Try.prog W = .ok (.string ⟨l.toArray⟩) W :=
  run_str W Try.underlying49 Try.underlying5 Try.underlying9 h
theorem byteI : ∃ i z, Try.prog.info? 5 = some i ∧ i.zero = some z ∧ i.size = 1 ∧ i.bytes = 1 := by
  obtain ⟨i, hi, h1, h2, h3⟩ := info_parts (show (Try.prog.info? 5).map (fun i => (i.zero, i.size, i.bytes)) = some (some (.int .u8 0), 1, 1) by kernel_rfl)
  exact ⟨i, _, hi, h1, h2, h3⟩
theorem cell_grown {a b : World} {g bk o : Nat} (h : a.grownBy b (some g)) (hne : bk ≠ g) (hlt : bk < a.heap.size) : b.cell? ⟨bk, o, none⟩ = a.cell? ⟨bk, o, none⟩ := by
  have := h.block bk hlt (by simpa using hne)
  simp [World.cell?, this]
/-- Where the token of the text in quotes lies: not in the row of bytes. -/
def Q3 (g k : Nat) (A3 : Option Addr) (n3 : Nat) (r3 : Int) (W : World) : Prop := r3 = 0 → n3 = 1 ∧ ∃ bk off y, A3 = some ⟨bk, off, none⟩ ∧ bk ≠ g ∧ bk < W.heap.size ∧ W.cell? ⟨bk, off + 4, none⟩ = some (.string ⟨y⟩) ∧ y.size = k
theorem Q3.next {g k : Nat} {A3 : Option Addr} {n3 : Nat} {r3 : Int} {W W' : World} (h : Q3 g k A3 n3 r3 W) (b : W.grownBy W' (some g)) : Q3 g k A3 n3 r3 W' := by
  intro h0
  obtain ⟨h1, bk, off, y, h2, h3, h4, h5, h6⟩ := h h0
  exact ⟨h1, bk, off, y, h2, h3, Nat.lt_of_lt_of_le h4 b.size, (cell_grown b h3 h4).trans h5, h6⟩
theorem Fill.no {g n : Nat} {c : UInt8} {W : World} (h : Fill g n n c W) {o : Nat} {x : ByteArray} : W.cell? ⟨g, o, none⟩ ≠ some (.string x) := by
  obtain ⟨cs, h1, h2, h3⟩ := h
  rw [Lib.cell_of_heap h1]
  intro e
  rcases Nat.lt_or_ge o n with hl | hl
  · have := h3 o hl
    simp at e
    rw [e] at this; cases this
  · simp at e
    rw [List.getElem?_eq_none (by omega)] at e; cases e
set_option maxRecDepth 100000 in
set_option maxHeartbeats 4000000 in
theorem walk (n0 : Int) (w : World) (_hn : (Lit.int .i64 n0).wf = true) :
    Calls Try.prog 6 #[.int .i64 n0] w fun e w' => e = .returned (.bool true) ∧ Below w.heap.size w w' := by
  obtain ⟨n, hn⟩ : ∃ n : Nat, max 1 (min n0 16386) = (n : Int) := ⟨(max 1 (min n0 16386)).toNat, by omega⟩
  have hn1 : 1 ≤ n := by omega
  have hn2 : n ≤ 16386 := by omega
  obtain ⟨i, z, i1, i2, i3, i4⟩ := byteI
  obtain ⟨m, hm⟩ : ∃ m : Nat, min n 100 = m := ⟨_, rfl⟩
  have hm1 : min (n : Int) 100 = (m : Int) := by omega
  have hmn : (m : Int) ≤ (n : Int) := by omega
  have hm2 : (List.replicate n (97 : UInt8)).take m = List.replicate m 97 := by rw [List.take_replicate]; congr 1; omega
  have HM := Lib.hid hm
  clear hm
  go_enter Try.func6, Try.ntmps6
  go_wp2_with (at_make; refine wpList_make_full _ rfl (.tmp 18) (.tmp 18) 49 rfl w.heap.size 5 i z 1 Try.underlying49 i1 i2 i3 .i64 .i64 n n n rfl rfl rfl rfl (by rw [i4]; omega) (by unfold maxLen; omega) (Nat.le_refl _) ?_; intro w1 o1 g1)
  have F1 := Fill.made o1
  have B1 : Below w.heap.size w w1 := ⟨g1.os, g1.tape, g1.output, g1.size, fun i hi => g1.block i hi (by simp)⟩
  have HE := Lib.hid hn
  clear o1 g1 i1 i2 i3 i4 hn
  go_loopw [22] (fun v wr => ∃ k : Nat, k ≤ n ∧ v = .int .i64 k ∧ Fill w.heap.size n k 97 wr ∧ Below w.heap.size w wr) (fun v _ => n - (intOf v).toNat)
  case atStart => exact ⟨0, by omega, rfl, F1, B1⟩
  case round =>
    obtain ⟨k, hk, rfl, F, hb⟩ := hrel
    clear F1 B1
    by_cases hlt : k < n
    · obtain ⟨⟨v, hc⟩, hf⟩ := F.cell hlt
      have hki : (k : Int) < (n : Int) := by omega
      go_wp2_with fail
      go_roundw
      case rel => exact ⟨k + 1, by omega, by go_num, F.set hlt, hb.setCell (Nat.le_refl _) _⟩
      case measure => simp [intOf]; omega
    · obtain rfl : k = n := by omega
      have q1 := strq (c := k) F.rd
      have HF := Lib.hid F
      clear F hlt
      go_wp2_with fail
      refine (all_y (List.replicate k 97) _ (by simp; omega)).mono ?_; rintro e w2 ⟨⟨A2, n2, c2, r2, p2, q2, d2, rfl, X2, N2⟩, B2⟩
      unfold pv
      have HL2 := Lib.hid (lim_a hn1 X2)
      have HF2 := Lib.hid (HF.out.next (bthen B2 ((Below.refl _ _).alloc (Nat.le_refl _) (.cells #[.int .i64 p2, .int .i64 q2, .int .i64 d2] 38))))
      have HB2 := Lib.hid (hb.trans ((bthen B2 ((Below.refl _ _).alloc (Nat.le_refl _) (.cells #[.int .i64 p2, .int .i64 q2, .int .i64 d2] 38))).mono hb.size))
      clear X2 B2 q1
      have r1 := HF2.out.rd.take_ m
      rw [hm2, show min k m = m by omega] at r1
      have q2 := strq (c := k) r1
      clear r1
      go_wp2_with fail
      have hcat : ByteArray.mk #[34] ++ ByteArray.mk (Array.replicate m 97) ++ ByteArray.mk #[34] = ⟨(34 :: (List.replicate m 97 ++ [34])).toArray⟩ := by
        have h0 : Array.replicate m (97 : UInt8) = (List.replicate m 97).toArray := by simp
        rw [h0]
        have h1 : ByteArray.mk #[34] = ⟨([34] : List UInt8).toArray⟩ := rfl
        rw [h1, ba_append, ba_append]; rfl
      rw [hcat]
      clear hcat q2
      refine (all_x (34 :: (List.replicate m 97 ++ [34])) _ (by simp; have := HM.out; omega)).mono ?_; rintro e w3 ⟨⟨A3, n3, c3, r3, p3, q3, d3, rfl, X3, N3⟩, B3⟩
      have HL3 := Lib.hid (lim_q X3)
      have HF3 := Lib.hid (HF2.out.next (bthen B3 ((Below.refl _ _).alloc (Nat.le_refl _) (.cells #[.int .i64 p3, .int .i64 q3, .int .i64 d3] 38))))
      have HB3 := Lib.hid (bthen HB2.out (bthen B3 ((Below.refl _ _).alloc (Nat.le_refl _) (.cells #[.int .i64 p3, .int .i64 q3, .int .i64 d3] 38))))
      have hlt3 : w.heap.size < w3.heap.size := by have h1 := HF2.out.lt; have h2 := B3.size; simp only [World.size_alloc] at h1 h2; omega
      have hq3 : Q3 w.heap.size m A3 n3 r3 w3 := by
        intro h0
        obtain ⟨h1, bk, off, y, h2, h3, h4, h5⟩ := (lim_q X3).2 h0
        refine ⟨h1, bk, off, y, h2, ?_, h3, h4, h5⟩
        rintro rfl
        exact (HF2.out.next B3).no h4
      have HQ3 := Lib.hid (hq3.next (gb_below ((Below.refl _ _).alloc (Nat.le_refl _) (.cells #[.int .i64 p3, .int .i64 q3, .int .i64 d3] 38)) _))
      unfold pv
      replace HL3 := Lib.hid HL3.out.1
      clear X3 B3 HF HF2 HB2 hq3
      go_wp2_with fail
      generalize (w3.alloc (.cells #[.int .i64 p3, .int .i64 q3, .int .i64 d3] 38)) = W3 at *
      have F3 := HF3.out.start (c' := 59)
      have HG0 := Lib.hid (gb_below (Below.refl W3.heap.size W3) (some w.heap.size))
      go_loopw [50] (fun v wr => ∃ j : Nat, j ≤ k ∧ v = .int .i64 j ∧ Fill w.heap.size k j 59 wr ∧ W3.grownBy wr (some w.heap.size)) (fun v _ => k - (intOf v).toNat)
      case atStart => exact ⟨0, by omega, rfl, F3, HG0.out⟩
      case round =>
        obtain ⟨j, hj, rfl, F, hg⟩ := hrel
        clear F3 HG0
        by_cases hlt : j < k
        · obtain ⟨⟨v, hc⟩, hf⟩ := F.cell hlt
          have hki : (j : Int) < (k : Int) := by omega
          go_wp2_with fail
          go_roundw
          case rel => exact ⟨j + 1, by omega, by go_num, F.set hlt, gb_trans hg (gb_set _ _ _ _)⟩
          case measure => simp [intOf]; omega
        · obtain rfl : j = k := by omega
          have qq := strq (c := j) F.rd
          have HQ4 := Lib.hid (HQ3.out.next hg)
          clear F hlt
          go_wp2_with fail
          refine (all_y (List.replicate j 59) _ (by simp; omega)).mono ?_; rintro e w5 ⟨⟨A4, n4, c4, r4, p4, q4, d4, rfl, X4, N4⟩, B4⟩
          unfold pv
          have HL4 := Lib.hid (lim_s X4)
          have HQ5 := Lib.hid (HQ4.out.next (gb_below (bthen B4 ((Below.refl _ _).alloc (Nat.le_refl _) (.cells #[.int .i64 p4, .int .i64 q4, .int .i64 d4] 38))) _))
          have HB4 := below_gb HB3.out hg (Nat.le_refl _)
          have HB5 := Lib.hid (bthen HB4 (bthen B4 ((Below.refl _ _).alloc (Nat.le_refl _) (.cells #[.int .i64 p4, .int .i64 q4, .int .i64 d4] 38))))
          clear X4 HB4 hg qq
          have hY : ∀ {x : Int}, x = 0 → (x == 0) = true := fun h => by simp [h]
          have hN : ∀ {x : Int}, x ≠ 0 → (x == 0) = false := fun h => by simp [h]
          by_cases c3 : j ≤ 16384
          · have e8 : (n4 : Int) = (j : Int) := by rw [HL4.out.2 (HL4.out.1.2 c3)]
            have e5 := hY (HL4.out.1.2 c3)
            have e7 : (r4 != 0) = false := by simp [HL4.out.1.2 c3]
            by_cases c2 : j ≤ 32
            · have hmj : m = j := by have := HM.out; omega
              have e3 := hY (HL3.out.2 (by omega))
              obtain ⟨rfl, bk, off, y, rfl, hne, hlt, hcell, hy⟩ := HQ5.out (HL3.out.2 (by omega))
              have hy2 : (y.size : Int) = (j : Int) := by omega
              have hy3 : y.size = j := by omega
              have hmj' := Lib.hid hmj
              clear hmj hy
              by_cases c1 : j ≤ 16
              · have e1 := hY (HL2.out.2 c1)
                have e2 : decide ((j : Int) ≤ 16) = true := by simp; omega
                have e4 : decide ((j : Int) ≤ 32) = true := by simp; omega
                have e6 : decide ((j : Int) ≤ 16384) = true := by simp; omega
                have e2' : decide (j ≤ 16) = true := by simp; omega
                have e4' : decide (j ≤ 32) = true := by simp; omega
                have e6' : decide (j ≤ 16384) = true := by simp; omega
                clear hn1 hn2 hm1 hmn hm2
                go_wp2_with fail
                refine (lives_any _).mono ?_; rintro e w6 ⟨rfl, B6⟩
                go_wp2_with fail
                go_ret
                exact ⟨rfl, bthen HB5.out B6⟩
              · have e1 := hN (fun h => c1 (HL2.out.1 h))
                have e2 : decide ((j : Int) ≤ 16) = false := by simp; omega
                have e4 : decide ((j : Int) ≤ 32) = true := by simp; omega
                have e6 : decide ((j : Int) ≤ 16384) = true := by simp; omega
                have e2' : decide (j ≤ 16) = false := by simp; omega
                have e4' : decide (j ≤ 32) = true := by simp; omega
                have e6' : decide (j ≤ 16384) = true := by simp; omega
                clear hn1 hn2 hm1 hmn hm2
                go_wp2_with fail
                refine (lives_any _).mono ?_; rintro e w6 ⟨rfl, B6⟩
                go_wp2_with fail
                go_ret
                exact ⟨rfl, bthen HB5.out B6⟩
            · have e3 := hN (fun h => by have := HL3.out.1 h; have := HM.out; omega)
              have e1 := hN (fun h => by have := HL2.out.1 h; omega)
              have e2 : decide ((j : Int) ≤ 16) = false := by simp; omega
              have e4 : decide ((j : Int) ≤ 32) = false := by simp; omega
              have e6 : decide ((j : Int) ≤ 16384) = true := by simp; omega
              have e2' : decide (j ≤ 16) = false := by simp; omega
              have e4' : decide (j ≤ 32) = false := by simp; omega
              have e6' : decide (j ≤ 16384) = true := by simp; omega
              clear hn1 hn2 hm1 hmn hm2
              go_wp2_with fail
              refine (lives_any _).mono ?_; rintro e w6 ⟨rfl, B6⟩
              go_wp2_with fail
              go_ret
              exact ⟨rfl, bthen HB5.out B6⟩
          · have e5 := hN (fun h => c3 (HL4.out.1.1 h))
            have e7 : (r4 != 0) = true := by simp; exact fun h => c3 (HL4.out.1.1 h)
            have e3 := hN (fun h => by have := HL3.out.1 h; have := HM.out; omega)
            have e1 := hN (fun h => by have := HL2.out.1 h; omega)
            have e2 : decide ((j : Int) ≤ 16) = false := by simp; omega
            have e4 : decide ((j : Int) ≤ 32) = false := by simp; omega
            have e6 : decide ((j : Int) ≤ 16384) = false := by simp; omega
            have e2' : decide (j ≤ 16) = false := by simp; omega
            have e4' : decide (j ≤ 32) = false := by simp; omega
            have e6' : decide (j ≤ 16384) = false := by simp; omega
            clear hn1 hn2 hm1 hmn hm2
            go_wp2_with fail
            refine (lives_any _).mono ?_; rintro e w6 ⟨rfl, B6⟩
            go_wp2_with fail
            go_ret
            exact ⟨rfl, bthen HB5.out B6⟩
end Go.Proofs.Ytpodniljpinigaa.lexerLimits
