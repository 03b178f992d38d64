/- LexerBack's walk: for every text it returns true. -/
import Derived.Test.YtpodniljpinigaaLexPrint
import Derived.Test.YtpodniljpinigaaOpen
namespace Go.Proofs.Ytpodniljpinigaa.lexerBack
open Go.RowKit O V S X

theorem back_plain {s : List UInt8} {A' : Option Addr} {n' : Nat} {er a' b' d' : Int} {l' : List Tk} {w' : World} {o : Nat} (h : LexU s (l'.map core) 0 o)
    (k : AllX (joinB (texts l')) A' n' er a' b' d' w') : er = 0 ∧ ∃ l2, TRow w' A' n' l2 ∧ sameT l' l2 = true := by
  have ht : texts l' = (l'.map core).map (·.2.1) := by unfold texts; rw [List.map_map]; rfl
  rw [ht] at k
  obtain ⟨l, o', k1, k2, _⟩ := k
  obtain ⟨e1, e2, _⟩ := k1.det (h.print rfl)
  obtain ⟨_, _, _, l2, z2, z3⟩ := k2 e2
  exact ⟨e2, l2, z3, by rw [sameT_iff, z2, e1]⟩
theorem texts_len {s : List UInt8} {l' : List Tk} {e : Int} {o : Nat} (h : LexU s (l'.map core) e o) : (joinB (texts l')).length ≤ 2 * s.length := by
  have ht : texts l' = (l'.map core).map (·.2.1) := by unfold texts; rw [List.map_map]; rfl
  rw [ht]; exact h.plen
theorem join_step {l : List Tk} {k : Nat} (h : k < l.length) : joinB (texts (l.take (k + 1))) = if k = 0 then l[k].text else joinB (texts (l.take k)) ++ 32 :: l[k].text := by
  rw [texts_take h, joinB_snoc]
  have he : (texts (l.take k) = []) ↔ k = 0 := by
    constructor
    · intro e; have := congrArg List.length e; unfold texts at this; rw [List.length_map, List.length_take, List.length_nil] at this; omega
    · intro e; subst e; simp [texts]
  by_cases h0 : k = 0
  · rw [if_pos (he.2 h0), if_pos h0]
  · rw [if_neg (fun e => h0 (he.1 e)), if_neg h0]
theorem join_part {l : List Tk} (k : Nat) : (joinB (texts (l.take k))).length ≤ (joinB (texts l)).length := by
  have : ∀ (a b : List (List UInt8)), (joinB a).length ≤ (joinB (a ++ b)).length := by
    intro a b
    induction a with
    | nil => simp [joinB]
    | cons x r ih =>
      cases r with
      | nil =>
        cases b with
        | nil => simp [joinB]
        | cons y b => simp [joinB]
      | cons y r =>
        have e : joinB (x :: y :: r ++ b) = x ++ 32 :: joinB (y :: r ++ b) := rfl
        have e2 : joinB (x :: y :: r) = x ++ 32 :: joinB (y :: r) := rfl
        rw [e, e2]
        simp
        simpa using ih
  have h1 := this (texts (l.take k)) (texts (l.drop k))
  have h2 : texts (l.take k) ++ texts (l.drop k) = texts l := by unfold texts; rw [← List.map_append, List.take_append_drop]
  rwa [h2] at h1
set_option maxRecDepth 100000 in
set_option maxHeartbeats 2000000 in
theorem walk (s0 : ByteArray) (w : World) (hs : s0.size ≤ maxLen) :
    Calls Try.prog 8 #[.string s0] w fun e w' => e = .returned (.bool true) ∧ Below w.heap.size w w' := by
  obtain ⟨l0, rfl⟩ : ∃ l0 : List UInt8, s0 = ⟨l0.toArray⟩ := ⟨s0.data.toList, by cases s0; simp⟩
  have hsz : (ByteArray.mk l0.toArray).size = l0.length := by simp [ByteArray.size]
  rw [hsz] at hs
  have hl : (l0.take 1500).length ≤ 1500 := by simp; omega
  go_enter Try.func8, Try.ntmps8
  go_wp2_with fail
  refine (cut_any l0 _ hs).mono ?_; rintro e w1 ⟨rfl, rfl⟩
  generalize l0.take 1500 = s at *
  go_wp2_with fail
  refine (all_x s _ (by omega)).mono ?_; rintro e w1 ⟨⟨A1, n1, c1, r1, p1, q1, d1, rfl, X1, N1⟩, B1⟩
  unfold pv
  by_cases h0 : r1 = 0
  · subst h0
    obtain ⟨cl, o, hU, hx, _⟩ := X1
    obtain ⟨rfl, rfl, rfl, l, rfl, T1⟩ := hx rfl
    have hlen := texts_len hU
    have HU := Lib.hid hU
    have HT := Lib.hid T1
    have HN := Lib.hid (Nat.le_trans hlen (show 2 * s.length ≤ 3000 by omega))
    have hn1 := T1.len
    have HL := Lib.hid hn1
    have hn2 : n1 ≤ 16384 := by omega
    clear hU T1 hlen hx hn1
    go_wp2_with fail
    have B2 : Below w.heap.size w (w1.alloc (.cells #[.int .i64 0, .int .i64 0, .int .i64 0] 38)) := bthen B1 ((Below.refl _ _).alloc (Nat.le_refl _) _)
    have HT2 := Lib.hid (HT.out.next ((Below.refl _ _).alloc (Nat.le_refl _) (.cells #[.int .i64 0, .int .i64 0, .int .i64 0] 38)))
    clear HT
    generalize (w1.alloc (.cells #[.int .i64 0, .int .i64 0, .int .i64 0] 38)) = w2 at *
    go_loopw [6, 30] (fun v i wr => ∃ k : Nat, k ≤ n1 ∧ i = .int .i64 k ∧ v = .string ⟨(joinB (texts (l.take k))).toArray⟩ ∧ Below w2.heap.size w2 wr) (fun _ i _ => n1 - (intOf i).toNat)
    case atStart => exact ⟨0, by omega, rfl, by simp [texts, joinB], Below.refl _ _⟩
    case round =>
      obtain ⟨k, hk, rfl, rfl, hb⟩ := hrel
      by_cases hlt : k < n1
      · have hlt' : k < l.length := by rw [HL.out]; exact hlt
        obtain ⟨b1, off, p, q, r, rfl, hbl, hc⟩ := HT2.out.at8 hlt'
        have hst := join_step hlt'
        have hp1 := join_part (l := l) k
        have hp2 := join_part (l := l) (k + 1)
        have := HN.out
        obtain ⟨⟨⟨x0, x1⟩, x2, x3, x4⟩, x5, x6, x7⟩ := hc wr hb
        clear hc
        have hki : (k : Int) < (n1 : Int) := by omega
        have hbs := hb.size
        generalize l[k] = t at *
        have hba : ∀ a b : List UInt8, ByteArray.mk a.toArray ++ ByteArray.mk b.toArray = ⟨(a ++ b).toArray⟩ := ba_append
        by_cases hk0 : k = 0
        · rw [if_pos hk0] at hst
          have hq : t.text.length ≤ 3000 := by rw [← hst]; omega
          have HST := Lib.hid hst
          have he : joinB (texts (l.take k)) = [] := by subst hk0; simp [texts, joinB]
          have HE := Lib.hid he
          have d1 : decide ((k : Int) > 0) = false := by simp; omega
          have d2 : decide (0 < k) = false := by simp; omega
          rw [he]
          clear hst he hp1 hp2 hk0
          go_wp2_with fail
          go_roundw
          case rel => exact ⟨k + 1, by omega, by go_num, by rw [HST.out], hb.alloc hbs _⟩
          case measure => simp [intOf]; omega
        · rw [if_neg hk0] at hst
          have hq : (joinB (texts (l.take k))).length + 1 + t.text.length ≤ 3001 := by rw [hst] at hp2; simp at hp2; omega
          have HST := Lib.hid hst
          have d1 : decide ((k : Int) > 0) = true := by simp; omega
          have d2 : decide (0 < k) = true := by simp; omega
          clear hst hp2
          go_wp2_with fail
          go_roundw
          case rel => exact ⟨k + 1, by omega, by go_num, by rw [HST.out], hb.alloc hbs _⟩
          case measure => simp [intOf]; omega
      · obtain rfl : k = n1 := by omega
        have hlk : l.take k = l := List.take_of_length_le (by rw [HL.out]; omega)
        rw [hlk]
        clear hlk
        go_wp2_with fail
        refine (lprint_any A1 k c1 l _ (HT2.out.next hb) (by have := HN.out; omega)).mono ?_; rintro e w4 ⟨rfl, b4⟩
        have hj := HN.out
        obtain ⟨S, hS⟩ : ∃ S, joinB (texts l) = S := ⟨_, rfl⟩
        rw [hS] at hj
        rw [hS]
        have HS := Lib.hid hS
        clear hS
        go_wp2_with fail
        refine (all_x S _ (by omega)).mono ?_; rintro e w5 ⟨⟨A5, n5, c5, r5, p5, q5, d5, rfl, X5, N5⟩, b5⟩
        rw [← HS.out] at X5
        obtain ⟨rfl, l2, T5, hsame⟩ := back_plain HU.out X5
        have HT5 := Lib.hid T5
        have D5 : Below w2.heap.size w2 w5 := (hb.trans (b4.mono hb.size)).trans (b5.mono (Nat.le_trans hb.size b4.size))
        have D6 := Lib.hid (D5.alloc D5.size (.cells #[.int .i64 p5, .int .i64 q5, .int .i64 d5] 38))
        have D7 := Lib.hid ((Below.refl w5.heap.size w5).alloc (Nat.le_refl _) (.cells #[.int .i64 p5, .int .i64 q5, .int .i64 d5] 38))
        unfold pv
        clear X5 T5
        go_wp2_with fail
        refine (tsame_any A1 A5 k c1 n5 c5 l l2 _ (HT2.out.next D6.out) (HT5.out.next D7.out)).mono ?_; rintro e w6 ⟨rfl, b6⟩
        rw [hsame]
        go_wp2_with fail
        refine (lives_any _).mono ?_; rintro e w7 ⟨rfl, b7⟩
        go_wp2_with fail
        go_ret
        exact ⟨rfl, bthen (bthen (bthen B2 D6.out) b6) b7⟩
  · obtain ⟨cl, o, hU, _, hx⟩ := X1
    obtain ⟨rfl, _, _⟩ := hx h0
    have g1 : (r1 != 0) = true := by simpa using h0
    have g2 : (r1 == 0) = false := by simpa using h0
    clear hU hx
    go_wp2_with fail
    refine (lives_any _).mono ?_; rintro e w2 ⟨rfl, B2⟩
    go_wp2_with fail
    go_ret
    exact ⟨rfl, bthen (bthen B1 ((Below.refl _ _).alloc (Nat.le_refl _) _)) B2⟩
end Go.Proofs.Ytpodniljpinigaa.lexerBack
