/- LexerAll's walk: for every text it returns true. -/
import Derived.Test.YtpodniljpinigaaLexRefA
import Derived.Test.YtpodniljpinigaaLexLives
import Derived.Test.YtpodniljpinigaaLexSame
import Derived.Test.YtpodniljpinigaaLexAll2
import Derived.Test.YtpodniljpinigaaOpen
namespace Go.Proofs.Ytpodniljpinigaa.lexerAll
open Go.RowKit O V S X

/-- A row of a text's tokens. -/
structure CRow (s : List UInt8) (w : World) (A : Option Addr) (n : Nat) (l : List Tk) : Prop where
  rd : ∃ xs, Rd w w.heap.size 8 A n xs ∧ Reps (TkC s) l xs
theorem CRow.next {s : List UInt8} {w W : World} {A : Option Addr} {n : Nat} {l : List Tk} (h : CRow s w A n l) (b : Below w.heap.size w W) : CRow s W A n l := by
  obtain ⟨xs, h1, h2⟩ := h.rd
  exact ⟨⟨xs, h1.next b, h2⟩⟩
theorem CRow.len {s : List UInt8} {w : World} {A : Option Addr} {n : Nat} {l : List Tk} (h : CRow s w A n l) : l.length = n := by
  obtain ⟨xs, h1, h2⟩ := h.rd
  exact h1.len_of TkC.size h2 (by omega)
theorem CRow.row {s : List UInt8} {w : World} {A : Option Addr} {n : Nat} {l : List Tk} (h : CRow s w A n l) (hn : n ≤ 100000) : TRow w A n l := by
  obtain ⟨xs, h1, h2⟩ := h.rd
  exact ⟨⟨xs, h1, h2.imp (TkD.of (s := s))⟩, hn⟩
theorem CRow.at_ {s : List UInt8} {w : World} {A : Option Addr} {n : Nat} {l : List Tk} (h : CRow s w A n l) {k : Nat} (hk : k < l.length) : ∃ b off, A = some ⟨b, off, none⟩ ∧ b < w.heap.size ∧
    ∀ W, Below w.heap.size w W → W.cell? ⟨b, off + k * 8 + 5, none⟩ = some (.int .i64 (l[k].i : Int)) ∧ W.cell? ⟨b, off + k * 8 + 6, none⟩ = some (.int .i64 (lineOf s l[k].i : Int)) ∧ W.cell? ⟨b, off + k * 8 + 7, none⟩ = some (.int .i64 ((l[k].i : Int) - (startOf s l[k].i : Int) + 1)) := by
  obtain ⟨xs, h1, h2⟩ := h.rd
  obtain ⟨b, off, vs, e, hb, rfl, hc⟩ := h1.elem TkC.size h2 hk (by omega)
  refine ⟨b, off, e, hb, fun W bW => ⟨?_, ?_, ?_⟩⟩
  · exact (bW.cell (p := ⟨b, off + k * 8 + 5, none⟩) hb).trans (hc 5 (by omega))
  · exact (bW.cell (p := ⟨b, off + k * 8 + 6, none⟩) hb).trans (hc 6 (by omega))
  · exact (bW.cell (p := ⟨b, off + k * 8 + 7, none⟩) hb).trans (hc 7 (by omega))
theorem neq3 (a b c : Int) (w : World) : (binOp .neq 38 (.agg #[.int .i64 a, .int .i64 b, .int .i64 c]) (.agg #[.int .i64 a, .int .i64 b, .int .i64 c])).run Try.prog w = .ok (.bool false) w := by
  go_simp
set_option maxRecDepth 100000 in
set_option maxHeartbeats 4000000 in
theorem walk (s0 : ByteArray) (w : World) (hs : s0.size ≤ maxLen) :
    Calls Try.prog 4 #[.string s0] w fun e w' => e = .returned (.bool true) ∧ Below w.heap.size w w' := by
  obtain ⟨l0, rfl⟩ : ∃ l0 : List UInt8, s0 = ⟨l0.toArray⟩ := ⟨s0.data.toList, by cases s0; simp⟩
  have hsz : (ByteArray.mk l0.toArray).size = l0.length := by simp [ByteArray.size]
  rw [hsz] at hs
  have hl : (l0.take 1500).length ≤ 1500 := by simp; omega
  go_enter Try.func4, Try.ntmps4
  go_wp2_with fail
  refine (cut_any l0 _ hs).mono ?_; rintro e w1 ⟨rfl, rfl⟩
  generalize l0.take 1500 = s at *
  obtain ⟨L, hL⟩ : ∃ L, lexS s (s.length + 1) 0 = L := ⟨_, rfl⟩
  obtain ⟨toks, E, off⟩ := L
  have HX := Lib.hid hL
  have htl : toks.length ≤ 1500 := by
    obtain ⟨o, hu, _⟩ := LexU.of_lex s
    have := hu.len
    rw [hL, List.length_map] at this
    have h2 : toks.length ≤ s.length := this
    omega
  clear hL
  go_wp2_with fail
  by_cases h0 : E = 0
  · subst h0
    have hz : ∃ z, lexS s (s.length + 1) 0 = (toks, 0, z) := ⟨off, HX.out⟩
    have hall : Calls Try.prog 20 #[.string ⟨s.toArray⟩] w fun e w' => (∃ A n c, e = .returned (.tuple #[.slice A n c, .int .i64 0, pv 0 0 0]) ∧ CRow s w' A n toks) ∧ Below w.heap.size w w' := by
      refine (all_any s w (by omega)).mono fun e w' ⟨h, b⟩ => ⟨?_, b⟩
      unfold RetAll at h
      rw [if_neg (by omega), if_neg (by rw [HX.out]; simp), HX.out] at h
      obtain ⟨A, n, c, xs, rfl, h1, h2⟩ := h
      exact ⟨A, n, c, rfl, ⟨⟨xs, Rd.of_own h1, h2⟩⟩⟩
    have hrall : ∀ W, Calls Try.prog 21 #[.string ⟨s.toArray⟩] W fun e w' => (∃ A n c, e = .returned (.tuple #[.slice A n c, .int .i64 0, .int .i64 0]) ∧ CRow s w' A n toks) ∧ Below W.heap.size W w' := by
      intro W
      refine (rall_any s W (by omega)).mono fun e w' ⟨h, b⟩ => ⟨?_, b⟩
      unfold RetRA at h
      rw [if_neg (by rw [HX.out]; simp), HX.out] at h
      obtain ⟨A, n, c, xs, rfl, h1, h2⟩ := h
      exact ⟨A, n, c, rfl, ⟨⟨xs, Rd.of_own h1, h2⟩⟩⟩
    have HA := Lib.hid hall
    have HR := Lib.hid hrall
    clear hz hall hrall
    refine (HA.out).mono ?_; rintro e w1 ⟨⟨A, n, c, rfl, C1⟩, B1⟩
    unfold pv
    have hn := C1.len
    have HN := Lib.hid hn
    have hn2 : n ≤ 1500 := by omega
    have HC1 := Lib.hid (C1.next ((Below.refl _ _).alloc (Nat.le_refl _) (.cells #[.int .i64 0, .int .i64 0, .int .i64 0] 38)))
    clear hn C1 HA
    go_wp2_with fail
    have X1 := heap_alloc_new w1 (.cells #[.int .i64 0, .int .i64 0, .int .i64 0] 38)
    have B2 : Below w.heap.size w (w1.alloc (.cells #[.int .i64 0, .int .i64 0, .int .i64 0] 38)) := bthen B1 ((Below.refl _ _).alloc (Nat.le_refl _) _)
    refine (HR.out _).mono ?_; rintro e w3 ⟨⟨A', n', c', rfl, C2⟩, B3⟩
    have hn' : n' = n := by rw [← C2.len, ← HN.out]
    subst hn'
    have X3 := box_next X1 B3
    have C1' := HC1.out.next B3
    have BB := Lib.hid (bthen B2 B3)
    have HC2 := Lib.hid C2
    have HC3 := Lib.hid C1'
    obtain ⟨k0, k1, k2⟩ := cells3p X3
    have hlt3 : w1.heap.size < w3.heap.size := (Array.getElem?_eq_some_iff.1 X3).1
    have hsame : sameT toks toks = true := by simp [sameT]
    clear C1' C2 HC1 B1 B2 B3 X1 HR
    go_wp2_with fail
    refine (tsame_any A A' n' c n' c' toks toks _ (HC3.out.row (by omega)) (HC2.out.row (by omega))).mono ?_; rintro e w4 ⟨rfl, B4⟩
    rw [hsame]
    have X4 := box_next X3 B4
    have HC4 := Lib.hid (HC3.out.next B4)
    have HC5 := Lib.hid (HC2.out.next B4)
    have BB4 := Lib.hid (bthen BB.out B4)
    have hlt4 : w1.heap.size < w4.heap.size := (Array.getElem?_eq_some_iff.1 X4).1
    have HX4 := Lib.hid X4
    clear X3 X4 HC2 HC3 k0 k1 k2 hsame BB
    go_wp2_with fail
    go_loopw [2, 9, 36] (fun _ _ iv wr => ∃ k : Nat, k ≤ n' ∧ iv = .int .i64 k ∧ Below w4.heap.size w4 wr) (fun _ _ iv _ => n' - (intOf iv).toNat)
    case atStart => exact ⟨0, by omega, rfl, Below.refl _ _⟩
    case round =>
      obtain ⟨k, hk, rfl, hb⟩ := hrel
      by_cases hlt : k < n'
      · have hlt' : k < toks.length := by rw [HN.out]; exact hlt
        obtain ⟨b1, o1, rfl, hbl, hc⟩ := HC4.out.at_ hlt'
        obtain ⟨b2, o2, rfl, hbl2, hc2⟩ := HC5.out.at_ hlt'
        have HC := Lib.hid hc
        have HCC := Lib.hid hc2
        clear hc hc2
        have hki : (k : Int) < (n' : Int) := by omega
        generalize toks[k] = t at *
        go_wp2_with fail
        refine wp_region_sched [(0, true), (1, true), (2, true), (3, true), (4, true), (5, true), (6, true), (7, true), (8, true), (9, true), (10, true)] (by kernel_rfl) (by kernel_rfl) (fun _ _ d _ _ h => by cases d <;> exact h) ?_
        refine swith (fun W hW => (HC.out W (hb.drew.trans (hW.out.mono hb.size)))) (fun q1 => ?_)
        refine swith (fun W hW => (HCC.out W (hb.drew.trans (hW.out.mono hb.size)))) (fun q2 => ?_)
        repeat (first | (refine sreadx rfl rfl ?_; apply Exists.intro; apply And.intro; (· (intro W hW; first | (go_simp; done) | (go_simp; with_reducible rfl) | (go_simp; rw [if_neg (by omega)]; done) | (go_simp; rw [if_neg (by omega)]; with_reducible rfl))); simp only [Act.put, List.setIfInBounds_toArray, List.set_cons_zero, List.set_cons_succ]) | (refine sskip rfl rfl ?_; simp only [Act.put, List.setIfInBounds_toArray, List.set_cons_zero, List.set_cons_succ]))
        refine sdone ?_
        go_wp2_with fail
        go_roundw
        case rel => exact ⟨k + 1, by omega, by go_num, hb.drew⟩
        case measure => simp [intOf]; omega
      · obtain rfl : k = n' := by omega
        have X5 := box_next (box_next HX4.out hb) ((Below.refl _ _).alloc (Nat.le_refl _) (.cells #[.int .i64 0, .int .i64 0, .int .i64 0] 38))
        obtain ⟨k0, k1, k2⟩ := cells3p X5
        go_wp2_with fail
        refine (lives_any _).mono ?_; rintro e w7 ⟨rfl, b7⟩
        go_wp2_with fail
        go_ret
        exact ⟨rfl, bthen (bthen (bthen BB4.out hb) ((Below.refl _ _).alloc (Nat.le_refl _) _)) b7⟩
  · have hrall : ∀ W, Calls Try.prog 21 #[.string ⟨s.toArray⟩] W fun e w' => e = .returned (.tuple #[.slice none 0 0, .int .i64 E, .int .i64 (off : Nat)]) ∧ Below W.heap.size W w' := by
      intro W
      refine (rall_any s W (by omega)).mono fun e w' ⟨h, b⟩ => ⟨?_, b⟩
      unfold RetRA at h
      rw [if_pos (by rw [HX.out]; exact h0), HX.out] at h
      exact h
    have HR := Lib.hid hrall
    have HA := Lib.hid (all_err (s := s) (by omega) HX.out h0 w)
    have g0 : (E != 0) = true := by simpa using h0
    have g0' : (E == 0) = false := by simpa using h0
    clear hrall h0
    refine (HA.out).mono ?_; rintro e w1 ⟨rfl, B1⟩
    clear HA
    obtain ⟨p, hp⟩ : ∃ p, clampI s ((off : Nat) : Int) = p := ⟨_, rfl⟩
    rw [hp]
    have HP := Lib.hid hp
    clear hp
    obtain ⟨P, hP⟩ : ∃ P : Int, (lineOf s p : Int) = P := ⟨_, rfl⟩
    obtain ⟨Q, hQ⟩ : ∃ Q : Int, (p : Int) - (startOf s p : Int) + 1 = Q := ⟨_, rfl⟩
    have HPQ : Hid (plc s p = pv p P Q) := Lib.hid (by unfold plc; rw [hP, hQ])
    rw [HPQ.out]
    clear hP hQ
    unfold pv
    go_wp2_with fail
    have X1 := heap_alloc_new w1 (.cells #[.int .i64 (p : Int), .int .i64 P, .int .i64 Q] 38)
    have B2 : Below w.heap.size w (w1.alloc (.cells #[.int .i64 (p : Int), .int .i64 P, .int .i64 Q] 38)) := bthen B1 ((Below.refl _ _).alloc (Nat.le_refl _) _)
    refine (HR.out _).mono ?_; rintro e w3 ⟨rfl, B3⟩
    have X3 := box_next X1 B3
    have BB := Lib.hid (bthen B2 B3)
    clear B1 B2 B3 X1 HR
    go_wp2_with fail
    refine (tsame_any none none 0 0 0 0 [] [] _ ⟨⟨[], Rd.nil_, rfl⟩, by omega⟩ ⟨⟨[], Rd.nil_, rfl⟩, by omega⟩).mono ?_; rintro e w4 ⟨rfl, B4⟩
    rw [show sameT [] [] = true by simp [sameT]]
    have X4 := box_next X3 B4
    have BB4 := Lib.hid (bthen BB.out B4)
    have HX4 := Lib.hid X4
    clear X3 X4 BB
    go_wp2_with fail
    go_loop [2, 9, 36] (fun _ _ iv => iv = .int .i64 0) (fun _ _ iv => 0)
    case atStart => rfl
    case round =>
      subst hrel
      have X5 := box_next HX4.out ((Below.refl _ _).alloc (Nat.le_refl _) (.cells #[.int .i64 0, .int .i64 0, .int .i64 0] 38))
      go_wp2_with fail
      have Z5 := heap_alloc_new w4 (.cells #[.int .i64 0, .int .i64 0, .int .i64 0] 38)
      refine (rat_any s (off : Nat) _ (by omega)).mono ?_; rintro e w5 ⟨rfl, B5⟩
      rw [HP.out, HPQ.out]
      unfold pv
      have X6 := box_next X5 B5
      have Z6 := box_next Z5 B5
      obtain ⟨k0, k1, k2⟩ := cells3p X6
      obtain ⟨z0, z1, z2⟩ := cells3p Z6
      have y0 := Lib.frozen_of_heap Z6 0
      have y1 := Lib.frozen_of_heap Z6 1
      have y2 := Lib.frozen_of_heap Z6 2
      have hlt4 : w1.heap.size < w4.heap.size := (Array.getElem?_eq_some_iff.1 HX4.out).1
      have hne : w1.heap.size ≠ w4.heap.size := by omega
      have B6 := Lib.hid (bthen (bthen BB4.out ((Below.refl _ _).alloc (Nat.le_refl _) (.cells #[.int .i64 0, .int .i64 0, .int .i64 0] 38))) B5)
      have hw4 : w.heap.size ≤ w4.heap.size := BB4.out.size
      clear X5 X6 Z5 Z6 B5
      go_wp2_with fail
      refine (lives_any _).mono ?_; rintro e w7 ⟨rfl, b7⟩
      go_wp2_with fail
      go_ret
      refine ⟨rfl, ?_⟩
      have b6 := B6.out
      refine bthen ?_ b7
      repeat (first | (with_reducible exact Below.refl _ _) | (with_reducible assumption) | refine Below.setCell ?_ (by simp <;> omega) _ | refine Below.alloc ?_ (by simp <;> omega) _ | refine Below.drew ?_)
end Go.Proofs.Ytpodniljpinigaa.lexerAll
