/- The contract of the lexer's All. -/
import Derived.Test.YtpodniljpinigaaLexAllP
namespace Go.Proofs.Ytpodniljpinigaa.X
open Go.RowKit O V S

theorem skip_at {s : List UInt8} {i : Nat} (h : i ≤ s.length) : skip (s.drop i) = s.drop (s.length - (skip (s.drop i)).length) ∧ i ≤ s.length - (skip (s.drop i)).length ∧ s.length - (skip (s.drop i)).length ≤ s.length := by
  obtain ⟨k, hk, e⟩ := skip_suffix _ (s.drop i) (Nat.le_refl _)
  rw [List.length_drop] at hk
  have hj : s.length - (skip (s.drop i)).length = i + k := by rw [e]; simp; omega
  rw [hj]
  exact ⟨by rw [e, List.drop_drop], by omega, by omega⟩
section
variable {s : List UInt8} {i j f : Nat}
theorem lex_end (hj : s.length - (skip (s.drop i)).length = s.length) : lexS s (f + 1) i = ([], 0, 0) := by
  rcases Nat.eq_zero_or_pos (skip (s.drop i)).length with h | h
  · unfold lexS; simp only [h, if_true]
  · have hs : s.length = 0 := by omega
    have : (skip (s.drop i)).length = 0 := by
      have := skip_len _ (s.drop i) (Nat.le_refl _)
      simp at this; omega
    omega
theorem lex_err (hi : i ≤ s.length) (hj : s.length - (skip (s.drop i)).length = j) (hlt : j < s.length) (he : (tokL (s.drop j)).e ≠ 0) : lexS s (f + 1) i = ([], (tokL (s.drop j)).e, j + (tokL (s.drop j)).off) := by
  have h1 := (skip_at hi).1
  have h0 : (skip (s.drop i)).length ≠ 0 := by omega
  rw [hj] at h1
  unfold lexS
  simp only [h0, if_false, hj]
  rw [h1, if_pos he]
theorem lex_ok (hi : i ≤ s.length) (hj : s.length - (skip (s.drop i)).length = j) (hlt : j < s.length) (he : (tokL (s.drop j)).e = 0) : lexS s (f + 1) i = (⟨(tokL (s.drop j)).k, (s.drop j).take (tokL (s.drop j)).n, (tokL (s.drop j)).v, j⟩ :: (lexS s f (j + (tokL (s.drop j)).n)).1, (lexS s f (j + (tokL (s.drop j)).n)).2) := by
  have h1 := (skip_at hi).1
  have h0 : (skip (s.drop i)).length ≠ 0 := by omega
  rw [hj] at h1
  conv => lhs; unfold lexS
  simp only [h0, if_false, hj]
  rw [h1, if_neg (by simp [he])]
end
theorem own_keepL {w w' : World} {base e size n g : Nat} {v : Value} {xs : List Value} (h : w.ownsRow base e size v n xs) (hg : w.grownBy w' (some g)) (hb : g < base) : w'.ownsRow base e size v n xs :=
  h.kept hg (.inr (fun e => by have := (h.lt _ e).1; omega))
theorem gb_ownL {a b c : World} {row r2 : Option Nat} (h : a.grownBy b row) (k : b.grownBy c r2) (hr : ∀ j, r2 = some j → a.heap.size ≤ j) : a.grownBy c row :=
  ⟨k.os.trans h.os, k.tape.trans h.tape, k.output.trans h.output, Nat.le_trans h.size k.size, fun i hi hne => (k.block i (Nat.lt_of_lt_of_le hi h.size) (fun e => by have := hr i e.symm; omega)).trans (h.block i hi hne)⟩
/-- What a growing of a block of the call's own does to all that was there before. -/
theorem below_gb {w a b : World} {g : Nat} (h : Below w.heap.size w a) (k : a.grownBy b (some g)) (hg : w.heap.size ≤ g) : Below w.heap.size w b :=
  ⟨k.os.trans h.os, k.tape.trans h.tape, k.output.trans h.output, Nat.le_trans h.size k.size, fun i hi => (k.block i (Nat.lt_of_lt_of_le hi h.size) (fun e => by injection e with e; omega)).trans (h.block i hi)⟩
theorem own_setL {w : World} {base e size n b j : Nat} {v : Value} {xs : List Value} (h : w.ownsRow base e size v n xs) (u : Value) (hb : b < base) : (w.setCell ⟨b, j, none⟩ u).ownsRow base e size v n xs :=
  own_keepL h (gb_set w b j u) hb
/-- What All hands back. -/
def RetAll (s : List UInt8) (b : Nat) (e : Ending) (w' : World) : Prop :=
  if s.length > 16384 then e = .returned (.tuple #[.slice none 0 0, .int .i64 2, plc s 0])
  else if (lexS s (s.length + 1) 0).2.1 ≠ 0 then e = .returned (.tuple #[.slice none 0 0, .int .i64 (lexS s (s.length + 1) 0).2.1, plc s (clampI s ((lexS s (s.length + 1) 0).2.2 : Nat))])
  else ∃ A n c xs, e = .returned (.tuple #[.slice A n c, .int .i64 0, pv 0 0 0]) ∧ w'.ownsRow b 45 8 (.slice A n c) n xs ∧ Reps (TkC s) (lexS s (s.length + 1) 0).1 xs
set_option maxHeartbeats 2000000 in
set_option maxRecDepth 100000 in
theorem all_any (s : List UInt8) (w : World) (hs : s.length ≤ 20000) : Calls Try.prog 20 #[.string ⟨s.toArray⟩] w fun e w' => RetAll s (w.heap.size + 2) e w' ∧ Below w.heap.size w w' := by
  have hsz : (ByteArray.mk s.toArray).size = s.length := by simp [ByteArray.size]
  go_enter Try.func20, Try.ntmps20
  by_cases hbig : s.length > 16384
  · have g1 : decide ((s.length : Int) > 16384) = true := by simp; omega
    have g1' : decide (16384 < (s.length : Int)) = true := by simp; omega
    have HB := Lib.hid hbig
    clear hbig
    go_wp2_with fail
    refine (at_any s 0 _ hs).mono ?_; rintro e w1 ⟨rfl, b1⟩
    have X0 := box_next (heap_alloc_new w (.cells #[.int .i64 0, .int .i64 0, .int .i64 0] 38)) b1
    have B1 := bthen ((Below.refl _ _).alloc (Nat.le_refl _) _) b1
    have c0 : w1.cell? ⟨w.heap.size, 0, none⟩ = some (.int .i64 0) := by rw [Lib.cell_of_heap X0]; rfl
    have c1 : w1.cell? ⟨w.heap.size, 1, none⟩ = some (.int .i64 0) := by rw [Lib.cell_of_heap X0]; rfl
    have c2 : w1.cell? ⟨w.heap.size, 2, none⟩ = some (.int .i64 0) := by rw [Lib.cell_of_heap X0]; rfl
    have f0 := Lib.frozen_of_heap X0 0
    have f1 := Lib.frozen_of_heap X0 1
    have f2 := Lib.frozen_of_heap X0 2
    have hcl : clampI s 0 = 0 := by unfold clampI; rw [if_neg (by omega), if_neg (by omega)]; rfl
    rw [hcl]
    unfold plc pv
    go_wp2_with fail
    refine bodyPost_ret (v := .tuple #[.slice none 0 0, .int .i64 2, plc s 0]) (by simp [results, Try.results20, go_sem, plc, pv, c0, c1, c2]) rfl ?_
    refine ⟨?_, ?_⟩
    · unfold RetAll; rw [if_pos HB.out]
    · repeat (first | (with_reducible exact Below.refl _ _) | (with_reducible assumption) | refine Below.setCell ?_ (by simp <;> omega) _ | refine Below.alloc ?_ (by simp <;> omega) _ | refine Below.drew ?_)
  · have g1 : decide ((s.length : Int) > 16384) = false := by simp; omega
    have g1' : decide (16384 < (s.length : Int)) = false := by simp; omega
    have HB := Lib.hid hbig
    clear hbig
    go_wp2_with fail
    have X0 : (((w.alloc (.cells #[.int .i64 0, .int .i64 0, .int .i64 0] 38)).alloc (.cells #[.int .i64 0, .int .i64 1, .int .i64 0, .string ⟨s.toArray⟩] 69))).heap[w.heap.size]? = some (.cells #[.int .i64 0, .int .i64 0, .int .i64 0] 38 (0, 0)) := box_next (heap_alloc_new w (.cells #[.int .i64 0, .int .i64 0, .int .i64 0] 38)) ((Below.refl _ _).alloc (Nat.le_refl _) _)
    have L0 : Lx (((w.alloc (.cells #[.int .i64 0, .int .i64 0, .int .i64 0] 38)).alloc (.cells #[.int .i64 0, .int .i64 1, .int .i64 0, .string ⟨s.toArray⟩] 69))) (w.heap.size + 1) s 0 := ⟨by
      have := heap_alloc_new (w.alloc (.cells #[.int .i64 0, .int .i64 0, .int .i64 0] 38)) (.cells #[.int .i64 0, .int .i64 1, .int .i64 0, .string ⟨s.toArray⟩] 69)
      simpa [lineOf, startOf] using this, by omega, hs⟩
    have B0 : Below w.heap.size w (((w.alloc (.cells #[.int .i64 0, .int .i64 0, .int .i64 0] 38)).alloc (.cells #[.int .i64 0, .int .i64 1, .int .i64 0, .string ⟨s.toArray⟩] 69))) := ((Below.refl _ _).alloc (Nat.le_refl _) _).alloc (by simp) _
    go_loopw [2, 3] (fun row _ wr => ∃ (i f n c : Nat) (pre : List Tk) (A : Option Addr) (xs : List Value), row = .slice A n c ∧ Hid (lexS s (s.length + 1) 0 = (pre ++ (lexS s f i).1, (lexS s f i).2)) ∧ s.length + 1 ≤ f + i ∧ pre.length ≤ i ∧ n = pre.length ∧ Lx wr (w.heap.size + 1) s i ∧ wr.heap[w.heap.size]? = some (.cells #[.int .i64 0, .int .i64 0, .int .i64 0] 38 (0, 0)) ∧ wr.ownsRow (w.heap.size + 2) 45 8 (.slice A n c) n xs ∧ Hid (Reps (TkC s) pre xs) ∧ Below w.heap.size w wr) (fun _ _ wr => s.length - offW wr (w.heap.size + 1))
    case atStart => exact ⟨0, s.length + 1, 0, 0, [], none, [], rfl, Lib.hid (by simp), by omega, by simp, rfl, L0, X0, World.ownsRow_nil _ _ _ _, Lib.hid (by simp [Reps]), B0⟩
    case round =>
      obtain ⟨i, f, n, c, pre, A, xs, rfl, hp, hf, hpi, hnp, hL, hX, hO, hR, hB⟩ := hrel
      clear X0 L0 B0
      have HN := Lib.hid hnp
      clear hnp
      have hii := hL.i
      obtain ⟨f, rfl⟩ : ∃ f', f = f' + 1 := ⟨f - 1, by omega⟩
      have hof := Lib.hid hL.off
      go_wp2_with fail
      refine (gap_any (w.heap.size + 1) s i _ hL).mono ?_; rintro e w1 ⟨rfl, l1, g1⟩
      have hRlt := hL.lt
      have X1 := (g1.block w.heap.size (by omega) (by simp)).trans hX
      have O1 := own_keepL hO g1 (by omega)
      have B1 := below_gb hB g1 (by omega)
      clear hL hX hO hB g1
      obtain ⟨hs1, hs2, hs3⟩ := skip_at hii
      obtain ⟨j, hj⟩ : ∃ j, s.length - (skip (s.drop i)).length = j := ⟨_, rfl⟩
      rw [hj] at l1 hs2 hs3
      obtain ⟨⟨y0, y1⟩, y2, y3⟩ := cells4 l1.box
      by_cases hend : j = s.length
      · have e1 : ((j : Int) == (s.length : Int)) = true := by simp; omega
        have hle := lex_end (s := s) (i := i) (f := f) (by rw [hj]; exact hend)
        have HP := Lib.hid (hp.out.trans (by rw [hle, List.append_nil]))
        have c0 : w1.cell? ⟨w.heap.size, 0, none⟩ = some (.int .i64 0) := by rw [Lib.cell_of_heap X1]; rfl
        have c1 : w1.cell? ⟨w.heap.size, 1, none⟩ = some (.int .i64 0) := by rw [Lib.cell_of_heap X1]; rfl
        have c2 : w1.cell? ⟨w.heap.size, 2, none⟩ = some (.int .i64 0) := by rw [Lib.cell_of_heap X1]; rfl
        have f0 := Lib.frozen_of_heap X1 0
        have f1 := Lib.frozen_of_heap X1 1
        have f2 := Lib.frozen_of_heap X1 2
        clear hs1 hj hle hf hpi hend
        go_wp2_with fail
        refine bodyPost_ret (v := .tuple #[.slice A n c, .int .i64 0, pv 0 0 0]) (by simp [results, Try.results20, go_sem, pv, c0, c1, c2]) rfl ?_
        refine ⟨?_, ?_⟩
        · unfold RetAll
          rw [if_neg HB.out, if_neg (by rw [HP.out]; simp)]
          refine ⟨A, n, c, xs, rfl, ?_, by rw [HP.out]; exact hR.out⟩
          exact own_setL (own_setL (own_setL O1 _ (by omega)) _ (by omega)) _ (by omega)
        · repeat (first | (with_reducible exact Below.refl _ _) | (with_reducible assumption) | refine Below.setCell ?_ (by simp <;> omega) _ | refine Below.alloc ?_ (by simp <;> omega) _ | refine Below.drew ?_)
      · have e1 : ((j : Int) == (s.length : Int)) = false := by simp; omega
        have hlt : j < s.length := by omega
        clear hend
        go_wp2_with fail
        refine (token_any (w.heap.size + 1) s j _ l1 hlt).mono ?_; rintro e w2 ⟨rfl, l2, g2⟩
        have X2 := (g2.block w.heap.size (Nat.lt_of_lt_of_le (by omega : w.heap.size < w.heap.size + 1) (Nat.le_of_lt l1.lt)) (by simp)).trans X1
        have O2 := own_keepL O1 g2 (by omega)
        have B2 := below_gb B1 g2 (by omega)
        clear X1 O1 B1 g2 y0 y1 y2 y3 l1
        unfold RetT tkCells
        by_cases he : (tokL (s.drop j)).e = 0
        · have hle := lex_ok (f := f) hii hj hlt he
          have htp := tokL_pos (s.drop j) he
          rw [List.length_drop] at htp
          have HP := Lib.hid (hp.out.trans (by rw [hle]))
          clear hle hp hs1 hj
          generalize tokL (s.drop j) = R at *
          obtain ⟨i', hi'⟩ : ∃ i' : Nat, j + R.n = i' := ⟨_, rfl⟩
          rw [hi'] at HP l2
          simp only [if_pos he]
          rw [he]
          have hsn : Hid (Reps (TkC s) (pre ++ [⟨R.k, (s.drop j).take R.n, R.v, j⟩]) (xs ++ tkCells R.k ((s.drop j).take R.n) R.v s j)) := Lib.hid (hR.out.append (.one rfl))
          have hn20 : n ≤ 20000 := by have := HN.out; omega
          have h7 : i < i' := by omega
          have hbs := B2.size
          go_wp2_with (at_builtin; refine wpList_app rfl (.tmp 42) (.tmp 44) tokE rfl (w.heap.size + 2) xs rfl ((O2.alloc _).alloc _) rfl (tkCells R.k ((s.drop j).take R.n) R.v s j) (Rd.made _ (tkCells R.k ((s.drop j).take R.n) R.v s j) rfl (by simp)) (by simp [tkCells, Value.oneCell']) (by unfold maxLen; omega) (by omega) (by simp; omega) ?_; intro A3 c3 w3 o3 g3 _)
          have hown := fun q hq => (O2.lt q hq).1
          have D2 := (B2.alloc B2.size (.cells (tkCells R.k ((s.drop j).take R.n) R.v s j).toArray 45)).alloc (by have := B2.size; simp; omega) (.cells (tkCells R.k ((s.drop j).take R.n) R.v s j).toArray 45)
          have E2 := ((Below.refl w2.heap.size w2).alloc (Nat.le_refl _) (.cells (tkCells R.k ((s.drop j).take R.n) R.v s j).toArray 45)).alloc (by simp) (.cells (tkCells R.k ((s.drop j).take R.n) R.v s j).toArray 45)
          have L3 := l2.next E2
          have X3 := box_next X2 E2
          have B3 : Below w.heap.size w w3 := ⟨g3.os.trans D2.os, g3.tape.trans D2.tape, g3.output.trans D2.output, Nat.le_trans D2.size g3.size, fun q hq => (g3.block q (Nat.lt_of_lt_of_le hq D2.size) (fun e => by have := hown q e.symm; omega)).trans (D2.block q hq)⟩
          have X4 := (g3.block w.heap.size (Array.getElem?_eq_some_iff.1 X3).1 (fun e => by have := hown _ e.symm; omega)).trans X3
          have L4 : Lx w3 (w.heap.size + 1) s i' := ⟨(g3.block (w.heap.size + 1) L3.lt (fun e => by have := hown _ e.symm; omega)).trans L3.box, L3.i, L3.n⟩
          go_roundw
          case rel => exact ⟨i', f, n + 1, c3, pre ++ [⟨R.k, (s.drop j).take R.n, R.v, j⟩], A3, _, rfl, Lib.hid (by rw [HP.out, List.append_assoc]; rfl), by omega, by have := HN.out; simp; omega, by rw [HN.out]; simp, L4, X4, o3, hsn, B3⟩
          case measure => rw [L4.off, hof.out]; omega
        · have hle := lex_err (f := f) hii hj hlt he
          have HP := Lib.hid (hp.out.trans (by rw [hle]))
          clear hle hp hs1 hj
          generalize tokL (s.drop j) = R at *
          have g3 : (R.e != 0) = true := by simpa using he
          have g4 : (R.e == 0) = false := by simpa using he
          obtain ⟨m, hm⟩ : ∃ m : Nat, j + R.off = m := ⟨_, rfl⟩
          rw [hm] at HP
          simp only [if_neg he]
          rw [hm]
          clear hm
          have HE := Lib.hid he
          clear he
          go_wp2_with fail
          refine (at_any s (m : Int) _ hs).mono ?_; rintro e w1 ⟨rfl, b4⟩
          have X1 : w1.heap[w.heap.size]? = _ := box_next (box_next X2 (by first | exact (Below.refl _ _).alloc (Nat.le_refl _) _)) b4
          have c0 : w1.cell? ⟨w.heap.size, 0, none⟩ = some (.int .i64 0) := by rw [Lib.cell_of_heap X1]; rfl
          have c1 : w1.cell? ⟨w.heap.size, 1, none⟩ = some (.int .i64 0) := by rw [Lib.cell_of_heap X1]; rfl
          have c2 : w1.cell? ⟨w.heap.size, 2, none⟩ = some (.int .i64 0) := by rw [Lib.cell_of_heap X1]; rfl
          have f0 := Lib.frozen_of_heap X1 0
          have f1 := Lib.frozen_of_heap X1 1
          have f2 := Lib.frozen_of_heap X1 2
          have B4 : Below w.heap.size w w1 := bthen (by first | exact B2.alloc B2.size _) b4
          clear X2 B2 O2
          obtain ⟨q, hq⟩ : ∃ q, clampI s (m : Int) = q := ⟨_, rfl⟩
          rw [hq]
          have HQ := Lib.hid hq
          clear hq
          unfold plc pv
          go_wp2_with fail
          refine bodyPost_ret (v := .tuple #[.slice none 0 0, .int .i64 R.e, plc s q]) (by simp [results, Try.results20, go_sem, plc, pv, c0, c1, c2]) rfl ?_
          refine ⟨?_, ?_⟩
          · unfold RetAll
            rw [if_neg HB.out, if_pos (by rw [HP.out]; exact HE.out), HP.out]
            rw [HQ.out]
          · repeat (first | (with_reducible exact Below.refl _ _) | (with_reducible assumption) | refine Below.setCell ?_ (by simp <;> omega) _ | refine Below.alloc ?_ (by simp <;> omega) _ | refine Below.drew ?_)
end Go.Proofs.Ytpodniljpinigaa.X
