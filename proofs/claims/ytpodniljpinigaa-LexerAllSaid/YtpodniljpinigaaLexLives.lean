/- The examples of law08, its cut, the reference's At. -/
import Derived.Test.YtpodniljpinigaaLexAll
namespace Go.Proofs.Ytpodniljpinigaa.X
open Go.RowKit O V S

/-- The same, in steps that can be computed. -/
def skipK : Nat → List UInt8 → List UInt8
  | 0, l => l
  | _ + 1, [] => []
  | n + 1, c :: r => if blankC c then skipK n r else if c.toNat = 35 then skipK n (r.dropWhile noteC) else c :: r
theorem skipK_eq : ∀ (n : Nat) (l : List UInt8), l.length ≤ n → skipK n l = skip l
  | 0, [], _ => by rw [skip_nil]; rfl
  | 0, c :: r, h => by simp at h
  | n + 1, [], _ => by rw [skip_nil]; rfl
  | n + 1, c :: r, h => by
    simp at h
    have h3 := while_len noteC r
    rw [skipK]
    by_cases h1 : blankC c = true
    · rw [if_pos h1, skip_blank r h1, skipK_eq n r h]
    · rw [if_neg h1]
      by_cases h2 : c.toNat = 35
      · rw [if_pos h2, skip_note r h2, skipK_eq n _ (by omega)]
      · rw [if_neg h2, skip_stop r (by simpa using h1) h2]
def lexK (s : List UInt8) (f : Nat) (i : Nat) : List Tk × Int × Nat := match f with
  | 0 => ([], 0, 0)
  | f + 1 =>
    let t := skipK s.length (s.drop i)
    let j := s.length - t.length
    if t.length = 0 then ([], 0, 0)
    else
      let r := tokL t
      if r.e ≠ 0 then ([], r.e, j + r.off)
      else
        let x := lexK s f (j + r.n)
        (⟨r.k, t.take r.n, r.v, j⟩ :: x.1, x.2)
theorem lexK_eq (s : List UInt8) : ∀ f i, lexK s f i = lexS s f i
  | 0, _ => rfl
  | f + 1, i => by
    unfold lexK lexS
    rw [skipK_eq s.length (s.drop i) (by simp)]
    simp only [lexK_eq s f]
def toks1 : List Tk := [⟨1, [97, 99, 99], zeroV, 0⟩, ⟨4, [91], zeroV, 3⟩, ⟨1, [97], zeroV, 4⟩, ⟨4, [93], zeroV, 5⟩, ⟨4, [46], zeroV, 6⟩, ⟨1, [98, 97, 108], zeroV, 7⟩, ⟨4, [61], zeroV, 11⟩, ⟨2, [53], ⟨1, 5, []⟩, 13⟩, ⟨4, [59], zeroV, 14⟩]
theorem lex1 : lexS [97, 99, 99, 91, 97, 93, 46, 98, 97, 108, 32, 61, 32, 53, 59] 16 0 = (toks1, 0, 0) := by rw [← lexK_eq]; kernel_rfl
theorem lex2 : lexS [120, 32, 65] 4 0 = ([⟨1, [120], zeroV, 0⟩], 10, 2) := by
  have h : lexS [120, 32, 65] 4 0 = ([⟨1, [120], zeroV, 0⟩] ++ [], 10, 2) := by rw [← lexK_eq]; kernel_rfl
  exact h
theorem cells3p {W : World} {g : Nat} {x y z : Value} {T : TypeId} (h : W.heap[g]? = some (.cells #[x, y, z] T (0, 0))) : W.cell? ⟨g, 0, none⟩ = some x ∧ W.cell? ⟨g, 1, none⟩ = some y ∧ W.cell? ⟨g, 2, none⟩ = some z :=
  ⟨by rw [Lib.cell_of_heap h]; rfl, by rw [Lib.cell_of_heap h]; rfl, by rw [Lib.cell_of_heap h]; rfl⟩
theorem all_ok {s : List UInt8} {l : List Tk} (hs : s.length ≤ 16384) (hx : lexS s (s.length + 1) 0 = (l, 0, 0)) (w : World) : Calls Try.prog 20 #[.string ⟨s.toArray⟩] w fun e w' => (∃ A n c xs, e = .returned (.tuple #[.slice A n c, .int .i64 0, pv 0 0 0]) ∧ w'.ownsRow (w.heap.size + 2) 45 8 (.slice A n c) n xs ∧ Reps (TkC s) l xs) ∧ Below w.heap.size w w' := by
  refine (all_any s w (by omega)).mono fun e w' ⟨h, b⟩ => ⟨?_, b⟩
  unfold RetAll at h
  rw [if_neg (by omega), if_neg (by rw [hx]; simp), hx] at h
  exact h
theorem all_err {s : List UInt8} {l : List Tk} {er : Int} {off : Nat} (hs : s.length ≤ 16384) (hx : lexS s (s.length + 1) 0 = (l, er, off)) (he : er ≠ 0) (w : World) : Calls Try.prog 20 #[.string ⟨s.toArray⟩] w fun e w' => e = .returned (.tuple #[.slice none 0 0, .int .i64 er, plc s (clampI s (off : Nat))]) ∧ Below w.heap.size w w' := by
  refine (all_any s w (by omega)).mono fun e w' ⟨h, b⟩ => ⟨?_, b⟩
  unfold RetAll at h
  rw [if_neg (by omega), if_pos (by rw [hx]; exact he), hx] at h
  exact h
theorem cut_any (s : List UInt8) (w : World) (hs : s.length ≤ maxLen) : Calls Try.prog 19 #[.string ⟨s.toArray⟩] w fun e w' => e = .returned (.string ⟨(s.take 1500).toArray⟩) ∧ w = w' := by
  have hsz : (ByteArray.mk s.toArray).size = s.length := by simp [ByteArray.size]
  unfold maxLen at hs
  obtain ⟨m, hm⟩ : ∃ m : Nat, min s.length 1500 = m := ⟨_, rfl⟩
  have ex : min (s.length : Int) 1500 = (m : Int) := by omega
  have hm2 : (m : Int) ≤ (s.length : Int) := by omega
  have hcut := cut_at s 0 m m (by omega)
  have ht : (s.drop 0).take m = s.take 1500 := by
    rw [List.drop_zero, ← hm, Nat.min_comm, List.take_eq_take_iff]; omega
  rw [ht] at hcut
  clear hm ht
  go_enter Try.func19, Try.ntmps19
  go_wp2_with fail
  go_ret
  exact ⟨rfl, rfl⟩
set_option maxHeartbeats 1000000 in
set_option maxRecDepth 100000 in
theorem rat_any (s : List UInt8) (off : Int) (w : World) (hs : s.length ≤ 20000) : Calls Try.prog 23 #[.string ⟨s.toArray⟩, .int .i64 off] w fun e w' => e = .returned (plc s (clampI s off)) ∧ Below w.heap.size w w' := by
  have hsz : (ByteArray.mk s.toArray).size = s.length := by simp [ByteArray.size]
  go_enter Try.func23, Try.ntmps23
  go_wp2_with fail
  go_loopw [] (fun wr => ∃ i : Nat, i ≤ s.length ∧ ((i : Int) ≤ off ∨ i = 0) ∧ wr.heap[w.heap.size + 1]? = some (.cells #[.int .i64 (i : Int), .int .i64 (lineOf s i : Int), .int .i64 ((i : Int) - (startOf s i : Int) + 1)] 38 (0, 0)) ∧ wr.heap[w.heap.size]? = some (.cells #[.int .i64 0, .int .i64 0, .int .i64 0] 38 (0, 0)) ∧ Below w.heap.size w wr) (fun wr => s.length - offW wr (w.heap.size + 1))
  case atStart =>
    refine ⟨0, by omega, .inr rfl, ?_, ?_, ?_⟩
    · have := heap_alloc_new (w.alloc (.cells #[.int .i64 0, .int .i64 0, .int .i64 0] 38)) (.cells #[.int .i64 0, .int .i64 1, .int .i64 1] 38)
      simpa [lineOf, startOf] using this
    · exact box_next (heap_alloc_new w (.cells #[.int .i64 0, .int .i64 0, .int .i64 0] 38)) ((Below.refl _ _).alloc (Nat.le_refl _) _)
    · repeat (first | (with_reducible exact Below.refl _ _) | (with_reducible assumption) | refine Below.setCell ?_ (by simp <;> omega) _ | refine Below.alloc ?_ (by simp <;> omega) _ | refine Below.drew ?_)
  case round =>
    obtain ⟨i, hi, ho, hX, hZ, hB⟩ := hrel
    have hlo := lineOf_le s i
    have hso := startOf_le s i
    obtain ⟨k0, k1, k2⟩ := cells3p hX
    have f0 := Lib.frozen_of_heap hX 0
    have f1 := Lib.frozen_of_heap hX 1
    have f2 := Lib.frozen_of_heap hX 2
    obtain ⟨z0, z1, z2⟩ := cells3p hZ
    have y0 := Lib.frozen_of_heap hZ 0
    have y1 := Lib.frozen_of_heap hZ 1
    have y2 := Lib.frozen_of_heap hZ 2
    have hof : offW wr (w.heap.size + 1) = i := by unfold offW; rw [k0]; simp
    have HOF := Lib.hid hof
    clear hof
    by_cases h1 : (i : Int) < off
    · have d1 : decide ((i : Int) < off) = true := by simpa using h1
      by_cases h2 : i < s.length
      · have d2 : decide ((i : Int) < (s.length : Int)) = true := by simpa using h2
        obtain ⟨c, hc⟩ : ∃ c, s[i] = c := ⟨_, rfl⟩
        have hx := ba_at s i h2 hc
        have hgd : s.getD i 0 = c := by rw [List.getD_eq_getElem?_getD, List.getElem?_eq_getElem h2, ← hc]; rfl
        have HL := Lib.hid (show lineOf s (i + 1) = if (s.getD i 0).toNat = 10 then lineOf s i + 1 else lineOf s i from rfl)
        have HS := Lib.hid (show startOf s (i + 1) = if (s.getD i 0).toNat = 10 then i + 1 else startOf s i from rfl)
        rw [hgd] at HL HS
        clear hgd hc
        by_cases h10 : c.toNat = 10
        · have e1 : ((c.toNat : Int) == 10) = true := by simp; omega
          rw [if_pos h10] at HL HS
          have H10 := Lib.hid h10
          clear h10
          go_wp2_with fail
          go_roundw
          case rel =>
            refine ⟨i + 1, by omega, .inl (by omega), ?_, ?_, ?_⟩
            · rw [HL.out, HS.out]
              have := heap_set (i := 0) (heap_set (i := 2) (heap_set (i := 1) (heap_set (i := 2) hX (.int .i64 ((i : Int) - (startOf s i : Int) + 1 + 1))) (.int .i64 ((lineOf s i : Int) + 1))) (.int .i64 1)) (.int .i64 ((i : Int) + 1))
              rw [this]
              simp
            · exact (Below.heap_setCell _ _ _ _ (show w.heap.size ≠ w.heap.size + 1 by omega)).trans ((Below.heap_setCell _ _ _ _ (show w.heap.size ≠ w.heap.size + 1 by omega)).trans ((Below.heap_setCell _ _ _ _ (show w.heap.size ≠ w.heap.size + 1 by omega)).trans ((Below.heap_setCell _ _ _ _ (show w.heap.size ≠ w.heap.size + 1 by omega)).trans hZ)))
            · repeat (first | (with_reducible exact Below.refl _ _) | (with_reducible assumption) | refine Below.setCell ?_ (by simp <;> omega) _ | refine Below.alloc ?_ (by simp <;> omega) _ | refine Below.drew ?_)
          case measure =>
            rw [HOF.out]
            have := heap_set (i := 0) (heap_set (i := 2) (heap_set (i := 1) (heap_set (i := 2) hX (.int .i64 ((i : Int) - (startOf s i : Int) + 1 + 1))) (.int .i64 ((lineOf s i : Int) + 1))) (.int .i64 1)) (.int .i64 ((i : Int) + 1))
            unfold offW
            rw [Lib.cell_of_heap this]
            simp
            omega
        · have e1 : ((c.toNat : Int) == 10) = false := by simp; omega
          rw [if_neg h10] at HL HS
          have H10 := Lib.hid h10
          clear h10
          go_wp2_with fail
          go_roundw
          case rel =>
            refine ⟨i + 1, by omega, .inl (by omega), ?_, ?_, ?_⟩
            · rw [HL.out, HS.out]
              have := heap_set (i := 0) (heap_set (i := 2) hX (.int .i64 ((i : Int) - (startOf s i : Int) + 1 + 1))) (.int .i64 ((i : Int) + 1))
              rw [this]
              simp
              omega
            · exact (Below.heap_setCell _ _ _ _ (show w.heap.size ≠ w.heap.size + 1 by omega)).trans ((Below.heap_setCell _ _ _ _ (show w.heap.size ≠ w.heap.size + 1 by omega)).trans hZ)
            · repeat (first | (with_reducible exact Below.refl _ _) | (with_reducible assumption) | refine Below.setCell ?_ (by simp <;> omega) _ | refine Below.alloc ?_ (by simp <;> omega) _ | refine Below.drew ?_)
          case measure =>
            rw [HOF.out]
            have := heap_set (i := 0) (heap_set (i := 2) hX (.int .i64 ((i : Int) - (startOf s i : Int) + 1 + 1))) (.int .i64 ((i : Int) + 1))
            unfold offW
            rw [Lib.cell_of_heap this]
            simp
            omega
      · have d2 : decide ((i : Int) < (s.length : Int)) = false := by simpa using h2
        have hcl : clampI s off = i := by unfold clampI; rw [if_neg (by omega)]; split <;> omega
        have HC := Lib.hid hcl
        clear hcl
        go_wp2_with fail
        refine bodyPost_ret (v := plc s i) (by simp [results, Try.results23, go_sem, plc, pv, z0, z1, z2]) rfl ?_
        refine ⟨by rw [HC.out], ?_⟩
        repeat (first | (with_reducible exact Below.refl _ _) | (with_reducible assumption) | refine Below.setCell ?_ (by simp <;> omega) _ | refine Below.alloc ?_ (by simp <;> omega) _ | refine Below.drew ?_)
    · have d1 : decide ((i : Int) < off) = false := by simpa using h1
      have hcl : clampI s off = i := by
        unfold clampI
        rcases ho with ho | ho
        · split
          · omega
          · split <;> omega
        · subst ho
          split
          · rfl
          · split <;> omega
      have HC := Lib.hid hcl
      clear hcl
      go_wp2_with fail
      refine bodyPost_ret (v := plc s i) (by simp [results, Try.results23, go_sem, plc, pv, z0, z1, z2]) rfl ?_
      refine ⟨by rw [HC.out], ?_⟩
      repeat (first | (with_reducible exact Below.refl _ _) | (with_reducible assumption) | refine Below.setCell ?_ (by simp <;> omega) _ | refine Below.alloc ?_ (by simp <;> omega) _ | refine Below.drew ?_)
set_option maxHeartbeats 1000000 in
set_option maxRecDepth 100000 in
theorem lives_any (w : World) : Calls Try.prog 24 #[] w fun e w' => e = .returned (.bool true) ∧ Below w.heap.size w w' := by
  go_enter Try.func24, Try.ntmps24
  go_wp2_with fail
  refine (all_ok (by decide) lex1 _).mono ?_; rintro e w1 ⟨⟨A, n, c, xs, rfl, o1, R1⟩, b1⟩
  have r1 := Rd.of_own o1
  have hn := r1.len_of TkC.size R1 (by omega)
  obtain rfl : n = 9 := hn.symm
  obtain ⟨b, of7, v7, e7, hb, t7, c7⟩ := r1.elem TkC.size R1 (i := 7) (by decide) (by omega)
  obtain ⟨b', of8, v8, e8, _, t8, c8⟩ := r1.elem TkC.size R1 (i := 8) (by decide) (by omega)
  subst e7
  injection e8 with e8
  injection e8 with e8 e9
  subst e8 e9
  have k7 := c7 3 (by omega)
  have k8 := c8 1 (by omega)
  rw [t7] at k7
  rw [t8] at k8
  replace k7 : w1.cell? ⟨b, of7 + 7 * 8 + 3, none⟩ = some (.int .i64 5) := k7
  replace k8 : w1.cell? ⟨b, of7 + 8 * 8 + 1, none⟩ = some (.string ⟨#[59]⟩) := k8
  clear c7 c8 t7 t8
  unfold pv
  go_wp2_with fail
  refine (all_err (by decide) lex2 (by decide) _).mono ?_; rintro e w2 ⟨rfl, b2⟩
  have hb2 : b < w2.heap.size := by have := b2.size; simp at this; omega
  have hbn : b ≠ w2.heap.size := by omega
  have j7 : w2.cell? ⟨b, of7 + 7 * 8 + 3, none⟩ = some (.int .i64 5) := by rw [b2.cell (by simp; omega), World.cell?_alloc_lt _ _ _ (by simp; omega)]; exact k7
  have j8 : w2.cell? ⟨b, of7 + 8 * 8 + 1, none⟩ = some (.string ⟨#[59]⟩) := by rw [b2.cell (by simp; omega), World.cell?_alloc_lt _ _ _ (by simp; omega)]; exact k8
  clear k7 k8
  unfold plc pv
  go_wp2_with fail
  go_ret
  refine ⟨by rw [show clampI [120, 32, 65] 2 = 2 by decide]; rfl, ?_⟩
  exact bthen (bthen b1 ((Below.refl _ _).alloc (Nat.le_refl _) _)) (bthen b2 ((Below.refl _ _).alloc (Nat.le_refl _) _))
end Go.Proofs.Ytpodniljpinigaa.X
