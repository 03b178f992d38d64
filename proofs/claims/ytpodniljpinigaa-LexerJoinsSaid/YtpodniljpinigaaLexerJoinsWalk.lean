/- LexerJoins' walk: for every two texts it returns true. -/
import Derived.Test.YtpodniljpinigaaLexAll2
import Derived.Test.YtpodniljpinigaaOpen
namespace Go.Proofs.Ytpodniljpinigaa.lexerJoins
open Go.RowKit O V S X

set_option maxRecDepth 100000 in
set_option maxHeartbeats 2000000 in
theorem walk (s0 t0 : ByteArray) (w : World) (hs : s0.size ≤ maxLen) (ht : t0.size ≤ maxLen) :
    Calls Try.prog 7 #[.string s0, .string t0] w fun e w' => e = .returned (.bool true) ∧ Below w.heap.size w w' := by
  obtain ⟨l0, rfl⟩ : ∃ l0 : List UInt8, s0 = ⟨l0.toArray⟩ := ⟨s0.data.toList, by cases s0; simp⟩
  obtain ⟨m0, rfl⟩ : ∃ l0 : List UInt8, t0 = ⟨l0.toArray⟩ := ⟨t0.data.toList, by cases t0; simp⟩
  have hsz : (ByteArray.mk l0.toArray).size = l0.length := by simp [ByteArray.size]
  have hsz2 : (ByteArray.mk m0.toArray).size = m0.length := by simp [ByteArray.size]
  rw [hsz] at hs
  rw [hsz2] at ht
  unfold maxLen at hs ht
  obtain ⟨i, hi⟩ : ∃ m : Nat, min l0.length 700 = m := ⟨_, rfl⟩
  obtain ⟨j, hj⟩ : ∃ m : Nat, min m0.length 700 = m := ⟨_, rfl⟩
  have ex : min (l0.length : Int) 700 = (i : Int) := by omega
  have ey : min (m0.length : Int) 700 = (j : Int) := by omega
  have hi2 : (i : Int) ≤ (l0.length : Int) := by omega
  have hj2 : (j : Int) ≤ (m0.length : Int) := by omega
  have hcut := cut_at l0 0 i i (by omega)
  have hcut2 := cut_at m0 0 j j (by omega)
  have hl : ((l0.drop 0).take i).length ≤ 700 := by simp; omega
  have hm : ((m0.drop 0).take j).length ≤ 700 := by simp; omega
  generalize (l0.drop 0).take i = l at *
  generalize (m0.drop 0).take j = m at *
  clear hi hj
  go_enter Try.func7, Try.ntmps7
  go_wp2_with fail
  refine wp_region_sched [(0, true), (1, true), (2, true), (3, true), (4, true), (5, true), (6, true), (7, true), (8, true), (9, true), (10, true), (11, true)] (by kernel_rfl) (by kernel_rfl) (fun _ _ d _ _ h => by cases d <;> exact h) ?_
  repeat (first | (refine sreadx rfl rfl ?_; apply Exists.intro; apply And.intro; (· (intro W hW; first | (go_simp; done) | (go_simp; with_reducible rfl) | (go_simp; rw [if_neg (by omega)]; done) | (go_simp; rw [if_neg (by omega)]; with_reducible rfl))); simp only [Act.put, List.setIfInBounds_toArray, List.set_cons_zero, List.set_cons_succ]) | (refine sskip rfl rfl ?_; simp only [Act.put, List.setIfInBounds_toArray, List.set_cons_zero, List.set_cons_succ]))
  refine sdone ?_
  go_wp2_with fail
  refine (all_x l _ (by omega)).mono ?_; rintro e w1 ⟨⟨A1, n1, c1, r1, p1, q1, d1, rfl, X1, N1⟩, B1⟩
  unfold pv
  go_wp2_with fail
  refine (all_x m _ (by omega)).mono ?_; rintro e w2 ⟨⟨A2, n2, c2, r2, p2, q2, d2, rfl, X2, N2⟩, B2⟩
  unfold pv
  go_wp2_with fail
  have hcat : ByteArray.mk l.toArray ++ ByteArray.mk #[10] ++ ByteArray.mk m.toArray = ⟨(l ++ 10 :: m).toArray⟩ := by
    have h1 : ByteArray.mk #[10] = ⟨([10] : List UInt8).toArray⟩ := rfl
    rw [h1, ba_append, ba_append, List.append_assoc]; rfl
  rw [hcat]
  have hlen : (l ++ 10 :: m).length ≤ 16384 := by simp; omega
  refine (all_x (l ++ 10 :: m) _ hlen).mono ?_; rintro e w3 ⟨⟨A3, n3, c3, r3, p3, q3, d3, rfl, X3, N3⟩, B3⟩
  have BB1 : Below w1.heap.size w1 w3 := bthen ((Below.refl _ _).alloc (Nat.le_refl _) _) (bthen B2 (bthen ((Below.refl _ _).alloc (Nat.le_refl _) _) B3))
  have BB2 : Below w2.heap.size w2 w3 := bthen ((Below.refl _ _).alloc (Nat.le_refl _) _) B3
  have BB : Below w.heap.size w w3 := (Below.refl _ _).drew.trans (bthen (a := w.drew) B1 BB1)
  have hX : w3.heap[w1.heap.size]? = some (.cells #[.int .i64 p1, .int .i64 q1, .int .i64 d1] 38 (0, 0)) := by
    have h1 := heap_alloc_new w1 (.cells #[.int .i64 p1, .int .i64 q1, .int .i64 d1] 38)
    exact box_next (box_next h1 B2) (bthen ((Below.refl _ _).alloc (Nat.le_refl _) _) B3)
  obtain ⟨k0, k1, k2⟩ := cells3p hX
  have hlt : w1.heap.size < w3.heap.size := (Array.getElem?_eq_some_iff.1 hX).1
  unfold pv
  clear hcat hcut hcut2 ex ey hi2 hj2 B1 B2 B3
  by_cases h0 : r1 = 0
  · subst h0
    have HX1 := Lib.hid X1
    have HX2 := Lib.hid X2
    obtain ⟨j1, j2⟩ := join_ok X1 X2 X3
    subst j1
    have HJ := Lib.hid j2
    clear X1 X2 X3 j2
    by_cases h2 : r3 = 0
    · subst h2
      obtain ⟨t1, t2, t3, T1, T2, T3, hsame⟩ := HJ.out rfl
      obtain ⟨xs1, R1, S1⟩ := (T1.next BB1).rd
      obtain ⟨xs2, R2, S2⟩ := (T2.next BB2).rd
      have hn1 : n1 ≤ 16384 := by omega
      have hn2 : n2 ≤ 16384 := by omega
      clear HJ HX1 HX2 T1 T2
      have D0 : Below w3.heap.size w3 ((w3.alloc (.cells #[.int .i64 p3, .int .i64 q3, .int .i64 d3] 38)).alloc (.cells #[] 45)) := ((Below.refl _ _).alloc (Nat.le_refl _) _).alloc (by simp) _
      have O0 : ((w3.alloc (.cells #[.int .i64 p3, .int .i64 q3, .int .i64 d3] 38)).alloc (.cells #[] 45)).ownsRow (w3.heap.size + 1) 45 8 (.slice (some ⟨w3.heap.size + 1, 0, none⟩) 0 0) 0 [] := by
        have := World.ownsRow_made (base := w3.heap.size + 1) (e := 45) (size := 8) (w3.alloc (.cells #[.int .i64 p3, .int .i64 q3, .int .i64 d3] 38)) #[] 0 (by simp) (Nat.zero_le _) rfl
        rwa [show (w3.alloc (.cells #[.int .i64 p3, .int .i64 q3, .int .i64 d3] 38)).heap.size = w3.heap.size + 1 by simp] at this
      have HO := Lib.hid O0
      clear O0
      have HS := Lib.hid S1
      have HS2 := Lib.hid S2
      have HT := Lib.hid T3
      have HB := Lib.hid BB
      have HD := Lib.hid D0
      clear S1 S2 T3 BB BB1 BB2 D0
      go_wp2_with (at_builtin; first | (refine wpList_appG rfl (.tmp 70) (.tmp 71) tokE rfl (w3.heap.size + 1) [] rfl HO.out rfl xs1 (R1.below HD.out) (HS.out.all TkD.one) (by unfold maxLen; omega) (by omega) (by simp) (Nat.zero_add _) (List.nil_append _) ?_; intro A4 c4 w4 o4 g4; have D4 := Lib.hid (below_own HD.out HO.out g4 (by omega))) | (refine wpList_appG rfl (.tmp 72) (.tmp 73) tokE rfl (w3.heap.size + 1) xs1 rfl o4 rfl xs2 (R2.below D4.out) (HS2.out.all TkD.one) (by unfold maxLen; omega) (by omega) (by have := g4.size; simp at this; omega) rfl rfl ?_; intro A5 c5 w5 o5 g5; have D5 := Lib.hid (below_own D4.out o4 g5 (by omega))))
      have T5 : TRow w5 A5 (n1 + n2) (t1 ++ t2) := ⟨⟨xs1 ++ xs2, Rd.of_own o5, HS.out.append HS2.out⟩, by omega⟩
      refine (tsame_any A3 A5 n3 c3 (n1 + n2) c5 t3 (t1 ++ t2) _ (HT.out.next D5.out) T5).mono ?_; rintro e w6 ⟨rfl, B6⟩
      rw [hsame]
      go_wp2_with fail
      refine (lives_any _).mono ?_; rintro e w7 ⟨rfl, B7⟩
      go_wp2_with fail
      go_ret
      exact ⟨rfl, bthen (bthen (bthen HB.out D5.out) B6) B7⟩
    · have g1 : (r3 != 0) = true := by simpa using h2
      have g2 : (r3 == 0) = false := by simpa using h2
      go_wp2_with fail
      refine (lives_any _).mono ?_; rintro e w4 ⟨rfl, B4⟩
      go_wp2_with fail
      go_ret
      exact ⟨rfl, bthen (bthen BB ((Below.refl _ _).alloc (Nat.le_refl _) _)) B4⟩
  · have g1 : (r1 != 0) = true := by simpa using h0
    have g2 : (r1 == 0) = false := by simpa using h0
    by_cases h12 : r1 = 12
    · subst h12
      go_wp2_with fail
      refine (lives_any _).mono ?_; rintro e w4 ⟨rfl, B4⟩
      go_wp2_with fail
      go_ret
      exact ⟨rfl, bthen (bthen BB ((Below.refl _ _).alloc (Nat.le_refl _) _)) B4⟩
    · obtain ⟨rfl, rfl, rfl, rfl⟩ := join_err X1 X3 h0 h12
      have g3 : (r3 == 12) = false := by simpa using h12
      go_wp2_with fail
      refine (lives_any _).mono ?_; rintro e w4 ⟨rfl, B4⟩
      go_wp2_with fail
      go_ret
      exact ⟨rfl, bthen (bthen BB ((Below.refl _ _).alloc (Nat.le_refl _) _)) B4⟩
end Go.Proofs.Ytpodniljpinigaa.lexerJoins
