/- OctetsGets' walk. -/
import Derived.Test.YtmejkfhjkafmlaaOctRef2
import Derived.Test.YtmejkfhjkafmlaaOpen
namespace Go.Proofs.Ytmejkfhjkafmlaa.octetsGets
open Go.RowKit O

theorem getT_none {l : List UInt8} {x most : Int} (h : getUAt l x = none) : getTAt l x most = none := by rw [getTAt, h]
theorem getT_pos {l s : List UInt8} {x most : Int} {k : Nat} (h : getTAt l x most = some (s, k)) : 0 < k ∧ 0 ≤ x ∧ x + k ≤ l.length ∧ s.length ≤ l.length := by
  unfold getTAt at h
  split at h
  · cases h
  · rename_i n m hu
    have := getUAt_lt hu
    split at h
    · cases h
    · rename_i hno
      injection h with h
      injection h with h1 h2
      subst h1
      simp
      omega

set_option maxRecDepth 100000 in
set_option maxHeartbeats 4000000 in
theorem walk (A : Option Addr) (n c : Nat) (l0 : List UInt8) (x most : Int) (w : World) (h0 : IsB w A n c l0) (hx0 : (Lit.int .i64 x).wf = true) (hm0 : (Lit.int .i64 most).wf = true) :
    Calls Try.prog 10 #[.slice A n c, .int .i64 x, .int .i64 most] w fun e w' => e = .returned (.bool true) ∧ Below w.heap.size w w' := by
  obtain ⟨h, hnc, hcm⟩ := h0
  unfold maxLen at hcm
  obtain ⟨hx1, hx2⟩ := bounds_i64 hx0
  obtain ⟨hm1, hm2⟩ := bounds_i64 hm0
  clear hx0 hm0
  go_enter Try.func10, Try.ntmps10
  go_wp2_with fail
  refine (cut_any A n c l0 w h hnc hcm).mono ?_; rintro e w1 ⟨m, c', rfl, hm, hmc, hcx, hr, rfl⟩
  generalize l0.take 300 = l at hr
  clear h hnc hcm
  have hl3 : l.length ≤ 300 := by have := hr.1; simp at this; omega
  have H1 := Lib.hid (getUint_any A m c' x l w hr hmc (by omega) hcx)
  have H2 := Lib.hid (refGetUint_any A m c' x l w hr hmc (by omega) hcx)
  have H3 := Lib.hid (fun W (hW : Below w.heap.size w W) => getInt_any A m c' x l W (hr.next hW) hmc (by omega) hcx)
  have H4 := Lib.hid (fun W (hW : Below w.heap.size w W) => refGetInt_any A m c' x l W (hr.next hW) hmc (by omega) hcx)
  have H5 := Lib.hid (fun W (hW : Below w.heap.size w W) => getText_any A m c' x most l W (hr.next hW) hmc (by omega) hcx hm1 hm2)
  have H6 := Lib.hid (fun W (hW : Below w.heap.size w W) => refGetText_any A m c' x most l W (hr.next hW) hmc (by omega) hcx hm1 hm2)
  clear hr
  cases hu : getUAt l x with
  | none =>
    have ht := getT_none (most := most) hu
    rw [hu] at H1 H2 H3 H4
    rw [ht] at H5 H6
    clear hu ht
    go_wp2_with fail
    refine H1.out.mono ?_; rintro e w1 ⟨rfl, rfl⟩
    simp only [resU]
    go_wp2_with fail
    refine H2.out.mono ?_; rintro e w2 ⟨rfl, b2⟩
    simp only [resR]
    go_wp2_with fail
    refine (H3.out w2 b2).mono ?_; rintro e w3 ⟨rfl, rfl⟩
    simp only [resI]
    go_wp2_with fail
    refine (H4.out w2 b2).mono ?_; rintro e w4 ⟨rfl, b4⟩
    have b24 := bthen b2 b4; clear b2 b4
    simp only [resRI]
    go_wp2_with fail
    refine (H5.out w4 b24).mono ?_; rintro e w5 ⟨rfl, rfl⟩
    simp only [resT]
    go_wp2_with fail
    refine (H6.out w4 b24).mono ?_; rintro e w6 ⟨rfl, b6⟩
    have b26 := bthen b24 b6; clear b24 b6 H1 H2 H3 H4 H5 H6
    simp only [resRT]
    go_wp2_with fail
    refine (lives_any _).mono ?_; rintro e w7 ⟨rfl, b7⟩
    go_wp2_with fail
    go_ret
    exact ⟨rfl, bthen b26 b7⟩
  | some p =>
    obtain ⟨u, k⟩ := p
    obtain ⟨p1, p2, p3, p4, p5⟩ := getUAt_lt hu
    have p6 : (0 : Int) < (k : Int) := by omega
    rw [hu] at H1 H2 H3 H4
    cases ht : getTAt l x most with
    | none =>
      rw [ht] at H5 H6
      clear hu ht
      go_wp2_with fail
      refine H1.out.mono ?_; rintro e w1 ⟨rfl, rfl⟩
      simp only [resU]
      go_wp2_with fail
      refine H2.out.mono ?_; rintro e w2 ⟨rfl, b2⟩
      simp only [resR]
      go_wp2_with fail
      refine (H3.out w2 b2).mono ?_; rintro e w3 ⟨rfl, rfl⟩
      simp only [resI]
      go_wp2_with fail
      refine (H4.out w2 b2).mono ?_; rintro e w4 ⟨rfl, b4⟩
      have b24 := bthen b2 b4; clear b2 b4
      simp only [resRI]
      go_wp2_with fail
      refine (H5.out w4 b24).mono ?_; rintro e w5 ⟨rfl, rfl⟩
      simp only [resT]
      go_wp2_with fail
      refine (H6.out w4 b24).mono ?_; rintro e w6 ⟨rfl, b6⟩
      have b26 := bthen b24 b6; clear b24 b6 H1 H2 H3 H4 H5 H6
      simp only [resRT]
      go_wp2_with fail
      refine (lives_any _).mono ?_; rintro e w7 ⟨rfl, b7⟩
      go_wp2_with fail
      go_ret
      exact ⟨rfl, bthen b26 b7⟩
    | some q =>
      obtain ⟨s, j⟩ := q
      obtain ⟨q1, q2, q3, q4⟩ := getT_pos ht
      have q6 : (0 : Int) < (j : Int) := by omega
      rw [ht] at H5 H6
      clear hu ht
      go_wp2_with fail
      refine H1.out.mono ?_; rintro e w1 ⟨rfl, rfl⟩
      simp only [resU]
      go_wp2_with fail
      refine H2.out.mono ?_; rintro e w2 ⟨rfl, b2⟩
      simp only [resR]
      go_wp2_with fail
      refine (H3.out w2 b2).mono ?_; rintro e w3 ⟨rfl, rfl⟩
      simp only [resI]
      go_wp2_with fail
      refine (H4.out w2 b2).mono ?_; rintro e w4 ⟨rfl, b4⟩
      have b24 := bthen b2 b4; clear b2 b4
      simp only [resRI]
      go_wp2_with fail
      refine (H5.out w4 b24).mono ?_; rintro e w5 ⟨rfl, rfl⟩
      simp only [resT]
      go_wp2_with fail
      refine (H6.out w4 b24).mono ?_; rintro e w6 ⟨rfl, b6⟩
      have b26 := bthen b24 b6; clear b24 b6 H1 H2 H3 H4 H5 H6
      simp only [resRT]
      go_wp2_with fail
      refine (lives_any _).mono ?_; rintro e w7 ⟨rfl, b7⟩
      go_wp2_with fail
      go_ret
      exact ⟨rfl, bthen b26 b7⟩
end Go.Proofs.Ytmejkfhjkafmlaa.octetsGets
