/- billhookref04.Image; billhooklaw04's lives and cut. -/
import Derived.Test.YtkcehoejcklmfaaWalRef
import Derived.Test.YtkcehoejcklmfaaOpen
import Derived.Lib.SlBytesConst
namespace Go.Proofs.Ytkcehoejcklmfaa.L
open Go.RowKit O

def resM (o : Option (Nat × List UInt8)) : Value := match o with
  | none => .tuple #[.int .u32 0, .string ⟨#[]⟩, .bool false]
  | some (g, s) => .tuple #[.int .u32 g, .string ⟨s.toArray⟩, .bool true]
theorem four {l : List UInt8} (h : 8 ≤ l.length) : ∃ x0 x1 x2 x3 r, l = x0 :: x1 :: x2 :: x3 :: r := by
  match l, h with
  | x0 :: x1 :: x2 :: x3 :: r, _ => exact ⟨x0, x1, x2, x3, r, rfl⟩
theorem frameAt_word {l : List UInt8} {i g k : Nat} {s : List UInt8} (h : frameAt l (i : Int) = some (g, s, k)) : wordTo (l.drop i) 4 = g := by
  unfold frameAt at h
  split at h
  · cases h
  · rename_i g' hg
    have : g' = g := by
      split at h
      · cases h
      · split at h
        · cases h
        · split at h
          · simp only [Option.some.injEq, Prod.mk.injEq] at h; exact h.1
          · cases h
    subst this
    unfold getWAt at hg
    split at hg
    · simp only [Option.some.injEq, Int.toNat_natCast] at hg; exact hg
    · cases hg

set_option maxRecDepth 100000 in
set_option maxHeartbeats 2000000 in
theorem rimage_any (l : List UInt8) (w : World) (hl : l.length ≤ 10000000) :
    Calls Try.prog 36 #[.string ⟨l.toArray⟩] w fun e w' => e = .returned (resM (imageOf l)) ∧ Below w.heap.size w w' := by
  have G := rtext_any l 0 w hl (Nat.zero_le _)
  unfold resX at G
  cases hf : frameAt l (0 : Nat) with
  | none =>
    have hI : imageOf l = none := by unfold imageOf; rw [hf]
    rw [hf] at G
    have HG := Lib.hid G; clear G
    have Hhf := Lib.hid hf; clear hf
    have HhI := Lib.hid hI; clear hI
    go_enter Try.func36, Try.ntmps36
    go_wp2_with fail
    refine (HG.out).mono ?_; rintro e w1 ⟨rfl, b1⟩
    simp only
    go_wp2_with fail
    go_ret3
    exact ⟨by rw [HhI.out]; rfl, b1⟩
  | some q =>
    obtain ⟨g, s, k⟩ := q
    have hI : imageOf l = if k = l.length then some (g, s) else none := by unfold imageOf; rw [hf]
    rw [hf] at G
    obtain ⟨f1, f2, f3, f4⟩ := (frameAt_some (by omega)).1 hf
    have hwd := frameAt_word hf
    have h8 := frameL_pos g s
    have hk0 : ((k : Int) == 0) = false := by simp; omega
    by_cases hk : k = l.length
    · rw [if_pos hk] at hI
      have hk1 : ((k : Int) != (l.length : Int)) = false := by simp; omega
      have h8l : 8 ≤ l.length := by omega
      obtain ⟨x0, x1, x2, x3, r, rfl⟩ := four h8l
      · skip
        have hword : wordTo (x0 :: x1 :: x2 :: x3 :: r) 4 = ((x0.toNat * 256 + x1.toNat) * 256 + x2.toNat) * 256 + x3.toNat := by rw [wordTo4]; rfl
        rw [List.drop_zero, hword] at hwd
        subst hwd
        clear hf f1 f2 f3 f4 hword h8 hk1
        subst hk
        have HG := Lib.hid G; clear G
        have HhI := Lib.hid hI; clear hI
        go_enter Try.func36, Try.ntmps36
        go_wp2_with fail
        refine (HG.out).mono ?_; rintro e w1 ⟨rfl, b1⟩
        simp only
        have B1 := Lib.hid b1; clear b1
        go_wp2_with fail
        have hi0 : (0 : Int) < (r.length : Int) + 1 + 1 + 1 + 1 := by omega
        have hi1 : (1 : Int) < (r.length : Int) + 1 + 1 + 1 + 1 := by omega
        have hi2 : (2 : Int) < (r.length : Int) + 1 + 1 + 1 + 1 := by omega
        have hi3 : (3 : Int) < (r.length : Int) + 1 + 1 + 1 + 1 := by omega
        have g0 : ∀ h, (ByteArray.mk (x0 :: x1 :: x2 :: x3 :: r).toArray)[0]'h = x0 := fun _ => rfl
        have g1 : ∀ h, (ByteArray.mk (x0 :: x1 :: x2 :: x3 :: r).toArray)[1]'h = x1 := fun _ => rfl
        have g2 : ∀ h, (ByteArray.mk (x0 :: x1 :: x2 :: x3 :: r).toArray)[2]'h = x2 := fun _ => rfl
        have g3 : ∀ h, (ByteArray.mk (x0 :: x1 :: x2 :: x3 :: r).toArray)[3]'h = x3 := fun _ => rfl
        refine wp_region_sched [(0, true), (1, true), (2, true), (3, true), (4, true), (5, true), (6, true), (7, true), (8, true), (9, true), (10, true), (11, true), (12, true), (13, true), (14, true), (15, true), (16, true), (17, true), (18, true), (19, true), (20, true), (21, true)] (by kernel_rfl) (by kernel_rfl) (fun _ _ d _ _ h => by cases d <;> exact h) ?_
        repeat (first | (refine sreadx rfl rfl ?_; apply Exists.intro; apply And.intro; (· (intro W hW; first | (go_simp; done) | (go_simp; with_reducible rfl) | (go_simp; rw [if_neg (by omega)]; done) | (go_simp; rw [if_neg (by omega)]; with_reducible rfl))); simp only [Act.put, List.setIfInBounds_toArray, List.set_cons_zero, List.set_cons_succ]) | (refine sskip rfl rfl ?_; simp only [Act.put, List.setIfInBounds_toArray, List.set_cons_zero, List.set_cons_succ]))
        refine sdone ?_
        rw [u32_word x0 x1 x2 x3]
        clear hi0 hi1 hi2 hi3 g0 g1 g2 g3
        go_wp2_with fail
        go_ret3
        exact ⟨by rw [HhI.out]; rfl, B1.out.drew⟩
    · rw [if_neg hk] at hI
      have hk1 : ((k : Int) != (l.length : Int)) = true := by simp; omega
      have HG := Lib.hid G; clear G
      have Hhf := Lib.hid hf; clear hf
      have HhI := Lib.hid hI; clear hI
      have Hf3 := Lib.hid f3; clear f3
      have Hf4 := Lib.hid f4; clear f4
      have Hhwd := Lib.hid hwd; clear hwd
      go_enter Try.func36, Try.ntmps36
      go_wp2_with fail
      refine (HG.out).mono ?_; rintro e w1 ⟨rfl, b1⟩
      simp only
      go_wp2_with fail
      go_ret3
      exact ⟨by rw [HhI.out]; rfl, b1⟩

def RetCut (A : Option Addr) (c : Nat) (l : List UInt8) (w : World) (e : Ending) (w' : World) : Prop :=
  ∃ n, e = .returned (.slice A n c) ∧ n ≤ 300 ∧ n ≤ c ∧ Rd w w.heap.size 1 A n (bv (l.take 300)) ∧ w = w'
theorem cut_any (A : Option Addr) (n c : Nat) (l : List UInt8) (w : World) (h : IsB w A n c l) : Calls Try.prog 33 #[.slice A n c] w (RetCut A c l w) := by
  obtain ⟨h, hnc, hc⟩ := h
  unfold maxLen at hc
  have ht := h.take_ 300
  obtain ⟨x, hx⟩ : ∃ x : Nat, min n 300 = x := ⟨_, rfl⟩
  rw [hx] at ht
  have ex : min (n : Int) 300 = (x : Int) := by omega
  have bx : (x : Int) ≤ (c : Int) := by omega
  have hx2 : x ≤ 300 := by omega
  clear hx
  have Hh := Lib.hid h; clear h
  have Hht := Lib.hid ht; clear ht
  go_enter Try.func33, Try.ntmps33
  go_wp2_with fail
  go_ret
  exact ⟨x, rfl, hx2, by omega, Hht.out, rfl⟩

set_option maxRecDepth 100000 in
set_option maxHeartbeats 1000000 in
theorem lives_any (w : World) : Calls Try.prog 40 #[] w fun e w' => e = .returned (.bool true) ∧ Below w.heap.size w w' := by
  have kc := fun (w : World) (C : Array Value) (n c : Nat) => Lib.run_convert_bytes_const (P := Try.prog) w 31 5 C n c Try.underlying31 Try.underlying5
  have hu2 : uintL 2 = [2] := uintL_lt (by omega)
  have hfr : (frameL 1 [97, 98]).take 7 = [0, 0, 0, 1, 2, 97, 98] := by
    simp [frameL, sealL, headL, textL, wordL, hu2]
  have hfl : (frameL 1 [97, 98]).length = 11 := by rw [frameL_len, textL_len]; simp [hu2]
  have hco : costN 2 = 11 := by
    show 8 + (uintL 2).length + 2 = 11
    rw [hu2]
    rfl
  have Hhu2 := Lib.hid hu2; clear hu2
  have Hhfr := Lib.hid hfr; clear hfr
  have Hhfl := Lib.hid hfl; clear hfl
  have Hhco := Lib.hid hco; clear hco
  go_enter Try.func40, Try.ntmps40
  go_wp2_with fail
  refine (frame_any _ 2 2 1 [97, 98] _ ((Rd.lit w [.int .u8 97, .int .u8 98] [97, 98] rfl _ _ 2 rfl).more (by rw [World.size_alloc]; exact Nat.le_refl _)) (by omega) (by omega)).mono ?_; rintro e w1 ⟨A1, n1, c1, rfl, o1, b1⟩
  have hn1 := own_len o1
  rw [Hhfl.out] at hn1
  subst hn1
  have hr := (Rd.of_own o1).take_ 7
  rw [Hhfr.out, show min 11 7 = 7 from rfl] at hr
  have hcap : 11 ≤ c1 := by
    rcases o1.2 with ⟨h, _⟩ | ⟨_, _, _, h, _, _, hnc, _⟩
    · injection h with _ h; omega
    · injection h with _ _ h; subst h; exact hnc
  have hcap2 : (7 : Int) ≤ (c1 : Int) := by omega
  have q := strq (c := c1) hr
  have HO := Lib.hid o1; clear o1
  have B1 := Lib.hid b1; clear b1
  go_wp2_with fail
  refine (cost_any 2 _).mono ?_; rintro e w2 ⟨rfl, rfl⟩
  rw [Hhco.out]
  go_wp2_with fail
  go_ret
  exact ⟨rfl, bthen ((Below.refl _ _).alloc (Nat.le_refl _) _) B1.out⟩
end Go.Proofs.Ytkcehoejcklmfaa.L
