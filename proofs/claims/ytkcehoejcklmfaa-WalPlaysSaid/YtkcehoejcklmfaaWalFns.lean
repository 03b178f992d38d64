/- The contracts of wal.sealed, Frame, Image, Cost, frame, ReadImage; of billhookref04.Frame. -/
import Derived.Test.YtkcehoejcklmfaaWalPlain
import Derived.Test.YtkcehoejcklmfaaSched
import Derived.Test.YtkcehoejcklmfaaOctRef2
import Derived.IntWalk
namespace Go.Proofs.Ytkcehoejcklmfaa.L
open Go.RowKit O

set_option maxHeartbeats 1000000 in
theorem sealed_any (A : Option Addr) (n c : Nat) (l : List UInt8) (w : World) (h : Rd w w.heap.size 1 A n (bv l)) (hn : n ≤ 1000000000) :
    Calls Try.prog 65 #[.slice A n c] w (RetB (sealL l) w) := by
  have hlt := sumN_lt l
  have Hh := Lib.hid h; clear h
  go_enter Try.func65, Try.ntmps65
  go_wp2_with fail
  refine (sum_any A n c _ l _ Hh.out (by omega)).mono ?_; rintro e w1 ⟨rfl, rfl⟩
  go_wp2_with fail
  refine (putWord_any A n c (sumN l) l _ Hh.out (by omega) hlt).mono ?_; rintro e w2 ⟨A2, n2, c2, rfl, o2, b2⟩
  go_wp2_with fail
  go_ret
  exact ⟨_, _, _, rfl, o2, b2⟩

set_option maxRecDepth 100000 in
set_option maxHeartbeats 1000000 in
theorem frame_any (A : Option Addr) (n c g : Nat) (l : List UInt8) (w : World) (h : Rd w w.heap.size 1 A n (bv l)) (hn : n ≤ 100000000) (hg : g < 4294967296) :
    Calls Try.prog 34 #[.int .u32 g, .slice A n c] w (RetB (frameL g l) w) := by
  have hl : l.length = n := by have := h.1; simp at this; omega
  have h10 := uintL_len10 l.length (by omega)
  have htl := textL_len l
  have Hh := Lib.hid h; clear h
  have Hhl := Lib.hid hl; clear hl
  have Hhtl := Lib.hid htl; clear htl
  go_enter Try.func34, Try.ntmps34
  go_wp2_with fail
  refine wp_region_sched [(0, true), (2, true), (3, true), (1, false), (4, false), (5, false), (6, true)] (by kernel_rfl) (by kernel_rfl) (fun _ _ d _ _ h => by cases d <;> exact h) ?_
  refine sbelow (w0 := w) ((Below.refl _ _).drew) (fun B0 => ?_)
  refine swith (fun W hW => (strq (c := c) (Hh.out.next (bthen B0 hW.out)))) (fun q => ?_)
  repeat (first | (refine sreadx rfl rfl ?_; apply Exists.intro; apply And.intro; (· (intro W hW; first | (go_simp; done) | (go_simp; with_reducible rfl) | (go_simp; rw [if_neg (by omega)]; done) | (go_simp; rw [if_neg (by omega)]; with_reducible rfl))); simp only [Act.put, List.setIfInBounds_toArray, List.set_cons_zero, List.set_cons_succ]) | (refine sskip rfl rfl ?_; simp only [Act.put, List.setIfInBounds_toArray, List.set_cons_zero, List.set_cons_succ]))
  refine scall rfl rfl (fun K hK => ?_)
  go_simp
  refine (putWord_any none 0 0 g [] _ Rd.nil_ (by omega) hg).mono ?_; rintro e w1 ⟨A1, n1, c1, rfl, o1, b1⟩
  go_wp2_with fail
  refine hK.out _ _ (by exact b1) ?_
  clear hK K
  try simp only [Act.put, List.setIfInBounds_toArray, List.set_cons_zero, List.set_cons_succ]
  replace q := fun (W : World) (hW : Grow w1 W) => q W (Grow.trans (b1) hW)
  have B1 := bthen B0 b1
  have hn1 := own_len o1
  simp at hn1
  clear b1
  repeat (first | (refine sreadx rfl rfl ?_; apply Exists.intro; apply And.intro; (· (intro W hW; first | (go_simp; done) | (go_simp; with_reducible rfl) | (go_simp; rw [if_neg (by omega)]; done) | (go_simp; rw [if_neg (by omega)]; with_reducible rfl))); simp only [Act.put, List.setIfInBounds_toArray, List.set_cons_zero, List.set_cons_succ]) | (refine sskip rfl rfl ?_; simp only [Act.put, List.setIfInBounds_toArray, List.set_cons_zero, List.set_cons_succ]))
  refine scall rfl rfl (fun K hK => ?_)
  go_simp
  refine (putText_any A1 n1 c1 _ l _ (Rd.of_own o1) (by have e1 := Hhl.out; have e2 : n1 = 4 := (by rw [← hn1]; rfl); omega)).mono ?_; rintro e w2 ⟨A2, n2, c2, rfl, o2, b2⟩
  go_wp2_with fail
  refine hK.out _ _ (by exact b2) ?_
  clear hK K
  try simp only [Act.put, List.setIfInBounds_toArray, List.set_cons_zero, List.set_cons_succ]
  replace q := fun (W : World) (hW : Grow w2 W) => q W (Grow.trans (b2) hW)
  have B2 := bthen B1 b2
  have hn2 := own_len o2
  clear b2 q
  repeat (first | (refine sreadx rfl rfl ?_; apply Exists.intro; apply And.intro; (· (intro W hW; first | (go_simp; done) | (go_simp; with_reducible rfl) | (go_simp; rw [if_neg (by omega)]; done) | (go_simp; rw [if_neg (by omega)]; with_reducible rfl))); simp only [Act.put, List.setIfInBounds_toArray, List.set_cons_zero, List.set_cons_succ]) | (refine sskip rfl rfl ?_; simp only [Act.put, List.setIfInBounds_toArray, List.set_cons_zero, List.set_cons_succ]))
  refine scall rfl rfl (fun K hK => ?_)
  go_simp
  refine (sealed_any A2 n2 c2 _ _ (Rd.of_own o2) (by have := Hhl.out; have := Hhtl.out; simp [wordL_len] at hn2; omega)).mono ?_; rintro e w3 ⟨A3, n3, c3, rfl, o3, b3⟩
  go_wp2_with fail
  refine hK.out _ _ (by exact b3) ?_
  clear hK K
  try simp only [Act.put, List.setIfInBounds_toArray, List.set_cons_zero, List.set_cons_succ]
  have B3 := bthen B2 b3
  repeat (first | (refine sreadx rfl rfl ?_; apply Exists.intro; apply And.intro; (· (intro W hW; first | (go_simp; done) | (go_simp; with_reducible rfl) | (go_simp; rw [if_neg (by omega)]; done) | (go_simp; rw [if_neg (by omega)]; with_reducible rfl))); simp only [Act.put, List.setIfInBounds_toArray, List.set_cons_zero, List.set_cons_succ]) | (refine sskip rfl rfl ?_; simp only [Act.put, List.setIfInBounds_toArray, List.set_cons_zero, List.set_cons_succ]))
  refine sdone ?_
  go_wp2_with fail
  go_ret
  exact ⟨_, _, _, rfl, by have := own_more o3 B2.size; simpa [frameL, headL] using this, B3⟩
theorem image_any (A : Option Addr) (n c g : Nat) (l : List UInt8) (w : World) (h : Rd w w.heap.size 1 A n (bv l)) (hn : n ≤ 100000000) (hg : g < 4294967296) :
    Calls Try.prog 38 #[.int .u32 g, .slice A n c] w (RetB (frameL g l) w) := by
  have Hh := Lib.hid h; clear h
  go_enter Try.func38, Try.ntmps38
  go_wp2_with fail
  refine (frame_any A n c g l _ Hh.out hn hg).mono ?_; rintro e w1 ⟨A1, n1, c1, rfl, o1, b1⟩
  go_wp2_with fail
  go_ret
  exact ⟨_, _, _, rfl, o1, b1⟩

/-- How many bytes the frame of so many has. -/
def costN (n : Int) : Nat := 8 + (uintL (max 0 (min n 1048576)).toNat).length + (max 0 (min n 1048576)).toNat
theorem costN_len (l : List UInt8) (g : Nat) (h : l.length ≤ 1048576) : costN l.length = (frameL g l).length := by
  rw [frameL_len, textL_len]
  unfold costN
  rw [show (max 0 (min (l.length : Int) 1048576)).toNat = l.length by omega]
  omega
theorem cost_any (n : Int) (w : World) : Calls Try.prog 39 #[.int .i64 n] w fun e w' => e = .returned (.int .i64 (costN n)) ∧ w = w' := by
  obtain ⟨m, hm⟩ : ∃ m : Nat, max 0 (min n 1048576) = (m : Int) := ⟨(max 0 (min n 1048576)).toNat, by omega⟩
  have hm2 : m ≤ 1048576 := by omega
  have hc : (costN n : Int) = 8 + ((uintL m).length : Int) + (m : Int) := by unfold costN; rw [hm]; simp
  have h10 := uintL_len10 m (by omega)
  have Hhc := Lib.hid hc; clear hc
  go_enter Try.func39, Try.ntmps39
  go_wp2_with fail
  refine (size_any m _ (by omega)).mono ?_; rintro e w1 ⟨rfl, rfl⟩
  rw [sizeN_eq m (by omega)]
  go_wp2_with fail
  go_ret
  exact ⟨ret_int (by rw [Hhc.out]), rfl⟩

/-- What frame returns. -/
def resF (o : Option (Nat × List UInt8 × Nat)) (x : Int) : Value := match o with
  | none => .tuple #[.int .u32 0, .string ⟨#[]⟩, .int .i64 0, .bool false]
  | some (g, s, k) => .tuple #[.int .u32 g, .string ⟨s.toArray⟩, .int .i64 (x + k), .bool true]
set_option maxRecDepth 100000 in
set_option maxHeartbeats 2000000 in
theorem frameAt_any (A : Option Addr) (n c i : Nat) (l : List UInt8) (w : World) (h : Rd w w.heap.size 1 A n (bv l)) (hnc : n ≤ c) (hn : n ≤ 100000000) (hc : c ≤ 9223372036854775807) (hi : i ≤ n) :
    Calls Try.prog 68 #[.slice A n c, .int .i64 i] w fun e w' => e = .returned (resF (frameAt l i) i) ∧ w = w' := by
  have hl : l.length = n := by have := h.1; simp at this; omega
  have G1 := getWord_any A n c i l w h hnc (by omega) hc
  cases hw1 : getWAt l i with
  | none =>
    have HE : Hid (frameAt l i = none) := Lib.hid (by unfold frameAt; rw [hw1])
    rw [hw1] at G1
    clear hw1
    have HG1 := Lib.hid G1; clear G1
    have Hhl := Lib.hid hl; clear hl
    have Hh := Lib.hid h; clear h
    go_enter Try.func68, Try.ntmps68
    go_wp2_with fail
    refine (HG1.out).mono ?_; rintro e w1 ⟨rfl, rfl⟩
    simp only [resW]
    go_wp2_with fail
    refine bodyPost_ret (v := .tuple #[.int .u32 0, .string ⟨#[]⟩, .int .i64 0, .bool false]) (by simp [results, Try.results68, go_sem]) rfl ?_
    exact ⟨by rw [HE.out]; rfl, rfl⟩
  | some g =>
    rw [hw1] at G1
    obtain ⟨g1, g2, g3⟩ := getWAt_some.1 hw1
    obtain ⟨b, off, rfl, hb⟩ := h.some_ (k := i) (by omega)
    have G2 := getText_any (some ⟨b, off, none⟩) n c ((i : Int) + 4) n l w h hnc (by omega) hc (by omega) (by omega)
    cases hw2 : getTAt l ((i : Int) + 4) n with
    | none =>
      have HE : Hid (frameAt l i = none) := Lib.hid (by unfold frameAt; rw [hw1]; simp only; rw [hl, hw2])
      rw [hw2] at G2
      clear hw1 hw2
      have HG1 := Lib.hid G1; clear G1
      have HG2 := Lib.hid G2; clear G2
      have Hhl := Lib.hid hl; clear hl
      have Hh := Lib.hid h; clear h
      have Hg3 := Lib.hid g3; clear g3
      go_enter Try.func68, Try.ntmps68
      go_wp2_with fail
      refine (HG1.out).mono ?_; rintro e w1 ⟨rfl, rfl⟩
      simp only [resW]
      go_wp2_with fail
      refine (HG2.out).mono ?_; rintro e w1 ⟨rfl, rfl⟩
      simp only [resT]
      go_wp2_with fail
      refine bodyPost_ret (v := .tuple #[.int .u32 0, .string ⟨#[]⟩, .int .i64 0, .bool false]) (by simp [results, Try.results68, go_sem]) rfl ?_
      exact ⟨by rw [HE.out]; rfl, rfl⟩
    | some q =>
      obtain ⟨s, k⟩ := q
      rw [hw2] at G2
      have hq := hw2
      rw [← hl, show (i : Int) + 4 = ((i + 4 : Nat) : Int) by omega, getTAt_some (by omega)] at hq
      obtain ⟨t1, t2, t3⟩ := hq
      have G3 := getWord_any (some ⟨b, off, none⟩) n c ((i : Int) + 4 + k) l w h hnc (by omega) hc
      have hk : i + 4 + k ≤ n := by omega
      cases hw3 : getWAt l ((i : Int) + 4 + k) with
      | none =>
        have HE : Hid (frameAt l i = none) := Lib.hid (by unfold frameAt; rw [hw1]; simp only; rw [hl, hw2]; simp only; rw [hw3])
        rw [hw3] at G3
        clear hw1 hw2 hw3
        have HG1 := Lib.hid G1; clear G1
        have HG2 := Lib.hid G2; clear G2
        have HG3 := Lib.hid G3; clear G3
        have Hhl := Lib.hid hl; clear hl
        have Hh := Lib.hid h; clear h
        have Hg3 := Lib.hid g3; clear g3
        have Ht2 := Lib.hid t2; clear t2
        have Ht3 := Lib.hid t3; clear t3
        go_enter Try.func68, Try.ntmps68
        go_wp2_with fail
        refine (HG1.out).mono ?_; rintro e w1 ⟨rfl, rfl⟩
        simp only [resW]
        go_wp2_with fail
        refine (HG2.out).mono ?_; rintro e w1 ⟨rfl, rfl⟩
        simp only [resT]
        go_wp2_with fail
        refine (HG3.out).mono ?_; rintro e w1 ⟨rfl, rfl⟩
        simp only [resW]
        go_wp2_with fail
        refine bodyPost_ret (v := .tuple #[.int .u32 0, .string ⟨#[]⟩, .int .i64 0, .bool false]) (by simp [results, Try.results68, go_sem]) rfl ?_
        exact ⟨by rw [HE.out]; rfl, rfl⟩
      | some u =>
        have hF : frameAt l i = if u = sumN ((l.drop i).take (4 + k)) then some (g, s, k + 8) else none := by unfold frameAt; rw [hw1]; simp only; rw [hl, hw2]; simp only; rw [hw3]; simp only [Int.toNat_natCast]
        rw [hw3] at G3
        obtain ⟨u1, u2, u3⟩ := getWAt_some.1 (show getWAt l ((i + 4 + k : Nat) : Int) = some u by rw [← hw3]; congr 1)
        clear hw1 hw2 hw3
        have GS := sum_any (some ⟨b, off + i, none⟩) (4 + k) (c - i) _ _ w (h.mid' (k := i) (u := 4 + k) (by omega)) (by omega)
        by_cases hu : u = sumN ((l.drop i).take (4 + k))
        · rw [if_pos hu] at hF
          rw [← hu] at GS
          clear hu
          have HG1 := Lib.hid G1; clear G1
          have HG2 := Lib.hid G2; clear G2
          have HG3 := Lib.hid G3; clear G3
          have HGS := Lib.hid GS; clear GS
          have Hhl := Lib.hid hl; clear hl
          have Hh := Lib.hid h; clear h
          have Hg3 := Lib.hid g3; clear g3
          have Ht2 := Lib.hid t2; clear t2
          have Ht3 := Lib.hid t3; clear t3
          have Hu3 := Lib.hid u3; clear u3
          have HhF := Lib.hid hF; clear hF
          go_enter Try.func68, Try.ntmps68
          go_wp2_with fail
          refine (HG1.out).mono ?_; rintro e w1 ⟨rfl, rfl⟩
          simp only [resW]
          go_wp2_with fail
          refine (HG2.out).mono ?_; rintro e w1 ⟨rfl, rfl⟩
          simp only [resT]
          go_wp2_with fail
          refine (HG3.out).mono ?_; rintro e w1 ⟨rfl, rfl⟩
          simp only [resW]
          go_wp2_with fail
          rw [show i + 4 + k - i = 4 + k by omega]
          refine (HGS.out).mono ?_; rintro e w1 ⟨rfl, rfl⟩
          go_wp2_with fail
          refine bodyPost_ret (v := .tuple #[.int .u32 g, .string ⟨s.toArray⟩, .int .i64 ((i : Int) + 4 + k + 4), .bool true]) (by simp [results, Try.results68, go_sem]) rfl ?_
          exact ⟨by rw [HhF.out]; simp [resF]; omega, rfl⟩
        · rw [if_neg hu] at hF
          generalize sumN ((l.drop i).take (4 + k)) = v at *
          have hne : ((u : Int) != (v : Int)) = true := by simp; omega
          clear hu
          have HG1 := Lib.hid G1; clear G1
          have HG2 := Lib.hid G2; clear G2
          have HG3 := Lib.hid G3; clear G3
          have HGS := Lib.hid GS; clear GS
          have Hhl := Lib.hid hl; clear hl
          have Hh := Lib.hid h; clear h
          have Hg3 := Lib.hid g3; clear g3
          have Ht2 := Lib.hid t2; clear t2
          have Ht3 := Lib.hid t3; clear t3
          have Hu3 := Lib.hid u3; clear u3
          have HhF := Lib.hid hF; clear hF
          go_enter Try.func68, Try.ntmps68
          go_wp2_with fail
          refine (HG1.out).mono ?_; rintro e w1 ⟨rfl, rfl⟩
          simp only [resW]
          go_wp2_with fail
          refine (HG2.out).mono ?_; rintro e w1 ⟨rfl, rfl⟩
          simp only [resT]
          go_wp2_with fail
          refine (HG3.out).mono ?_; rintro e w1 ⟨rfl, rfl⟩
          simp only [resW]
          go_wp2_with fail
          rw [show i + 4 + k - i = 4 + k by omega]
          refine (HGS.out).mono ?_; rintro e w1 ⟨rfl, rfl⟩
          go_wp2_with fail
          refine bodyPost_ret (v := .tuple #[.int .u32 0, .string ⟨#[]⟩, .int .i64 0, .bool false]) (by simp [results, Try.results68, go_sem]) rfl ?_
          exact ⟨by rw [HhF.out]; rfl, rfl⟩

/-- What ReadImage returns. -/
def RetI (l : List UInt8) (w : World) (e : Ending) (w' : World) : Prop :=
  ∃ A n c, e = .returned (.tuple #[.int .u32 (imG l), .slice A n c, .bool (imageOf l).isSome]) ∧ Rd w' w'.heap.size 1 A n (bv (imS l)) ∧ n ≤ c ∧ Below w.heap.size w w'
set_option maxRecDepth 100000 in
set_option maxHeartbeats 2000000 in
theorem readImage_any (A : Option Addr) (n c : Nat) (l : List UInt8) (w : World) (h : Rd w w.heap.size 1 A n (bv l)) (hnc : n ≤ c) (hn : n ≤ 100000000) (hc : c ≤ 9223372036854775807) :
    Calls Try.prog 35 #[.slice A n c] w (RetI l w) := by
  have hl : l.length = n := by have := h.1; simp at this; omega
  have G := frameAt_any A n c 0 l w h hnc hn hc (Nat.zero_le _)
  cases hf : frameAt l (0 : Nat) with
  | none =>
    have HI : Hid (imageOf l = none) := Lib.hid (by unfold imageOf; rw [hf])
    rw [hf] at G
    have HG := Lib.hid G; clear G
    have Hhl := Lib.hid hl; clear hl
    have Hh := Lib.hid h; clear h
    have Hhf := Lib.hid hf; clear hf
    go_enter Try.func35, Try.ntmps35
    go_wp2_with fail
    refine (HG.out).mono ?_; rintro e w1 ⟨rfl, rfl⟩
    simp only [resF]
    go_wp2_with fail
    go_ret3
    unfold RetI imG imS
    rw [HI.out]
    exact ⟨none, 0, 0, rfl, Rd.nil_, Nat.le_refl _, Below.refl _ _⟩
  | some q =>
    obtain ⟨g, s, k⟩ := q
    have hI : imageOf l = if k = l.length then some (g, s) else none := by unfold imageOf; rw [hf]
    rw [hf] at G
    by_cases hk : k = n
    · rw [if_pos (by omega)] at hI
      subst hk
      have HG := Lib.hid G; clear G
      have Hhl := Lib.hid hl; clear hl
      have Hh := Lib.hid h; clear h
      have Hhf := Lib.hid hf; clear hf
      have HhI := Lib.hid hI; clear hI
      go_enter Try.func35, Try.ntmps35
      go_wp2_with fail
      refine (HG.out).mono ?_; rintro e w1 ⟨rfl, rfl⟩
      simp only [resF]
      go_wp2_with (refine wpList_bytes rfl (.tmp 23) rfl Try.underlying9 Try.underlying31 Try.underlying5 s rfl ?_; intro A3 n3 c3 w3 hn3 hnc3 hr3 hb3)
      go_ret3
      unfold RetI imG imS
      rw [HhI.out]
      exact ⟨A3, n3, c3, rfl, hr3, hnc3, hb3⟩
    · rw [if_neg (by omega)] at hI
      have hne : ((0 : Int) + (k : Int) != (n : Int)) = true := by simp; omega
      have hne' : ((k : Int) != (n : Int)) = true := by simp; omega
      have HG := Lib.hid G; clear G
      have Hhl := Lib.hid hl; clear hl
      have Hh := Lib.hid h; clear h
      have Hhf := Lib.hid hf; clear hf
      have HhI := Lib.hid hI; clear hI
      go_enter Try.func35, Try.ntmps35
      go_wp2_with fail
      refine (HG.out).mono ?_; rintro e w1 ⟨rfl, rfl⟩
      simp only [resF]
      go_wp2_with fail
      go_ret3
      unfold RetI imG imS
      rw [HhI.out]
      exact ⟨none, 0, 0, rfl, Rd.nil_, Nat.le_refl _, Below.refl _ _⟩
end Go.Proofs.Ytkcehoejcklmfaa.L
